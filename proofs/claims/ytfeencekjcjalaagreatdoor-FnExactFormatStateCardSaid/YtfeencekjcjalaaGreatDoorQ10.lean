/- Contracts: valid states of the reference. -/
import Derived.Test.YtfeencekjcjalaaGreatDoorProg
import Derived.Test.YtfeencekjcjalaaGreatDoorQ9
set_option linter.all false
set_option maxHeartbeats 4000000
set_option maxRecDepth 4000
open Bool renaming and_eq_true->cD,eq_iff_iff->ry,false_eq_true->hz,or_eq_true->nL
open Go.Proofs.Tryz renaming prog->ar
open List renaming all_eq_true->jL,cons_append->bX,drop->oB,drop_eq_getElem_cons->mh,getElem?_eq_getElem->cl,getElem?_eq_none->rC,getElem?_eq_some_iff->fy,getElem_of_mem->oC,length_cons->jc,length_drop->sq,map_cons->fA,map_nil->pg,mem_append->kr,mem_cons->gp,mem_filter->nN,mem_map->iL,mem_of_getElem?->eQ,nil_append->b3,pairwise_iff_getElem->qN,take->mH,take_length->p5,take_of_length_le->gC
open List.Pairwise renaming filter->abg
open Nat renaming le_refl->eR,le_trans->jM
open Option renaming getD_none->oD,getD_some->mi,isSome_none->nh,isSome_some->tS
open Option.some renaming inj->fK
open _root_ renaming False->et,Option->aW,UInt8->bV,beq_iff_eq->dS,decide_eq_false->pj,decide_eq_false_iff_not->iq,decide_eq_true->oE,decide_eq_true_eq->e8
namespace Go.Proofs.YtfeencekjcjalaaGreatDoor
section
open Go Go.Pv
def jr:T->List Int->List Int
 | .var n,l=>nx n l
 | .pair a b,l=>jr b (jr a l)
 |_,l=>l
theorem PW:∀(t:T) {l:List Int},u7 l->u7 (jr t l)
 | .var _,_,h=>We h
 | .pair a b,_,h=>PW b (PW a h)
 | .nil,_,h=>h
 | .sym _,_,h=>h
 | .num _,_,h=>h
theorem Ip{m:Int}:∀(t:T) {l:List Int},m∈jr t l↔t.occ m=true\/m∈l
 | .var n,l=>by simp only[jr,Nw,T.occ,dS];constructor<;>rintro(h|h)<;>first|exact .inr h|exact .inl h.symm
 | .pair a b,l=>by
  simp only[jr,Ip b,Ip a,T.occ,nL];constructor
  ·rintro(h|h|h)
   ·exact .inl (.inr h)
   ·exact .inl (.inl h)
   ·exact .inr h
  ·rintro((h|h)|h)
   ·exact .inr (.inl h)
   ·exact .inl h
   ·exact .inr (.inr h)
 | .nil,l=>by simp[jr,T.occ]
 | .sym _,l=>by simp[jr,T.occ]
 | .num _,l=>by simp[jr,T.occ]
theorem FW:∀(t:T) (l:List Int),(jr t l).length<=l.length+t.size
 | .var n,l=>by have:=Wg n l;simp only[jr,T.size];omega
 | .pair a b,l=>by have J:=FW a l;have U:=FW b (jr a l);simp only[jr,T.size];omega
 | .nil,l=>by simp[jr]
 | .sym _,l=>by simp[jr]
 | .num _,l=>by simp[jr]
theorem JK:∀(t:T) (l:List Int),l.length+t.size<=1000000->u7 l->bL ar 119 [t.e,.slice 1 .no (eS l)] (.slice 1 .no (eS (jr t l)))
 | .var n,l,d,c=>by
  simp only[T.size]at d;have key:=aqB l n Ω c;refine bs e7 Tryz.func119 E6 fun e=>?_;unfold AK;simp;(with_reducible repeat' first|refine al ?_|refine aI key ?_|refine aJ key ?_|simp);all_goals simp[bE,aX,a1,aV]
  all_goals simp[jr,Af]
 | .pair a b,l,d,c=>by
  simp only[T.size]at d;have j:=FW a l;have f:=JK a l Ω c;have g:=JK b (jr a l) Ω (PW a c);refine bs e7 Tryz.func119 E6 fun e=>?_;unfold AK;simp;refine eG [15,16] (fun i (_:Unit)=>[(1,.slice 1 .no (eS (if i=0 then l else if i=1 then jr a l else jr b (jr a l)))),(17,.int .i64 i)]) 2 (fun _ _=>True) () b6 trivial (fun _ _ _=>?_) (fun i _ hi _ _=>?_)
  ·simp;(with_reducible repeat' first|refine al ?_|simp);simp[bE,aX,a1,aV];simp[jr,Af]
  ·rcases(by omega:i=0\/i=1)with rfl|rfl
   ·simp;((with_reducible repeat' first|refine al ?_|refine aI f ?_|refine aJ f ?_|simp|((first|apply bQ|apply bT|apply bS)<;>intro h<;>try simp at h))<;>(try exact cv));exact bO.rng () hi trivial b6
   ·simp;((with_reducible repeat' first|refine al ?_|refine aI g ?_|refine aJ g ?_|simp|((first|apply bQ|apply bT|apply bS)<;>intro h<;>try simp at h))<;>(try exact cv));exact bO.rng () hi trivial b6
 | .nil,l,d,c=>by refine bs e7 Tryz.func119 E6 fun e=>?_;unfold AK;simp;refine eG [15,16] (fun i (_:Unit)=>[(1,.slice 1 .no (eS l)),(17,.int .i64 i)]) 0 (fun _ _=>True) () b6 trivial (fun _ _ _=>?_) (fun i _ hi _ _=>Ω);simp;((with_reducible repeat' first|refine al ?_|simp|((first|apply bQ|apply bT|apply bS)<;>intro h<;>try simp at h))<;>(try exact cv));simp[bE,aX,a1,aV];simp[jr,Af]
 | .sym _,l,d,c=>by refine bs e7 Tryz.func119 E6 fun e=>?_;unfold AK;simp;refine eG [15,16] (fun i (_:Unit)=>[(1,.slice 1 .no (eS l)),(17,.int .i64 i)]) 0 (fun _ _=>True) () b6 trivial (fun _ _ _=>?_) (fun i _ hi _ _=>Ω);simp;(with_reducible repeat' first|refine al ?_|simp);simp[bE,aX,a1,aV];simp[jr,Af]
 | .num _,l,d,c=>by refine bs e7 Tryz.func119 E6 fun e=>?_;unfold AK;simp;refine eG [15,16] (fun i (_:Unit)=>[(1,.slice 1 .no (eS l)),(17,.int .i64 i)]) 0 (fun _ _=>True) () b6 trivial (fun _ _ _=>?_) (fun i _ hi _ _=>Ω);simp;(with_reducible repeat' first|refine al ?_|simp);simp[bE,aX,a1,aV];simp[jr,Af]
def ajU(s:List bV)(a b:T)(i:Nat)(_:Unit):Prop:=(1<=i->a.has s=false)/\(2<=i->b.has s=false)
theorem PQ(s:List bV):∀t:T,bL ar 182 [t.e,.str s] (.bool (t.has s))
 | .pair a b=>by
  have e:=PQ s a;have d:=PQ s b;refine bs ng Tryz.func182 E8 fun g=>?_;unfold AM;simp;refine eG [1,2,8,9] (fun i (_:Unit)=>[(10,.int .i64 i)]) 2 (ajU s a b) () b6 ⟨fun h=>Ω,fun h=>Ω⟩ (fun _ c _=>?_) (fun i _ hi c _=>?_)
  ·simp;(with_reducible repeat' first|refine al ?_|simp);simp[bE,aX,a1,aV];simp[T.has,c.1,c.2]
  ·rcases(by omega:i=0\/i=1)with rfl|rfl
   ·cases f:a.has s
    ·rw[f]at e;simp;((with_reducible repeat' first|refine al ?_|refine aI e ?_|refine aJ e ?_|simp|((first|apply bQ|apply bT|apply bS)<;>intro h<;>try simp at h))<;>(try exact cv));exact bO.rng () hi ⟨fun _=>f,fun h=>Ω⟩ b6
    ·rw[f]at e;simp;((with_reducible repeat' first|refine al ?_|refine aI e ?_|refine aJ e ?_|simp|((first|apply bQ|apply bT|apply bS)<;>intro h<;>try simp at h))<;>(try exact cv));simp[bE,aX,a1,aV];simp[T.has,f]
   ·cases ae:b.has s
    ·rw[ae]at d;simp;((with_reducible repeat' first|refine al ?_|refine aI d ?_|refine aJ d ?_|simp|((first|apply bQ|apply bT|apply bS)<;>intro h<;>try simp at h))<;>(try exact cv));exact bO.rng () hi ⟨fun _=>c.1 Ω,fun _=>ae⟩ b6
    ·rw[ae]at d;simp;((with_reducible repeat' first|refine al ?_|refine aI d ?_|refine aJ d ?_|simp|((first|apply bQ|apply bT|apply bS)<;>intro h<;>try simp at h))<;>(try exact cv));simp[bE,aX,a1,aV];simp[T.has,ae]
 | .sym n=>by
  refine bs ng Tryz.func182 E8 fun g=>?_;unfold AM;simp;refine eG [1,2,8,9] (fun i (_:Unit)=>[(10,.int .i64 i)]) 0 (fun i _=>True) () b6 trivial (fun _ c _=>?_) (fun i _ hi c _=>Ω);simp;(with_reducible repeat' first|refine al ?_|simp);all_goals simp[bE,aX,a1,aV]
  all_goals simp[T.has]
 | .num n=>by
  refine bs ng Tryz.func182 E8 fun g=>?_;unfold AM;simp;refine eG [1,2,8,9] (fun i (_:Unit)=>[(10,.int .i64 i)]) 0 (fun i _=>True) () b6 trivial (fun _ c _=>?_) (fun i _ hi c _=>Ω);simp;(with_reducible repeat' first|refine al ?_|simp);all_goals simp[bE,aX,a1,aV]
  all_goals simp[T.has]
 | .var n=>by
  refine bs ng Tryz.func182 E8 fun g=>?_;unfold AM;simp;refine eG [1,2,8,9] (fun i (_:Unit)=>[(10,.int .i64 i)]) 0 (fun i _=>True) () b6 trivial (fun _ c _=>?_) (fun i _ hi c _=>Ω);simp;(with_reducible repeat' first|refine al ?_|simp);all_goals simp[bE,aX,a1,aV]
  all_goals simp[T.has]
 | .nil=>by
  refine bs ng Tryz.func182 E8 fun g=>?_;unfold AM;simp;refine eG [1,2,8,9] (fun i (_:Unit)=>[(10,.int .i64 i)]) 0 (fun i _=>True) () b6 trivial (fun _ c _=>?_) (fun i _ hi c _=>Ω);simp;(with_reducible repeat' first|refine al ?_|simp);all_goals simp[bE,aX,a1,aV]
  all_goals simp[T.has]
def pT(l:List bN)(o:aW (List bN)):ah:= .tuple [.slice 2 .no ((o.getD l).map bN.e),.bool o.isSome]
@[simp]theorem auk(S:aB->Prop)(l:List bN)(o:aW (List bN)):av S (pT l o)=True:=by simp[pT]
def xD(l:List bN)(n:Int)(i:Nat):Prop:=i<=l.length/\∀j y,j<i->l[j]? =some y->y.v<n
theorem xD.none{l:List bN}{n:Int}{i:Nat}(h:xD l n i)(d:l.Pairwise fun x y=>x.v<y.v)(ax:∀c,l[i]? =some c->n<c.v):l7 l n=none:=zy.2 fun x f=>by
 obtain⟨j,b,rfl⟩:=oC f;have e:=cl b;rcases Nat.lt_or_ge j i with J|J
 ·have:=h.2 j _ J e;omega
 ·have a:i<l.length:=Ω
  have g:=cl a;have k:=ax _ g;rcases Nat.lt_or_ge i j with U|U
  ·have:=qN.1 d i j a b U;omega
  ·obtain rfl:i=j:=Ω
   omega
theorem xD.ins{l:List bN}{n k:Int}{i:Nat}(h:xD l n i)(ax:∀c,l[i]? =some c->n<c.v):mA ⟨n,k⟩ l=l.take i++⟨n,k⟩::l.drop i:=Wh ⟨n,k⟩ l i (fun j y J U=>h.2 j y J U) (fun y a=>by have:=ax y a;simp;omega) h.1
theorem xD.step{l:List bN}{n:Int}{i:Nat}{b:bN}(h:xD l n i)(ae:l[i]? =some b)(a:b.v<n):xD l n (i+1):=⟨(fy.1 ae).1,fun j y J U=>by
 rcases(by omega:j<i\/j=i)with c|rfl
 ·exact h.2 j y c U
 ·rw[ae]at U;cases U;exact a⟩
theorem aqQ(l:List bN)(r:l.length<=1000000)(f:l.Pairwise fun x y=>x.v<y.v)(n k:Int):bL ar 125 [.slice 2 .no (l.map bN.e),(T.var n).e,.int .i64 k] (pT l (la l (.var n) k)):=by
 generalize m:la l (.var n) k=O;have a:(match l7 l n with|some p=>if p=k then some l else none|none=>some (mA ⟨n,k⟩ l))=O:=by rw[<-m];rfl
 clear m;refine bs ng Tryz.func125 E9 fun t=>?_;unfold AN;simp;refine w7 [0,2,4] (fun(i:Nat)=>[(8,.int .i64 i)]) (fun i=>l.length-i) (xD l n) 0 b6 ⟨Ω,fun j y h=>Ω⟩ (fun i d _=>?_);have s:=d.1;by_cases hi:i<l.length
 ·obtain⟨b,ae,g⟩:=ev hi;rcases Int.lt_trichotomy b.v n with h|h|h
  ·have q:=d.step ae h;clear a d ae f;simp[hi,g,h];((with_reducible repeat' first|refine al ?_|simp[hi,g,h]|((first|apply bQ|apply bT|apply bS)<;>intro h<;>try simp at h))<;>(try exact cv));exact bO.whl (i+1) Ω q b6
  ·have aY:l7 l n=some b.k:=by rw[<-h];exact H6 f (eQ ae)
   have J:¬b.v<n:=Ω
   have U:(b.v==n)=true:=by simp[h]
   rw[aY]at a;simp only at a;subst a;clear d ae f aY;simp[hi,g,J,U];(with_reducible repeat' first|refine al ?_|simp[hi,g,J,U]);all_goals simp[bE,aX,a1,aV]
   all_goals(by_cases e:b.k=k<;>simp[pT,e])
  ·have J:¬b.v<n:=Ω
   have U:(b.v==n)=false:=by simp;omega
   have ax:∀c,l[i]? =some c->n<c.v:=fun c ax=>by rw[ae]at ax;cases ax;exact h
   rw[d.none f ax]at a;simp only[d.ins ax]at a;subst a;clear d ae f ax;simp[hi,g,J,U];(with_reducible repeat' first|refine al ?_|simp[hi,g,J,U]);all_goals simp[bE,aX,a1,aV]
   all_goals simp[pT]
   rw[gC (by simp:(l.map bN.e).length<=l.length),<-List.map_take,<-List.map_drop,<-fA,<-List.map_append];exact Po _
 ·have ax:∀c,l[i]? =some c->n<c.v:=fun c ax=>by rw[rC Ω]at ax;cases ax
  rw[d.none f ax]at a;simp only[d.ins ax]at a;have o:i=l.length:=Ω
  clear d f ax;subst a;subst o;simp;(with_reducible repeat' first|refine al ?_|simp);all_goals simp[bE,aX,a1,aV]
  all_goals simp[pT]
  rw[gC (by simp:(l.map bN.e).length<=l.length),show [(⟨n,k⟩:bN).e]=[(⟨n,k⟩:bN)].map bN.e from rfl,<-List.map_append];exact Po _
theorem aaN(l:List bN)(f:l.length<=1000000)(d:l.Pairwise fun x y=>x.v<y.v)(t:T)(k:Int):bL ar 125 [.slice 2 .no (l.map bN.e),t.e,.int .i64 k] (pT l (la l t k)):=by
 cases t with
 |var n=>exact aqQ l f d n k
 |nil=>
  refine bs ng Tryz.func125 E9 fun c=>?_;unfold AN;simp;(with_reducible repeat' first|refine al ?_|simp);all_goals simp[bE,aX,a1,aV]
  all_goals(by_cases e:0=k<;>simp[pT,la,e])
 |sym n=>
  refine bs ng Tryz.func125 E9 fun c=>?_;unfold AN;simp;(with_reducible repeat' first|refine al ?_|simp);all_goals simp[bE,aX,a1,aV]
  all_goals(by_cases e:2=k<;>simp[pT,la,e])
 |num n=>
  refine bs ng Tryz.func125 E9 fun c=>?_;unfold AN;simp;(with_reducible repeat' first|refine al ?_|simp);all_goals simp[bE,aX,a1,aV]
  all_goals(by_cases e:3=k<;>simp[pT,la,e])
 |pair a b=>
  refine bs ng Tryz.func125 E9 fun c=>?_;unfold AN;simp;(with_reducible repeat' first|refine al ?_|simp);all_goals simp[bE,aX,a1,aV]
  all_goals(by_cases e:4=k<;>simp[pT,la,e])
theorem aa3(s:List au)(v:Int):hL s (.var v)=cI s v:=rfl
theorem PR{s:List au}(m:eJ s){l:List bN}(k:jl l):bL ar 123 [.slice 5 .no (s.map au.e),.slice 2 .no (l.map bN.e)] (gv (gA s l [])):=by
 have n:=xE k;refine bs ng Tryz.func123 anc fun o=>?_;unfold S2;simp;refine eG [0,11,12] (fun i (a:List bN)=>[(6,.slice 2 .no (a.map bN.e)),(13,.int .i64 i)]) l.length (Wl s l) [] b6 ⟨⟨Ψ,Ψ⟩,rfl⟩ (fun a c _=>?_) (fun i a hi c _=>?_)
 ·obtain⟨_,c⟩:=c;rw[List.drop_length]at c;simp only[gA]at c;rw[<-c];simp;(with_reducible repeat' first|refine al ?_|simp);simp[bE,aX,a1,aV];simp[gv]
 ·obtain⟨h,c⟩:=c;obtain⟨b,ae,f⟩:=ev hi;have j:=k.at' b (eQ ae);rw[mh hi,f]at c;simp only[gA]at c;have e:=JL s m.len (.var b.v);rw[aa3]at e;have d:=aaN a (by have:=xE h;omega) h.asc (cI s b.v) b.k;simp[hi,f];cases g:la a (cI s b.v) b.k with
  |none=>rw[g]at c d;simp only at c;rw[<-c];simp only[pT]at d;(with_reducible repeat' first|refine al ?_|refine aI (k4 _) ?_|refine aJ (k4 _) ?_|refine aI e ?_|refine aJ e ?_|refine aI d ?_|refine aJ d ?_|simp[f,hi]);simp[bE,aX,a1,aV];simp[gv]
  |some bo=>rw[g]at c d;simp only[pT]at d;(with_reducible repeat' first|refine al ?_|refine aI (k4 _) ?_|refine aJ (k4 _) ?_|refine aI e ?_|refine aJ e ?_|refine aI d ?_|refine aJ d ?_|simp[f,hi]);exact bO.rng bo hi ⟨Ka h (Cx m j.1) j.2 g,c⟩ b6
open Classical in
theorem aq0(l:List bk):bL ar 73 [.slice 2 .no (l.map bk.e)] (.bool (decide (iX l))):=by
 generalize bq:decide (iX l)=R;refine bs ng Tryz.func73 amQ fun x=>?_;unfold SD;have z:l.length<=68719476736:=by simp[e1,eK,eV,lim]at x;omega
 simp;refine eG [0,5,6] (fun i (_:Unit)=>[(7,.int .i64 i)]) l.length (fun i _=> ∀j,j<i->iP k0 lz l j) () b6 (fun k B=>Ω) (fun _ r _=>?_) (fun i _ hi r _=>?_)
 ·have:R=true:=by rw[<-bq,e8,Ik];exact r
  rw[this];exact cn
 ·obtain⟨b,ae⟩:∃b,l[i]? =some b:=⟨_,cl hi⟩;obtain⟨c,ax⟩:∃c,l[i-1]? =some c:=⟨_,cl Ω⟩;have d:∀h,(l[i]'h)=b:=fun h=>by rw[cl hi]at ae;exact fK ae
  have u:¬iP k0 lz l i->R=false:=fun h=>by rw[<-bq,iq];exact fun v=>h (Ik.1 v i hi)
  have dr:iP k0 lz l i->∀j,j<i+1->iP k0 lz l j:=fun h j y=>by
   by_cases e:j=i
   ·rw[e];exact h
   ·exact r j Ω
  have m:∀p:Prop,(p->et)->(iP k0 lz l i->p)->R=false:=fun p J U=>u fun h=>J (U h);have g:iP k0 lz l i->k0 b:=fun h=>(h b ae).1;have w:iP k0 lz l i->0<i->ij fJ c b=true:=fun h q=>by simpa[ij,lz]using(h b ae).2 c q ax
  have n:k0 b->(0<i->ij fJ c b=true)->iP k0 lz l i:=fun J U cb t=>by rw[ae]at t;cases t;exact⟨J,fun A q s=>by rw[ax]at s;cases s;simpa[ij,lz]using U q⟩
  unfold k0 at g n;by_cases g4:0<i
  ·cases g5:ij fJ c b
   ·rw[m _ (fun h=>by rw[h]at g5;cases g5) (fun h=>w h g4)];simp[hi,d,ax];(with_reducible repeat' first|refine al ?_|refine aI (mG _ _) ?_|refine aJ (mG _ _) ?_|simp[d,ax,hi,g4,g5]);all_goals simp[bE,aX,a1,aV]
   ·by_cases g1:0<=b.v/\b.v<=100000;rotate_left
    ·rw[m _ (fun h=>g1 h) (fun h=>(g h).1)];have f:decide (0<=b.v/\b.v<=100000)=false:=by simp only[iq];exact g1
     simp[hi,d,ax];(with_reducible repeat' first|refine al ?_|refine aI (mG _ _) ?_|refine aJ (mG _ _) ?_|refine aI (dL _ _ _) ?_|refine aJ (dL _ _ _) ?_|simp[d,ax,hi,g4,g5,f,g1]);all_goals simp[bE,aX,a1,aV]
    have f:decide (0<=b.v/\b.v<=100000)=true:=by simp only[e8];exact g1
    cases g3:iW b.s
    ·rw[m _ (fun h=>by rw[h]at g3;cases g3) (fun h=>(g h).2)];have a:=hx b.s;rw[g3]at a;simp[hi,d,ax];(with_reducible repeat' first|refine al ?_|refine aI (mG _ _) ?_|refine aJ (mG _ _) ?_|refine aI (dL _ _ _) ?_|refine aJ (dL _ _ _) ?_|refine aI a ?_|refine aJ a ?_|simp[d,ax,hi,g4,g5,f,g1]);all_goals simp[bE,aX,a1,aV]
    have a:=hx b.s;rw[g3]at a;have o:=dr (n ⟨g1,g3⟩ fun _=>g5);simp[hi,d,ax];(with_reducible repeat' first|refine al ?_|refine aI (mG _ _) ?_|refine aJ (mG _ _) ?_|refine aI (dL _ _ _) ?_|refine aJ (dL _ _ _) ?_|refine aI a ?_|refine aJ a ?_|simp[d,ax,hi,g4,g5,f,g1]);all_goals exact bO.rng () hi o b6
  ·obtain rfl:i=0:=Ω
   by_cases g1:0<=b.v/\b.v<=100000;rotate_left
   ·rw[m _ (fun h=>g1 h) (fun h=>(g h).1)];have f:decide (0<=b.v/\b.v<=100000)=false:=by simp only[iq];exact g1
    simp[hi,d,ax];(with_reducible repeat' first|refine al ?_|refine aI (mG _ _) ?_|refine aJ (mG _ _) ?_|refine aI (dL _ _ _) ?_|refine aJ (dL _ _ _) ?_|simp[d,ax,hi,g4,f,g1]);all_goals simp[bE,aX,a1,aV]
   have f:decide (0<=b.v/\b.v<=100000)=true:=by simp only[e8];exact g1
   cases g3:iW b.s
   ·rw[m _ (fun h=>by rw[h]at g3;cases g3) (fun h=>(g h).2)];have a:=hx b.s;rw[g3]at a;simp[hi,d,ax];(with_reducible repeat' first|refine al ?_|refine aI (mG _ _) ?_|refine aJ (mG _ _) ?_|refine aI (dL _ _ _) ?_|refine aJ (dL _ _ _) ?_|refine aI a ?_|refine aJ a ?_|simp[d,ax,hi,g4,f,g1]);all_goals simp[bE,aX,a1,aV]
   have a:=hx b.s;rw[g3]at a;have o:=dr (n ⟨g1,g3⟩ fun h=>absurd h g4);simp[hi,d,ax];(with_reducible repeat' first|refine al ?_|refine aI (mG _ _) ?_|refine aJ (mG _ _) ?_|refine aI (dL _ _ _) ?_|refine aJ (dL _ _ _) ?_|refine aI a ?_|refine aJ a ?_|simp[d,ax,hi,g4,f,g1]);all_goals exact bO.rng () hi o b6
def qm(s:List bV)(ba:List Int)(l:List bk):List bk:=ba.foldl (fun a v=>kY fJ ⟨v,s⟩ a) l
theorem Lt(s:List bV):∀(ba:List Int) {l:List bk},ir fJ l->ir fJ (qm s ba l)
 |[],_,h=>h
 |v::ba,_,h=>Lt s ba (MK mD h)
theorem Xu(s:List bV){x:bk}:∀(ba:List Int) {l:List bk},x∈qm s ba l↔x∈l\/(x.s=s/\x.v∈ba)
 |[],l=>by simp[qm]
 |v::ba,l=>by
  have:=Xu s (x:=x) ba (l:=kY fJ ⟨v,s⟩ l);rw[show qm s (v::ba) l=qm s ba (kY fJ ⟨v,s⟩ l)from rfl,this,Im mD,gp];constructor
  ·rintro((rfl|h)|⟨J,U⟩)
   ·exact .inr ⟨rfl,.inl rfl⟩
   ·exact .inl h
   ·exact .inr ⟨J,.inr U⟩
  ·rintro(h|⟨J,U|U⟩)
   ·exact .inl (.inr h)
   ·refine .inl (.inl ?_);cases x;simp_all
   ·exact .inr ⟨J,U⟩
theorem Um(s:List bV):∀(ba:List Int) (l:List bk),(qm s ba l).length<=l.length+ba.length
 |[],l=>by simp[qm]
 |v::ba,l=>by have J:=Um s ba (kY fJ ⟨v,s⟩ l);have U:=MM (c:=fJ) (⟨v,s⟩:bk) l;rw[show qm s (v::ba) l=qm s ba (kY fJ ⟨v,s⟩ l)from rfl];simp only[jc];omega
theorem agL{t:T}{s:List bV}(a:t.has s=false){l:List bk}(b:ir fJ l):mK l t s=some (qm s (jr t []) l):=Kb a (Lt s _ b) fun x=>by rw[Xu,Ip];simp
def EF(l:List bk)(ba:List Int)(s:List bV)(i:Nat)(a:List bk):Prop:=a=qm s (ba.take i) l
def BG(a:List bk)(m:bk)(k:Nat):Prop:=k<=a.length/\∀j y,j<k->a[j]? =some y->fJ y m<0
theorem BG.step{a:List bk}{m:bk}{k:Nat}{b:bk}(h:BG a m k)(ae:a[k]? =some b)(c:fJ b m<0):BG a m (k+1):=⟨(fy.1 ae).1,fun j y J U=>by
 rcases(by omega:j<k\/j=k)with d|rfl
 ·exact h.2 j y d U
 ·rw[ae]at U;cases U;exact c⟩
theorem BG.fin{a:List bk}{m:bk}{k:Nat}(h:BG a m k)(ax:∀y,a[k]? =some y->0<=fJ y m):kY fJ m a=if(match a[k]? with|some y=>decide (fJ y m=0)|none=>false)=true then a else a.take k++m::a.drop k:=(ML mD m a k (fun j y J U=>h.2 j y J U) ax h.1).trans (by cases a[k]?<;>rfl)
theorem XF(a:List bk)(k:Nat)(m:bk):mH k (a.map bk.e)++m.e::oB k (a.map bk.e)=(a.take k++m::a.drop k).map bk.e:=Ψ
theorem BZ(a:List bk)(k:Nat)(m:bk):cK (mH k (a.map bk.e)++m.e::oB k (a.map bk.e))=mH k (a.map bk.e)++m.e::oB k (a.map bk.e):=by rw[XF,Pp]
theorem BY(S:aB->Prop)(a:List bk)(k:Nat)(m:bk):aA S (mH k (a.map bk.e)++m.e::oB k (a.map bk.e))=True:=by rw[XF,WX]
theorem XE(a:List bk)(m:bk):a.map bk.e++[m.e]=(a++[m]).map bk.e:=Ψ
theorem BX(a:List bk)(m:bk):cK (a.map bk.e++[m.e])=a.map bk.e++[m.e]:=by rw[XE,Pp]
theorem BW(S:aB->Prop)(a:List bk)(m:bk):aA S (a.map bk.e++[m.e])=True:=by rw[XE,WX]
theorem aqR(l:List bk)(U:l.length<=68719470000)(t:T)(aM:t.size<=5000)(s:List bV)(G:ir fJ l):bL ar 162 [.slice 2 .no (l.map bk.e),t.e,.str s] (jW (mK l t s)):=by
 have g:=PQ s t;cases o:t.has s;rotate_left
 ·have p:mK l t s=none:=by simp[mK,o]
  rw[p];rw[o]at g;refine bs ng Tryz.func162 Yb fun Q=>?_;unfold KM;simp;(with_reducible repeat' first|refine al ?_|refine aI g ?_|refine aJ g ?_|simp);all_goals simp[bE,aX,a1,aV]
  all_goals simp[jW]
 ·rw[o]at g;have E:=agL o G;have B:=FW t [];have u:=JK t [] d7 (by simp[u7]);have R:eS []=[]:=rfl;rw[R]at u;rw[E];clear E o;generalize jr t []=ba at u B⊢;have S:ba.length<=5000:=by simp at B;omega
  generalize D:qm s ba l=F;refine bs ng Tryz.func162 Yb fun Q=>?_;unfold KM;simp;(with_reducible repeat' first|refine al ?_|refine aI g ?_|refine aJ g ?_|refine aI u ?_|refine aJ u ?_|simp[ft]);refine eG [2,17,18] (fun i (a:List bk)=>[(0,.slice 2 .no (a.map bk.e)),(19,.int .i64 i)]) ba.length (EF l ba s) l ⟨by simp[fresh,aA,av,b0,inObs,Pv.look,ft],dN gt,dP g8,Ψ⟩ (by simp[EF,qm]) (fun a c _=>?_) (fun i a hi c _=>?_)
  ·rw[EF,p5,D]at c;subst c;simp[ft];(with_reducible repeat' first|refine al ?_|simp[ft]);all_goals simp[bE,aX,a1,aV]
   all_goals simp[jW]
  ·obtain⟨v,H⟩:∃v,ba[i]? =some v:=⟨_,cl hi⟩;have A:∀h,((eS ba)[i]'h)= .int .i64 v:=fun O=>by have:=EC ba i;rw[H,cl O]at this;exact fK this
   have w:ir fJ a:=by rw[c];exact Lt s _ G
   have M:a.length<=68719475000:=by have:=Um s (ba.take i) l;rw[c];simp at this⊢;omega
   have e:EF l ba s (i+1) (kY fJ ⟨v,s⟩ a):=by rw[EF,List.take_succ,H,c];simp[qm]
   generalize hm:(⟨v,s⟩:bk)=m at e;have z:m.v=v:=by rw[<-hm]
   have K:m.s=s:=by rw[<-hm]
   subst z;subst K;clear c D;simp[hi,A,ft];(with_reducible repeat' first|refine al ?_|simp[hi,A,ft]);refine w7 [0,2,10,17,18,19] (fun(k:Nat)=>[(11,.int .i64 k)]) (fun k=>a.length-k) (BG a m) 0 ⟨by simp[fresh,aA,av,b0,inObs,Pv.look,ft],dN gt,dP g8,Ψ⟩ ⟨Ω,fun j y h=>Ω⟩ (fun k c _=>?_);have V:=c.1;by_cases f:k<a.length
   ·obtain⟨b,ae,n⟩:=ev f;cases q:ij fJ b m
    ·have L:0<=fJ b m:=by simpa[ij]using q
     have d:=c.fin (fun y r=>by rw[ae]at r;cases r;exact L);rw[ae]at d;cases x:ij fJ m b
     ·have hle:0<=fJ m b:=by simpa[ij]using x
      have p:fJ b m=0:=by have:=mD.neg b m;omega
      rw[if_pos (by simp[p])]at d;rw[d]at e;clear c ae d M w;simp[f,n];((with_reducible repeat' first|refine al ?_|refine aI (mG _ _) ?_|refine aJ (mG _ _) ?_|simp[f,n,q,x]|((first|apply bQ|apply bT|apply bS)<;>intro h<;>try simp at h))<;>(try exact cv));all_goals exact bO.rng a hi e ⟨by simp[fresh,aA,av,b0,inObs,Pv.look,ft],dN gt,dP g8,Ψ⟩
     ·have hle:fJ m b<0:=by simpa[ij]using x
      have p:¬fJ b m=0:=by have:=mD.neg b m;omega
      rw[if_neg (by simp[p])]at d;rw[d]at e;clear c ae d w;simp[f,n];((with_reducible repeat' first|refine al ?_|refine aI (mG _ _) ?_|refine aJ (mG _ _) ?_|simp[f,n,q,x]|((first|apply bQ|apply bT|apply bS)<;>intro h<;>try simp at h))<;>(try exact cv));all_goals first|(refine⟨by unfold lim;omega,?_⟩)|skip
      all_goals(with_reducible repeat' first|refine al ?_|simp)
      all_goals first|(refine⟨by unfold lim;omega,?_⟩)|skip
      all_goals((with_reducible repeat' first|refine al ?_|simp|((first|apply bQ|apply bT|apply bS)<;>intro h<;>try simp at h))<;>(try exact cv))
      all_goals exact bO.rng _ hi e ⟨by simp[fresh,aA,av,b0,inObs,Pv.look,ft,gC,BZ,BY,BX,BW],dN (by simp[fresh,aA,av,b0,inObs,Pv.look,ft,gC,BZ,BY,BX,BW]),dP (by simp[fresh,aA,av,dH,inObs,Pv.look,ft,gC,BZ,BY,BX,BW]),Ψ⟩
    ·have J:fJ b m<0:=by simpa[ij]using q
     have P:=c.step ae J;clear c ae w e;simp[f,n];((with_reducible repeat' first|refine al ?_|refine aI (mG _ _) ?_|refine aJ (mG _ _) ?_|simp[f,n,q]|((first|apply bQ|apply bT|apply bS)<;>intro h<;>try simp at h))<;>(try exact cv));all_goals exact bO.whl (k+1) Ω P ⟨by simp[fresh,aA,av,b0,inObs,Pv.look,ft],dN gt,dP g8,Ψ⟩
   ·have d:=c.fin (fun y r=>by rw[rC Ω]at r;cases r);rw[rC Ω]at d;simp only[hz,if_false]at d;rw[d]at e;have N:k=a.length:=Ω
    clear c d w;subst N;simp;(with_reducible repeat' first|refine al ?_|simp);all_goals first|(refine⟨by unfold lim;omega,?_⟩)|skip
    all_goals(with_reducible repeat' first|refine al ?_|simp)
    all_goals first|(refine⟨by unfold lim;omega,?_⟩)|skip
    all_goals(with_reducible repeat' first|refine al ?_|simp)
    all_goals exact bO.rng _ hi e ⟨by simp[fresh,aA,av,b0,inObs,Pv.look,ft,gC,BZ,BY,BX,BW],dN (by simp[fresh,aA,av,b0,inObs,Pv.look,ft,gC,BZ,BY,BX,BW]),dP (by simp[fresh,aA,av,dH,inObs,Pv.look,ft,gC,BZ,BY,BX,BW]),Ψ⟩
theorem PS{s:List au}(j:eJ s){l:List bk}(m:iX l){G:List (List bV)}(r:G.length<=687000)(aY:o8 G l):bL ar 124 [.slice 5 .no (s.map au.e),.slice 2 .no (l.map bk.e)] (jW (gB s l [])):=by
 have hlen:∀{a:List bk},iX a->o8 G a->a.length<=68719470000:=fun J U=>by have:=ES J U;omega
 have q:=hlen m aY;refine bs ng Tryz.func124 ane fun t=>?_;unfold S3;simp;refine eG [0,11,12] (fun i (a:List bk)=>[(6,.slice 2 .no (a.map bk.e)),(13,.int .i64 i)]) l.length (Wm s G l) [] b6 ⟨⟨Ψ,by simp[ir]⟩,fun x o=>by simp at o,rfl⟩ (fun a c _=>?_) (fun i a hi c _=>?_)
 ·obtain⟨_,_,c⟩:=c;rw[List.drop_length]at c;simp only[gB]at c;rw[<-c];simp;(with_reducible repeat' first|refine al ?_|simp);simp[bE,aX,a1,aV];simp[jW]
 ·obtain⟨h,n,c⟩:=c;obtain⟨b,ae,g⟩:=ev hi;have k:=m.at' b (eQ ae);have p:=aY b (eQ ae);rw[mh hi,g]at c;simp only[gB]at c;have e:=JL s j.len (.var b.v);rw[aa3]at e;have d:=aqR a (hlen h n) (cI s b.v) (FD j b.v) b.s h.asc;simp[hi,g];cases f:mK a (cI s b.v) b.s with
  |none=>rw[f]at c d;simp only at c;rw[<-c];simp only[jW]at d;(with_reducible repeat' first|refine al ?_|refine aI (k4 _) ?_|refine aJ (k4 _) ?_|refine aI e ?_|refine aJ e ?_|refine aI d ?_|refine aJ d ?_|simp[g,hi]);simp[bE,aX,a1,aV];simp[jW]
  |some bo=>rw[f]at c d;simp only[jW]at d;(with_reducible repeat' first|refine al ?_|refine aI (k4 _) ?_|refine aJ (k4 _) ?_|refine aI e ?_|refine aJ e ?_|refine aI d ?_|refine aJ d ?_|simp[g,hi]);exact bO.rng bo hi ⟨Kc h (Cx j k.1) k.2 f,Kd n p f,c⟩ b6
theorem apM{s:List au}(ak:rj s)(b:iM s)(c:hZ s):hf (s.map au.b)=s.all (nl s):=by
 rw[ry,jL,si,<-ZM b];constructor
 ·rintro⟨d,J,U,a,e⟩;rw[wU J];exact a
 ·intro a;exact⟨s,rfl,ak,a,c⟩
theorem ab5{s:List au}(a:iM s)(b:au):nl s b=true↔(∀v∈jr b.t [],dx s v=none)/\(b.t.kind==1&&decide (b.v<=b.t.int))=false:=by unfold nl;rw[cD,Un a];simp only[true_and,Bool.not_eq_true',Ip,List.not_mem_nil,or_false]
def EE(s:List au)(ba:List Int)(i:Nat)(_:Unit):Prop:= ∀v∈ba.take i,dx s v=none
theorem EE.step{s:List au}{ba:List Int}{i:Nat}(h:EE s ba i ()){v:Int}(b:ba[i]? =some v)(a:dx s v=none):EE s ba (i+1) ():=fun w hw=>by
 rw[List.take_succ,b]at hw;simp only[kr,Option.toList_some,List.mem_singleton]at hw;rcases hw with hw|rfl
 ·exact h w hw
 ·exact a
theorem PU(l:List dj):bL ar 70 [.slice 5 .no (l.map dj.e)] (.bool (hf l)):=by
 have a:=aqG l;by_cases h:Az l;rotate_left
 ·have F:hf l=false:=by unfold hf;simp only[iq];rintro⟨s,J,U,G,K⟩;exact h (JQ.2 ⟨s,J,U,G.asc,K⟩)
  rw[F];refine bs e7 Tryz.func70 Ya fun H=>?_;unfold KL;exact cn
 ·obtain⟨s,rfl,ak,D,A⟩:=JQ.1 h;have E:s.length<=1000000:=by have:=A.1;omega
  rw[apM ak D A];rw[zF]at a⊢;simp only[h,decide_true]at a;clear h;generalize bq:s.all (nl s)=R;refine bs e7 Tryz.func70 Ya fun H=>?_;unfold KL;simp;(with_reducible repeat' first|refine al ?_|refine aI a ?_|refine aJ a ?_|simp);refine eG [0,12,13] (fun i (_:Unit)=>[(14,.int .i64 i)]) s.length (th (nl s) s) () b6 (fun k b m=>Ω) (fun _ d _=>?_) (fun i _ hi d _=>?_)
  ·have:R=true:=by rw[<-bq,jL];intro b ae;obtain⟨k,m,e⟩:=oC ae;exact d k b m (by rw[cl m,e])
   rw[this];exact cn
  ·obtain⟨b,ae,y⟩:=ev hi;have n:¬nl s b=true->R=false:=fun h=>by rw[<-bq,Bool.eq_false_iff];intro r;rw[jL]at r;exact h (r b (eQ ae))
   have o:nl s b=true->th (nl s) s (i+1) ():=fun h=>d.step ae h;have u:=ab5 D b;have N:=A.2 b (eQ ae);have w:=FW b.t [];have q:=JK b.t [] d7 (by simp[u7]);have L:eS []=[]:=rfl;rw[L]at q;generalize jr b.t []=ba at q w u;have M:ba.length<=5000:=by simp at w;omega
   rw[u]at n o;clear u d w ae;simp[hi,y];cases m:(b.t.kind==1&&decide (b.v<=b.t.int));rotate_left
   ·rw[n (by rw[m];simp)];rw[cD]at m;have t:=m.1;have B:b.v<=b.t.int:=of_decide_eq_true m.2;exact cn
   ·rw[m]at n o;simp only[and_true]at n o;cases t:(b.t.kind==1)
    ·clear m;(with_reducible repeat' first|refine al ?_|refine aI q ?_|refine aJ q ?_|simp[y,hi,ft,t]);refine eG [0,12,13,14,32,33] (fun j (_:Unit)=>[(34,.int .i64 j)]) ba.length (EE s ba) () ⟨by simp[fresh,aA,av,b0,inObs,Pv.look,ft],dN gt,dP g8,Ψ⟩ (fun v a=>by simp at a) (fun _ d _=>?_) (fun j _ g d _=>?_)
     ·have aY:=o (fun v a=>d v (by rwa[p5]));simp[ft];(with_reducible repeat' first|refine al ?_|simp[ft]);exact bO.rng () hi aY ⟨by simp[fresh,aA,av,b0,inObs,Pv.look,ft],dN gt,dP g8,Ψ⟩
     ·obtain⟨v,a⟩:∃v,ba[j]? =some v:=⟨_,cl g⟩;have p:∀h,((eS ba)[j]'h)= .int .i64 v:=fun r=>by have:=EC ba j;rw[a,cl r]at this;exact fK this
      have c:=wM s v E;cases f:dx s v with
      |none=>have z:=d.step a f;rw[f]at c;simp only[oD,nh]at c;clear d o n f;simp[g,p,ft];(with_reducible repeat' first|refine al ?_|refine aI c ?_|refine aJ c ?_|simp[g,p,ft]);exact bO.rng () g z ⟨by simp[fresh,aA,av,b0,inObs,Pv.look,ft],dN gt,dP g8,Ψ⟩
      |some x=>rw[n (fun h=>by have:=h v (eQ a);rw[f]at this;cases this)];rw[f]at c;simp only[mi,tS]at c;clear d o n f;simp[g,p,ft];(with_reducible repeat' first|refine al ?_|refine aI c ?_|refine aJ c ?_|simp[g,p,ft]);simp[bE,aX,a1,aV]
    ·have B:¬b.v<=b.t.int:=by rw[t]at m;simpa using m
     clear m;(with_reducible repeat' first|refine al ?_|refine aI q ?_|refine aJ q ?_|simp[y,hi,ft,t,B]);refine eG [0,12,13,14,32,33] (fun j (_:Unit)=>[(34,.int .i64 j)]) ba.length (EE s ba) () ⟨by simp[fresh,aA,av,b0,inObs,Pv.look,ft],dN gt,dP g8,Ψ⟩ (fun v a=>by simp at a) (fun _ d _=>?_) (fun j _ g d _=>?_)
     ·have aY:=o (fun v a=>d v (by rwa[p5]));simp[ft];(with_reducible repeat' first|refine al ?_|simp[ft]);exact bO.rng () hi aY ⟨by simp[fresh,aA,av,b0,inObs,Pv.look,ft],dN gt,dP g8,Ψ⟩
     ·obtain⟨v,a⟩:∃v,ba[j]? =some v:=⟨_,cl g⟩;have p:∀h,((eS ba)[j]'h)= .int .i64 v:=fun r=>by have:=EC ba j;rw[a,cl r]at this;exact fK this
      have c:=wM s v E;cases f:dx s v with
      |none=>have z:=d.step a f;rw[f]at c;simp only[oD,nh]at c;clear d o n f;simp[g,p,ft];(with_reducible repeat' first|refine al ?_|refine aI c ?_|refine aJ c ?_|simp[g,p,ft]);exact bO.rng () g z ⟨by simp[fresh,aA,av,b0,inObs,Pv.look,ft],dN gt,dP g8,Ψ⟩
      |some x=>rw[n (fun h=>by have:=h v (eQ a);rw[f]at this;cases this)];rw[f]at c;simp only[mi,tS]at c;clear d o n f;simp[g,p,ft];(with_reducible repeat' first|refine al ?_|refine aI c ?_|refine aJ c ?_|simp[g,p,ft]);simp[bE,aX,a1,aV]
theorem PV{s:List au}(h:eJ s):bL ar 70 [.slice 5 .no (s.map au.e)] (.bool true):=by have:=PU (s.map au.b);rw[zF,si.2 ⟨s,rfl,h.ok,h.sol,h.fits⟩]at this;exact this
def SZ:C:=(aa [bt 2 false] (.seq (aa [I 5 0,cp 6 5,b1 7 0] (fR 8 7 6 (.seq (.block 1 (aa [cx 9 1 5 7,aw 10 1 9,I 4 10] (aa [I 11 4,cG 12 70 11,cJ 13 12] (aU 13 (aa [bt 2 false] .ret) .skip)))) (.region [aT 14 .add 7 1,I 7 14])))) (aa [bt 2 true] .ret)))
def S4:C:=(aa [bt 4 false] (.seq (aa [I 7 0,cp 8 7,b1 9 0] (fR 10 9 8 (.seq (.block 1 (aa [cx 11 5 7 9,bg 12 5 11,eg 6 ko,b7 5 6 12] (aa [aH 13 0 1 6,aw 14 1 13,I 15 1,bp 16 .geq 14 15,I 17 16,ay 17 false (h9 18 1 4 6),ay 17 false (bg 19 4 18),cg 17 false 20 1,ay 17 false (cq 21 122 19 20),ay 17 false (cJ 22 21),dy 23 17 22] (aU 23 (aa [bt 4 false] .ret) .skip)))) (.region [aT 24 .add 9 1,I 9 24])))) (aa [bt 4 true] .ret)))
def AO:C:=(aa [dc 2 0,bt 4 false] (.seq (aa [aH 7 3 1 2,aw 8 1 7,cp 9 8,b1 10 0] (fR 11 10 9 (.seq (.block 1 (aa [cx 12 4 8 10,bg 13 4 12,eg 6 eI,b7 4 6 13] (aa [bg 14 4 6,I 15 1,cq 16 122 14 15,cJ 17 16] (aU 17 (aa [bt 4 false] .ret) .skip)))) (.region [aT 18 .add 10 1,I 10 18])))) (aa [aH 19 0 1 2,aw 20 1 19,aT 21 .neq 20 1,I 22 21,ay 22 false (aH 23 1 1 2),ay 22 false (aw 24 1 23),cg 22 false 25 1,ay 22 false (bp 26 .lss 24 25),dy 27 22 26,I 4 27] .ret)))
def SY:C:=(aa [fk 4 5] (aa [eD 10 5 74 [],I 5 10] (.seq (aa [I 11 1,cp 12 11,b1 13 0] (fR 14 13 12 (.seq (.block 1 (aa [cx 15 5 11 13,bg 16 5 15,eg 7 ko,b7 5 7 16] (aa [I 18 0,aH 19 0 1 7,aw 20 1 19,cq 21 108 18 20,I 17 21,dn 22 0 17,dn 23 1 17,eg 8 eI,b7 4 8 22,I 9 23] (aa [I 24 9,cJ 25 24] (aU 25 (.region [I 26 5,bg 27 5 7,eD 28 5 74 [.t 27],hW 29 5 74 26 28,I 5 29]) .skip))))) (.region [aT 30 .add 13 1,I 13 30])))) (aa [I 31 5,I 4 31] .ret))))
def S1:C:=(aa [fk 2 1] (aa [eD 11 1 30 [],I 3 11] (.seq (.seq (.fg false 3 (.region [I 12 0,cp 13 12,b1 14 0])) (fR 15 14 13 (.seq (.block 1 (aa [cx 16 1 12 14,aw 17 1 16,I 5 17] (aa [bt 6 true] (.seq (aa [I 18 0,cp 19 18,b1 20 0] (.block 2 (.loop (aa [bp 21 .lss 20 19] (.seq (aU 21 .skip (.exit 2)) (.seq (.block 3 (aa [cx 22 1 18 20,aw 23 1 22,I 8 23] (.region [I 24 6,I 25 24,cg 25 true 26 8,cg 25 true 27 5,ay 25 true (cq 28 129 26 27),ay 25 true (aT 29 .eql 28 0),cg 25 true 30 29,cg 30 false 31 8,cg 30 false 32 5,ay 30 false (cq 33 164 31 32),ay 30 false (cJ 34 33),ay 25 true (dy 35 30 34),ef 36 25 35,I 6 36]))) (.region [aT 37 .add 20 1,I 20 37]))))))) (aa [I 38 3,cp 39 38,I 9 39] (.seq (.block 4 (.loop (.seq (aa [I 40 9,aT 41 .gtr 40 0,I 42 41,cg 42 true 43 3,cg 42 true 44 9,ay 42 true (aT 45 .sub 44 1),ay 42 true (cx 46 1 43 45),ay 42 true (aw 47 1 46),cg 42 true 48 5,ay 42 true (cq 49 129 47 48),ay 42 true (aT 50 .geq 49 0),ef 51 42 50] (aU 51 .skip (.exit 4))) (.block 5 (.region [I 52 9,aT 53 .sub 52 1,I 9 53]))))) (aa [I 54 6,I 55 54,cg 55 true 56 9,cg 55 true 57 3,ay 55 true (cp 58 57),ay 55 true (bp 59 .eql 56 58),cg 55 true 60 59,cg 60 false 61 3,cg 60 false 62 9,ay 60 false (cx 63 1 61 62),ay 60 false (aw 64 1 63),cg 60 false 65 5,ay 60 false (cq 66 129 64 65),ay 60 false (aT 67 .neq 66 0),ay 55 true (dy 68 60 67),ef 69 55 68] (aU 69 (aa [eD 70 1 30 [],I 71 3,I 72 9,bG 73 (.lsl 1 (.t 71) none (some (.t 72))),hW 74 1 30 70 73,I 10 74] (aa [I 75 10,I 76 5,eD 77 1 30 [.t 76],hW 78 1 30 75 77,I 10 78] (.region [I 79 10,I 80 3,I 81 9,bG 82 (.lsl 1 (.t 80) (some (.t 81)) none),hW 83 1 30 79 82,I 3 83]))) .skip)))))))) (.fg false 3 (.region [aT 84 .add 14 1,I 14 84]))))) (aa [I 85 3,I 2 85] .ret))))
def S0:C:=(aa [b1 4 0] (.seq (aa [b1 5 0] (.block 0 (.loop (.seq (aa [I 7 5,I 8 0,cp 9 8,bp 10 .lss 7 9,I 11 10,cg 11 true 12 5,cg 11 true 13 1,ay 11 true (cp 14 13),ay 11 true (bp 15 .lss 12 14),ef 16 11 15] (aU 16 .skip (.exit 0))) (.seq (.block 1 (.seq (.seq (.drawn true 67 [I 19 0,I 20 5,cx 21 5 19 20,aH 22 0 1 21,aw 23 1 22,I 24 1,I 25 5,cx 26 5 24 25,aH 27 0 1 26,aw 28 1 27,bp 29 .neq 23 28]) (aU 29 (.seq (.drawn true 67 [I 30 0,I 31 5,cx 32 5 30 31,aH 33 0 1 32,aw 34 1 33,I 35 1,I 36 5,cx 37 5 35 36,aH 38 0 1 37,aw 39 1 38,bp 40 .lss 34 39,cG 41 165 40,I 4 41]) .ret) .skip)) (.seq (.drawn true 67 [I 42 0,I 43 5,cx 44 5 42 43,h9 45 1 4 44,bg 46 4 45,I 47 1,I 48 5,cx 49 5 47 48,h9 50 1 4 49,bg 51 4 50,cq 52 152 46 51,I 6 52]) (aa [I 53 6,aT 54 .neq 53 0] (aU 54 (aa [I 55 6,I 4 55] .ret) .skip))))) (.region [I 17 5,aT 18 .add 17 1,I 5 18])))))) (.seq (aa [I 56 0,cp 57 56,I 58 1,cp 59 58,bp 60 .neq 57 59] (aU 60 (aa [I 61 0,cp 62 61,I 63 1,cp 64 63,bp 65 .lss 62 64,cG 66 165 65,I 4 66] .ret) .skip)) (aa [b1 4 0] .ret))))
def SE:C:=(aa [bt 4 false] (.seq (aa [I 11 0,cG 12 70 11,cJ 13 12,I 14 13,cg 14 false 15 1,ay 14 false (cG 16 70 15),ay 14 false (cJ 17 16),dy 18 14 17] (aU 18 (aa [bt 4 false] .ret) .skip)) (.seq (aa [I 19 0,cp 20 19,b1 21 0] (fR 22 21 20 (.seq (.block 1 (aa [cx 23 5 19 21,bg 24 5 23,eg 6 ko,b7 5 6 24] (aa [I 26 1,aH 27 0 1 6,aw 28 1 27,cG 29 40 28,cq 30 184 26 29,I 25 30,dn 31 0 25,dn 32 1 25,eg 7 eI,b7 4 7 31,I 8 32] (aa [I 34 1,h9 35 1 4 6,bg 36 4 35,cq 37 184 34 36,I 33 37,dn 38 0 33,dn 39 1 33,eg 9 eI,b7 4 9 38,I 10 39] (aa [I 40 8,cJ 41 40,I 42 41,cg 42 false 43 10,ay 42 false (cJ 44 43),dy 45 42 44,I 46 45,ay 46 false (bg 47 4 7),ay 46 false (bg 48 4 9),ay 46 false (cq 49 153 47 48),ay 46 false (cJ 50 49),dy 51 46 50] (aU 51 (aa [bt 4 false] .ret) .skip)))))) (.region [aT 52 .add 21 1,I 21 52])))) (aa [bt 4 true] .ret))))
def yd:List (Nat×dE):=[
 (3,⟨1,8,.int .i64,.int .i64 0⟩),
 (30,⟨1,24,.slice 74,.slice 5 .nil []⟩),
 (31,⟨1,24,.slice 30,.slice 1 .nil []⟩),
 (44,⟨1,24,.slice 71,.slice 4 .nil []⟩),
 (71,⟨4,56,.struct [(0,3),(1,3),(2,9),(3,44)],.agg [.int .i64 0,.int .i64 0,.str [],.slice 4 .nil []]⟩),
 (74,⟨5,64,.struct [(0,3),(1,71)],.agg [.int .i64 0,.int .i64 0,.int .i64 0,.str [],.slice 4 .nil []]⟩)]
theorem tI:e6 ar yd=true:=an
theorem am9:b4 yd SZ [.tmp 2] 1 Tryz.f71=true:=an
theorem anf:b4 yd S4 [.tmp 4] 2 Tryz.f74=true:=an
theorem Fa:b4 yd AO [.tmp 4] 2 Tryz.f122=true:=an
theorem am8:b4 yd SY [.tmp 4] 2 Tryz.f127=true:=an
theorem anb:b4 yd S1 [.tmp 2] 1 Tryz.f128=true:=an
theorem ana:b4 yd S0 [.tmp 4] 2 Tryz.f129=true:=an
theorem amR:b4 yd SE [.tmp 4] 2 Tryz.f164=true:=an
def De:C:=(aa [dc 2 0,dc 3 1,b1 4 0] (.seq (aa [aH 7 0 1 2,aw 8 1 7,aH 9 0 1 3,aw 10 1 9,bp 11 .neq 8 10] (aU 11 (aa [aH 12 0 1 2,aw 13 1 12,aH 14 0 1 3,aw 15 1 14,bp 16 .lss 13 15,cG 17 165 16,I 4 17] .ret) .skip)) (.seq (aa [aH 18 1 1 2,aw 19 1 18,aH 20 1 1 3,aw 21 1 20,bp 22 .neq 19 21] (aU 22 (aa [aH 23 1 1 2,aw 24 1 23,aH 25 1 1 3,aw 26 1 25,bp 27 .lss 24 26,cG 28 165 27,I 4 28] .ret) .skip)) (.seq (aa [aH 29 2 1 2,aw 30 1 29,aH 31 2 1 3,aw 32 1 31,bp 33 .neq 30 32] (aU 33 (aa [aH 34 2 1 2,aw 35 1 34,aH 36 2 1 3,aw 37 1 36,bp 38 .lss 35 37,cG 39 165 38,I 4 39] .ret) .skip)) (.seq (aa [b1 5 0] (.block 0 (.loop (.seq (aa [I 40 5,aH 41 3 1 2,aw 42 1 41,cp 43 42,bp 44 .lss 40 43,I 45 44,cg 45 true 46 5,ay 45 true (aH 47 3 1 3),ay 45 true (aw 48 1 47),ay 45 true (cp 49 48),ay 45 true (bp 50 .lss 46 49),ef 51 45 50] (aU 51 .skip (.exit 0))) (.seq (.block 1 (.seq (.drawn true 68 [aH 54 3 1 2,aw 55 1 54,I 56 5,cx 57 4 55 56,bg 58 4 57,aH 59 3 1 3,aw 60 1 59,I 61 5,cx 62 4 60 61,bg 63 4 62,cq 64 152 58 63,I 6 64]) (aa [I 65 6,aT 66 .neq 65 0] (aU 66 (aa [I 67 6,I 4 67] .ret) .skip)))) (.region [I 52 5,aT 53 .add 52 1,I 5 53])))))) (aa [b1 4 0] .ret))))))
def SM:C:=(aa [dc 2 0,dc 3 1,bt 4 false] (aa [bg 5 4 2,bg 6 4 3,cq 7 152 5 6,aT 8 .eql 7 0,I 4 8] .ret))
def SN:C:=(aa [b1 2 0] (.seq (aa [I 3 0] (aU 3 (aa [b1 2 (-1)] .ret) .skip)) (aa [b1 2 1] .ret)))
def JB:List (Nat×dE):=[
 (3,⟨1,8,.int .i64,.int .i64 0⟩),
 (9,⟨1,16,.str,.str []⟩),
 (44,⟨1,24,.slice 71,.slice 4 .nil []⟩),
 (71,⟨4,56,.struct [(0,3),(1,3),(2,9),(3,44)],.agg [.int .i64 0,.int .i64 0,.str [],.slice 4 .nil []]⟩)]
theorem CE:e6 ar JB=true:=an
theorem IA:b4 JB De [.tmp 4] 2 Tryz.f152=true:=an
theorem amZ:b4 JB SM [.tmp 4] 2 Tryz.f153=true:=an
theorem am0:b4 JB SN [.tmp 2] 1 Tryz.f165=true:=an
theorem abD{t u:T}(J:t.kind=u.kind)(U:t.int=u.int)(a:t.name=u.name)(b:t.args=u.args):t=u:=by cases t<;>cases u<;>simp_all
theorem sl(b:Bool):bL ar 165 [.bool b] (.int .i64 (if b then-1 else 1)):=by
 refine bs CE Tryz.func165 am0 fun a=>?_;unfold SN;simp;((with_reducible repeat' first|refine al ?_|simp|((first|apply bQ|apply bT|apply bS)<;>intro h<;>try simp at h))<;>(try exact cv));all_goals simp[bE,aX,a1,aV]
 all_goals simp_all
theorem anm{a b:T}(c:a.args=[]\/b.args=[])(J:a.kind=b.kind)(U:a.int=b.int):eU a b=lB a.name b.name:=by cases a<;>cases b<;>simp_all[eU]
def ED(a b:T)(i:Nat)(_:Unit):Prop:=a.args.take i=b.args.take i
theorem aaG(a:T)(o:∀x∈a.args,∀b:T,bL ar 152 [x.e,b.e] (.int .i64 (eU x b)))(b:T):bL ar 152 [a.e,b.e] (.int .i64 (eU a b)):=by
 have hle:a.args.length<=2:=by cases a<;>simp
 by_cases c:a.kind=b.kind
 ·by_cases hi:a.int=b.int
  ·by_cases j:a.name=b.name
   ·have hlen:a.args.length=b.args.length:=by cases a<;>cases b<;>simp at c⊢
    refine bs CE Tryz.func152 IA fun k=>?_;unfold De;simp[c,hi,j];refine eG [2,3] (fun i (_:Unit)=>[(5,.int .i64 i)]) a.args.length (ED a b) () b6 (by simp[ED]) (fun _ d _=>?_) (fun i _ g d _=>?_)
    ·simp;(with_reducible repeat' first|refine al ?_|simp);simp[bE,aX,a1,aV];unfold ED at d;rw[gC Ω,gC Ω]at d;exact((r7 a b).2 (abD c hi j d)).symm
    ·have m:i<b.args.length:=Ω
     obtain⟨x,e⟩:∃x,x=a.args[i]:=⟨_,rfl⟩;obtain⟨y,f⟩:∃y,y=b.args[i]:=⟨_,rfl⟩;have l:=o x (by rw[e];exact List.getElem_mem g) y;simp[g,m,<-e,<-f];(with_reducible repeat' first|((first|apply bQ|apply bT|apply bS)<;>intro h<;>try simp at h)|refine al ?_|refine aI l ?_|refine aJ l ?_|simp)
     ·simp[bE,aX,a1,aV];unfold ED at d;cases a with
      |pair n a2=>
       cases b with
       |pair p q=>
        simp at g d e f;rcases(by omega:i=0\/i=1)with rfl|rfl
        ·simp at e f;subst e f;simp[eU,h]
        ·simp at d e f;subst e f d;simp[eU,(r7 n n).2 rfl]
       |_=>simp at c
      |_=>simp at g
     ·refine bO.rng () g ?_ b6;unfold ED at d⊢;rw[List.take_succ,List.take_succ,d,cl g,cl m,<-e,<-f,(r7 x y).1 h]
   ·refine bs CE Tryz.func152 IA fun k=>?_;unfold De;simp[c,hi,j];((with_reducible repeat' first|refine al ?_|refine aI (sl _) ?_|refine aJ (sl _) ?_|simp|((first|apply bQ|apply bT|apply bS)<;>intro h<;>try simp at h))<;>(try exact cv));simp[bE,aX,a1,aV];have:a.args=[]\/b.args=[]:=by cases a<;>cases b<;>simp at c j⊢
    rw[anm this c hi,lB,if_neg j]
  ·refine bs CE Tryz.func152 IA fun k=>?_;unfold De;simp[c,hi];((with_reducible repeat' first|refine al ?_|refine aI (sl _) ?_|refine aJ (sl _) ?_|simp|((first|apply bQ|apply bT|apply bS)<;>intro h<;>try simp at h))<;>(try exact cv));simp[bE,aX,a1,aV];cases a<;>cases b<;>simp at c hi
   ·rw[Yi];simp[eX];split<;>(try split)<;>omega
   ·rw[Yh];simp[eX];split<;>(try split)<;>omega
 ·refine bs CE Tryz.func152 IA fun k=>?_;unfold De;simp[c];((with_reducible repeat' first|refine al ?_|refine aI (sl _) ?_|refine aJ (sl _) ?_|simp|((first|apply bQ|apply bT|apply bS)<;>intro h<;>try simp at h))<;>(try exact cv));simp[bE,aX,a1,aV];rw[tx c];simp[eX];split<;>(try split)<;>omega
theorem JH(a:T):∀b:T,bL ar 152 [a.e,b.e] (.int .i64 (eU a b)):=by
 induction a with
 |pair x y e d=>
  refine aaG _ fun z c=>?_;simp at c;rcases c with rfl|rfl
  ·exact e
  ·exact d
 |_=>exact aaG _ fun x f=>by simp at f
theorem aaI(a b:T):bL ar 153 [a.e,b.e] (.bool (decide (a=b))):=by refine bs CE Tryz.func153 amZ fun c=>?_;unfold SM;simp;(with_reducible repeat' first|refine al ?_|refine aI (JH _ _) ?_|refine aJ (JH _ _) ?_|simp);simp[bE,aX,a1,aV];have:=r7 a b;by_cases h:eU a b=0<;>simp_all
theorem aqK{s t:List au}(h:eJ s)(aM:eJ t):bL ar 127 [.slice 5 .no (s.map au.e),.slice 5 .no (t.map au.e)] (.slice 5 .no ((ha s t).map au.e)):=by
 have g:=aM.len;generalize bq:ha s t=R;refine bs tI Tryz.func127 am8 fun j=>?_;unfold SY;simp;refine hk (α:=List au) (fun i out=>⟨[(0,.slice 5 .no (s.map au.e)),(11,.slice 5 .no (t.map au.e)),(12,.int .i64 t.length),(5,.slice 5 (.own (.loc 0)) (out.map au.e)),(13,.int .i64 i)],[],[(.loc 0,⟨out.length,74,5,none⟩)],1,[]⟩) t.length (r3 s t) [] b6 (by simp[r3,ha]) (fun out c _=>?_) (fun i out hi c _=>?_)
 ·rw[r3,gC (eR _),bq]at c;rw[<-c];exact cn
 ·obtain⟨b,e,d⟩:=ev hi;have k:out.length<=1000000:=by
   have:out.length<=(t.take i).length:=by rw[c];exact List.length_filter_le _ _
   simp at this;omega
  have a:=wM s b.v h.len;cases ae:dx s b.v with
  |none=>
   have f:r3 s t (i+1) (out++[b]):=by rw[r3,sj e,ha,List.filter_append,c];simp[ha,ae]
   rw[ae]at a;simp only[oD,nh]at a;clear c e ae;simp[hi,d];(with_reducible repeat' first|refine al ?_|refine aI a ?_|refine aJ a ?_|simp[d,hi]);all_goals first|(refine⟨by unfold lim;omega,?_⟩)|skip
   (with_reducible repeat' first|refine al ?_|simp);refine bO.rng (out++[b]) hi f ?_;simp;exact⟨by simp[fresh,aA,av,b0,inObs,Pv.look,kA],dN i6,dP i7,Ψ⟩
  |some x=>
   have f:r3 s t (i+1) out:=by rw[r3,sj e,ha,List.filter_append,c];simp[ha,ae]
   rw[ae]at a;simp only[mi,tS]at a;clear c e ae;simp[hi,d];(with_reducible repeat' first|refine al ?_|refine aI a ?_|refine aJ a ?_|simp[d,hi]);refine bO.rng out hi f ?_;exact b6
theorem aqi{s t:List au}(u:eJ s)(aM:eJ t):bL ar 164 [.slice 5 .no (s.map au.e),.slice 5 .no (t.map au.e)] (.bool (oi s t)):=by
 have x:=u.len;generalize bq:oi s t=R;have q:=PV u;have p:=PV aM;refine bs tI Tryz.func164 amR fun y=>?_;unfold SE;simp;(with_reducible repeat' first|refine al ?_|refine aI q ?_|refine aJ q ?_|refine aI p ?_|refine aJ p ?_|simp);refine eG [1,19,20] (fun i (_:Unit)=>[(21,.int .i64 i)]) s.length (th (ts t) s) () b6 (fun k b m=>Ω) (fun _ g _=>?_) (fun i _ hi g _=>?_)
 ·have:R=true:=by rw[<-bq,oi,jL];intro b ae;obtain⟨k,m,e⟩:=oC ae;exact g k b m (by rw[cl m,e])
  rw[this];exact cn
 ·obtain⟨b,j,f⟩:=ev hi;have o:ts t b=false->R=false:=fun h=>by rw[<-bq,Bool.eq_false_iff];intro r;rw[oi,jL]at r;rw[r b (eQ j)]at h;cases h
  have a:=PN t aM.len (.var b.v);have c:=PN t aM.len b.t;have n:=FD aM b.v;have w:((T.var b.v).ap (cI t)).size<=5000:=n;rw[oE w]at a;rw[show(T.var b.v).ap (cI t)=cI t b.v from rfl]at a;by_cases l:(b.t.ap (cI t)).size<=5000
  ·rw[oE l]at c;by_cases he:cI t b.v=b.t.ap (cI t)
   ·have v:=g.step j (by simp[ts,he]);have d:=aaI (cI t b.v) (b.t.ap (cI t));rw[oE he]at d;clear g j;simp[hi,f];(with_reducible repeat' first|refine al ?_|refine aI (k4 _) ?_|refine aJ (k4 _) ?_|refine aI a ?_|refine aJ a ?_|refine aI c ?_|refine aJ c ?_|refine aI d ?_|refine aJ d ?_|simp[f,hi]);exact bO.rng () hi v b6
   ·rw[o (by simp[ts,he])];have d:=aaI (cI t b.v) (b.t.ap (cI t));rw[pj he]at d;clear g j;simp[hi,f];(with_reducible repeat' first|refine al ?_|refine aI (k4 _) ?_|refine aJ (k4 _) ?_|refine aI a ?_|refine aJ a ?_|refine aI c ?_|refine aJ c ?_|refine aI d ?_|refine aJ d ?_|simp[f,hi]);simp[bE,aX,a1,aV]
  ·rw[pj l]at c;rw[o (by simp only[ts,iq];intro e;rw[<-e]at l;exact l n)];clear g j;simp[hi,f];(with_reducible repeat' first|refine al ?_|refine aI (k4 _) ?_|refine aJ (k4 _) ?_|refine aI a ?_|refine aJ a ?_|refine aI c ?_|refine aJ c ?_|simp[f,hi]);simp[bE,aX,a1,aV]
theorem PO(d e:List au):bL ar 129 [.slice 5 .no (d.map au.e),.slice 5 .no (e.map au.e)] (.int .i64 (eW d e)):=by
 generalize bq:eW d e=R;refine bs tI Tryz.func129 ana fun w=>?_;unfold S0;have E:d.length<=68719476736:=by simp[e1,eK,eV,lim]at w;omega
 have he:e.length<=68719476736:=by simp[e1,eK,eV,lim]at w;omega
 simp;refine w7 [0,1] (fun(i:Nat)=>[(5,.int .i64 i)]) (fun i=>d.length-i) (MP d e) 0 b6 ⟨Ω,Ω,Ψ⟩ (fun i D _=>?_);obtain⟨J,U,a⟩:=D;rw[bq]at a;by_cases hi:i<d.length
 ·by_cases b:i<e.length
  ·obtain⟨x,m⟩:∃x,d[i]? =some x:=⟨_,cl hi⟩;obtain⟨y,n⟩:∃y,e[i]? =some y:=⟨_,cl b⟩;have f:∀h,(d[i]'h)=x:=fun h=>by rw[cl hi]at m;exact fK m
   have c:∀h,(e[i]'h)=y:=fun h=>by rw[cl b]at n;exact fK n
   have r:d.drop i=x::d.drop (i+1):=by rw[mh hi,f]
   have q:e.drop i=y::e.drop (i+1):=by rw[mh b,c]
   rw[r,q]at a;rw[Yf]at a;by_cases g:x.v=y.v
   ·have j:eX x.v y.v=0:=(k3.zero _ _).2 g;have p:(x.v !=y.v)=false:=by simp[g]
    rw[if_pos j]at a;by_cases l:eU x.t y.t=0
    ·rw[if_pos l]at a;have A:MP d e (i+1):=⟨Ω,Ω,by rw[bq];exact a⟩;have k:=JH x.t y.t;rw[l]at k;clear r q m n a j;simp[hi,b,f,c];((with_reducible repeat' first|refine al ?_|refine aI k ?_|refine aJ k ?_|simp[f,c,hi,b,g,p]|((first|apply bQ|apply bT|apply bS)<;>intro h<;>try simp at h))<;>(try exact cv));all_goals exact bO.whl (i+1) Ω A b6
    ·rw[if_neg l]at a;have k:=JH x.t y.t;have z:(eU x.t y.t !=0)=true:=by simp[l]
     clear r q m n j;simp[hi,b,f,c];(with_reducible repeat' first|refine al ?_|refine aI k ?_|refine aJ k ?_|simp[f,c,hi,b,g,p,l,z]);all_goals simp[bE,aX,a1,aV]
     all_goals exact a
   ·have j:¬eX x.v y.v=0:=fun h=>g ((k3.zero _ _).1 h);have p:(x.v !=y.v)=true:=by simp[g]
    rw[if_neg j]at a;have dC:R=if decide (x.v<y.v)=true then-1 else 1:=by rw[<-a];unfold eX;simp only[e8];(repeat' split)<;>omega
    clear r q m n a j;rw[dC];simp[hi,b,f,c];(with_reducible repeat' first|refine al ?_|refine aI (sl _) ?_|refine aJ (sl _) ?_|simp[f,c,hi,b,g,p]);all_goals simp[bE,aX,a1,aV]
  ·have hle:e.length<d.length:=Ω
   have:(1:Int)=R:=by rw[<-a,eW,EM _ _ _ (.inr (List.drop_eq_nil_of_le Ω))];simp only[sq];unfold eX;(repeat' split)<;>omega
   have t:¬(d.length:Int)=e.length:=Ω
   have v:((d.length:Int) !=e.length)=true:=by simp;omega
   have s:¬(d.length:Int)<e.length:=Ω
   have o:¬d.length<e.length:=Ω
   have u:¬d.length=e.length:=Ω
   clear a;rw[<-this];simp[hi,b];(with_reducible repeat' first|refine al ?_|refine aI (sl _) ?_|refine aJ (sl _) ?_|simp[hi,b,t,v,s,o,u]);all_goals simp[bE,aX,a1,aV]
   all_goals(try simp[o])
 ·have hid:i=d.length:=Ω
  by_cases B:d.length=e.length
  ·have:(0:Int)=R:=by rw[<-a,eW,EM _ _ _ (.inl (List.drop_eq_nil_of_le Ω))];simp only[sq];unfold eX;(repeat' split)<;>omega
   clear a;rw[<-this];exact cn
  ·have:(-1:Int)=R:=by rw[<-a,eW,EM _ _ _ (.inl (List.drop_eq_nil_of_le Ω))];simp only[sq];unfold eX;(repeat' split)<;>omega
   have t:¬(d.length:Int)=e.length:=Ω
   have v:((d.length:Int) !=e.length)=true:=by simp;omega
   have s:(d.length:Int)<e.length:=Ω
   have o:d.length<e.length:=Ω
   clear a;rw[<-this];simp[hi];(with_reducible repeat' first|refine al ?_|refine aI (sl _) ?_|refine aJ (sl _) ?_|simp[hi,t,v,s,o,B]);all_goals simp[bE,aX,a1,aV]
   all_goals(try simp[o])
def ajT(n:Int)(a b:T)(i:Nat)(_:Unit):Prop:=(1<=i->jy n a=true)/\(2<=i->jy n b=true)
theorem PT(n:Int):∀t:T,bL ar 122 [t.e,.int .i64 n] (.bool (jy n t))
 | .pair a b=>by
  have e:=PT n a;have d:=PT n b;refine bs tI Tryz.func122 Fa fun g=>?_;unfold AO;simp;refine eG [1,2,8,9] (fun i (_:Unit)=>[(10,.int .i64 i)]) 2 (ajT n a b) () b6 ⟨fun h=>Ω,fun h=>Ω⟩ (fun _ c _=>?_) (fun i _ hi c _=>?_)
  ·simp;(with_reducible repeat' first|refine al ?_|simp);simp[bE,aX,a1,aV];simp[jy,c.1,c.2]
  ·rcases(by omega:i=0\/i=1)with rfl|rfl
   ·cases f:jy n a
    ·rw[f]at e;simp;(with_reducible repeat' first|refine al ?_|refine aI e ?_|refine aJ e ?_|simp);simp[bE,aX,a1,aV];simp[jy,f]
    ·rw[f]at e;simp;((with_reducible repeat' first|refine al ?_|refine aI e ?_|refine aJ e ?_|simp|((first|apply bQ|apply bT|apply bS)<;>intro h<;>try simp at h))<;>(try exact cv));exact bO.rng () hi ⟨fun _=>f,fun h=>Ω⟩ b6
   ·cases ae:jy n b
    ·rw[ae]at d;simp;((with_reducible repeat' first|refine al ?_|refine aI d ?_|refine aJ d ?_|simp|((first|apply bQ|apply bT|apply bS)<;>intro h<;>try simp at h))<;>(try exact cv));simp[bE,aX,a1,aV];simp[jy,ae]
    ·rw[ae]at d;simp;((with_reducible repeat' first|refine al ?_|refine aI d ?_|refine aJ d ?_|simp|((first|apply bQ|apply bT|apply bS)<;>intro h<;>try simp at h))<;>(try exact cv));exact bO.rng () hi ⟨fun _=>c.1 Ω,fun _=>ae⟩ b6
 | .sym v=>by
  refine bs tI Tryz.func122 Fa fun g=>?_;unfold AO;simp;refine eG [1,2,8,9] (fun i (_:Unit)=>[(10,.int .i64 i)]) 0 (fun i _=>True) () b6 trivial (fun _ c _=>?_) (fun i _ hi c _=>Ω);simp;((with_reducible repeat' first|refine al ?_|simp|((first|apply bQ|apply bT|apply bS)<;>intro h<;>try simp at h))<;>(try exact cv));all_goals simp[bE,aX,a1,aV]
  all_goals simp[jy]
 | .num v=>by
  refine bs tI Tryz.func122 Fa fun g=>?_;unfold AO;simp;refine eG [1,2,8,9] (fun i (_:Unit)=>[(10,.int .i64 i)]) 0 (fun i _=>True) () b6 trivial (fun _ c _=>?_) (fun i _ hi c _=>Ω);simp;(with_reducible repeat' first|refine al ?_|simp);all_goals simp[bE,aX,a1,aV]
  all_goals simp[jy]
 | .var v=>by
  refine bs tI Tryz.func122 Fa fun g=>?_;unfold AO;simp;refine eG [1,2,8,9] (fun i (_:Unit)=>[(10,.int .i64 i)]) 0 (fun i _=>True) () b6 trivial (fun _ c _=>?_) (fun i _ hi c _=>Ω);simp;(with_reducible repeat' first|refine al ?_|simp);all_goals simp[bE,aX,a1,aV]
  all_goals simp[jy]
 | .nil=>by
  refine bs tI Tryz.func122 Fa fun g=>?_;unfold AO;simp;refine eG [1,2,8,9] (fun i (_:Unit)=>[(10,.int .i64 i)]) 0 (fun i _=>True) () b6 trivial (fun _ c _=>?_) (fun i _ hi c _=>Ω);simp;(with_reducible repeat' first|refine al ?_|simp);all_goals simp[bE,aX,a1,aV]
  all_goals simp[jy]
theorem aaO(s:List au)(n:Int):bL ar 74 [.slice 5 .no (s.map au.e),.int .i64 n] (.bool (s.all (lJ n))):=by
 generalize bq:s.all (lJ n)=R;refine bs tI Tryz.func74 anf fun m=>?_;unfold S4;have p:s.length<=68719476736:=by simp[e1,eK,eV,lim]at m;omega
 simp;refine eG [1,7,8] (fun i (_:Unit)=>[(9,.int .i64 i)]) s.length (th (lJ n) s) () b6 (fun k b d=>Ω) (fun _ a _=>?_) (fun i _ hi a _=>?_)
 ·have:R=true:=by rw[<-bq,jL];intro b ae;obtain⟨k,d,e⟩:=oC ae;exact a k b d (by rw[cl d,e])
  rw[this];exact cn
 ·obtain⟨b,c,o⟩:=ev hi;have g:lJ n b=false->R=false:=fun h=>by rw[<-bq,Bool.eq_false_iff];intro j;rw[jL]at j;rw[j b (eQ c)]at h;cases h
  have f:=PT n b.t;by_cases J:b.v<n
  ·have l:¬n<=b.v:=Ω
   cases U:jy n b.t
   ·rw[g (by simp[lJ,U])];rw[U]at f;clear a c;exact cn
   ·have q:=a.step c (by simp[lJ,J,U]);rw[U]at f;clear a c;exact iH
  ·have l:n<=b.v:=Ω
   rw[g (by simp[lJ,J])];clear a c;exact cn
theorem aqN(l:List (List dj)):bL ar 71 [.slice 1 .no (l.map gy)] (.bool (l.all hf)):=by
 generalize bq:l.all hf=R;refine bs tI Tryz.func71 am9 fun h=>?_;unfold SZ;have m:l.length<=68719476736:=by simp[e1,eK,eV,lim]at h;omega
 simp;refine eG [5,6] (fun i (_:Unit)=>[(7,.int .i64 i)]) l.length (th hf l) () b6 (fun k b d=>Ω) (fun _ a _=>?_) (fun i _ hi a _=>?_)
 ·have:R=true:=by rw[<-bq,jL];intro b ae;obtain⟨k,d,e⟩:=oC ae;exact a k b d (by rw[cl d,e])
  rw[this];exact cn
 ·obtain⟨b,c,j⟩:=ev hi;have f:bL ar 70 [gy b] (.bool (hf b)):=PU b;cases ae:hf b
  ·have:R=false:=by rw[<-bq,Bool.eq_false_iff];intro g;rw[jL]at g;rw[g b (eQ c)]at ae;cases ae
   rw[this];rw[ae]at f;clear a c;exact cn
  ·have n:=a.step c ae;rw[ae]at f;clear a c;exact iH
theorem Tt(a:List (List au))(k:Nat)(m:List au):mH k (a.map c6)++c6 m::oB k (a.map c6)=(a.take k++m::a.drop k).map c6:=Ψ
theorem rO(a:List (List au))(k:Nat)(m:List au):cK (mH k (a.map c6)++c6 m::oB k (a.map c6))=mH k (a.map c6)++c6 m::oB k (a.map c6):=by rw[Tt,Pq]
theorem rN(S:aB->Prop)(a:List (List au))(k:Nat)(m:List au):aA S (mH k (a.map c6)++c6 m::oB k (a.map c6))=True:=by rw[Tt,WY]
theorem Ts(a:List (List au))(m:List au):a.map c6++[c6 m]=(a++[m]).map c6:=Ψ
theorem rM(a:List (List au))(m:List au):cK (a.map c6++[c6 m])=a.map c6++[c6 m]:=by rw[Ts,Pq]
theorem rL(S:aB->Prop)(a:List (List au))(m:List au):aA S (a.map c6++[c6 m])=True:=by rw[Ts,WY]
theorem aaM(L:List (List au))(H:∀d∈L,eJ d):bL ar 128 [.slice 1 .no (L.map c6)] (.slice 1 .no ((lP L).map c6)):=by
 generalize bq:lP L=R;rw[akU]at bq;refine bs tI Tryz.func128 anb fun Q=>?_;unfold S1;have U:L.length<=68719476736:=by simp[e1,eK,eV,lim]at Q;omega
 simp;refine eG [0,12,13] (fun i (a:List (List au))=>[(3,.slice 1 .no (a.map c6)),(14,.int .i64 i)]) L.length (zw L) [] b6 (by simp[zw]) (fun a m _=>?_) (fun i a hi m _=>?_)
 ·rw[zw,p5,bq]at m;subst m;exact cn
 ·obtain⟨e,he,K⟩:=ev hi;have z:ir eW a:=by rw[m];exact NC _ (by simp[ir])
  have S:a.length<=i:=by have:=XC (L:=L) (L.take i) [];rw[m];simp at this⊢;omega
  have g:=m.step he;have N:=H e (eQ he);have l:∀d,bL ar 129 [c6 d,c6 e] (.int .i64 (eW d e)):=fun d=>PO d e;clear m he;simp[hi,K];(with_reducible repeat' first|refine al ?_|simp[hi,K]);refine eG [0,3,5,12,13,14,18,19] (fun j (b:Bool)=>[(6,.bool b),(20,.int .i64 j)]) L.length (q6 L e) true b6 (by simp[q6]) (fun keep m _=>?_) (fun j keep s m _=>?_)
  ·rw[q6,p5]at m;have J:keep=jF L e:=m;rw[rf,<-J]at g;clear m J;simp;(with_reducible repeat' first|refine al ?_|simp);refine w7 [0,3,5,6,12,13,14] (fun(k:Nat)=>[(9,.int .i64 k)]) (fun k=>k) (HZ a e) a.length b6 ⟨Ω,fun c h=>by simp at h⟩ (fun k m _=>?_);have X:=m.1;rcases Nat.eq_zero_or_pos k with W|r
   ·have D:decide ((0:Int)<k)=false:=by simp;omega
    have y:¬(0:Int)<k:=Ω
    have f:=m.fin z fun d h=>Ω
    clear m z;cases keep with
    |false=>simp only[hz,if_false]at g;clear f;exact iH
    |true=>
     simp only[if_true]at g;by_cases n:k<a.length
     ·obtain⟨c,ax,w⟩:=ev n;rw[ax]at f;by_cases q:eW c e=0
      ·rw[if_pos (by simp[q])]at f;rw[f]at g;clear f ax;simp[n,w,D,y];((with_reducible repeat' first|refine al ?_|refine aI (l _) ?_|refine aJ (l _) ?_|simp[n,w,q,D,y]|((first|apply bQ|apply bT|apply bS)<;>intro h<;>try simp at h))<;>(try exact cv));all_goals exact bO.rng a hi g b6
      ·rw[if_neg (by simp[q])]at f;have A:(eW c e !=0)=true:=by simp[q]
       rw[f]at g;clear f ax;simp[n,w,D,y];((with_reducible repeat' first|refine al ?_|refine aI (l _) ?_|refine aJ (l _) ?_|simp[n,w,q,A,D,y]|((first|apply bQ|apply bT|apply bS)<;>intro h<;>try simp at h))<;>(try exact cv));all_goals first|(refine⟨by unfold lim;omega,?_⟩)|skip
       all_goals(with_reducible repeat' first|refine al ?_|simp)
       all_goals first|(refine⟨by unfold lim;omega,?_⟩)|skip
       all_goals((with_reducible repeat' first|refine al ?_|simp|((first|apply bQ|apply bT|apply bS)<;>intro h<;>try simp at h))<;>(try exact cv))
       all_goals exact bO.rng _ hi g ⟨by simp[fresh,aA,av,b0,inObs,Pv.look,gC,rO,rN,rM,rL],dN lm,dP lw,Ψ⟩
     ·rw[rC Ω]at f;simp only[hz,if_false]at f;rw[f]at g;have F:k=a.length:=Ω
      have E:a.take k++e::a.drop k=a++[e]:=by rw[F];simp
      rw[E]at g;clear f E;simp[n,D,y];((with_reducible repeat' first|refine al ?_|refine aI (l _) ?_|refine aJ (l _) ?_|simp[n,F,D,y]|((first|apply bQ|apply bT|apply bS)<;>intro h<;>try simp at h))<;>(try exact cv));all_goals first|(refine⟨by unfold lim;omega,?_⟩)|skip
      all_goals(with_reducible repeat' first|refine al ?_|simp)
      all_goals first|(refine⟨by unfold lim;omega,?_⟩)|skip
      all_goals((with_reducible repeat' first|refine al ?_|simp|((first|apply bQ|apply bT|apply bS)<;>intro h<;>try simp at h))<;>(try exact cv))
      all_goals exact bO.rng _ hi g ⟨by simp[fresh,aA,av,b0,inObs,Pv.look,gC,rO,rN,rM,rL],dN lm,dP lw,Ψ⟩
   ·obtain⟨d,u⟩:∃d,a[k-1]? =some d:=⟨_,cl Ω⟩;have t:((k:Int)-1).toNat=k-1:=Ω
    have v:∀h,(a[k-1]'h)=d:=fun h=>by rw[cl h]at u;exact fK u
    have p:(0:Int)<k:=Ω
    have o:k-1<a.length:=Ω
    by_cases ae:0<=eW d e
    ·have P:HZ a e (k-1):=⟨Ω,fun c ax=>by rw[u]at ax;cases ax;exact ae⟩;clear m z g u;simp[r,p,t,v,ae,o];((with_reducible repeat' first|refine al ?_|refine aI (l _) ?_|refine aJ (l _) ?_|simp[r,p,t,v,ae,o]|((first|apply bQ|apply bT|apply bS)<;>intro h<;>try simp at h))<;>(try exact cv));refine bO.whl (k-1) Ω P ?_;have O:((k-1:Nat):Int)=(k:Int)-1:=Ω
     simp[O];exact b6
    ·have f:=m.fin z fun V _ G=>by rw[u]at G;cases G;omega
     clear m z u;cases keep with
     |false=>simp only[hz,if_false]at g;clear f;simp[r,p,t,v,ae,o];(with_reducible repeat' first|refine al ?_|refine aI (l _) ?_|refine aJ (l _) ?_|simp[r,p,t,v,ae,o]);all_goals exact bO.rng a hi g b6
     |true=>
      simp only[if_true]at g;by_cases n:k<a.length
      ·obtain⟨c,ax,w⟩:=ev n;rw[ax]at f;by_cases q:eW c e=0
       ·rw[if_pos (by simp[q])]at f;rw[f]at g;clear f ax;simp[n,w,r,p,t,v,ae,o];((with_reducible repeat' first|refine al ?_|refine aI (l _) ?_|refine aJ (l _) ?_|simp[n,w,q,r,p,t,v,ae,o]|((first|apply bQ|apply bT|apply bS)<;>intro h<;>try simp at h))<;>(try exact cv));all_goals exact bO.rng a hi g b6
       ·rw[if_neg (by simp[q])]at f;have A:(eW c e !=0)=true:=by simp[q]
        rw[f]at g;clear f ax;simp[n,w,r,p,t,v,ae,o];((with_reducible repeat' first|refine al ?_|refine aI (l _) ?_|refine aJ (l _) ?_|simp[n,w,q,A,r,p,t,v,ae,o]|((first|apply bQ|apply bT|apply bS)<;>intro h<;>try simp at h))<;>(try exact cv));all_goals first|(refine⟨by unfold lim;omega,?_⟩)|skip
        all_goals(with_reducible repeat' first|refine al ?_|simp)
        all_goals first|(refine⟨by unfold lim;omega,?_⟩)|skip
        all_goals((with_reducible repeat' first|refine al ?_|simp|((first|apply bQ|apply bT|apply bS)<;>intro h<;>try simp at h))<;>(try exact cv))
        all_goals exact bO.rng _ hi g ⟨by simp[fresh,aA,av,b0,inObs,Pv.look,gC,rO,rN,rM,rL],dN lm,dP lw,Ψ⟩
      ·rw[rC Ω]at f;simp only[hz,if_false]at f;rw[f]at g;have F:k=a.length:=Ω
       have E:a.take k++e::a.drop k=a++[e]:=by rw[F];simp
       rw[E]at g;clear f E;simp[n,r,p,t,v,ae,o];((with_reducible repeat' first|refine al ?_|refine aI (l _) ?_|refine aJ (l _) ?_|simp[n,F,r,p,t,v,ae,o]|((first|apply bQ|apply bT|apply bS)<;>intro h<;>try simp at h))<;>(try exact cv));all_goals first|(refine⟨by unfold lim;omega,?_⟩)|skip
       all_goals(with_reducible repeat' first|refine al ?_|simp)
       all_goals first|(refine⟨by unfold lim;omega,?_⟩)|skip
       all_goals(with_reducible repeat' first|refine al ?_|simp)
       all_goals exact bO.rng _ hi g ⟨by simp[fresh,aA,av,b0,inObs,Pv.look,gC,rO,rN,rM,rL],dN lm,dP lw,Ψ⟩
  ·obtain⟨d,u,hdi⟩:=ev s;have x:=m.step u;have M:=H d (eQ u);have B:bL ar 164 [c6 d,c6 e] (.bool (oi d e)):=aqi M N;clear m u g z;cases keep with
   |false=>simp only[Bool.false_and]at x;exact iH
   |true=>
    simp only[Bool.true_and,xJ]at x;by_cases q:eW d e=0
    ·rw[oE ((mC.zero _ _).1 q),Bool.true_or]at x;simp[s,hdi];(with_reducible repeat' first|refine al ?_|refine aI (l _) ?_|refine aJ (l _) ?_|simp[s,hdi,q]);all_goals exact bO.rng true s x b6
    ·rw[pj (fun h=>q ((mC.zero _ _).2 h)),Bool.false_or]at x;have A:(eW d e==0)=false:=by simp[q]
     cases aY:oi d e
     ·rw[aY]at x B;simp[s,hdi];(with_reducible repeat' first|refine al ?_|refine aI (l _) ?_|refine aJ (l _) ?_|refine aI B ?_|refine aJ B ?_|simp[s,hdi,q,A]);all_goals exact bO.rng true s x b6
     ·rw[aY]at x B;simp[s,hdi];(with_reducible repeat' first|refine al ?_|refine aI (l _) ?_|refine aJ (l _) ?_|refine aI B ?_|refine aJ B ?_|simp[s,hdi,q,A]);all_goals exact bO.rng false s x b6
theorem ny.fst{s:List (List au)}{t:List au}{acc:List (List au)}(h:ny s 0 acc)(aM:s[0]? =some t):ny s 1 (if jF s t=true then acc++[t]else acc):=by
 unfold ny at*;rw[uE aM]at h;have e:(if(1:Nat)=0 then none else s[1-1]?)=some t:=by simpa using aM
 have a:acc++(t::cQ (some t) (s.drop 1)).filter (jF s)=(cQ none s).filter (jF s):=by rw[<-h];simp[cQ]
 rw[e,<-a];by_cases b:jF s t=true<;>simp[b]
theorem ny.eq{s:List (List au)}{i:Nat}{t:List au}{acc:List (List au)}(h:ny s i acc)(hi:i≠0)(a:s[i-1]? =some t)(aM:s[i]? =some t):ny s (i+1) acc:=by
 unfold ny at*;rw[if_neg hi,a,uE aM]at h;have e:(if i+1=0 then none else s[i+1-1]?)=some t:=by rw[if_neg Ω];exact aM
 rw[e,<-h];simp[cQ]
theorem ny.ne{s:List (List au)}{i:Nat}{p t:List au}{acc:List (List au)}(h:ny s i acc)(hi:i≠0)(a:s[i-1]? =some p)(aM:s[i]? =some t)(b:¬p=t):ny s (i+1) (if jF s t=true then acc++[t]else acc):=by
 unfold ny at*;rw[if_neg hi,a,uE aM]at h;have e:(if i+1=0 then none else s[i+1-1]?)=some t:=by rw[if_neg Ω];exact aM
 have d:cQ (some p) (t::s.drop (i+1))=t::cQ (some t) (s.drop (i+1)):=by simp[cQ,b]
 rw[d]at h;rw[e,<-h];by_cases c:jF s t=true<;>simp[c]
theorem apA(l:List (List au)):(pW eW l).length=l.length:=(Ac eW l).length_eq
theorem zz(S:aB->Prop)(l:List (List au))(d:List au):aA S (l.map c6++[c6 d])=True:=by have:=M4 S (l++[d]);rw[List.map_append]at this;exact eq_true this
theorem aqh(l:List (List au))(J:∀d∈l,eJ d):bL ar 140 [.slice 1 .no (l.map c6)] (.slice 1 .no ((lP l).map c6)):=by
 generalize bq:lP l=R;rw[akT]at bq;refine bs ye Tryz.func140 alu fun P=>?_;unfold Re;have N:l.length<=68719476736:=by simp[e1,eK,eV,lim]at P;omega
 simp;refine eG [0,12,13] (fun i (_:Unit)=>[(14,.int .i64 i)]) l.length (fun _ _=>True) () b6 trivial (fun _ _ _=>?_) (fun i _ hi _ _=>?_);rotate_left
 ·obtain⟨e,he,X⟩:=ev hi;have V:bL ar 82 [c6 e] (.bool true):=qL (J e (eQ he));exact iH
 simp;(with_reducible repeat' first|refine al ?_|simp);all_goals first|(refine⟨by unfold lim;omega,?_⟩)|skip
 all_goals(with_reducible repeat' first|refine al ?_|simp)
 refine cC.ob (ahu l N) (J0 l) (by unfold vf eh;exact aL) (by unfold vf eh;exact aL) (by simp[inObs,eh,Pv.look]) ?_;rintro r W ⟨rfl,rfl⟩;refine⟨yq _ _,?_⟩;obtain⟨s,w⟩:∃s,s=pW eW l:=⟨_,rfl⟩;have U:s.length=l.length:=by rw[w];exact apA l
 have G:∀d∈s,eJ d:=fun d n=>J d (by rw[w,ZP]at n;exact n);rw[<-w]at bq;rw[<-w];clear w;simp[vf,eh,bZ];refine hk (fun i (acc:List (List au))=>⟨[(5,.ptr (.obj 822) 0),(6,.slice 1 (.own (.loc 0)) (acc.map c6)),(30,.row 1 (.obj 821) s.length),(31,.int .i64 s.length),(32,.int .i64 i)],[(.obj 822,[.row 1 (.obj 821) s.length])],[(.loc 0,⟨acc.length,30,1,none⟩),(.obj 821,⟨s.length,30,1,some (s.map c6)⟩)],1,[.obj 821,.obj 822]⟩) s.length (fun i acc=>acc.length<=i/\ny s i acc) [] b6 ⟨Ψ,by simp[ny]⟩ (fun acc a _=>?_) (fun i acc hi a _=>?_)
 ·have a:=a.2;rw[ny,List.drop_length]at a;have:acc=R:=by rw[<-bq];simpa[cQ]using a
  subst this;exact cn
 ·obtain⟨O,a⟩:=a;have S:acc.length<=68719476735:=Ω
  obtain⟨t,o,aM⟩:=ev hi;have dr:=G t (eQ o);have x:bL ar 141 [c6 t] (c6 t):=aaD t dr.len;have y:(if jF s t=true then acc++[t]else acc).length<=acc.length+1:=by split<;>simp
  rcases Nat.eq_zero_or_pos i with rfl|K
  ·have M:=a.fst o;have k:(if jF s t=true then acc++[t]else acc).length<=0+1/\ny s (0+1) (if jF s t=true then acc++[t]else acc):=⟨jM y Ω,M⟩;clear a M o;simp[hi,aM];(with_reducible repeat' first|refine al ?_|simp[hi,aM]);refine eG [5,6,8,30,31,32,49,50] (fun j (b:Bool)=>[(9,.bool b),(51,.int .i64 j)]) s.length (q6 s t) true b6 (by simp[q6]) (fun keep a _=>?_) (fun j keep c a _=>?_)
   ·rw[q6,p5,<-WD]at a;rw[<-a]at k;clear a;cases keep with
    |false=>simp only[hz,if_false]at k;simp;((with_reducible repeat' first|refine al ?_|simp|((first|apply bQ|apply bT|apply bS)<;>intro h<;>try simp at h))<;>(try exact cv));all_goals exact bO.rng acc hi k b6
    |true=>
     simp only[if_true]at k;clear y;simp;((with_reducible repeat' first|refine al ?_|refine aI x ?_|refine aJ x ?_|simp|((first|apply bQ|apply bT|apply bS)<;>intro h<;>try simp at h))<;>(try exact cv));all_goals first|(refine⟨by unfold lim;omega,?_⟩)|skip
     all_goals(with_reducible repeat' first|refine al ?_|simp)
     all_goals exact bO.rng (acc++[t]) hi k ⟨by simp[fresh,aA,av,b0,inObs,Pv.look,zz],dN (by simp[fresh,aA,av,b0,inObs,Pv.look,zz]),dP (by simp[fresh,aA,av,dH,inObs,Pv.look,zz]),Ψ⟩
   ·obtain⟨d,n,hdi⟩:=ev c;have f:=a.step n;have F:=G d (eQ n);have m:bL ar 174 [c6 d,c6 t] (.bool (oi d t)):=aaP d F.len dr;have g:bL ar 173 [c6 d,c6 t] (.int .i64 (eW d t)):=JN d t;clear a n k;by_cases q:eW d t=0
    ·rw[xJ,oE ((mC.zero _ _).1 q),Bool.true_or,Bool.and_true]at f;rw[q]at g;simp[c,hdi];((with_reducible repeat' first|refine al ?_|refine aI g ?_|refine aJ g ?_|simp[c,hdi]|((first|apply bQ|apply bT|apply bS)<;>intro h<;>try simp at h))<;>(try exact cv));all_goals exact bO.rng keep c f b6
    ·rw[xJ,pj (fun h=>q ((mC.zero _ _).2 h)),Bool.false_or]at f;have v:(eW d t !=0)=true:=by simp[q]
     cases aY:oi d t
     ·rw[aY]at f m;simp only[Bool.not_false,Bool.and_true]at f;simp[c,hdi];((with_reducible repeat' first|refine al ?_|refine aI g ?_|refine aJ g ?_|refine aI m ?_|refine aJ m ?_|simp[c,hdi,q,v]|((first|apply bQ|apply bT|apply bS)<;>intro h<;>try simp at h))<;>(try exact cv));all_goals exact bO.rng keep c f b6
     ·rw[aY]at f m;simp only[Bool.not_true,Bool.and_false]at f;simp[c,hdi];((with_reducible repeat' first|refine al ?_|refine aI g ?_|refine aJ g ?_|refine aI m ?_|refine aJ m ?_|simp[c,hdi,q,v]|((first|apply bQ|apply bT|apply bS)<;>intro h<;>try simp at h))<;>(try exact cv));all_goals exact bO.rng false c f b6
  ·obtain⟨p,u⟩:∃p,s[i-1]? =some p:=⟨_,cl Ω⟩;have B:((i:Int)-1).toNat=i-1:=Ω
   have D:∀h,(s[i-1]'h)=p:=fun h=>by rw[cl h]at u;exact fK u
   have L:¬i=0:=Ω
   have A:i-1<s.length:=Ω
   have z:(0:Int)<i:=Ω
   have jl:bL ar 173 [c6 p,c6 t] (.int .i64 (eW p t)):=JN p t;by_cases E:p=t
   ·have k:acc.length<=i+1/\ny s (i+1) acc:=⟨Ω,a.eq L (by rw[u,E]) o⟩;rw[(mC.zero _ _).2 E]at jl;clear a o u;simp[hi,aM,B,D,A,z];((with_reducible repeat' first|refine al ?_|refine aI jl ?_|refine aJ jl ?_|simp[hi,aM,B,D,A,K,z]|((first|apply bQ|apply bT|apply bS)<;>intro h<;>try simp at h))<;>(try exact cv));all_goals exact bO.rng acc hi k b6
   ·have k:(if jF s t=true then acc++[t]else acc).length<=i+1/\ny s (i+1) (if jF s t=true then acc++[t]else acc):=⟨jM y Ω,a.ne L u o E⟩;have H:¬eW p t=0:=fun h=>E ((mC.zero _ _).1 h);have Q:(eW p t==0)=false:=by simp[H]
    clear a o u;simp[hi,aM,B,D,A,z];((with_reducible repeat' first|refine al ?_|refine aI jl ?_|refine aJ jl ?_|simp[hi,aM,B,D,A,K,z,H,Q]|((first|apply bQ|apply bT|apply bS)<;>intro h<;>try simp at h))<;>(try exact cv));refine eG [5,6,8,30,31,32,49,50] (fun j (b:Bool)=>[(9,.bool b),(51,.int .i64 j)]) s.length (q6 s t) true b6 (by simp[q6]) (fun keep a _=>?_) (fun j keep c a _=>?_)
    ·rw[q6,p5,<-WD]at a;rw[<-a]at k;clear a;cases keep with
     |false=>simp only[hz,if_false]at k;simp;((with_reducible repeat' first|refine al ?_|simp|((first|apply bQ|apply bT|apply bS)<;>intro h<;>try simp at h))<;>(try exact cv));all_goals exact bO.rng acc hi k b6
     |true=>
      simp only[if_true]at k;clear y;simp;(with_reducible repeat' first|refine al ?_|refine aI x ?_|refine aJ x ?_|simp);all_goals first|(refine⟨by unfold lim;omega,?_⟩)|skip
      all_goals(with_reducible repeat' first|refine al ?_|simp)
      all_goals exact bO.rng (acc++[t]) hi k ⟨by simp[fresh,aA,av,b0,inObs,Pv.look,zz],dN (by simp[fresh,aA,av,b0,inObs,Pv.look,zz]),dP (by simp[fresh,aA,av,dH,inObs,Pv.look,zz]),Ψ⟩
    ·obtain⟨d,n,hdi⟩:=ev c;have f:=a.step n;have F:=G d (eQ n);have m:bL ar 174 [c6 d,c6 t] (.bool (oi d t)):=aaP d F.len dr;have g:bL ar 173 [c6 d,c6 t] (.int .i64 (eW d t)):=JN d t;clear a n k;by_cases q:eW d t=0
     ·rw[xJ,oE ((mC.zero _ _).1 q),Bool.true_or,Bool.and_true]at f;rw[q]at g;simp[c,hdi];((with_reducible repeat' first|refine al ?_|refine aI g ?_|refine aJ g ?_|simp[c,hdi]|((first|apply bQ|apply bT|apply bS)<;>intro h<;>try simp at h))<;>(try exact cv));all_goals exact bO.rng keep c f b6
     ·rw[xJ,pj (fun h=>q ((mC.zero _ _).2 h)),Bool.false_or]at f;have v:(eW d t !=0)=true:=by simp[q]
      cases aY:oi d t
      ·rw[aY]at f m;simp only[Bool.not_false,Bool.and_true]at f;simp[c,hdi];((with_reducible repeat' first|refine al ?_|refine aI g ?_|refine aJ g ?_|refine aI m ?_|refine aJ m ?_|simp[c,hdi,q,v]|((first|apply bQ|apply bT|apply bS)<;>intro h<;>try simp at h))<;>(try exact cv));all_goals exact bO.rng keep c f b6
      ·rw[aY]at f m;simp only[Bool.not_true,Bool.and_false]at f;simp[c,hdi];((with_reducible repeat' first|refine al ?_|refine aI g ?_|refine aJ g ?_|refine aI m ?_|refine aJ m ?_|simp[c,hdi,q,v]|((first|apply bQ|apply bT|apply bS)<;>intro h<;>try simp at h))<;>(try exact cv));all_goals exact bO.rng false c f b6
theorem arf(l:List T)(h:∀t∈l,t.fit=true):bL ar 97 [.slice 4 .no (l.map T.e)] (.bool true):=by
 refine bs gR Tryz.func97 al5 fun a=>?_;unfold RP;have d:l.length<=68719476736:=by simp[e1,eK,eV,lim]at a;omega
 simp;refine eG [5,6] (fun i (_:Unit)=>[(7,.int .i64 i)]) l.length (fun _ _=>True) () b6 trivial (fun _ _ _=>?_) (fun i _ hi _ _=>?_)
 ·exact cn
 ·obtain⟨t,aM,b⟩:=ev hi;have c:=PM (h t (eQ aM));clear aM;exact iH
def ju(m:Int):cM:=⟨[(.obj 831,[.int .i64 m])],[]⟩
theorem wS(m:Int):ek (ju m):=by unfold ju;exact ek.of ⟨by intro m;simp[Pv.look],by intro m;simp[Pv.look]⟩ Ψ Ψ
theorem abB(a b:Int):Same (ju a) (ju b):=Same.keys (by simp[ju]) (by simp[ju])
theorem ag3(v m b:Int)(h:FZ v m=some b):bK ar 166 [.int .i64 v,.ptr (.obj 831) 0] (ju m) fun r d=>r= .tuple []/\d=ju b:=by
 unfold FZ at h;split at h;rotate_left
 ·cases h
 rename_i f;cases h;have a:=wS m;simp only[ju]at a⊢;by_cases hm:m<v+1
 ·rw[tK,if_pos hm];refine bK.mk mixed ye Tryz.func166 XY Ψ a.obj fun e c=>?_;unfold Ku;simp;(with_reducible repeat' first|refine al ?_|simp[hm]);(refine cO.at (ju (v+1)) Ψ (by first|exact wS _|exact wS ‹_› _) (Same.keys (by simp[ju]) (by simp[ju])) m8 m8 ?_;simp[cT,aX,a1,aV,inObs,Pv.look,ju])
 ·rw[tK,if_neg hm];refine bK.mk mixed ye Tryz.func166 XY Ψ a.obj fun e c=>?_;unfold Ku;simp;(with_reducible repeat' first|refine al ?_|simp[hm]);(refine cO.at (ju m) Ψ (by first|exact wS _|exact wS ‹_› _) (Same.keys (by simp[ju]) (by simp[ju])) m8 m8 ?_;simp[cT,aX,a1,aV,inObs,Pv.look,ju])
def FY(l:List T):Int:=l.foldl (fun m t=>t.fold tK m) 0
def H0(l:List T)(i:Nat)(m:Int):Prop:=m=FY (l.take i)
theorem aqn(l:List T)(h:∀t∈l,t.fit=true):bL ar 135 [.slice 4 .no (l.map T.e)] (.int .i64 (FY l)):=by
 have d:=arf l h;generalize bq:FY l=R;refine bs ye Tryz.func135 alB fun f=>?_;unfold Rl;have j:l.length<=68719476736:=by simp[e1,eK,eV,lim]at f;omega
 simp;(with_reducible repeat' first|refine al ?_|refine aI d ?_|refine aJ d ?_|simp);refine hk (fun i (m:Int)=>⟨[(3,.ptr (.obj 831) 0),(9,.slice 4 .no (l.map T.e)),(10,.int .i64 l.length),(11,.int .i64 i)],[(.obj 831,[.int .i64 m])],[],0,[.obj 831]⟩) l.length (H0 l) 0 b6 rfl (fun m b _=>?_) (fun i m hi b _=>?_)
 ·rw[H0,p5,bq]at b;subst b;exact cn
 ·obtain⟨t,aM,c⟩:=ev hi;have g:t.ok=true:=by have:=h t (eQ aM);simp only[T.fit,cD]at this;exact this.1
  have e:H0 l (i+1) (t.fold tK m):=by rw[H0,sj aM,FY,List.foldl_append,b];rfl
  have key:=Lz ju wS abB 166 [.ptr (.obj 831) 0] (fun a=>by simp[ju,inObs,Pv.look]) Ψ FZ (fun v a bo h=>ag3 v a bo h) t m _ (PX t m g);clear b aM;simp[hi,c];(with_reducible repeat' first|refine al ?_|simp[c,hi]);(refine cC.ob (key) (by first|exact wS _|exact wS ‹_› _) m8 m8 (by simp[inObs,Pv.look,ju]) ?_;rintro r k ⟨rfl,rfl⟩;refine⟨(Same.keys (by simp[ju]) (by simp[ju])),?_⟩;simp[bZ,ju]);(with_reducible repeat' first|refine al ?_|simp);refine bO.rng (t.fold tK m) hi e ?_;exact b6
theorem aaC{s:List au}(l:eJ s){n:Int}(p:0<=n):bL ar 85 [.slice 5 .no (s.map au.e),.int .i64 n] (.bool (s.all (lJ n))):=by
 have u:=l.len;generalize bq:s.all (lJ n)=R;refine bs ye Tryz.func85 alC fun w=>?_;unfold Rm;simp;refine eG [1,7,8] (fun i (_:Unit)=>[(9,.int .i64 i)]) s.length (th (lJ n) s) () b6 (fun k b f=>Ω) (fun _ a _=>?_) (fun i _ hi a _=>?_)
 ·have:R=true:=by rw[<-bq,jL];intro b ae;obtain⟨k,f,e⟩:=oC ae;exact a k b f (by rw[cl f,e])
  rw[this];exact cn
 ·obtain⟨b,c,v⟩:=ev hi;have g:lJ n b=false->R=false:=fun h=>by rw[<-bq,Bool.eq_false_iff];intro j;rw[jL]at j;rw[j b (eQ c)]at h;cases h
  have d:=aqn [b.t] (fun t aM=>by simp at aM;subst aM;exact l.fit b (eQ c));have hle:=PY (n:=n) b.t 0;rw[show FY [b.t]=b.t.fold tK 0 from rfl]at d;simp only[fA,pg]at d;generalize b.t.fold tK 0=m at d hle;by_cases J:b.v<n
  ·have o:¬n<=b.v:=Ω
   cases U:jy n b.t
   ·have q:n<m:=by rw[U]at hle;simp at hle;omega
    rw[g (by simp[lJ,U])];clear a c hle;exact cn
   ·have q:¬n<m:=by rw[U]at hle;simp[p]at hle;omega
    have r:=a.step c (by simp[lJ,J,U]);clear a c hle;exact iH
  ·have o:n<=b.v:=Ω
   rw[g (by simp[lJ,J])];clear a c hle;exact cn
def wY:C:=(aa [dc 1 0,bt 2 false] (.seq (aa (aH 11 0 1 1::aw 12 1 11::aT 13 .lss 12 0::I 14 13::ay 14 false (aH 15 0 1 1)::ay 14 false (aw 16 1 15)::ay 14 false (aT 17 .gtr 16 100000)::dy 18 14 17::I 19 18::ay 19 false (aH 20 1 1 1)::ay 19 false (aw 21 1 20)::ay 19 false (cG 22 82 21)::ay 19 false (cJ 23 22)::dy 24 19 23::I 25 24::ay 25 false (aH 26 3 1 1)::ay 25 false (aw 27 1 26)::ay 25 false (cG 28 83 27)::ay 25 false (cJ 29 28)::dy 30 25 29::I 31 30::ay 31 false (aH 32 4 1 1)::ay 31 false (aw 33 1 32)::ay 31 false (cG 34 84 33)::ay 31 false (cJ 35 34)::dy 36 31 35::I 37 36::ay 37 false (aH 38 1 1 1)::ay 37 false (aw 39 1 38)::ay 37 false (aH 40 0 1 1)::ay 37 false (aw 41 1 40)::ay 37 false (cq 42 85 39 41)::ay 37 false (cJ 43 42)::dy 44 37 43::[]) (aU 44 (aa [bt 2 false] .ret) .skip)) (.seq (aa [aH 45 2 1 1,aw 46 1 45,cp 47 46,b1 48 0] (fR 49 48 47 (.seq (.block 1 (aa [cx 50 1 46 48,aw 51 1 50,I 4 51] (aa [I 52 4,cG 53 82 52,cJ 54 53,I 55 54,cg 55 false 56 4,ay 55 false (aH 57 0 1 1),ay 55 false (aw 58 1 57),ay 55 false (cq 59 85 56 58),ay 55 false (cJ 60 59),dy 61 55 60] (aU 61 (aa [bt 2 false] .ret) .skip)))) (.region [aT 62 .add 48 1,I 48 62])))) (.seq (aa [aH 63 3 1 1,aw 64 1 63,cp 65 64,b1 66 0] (.block 2 (.loop (aa [bp 67 .lss 66 65] (.seq (aU 67 .skip (.exit 2)) (.seq (.block 3 (aa [cx 68 2 64 66,bg 69 2 68,c8 (.alloc 6 none (.agg [.int .i64 0,.int .i64 0])),b7 2 6 69] (aa [aH 70 0 1 6,aw 71 1 70,aH 72 0 1 1,aw 73 1 72,bp 74 .geq 71 73] (aU 74 (aa [bt 2 false] .ret) .skip)))) (.region [aT 75 .add 66 1,I 66 75]))))))) (.seq (aa [aH 76 4 1 1,aw 77 1 76,cp 78 77,b1 79 0] (.block 4 (.loop (aa [bp 80 .lss 79 78] (.seq (aU 80 .skip (.exit 4)) (.seq (.block 5 (aa [cx 81 2 77 79,bg 82 2 81,c8 (.alloc 8 none (.agg [.int .i64 0,.str []])),b7 2 8 82] (aa [aH 83 0 1 8,aw 84 1 83,aH 85 0 1 1,aw 86 1 85,bp 87 .geq 84 86] (aU 87 (aa [bt 2 false] .ret) .skip)))) (.region [aT 88 .add 79 1,I 79 88]))))))) (aa [bg 90 5 1,cG 91 86 90,I 89 91,dn 92 0 89,dn 93 1 89,eg 9 pP,b7 5 9 92,I 10 93] (aa [I 94 10,I 95 94,ay 95 true (bg 96 5 9),ay 95 true (bg 97 5 1),ay 95 true (cq 98 87 96 97),ef 99 95 98,I 2 99] .ret)))))))
def Gx:C:=(aa [dc 1 0,eg 2 pP,bt 3 false] (aa [aH 26 1 1 1,aw 27 1 26,aH 28 3 1 1,aw 29 1 28,cq 30 136 27 29,I 25 30,dn 31 0 25,dn 32 1 25,I 4 31,I 5 32] (aa [aH 34 1 1 1,aw 35 1 34,aH 36 4 1 1,aw 37 1 36,cq 38 137 35 37,I 33 38,dn 39 0 33,dn 40 1 33,I 6 39,I 7 40] (.seq (aa [I 41 5,cJ 42 41,I 43 42,cg 43 false 44 7,ay 43 false (cJ 45 44),dy 46 43 45] (aU 46 (aa [mf 47 pP [],b7 5 2 47,bt 3 false] .ret) .skip)) (aa [c8 (.mkmap 48 none),I 8 48] (.seq (aa [I 49 4,cp 50 49,b1 51 0] (fR 52 51 50 (.seq (.block 1 (aa [cx 53 2 49 51,bg 54 2 53,c8 (.alloc 10 none (.agg [.int .i64 0,.int .i64 0])),b7 2 10 54] (aa [aH 55 1 1 10,aw 56 1 55,aT 57 .eql 56 3] (aU 57 (.region [I 58 8,aH 59 0 1 10,aw 60 1 59,c8 (.mput .i (.t 58) (.t 60) (.c (.bool true)))]) .skip)))) (.region [aT 61 .add 51 1,I 51 61])))) (aa [eD 62 2 82 [],I 11 62] (.seq (aa [I 63 6,cp 64 63,b1 65 0] (.block 2 (.loop (aa [bp 66 .lss 65 64] (.seq (aU 66 .skip (.exit 2)) (.seq (.block 3 (aa [cx 67 2 63 65,bg 68 2 67,c8 (.alloc 13 none (.agg [.int .i64 0,.str []])),b7 2 13 68] (aa [I 69 8,aH 70 0 1 13,aw 71 1 70,bG 72 (.mget .i (.bool false) false (.t 69) (.t 71)),cJ 73 72] (aU 73 (.region [I 74 11,bg 75 2 13,eD 76 2 82 [.t 75],hW 77 2 82 74 76,I 11 77]) .skip)))) (.region [aT 78 .add 65 1,I 65 78]))))))) (aa [eD 79 1 30 [],I 14 79] (.seq (aa [aH 80 2 1 1,aw 81 1 80,cp 82 81,b1 83 0] (.block 4 (.loop (aa [bp 84 .lss 83 82] (.seq (aU 84 .skip (.exit 4)) (.seq (.block 5 (aa [cx 85 1 81 83,aw 86 1 85,I 16 86] (aa [aH 88 1 1 1,aw 89 1 88,I 90 16,cq 91 138 89 90,I 87 91,dn 92 0 87,dn 93 1 87,I 17 92,I 18 93] (.seq (aa [I 94 18,cJ 95 94] (aU 95 (.exit 5) .skip)) (aa [I 97 17,I 98 4,cq 99 136 97 98,I 96 99,dn 100 0 96,dn 101 1 96,I 19 100,I 20 101] (aa [I 103 17,I 104 11,cq 105 137 103 104,I 102 105,dn 106 0 102,dn 107 1 102,I 21 106,I 22 107] (.seq (aa [I 108 20,cJ 109 108,I 110 109,cg 110 false 111 22,ay 110 false (cJ 112 111),dy 113 110 112] (aU 113 (.exit 5) .skip)) (aa [aH 114 1 1 1,aw 115 1 114,I 116 17,cq 117 139 115 116,I 23 117] (.seq (aa [I 118 23,cp 119 118,aT 120 .eql 119 0] (aU 120 (aa [mf 121 pP [],b7 5 2 121,bt 3 false] .ret) .skip)) (.region [I 122 14,I 123 23,eD 124 1 30 [.t 123],hW 125 1 30 122 124,I 14 125])))))))))) (.region [aT 126 .add 83 1,I 83 126]))))))) (aa [I 127 14,cG 128 140 127,I 24 128] (.seq (aa [I 129 24,cp 130 129,aT 131 .gtr 130 30] (aU 131 (aa [mf 132 pP [],b7 5 2 132,bt 3 false] .ret) .skip)) (.seq (.drawn true 142 [aH 133 0 1 1,aw 134 1 133,aH 135 1 1 1,aw 136 1 135,cG 137 141 136,I 138 24,I 139 4,I 140 11,mf 141 pP [(0,1,(.t 134)),(1,1,(.t 137)),(2,1,(.t 138)),(3,1,(.t 139)),(4,1,(.t 140))],b7 5 2 141,bt 3 true]) .ret)))))))))))))
def yC:C:=(aa [dc 2 0,dc 3 1,bt 4 false] (.seq (aa (aH 8 0 1 2::aw 9 1 8::aH 10 0 1 3::aw 11 1 10::bp 12 .neq 9 11::I 13 12::ay 13 false (aH 14 1 1 2)::ay 13 false (aw 15 1 14)::ay 13 false (aH 16 1 1 3)::ay 13 false (aw 17 1 16)::ay 13 false (cq 18 142 15 17)::ay 13 false (cJ 19 18)::dy 20 13 19::I 21 20::ay 21 false (aH 22 2 1 2)::ay 21 false (aw 23 1 22)::ay 21 false (cp 24 23)::ay 21 false (aH 25 2 1 3)::ay 21 false (aw 26 1 25)::ay 21 false (cp 27 26)::ay 21 false (bp 28 .neq 24 27)::dy 29 21 28::I 30 29::ay 30 false (aH 31 3 1 2)::ay 30 false (aw 32 1 31)::ay 30 false (cp 33 32)::ay 30 false (aH 34 3 1 3)::ay 30 false (aw 35 1 34)::ay 30 false (cp 36 35)::ay 30 false (bp 37 .neq 33 36)::dy 38 30 37::I 39 38::ay 39 false (aH 40 4 1 2)::ay 39 false (aw 41 1 40)::ay 39 false (cp 42 41)::ay 39 false (aH 43 4 1 3)::ay 39 false (aw 44 1 43)::ay 39 false (cp 45 44)::ay 39 false (bp 46 .neq 42 45)::dy 47 39 46::[]) (aU 47 (aa [bt 4 false] .ret) .skip)) (.seq (aa [aH 48 2 1 2,aw 49 1 48,cp 50 49,b1 51 0] (fR 52 51 50 (.seq (.block 1 (aa [I 53 51,I 5 53] (.seq (.drawn true 103 [aH 54 2 1 2,aw 55 1 54,I 56 5,cx 57 1 55 56,aw 58 1 57,aH 59 2 1 3,aw 60 1 59,I 61 5,cx 62 1 60 61,aw 63 1 62,cq 64 142 58 63,cJ 65 64]) (aU 65 (aa [bt 4 false] .ret) .skip)))) (.region [aT 66 .add 51 1,I 51 66])))) (.seq (aa [aH 67 3 1 2,aw 68 1 67,cp 69 68,b1 70 0] (.block 2 (.loop (aa [bp 71 .lss 70 69] (.seq (aU 71 .skip (.exit 2)) (.seq (.block 3 (aa [I 72 70,I 6 72] (.seq (.drawn true 103 [aH 73 3 1 2,aw 74 1 73,I 75 6,cx 76 2 74 75,bg 77 2 76,aH 78 3 1 3,aw 79 1 78,I 80 6,cx 81 2 79 80,bg 82 2 81,bG 83 (.beq true (some [false,false]) (.t 77) (.t 82))]) (aU 83 (aa [bt 4 false] .ret) .skip)))) (.region [aT 84 .add 70 1,I 70 84]))))))) (.seq (aa [aH 85 4 1 2,aw 86 1 85,cp 87 86,b1 88 0] (.block 4 (.loop (aa [bp 89 .lss 88 87] (.seq (aU 89 .skip (.exit 4)) (.seq (.block 5 (aa [I 90 88,I 7 90] (.seq (.drawn true 103 [aH 91 4 1 2,aw 92 1 91,I 93 7,cx 94 2 92 93,bg 95 2 94,aH 96 4 1 3,aw 97 1 96,I 98 7,cx 99 2 97 98,bg 100 2 99,bG 101 (.beq true (some [false,true]) (.t 95) (.t 100))]) (aU 101 (aa [bt 4 false] .ret) .skip)))) (.region [aT 102 .add 88 1,I 88 102]))))))) (aa [bt 4 true] .ret))))))
def JC:List (Nat×dE):=[
 (3,⟨1,8,.int .i64,.int .i64 0⟩),
 (4,⟨1,1,.bool,.bool false⟩),
 (9,⟨1,16,.str,.str []⟩),
 (30,⟨1,24,.slice 74,.slice 5 .nil []⟩),
 (31,⟨1,24,.slice 30,.slice 1 .nil []⟩),
 (32,⟨1,24,.slice 78,.slice 2 .nil []⟩),
 (33,⟨1,24,.slice 82,.slice 2 .nil []⟩),
 (35,⟨5,104,.struct [(0,3),(1,30),(2,31),(3,32),(4,33)],.agg [.int .i64 0,.slice 5 .nil [],.slice 1 .nil [],.slice 2 .nil [],.slice 2 .nil []]⟩),
 (78,⟨2,16,.struct [(0,3),(1,3)],.agg [.int .i64 0,.int .i64 0]⟩),
 (82,⟨2,24,.struct [(0,3),(1,9)],.agg [.int .i64 0,.str []]⟩),
 (91,⟨1,8,.map 3 4,.junk⟩)]
theorem pb:e6 ar JC=true:=an
theorem zJ:b4 JC wY [.tmp 2] 1 Tryz.f32=true:=an
theorem N0:b4 JC Gx [.cell 2 true 5,.tmp 3] 1 Tryz.f86=true:=an
theorem B8:b4 JC yC [.tmp 4] 2 Tryz.f87=true:=an
def dW.e(s:dW):ah:= .agg [.int .i64 s.n,.slice 5 .no (s.b.map au.e),.slice 1 .no (s.d.map c6),.slice 2 .no (s.k.map bN.e),.slice 2 .no (s.m.map bk.e)]
@[simp]theorem aun(S:aB->Prop)(s:dW):av S s.e=True:=by simp[dW.e,av,aA]
def wy(o:aW dW):ah:= .tuple [(o.getD sp).e,.bool o.isSome]
@[simp]theorem aum(S:aB->Prop)(o:aW dW):av S (wy o)=True:=by simp[wy,av,aA]
def vQ(k:List bN)(i:Nat)(l:List (Int×Bool)):Prop:= ∀v,(dp v l).getD false=(k.take i).any fun x=>x.v==v&&x.k==3
theorem vQ.put{k:List bN}{i:Nat}{l:List (Int×Bool)}(h:vQ k i l){x:bN}(b:k[i]? =some x)(a:x.k=3):vQ k (i+1) (fj x.v true l):=fun v=>by
 rw[ov,sj b,List.any_append,<-h v];by_cases e:v=x.v
 ·rw[if_pos e];simp[e,a]
 ·rw[if_neg e];have:(x.v==v)=false:=by simp;exact fun h=>e h.symm
  simp[this]
theorem vQ.skip{k:List bN}{i:Nat}{l:List (Int×Bool)}(h:vQ k i l){x:bN}(b:k[i]? =some x)(a:¬x.k=3):vQ k (i+1) l:=fun v=>by
 rw[sj b,List.any_append,<-h v];have:(x.k==3)=false:=by simp[a]
 simp[this]
theorem vQ.fin{k:List bN}{l:List (Int×Bool)}(h:vQ k k.length l)(a:jl k)(x:bk):(dp x.v l).getD false= !lA k x:=by rw[h x.v,p5,abP a.asc,lA,bne,Bool.not_not]
def uz(k:List bN)(m:List bk)(i:Nat)(a:List bk):Prop:=a=(m.take i).filter (lA k)
theorem uz.step{k:List bN}{m:List bk}{i:Nat}{a:List bk}(h:uz k m i a){x:bk}(b:m[i]? =some x):uz k m (i+1) (if lA k x=true then a++[x]else a):=by
 rw[uz,sj b,List.filter_append,<-h];by_cases e:lA k x=true
 ·rw[if_pos e];simp[e]
 ·rw[if_neg e];simp[e]
theorem BN(S:aB->Prop)(l:List bk)(d:bk):aA S (l.map bk.e++[d.e])=True:=by have:=M3 S (l++[d]);rw[List.map_append]at this;exact eq_true this
theorem Xm{k:List bN}{m:List bk}(h:iX m):iX (m.filter (lA k)):=⟨fun x a=>h.at' x (nN.1 a).1,abg _ h.asc⟩
theorem Z9{G:List (List bV)}{k:List bN}{m:List bk}(h:o8 G m):o8 G (m.filter (lA k)):=fun x a=>h x (nN.1 a).1
theorem q7.skip{b:List au}{k:List bN}{m:List bk}{D:List (List au)}{i:Nat}{a:List (List au)}(h:q7 b k m D i a){d:List au}(c:D[i]? =some d)(he:∀r,hn b k m (d::r)=hn b k m r):q7 b k m D (i+1) a:=⟨by have:=h.1;omega,h.2.1,by rw[<-h.2.2,uE c,he]⟩
theorem q7.snoc{b:List au}{k:List bN}{m:List bk}{D:List (List au)}{i:Nat}{a:List (List au)}(h:q7 b k m D i a){d x:List au}(f:D[i]? =some d)(e:eJ x)(he:∀r,hn b k m (d::r)=(hn b k m r).map (x:: ·)):q7 b k m D (i+1) (a++[x]):=
 ⟨by have:=h.1;simp;omega,fun y c=>by
  rcases kr.1 c with c|c
  ·exact h.2.1 y c
  ·simp at c;subst c;exact e,by
  rw[<-h.2.2,uE f,he,Option.map_map];congr 1;funext r;simp⟩
theorem q7.stop{b:List au}{k:List bN}{m:List bk}{D:List (List au)}{i:Nat}{a:List (List au)}(h:q7 b k m D i a){d:List au}(c:D[i]? =some d)(he:∀r,hn b k m (d::r)=none):hn b k m D=none:=by rw[<-h.2.2,uE c,he];rfl
theorem q7.fin{b:List au}{k:List bN}{m:List bk}{D:List (List au)}{a:List (List au)}(h:q7 b k m D D.length a):hn b k m D=some a:=by rw[<-h.2.2,List.drop_length];simp[hn]
theorem vU(S:aB->Prop)(l:List (List au))(d:List au):aA S (l.map c6++[.slice 5 .no (d.map au.e)])=True:=zz S l d
theorem Dp{d:List au}(a:eJ d):∀e∈ig d,e.1.ok=true/\e.2.ok=true:=fun e he=>by obtain⟨c,ax,rfl⟩:=iL.1 he;have:=a.ok c ax;exact⟨by simpa[T.ok]using this.1,this.2⟩
theorem aq3{s:dW}(h:Ad s){G:List (List bV)}(n1:G.length<=687000)(aY:o8 G s.m):bL ar 86 [s.e] (wy (nc s)):=by
 generalize f:nc s=O;have w:=aaz h.b h.k;have u:=aaA h.b h.m n1 aY;have E:=fun k=>I6 (acc:=[]) (a:=k) h.b h.k.at' ⟨Ψ,Ψ⟩;have D:=fun m=>I7 (acc:=[]) (a:=m) h.b h.m.at' ⟨Ψ,by simp[ir]⟩;have F:=fun m=>OL (acc:=[]) (a:=m) (s:=s.b) aY (fun x g=>by simp at g);have ae:=h.b;have aQ:=h.d;clear h aY;unfold nc at f;obtain⟨n,b,d,R,m0⟩:=s;simp only at w u E D F ae aQ f;have dV:=ae.len;simp only[dW.e];generalize gA b R []=ok at w f E;generalize gB b m0 []=om at u f D F;cases ok with
 |none=>
  simp only at f;subst f;simp only[gv]at w;simp only[jW]at u;clear E D F;refine bs pb Tryz.func86 N0 fun aP=>?_;unfold Gx;simp;(with_reducible repeat' first|refine al ?_|refine aI w ?_|refine aJ w ?_|refine aI u ?_|refine aJ u ?_|simp);all_goals simp[bE,aX,a1,aV]
  all_goals simp[wy,sp,dW.e]
 |some k=>
  simp only at f;cases om with
  |none=>
   simp only at f;subst f;simp only[gv]at w;simp only[jW]at u;clear E D F;refine bs pb Tryz.func86 N0 fun aP=>?_;unfold Gx;simp;(with_reducible repeat' first|refine al ?_|refine aI w ?_|refine aJ w ?_|refine aI u ?_|refine aJ u ?_|simp);all_goals simp[bE,aX,a1,aV]
   all_goals simp[wy,sp,dW.e]
  |some m=>
   simp only at f;have X:=E k rfl;have V:=D m rfl;have W:=F m rfl;have iE:=xE X;have kV:m.length<=68719470000:=by have:=ES V W;omega
   have Bq:=Xm (k:=k) V;have Bk:=Z9 (k:=k) W;have aiF:(m.filter (lA k)).length<=68719470000:=jM (List.length_filter_le _ _) kV;simp only[gv,mi,tS]at w;simp only[jW,mi,tS]at u;clear E D F;refine bs pb Tryz.func86 N0 fun aP=>?_;unfold Gx;have qY:d.length<=68719476736:=by simp[e1,eK,eV,lim]at aP;omega
   simp;(with_reducible repeat' first|refine al ?_|refine aI w ?_|refine aJ w ?_|refine aI u ?_|refine aJ u ?_|simp);refine hk (fun i (l:List (Int×Bool))=>⟨[(1,.ptr (.loc 0) 0),(2,.ptr (.loc 1) 0),(4,.slice 2 .no (k.map bN.e)),(6,.slice 2 .no (m.map bk.e)),(8,.gmap (.loc 2)),(49,.slice 2 .no (k.map bN.e)),(50,.int .i64 k.length),(51,.int .i64 i)],[(.loc 0,[.int .i64 n,.slice 5 .no (b.map au.e),.slice 1 .no (d.map c6),.slice 2 .no (R.map bN.e),.slice 2 .no (m0.map bk.e)]),(.loc 1,[.int .i64 0,.slice 5 .nil [],.slice 1 .nil [],.slice 2 .nil [],.slice 2 .nil []]),(.loc 2,rb l)],[],3,[]⟩) k.length (vQ k) [] ⟨by simp[fresh,aA,av,b0,inObs,Pv.look,Nk],dN (by simp[fresh,aA,av,b0,inObs,Pv.look,Nk]),dP (by simp[fresh,aA,av,dH,inObs,Pv.look,Nk]),Ψ⟩ (fun v=>by simp[dp]) (fun l c _=>?_) (fun i l hi c _=>?_);rotate_left
   ·obtain⟨x,g,o⟩:=ev hi;by_cases Z:x.k=3
    ·have j:=c.put g Z;clear c g;exact iH
    ·have j:=c.skip g Z;have uf:(x.k==3)=false:=by simp[Z]
     clear c g;exact iH
   have hints:=c.fin X;clear c;simp;(with_reducible repeat' first|refine al ?_|simp);refine hk (fun i (a:List bk)=>⟨[(1,.ptr (.loc 0) 0),(2,.ptr (.loc 1) 0),(4,.slice 2 .no (k.map bN.e)),(8,.gmap (.loc 2)),(11,.slice 2 (.own (.loc 3)) (a.map bk.e)),(63,.slice 2 .no (m.map bk.e)),(64,.int .i64 m.length),(65,.int .i64 i)],[(.loc 0,[.int .i64 n,.slice 5 .no (b.map au.e),.slice 1 .no (d.map c6),.slice 2 .no (R.map bN.e),.slice 2 .no (m0.map bk.e)]),(.loc 1,[.int .i64 0,.slice 5 .nil [],.slice 1 .nil [],.slice 2 .nil [],.slice 2 .nil []]),(.loc 2,rb l)],[(.loc 3,⟨a.length,82,2,none⟩)],4,[]⟩) m.length (uz k m) [] b6 (by simp[uz]) (fun a c _=>?_) (fun i a hi c _=>?_);rotate_left
   ·obtain⟨x,g,o⟩:=ev hi;have sO:a.length<=68719470000:=by
     have:a.length<=(m.take i).length:=by rw[c];exact List.length_filter_le _ _
     simp at this;omega
    have j:=c.step g;have J:=hints x;cases S:lA k x
    ·rw[S]at j J;simp only[hz,if_false,Bool.not_false]at j J;clear c g S;simp[hi,o];((with_reducible repeat' first|refine al ?_|simp[hi,o,J]|((first|apply bQ|apply bT|apply bS)<;>intro h<;>try simp at h))<;>(try exact cv));all_goals exact bO.rng a hi j b6
    ·rw[S]at j J;simp only[if_true,Bool.not_true]at j J;clear c g S;simp[hi,o];((with_reducible repeat' first|refine al ?_|simp[hi,o,J]|((first|apply bQ|apply bT|apply bS)<;>intro h<;>try simp at h))<;>(try exact cv));all_goals first|(refine⟨by unfold lim;omega,?_⟩)|skip
     all_goals(with_reducible repeat' first|refine al ?_|simp)
     all_goals exact bO.rng (a++[x]) hi j ⟨by simp[fresh,aA,av,b0,inObs,Pv.look,BN],dN (by simp[fresh,aA,av,b0,inObs,Pv.look,BN]),dP (by simp[fresh,aA,av,dH,inObs,Pv.look,BN]),Ψ⟩
   rw[uz,p5]at c;rw[<-c]at Bq Bk aiF f;clear c hints iE V W;simp;(with_reducible repeat' first|refine al ?_|simp);refine hk (fun i (L:List (List au))=>⟨[(1,.ptr (.loc 0) 0),(2,.ptr (.loc 1) 0),(4,.slice 2 .no (k.map bN.e)),(11,.slice 2 (.own (.loc 3)) (a.map bk.e)),(14,.slice 1 (.own (.loc 4)) (L.map c6)),(81,.slice 1 .no (d.map c6)),(82,.int .i64 d.length),(83,.int .i64 i)],[(.loc 0,[.int .i64 n,.slice 5 .no (b.map au.e),.slice 1 .no (d.map c6),.slice 2 .no (R.map bN.e),.slice 2 .no (m0.map bk.e)]),(.loc 1,[.int .i64 0,.slice 5 .nil [],.slice 1 .nil [],.slice 2 .nil [],.slice 2 .nil []])],[(.loc 3,⟨a.length,82,2,none⟩),(.loc 4,⟨L.length,30,1,none⟩)],5,[]⟩) d.length (q7 b k a d) [] b6 ⟨Ψ,Ψ,Ψ⟩ (fun L c _=>?_) (fun i L hi c _=>?_)
   ·have kd:=c.fin;have xf:=c.2.1;rw[kd]at f;simp only at f;have K:=aqh L xf;have P:bL ar 141 [.slice 5 .no (b.map au.e)] (.slice 5 .no (b.map au.e)):=aaD b dV;clear c kd xf;generalize lP L=M at K f;by_cases N:M.length<=30
    ·have Y:¬(30:Int)<M.length:=Ω
     rw[if_pos N]at f;subst f;simp;(with_reducible repeat' first|refine al ?_|refine aI K ?_|refine aJ K ?_|refine aI P ?_|refine aJ P ?_|simp[N,Y]);all_goals simp[bE,aX,a1,aV]
     all_goals simp[wy,dW.e]
    ·have Y:(30:Int)<M.length:=Ω
     rw[if_neg N]at f;subst f;simp;(with_reducible repeat' first|refine al ?_|refine aI K ?_|refine aJ K ?_|refine aI P ?_|refine aJ P ?_|simp[N,Y]);all_goals simp[bE,aX,a1,aV]
     all_goals simp[wy,sp,dW.e]
   ·obtain⟨x,g,o⟩:=ev hi;have gW:=aQ x (eQ g);have UW:=c.1;have p:bL ar 138 [.slice 5 .no (b.map au.e),c6 x] (gI (mgu b (ig x))):=aqe ae gW;simp only[gI]at p;cases hu:mgu b (ig x)with
    |none=>have j:=c.skip g fun r=>Na hu;rw[hu]at p;simp only[oD,nh]at p;clear c g f;exact iH
    |some y=>
     have Q:=ae.mgu (Dp gW) hu;rw[hu]at p;simp only[mi,tS]at p;have t:=aaz Q X;have q:=aaA Q Bq n1 Bk;have H:=aqj ae Q;simp only[gv]at t;simp only[jW]at q;by_cases A:gA y k []=none\/gB y a []=none
     ·have j:=c.skip g fun r=>M9 hu A;clear c g f hu;rcases A with e|e
      ·rw[e]at t;simp only[oD,nh]at t;exact iH
      ·rw[e]at q;simp only[oD,nh]at q;cases (gA y k []).isSome
       ·simp[hi,o];((with_reducible repeat' first|refine al ?_|refine aI p ?_|refine aJ p ?_|refine aI t ?_|refine aJ t ?_|refine aI q ?_|refine aJ q ?_|simp[hi,o]|((first|apply bQ|apply bT|apply bS)<;>intro h<;>try simp at h))<;>(try exact cv));all_goals exact bO.rng L hi j b6
       ·simp[hi,o];((with_reducible repeat' first|refine al ?_|refine aI p ?_|refine aJ p ?_|refine aI t ?_|refine aJ t ?_|refine aI q ?_|refine aJ q ?_|simp[hi,o]|((first|apply bQ|apply bT|apply bS)<;>intro h<;>try simp at h))<;>(try exact cv));all_goals exact bO.rng L hi j b6
     ·have ai:(gA y k []).isSome=true:=by cases e:gA y k []with|none=>exact absurd (.inl e) A|some _=>rfl
      have aC:(gB y a []).isSome=true:=by cases e:gB y a []with|none=>exact absurd (.inr e) A|some _=>rfl
      rw[ai]at t;rw[aC]at q;by_cases B:ha b y=[]
      ·have ag:=c.stop g fun r=>M8 hu A B;rw[ag]at f;simp only at f;subst f;rw[B]at H;simp only[pg]at H;clear c g hu A;simp[hi,o];((with_reducible repeat' first|refine al ?_|refine aI p ?_|refine aJ p ?_|refine aI t ?_|refine aJ t ?_|refine aI q ?_|refine aJ q ?_|refine aI H ?_|refine aJ H ?_|simp[hi,o]|((first|apply bQ|apply bT|apply bS)<;>intro h<;>try simp at h))<;>(try exact cv));all_goals simp[bE,aX,a1,aV]
       all_goals simp[wy,sp,dW.e]
      ·have j:=c.snoc g (Iu (b:=b) Q) fun r=>Nb hu A B;have oU:¬((ha b y).length:Int)=0:=by have:(ha b y).length≠0:=fun h=>B (List.length_eq_zero_iff.1 h);omega
       have xr:(((ha b y).length:Int)==0)=false:=by simp[B]
       have U:bL ar 139 [.slice 5 .no (b.map au.e),.slice 5 .no (y.map au.e)] (c6 (ha b y)):=H;clear c g hu A f H;generalize ha b y=z at U j oU xr B;simp only[c6]at U;simp[hi,o];(with_reducible repeat' first|refine al ?_|refine aI p ?_|refine aJ p ?_|refine aI t ?_|refine aJ t ?_|refine aI q ?_|refine aJ q ?_|refine aI U ?_|refine aJ U ?_|simp[hi,o,oU,xr,B]);all_goals first|(refine⟨by unfold lim;omega,?_⟩)|skip
       all_goals(with_reducible repeat' first|refine al ?_|simp)
       all_goals exact bO.rng (L++[z]) hi j ⟨by simp[fresh,aA,av,b0,inObs,Pv.look,vU,c6],dN (by simp[fresh,aA,av,b0,inObs,Pv.look,vU,c6]),dP (by simp[fresh,aA,av,dH,inObs,Pv.look,vU,c6]),Ψ⟩
@[simp]theorem ar7(neg:Bool)(x y:bN):je neg (some [false,false]) x.e y.e=some (True,.bool (if neg then !decide (x=y)else decide (x=y))):=by
 have h:(x.v==y.v&&(x.k==y.k&&true))=decide (x=y):=by rw[ry];simp only[Bool.and_true,cD,dS,e8];cases x;cases y;simp
 rw[<-h];rfl
@[simp]theorem ar8(neg:Bool)(x y:bk):je neg (some [false,true]) x.e y.e=some (True,.bool (if neg then !decide (x=y)else decide (x=y))):=by
 have h:(x.v==y.v&&(x.s==y.s&&true))=decide (x=y):=by rw[ry];simp only[Bool.and_true,cD,dS,e8];cases x;cases y;simp
 rw[<-h];rfl
theorem aqy(x y:List au)(h:x.length<=1000000):bL ar 142 [c6 x,c6 y] (.bool (decide (x=y))):=aaF x y h
theorem aq2(a c:dW)(L:a.b.length<=1000000)(N:∀x∈a.d,x.length<=1000000):bL ar 87 [a.e,c.e] (.bool (decide (a=c))):=by
 obtain⟨n,b,d,k,m⟩:=a;obtain⟨n',cb,t,u,s⟩:=c;simp only at L N;generalize bq:decide ((⟨n,b,d,k,m⟩:dW)=⟨n',cb,t,u,s⟩)=R;simp only[dW.mk.injEq,dW.e]at bq⊢;by_cases H:n=n';rotate_left
 ·have o:R=false:=by rw[<-bq];simp[H]
  have V:(n !=n')=true:=by simp[H]
  rw[o];clear bq o;refine bs pb Tryz.func87 B8 fun v=>?_;unfold yC;exact cn
 subst H;have e:=aaF b cb L;by_cases G:b=cb;rotate_left
 ·have o:R=false:=by rw[<-bq];simp[G]
  rw[pj G]at e;rw[o];clear bq o;refine bs pb Tryz.func87 B8 fun v=>?_;unfold yC;have F:=e;exact cn
 subst G;rw[oE rfl]at e;by_cases E:d.length=t.length;rotate_left
 ·have o:R=false:=by rw[<-bq];simp only[iq];rintro⟨_,_,rfl,_⟩;exact E rfl
  have W:((d.length:Int) !=t.length)=true:=by simp;omega
  rw[o];clear bq o;refine bs pb Tryz.func87 B8 fun v=>?_;unfold yC;have F:=e;exact cn
 by_cases A:k.length=u.length;rotate_left
 ·have o:R=false:=by rw[<-bq];simp only[iq];rintro⟨_,_,_,rfl,_⟩;exact A rfl
  have P:((k.length:Int) !=u.length)=true:=by simp;omega
  rw[o];clear bq o;refine bs pb Tryz.func87 B8 fun v=>?_;unfold yC;have F:=e;exact cn
 by_cases D:m.length=s.length;rotate_left
 ·have o:R=false:=by rw[<-bq];simp only[iq];rintro⟨_,_,_,_,rfl⟩;exact D rfl
  have O:((m.length:Int) !=s.length)=true:=by simp;omega
  rw[o];clear bq o;refine bs pb Tryz.func87 B8 fun v=>?_;unfold yC;have F:=e;exact cn
 have K:d≠t->R=false:=fun h=>by rw[<-bq];simp[h]
 have J:k≠u->R=false:=fun h=>by rw[<-bq];simp[h]
 have Q:m≠s->R=false:=fun h=>by rw[<-bq];simp[h]
 refine bs pb Tryz.func87 B8 fun v=>?_;unfold yC;have X:t.length<=68719476736:=by simp[e1,eK,eV,lim]at v;omega
 have U:u.length<=68719476736:=by simp[e1,eK,eV,lim]at v;omega
 have S:s.length<=68719476736:=by simp[e1,eK,eV,lim]at v;omega
 clear v;simp;(with_reducible repeat' first|refine al ?_|refine aI e ?_|refine aJ e ?_|simp[E,A,D]);have w:=K;refine eG [2,3,50] (fun i (_:Unit)=>[(51,.int .i64 i)]) t.length (sD d t) () b6 (fun k M=>Ω) (fun _ j _=>?_) (fun i _ hi j _=>?_);rotate_left
 ·obtain⟨x,f⟩:∃x,d[i]? =some x:=⟨_,cl Ω⟩;obtain⟨y,g⟩:∃y,t[i]? =some y:=⟨_,cl hi⟩;have l:i<d.length:=Ω
  have r:∀h,(d[i]'h)=x:=fun h=>by rw[cl l]at f;exact fK f
  have p:∀h,(t[i]'h)=y:=fun h=>by rw[cl hi]at g;exact fK g
  have e:=aqy x y (N x (eQ f));by_cases q:x=y
  ·subst q;have B:=j.step f g;rw[oE rfl]at e;clear j f g;simp[hi,l,r,p,-je];(with_reducible repeat' first|refine al ?_|refine aI e ?_|refine aJ e ?_|simp[r,p,hi,l,-je]);all_goals exact bO.rng () hi B b6
  ·rw[w (fun h=>q (by rw[h]at f;rw[f]at g;exact fK g))];rw[pj q]at e;clear j f g;simp[hi,l,r,p,-je];(with_reducible repeat' first|refine al ?_|refine aI e ?_|refine aJ e ?_|simp[r,p,hi,l,q,-je]);all_goals simp[bE,aX,a1,aV]
 have z:=j.fin E;subst z;clear j w K E;simp;(with_reducible repeat' first|refine al ?_|simp[A]);have w:=J;refine eG [2,3,69] (fun i (_:Unit)=>[(70,.int .i64 i)]) u.length (sD k u) () b6 (fun k M=>Ω) (fun _ j _=>?_) (fun i _ hi j _=>?_);rotate_left
 ·obtain⟨x,f⟩:∃x,k[i]? =some x:=⟨_,cl Ω⟩;obtain⟨y,g⟩:∃y,u[i]? =some y:=⟨_,cl hi⟩;have l:i<k.length:=Ω
  have r:∀h,(k[i]'h)=x:=fun h=>by rw[cl l]at f;exact fK f
  have p:∀h,(u[i]'h)=y:=fun h=>by rw[cl hi]at g;exact fK g
  have e:=True.intro;by_cases q:x=y
  ·subst q;have B:=j.step f g;skip;clear j f g;simp[hi,l,r,p,-je];(with_reducible repeat' first|refine al ?_|refine aI e ?_|refine aJ e ?_|simp[r,p,hi,l,-je]);all_goals exact bO.rng () hi B b6
  ·rw[w (fun h=>q (by rw[h]at f;rw[f]at g;exact fK g))];skip;clear j f g;simp[hi,l,r,p,-je];(with_reducible repeat' first|refine al ?_|refine aI e ?_|refine aJ e ?_|simp[r,p,hi,l,q,-je]);all_goals simp[bE,aX,a1,aV]
 have z:=j.fin A;subst z;clear j w J A;simp;(with_reducible repeat' first|refine al ?_|simp[D]);have w:=Q;refine eG [2,3,87] (fun i (_:Unit)=>[(88,.int .i64 i)]) s.length (sD m s) () b6 (fun k M=>Ω) (fun _ j _=>?_) (fun i _ hi j _=>?_);rotate_left
 ·obtain⟨x,f⟩:∃x,m[i]? =some x:=⟨_,cl Ω⟩;obtain⟨y,g⟩:∃y,s[i]? =some y:=⟨_,cl hi⟩;have l:i<m.length:=Ω
  have r:∀h,(m[i]'h)=x:=fun h=>by rw[cl l]at f;exact fK f
  have p:∀h,(s[i]'h)=y:=fun h=>by rw[cl hi]at g;exact fK g
  have e:=True.intro;by_cases q:x=y
  ·subst q;have B:=j.step f g;skip;clear j f g;simp[hi,l,r,p,-je];(with_reducible repeat' first|refine al ?_|refine aI e ?_|refine aJ e ?_|simp[r,p,hi,l,-je]);all_goals exact bO.rng () hi B b6
  ·rw[w (fun h=>q (by rw[h]at f;rw[f]at g;exact fK g))];skip;clear j f g;simp[hi,l,r,p,-je];(with_reducible repeat' first|refine al ?_|refine aI e ?_|refine aJ e ?_|simp[r,p,hi,l,q,-je]);all_goals simp[bE,aX,a1,aV]
 have z:=j.fin D;subst z;have o:R=true:=by rw[<-bq];simp
 rw[o];exact cn
def j0.e(r:j0):ah:= .agg [.int .i64 r.n,.slice 5 .no (r.b.map dj.e),.slice 1 .no (r.d.map gy),.slice 2 .no (r.k.map bN.e),.slice 2 .no (r.m.map bk.e)]
theorem apG(s:dW):s.r.e=s.e:=by simp only[dW.r,j0.e,dW.e,zF,KZ]
theorem aql(x:List dj):bL ar 82 [gy x] (.bool (hf x)):=PK x
open Classical in
theorem aqk(r:j0)(L:iX r.m->wJ r.m):bL ar 32 [r.e] (.bool (decide (uU r))):=by
 generalize bq:decide (uU r)=R;have f:¬OJ r->R=false:=fun h=>by rw[<-bq,iq];exact fun ca=>h ca.raw
 obtain⟨n,b,d,k,m⟩:=r;simp only[j0.e]at L⊢;by_cases g1:n<0
 ·rw[f fun h=>by have:=h.n.1;simp only at this;omega];refine bs pb Tryz.func32 zJ fun g=>?_;unfold wY;exact cn
 by_cases g2:100000<n
 ·rw[f fun h=>by have:=h.n.2;simp only at this;omega];refine bs pb Tryz.func32 zJ fun g=>?_;unfold wY;exact cn
 have q:bL ar 82 [.slice 5 .no (b.map dj.e)] (.bool (hf b)):=PK b;cases g3:hf b
 ·rw[f fun h=>by obtain⟨s,l,S,_⟩:=h.b;have:=si.2 (x8.2 ⟨s,l,S⟩);simp only at this;rw[g3]at this;cases this]
  rw[g3]at q;refine bs pb Tryz.func32 zJ fun g=>?_;unfold wY;exact cn
 rw[g3]at q;obtain⟨s,rfl,X⟩:=x8.1 (si.1 g3);clear g3;rw[zF]at q⊢;have B:=aav k;by_cases g4:jl k;rotate_left
 ·rw[f fun h=>g4 h.k];rw[pj g4]at B;refine bs pb Tryz.func32 zJ fun g=>?_;unfold wY;exact cn
 rw[oE g4]at B;have A:=aax m;by_cases g5:iX m;rotate_left
 ·rw[f fun h=>g5 h.m];rw[pj g5]at A;refine bs pb Tryz.func32 zJ fun g=>?_;unfold wY;exact cn
 rw[oE g5]at A;have u:=aaC X (n:=n) Ω;cases g6:s.all (lJ n)
 ·rw[f fun h=>by obtain⟨P,l,_,O⟩:=h.b;have N:=wU l;subst N;rw[wX.2 O]at g6;cases g6]
  rw[g6]at u;refine bs pb Tryz.func32 zJ fun g=>?_;unfold wY;have pO:=u;exact cn
 rw[g6]at u;have cU:=wX.1 g6;clear g6;have Ea:=L g5;have kV:=Ea.len g5;refine bs pb Tryz.func32 zJ fun g=>?_;unfold wY;have qY:d.length<=68719476736:=by simp[e1,eK,eV,lim]at g;omega
 have iE:=xE g4;clear g L;simp;(with_reducible repeat' first|refine al ?_|refine aI q ?_|refine aJ q ?_|refine aI B ?_|refine aJ B ?_|refine aI A ?_|refine aJ A ?_|refine aI u ?_|refine aJ u ?_|simp[g1,g2]);refine eG [1,46,47] (fun i (_:Unit)=>[(48,.int .i64 i)]) d.length (ti (ks n) d) () b6 (fun k b Y=>Ω) (fun _ a _=>?_) (fun i _ hi a _=>?_);rotate_left
 ·obtain⟨x,c,w⟩:=ev hi;have z:=eQ c;have M:=aql x;cases e:hf x
  ·rw[f fun h=>by obtain⟨P,l,S,_⟩:=h.d x z;rw[si.2 (x8.2 ⟨P,l,S⟩)]at e;cases e]
   rw[e]at M;clear a c z;exact cn
  ·rw[e]at M;obtain⟨y,rfl,Z⟩:=x8.1 (si.1 e);clear e;rw[KY]at M;have V:bL ar 85 [c6 y,.int .i64 n] (.bool (y.all (lJ n))):=aaC Z (n:=n) Ω;have atn:∀h,gy (d[i]'h)=c6 y:=fun h=>by rw[w h,KY]
   cases p:y.all (lJ n)
   ·rw[f fun h=>by obtain⟨P,l,_,O⟩:=h.d _ z;have N:=wU l;subst N;rw[wX.2 O]at p;cases p]
    rw[p]at V;clear a c z w;exact cn
   ·rw[p]at V;have W:=a.step c ⟨y,rfl,Z,wX.1 p⟩;clear a c z w;exact iH
 obtain⟨D,rfl,DK,LL⟩:=Tu a.fin;clear a;simp only[KZ];simp;(with_reducible repeat' first|refine al ?_|simp);refine eG [1,64,65] (fun i (_:Unit)=>[(66,.int .i64 i)]) k.length (ti (fun x=>x.v<n) k) () b6 (fun k b Y=>Ω) (fun _ a _=>?_) (fun i _ hi a _=>?_);rotate_left
 ·obtain⟨x,c,w⟩:=ev hi;by_cases e:x.v<n
  ·have E:¬n<=x.v:=Ω
   have W:=a.step c e;clear a c;exact iH
  ·have E:n<=x.v:=Ω
   rw[f fun h=>e (h.kb x (eQ c))];clear a c;exact cn
 have F:=a.fin;clear a;simp;(with_reducible repeat' first|refine al ?_|simp);have y7:=F;refine eG [1,77,78] (fun i (_:Unit)=>[(79,.int .i64 i)]) m.length (ti (fun x=>x.v<n) m) () b6 (fun k b Y=>Ω) (fun _ a _=>?_) (fun i _ hi a _=>?_);rotate_left
 ·obtain⟨x,c,w⟩:=ev hi;by_cases e:x.v<n
  ·have E:¬n<=x.v:=Ω
   have W:=a.step c e;clear a c;exact iH
  ·have E:n<=x.v:=Ω
   rw[f fun h=>e (h.mb x (eQ c))];clear a c;exact cn
 have F:=a.fin;clear a;simp;(with_reducible repeat' first|refine al ?_|simp);have xu:=F;have dr:Ad ⟨n,s,D,k,m⟩:=⟨by simp only;omega,X,DK,g4,g5,cU,LL,y7,xu⟩;have U:=ZR dr;obtain⟨G,n1,aY⟩:=Ea;have j:=aq3 dr n1 aY;have o:uU ⟨n,s.map au.b,D.map fun x=>x.map au.b,k,m⟩↔nc ⟨n,s,D,k,m⟩=some ⟨n,s,D,k,m⟩:=U;clear U f;simp only[wy]at j;cases K:nc ⟨n,s,D,k,m⟩with
 |none=>
  rw[K]at j o;have v:R=false:=by rw[<-bq,iq,o];simp
  rw[v];simp only[oD,nh,dW.e]at j;clear bq v o;exact cn
 |some t=>
  have J:=ao9 dr K;rw[K]at j o;have H:=aq2 t ⟨n,s,D,k,m⟩ J.1.1.b.len (fun x c=>(J.1.1.d x c).len);have v:R=decide (t=⟨n,s,D,k,m⟩):=by rw[<-bq,decide_eq_decide,o];simp
  rw[v];simp only[mi,tS]at j;simp only[dW.e]at j H;clear bq v o J;generalize decide (t=(⟨n,s,D,k,m⟩:dW))=Q at H⊢;obtain⟨hp,aab,aac,tk,tm⟩:=t;simp only at j H;exact cn
def w2:C:=(aa [dc 1 0,bt 2 false] (.seq (aa (aH 11 0 1 1::aw 12 1 11::dU 13 69 [.t 12,(gi 0),(gi 100000)]::cJ 14 13::I 15 14::ay 15 false (aH 16 1 1 1)::ay 15 false (aw 17 1 16)::ay 15 false (cG 18 70 17)::ay 15 false (cJ 19 18)::dy 20 15 19::I 21 20::ay 21 false (aH 22 2 1 1)::ay 21 false (aw 23 1 22)::ay 21 false (cG 24 71 23)::ay 21 false (cJ 25 24)::dy 26 21 25::I 27 26::ay 27 false (aH 28 3 1 1)::ay 27 false (aw 29 1 28)::ay 27 false (cG 30 72 29)::ay 27 false (cJ 31 30)::dy 32 27 31::I 33 32::ay 33 false (aH 34 4 1 1)::ay 33 false (aw 35 1 34)::ay 33 false (cG 36 73 35)::ay 33 false (cJ 37 36)::dy 38 33 37::I 39 38::ay 39 false (aH 40 1 1 1)::ay 39 false (aw 41 1 40)::ay 39 false (aH 42 0 1 1)::ay 39 false (aw 43 1 42)::ay 39 false (cq 44 74 41 43)::ay 39 false (cJ 45 44)::dy 46 39 45::[]) (aU 46 (aa [bt 2 false] .ret) .skip)) (.seq (aa [aH 47 2 1 1,aw 48 1 47,cp 49 48,b1 50 0] (fR 51 50 49 (.seq (.block 1 (aa [cx 52 1 48 50,aw 53 1 52,I 4 53] (aa [I 54 4,aH 55 0 1 1,aw 56 1 55,cq 57 74 54 56,cJ 58 57] (aU 58 (aa [bt 2 false] .ret) .skip)))) (.region [aT 59 .add 50 1,I 50 59])))) (.seq (aa [aH 60 3 1 1,aw 61 1 60,cp 62 61,b1 63 0] (.block 2 (.loop (aa [bp 64 .lss 63 62] (.seq (aU 64 .skip (.exit 2)) (.seq (.block 3 (aa [cx 65 2 61 63,bg 66 2 65,c8 (.alloc 6 none (.agg [.int .i64 0,.int .i64 0])),b7 2 6 66] (aa [aH 67 0 1 6,aw 68 1 67,aH 69 0 1 1,aw 70 1 69,bp 71 .geq 68 70] (aU 71 (aa [bt 2 false] .ret) .skip)))) (.region [aT 72 .add 63 1,I 63 72]))))))) (.seq (aa [aH 73 4 1 1,aw 74 1 73,cp 75 74,b1 76 0] (.block 4 (.loop (aa [bp 77 .lss 76 75] (.seq (aU 77 .skip (.exit 4)) (.seq (.block 5 (aa [cx 78 2 74 76,bg 79 2 78,c8 (.alloc 8 none (.agg [.int .i64 0,.str []])),b7 2 8 79] (aa [aH 80 0 1 8,aw 81 1 80,aH 82 0 1 1,aw 83 1 82,bp 84 .geq 81 83] (aU 84 (aa [bt 2 false] .ret) .skip)))) (.region [aT 85 .add 76 1,I 76 85]))))))) (aa [bg 87 5 1,cG 88 75 87,I 86 88,dn 89 0 86,dn 90 1 86,eg 9 pP,b7 5 9 89,I 10 90] (aa [I 91 10,I 92 91,ay 92 true (bg 93 5 9),ay 92 true (bg 94 5 1),ay 92 true (cq 95 76 93 94),ef 96 92 95,I 2 96] .ret)))))))
def GI:C:=(aa [dc 1 0,eg 2 pP,bt 3 false] (aa [aH 20 1 1 1,aw 21 1 20,aH 22 3 1 1,aw 23 1 22,cq 24 123 21 23,I 19 24,dn 25 0 19,dn 26 1 19,I 4 25,I 5 26] (aa [aH 28 1 1 1,aw 29 1 28,aH 30 4 1 1,aw 31 1 30,cq 32 124 29 31,I 27 32,dn 33 0 27,dn 34 1 27,I 6 33,I 7 34] (.seq (aa [I 35 5,cJ 36 35,I 37 36,cg 37 false 38 7,ay 37 false (cJ 39 38),dy 40 37 39] (aU 40 (aa [mf 41 pP [],b7 5 2 41,bt 3 false] .ret) .skip)) (aa [aH 42 0 1 1,aw 43 1 42,aH 44 1 1 1,aw 45 1 44,I 46 4,mf 47 pP [(0,1,(.t 43)),(1,1,(.t 45)),(3,1,(.t 46))],eg 8 pP,b7 5 8 47] (.seq (aa [I 48 6,cp 49 48,b1 50 0] (fR 51 50 49 (.seq (.block 1 (aa [cx 52 2 48 50,bg 53 2 52,c8 (.alloc 10 none (.agg [.int .i64 0,.str []])),b7 2 10 53] (aa [I 55 4,aH 56 0 1 10,aw 57 1 56,cG 58 40 57,dU 59 125 [.t 55,.t 58,(gi 2)],I 54 59,dn 60 0 54,dn 61 1 54,I 11 60,I 12 61] (aa [I 62 12] (aU 62 (.region [aH 63 4 1 8,aw 64 1 63,bg 65 2 10,eD 66 2 82 [.t 65],hW 67 2 82 64 66,aH 68 4 1 8,b7 1 68 67]) .skip))))) (.region [aT 69 .add 50 1,I 50 69])))) (aa [eD 70 1 30 [],I 13 70] (.seq (aa [aH 71 2 1 1,aw 72 1 71,cp 73 72,b1 74 0] (.block 2 (.loop (aa [bp 75 .lss 74 73] (.seq (aU 75 .skip (.exit 2)) (.seq (.block 3 (aa [cx 76 1 72 74,aw 77 1 76,I 15 77] (aa [aH 79 1 1 1,aw 80 1 79,I 81 15,cq 82 126 80 81,I 78 82,dn 83 0 78,dn 84 1 78,I 16 83,I 17 84] (.seq (aa [I 85 17] (aU 85 (aa [I 87 16,aH 88 3 1 8,aw 89 1 88,cq 90 123 87 89,I 86 90,dn 91 0 86,dn 92 1 86,I 5 92] (.region [I 94 16,aH 95 4 1 8,aw 96 1 95,cq 97 124 94 96,I 93 97,dn 98 0 93,dn 99 1 93,I 7 99])) .skip)) (.seq (aa [I 100 17,cJ 101 100,I 102 101,cg 102 false 103 5,ay 102 false (cJ 104 103),dy 105 102 104,I 106 105,cg 106 false 107 7,ay 106 false (cJ 108 107),dy 109 106 108] (aU 109 (aa [bt 5 true] (aa [bt 7 true] (.exit 3))) .skip)) (aa [aH 110 1 1 1,aw 111 1 110,I 112 16,cq 113 127 111 112,I 18 113] (.seq (aa [I 114 18,cp 115 114,aT 116 .eql 115 0] (aU 116 (aa [mf 117 pP [],b7 5 2 117,bt 3 false] .ret) .skip)) (.region [I 118 13,I 119 18,eD 120 1 30 [.t 119],hW 121 1 30 118 120,I 13 121])))))))) (.region [aT 122 .add 74 1,I 74 122]))))))) (aa [I 123 13,cG 124 128 123,aH 125 2 1 8,b7 1 125 124] (.seq (.fz true 8 (.drawn true 131 [bG 126 (.loadZ true 5 (.t 8)),aH 127 2 1 8,bG 128 (.loadZ false 1 (.t 127)),cp 129 128,aT 130 .leq 129 30,b7 5 2 126,I 3 130])) .ret))))))))))
def yD:C:=(aa [dc 2 0,dc 3 1,bt 4 false] (.seq (aa (aH 11 0 1 2::aw 12 1 11::aH 13 0 1 3::aw 14 1 13::bp 15 .neq 12 14::I 16 15::ay 16 false (aH 17 1 1 2)::ay 16 false (aw 18 1 17)::ay 16 false (aH 19 1 1 3)::ay 16 false (aw 20 1 19)::ay 16 false (cq 21 129 18 20)::ay 16 false (aT 22 .neq 21 0)::dy 23 16 22::I 24 23::ay 24 false (aH 25 2 1 2)::ay 24 false (aw 26 1 25)::ay 24 false (cp 27 26)::ay 24 false (aH 28 2 1 3)::ay 24 false (aw 29 1 28)::ay 24 false (cp 30 29)::ay 24 false (bp 31 .neq 27 30)::dy 32 24 31::I 33 32::ay 33 false (aH 34 3 1 2)::ay 33 false (aw 35 1 34)::ay 33 false (cp 36 35)::ay 33 false (aH 37 3 1 3)::ay 33 false (aw 38 1 37)::ay 33 false (cp 39 38)::ay 33 false (bp 40 .neq 36 39)::dy 41 33 40::I 42 41::ay 42 false (aH 43 4 1 2)::ay 42 false (aw 44 1 43)::ay 42 false (cp 45 44)::ay 42 false (aH 46 4 1 3)::ay 42 false (aw 47 1 46)::ay 42 false (cp 48 47)::ay 42 false (bp 49 .neq 45 48)::dy 50 42 49::[]) (aU 50 (aa [bt 4 false] .ret) .skip)) (.seq (aa [aH 51 2 1 2,aw 52 1 51,cp 53 52,b1 54 0] (fR 55 54 53 (.seq (.block 1 (aa [I 56 54,cx 57 1 52 54,aw 58 1 57,I 5 56,I 6 58] (aa [I 59 6,aH 60 2 1 3,aw 61 1 60,I 62 5,cx 63 1 61 62,aw 64 1 63,cq 65 129 59 64,aT 66 .neq 65 0] (aU 66 (aa [bt 4 false] .ret) .skip)))) (.region [aT 67 .add 54 1,I 54 67])))) (.seq (aa [aH 68 3 1 2,aw 69 1 68,cp 70 69,b1 71 0] (.block 2 (.loop (aa [bp 72 .lss 71 70] (.seq (aU 72 .skip (.exit 2)) (.seq (.block 3 (aa [I 73 71,cx 74 2 69 71,bg 75 2 74,c8 (.alloc 8 none (.agg [.int .i64 0,.int .i64 0])),I 7 73,b7 2 8 75] (.seq (.drawn true 100 [bg 76 2 8,aH 77 3 1 3,aw 78 1 77,I 79 7,cx 80 2 78 79,bg 81 2 80,bG 82 (.beq true (some [false,false]) (.t 76) (.t 81))]) (aU 82 (aa [bt 4 false] .ret) .skip)))) (.region [aT 83 .add 71 1,I 71 83]))))))) (.seq (aa [aH 84 4 1 2,aw 85 1 84,cp 86 85,b1 87 0] (.block 4 (.loop (aa [bp 88 .lss 87 86] (.seq (aU 88 .skip (.exit 4)) (.seq (.block 5 (aa [I 89 87,cx 90 2 85 87,bg 91 2 90,c8 (.alloc 10 none (.agg [.int .i64 0,.str []])),I 9 89,b7 2 10 91] (.seq (.drawn true 100 [bg 92 2 10,aH 93 4 1 3,aw 94 1 93,I 95 9,cx 96 2 94 95,bg 97 2 96,bG 98 (.beq true (some [false,true]) (.t 92) (.t 97))]) (aU 98 (aa [bt 4 false] .ret) .skip)))) (.region [aT 99 .add 87 1,I 87 99]))))))) (aa [bt 4 true] .ret))))))
def JD:List (Nat×dE):=[
 (3,⟨1,8,.int .i64,.int .i64 0⟩),
 (9,⟨1,16,.str,.str []⟩),
 (30,⟨1,24,.slice 74,.slice 5 .nil []⟩),
 (31,⟨1,24,.slice 30,.slice 1 .nil []⟩),
 (32,⟨1,24,.slice 78,.slice 2 .nil []⟩),
 (33,⟨1,24,.slice 82,.slice 2 .nil []⟩),
 (35,⟨5,104,.struct [(0,3),(1,30),(2,31),(3,32),(4,33)],.agg [.int .i64 0,.slice 5 .nil [],.slice 1 .nil [],.slice 2 .nil [],.slice 2 .nil []]⟩),
 (78,⟨2,16,.struct [(0,3),(1,3)],.agg [.int .i64 0,.int .i64 0]⟩),
 (82,⟨2,24,.struct [(0,3),(1,9)],.agg [.int .i64 0,.str []]⟩)]
theorem pc:e6 ar JD=true:=an
theorem zM:b4 JD w2 [.tmp 2] 1 Tryz.f26=true:=an
theorem N8:b4 JD GI [.cell 2 true 5,.tmp 3] 1 Tryz.f75=true:=an
theorem B9:b4 JD yD [.tmp 4] 2 Tryz.f76=true:=an
noncomputable def OX(s:dW):ah:= .tuple [(Cv s).e,.bool (nc s).isSome]
theorem aqP{k:List bN}(a:jl k)(v:Int):bL ar 125 [.slice 2 .no (k.map bN.e),(T.var v).e,.int .i64 2] (pT k (la k (.var v) 2)):=aaN k (by have:=xE a;omega) a.asc (.var v) 2
theorem aaL{b y:List au}(ae:eJ b)(a:eJ y):bL ar 127 [.slice 5 .no (b.map au.e),.slice 5 .no (y.map au.e)] (c6 (ha b y)):=aqK ae a
theorem aaK{b x:List au}(ae:eJ b)(a:eJ x):bL ar 126 [.slice 5 .no (b.map au.e),c6 x] (gI (mgu b (ig x))):=aqJ b x ae.sol ae.fits a.len
def Np(a:List bk):ah:=match a with
 |[]=>.slice 2 .nil []
 |_::_=>.slice 2 (.own (.loc 5)) (a.map bk.e)
def Nn(a:List bk):List (aB×ec):=match a with
 |[]=>[]
 |_::_=>[(.loc 5,⟨a.length,82,2,none⟩)]
def Nl(a:List bk):Nat:=match a with
 |[]=>3
 |_::_=>6
@[simp]theorem auF:Np []= .slice 2 .nil []:=rfl
@[simp]theorem auE(x:bk)(a:List bk):Np (x::a)= .slice 2 (.own (.loc 5)) (x.e::a.map bk.e):=rfl
@[simp]theorem auD:Nn []=[]:=rfl
@[simp]theorem auC(x:bk)(a:List bk):Nn (x::a)=[(.loc 5,⟨a.length+1,82,2,none⟩)]:=rfl
@[simp]theorem auB:Nl []=3:=rfl
@[simp]theorem auA(x:bk)(a:List bk):Nl (x::a)=6:=rfl
theorem aqT{s:dW}(h:Ad s){G:List (List bV)}(n1:G.length<=687000)(aY:o8 G s.m):bL ar 75 [s.e] (OX s):=by
 unfold OX;generalize c:nc s=O;generalize dC:Cv s=SS;have F:=PR h.b h.k;have E:=PS h.b h.m n1 aY;have K:=fun k=>I6 (acc:=[]) (a:=k) h.b h.k.at' ⟨Ψ,Ψ⟩;have J:=fun m=>I7 (acc:=[]) (a:=m) h.b h.m.at' ⟨Ψ,by simp[ir]⟩;have N:=fun m=>OL (acc:=[]) (a:=m) (s:=s.b) aY (fun x g=>by simp at g);have ae:=h.b;have aQ:=h.d;clear h aY;unfold nc at c;unfold Cv at dC;obtain⟨n,b,d,Y,m0⟩:=s;simp only at F E K J N ae aQ c dC;have dV:=ae.len;simp only[dW.e];generalize gA b Y []=ok at F c dC K;generalize gB b m0 []=om at E c dC J N;cases ok with
 |none=>
  simp only at c dC;subst c;subst dC;simp only[gv]at F;simp only[jW]at E;clear K J N;refine bs pc Tryz.func75 N8 fun Z=>?_;unfold GI;simp;(with_reducible repeat' first|refine al ?_|refine aI F ?_|refine aJ F ?_|refine aI E ?_|refine aJ E ?_|simp);all_goals simp[bE,aX,a1,aV]
  all_goals simp[sp,dW.e]
 |some k=>
  simp only at c dC;cases om with
  |none=>
   simp only at c dC;subst c;subst dC;simp only[gv]at F;simp only[jW]at E;clear K J N;refine bs pc Tryz.func75 N8 fun Z=>?_;unfold GI;simp;(with_reducible repeat' first|refine al ?_|refine aI F ?_|refine aJ F ?_|refine aI E ?_|refine aJ E ?_|simp);all_goals simp[bE,aX,a1,aV]
   all_goals simp[sp,dW.e]
  |some m=>
   simp only at c dC;have X:=K k rfl;have zf:=J m rfl;have y3:=N m rfl;have kV:m.length<=68719470000:=by have:=ES zf y3;omega
   have Bq:=Xm (k:=k) zf;have Bk:=Z9 (k:=k) y3;simp only[gv,mi,tS]at F;simp only[jW,mi,tS]at E;clear K J N;refine bs pc Tryz.func75 N8 fun Z=>?_;unfold GI;have qY:d.length<=68719476736:=by simp[e1,eK,eV,lim]at Z;omega
   clear Z;simp;(with_reducible repeat' first|refine al ?_|refine aI F ?_|refine aJ F ?_|refine aI E ?_|refine aJ E ?_|simp);refine hk (fun i (a:List bk)=>⟨[(1,.ptr (.loc 0) 0),(2,.ptr (.loc 1) 0),(4,.slice 2 .no (k.map bN.e)),(8,.ptr (.loc 2) 0),(48,.slice 2 .no (m.map bk.e)),(49,.int .i64 m.length),(50,.int .i64 i)],[(.loc 0,[.int .i64 n,.slice 5 .no (b.map au.e),.slice 1 .no (d.map c6),.slice 2 .no (Y.map bN.e),.slice 2 .no (m0.map bk.e)]),(.loc 1,[.int .i64 0,.slice 5 .nil [],.slice 1 .nil [],.slice 2 .nil [],.slice 2 .nil []]),(.loc 2,[.int .i64 n,.slice 5 .no (b.map au.e),.slice 1 .nil [],.slice 2 .no (k.map bN.e),Np a])],Nn a,Nl a,[]⟩) m.length (uz k m) [] b6 (by simp[uz]) (fun a f _=>?_) (fun i a hi f _=>?_);rotate_left
   ·obtain⟨x,g,p⟩:=ev hi;have sO:a.length<=68719470000:=by
     have:a.length<=(m.take i).length:=by rw[f];exact List.length_filter_le _ _
     simp at this;omega
    have q:=f.step g;have A:=aqP X x.v;have bz:(la k (.var x.v) 2).isSome=lA k x:=abL X x.v;simp only[pT,bz]at A;clear bz;generalize (la k (.var x.v) 2).getD k=kz at A;cases aG:lA k x
    ·rw[aG]at q A;simp only[hz,if_false]at q;clear f g aG;cases a with
     |nil=>simp[hi,p];(with_reducible repeat' first|refine al ?_|refine aI (k4 _) ?_|refine aJ (k4 _) ?_|refine aI A ?_|refine aJ A ?_|simp[hi,p]);all_goals exact bO.rng [] hi q b6
     |cons y ys=>simp[hi,p];(with_reducible repeat' first|refine al ?_|refine aI (k4 _) ?_|refine aJ (k4 _) ?_|refine aI A ?_|refine aJ A ?_|simp[hi,p]);all_goals exact bO.rng (y::ys) hi q b6
    ·rw[aG]at q A;simp only[if_true]at q;clear f g aG;cases a with
     |nil=>
      simp[hi,p];(with_reducible repeat' first|refine al ?_|refine aI (k4 _) ?_|refine aJ (k4 _) ?_|refine aI A ?_|refine aJ A ?_|simp[hi,p]);all_goals first|(refine⟨by unfold lim;omega,?_⟩)|skip
      all_goals(with_reducible repeat' first|refine al ?_|simp)
      all_goals exact bO.rng [x] hi q b6
     |cons y ys=>
      simp only[jc]at sO;simp[hi,p];(with_reducible repeat' first|refine al ?_|refine aI (k4 _) ?_|refine aJ (k4 _) ?_|refine aI A ?_|refine aJ A ?_|simp[hi,p]);all_goals first|(refine⟨by unfold lim;omega,?_⟩)|skip
      all_goals(with_reducible repeat' first|refine al ?_|simp)
      all_goals exact bO.rng (y::ys++[x]) hi q ⟨by simp[fresh,aA,av,b0,inObs,Pv.look,BN],dN (by simp[fresh,aA,av,b0,inObs,Pv.look,BN]),dP (by simp[fresh,aA,av,dH,inObs,Pv.look,BN]),Ψ⟩
   rw[uz,p5]at f;rw[<-f]at Bq Bk c dC;clear f zf y3;cases a with
   |nil=>
    simp;(with_reducible repeat' first|refine al ?_|simp);refine hk (fun i (L:List (List au))=>⟨[(1,.ptr (.loc 0) 0),(2,.ptr (.loc 1) 0),(8,.ptr (.loc 2) 0),(13,.slice 1 (.own (.loc 3)) (L.map c6)),(72,.slice 1 .no (d.map c6)),(73,.int .i64 d.length),(74,.int .i64 i)],[(.loc 0,[.int .i64 n,.slice 5 .no (b.map au.e),.slice 1 .no (d.map c6),.slice 2 .no (Y.map bN.e),.slice 2 .no (m0.map bk.e)]),(.loc 1,[.int .i64 0,.slice 5 .nil [],.slice 1 .nil [],.slice 2 .nil [],.slice 2 .nil []]),(.loc 2,[.int .i64 n,.slice 5 .no (b.map au.e),.slice 1 .nil [],.slice 2 .no (k.map bN.e),.slice 2 .nil []])],[(.loc 3,⟨L.length,30,1,none⟩)],3+1,[]⟩) d.length (q7 b k [] d) [] b6 ⟨Ψ,Ψ,Ψ⟩ (fun L f _=>?_) (fun i L hi f _=>?_)
    ·have S:=f.fin;have Q:=f.2.1;rw[S]at c dC;simp only at c dC;have D:=aaM L Q;clear f S Q;generalize lP L=M at D c dC;subst dC;by_cases w:M.length<=30
     ·have B:(M.length:Int)<=30:=Ω
      rw[if_pos w]at c;subst c;simp;(with_reducible repeat' first|refine al ?_|refine aI D ?_|refine aJ D ?_|simp[w,B]);all_goals simp[bE,aX,a1,aV]
      all_goals try simp[dW.e,w,B]
      all_goals first|exact⟨_,rfl,rfl⟩|skip
     ·have B:¬(M.length:Int)<=30:=Ω
      rw[if_neg w]at c;subst c;simp;(with_reducible repeat' first|refine al ?_|refine aI D ?_|refine aJ D ?_|simp[w,B]);all_goals simp[bE,aX,a1,aV]
      all_goals try simp[dW.e,w,B]
      all_goals first|exact⟨_,rfl,rfl⟩|skip
    ·obtain⟨x,g,p⟩:=ev hi;have U:=aQ x (eQ g);have UW:=f.1;have l:=aaK ae U;simp only[gI]at l;cases hu:mgu b (ig x)with
     |none=>have q:=f.skip g fun r=>Na hu;rw[hu]at l;simp only[oD,nh]at l;clear f g c dC;exact iH
     |some y=>
      have H:=ae.mgu (Dp U) hu;rw[hu]at l;simp only[mi,tS]at l;have o:=PR H X;have u:=PS H Bq n1 Bk;have j:=aaL ae H;simp only[gv]at o;simp only[jW,pg,fA]at u;by_cases t:gA y k []=none\/gB y [] []=none
      ·have q:=f.skip g fun r=>M9 hu t;clear f g c dC hu j;rcases t with e|e
       ·rw[e]at o;simp only[oD,nh]at o;exact iH
       ·rw[e]at u;simp only[oD,nh]at u;generalize (gA y k []).isSome=a8 at o;cases a8
        ·exact iH
        ·exact iH
      ·have ai:(gA y k []).isSome=true:=by cases e:gA y k []with|none=>exact absurd (.inl e) t|some _=>rfl
       have aC:(gB y [] []).isSome=true:=by cases e:gB y [] []with|none=>exact absurd (.inr e) t|some _=>rfl
       rw[ai]at o;rw[aC]at u;by_cases v:ha b y=[]
       ·have ag:=f.stop g fun r=>M8 hu t v;rw[ag]at c dC;simp only at c dC;subst c;subst dC;rw[v]at j;simp only[c6,pg]at j;clear f g hu t;simp[hi,p];(with_reducible repeat' first|refine al ?_|refine aI l ?_|refine aJ l ?_|refine aI o ?_|refine aJ o ?_|refine aI u ?_|refine aJ u ?_|refine aI j ?_|refine aJ j ?_|simp[hi,p]);all_goals simp[bE,aX,a1,aV]
        all_goals try simp[sp,dW.e]
       ·have q:=f.snoc g (Iu (b:=b) H) fun r=>Nb hu t v;have R:¬((ha b y).length:Int)=0:=by have:(ha b y).length≠0:=fun h=>v (List.length_eq_zero_iff.1 h);omega
        have P:(((ha b y).length:Int)==0)=false:=by simp[v]
        clear f g hu t c dC;generalize ha b y=z at j q R P v;simp only[c6]at j;simp[hi,p];(with_reducible repeat' first|refine al ?_|refine aI l ?_|refine aJ l ?_|refine aI o ?_|refine aJ o ?_|refine aI u ?_|refine aJ u ?_|refine aI j ?_|refine aJ j ?_|simp[hi,p,R,P,v]);all_goals first|(refine⟨by unfold lim;omega,?_⟩)|skip
        all_goals(with_reducible repeat' first|refine al ?_|simp)
        all_goals exact bO.rng (L++[z]) hi q ⟨by simp[fresh,aA,av,b0,inObs,Pv.look,vU,c6],dN (by simp[fresh,aA,av,b0,inObs,Pv.look,vU,c6]),dP (by simp[fresh,aA,av,dH,inObs,Pv.look,vU,c6]),Ψ⟩
   |cons W V=>
    simp;(with_reducible repeat' first|refine al ?_|simp);refine hk (fun i (L:List (List au))=>⟨[(1,.ptr (.loc 0) 0),(2,.ptr (.loc 1) 0),(8,.ptr (.loc 2) 0),(13,.slice 1 (.own (.loc 6)) (L.map c6)),(72,.slice 1 .no (d.map c6)),(73,.int .i64 d.length),(74,.int .i64 i)],[(.loc 0,[.int .i64 n,.slice 5 .no (b.map au.e),.slice 1 .no (d.map c6),.slice 2 .no (Y.map bN.e),.slice 2 .no (m0.map bk.e)]),(.loc 1,[.int .i64 0,.slice 5 .nil [],.slice 1 .nil [],.slice 2 .nil [],.slice 2 .nil []]),(.loc 2,[.int .i64 n,.slice 5 .no (b.map au.e),.slice 1 .nil [],.slice 2 .no (k.map bN.e),.slice 2 (.own (.loc 5)) (W.e::V.map bk.e)])],[(.loc 6,⟨L.length,30,1,none⟩)],6+1,[]⟩) d.length (q7 b k (W::V) d) [] b6 ⟨Ψ,Ψ,Ψ⟩ (fun L f _=>?_) (fun i L hi f _=>?_)
    ·have S:=f.fin;have Q:=f.2.1;rw[S]at c dC;simp only at c dC;have D:=aaM L Q;clear f S Q;generalize lP L=M at D c dC;subst dC;by_cases w:M.length<=30
     ·have B:(M.length:Int)<=30:=Ω
      rw[if_pos w]at c;subst c;simp;(with_reducible repeat' first|refine al ?_|refine aI D ?_|refine aJ D ?_|simp[w,B]);all_goals simp[bE,aX,a1,aV]
      all_goals try simp[dW.e,w,B]
      all_goals first|exact⟨_,rfl,rfl⟩|skip
     ·have B:¬(M.length:Int)<=30:=Ω
      rw[if_neg w]at c;subst c;simp;(with_reducible repeat' first|refine al ?_|refine aI D ?_|refine aJ D ?_|simp[w,B]);all_goals simp[bE,aX,a1,aV]
      all_goals try simp[dW.e,w,B]
      all_goals first|exact⟨_,rfl,rfl⟩|skip
    ·obtain⟨x,g,p⟩:=ev hi;have U:=aQ x (eQ g);have UW:=f.1;have l:=aaK ae U;simp only[gI]at l;cases hu:mgu b (ig x)with
     |none=>have q:=f.skip g fun r=>Na hu;rw[hu]at l;simp only[oD,nh]at l;clear f g c dC;exact iH
     |some y=>
      have H:=ae.mgu (Dp U) hu;rw[hu]at l;simp only[mi,tS]at l;have o:=PR H X;have u:=PS H Bq n1 Bk;have j:=aaL ae H;simp only[gv]at o;simp only[jW,pg,fA]at u;by_cases t:gA y k []=none\/gB y (W::V) []=none
      ·have q:=f.skip g fun r=>M9 hu t;clear f g c dC hu j;rcases t with e|e
       ·rw[e]at o;simp only[oD,nh]at o;exact iH
       ·rw[e]at u;simp only[oD,nh]at u;generalize (gA y k []).isSome=a8 at o;cases a8
        ·exact iH
        ·exact iH
      ·have ai:(gA y k []).isSome=true:=by cases e:gA y k []with|none=>exact absurd (.inl e) t|some _=>rfl
       have aC:(gB y (W::V) []).isSome=true:=by cases e:gB y (W::V) []with|none=>exact absurd (.inr e) t|some _=>rfl
       rw[ai]at o;rw[aC]at u;by_cases v:ha b y=[]
       ·have ag:=f.stop g fun r=>M8 hu t v;rw[ag]at c dC;simp only at c dC;subst c;subst dC;rw[v]at j;simp only[c6,pg]at j;clear f g hu t;simp[hi,p];(with_reducible repeat' first|refine al ?_|refine aI l ?_|refine aJ l ?_|refine aI o ?_|refine aJ o ?_|refine aI u ?_|refine aJ u ?_|refine aI j ?_|refine aJ j ?_|simp[hi,p]);all_goals simp[bE,aX,a1,aV]
        all_goals try simp[sp,dW.e]
       ·have q:=f.snoc g (Iu (b:=b) H) fun r=>Nb hu t v;have R:¬((ha b y).length:Int)=0:=by have:(ha b y).length≠0:=fun h=>v (List.length_eq_zero_iff.1 h);omega
        have P:(((ha b y).length:Int)==0)=false:=by simp[v]
        clear f g hu t c dC;generalize ha b y=z at j q R P v;simp only[c6]at j;simp[hi,p];(with_reducible repeat' first|refine al ?_|refine aI l ?_|refine aJ l ?_|refine aI o ?_|refine aJ o ?_|refine aI u ?_|refine aJ u ?_|refine aI j ?_|refine aJ j ?_|simp[hi,p,R,P,v]);all_goals first|(refine⟨by unfold lim;omega,?_⟩)|skip
        all_goals(with_reducible repeat' first|refine al ?_|simp)
        all_goals exact bO.rng (L++[z]) hi q ⟨by simp[fresh,aA,av,b0,inObs,Pv.look,vU,c6],dN (by simp[fresh,aA,av,b0,inObs,Pv.look,vU,c6]),dP (by simp[fresh,aA,av,dH,inObs,Pv.look,vU,c6]),Ψ⟩
theorem aqO(x y:List au):bL ar 129 [c6 x,c6 y] (.int .i64 (eW x y)):=PO x y
theorem aqW{x y:List au}(h:¬x=y):(eW x y !=0)=true:=by have:¬eW x y=0:=fun e=>h ((mC.zero _ _).1 e);simp[this]
theorem aqS(a c:dW):bL ar 76 [a.e,c.e] (.bool (decide (a=c))):=by
 obtain⟨n,b,d,k,m⟩:=a;obtain⟨n',cb,t,u,s⟩:=c;generalize bq:decide ((⟨n,b,d,k,m⟩:dW)=⟨n',cb,t,u,s⟩)=R;simp only[dW.mk.injEq,dW.e]at bq⊢;by_cases J:n=n';rotate_left
 ·have o:R=false:=by rw[<-bq];simp[J]
  have U:(n !=n')=true:=by simp[J]
  rw[o];clear bq o;refine bs pc Tryz.func76 B9 fun v=>?_;unfold yD;exact cn
 subst J;have e:=PO b cb;by_cases H:b=cb;rotate_left
 ·have o:R=false:=by rw[<-bq];simp[H]
  have G:¬eW b cb=0:=fun h=>H ((mC.zero _ _).1 h);have X:(eW b cb !=0)=true:=by simp[G]
  rw[o];clear bq o;refine bs pc Tryz.func76 B9 fun v=>?_;unfold yD;have F:=e;exact cn
 subst H;rw[(mC.zero b b).2 rfl]at e;by_cases E:d.length=t.length;rotate_left
 ·have o:R=false:=by rw[<-bq];simp only[iq];rintro⟨_,_,rfl,_⟩;exact E rfl
  have V:((d.length:Int) !=t.length)=true:=by simp;omega
  rw[o];clear bq o;refine bs pc Tryz.func76 B9 fun v=>?_;unfold yD;have F:=e;exact cn
 by_cases A:k.length=u.length;rotate_left
 ·have o:R=false:=by rw[<-bq];simp only[iq];rintro⟨_,_,_,rfl,_⟩;exact A rfl
  have O:((k.length:Int) !=u.length)=true:=by simp;omega
  rw[o];clear bq o;refine bs pc Tryz.func76 B9 fun v=>?_;unfold yD;have F:=e;exact cn
 by_cases D:m.length=s.length;rotate_left
 ·have o:R=false:=by rw[<-bq];simp only[iq];rintro⟨_,_,_,_,rfl⟩;exact D rfl
  have N:((m.length:Int) !=s.length)=true:=by simp;omega
  rw[o];clear bq o;refine bs pc Tryz.func76 B9 fun v=>?_;unfold yD;have F:=e;exact cn
 have L:d≠t->R=false:=fun h=>by rw[<-bq];simp[h]
 have K:k≠u->R=false:=fun h=>by rw[<-bq];simp[h]
 have P:m≠s->R=false:=fun h=>by rw[<-bq];simp[h]
 refine bs pc Tryz.func76 B9 fun v=>?_;unfold yD;have W:t.length<=68719476736:=by simp[e1,eK,eV,lim]at v;omega
 have S:u.length<=68719476736:=by simp[e1,eK,eV,lim]at v;omega
 have Q:s.length<=68719476736:=by simp[e1,eK,eV,lim]at v;omega
 clear v;simp;(with_reducible repeat' first|refine al ?_|refine aI e ?_|refine aJ e ?_|simp[E,A,D]);have w:=L;refine eG [2,3,52,53] (fun i (_:Unit)=>[(54,.int .i64 i)]) t.length (sD d t) () b6 (fun k M=>Ω) (fun _ j _=>?_) (fun i _ hi j _=>?_);rotate_left
 ·obtain⟨x,f⟩:∃x,d[i]? =some x:=⟨_,cl Ω⟩;obtain⟨y,g⟩:∃y,t[i]? =some y:=⟨_,cl hi⟩;have l:i<d.length:=Ω
  have r:∀h,(d[i]'h)=x:=fun h=>by rw[cl l]at f;exact fK f
  have p:∀h,(t[i]'h)=y:=fun h=>by rw[cl hi]at g;exact fK g
  have e:=aqO x y;by_cases q:x=y
  ·subst q;have B:=j.step f g;rw[(mC.zero _ _).2 rfl]at e;clear j f g;simp[hi,l,r,p,-je];(with_reducible repeat' first|refine al ?_|refine aI e ?_|refine aJ e ?_|simp[r,p,hi,l,-je]);all_goals exact bO.rng () hi B b6
  ·rw[w (fun h=>q (by rw[h]at f;rw[f]at g;exact fK g))];have G:=aqW q;clear j f g;simp[hi,l,r,p,-je];(with_reducible repeat' first|refine al ?_|refine aI e ?_|refine aJ e ?_|simp[r,p,hi,l,q,G,-je]);all_goals simp[bE,aX,a1,aV]
 have z:=j.fin E;subst z;clear j w L E;simp;(with_reducible repeat' first|refine al ?_|simp[A]);have w:=K;refine eG [2,3,69,70] (fun i (_:Unit)=>[(71,.int .i64 i)]) u.length (sD k u) () b6 (fun k M=>Ω) (fun _ j _=>?_) (fun i _ hi j _=>?_);rotate_left
 ·obtain⟨x,f⟩:∃x,k[i]? =some x:=⟨_,cl Ω⟩;obtain⟨y,g⟩:∃y,u[i]? =some y:=⟨_,cl hi⟩;have l:i<k.length:=Ω
  have r:∀h,(k[i]'h)=x:=fun h=>by rw[cl l]at f;exact fK f
  have p:∀h,(u[i]'h)=y:=fun h=>by rw[cl hi]at g;exact fK g
  have e:=True.intro;by_cases q:x=y
  ·subst q;have B:=j.step f g;skip;clear j f g;simp[hi,l,r,p,-je];(with_reducible repeat' first|refine al ?_|refine aI e ?_|refine aJ e ?_|simp[r,p,hi,l,-je]);all_goals exact bO.rng () hi B b6
  ·rw[w (fun h=>q (by rw[h]at f;rw[f]at g;exact fK g))];skip;clear j f g;simp[hi,l,r,p,-je];(with_reducible repeat' first|refine al ?_|refine aI e ?_|refine aJ e ?_|simp[r,p,hi,l,q,q,-je]);all_goals simp[bE,aX,a1,aV]
 have z:=j.fin A;subst z;clear j w K A;simp;(with_reducible repeat' first|refine al ?_|simp[D]);have w:=P;refine eG [3,85,86] (fun i (_:Unit)=>[(87,.int .i64 i)]) s.length (sD m s) () b6 (fun k M=>Ω) (fun _ j _=>?_) (fun i _ hi j _=>?_);rotate_left
 ·obtain⟨x,f⟩:∃x,m[i]? =some x:=⟨_,cl Ω⟩;obtain⟨y,g⟩:∃y,s[i]? =some y:=⟨_,cl hi⟩;have l:i<m.length:=Ω
  have r:∀h,(m[i]'h)=x:=fun h=>by rw[cl l]at f;exact fK f
  have p:∀h,(s[i]'h)=y:=fun h=>by rw[cl hi]at g;exact fK g
  have e:=True.intro;by_cases q:x=y
  ·subst q;have B:=j.step f g;skip;clear j f g;simp[hi,l,r,p,-je];(with_reducible repeat' first|refine al ?_|refine aI e ?_|refine aJ e ?_|simp[r,p,hi,l,-je]);all_goals exact bO.rng () hi B b6
  ·rw[w (fun h=>q (by rw[h]at f;rw[f]at g;exact fK g))];skip;clear j f g;simp[hi,l,r,p,-je];(with_reducible repeat' first|refine al ?_|refine aI e ?_|refine aJ e ?_|simp[r,p,hi,l,q,q,-je]);all_goals simp[bE,aX,a1,aV]
 have z:=j.fin D;subst z;have o:R=true:=by rw[<-bq];simp
 rw[o];exact cn
@[simp]theorem apK:∀l:List (List dj),cK (l.map gy)=l.map gy
 |[]=>rfl
 |x::xs=>by simp[cK,apK xs]
theorem ZZ:∀{d:List (List dj)},d.all hf=true->∃D:List (List au),d=(D.map fun x=>x.map au.b)/\∀x∈D,eJ x
 |[],_=>⟨[],rfl,Ψ⟩
 |x::d,h=>by
  rw[List.all_cons,cD]at h;obtain⟨D,J,U⟩:=ZZ h.2;obtain⟨s,b,c⟩:=x8.1 (si.1 h.1);refine⟨s::D,by rw[J,b];rfl,fun y a=>?_⟩;rcases gp.1 a with rfl|a
  ·exact c
  ·exact U y a
open Classical in
theorem aq1(r:j0)(M:iX r.m->wJ r.m):bL ar 26 [r.e] (.bool (decide (uU r))):=by
 generalize bq:decide (uU r)=R;have e:¬OJ r->R=false:=fun h=>by rw[<-bq,iq];exact fun ca=>h ca.raw
 obtain⟨n,b,d,k,m⟩:=r;simp only[j0.e]at M⊢;have J:=dL n 0 100000;by_cases g1:0<=n/\n<=100000;rotate_left
 ·rw[e fun h=>g1 h.n];rw[pj g1]at J;refine bs pc Tryz.func26 zM fun j=>?_;unfold w2;exact cn
 rw[oE g1]at J;have q:bL ar 70 [.slice 5 .no (b.map dj.e)] (.bool (hf b)):=PU b;cases g3:hf b
 ·rw[e fun h=>by obtain⟨s,f,U,_⟩:=h.b;have:=si.2 (x8.2 ⟨s,f,U⟩);simp only at this;rw[g3]at this;cases this]
  rw[g3]at q;refine bs pc Tryz.func26 zM fun j=>?_;unfold w2;exact cn
 rw[g3]at q;obtain⟨s,rfl,ag⟩:=x8.1 (si.1 g3);clear g3;rw[zF]at q⊢;have z:=aqN d;cases o:d.all hf
 ·rw[e fun h=>by
   have:d.all hf=true:=by rw[jL];intro x c;obtain⟨s,f,U,_⟩:=h.d x c;exact si.2 (x8.2 ⟨s,f,U⟩)
   rw[o]at this;cases this]
  rw[o]at z;refine bs pc Tryz.func26 zM fun j=>?_;unfold w2;exact cn
 rw[o]at z;obtain⟨D,rfl,DK⟩:=ZZ o;clear o;rw[KZ]at z⊢;have F:=aqZ k;by_cases g4:jl k;rotate_left
 ·rw[e fun h=>g4 h.k];rw[pj g4]at F;refine bs pc Tryz.func26 zM fun j=>?_;unfold w2;exact cn
 rw[oE g4]at F;have E:=aq0 m;by_cases g5:iX m;rotate_left
 ·rw[e fun h=>g5 h.m];rw[pj g5]at E;refine bs pc Tryz.func26 zM fun j=>?_;unfold w2;exact cn
 rw[oE g5]at E;have v:=aaO s n;cases g6:s.all (lJ n)
 ·rw[e fun h=>by obtain⟨aj,f,_,O⟩:=h.b;have N:=wU f;subst N;rw[wX.2 O]at g6;cases g6]
  rw[g6]at v;refine bs pc Tryz.func26 zM fun j=>?_;unfold w2;have pO:=v;exact cn
 rw[g6]at v;have cU:=wX.1 g6;clear g6;have Ea:=M g5;have kV:=Ea.len g5;refine bs pc Tryz.func26 zM fun j=>?_;unfold w2;have qY:D.length<=68719476736:=by simp[e1,eK,eV,lim]at j;omega
 have iE:=xE g4;clear j M;simp;(with_reducible repeat' first|refine al ?_|refine aI J ?_|refine aJ J ?_|refine aI q ?_|refine aJ q ?_|refine aI z ?_|refine aJ z ?_|refine aI F ?_|refine aJ F ?_|refine aI E ?_|refine aJ E ?_|refine aI v ?_|refine aJ v ?_|simp);refine eG [1,48,49] (fun i (_:Unit)=>[(50,.int .i64 i)]) D.length (ti (fun x=>qP x n) D) () b6 (fun k b ad=>Ω) (fun _ a _=>?_) (fun i _ hi a _=>?_);rotate_left
 ·obtain⟨y,H,fe⟩:=ev hi;have V:=eQ H;have Y:bL ar 74 [c6 y,.int .i64 n] (.bool (y.all (lJ n))):=aaO y n;cases p:y.all (lJ n)
  ·rw[e fun h=>by obtain⟨aj,f,_,O⟩:=h.d _ (List.mem_map_of_mem V);have N:=wU f;subst N;rw[wX.2 O]at p;cases p]
   rw[p]at Y;clear a H V;exact cn
  ·rw[p]at Y;have Z:=a.step H (wX.1 p);clear a H V;exact iH
 have LL:=a.fin;clear a;simp;(with_reducible repeat' first|refine al ?_|simp);refine eG [1,61,62] (fun i (_:Unit)=>[(63,.int .i64 i)]) k.length (ti (fun x=>x.v<n) k) () b6 (fun k b ad=>Ω) (fun _ a _=>?_) (fun i _ hi a _=>?_);rotate_left
 ·obtain⟨x,c,ct⟩:=ev hi;by_cases u:x.v<n
  ·have K:¬n<=x.v:=Ω
   have Z:=a.step c u;clear a c;exact iH
  ·have K:n<=x.v:=Ω
   rw[e fun h=>u (h.kb x (eQ c))];clear a c;exact cn
 have L:=a.fin;clear a;simp;(with_reducible repeat' first|refine al ?_|simp);have y7:=L;refine eG [1,74,75] (fun i (_:Unit)=>[(76,.int .i64 i)]) m.length (ti (fun x=>x.v<n) m) () b6 (fun k b ad=>Ω) (fun _ a _=>?_) (fun i _ hi a _=>?_);rotate_left
 ·obtain⟨x,c,ct⟩:=ev hi;by_cases u:x.v<n
  ·have K:¬n<=x.v:=Ω
   have Z:=a.step c u;clear a c;exact iH
  ·have K:n<=x.v:=Ω
   rw[e fun h=>u (h.mb x (eQ c))];clear a c;exact cn
 have L:=a.fin;clear a;simp;(with_reducible repeat' first|refine al ?_|simp);have xu:=L;have dr:Ad ⟨n,s,D,k,m⟩:=⟨g1,ag,DK,g4,g5,cU,LL,y7,xu⟩;have X:=ZR dr;obtain⟨G,n1,aY⟩:=Ea;have g:=aqT dr n1 aY;have l:uU ⟨n,s.map au.b,D.map fun x=>x.map au.b,k,m⟩↔nc ⟨n,s,D,k,m⟩=some ⟨n,s,D,k,m⟩:=X;clear X e;simp only[OX]at g;generalize W:Cv ⟨n,s,D,k,m⟩=t at g;have A:=aqS t ⟨n,s,D,k,m⟩;cases B:nc ⟨n,s,D,k,m⟩with
 |none=>
  rw[B]at g l;have w:R=false:=by rw[<-bq,iq,l];simp
  rw[w];obtain⟨hp,S,P,tk,tm⟩:=t;simp only[nh,dW.e]at g;clear bq w l W A;exact cn
 |some dK=>
  have f:=apa B;rw[W]at f;subst f;rw[B]at g l;have w:R=decide (t=⟨n,s,D,k,m⟩):=by rw[<-bq,decide_eq_decide,l];simp
  rw[w];simp only[tS]at g;simp only[dW.e]at g A;clear bq w l B;generalize decide (t=(⟨n,s,D,k,m⟩:dW))=Q at A⊢;clear W;obtain⟨hp,S,P,tk,tm⟩:=t;simp only at g A;exact cn
end
end Go.Proofs.YtfeencekjcjalaaGreatDoor
