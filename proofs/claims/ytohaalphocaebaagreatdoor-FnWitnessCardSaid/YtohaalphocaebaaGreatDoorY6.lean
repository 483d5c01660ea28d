/- From a contract of a law of bytes to its row. -/
import Derived.Test.YtohaalphocaebaaGreatDoorProg
import Derived.ProofKit
import Derived.Carry
import Derived.WalkKit
import Derived.Test.YtohaalphocaebaaGreatDoorY5
set_option linter.all false
set_option maxHeartbeats 4000000
set_option maxRecDepth 4000
open Bool renaming and_eq_true->cE,eq_iff_iff->p1
open Go.IntKind renaming bits->nW,signed->rD
open Go.Proofs.Tryz renaming prog->az
open Go.Value renaming cells->pe
open List renaming cons_append->bO,drop_eq_getElem_cons->kX,getElem?_eq_getElem->cf,getElem?_eq_some_iff->fb,length_append->pf,length_cons->l5,map_cons->hk,mem_append->ih,mem_cons->fD,mem_map->iy,mem_of_getElem?->ed,mem_singleton->oF,nil_append->bS,pairwise_cons->mC,take_length->l6,take_of_length_le->hx
open List.cons renaming injEq->xE
open Nat renaming le_refl->eX
open Option renaming getD_none->l7,getD_some->jL,map_eq_some_iff->gk
open Option.some renaming inj->eJ
open _root_ renaming DecidableEq->mA,False->eW,beq_iff_eq->dL,congrArg->eK,decide_eq_true->gD,decide_eq_true_eq->e6
namespace Go.Proofs.YtohaalphocaebaaGreatDoor
section
open Go Go.Pv
structure hP where
 s:List (List UInt8)
 i:List Int
def kA{α:Type}[mA α](x:α)(l:List α):List α:=if x∈l then l else l++[x]
theorem AW{α:Type}[mA α]{x y:α}{l:List α}:y∈kA x l↔y∈l\/y=x:=by
 unfold kA;split
 ·rename_i h;exact⟨.inl,fun b4=>b4.elim id fun e=>e▸h⟩
 ·simp
theorem IS{α:Type}[mA α]{x:α}{l:List α}(h:l.Nodup):(kA x l).Nodup:=by
 unfold kA;split
 ·exact h
 ·rename_i ae;rw[List.nodup_append];exact⟨h,Ψ,fun a bk b ab e=>ae (by rw[oF.1 ab]at e;rw[<-e];exact bk)⟩
theorem IQ{α:Type}[mA α](x:α)(l:List α):(kA x l).length<=l.length+1:=by
 unfold kA;split
 ·omega
 ·simp
def gA:T->hP->hP
 | .sym g,w=>⟨kA g w.s,w.i⟩
 | .num k,w=>⟨w.s,kA k w.i⟩
 | .pair a b,w=>gA b (gA a w)
 |_,w=>w
def kl(l:List ak)(w:hP):hP:=l.foldl (fun w b=>gA b.t w) w
def rs(l:List (List ak))(w:hP):hP:=l.foldl (fun w d=>kl d w) w
def rv(l:List bo)(w:hP):hP:=l.foldl (fun w m=>⟨kA m.s w.s,w.i⟩) w
def pa(s:bP):hP:=rv s.m (rs s.d (kl s.b ⟨[],[]⟩))
structure l1 (w w':hP) (k:Nat):Prop where
 s:∀x∈w.s,x∈w'.s
 i:∀x∈w.i,x∈w'.i
 ns:w.s.Nodup->w'.s.Nodup
 ni:w.i.Nodup->w'.i.Nodup
 ls:w'.s.length<=w.s.length+k
 li:w'.i.length<=w.i.length+k
theorem l1.refl(w:hP):l1 w w 0:=⟨fun _ h=>h,fun _ h=>h,id,id,Ω,Ω⟩
theorem l1.trans{a b c:hP}{j k:Nat}(h:l1 a b j)(b4:l1 b c k):l1 a c (j+k):=⟨fun x ae=>b4.s x (h.s x ae),fun x ae=>b4.i x (h.i x ae),fun ay=>b4.ns (h.ns ay),fun ay=>b4.ni (h.ni ay),by have:=h.ls;have:=b4.ls;omega,by have:=h.li;have:=b4.li;omega⟩
theorem l1.le{a b:hP}{j k:Nat}(h:l1 a b j)(ad:j<=k):l1 a b k:=⟨h.s,h.i,h.ns,h.ni,by have:=h.ls;omega,by have:=h.li;omega⟩
theorem NV:∀(t:T) (w:hP),l1 w (gA t w) t.size
 | .sym g,w=>⟨fun _ h=>AW.2 (.inl h),fun _ h=>h,IS,id,IQ _ _,by simp[gA]⟩
 | .num k,w=>⟨fun _ h=>h,fun _ h=>AW.2 (.inl h),id,IS,by simp[gA],IQ _ _⟩
 | .pair a b,w=>((NV a w).trans (NV b _)).le (by simp only[T.size];omega)
 | .var _,w=>(l1.refl w).le Ω
 | .nil,w=>(l1.refl w).le Ω
theorem Ij:∀(l:List ak) (w:hP),(∀b∈l,b.t.size<=5000)->l1 w (kl l w) (l.length*5000)
 |[],w,_=>(l1.refl w).le Ω
 |b::l,w,h=>by refine(((NV b.t w).le (h b Ψ)).trans (Ij l (gA b.t w) fun c aq=>h c (by simp[aq]))).le ?_;rw[l5];omega
theorem NU:∀(l:List (List ak)) (w:hP),(∀d∈l,d.length<=400/\∀b∈d,b.t.size<=5000)->l1 w (rs l w) (l.length*2000000)
 |[],w,_=>(l1.refl w).le Ω
 |d::l,w,h=>by refine(((Ij d w (h d Ψ).2).le (k:=2000000) (by have:=(h d Ψ).1;omega)).trans (NU l (kl d w) fun c aq=>h c (by simp[aq]))).le ?_;rw[l5];omega
theorem XV:∀(l:List bo) (w:hP),l1 w (rv l w) l.length
 |[],w=>(l1.refl w).le Ω
 |m::l,w=>((show l1 w ⟨kA m.s w.s,w.i⟩ 1 from⟨fun _ h=>AW.2 (.inl h),fun _ h=>h,IS,id,IQ _ _,Ψ⟩).trans (XV l _)).le (by rw[l5];omega)
structure zk (w:hP) (t:T):Prop where
 s:∀g,t= .sym g->g∈w.s
 i:∀k,t= .num k->k∈w.i
theorem zk.mono{w w':hP}{k:Nat}{t:T}(h:zk w t)(aJ:l1 w w' k):zk w' t:=⟨fun g e=>aJ.s _ (h.s g e),fun k e=>aJ.i _ (h.i k e)⟩
theorem amg(t:T)(w:hP):zk (gA t w) t:=by
 cases t with
 |sym g=>exact⟨fun ff e=>by cases e;exact AW.2 (.inr rfl),fun _ e=>by cases e⟩
 |num k=>exact⟨fun _ e=>(by cases e),fun bI e=>by cases e;exact AW.2 (.inr rfl)⟩
 |_=>exact⟨fun _ e=>(by cases e),fun _ e=>(by cases e)⟩
theorem XR:∀(l:List ak) (w:hP),(∀b∈l,b.t.size<=5000)->∀b∈l,zk (kl l w) b.t
 |c::l,w,h,b,ab=>by
  have b4:∀c∈l,c.t.size<=5000:=fun z bf=>h z (by simp[bf]);rcases fD.1 ab with rfl|ab
  ·exact(amg b.t w).mono (Ij l (gA b.t w) b4)
  ·exact XR l (gA c.t w) b4 b ab
theorem XT:∀(l:List (List ak)) (w:hP),(∀d∈l,d.length<=400/\∀b∈d,b.t.size<=5000)->∀d∈l,∀b∈d,zk (rs l w) b.t
 |e::l,w,h,d,aN,b,ab=>by
  have b4:∀d∈l,d.length<=400/\∀b∈d,b.t.size<=5000:=fun z bf=>h z (by simp[bf]);rcases fD.1 aN with rfl|aN
  ·exact(XR d w (h d Ψ).2 b ab).mono (NU l (kl d w) b4)
  ·exact XT l (kl e w) b4 d aN b ab
def sy(l:List (List UInt8)):Prop:= ∀g∈l,g.head?≠some 119
theorem Vv{g:List UInt8}{l:List (List UInt8)}(h:sy l)(aX:g.head?≠some 119):sy (kA g l):=fun x ae=>by
 rcases AW.1 ae with ae|rfl
 ·exact h x ae
 ·exact aX
theorem NW:∀(t:T) (w:hP),jH t=true->sy w.s->sy (gA t w).s
 | .sym g,w,h,hw=>Vv hw (by simpa[jH]using h)
 | .num k,w,h,hw=>hw
 | .pair a b,w,h,hw=>by simp only[jH,cE]at h;exact NW b _ h.2 (NW a w h.1 hw)
 | .var _,w,h,hw=>hw
 | .nil,w,h,hw=>hw
theorem NT:∀(l:List ak) (w:hP),(∀b∈l,jH b.t=true)->sy w.s->sy (kl l w).s
 |[],w,_,hw=>hw
 |b::l,w,h,hw=>NT l (gA b.t w) (fun c aq=>h c (by simp[aq])) (NW b.t w (h b Ψ) hw)
theorem XU:∀(l:List (List ak)) (w:hP),(∀d∈l,∀b∈d,jH b.t=true)->sy w.s->sy (rs l w).s
 |[],w,_,hw=>hw
 |d::l,w,h,hw=>XU l (kl d w) (fun c aq=>h c (by simp[aq])) (NT d w (h d Ψ) hw)
theorem XX:∀(l:List bo) (w:hP),(∀m∈l,m.s.head?≠some 119)->sy w.s->sy (rv l w).s
 |[],w,_,hw=>hw
 |m::l,w,h,hw=>XX l ⟨kA m.s w.s,w.i⟩ (fun c aq=>h c (by simp[aq])) (Vv hw (h m Ψ))
def pb(k:Nat):List UInt8:=[119,UInt8.ofNat (48+k)]
theorem YC{i j:Nat}(hi:i<10)(af:j<10)(h:pb i=pb j):i=j:=by simp only[pb,xE,and_true,true_and]at h;have:=eK UInt8.toNat h;rw[UInt8.toNat_ofNat',UInt8.toNat_ofNat',Nat.mod_eq_of_lt Ω,Nat.mod_eq_of_lt Ω]at this;omega
def uO(l:List Int):Nat->Nat->Nat
 |0,n=>n
 |f+1,n=>if(n:Int)∈l then uO l f (n+1)else n
theorem Sg(l:List Int):∀(f n:Nat),n<=uO l f n/\uO l f n<=n+f/\(∀m,n<=m->m<uO l f n->(m:Int)∈l)/\(uO l f n=n+f\/(uO l f n:Int)∉l)
 |0,n=>⟨eX _,eX _,fun m J U=>(by simp only[uO]at U;omega),.inl rfl⟩
 |f+1,n=>by
  simp only[uO];split
  ·rename_i h;obtain⟨J,U,ar,a8⟩:=Sg l f (n+1);refine⟨Ω,Ω,fun m hm Gc=>?_,a8.imp (fun e=>Ω) id⟩;by_cases e:m=n
   ·subst e;exact h
   ·exact ar m Ω Gc
  ·rename_i h;exact⟨eX _,Ω,fun m J U=>Ω,.inr h⟩
theorem ahM{a:List Int}(bk:a.Nodup):∀{l:List Int},(∀x∈a,x∈l)->a.length<=l.length:=by
 induction a with
 |nil=>intro l _;simp
 |cons x a bU=>
  intro l h;obtain⟨ae,bk⟩:=List.nodup_cons.1 bk;have av:=List.length_erase_of_mem (h x Ψ);have:=bU bk (l:=l.erase x) fun y aH=>by
   have cK:y≠x:=fun e=>by subst e;exact ae aH
   rw[List.mem_erase_of_ne cK];exact h y (by simp[aH])
  have bK:0<l.length:=List.length_pos_of_mem (h x Ψ);rw[l5];omega
def nL(l:List Int):Nat:=uO l (l.length+1) 0
theorem G6(l:List Int):(∀m,m<nL l->(m:Int)∈l)/\(nL l:Int)∉l/\nL l<=l.length:=by
 obtain⟨_,U,ar,a8⟩:=Sg l (l.length+1) 0;have hle:nL l<=l.length:=by
  have:=ahM (agp (nL l)) (l:=l) fun x ae=>by obtain⟨bE,J⟩:=U4.1 ae;have:=ar x.toNat Ω (show x.toNat<nL l by omega);rwa[Int.toNat_of_nonneg bE]at this
  rwa[ago]at this
 refine⟨fun m hm=>ar m Ω hm,?_,hle⟩;rcases a8 with a8|a8
 ·have:nL l=0+(l.length+1):=a8;omega
 ·exact a8
structure B1 where
 i:List Int
 j:Nat
 f:List ak
def Et(s:bP)(w:B1)(v:Int):B1:=
 if(cU s.b v).isSome then w
 else if iZ s.k v=some 2 then⟨w.i,w.j+1,w.f++[⟨v,.sym (pb w.j)⟩]⟩
 else⟨w.i++[(nL w.i:Int)],w.j,w.f++[⟨v,.num (nL w.i)⟩]⟩
def iG(s:bP):Nat->B1
 |0=>⟨(pa s).i,0,[]⟩
 |k+1=>Et s (iG s k) k
structure ak7 (s:bP) (k:Nat) (w:B1):Prop where
 i:∀x∈(pa s).i,x∈w.i
 li:w.i.length<=(pa s).i.length+k
 j:w.j<=k
 v:∀b∈w.f,(0<=b.v/\b.v<k)/\cU s.b b.v=none
 asc:gQ w.f
 al:∀u:Int,0<=u->u<k->cU s.b u=none->∃t,(⟨u,t⟩:ak)∈w.f
 at':∀b∈w.f,if iZ s.k b.v=some 2 then∃i,i<w.j/\b.t= .sym (pb i)else∃m:Nat,b.t= .num m/\(m:Int)∈w.i/\(m:Int)∉(pa s).i/\m<=(pa s).i.length+k
 ne:w.f.Pairwise fun b c=>b.t≠c.t
theorem Bw(s:bP):∀k,k<=9->ak7 s k (iG s k)
 |0,_=>⟨fun _ h=>h,by simp[iG],by simp[iG],by simp[iG],by simp[iG,gQ],fun u bE J=>Ω,by simp[iG],by simp[iG]⟩
 |k+1,ad=>by
  have h:=Bw s k Ω;simp only[iG];generalize iG s k=w at h⊢;unfold Et;have DR:∀{w':B1},(∀b∈w.f,b∈w.f)->w.j<=w'.j->(∀x∈w.i,x∈w'.i)->∀b∈w.f,if iZ s.k b.v=some 2 then∃i,i<w'.j/\b.t= .sym (pb i)else∃m:Nat,b.t= .num m/\(m:Int)∈w'.i/\(m:Int)∉(pa s).i/\m<=(pa s).i.length+(k+1:Nat):=fun _ af hi b ab=>by
   have:=h.at' b ab;split at this
   ·rename_i e;rw[if_pos e];obtain⟨i,J,U⟩:=this;exact⟨i,Ω,U⟩
   ·rename_i e;rw[if_neg e];obtain⟨m,J,U,ar,a8⟩:=this;exact⟨m,J,hi _ U,ar,Ω⟩
  have OU:∀t,gQ (w.f++[⟨k,t⟩]):=fun t=>by unfold gQ;rw[List.pairwise_append];refine⟨h.asc,Ψ,fun b ab c aq=>?_⟩;rw[oF.1 aq];have:=(h.v b ab).1;simp only;omega
  have X0:∀t,cU s.b k=none->∀b∈w.f++[⟨k,t⟩],(0<=b.v/\b.v<((k+1:Nat):Int))/\cU s.b b.v=none:=fun t aR b ab=>by
   rcases ih.1 ab with ab|ab
   ·have:=h.v b ab;exact⟨Ω,this.2⟩
   ·rw[oF.1 ab];exact⟨by simp only;omega,aR⟩
  have ON:∀t,∀u:Int,0<=u->u<((k+1:Nat):Int)->cU s.b u=none->∃dE,(⟨u,dE⟩:ak)∈w.f++[⟨k,t⟩]:=fun t u bE J aR=>by
   by_cases e:u=k
   ·subst e;exact⟨t,Ψ⟩
   ·obtain⟨dE,U⟩:=h.al u bE Ω aR;exact⟨dE,List.mem_append_left _ U⟩
  have Vs:∀t,(∀b∈w.f,b.t≠t)->(w.f++[(⟨k,t⟩:ak)]).Pairwise fun b c=>b.t≠c.t:=fun t aM=>by rw[List.pairwise_append];refine⟨h.ne,Ψ,fun b ab c aq=>?_⟩;rw[oF.1 aq];exact aM b ab
  split
  ·rename_i ab;refine⟨h.i,by have:=h.li;omega,by have:=h.j;omega,fun b ab=>?_,h.asc,fun u bE J aR=>?_,DR (fun _ h=>h) (eX _) (fun _ h=>h),h.ne⟩
   ·have:=h.v b ab;exact⟨Ω,this.2⟩
   ·by_cases e:u=k
    ·rw[<-e,aR]at ab;cases ab
    ·exact h.al u bE Ω aR
  ·rename_i ab;have aR:cU s.b k=none:=by simpa using ab
   split
   ·rename_i mP;refine⟨h.i,by have:=h.li;simp only;omega,by have:=h.j;simp only;omega,X0 _ aR,OU _,ON _,fun b ab=>?_,Vs _ fun b ab e=>?_⟩
    ·rcases ih.1 ab with ab|ab
     ·exact DR (w':=⟨w.i,w.j+1,_⟩) (fun _ h=>h) Ψ (fun _ h=>h) b ab
     ·rw[oF.1 ab];simp only;rw[if_pos mP];exact⟨w.j,Ω,rfl⟩
    ·have:=h.at' b ab;have af:=h.j;split at this
     ·obtain⟨i,J,U⟩:=this;rw[U]at e;have:=YC (i:=i) (j:=w.j) Ω Ω (T.sym.inj e);omega
     ·obtain⟨m,J,_⟩:=this;rw[J]at e;cases e
   ·rename_i mP;obtain⟨a6,bD,bY⟩:=G6 w.i;refine⟨fun x ae=>List.mem_append_left _ (h.i x ae),by have:=h.li;simp only[pf,List.length_singleton];omega,by have:=h.j;simp only;omega,X0 _ aR,OU _,ON _,fun b ab=>?_,Vs _ fun b ab e=>?_⟩
    ·rcases ih.1 ab with ab|ab
     ·exact DR (w':=⟨w.i++[(nL w.i:Int)],w.j,_⟩) (fun _ h=>h) Ψ (fun _ h=>List.mem_append_left _ h) b ab
     ·rw[oF.1 ab];simp only;rw[if_neg mP];exact⟨nL w.i,rfl,Ψ,fun ae=>bD (h.i _ ae),by have:=h.li;omega⟩
    ·have:=h.at' b ab;split at this
     ·obtain⟨i,J,U⟩:=this;rw[U]at e;cases e
     ·obtain⟨m,J,U,_⟩:=this;rw[J]at e;rw[T.num.inj e]at U;exact bD U
def Pz:C:=(aa [c8 1 0,e4 2 5,bq 3 false] (.seq (aa [a7 27 5 1,cR 28 22 27,cJ 29 28,I 30 29,au 30 false (aI 31 0 1 1),au 30 false (aw 32 1 31),au 30 false (aS 33 .gtr 32 400),c6 34 30 33] (aZ 34 (aa [e4 2 5,bq 3 false] .ret) .skip)) (aa [cN (.mkmap 35 (some 751)),cN (.alloc 4 (some 752) (.junk)),bN 1 4 35] (aa [cN (.mkmap 36 (some 753)),cN (.alloc 5 (some 754) (.junk)),bN 1 5 36] (aa [cN (.alloc 6 (some 755) (.junk))] (aa [bR 37 (.mkf 23 [.t 4,.t 5,.t 6]),bN 1 6 37] (.seq (aa [aI 38 1 1 1,aw 39 1 38,cz 40 39,cd 41 0] (e5 42 41 40 (.seq (.block 1 (aa [cy 43 5 39 41,a7 44 5 43,c1 8 hT,bN 5 8 44] (.region [aw 45 1 6,gI 46 1 4 8,a7 47 4 46,gj 48 45 [.t 47]]))) (.region [aS 49 .add 41 1,I 41 49])))) (.seq (aa [aI 50 2 1 1,aw 51 1 50,cz 52 51,cd 53 0] (.block 2 (.loop (aa [br 54 .lss 53 52] (.seq (aZ 54 .skip (.exit 2)) (.seq (.block 3 (aa [cy 55 1 51 53,aw 56 1 55,I 10 56] (aa [I 57 10,cz 58 57,cd 59 0] (.block 4 (.loop (aa [br 60 .lss 59 58] (.seq (aZ 60 .skip (.exit 4)) (.seq (.block 5 (aa [cy 61 5 57 59,a7 62 5 61,c1 12 hT,bN 5 12 62] (.region [aw 63 1 6,gI 64 1 4 12,a7 65 4 64,gj 66 63 [.t 65]]))) (.region [aS 67 .add 59 1,I 59 67]))))))))) (.region [aS 68 .add 53 1,I 53 68]))))))) (.seq (aa [aI 69 4 1 1,aw 70 1 69,cz 71 70,cd 72 0] (.block 6 (.loop (aa [br 73 .lss 72 71] (.seq (aZ 73 .skip (.exit 6)) (.seq (.block 7 (aa [cy 74 2 70 72,a7 75 2 74,cN (.alloc 14 none (.agg [.int .i64 0,.str []])),bN 2 14 75] (.region [aw 76 1 4,aI 77 1 1 14,aw 78 1 77,cN (.mput .s (.t 76) (.t 78) (.c (.bool true)))]))) (.region [aS 79 .add 72 1,I 72 79]))))))) (aa [cN (.mkmap 80 none),I 15 80] (.seq (aa [aI 81 3 1 1,aw 82 1 81,cz 83 82,cd 84 0] (.block 8 (.loop (aa [br 85 .lss 84 83] (.seq (aZ 85 .skip (.exit 8)) (.seq (.block 9 (aa [cy 86 2 82 84,a7 87 2 86,cN (.alloc 17 none (.agg [.int .i64 0,.int .i64 0])),bN 2 17 87] (.region [I 88 15,aI 89 0 1 17,aw 90 1 89,aI 91 1 1 17,aw 92 1 91,cN (.mput .i (.t 88) (.t 90) (.t 92))]))) (.region [aS 93 .add 84 1,I 84 93]))))))) (aa [eE 94 5 54 [],I 18 94] (.seq (aa [cd 19 0] (.block 10 (.loop (.seq (aa [I 95 19,aI 96 0 1 1,aw 97 1 96,br 98 .lss 95 97] (aZ 98 .skip (.exit 10))) (.seq (.block 11 (.seq (aa [aI 101 1 1 1,aw 102 1 101,I 103 19,ch 104 24 102 103,aS 105 .geq 104 0] (aZ 105 (.exit 11) .skip)) (aa [cd 20 0] (.seq (aa [I 106 15,I 107 19,bR 108 (.mget .i (.int .i64 0) false (.t 106) (.t 107)),aS 109 .eql 108 2] (aZ 109 (.seq (.block 12 (.loop (.seq (.seq (.drawn true 178 [aw 110 1 4,I 111 20,cR 112 25 111,bR 113 (.bin .add false (.c (.str [119])) (.t 112)),bR 114 (.mgetB .s (.bool false) false (.t 110) (.t 113))]) (aZ 114 .skip (.exit 12))) (.block 13 (.region [I 115 20,aS 116 .add 115 1,I 20 116]))))) (.seq (.drawn true 178 [aw 117 1 4,I 118 20,cR 119 25 118,bR 120 (.bin .add false (.c (.str [119])) (.t 119)),cN (.mput .s (.t 117) (.t 120) (.c (.bool true)))]) (aa [I 121 18,I 122 19,I 123 20,cR 124 25 123,bR 125 (.bin .add false (.c (.str [119])) (.t 124)),cR 126 26 125,hD 127 hT [(0,1,(.t 122)),(1,4,(.t 126))],eE 128 5 54 [.t 127],hj 129 5 54 121 128,I 18 129] (.exit 11)))) .skip)) (.seq (.block 14 (.loop (.seq (aa [aw 130 1 5,I 131 20,bR 132 (.mget .i (.bool false) false (.t 130) (.t 131))] (aZ 132 .skip (.exit 14))) (.block 15 (.region [I 133 20,aS 134 .add 133 1,I 20 134]))))) (aa [aw 135 1 5,I 136 20,cN (.mput .i (.t 135) (.t 136) (.c (.bool true)))] (.region [I 137 18,I 138 19,I 139 20,cR 140 27 139,hD 141 hT [(0,1,(.t 138)),(1,4,(.t 140))],eE 142 5 54 [.t 141],hj 143 5 54 137 142,I 18 143]))))))) (.region [I 99 19,aS 100 .add 99 1,I 19 100])))))) (aa [eE 144 5 54 [],I 21 144] (.seq (aa [cd 22 0] (.block 16 (.loop (.seq (aa [I 145 22,aI 146 0 1 1,aw 147 1 146,br 148 .lss 145 147] (aZ 148 .skip (.exit 16))) (.seq (.block 17 (aa [I 151 22,cR 152 28 151,c1 23 dd,bN 4 23 152] (.seq (aa [aI 153 1 1 1,aw 154 1 153,I 155 22,ch 156 24 154 155,I 24 156] (aa [I 157 24,aS 158 .geq 157 0] (aZ 158 (.region [aI 159 1 1 1,aw 160 1 159,I 161 24,cy 162 5 160 161,gI 163 1 4 162,a7 164 4 163,bN 4 23 164]) .skip))) (aa [I 166 18,a7 167 4 23,ch 168 29 166 167,I 165 168,cC 169 0 165,cC 170 1 165,c1 25 dd,bN 4 25 169,I 26 170] (.region [I 171 21,I 172 22,a7 173 4 25,hD 174 hT [(0,1,(.t 172)),(1,4,(.t 173))],eE 175 5 54 [.t 174],hj 176 5 54 171 175,I 21 176]))))) (.region [I 149 22,aS 150 .add 149 1,I 22 150])))))) (aa [I 177 21,I 2 177,bq 3 true] .ret))))))))))))))))
@[simp] def akj:List bX:=[.tmp 2,.tmp 3]
def zD:C:=(aa [c8 4 0] (aa [aI 5 0 1 4,aw 6 1 5] (.block 0 (aa [aS 8 .eql 6 2,I 7 8] (aZ 7 (.region [aw 9 1 1,aI 10 2 1 4,aw 11 1 10,cN (.mput .s (.t 9) (.t 11) (.c (.bool true)))]) (aa [aS 13 .eql 6 3,I 12 13] (aZ 12 (.region [aw 14 1 2,aI 15 1 1 4,aw 16 1 15,cN (.mput .i (.t 14) (.t 16) (.c (.bool true)))]) (aa [aS 18 .eql 6 4,I 17 18] (aZ 17 (.seq (.drawn false 31 [bR 19 (.loadB false 1 (.t 3)),aI 20 3 1 4,aw 21 1 20,jv 22 4 21 0,a7 23 4 22,gj 24 19 [.t 23]]) (.drawn false 31 [bR 25 (.loadB false 1 (.t 3)),aI 26 3 1 4,aw 27 1 26,jv 28 4 27 1,a7 29 4 28,gj 30 25 [.t 29]])) .skip)))))))))
@[simp] def Bi:List bX:=[]
def Pl:C:=(aa [bR 2 (.mov (.c (.str [])))] (aa [I 3 0,cR 4 59 3,I 2 4] .ret))
@[simp] def akc:List bX:=[.tmp 2]
def P5:C:=(aa [c1 2 dd] (aa [I 3 0,hD 4 dd [(0,1,(eF 2)),(2,1,(.t 3))],bN 4 2 4] .ret))
@[simp] def akp:List bX:=[.cell 2 true 4]
def PV:C:=(aa [c1 2 dd] (aa [I 3 0,hD 4 dd [(0,1,(eF 3)),(1,1,(.t 3))],bN 4 2 4] .ret))
@[simp] def ako:List bX:=[.cell 2 true 4]
def Re:C:=(aa [bR 2 (.mov (.c (.str [])))] (aa [I 3 0,cR 4 111 3,I 2 4] .ret))
@[simp] def akT:List bX:=[.tmp 2]
def P9:C:=(aa [bR 2 (.mov (.c (.str [])))] (aa [I 3 0,dj 4 153 [.t 3,(eF 10)],I 2 4] .ret))
@[simp] def akt:List bX:=[.tmp 2]
def P8:C:=(aa [bR 4 (.mov (.c (.str [])))] (.seq (aa [I 10 1,aS 11 .eql 10 10] (aZ 11 (.seq (aa [I 12 0,bR 13 (.bin .leq false (eF 0) (.t 12)),I 14 13,bW 14 true 15 0,au 14 true (aS 16 .lss 15 100),dq 17 14 16] (aZ 17 (aa [I 18 0,cR 19 174 18,I 4 19] .ret) .skip)) (.seq .no (aa [I 20 0,bR 21 (.conv .u64 (.t 20)),I 6 21] (.seq (aa [I 22 0,aS 23 .lss 22 0] (aZ 23 (.region [I 24 6,bR 25 (.neg (.t 24)),I 6 25]) .skip)) (aa [I 26 6,cR 27 175 26,I 7 27] (.seq .no (.seq (aa [I 33 0,aS 34 .lss 33 0] (aZ 34 (.seq .no (.seq .no .ret)) .skip)) (.seq .no .ret)))))))) .skip)) (aa [I 45 0,bR 46 (.conv .u64 (.t 45)),I 47 1,I 48 0,aS 49 .lss 48 0,dj 50 177 [(.c (.slice 1 .nil [])),.t 46,.t 47,.t 49,(.c (.bool false))],I 44 50,cC 51 0 44,cC 52 1 44,I 8 51,I 9 52] (aa [I 53 9,I 4 53] .ret))))
@[simp] def aks:List bX:=[.tmp 4]
def Qa:C:=(aa [bR 2 (.mov (.c (.str [])))] (.seq (aa [I 3 0,aS 4 .lss 3 10] (aZ 4 (aa [I 5 0,I 6 0,aS 7 .add 6 1,bR 8 (.ssl (.c (.str [48,49,50,51,52,53,54,55,56,57,97,98,99,100,101,102,103,104,105,106,107,108,109,110,111,112,113,114,115,116,117,118,119,120,121,122])) (some (.t 5)) (some (.t 7))),I 2 8] .ret) .skip)) (aa [I 9 0,aS 10 .mul 9 2,I 11 0,aS 12 .mul 11 2,aS 13 .add 12 2,bR 14 (.ssl (.c (.str [48,48,48,49,48,50,48,51,48,52,48,53,48,54,48,55,48,56,48,57,49,48,49,49,49,50,49,51,49,52,49,53,49,54,49,55,49,56,49,57,50,48,50,49,50,50,50,51,50,52,50,53,50,54,50,55,50,56,50,57,51,48,51,49,51,50,51,51,51,52,51,53,51,54,51,55,51,56,51,57,52,48,52,49,52,50,52,51,52,52,52,53,52,54,52,55,52,56,52,57,53,48,53,49,53,50,53,51,53,52,53,53,53,54,53,55,53,56,53,57,54,48,54,49,54,50,54,51,54,52,54,53,54,54,54,55,54,56,54,57,55,48,55,49,55,50,55,51,55,52,55,53,55,54,55,55,55,56,55,57,56,48,56,49,56,50,56,51,56,52,56,53,56,54,56,55,56,56,56,57,57,48,57,49,57,50,57,51,57,52,57,53,57,54,57,55,57,56,57,57])) (some (.t 10)) (some (.t 13))),I 2 14] .ret)))
@[simp] def aku:List bX:=[.tmp 2]
def uh:List (Nat×dz):=[
 (2,⟨1,8,.int .i64,.int .i64 0⟩),
 (3,⟨1,8,.int .i64,.int .i64 0⟩),
 (4,⟨1,1,.bool,.bool false⟩),
 (9,⟨1,16,.str,.str []⟩),
 (23,⟨1,24,.slice 54,.slice 5 .nil []⟩),
 (24,⟨1,24,.slice 23,.slice 1 .nil []⟩),
 (25,⟨1,24,.slice 59,.slice 2 .nil []⟩),
 (26,⟨1,24,.slice 56,.slice 2 .nil []⟩),
 (28,⟨5,104,.struct [(0,3),(1,23),(2,24),(3,25),(4,26)],.agg [.int .i64 0,.slice 5 .nil [],.slice 1 .nil [],.slice 2 .nil [],.slice 2 .nil []]⟩),
 (34,⟨1,24,.slice 36,.slice 4 .nil []⟩),
 (36,⟨4,56,.struct [(0,3),(1,3),(2,9),(3,34)],.agg [.int .i64 0,.int .i64 0,.str [],.slice 4 .nil []]⟩),
 (50,⟨1,8,.map 9 4,.junk⟩),
 (51,⟨1,8,.map 3 4,.junk⟩),
 (52,⟨1,8,.other,.junk⟩),
 (54,⟨5,64,.struct [(0,3),(1,36)],.agg [.int .i64 0,.int .i64 0,.int .i64 0,.str [],.slice 4 .nil []]⟩),
 (56,⟨2,24,.struct [(0,3),(1,9)],.agg [.int .i64 0,.str []]⟩),
 (57,⟨1,8,.map 3 3,.junk⟩),
 (59,⟨2,16,.struct [(0,3),(1,3)],.agg [.int .i64 0,.int .i64 0]⟩),
 (170,⟨1,8,.int .u64,.int .u64 0⟩)]
theorem qB:fI az uh=true:=by kernel_rfl
theorem ah6:b7 uh Pz akj 1 Tryz.f7=true:=by kernel_rfl
theorem abp:az.funcs[(7:Nat)]? =some Tryz.f7:=Tryz.func7
theorem DK:b7 uh zD Bi 4 Tryz.f23=true:=by kernel_rfl
theorem Cm:az.funcs[(23:Nat)]? =some Tryz.f23:=Tryz.func23
theorem ahT:b7 uh Pl akc 1 Tryz.f25=true:=by kernel_rfl
theorem abc:az.funcs[(25:Nat)]? =some Tryz.f25:=Tryz.func25
theorem aiC:b7 uh P5 akp 1 Tryz.f26=true:=by kernel_rfl
theorem abV:az.funcs[(26:Nat)]? =some Tryz.f26:=Tryz.func26
theorem ais:b7 uh PV ako 1 Tryz.f27=true:=by kernel_rfl
theorem abL:az.funcs[(27:Nat)]? =some Tryz.f27:=Tryz.func27
theorem ajK:b7 uh Re akT 1 Tryz.f59=true:=by kernel_rfl
theorem ac6:az.funcs[(59:Nat)]? =some Tryz.f59:=Tryz.func59
theorem aiG:b7 uh P9 akt 1 Tryz.f111=true:=by kernel_rfl
theorem abZ:az.funcs[(111:Nat)]? =some Tryz.f111:=Tryz.func111
theorem aiF:b7 uh P8 aks 2 Tryz.f153=true:=by kernel_rfl
theorem abY:az.funcs[(153:Nat)]? =some Tryz.f153:=Tryz.func153
theorem aiH:b7 uh Qa aku 1 Tryz.f174=true:=by kernel_rfl
theorem ab0:az.funcs[(174:Nat)]? =some Tryz.f174:=Tryz.func174
def sH(l:List (List UInt8)):List ai:=l.flatMap fun s=>[.str s,.bool true]
def sI(l:List (List UInt8)):List ai:= .hdm l.length (List.range l.length)::sH l
@[simp]theorem arc:sI []=jX []:=rfl
theorem U8(s:List UInt8):∀l,tU .s (.str s) (sH l)=some (if s∈l then some (.bool true)else none)
 |[]=>rfl
 |x::r=>by
  have e:sH (x::r)= .str x:: .bool true::sH r:=rfl;rw[e];simp only[tU,q7];by_cases h:s=x
  ·subst h;simp
  ·have:(s==x)=false:=by simp[h]
   simp[h,this,U8 s r]
theorem Vr(s:List UInt8):∀l,sw .s (.str s) (.bool true) (sH l)=some (if s∈l then some (sH l)else none)
 |[]=>rfl
 |x::r=>by
  have e:sH (x::r)= .str x:: .bool true::sH r:=rfl;rw[e];simp only[sw,q7];by_cases h:s=x
  ·subst h;simp
  ·have:(s==x)=false:=by simp[h]
   simp only[this,Vr s r];by_cases U:s∈r<;>simp[h,U,e]
@[simp]theorem aqO(s:List UInt8)(l:List (List UInt8)):nK .s (.str s) (.bool true) (sI l)=some (sI (kA s l)):=by
 simp only[sI,nK,Us,Bool.true_eq_false,reduceCtorEq,if_false,Vr,kA];by_cases h:s∈l
 ·simp[h]
 ·simp[h,sH,List.range_succ]
theorem ahs(f:aL->Option (List ai))(m:aL)(l:List (List UInt8))(s:List UInt8)(hm:f m=some (sI l)):nb f .s (.bool false) false (.gmap m) (.str s)=some (True,.bool (decide (s∈l))):=by simp only[L6,hm,sI,Us,Bool.true_eq_false,reduceCtorEq,if_false,U8];by_cases h:s∈l<;>simp[h]
@[simp]theorem aqH(l:List (List UInt8))(s:List UInt8):yK .s (.bool false) false (some (sI l)) (.str s)=some (True,.bool (decide (s∈l))):=ahs _ _ l s rfl
@[simp]theorem ap4(S:aL->Prop)(l:List (List UInt8)):aP S (sI l)=True:=by
 refine eq_true ?_;have:∀l:List (List UInt8),aP S (sH l):=fun l=>by
  induction l with
  |nil=>simp[sH,aP]
  |cons x r bU=>exact⟨by simp[aG],by simp[aG],bU⟩
 exact⟨by simp[aG],this l⟩
@[simp]theorem aq4(l:List (List UInt8)):hV (sI l)=false:=rfl
theorem OQ(k:Int):∀l:List Int,tb k (l.map fun x=>(x,ai.bool true))=if k∈l then some (.bool true)else none
 |[]=>rfl
 |i::r=>by
  by_cases h:k=i
  ·simp[tb,h]
  ·simp[tb,h,OQ k r]
theorem aho(f:aL->Option (List ai))(m:aL)(l:List Int)(k:Int)(hm:f m=some (lG l)):nb f .i (.bool false) false (.gmap m) (.int .i64 k)=some (True,.bool (decide (k∈l))):=by rw[Va f m _ _ _ _ hm,OQ];by_cases h:k∈l<;>simp[h]
@[simp]theorem aqD(l:List Int)(k:Int):yK .i (.bool false) false (some (lG l)) (.int .i64 k)=some (True,.bool (decide (k∈l))):=aho _ _ l k rfl
@[simp]theorem apS(S:aL->Prop)(l:List Int):aP S (lG l)=True:=eq_true (mq S l)
theorem xN(k:Int)(l:List Int):E4 k l=kA k l:=rfl
def er(w:hP):cS:=⟨[(.obj 751,sI w.s),(.obj 752,[.gmap (.obj 751)]),(.obj 753,lG w.i),(.obj 754,[.gmap (.obj 753)]),(.obj 755,[.func 23 [.ptr (.obj 752) 0,.ptr (.obj 754) 0,.ptr (.obj 755) 0]])],[]⟩
theorem jy(w:hP):dR (er w):=by unfold er;refine dR.of ⟨by intro m;simp[Pv.look],by intro m;simp[Pv.look]⟩ d9 Ψ
theorem Sn(t:T):∀w:hP,bH az 23 [t.e,.ptr (.obj 752) 0,.ptr (.obj 754) 0,.ptr (.obj 755) 0] (er w) fun r ah=>r= .tuple []/\ah=er (gA t w):=by
 induction t with
 |pair a b dM dN=>intro w;have ag:=jy w;unfold er at ag⊢;refine bH.mk mixed qB Cm DK Ψ ag.obj fun aT cI=>?_;unfold zD;simp;((with_reducible repeat' first|refine aj ?_|simp|((first|apply bJ|apply bM|apply bL)<;>intro h<;>try simp at h))<;>(try exact cc));(refine gW.ob (dM w) gt gt (Same.keys (by simp[er]) (by simp[er])) (by simp only[er,bO,bS];exact aK) (by simp only[er,bO,bS];exact aK) (by simp[inObs,Pv.look,er]) ?_;simp[cb,er]);((with_reducible repeat' first|refine aj ?_|simp|((first|apply bJ|apply bM|apply bL)<;>intro h<;>try simp at h))<;>(try exact cc));(refine gW.ob (dN (gA a w)) gt gt (Same.keys (by simp[er]) (by simp[er])) (by simp only[er,bO,bS];exact aK) (by simp only[er,bO,bS];exact aK) (by simp[inObs,Pv.look,er]) ?_;simp[cb,er]);(with_reducible repeat' first|refine aj ?_|simp);(refine cO.at (er (gA b (gA a w))) Ψ gt (Same.keys (by simp[er,gA]) (by simp[er,gA])) (by simp only[er,gA,bO,bS];exact aK) (by simp only[er,gA,bO,bS];exact aK) ?_;simp[cT,Bi,aW,aY,aV,inObs,Pv.look,er,gA])
 |nil=>intro w;have ag:=jy w;unfold er at ag⊢;refine bH.mk mixed qB Cm DK Ψ ag.obj fun aT cI=>?_;unfold zD;simp;((with_reducible repeat' first|refine aj ?_|simp|((first|apply bJ|apply bM|apply bL)<;>intro h<;>try simp at h))<;>(try exact cc));(refine cO.at (er w) Ψ gt (Same.keys (by simp[er,gA]) (by simp[er,gA])) (by simp only[er,gA,bO,bS];exact aK) (by simp only[er,gA,bO,bS];exact aK) ?_;simp[cT,Bi,aW,aY,aV,inObs,Pv.look,er,gA])
 |var n=>intro w;have ag:=jy w;unfold er at ag⊢;refine bH.mk mixed qB Cm DK Ψ ag.obj fun aT cI=>?_;unfold zD;simp;((with_reducible repeat' first|refine aj ?_|simp|((first|apply bJ|apply bM|apply bL)<;>intro h<;>try simp at h))<;>(try exact cc));(refine cO.at (er w) Ψ gt (Same.keys (by simp[er,gA]) (by simp[er,gA])) (by simp only[er,gA,bO,bS];exact aK) (by simp only[er,gA,bO,bS];exact aK) ?_;simp[cT,Bi,aW,aY,aV,inObs,Pv.look,er,gA])
 |sym g=>intro w;have ag:=jy w;unfold er at ag⊢;refine bH.mk mixed qB Cm DK Ψ ag.obj fun aT cI=>?_;unfold zD;simp;((with_reducible repeat' first|refine aj ?_|simp|((first|apply bJ|apply bM|apply bL)<;>intro h<;>try simp at h))<;>(try exact cc));(refine cO.at (er ⟨kA g w.s,w.i⟩) Ψ gt (Same.keys (by simp[er,gA]) (by simp[er,gA])) (by simp only[er,gA,bO,bS];exact aK) (by simp only[er,gA,bO,bS];exact aK) ?_;simp[cT,Bi,aW,aY,aV,inObs,Pv.look,er,gA])
 |num n=>intro w;have ag:=jy w;unfold er at ag⊢;refine bH.mk mixed qB Cm DK Ψ ag.obj fun aT cI=>?_;unfold zD;simp;((with_reducible repeat' first|refine aj ?_|simp[xN]|((first|apply bJ|apply bM|apply bL)<;>intro h<;>try simp at h))<;>(try exact cc));(refine cO.at (er ⟨w.s,kA n w.i⟩) Ψ gt (Same.keys (by simp[er,gA,xN]) (by simp[er,gA,xN])) (by simp only[er,gA,xN,bO,bS];exact aK) (by simp only[er,gA,xN,bO,bS];exact aK) ?_;simp[cT,Bi,aW,aY,aV,inObs,Pv.look,er,gA,xN])
theorem XW:∀(l:List bo) (w:hP),(rv l w).i=w.i
 |[],_=>rfl
 |m::l,w=>XW l ⟨kA m.s w.s,w.i⟩
structure small (N:Nat) (s:bP):Prop where
 ok:nf s
 n:s.n=N
 n9:N<=9
 bw:∀b∈s.b,jH b.t=true
 dw:∀d∈s.d,∀b∈d,jH b.t=true
 t:kU [[97],[98]] s.m
theorem small.b5{n:Nat}{s:bP}(h:small n s):∀b∈s.b,b.t.size<=5000:=h.ok.1.b.fits.2
theorem small.d5{n:Nat}{s:bP}(h:small n s):∀d∈s.d,d.length<=400/\∀b∈d,b.t.size<=5000:=fun d aN=>⟨(h.ok.1.d d aN).fits.1,(h.ok.1.d d aN).fits.2⟩
theorem small.mw{n:Nat}{s:bP}(h:small n s):∀m∈s.m,m.s.head?≠some 119:=fun m hm=>by have:=h.t m hm;simp only[fD,List.mem_nil_iff,or_false]at this;rcases this with e|e<;>rw[e]<;>decide
theorem small.li{n:Nat}{s:bP}(h:small n s):(pa s).i.length<=62000000:=by have J:=(Ij s.b ⟨[],[]⟩ h.b5).li;have U:=(NU s.d (kl s.b ⟨[],[]⟩) h.d5).li;have ar:=h.ok.self.c;have a8:=h.ok.1.b.fits.1;rw[pa,XW];simp only[List.length_nil]at J;omega
theorem small.nw{n:Nat}{s:bP}(h:small n s):sy (pa s).s:=XX _ _ h.mw (XU _ _ h.dw (NT _ _ h.bw fun _ h=>by simp at h))
theorem small.dI{n:Nat}{s:bP}(h:small n s):∀d∈s.d,∀b∈d,zk (pa s) b.t:=fun d aN b ab=>(XT s.d _ h.d5 d aN b ab).mono (XV s.m _)
theorem aj6{l:List ak}(h:l.Pairwise fun b c=>b.t≠c.t):∀{b c:ak},b∈l->c∈l->b.t=c.t->b=c:=by
 induction h with
 |nil=>intro b c ab;simp at ab
 |cons J _ bU=>
  intro b c ab aq e;rcases fD.1 ab with ab|ab<;>rcases fD.1 aq with aq|aq
  ·rw[ab,aq]
  ·rw[ab]at e;exact absurd e (J _ aq)
  ·rw[aq]at e;exact absurd e.symm (J _ ab)
  ·exact bU ab aq e
theorem YE{i:Nat}(h:i<10):iv (pb i)=true:=by rcases(by omega:i=0\/i=1\/i=2\/i=3\/i=4\/i=5\/i=6\/i=7\/i=8\/i=9)with rfl|rfl|rfl|rfl|rfl|rfl|rfl|rfl|rfl|rfl<;>decide
def rB(s:bP):List ak:=(List.range s.n.toNat).map fun(v:Nat)=>⟨(v:Int),(bh s.b v).ap (bh (iG s s.n.toNat).f)⟩
theorem agP{l:List b6}(h:gT l){x:b6}(ae:x∈l):iZ l x.v=some x.k:=by
 unfold iZ;have U:=h.asc;clear h;induction l with
 |nil=>simp at ae
 |cons y r bU=>
  rw[mC]at U;rw[List.find?_cons];rcases fD.1 ae with rfl|ae
  ·simp
  ·have:=U.1 x ae;rw[show(y.v==x.v)=false by simp;omega];exact bU ae U.2
theorem ant{n:Nat}{s:bP}(h:small n s):nU n (rB s)/\ou s (rB s):=by
 have ay:=h.n;have yo:s.n.toNat=n:=Ω
 have Gd:=h.n9;have kG:=Bw s n Gd;have afj:=h.li;unfold rB;rw[yo];generalize iG s n=w at kG⊢;obtain⟨a6,bD,bY⟩:=G6 w.i;have wJ:=kG.li;let f:Int->T:=fun u=>(cU w.f u).getD (.num (nL w.i))
 have fin:∀{u t},(⟨u,t⟩:ak)∈w.f->f u=t:=fun{u t} aM=>by have:=p5 kG.asc aM;show(cU w.f u).getD _=t;rw[this];rfl
 have FH:∀u,(∃i,i<10/\f u= .sym (pb i))\/ ∃m:Nat,f u= .num m/\(m:Int)∉(pa s).i/\m<=63000000:=fun u=>by
  cases e:cU w.f u with
  |none=>
   have:f u= .num (nL w.i):=by show(cU w.f u).getD _=_;rw[e];rfl
   exact .inr ⟨nL w.i,this,fun ae=>bD (kG.i _ ae),Ω⟩
  |some t=>
   have hm:=iP e;have J:=kG.at' _ hm;rw[fin hm];simp only at J;split at J
   ·obtain⟨i,U,ar⟩:=J;exact .inl ⟨i,by have:=kG.j;omega,ar⟩
   ·obtain⟨m,U,_,ar,a8⟩:=J;exact .inr ⟨m,U,ar,Ω⟩
 have FI:∀u:Int,0<=u->u<n->cU s.b u=none->(⟨u,f u⟩:ak)∈w.f:=fun u bE J U=>by obtain⟨t,aM⟩:=kG.al u bE J U;rw[fin aM];exact aM
 have dm:=h.ok.self;have wv:=HG h.ok.1.b.sol Ψ dm.k;have x7:YA s f:=by
  refine⟨fun v=>?_,fun v=>?_,fun u v bE J U ar hu aC e=>?_,fun d aN c aq v e=>?_,fun k ad=>?_,fun m hm=>?_⟩
  ·rcases FH v with⟨i,_,e⟩|⟨m,e,_⟩
   ·exact .inr ⟨_,e⟩
   ·exact .inl ⟨_,e⟩
  ·rcases FH v with⟨i,hi,e⟩|⟨m,e,_,hm⟩
   ·rw[e];exact YE hi
   ·rw[e];simp only[T.ok,e6];omega
  ·have:=aj6 kG.ne (FI u bE Ω hu) (FI v U Ω aC) e;exact eK ak.v this
  ·have hw:=h.dw d aN c aq;have Kp:=h.dI d aN c aq;rcases FH v with⟨i,hi,fo⟩|⟨m,fo,hm,_⟩
   ·rw[e,fo]at hw;simp[jH,pb]at hw
   ·exact hm (Kp.i m (by rw[e,fo]))
  ·have aC:=h.ok.1.kb k ad;have jC:=h.ok.1.k.at' k ad;have J:=kG.at' _ (FI k.v jC.1.1 Ω (wv k ad));simp only[agP h.ok.1.k ad]at J;split at J
   ·rename_i e;obtain⟨i,_,U⟩:=J;rw[U,eJ e];rfl
   ·rename_i e;obtain⟨m,U,_⟩:=J;rw[U];rcases jC.2 with aF|aF
    ·exact absurd (by rw[aF]) e
    ·rw[aF];rfl
  ·rcases FH m.v with⟨i,hi,e⟩|⟨_,e,_⟩
   ·rw[e];have cK:=h.mw m hm;simp only[T.has,beq_eq_false_iff_ne,ne_eq];intro aF;rw[<-aF]at cK;simp[pb]at cK
   ·rw[e];rfl
 have aJ:=anv h.ok x7 Ω (w:=(List.range n).map fun(v:Nat)=>⟨(v:Int),(bh s.b v).ap (bh w.f)⟩) (by simp[ay]) fun i b ab=>by
  rw[List.getElem?_map,gk]at ab;obtain⟨j,af,rfl⟩:=ab;obtain⟨dZ,oc⟩:=fb.1 af;rw[List.getElem_range]at oc;subst oc;rw[List.length_range]at dZ;refine⟨rfl,p4 fun u hu=>?_⟩;have tI:(0<=u/\u<n)/\cU s.b u=none:=by
   unfold bh at hu;cases e:cU s.b i with
   |none=>rw[e]at hu;simp only[l7,T.occ,dL]at hu;subst hu;exact⟨Ω,e⟩
   |some t=>rw[e]at hu;simp only[jL]at hu;have hm:=iP e;have J:=(agd h.ok.1.b.ok h.ok.1.bb _ hm).2 u hu;exact⟨Ω,h.ok.1.b.sol.free _ hm u hu⟩
  have hm:=FI u tI.1.1 tI.1.2 tI.2;show bh w.f u=f u;unfold bh;rw[p5 kG.asc hm];rfl
 rw[ay]at aJ;exact aJ
theorem mu.small{n L:Nat}{s:bP}{E:List (T×T)}(h:nf s)(ay:s.n=n)(pI:n<=9)(aM:kU [[97],[98]] s.m)(bK:mu (vb n) L E s):small n s:=⟨h,ay,pI,fun _ ab=>bK.b_w ab,fun _ aN _ ab=>bK.d_w aN ab,aM⟩
theorem nt.small{n k:Nat}{s:bP}(h:nt n k s)(pI:n<=9):small n s:=by obtain⟨E,dp⟩:=h.p;exact dp.small h.s.ok h.s.n pI h.s.t
theorem XS{l:List ak}{i:Nat}{x:ak}(h:l[i]? =some x)(w:hP):kl (l.take (i+1)) w=gA x.t (kl (l.take i) w):=by rw[ng h,kl,List.foldl_append];rfl
theorem ame{l:List (List ak)}{i:Nat}{x:List ak}(h:l[i]? =some x)(w:hP):rs (l.take (i+1)) w=kl x (rs (l.take i) w):=by rw[ng h,rs,List.foldl_append];rfl
theorem amf{l:List bo}{i:Nat}{x:bo}(h:l[i]? =some x)(w:hP):rv (l.take (i+1)) w=⟨kA x.s (rv (l.take i) w).s,(rv (l.take i) w).i⟩:=by rw[ng h,rv,List.foldl_append];rfl
def vJ(s:bP)(j:Nat):List (List UInt8):=(pa s).s++(List.range j).map pb
theorem YD{N:Nat}{s:bP}(h:small N s){a j:Nat}(bk:a<10)(af:j<=9):pb a∈vJ s j↔a<j:=by
 unfold vJ;rw[ih,iy];constructor
 ·rintro(J|⟨b,ab,e⟩)
  ·exact absurd rfl (h.nw _ J)
  ·rw[List.mem_range]at ab;have:=YC Ω bk e;omega
 ·intro J;exact .inr ⟨a,List.mem_range.2 J,rfl⟩
theorem al0{N:Nat}{s:bP}(h:small N s){j:Nat}(af:j<=9):kA (pb j) (vJ s j)=vJ s (j+1):=by unfold kA;rw[if_neg (fun hm=>by have:=(YD h Ω af).1 hm;omega)];simp[vJ,List.range_succ]
theorem Zk(l:List Int):kA (nL l:Int) l=l++[(nL l:Int)]:=by unfold kA;rw[if_neg (G6 l).2.1]
theorem Zn{k:List b6}(bk:k.Pairwise fun x y=>x.v<y.v)(v:Int):(k.any fun x=>x.v==v&&x.k==2)=(iZ k v==some 2):=by
 rw[p1,List.any_eq_true,dL];constructor
 ·rintro⟨x,ae,h⟩;simp only[cE,dL]at h;have:=Du bk ae;rw[h.1,h.2]at this;exact this
 ·intro h;exact⟨_,Ly h,Ψ⟩
def AH(k:List b6)(i:Nat)(l:List (Int×Int)):Prop:= ∀v,(hq l v==2)=(k.take i).any fun x=>x.v==v&&x.k==2
theorem AH.put{k:List b6}(bk:k.Pairwise fun x y=>x.v<y.v){i:Nat}{l:List (Int×Int)}(h:AH k i l){x:b6}(ae:k[i]? =some x):AH k (i+1) (eS x.v x.k l):=fun v=>by
 rw[ng ae,List.any_append,<-h v];unfold hq;rw[nh];by_cases e:v=x.v
 ·subst e;have cF:((k.take i).any fun y=>y.v==x.v&&y.k==2)=false:=by rw[List.any_eq_false];intro y aH;have U:=bk;rw[<-List.take_append_drop i k,List.pairwise_append]at U;obtain⟨hi,cY⟩:=fb.1 ae;have:=U.2.2 y aH x (by rw[kX hi,cY];simp);simp;omega
  have ar:=h x.v;rw[cF]at ar;unfold hq at ar;rw[ar];simp
 ·rw[if_neg e];have:(x.v==v)=false:=by simp;exact fun h=>e h.symm
  simp[this]
theorem AH.fin{k:List b6}(ad:gT k){l:List (Int×Int)}(h:AH k k.length l)(v:Int):(hq l v==2)=(iZ k v==some 2):=by rw[h v,l6,Zn ad.asc]
theorem adh{l:List ak}(ag:gQ l)(v:Int){t:T}(h:cU l v=some t):0<=j4 l v/\∃b,l[(j4 l v).toNat]? =some b/\b.t=t:=by
 have bE:¬j4 l v<0:=fun ay=>by rw[(zX ag v).1 ay]at h;cases h
 refine⟨Ω,?_⟩;rw[<-Hj ag v]at h;unfold rf at h;rw[if_neg bE,gk]at h;exact h
theorem ak8{N:Nat}{s:bP}(me:N<=9)(v:Int):(bh (iG s N).f v).size=1:=by
 unfold bh;cases e:cU (iG s N).f v with
 |none=>rfl
 |some t=>
  have J:=(Bw s N me).at' _ (iP e);simp only at J;split at J
  ·obtain⟨i,_,U⟩:=J;rw[U];rfl
  ·obtain⟨m,U,_⟩:=J;rw[U];rfl
theorem ak9{N:Nat}{s:bP}(h:small N s):v8 (iG s N).f:=fun b ab=>by
 have kG:=Bw s N h.n9;have J:=kG.at' b ab;have av:=h.li;have me:=h.n9;have af:=kG.j;split at J
 ·obtain⟨i,hi,U⟩:=J;rw[U];have:=YE (i:=i) Ω;simp[T.fit,T.ok,T.size,this]
 ·obtain⟨m,U,_,_,ar⟩:=J;rw[U];simp[T.fit,T.ok,T.size];omega
theorem Xm{N:Nat}(s:bP)(me:N<=9):(iG s N).f.length<=N:=by
 induction N with
 |zero=>simp[iG]
 |succ k bU=>
  have:=bU Ω;simp only[iG,Et];split
  ·omega
  ·split<;>simp<;>omega
theorem anu{N:Nat}{s:bP}(h:small N s)(v:Int):((bh s.b v).ap (bh (iG s N).f)).size<=5000:=by
 rw[E5 (ak8 h.n9)];unfold bh;cases e:cU s.b v with
 |none=>simp[T.size]
 |some t=>exact h.b5 _ (iP e)
theorem ans{N:Nat}{s:bP}(ay:s.n=N){i:Nat}(hi:i<N):(rB s)[i]? =some ⟨(i:Int),(bh s.b i).ap (bh (iG s N).f)⟩:=by
 have:s.n.toNat=N:=Ω
 unfold rB;rw[this,List.getElem?_map,List.getElem?_range hi];rfl
open Classical in
theorem amy{s:bP}(h:nf s)(hm:o7 s.m):bZ az 22 [s.e] (.bool true):=by have:=X8 s.r fun _=>hm;rwa[gD ⟨s,rfl,h⟩,Eu]at this
theorem ank(n:Nat)(h:n<10):bZ az 174 [.int .i64 n] (.str [UInt8.ofNat (48+n)]):=by
 rcases(by omega:n=0\/n=1\/n=2\/n=3\/n=4\/n=5\/n=6\/n=7\/n=8\/n=9)with rfl|rfl|rfl|rfl|rfl|rfl|rfl|rfl|rfl|rfl;all_goals
  refine bz qB ab0 aiH fun aT=>?_;unfold Qa
  exact cD
theorem amm(n:Nat)(h:n<10):bZ az 153 [.int .i64 n,.int .i64 10] (.str [UInt8.ofNat (48+n)]):=by
 have c7:=ank n h;have J:(0:Int)<=n:=Ω
 have U:(n:Int)<100:=Ω
 refine bz qB abY aiF fun aT=>?_;unfold P8;exact cD
theorem amq(n:Nat)(h:n<10):bZ az 25 [.int .i64 n] (.str [UInt8.ofNat (48+n)]):=by
 have GF:=amm n h;have mX:bZ az 111 [.int .i64 n] (.str [UInt8.ofNat (48+n)]):=by refine bz qB abZ aiG fun aT=>?_;unfold P9;exact cD
 have gM:bZ az 59 [.int .i64 n] (.str [UInt8.ofNat (48+n)]):=by refine bz qB ac6 ajK fun aT=>?_;unfold Re;exact cD
 refine bz qB abc ahT fun aT=>?_;unfold Pl;exact cD
theorem anm(g:List UInt8):bZ az 26 [.str g] (T.sym g).e:=by refine bz qB abV aiC fun aT=>?_;unfold P5;exact cD
theorem am6(k:Int):bZ az 27 [.int .i64 k] (T.num k).e:=by refine bz qB abL ais fun aT=>?_;unfold PV;exact cD
theorem o2(S:aL->Prop)(l:List ak)(d:ak):aP S (l.map ak.e++[d.e])=True:=by
 have:∀l:List ak,aP S (l.map ak.e):=fun l=>by
  induction l with
  |nil=>simp[aP]
  |cons x r bU=>simp only[hk,aP];exact⟨Ψ,bU⟩
 have:=this (l++[d]);rw[List.map_append]at this;exact eq_true this
theorem LR:k7 []=jX []:=rfl
def hy(s:bP):List ai:=[.int .i64 s.n,.slice 5 .no (s.b.map ak.e),.slice 1 .no (s.d.map cM),.slice 2 .no (s.k.map b6.e),.slice 2 .no (s.m.map bo.e)]
def eC(t:List (Nat×ai))(c:List ai)(w:hP)(l:List (aL×List ai))(e:List (aL×fN))(n:Nat):bm:=⟨[(1,.ptr (.loc 0) 0),(4,.ptr (.obj 752) 0),(5,.ptr (.obj 754) 0)]++t,[(.loc 0,c),(.obj 751,sI w.s),(.obj 752,[.gmap (.obj 751)]),(.obj 753,lG w.i),(.obj 754,[.gmap (.obj 753)]),(.obj 755,[.func 23 [.ptr (.obj 752) 0,.ptr (.obj 754) 0,.ptr (.obj 755) 0]])]++l,e,n,[.obj 755,.obj 754,.obj 753,.obj 752,.obj 751]⟩
theorem amC{N:Nat}{s:bP}(h:small N s)(hm:o7 s.m):bZ az 7 [s.e] (.tuple [.slice 5 .no ((rB s).map ak.e),.bool true]):=by
 have c7:=amy h.ok hm;have ay:=h.n;have Gd:=h.n9;have aeD:¬s.n>400:=Ω
 have afj:=h.li;have jE:=h.ok.1.b;have e8:=jE.len;have tM:=fun v=>sT s.b v Ω;simp only[bP.e]at c7⊢;refine bz qB abp ah6 fun aT=>?_;unfold Pz;have tw:s.d.length<=68719476736/\s.k.length<=68719476736/\s.m.length<=68719476736:=by simp[gS,gg,gE,lim]at aT;omega
 clear aT;obtain⟨tw,hM,lq⟩:=tw;simp;(with_reducible repeat' first|refine aj ?_|refine aD c7 ?_|refine aE c7 ?_|simp[aeD]);refine hQ (fun i (_:Unit)=>eC [(6,.ptr (.obj 755) 0),(39,.slice 5 .no (s.b.map ak.e)),(40,.int .i64 s.b.length),(41,.int .i64 i)] (hy s) (kl (s.b.take i) ⟨[],[]⟩) [] [] 1) s.b.length (fun _ _=>True) () (by simp[eC,hy,kl];exact bV) trivial (fun _ _ _=>?_) (fun i _ hi _ _=>?_);rotate_left
 ·obtain⟨x,ae,cY⟩:=ec hi;have hu:=XS ae ⟨[],[]⟩;have aX:=Sn x.t (kl (s.b.take i) ⟨[],[]⟩);rw[<-hu]at aX;generalize kl (s.b.take i) ⟨[],[]⟩=w at aX⊢;generalize pO:kl (s.b.take (i+1)) ⟨[],[]⟩=w' at aX;simp only[eC,hy];simp[hi,cY];(with_reducible repeat' first|refine aj ?_|simp[hi,cY]);(refine cW.ob (aX) gt (by simp only[er,bO,bS];exact aK) (by simp only[er,bO,bS];exact aK) (by simp[inObs,Pv.look,er]) ?_;rintro r ah ⟨rfl,rfl⟩;refine⟨(Same.keys (by simp[er]) (by simp[er])),?_⟩;simp[cb,er]);(with_reducible repeat' first|refine aj ?_|simp);exact bQ.rng () hi trivial ⟨by simp[fresh,aP,aG,cn,inObs,Pv.look,pO],en (by simp[fresh,aP,aG,cn,inObs,Pv.look,pO]),eo (by simp[fresh,aP,aG,dV,inObs,Pv.look,pO]),Ψ⟩
 rw[l6];generalize yw:kl s.b ⟨[],[]⟩=eV;simp only[eC,hy];simp;(with_reducible repeat' first|refine aj ?_|simp);refine hQ (fun i (_:Unit)=>eC [(6,.ptr (.obj 755) 0),(51,.slice 1 .no (s.d.map cM)),(52,.int .i64 s.d.length),(53,.int .i64 i)] (hy s) (rs (s.d.take i) eV) [] [] 1) s.d.length (fun _ _=>True) () (by simp[eC,hy,rs];exact bV) trivial (fun _ _ _=>?_) (fun i _ hi _ _=>?_);rotate_left
 ·obtain⟨x,ae,cY⟩:=ec hi;have hu:=ame ae eV;have oY:=(h.d5 x (ed ae)).1;generalize apw:rs (s.d.take i) eV=wd at hu⊢;simp only[eC,hy];simp[hi,cY,cM];(with_reducible repeat' first|refine aj ?_|simp[hi,cY,cM]);refine hQ (fun j (_:Unit)=>eC [(6,.ptr (.obj 755) 0),(51,.slice 1 .no (s.d.map cM)),(52,.int .i64 s.d.length),(53,.int .i64 i),(57,.slice 5 .no (x.map ak.e)),(58,.int .i64 x.length),(59,.int .i64 j)] (hy s) (kl (x.take j) wd) [] [] 1) x.length (fun _ _=>True) () (by simp[eC,hy,kl];exact bV) trivial (fun _ _ _=>?_) (fun j _ af _ _=>?_)
  ·rw[l6,<-hu];generalize AB:rs (s.d.take (i+1)) eV=we;simp only[eC,hy];simp;(with_reducible repeat' first|refine aj ?_|simp);exact bQ.rng () hi trivial ⟨by simp[fresh,aP,aG,cn,inObs,Pv.look,AB],en (by simp[fresh,aP,aG,cn,inObs,Pv.look,AB]),eo (by simp[fresh,aP,aG,dV,inObs,Pv.look,AB]),Ψ⟩
  ·obtain⟨y,aH,eB⟩:=ec af;have tI:=XS aH wd;have aX:=Sn y.t (kl (x.take j) wd);rw[<-tI]at aX;generalize kl (x.take j) wd=w at aX⊢;generalize pO:kl (x.take (j+1)) wd=w' at aX;clear hu tI;simp only[eC,hy];simp[af,eB];(with_reducible repeat' first|refine aj ?_|simp[af,eB]);(refine cW.ob (aX) gt (by simp only[er,bO,bS];exact aK) (by simp only[er,bO,bS];exact aK) (by simp[inObs,Pv.look,er]) ?_;rintro r ah ⟨rfl,rfl⟩;refine⟨(Same.keys (by simp[er]) (by simp[er])),?_⟩;simp[cb,er]);(with_reducible repeat' first|refine aj ?_|simp);exact bQ.rng () af trivial ⟨by simp[fresh,aP,aG,cn,inObs,Pv.look,pO],en (by simp[fresh,aP,aG,cn,inObs,Pv.look,pO]),eo (by simp[fresh,aP,aG,dV,inObs,Pv.look,pO]),Ψ⟩
 rw[l6];generalize mS:rs s.d eV=dP;simp only[eC,hy];simp;(with_reducible repeat' first|refine aj ?_|simp);refine hQ (fun i (_:Unit)=>eC [(70,.slice 2 .no (s.m.map bo.e)),(71,.int .i64 s.m.length),(72,.int .i64 i)] (hy s) (rv (s.m.take i) dP) [] [] 1) s.m.length (fun _ _=>True) () (by simp[eC,hy,rv];exact bV) trivial (fun _ _ _=>?_) (fun i _ hi _ _=>?_);rotate_left
 ·obtain⟨x,ae,cY⟩:=ec hi;have hu:=amf ae dP;generalize rv (s.m.take i) dP=w at hu⊢;simp only[eC,hy];simp[hi,cY];(with_reducible repeat' first|refine aj ?_|simp[hi,cY]);exact bQ.rng () hi trivial ⟨by simp[fresh,aP,aG,cn,inObs,Pv.look,hu],en (by simp[fresh,aP,aG,cn,inObs,Pv.look,hu]),eo (by simp[fresh,aP,aG,dV,inObs,Pv.look,hu]),Ψ⟩
 rw[l6];have TP:rv s.m dP=pa s:=by rw[<-mS,<-yw];rfl
 rw[TP];clear yw mS TP;simp only[eC,hy];simp;(with_reducible repeat' first|refine aj ?_|simp);refine hQ (fun i (l:List (Int×Int))=>eC [(15,.gmap (.loc 1)),(82,.slice 2 .no (s.k.map b6.e)),(83,.int .i64 s.k.length),(84,.int .i64 i)] (hy s) (pa s) [(.loc 1,k7 l)] [] 2) s.k.length (AH s.k) [] (by simp[eC,hy];exact⟨by simp[fresh,aP,aG,cn,inObs,Pv.look,LR],en (by simp[fresh,aP,aG,cn,inObs,Pv.look,LR]),eo (by simp[fresh,aP,aG,dV,inObs,Pv.look,LR]),Ψ⟩) (fun v=>by simp[hq,tg]) (fun l af _=>?_) (fun i l hi af _=>?_);rotate_left
 ·obtain⟨x,ae,cY⟩:=ec hi;have apr:=af.put h.ok.1.k.asc ae;clear af;simp only[eC,hy];exact gN
 have mP:=af.fin h.ok.1.k;clear af;simp only[eC,hy];simp;(with_reducible repeat' first|refine aj ?_|simp);refine hQ (fun i (_:Unit)=>eC [(15,.gmap (.loc 1)),(18,.slice 5 (.own (.loc 2)) ((iG s i).f.map ak.e)),(19,.int .i64 i)] (hy s) ⟨vJ s (iG s i).j,(iG s i).i⟩ [(.loc 1,k7 l)] [(.loc 2,⟨(iG s i).f.length,54,5,none⟩)] 3) N (fun _ _=>True) () (by simp[eC,hy,iG,vJ];exact bV) trivial (fun _ _ _=>?_) (fun i _ hi _ _=>?_);rotate_left
 ·have kG:=Bw s i Ω;have gH:(i:Int)<s.n:=Ω
  have wJ:=Xm s (N:=i) Ω;have ha:iG s (i+1)=Et s (iG s i) i:=rfl;unfold Et at ha;generalize apx:iG s i=w at kG ha wJ⊢;generalize sj:iG s (i+1)=wn' at ha;have ad:=mP i;clear mP;obtain⟨EG,xC,wf⟩:=w;have ae3:=kG.j;have afe:=kG.li;simp only at ae3 afe ha wJ;clear kG;by_cases ab:cU s.b i=none
  ·have bs:¬0<=j4 s.b i:=by have:=(zX jE.sol.asc i).2 ab;omega
   rw[ab,if_neg Ψ]at ha;by_cases U:iZ s.k i=some 2
   ·rw[if_pos U]at ha;have Az:hq l i=2:=by rw[U]at ad;simpa using ad
    clear ad;simp only[eC,hy];simp[gH];(with_reducible repeat' first|refine aj ?_|refine aD (tM i) ?_|refine aE (tM i) ?_|simp[gH,bs,Az]);refine nu (fun(a:Nat)=>eC [(15,.gmap (.loc 1)),(18,.slice 5 (.own (.loc 2)) (wf.map ak.e)),(19,.int .i64 i),(20,.int .i64 a)] (hy s) ⟨vJ s xC,EG⟩ [(.loc 1,k7 l)] [(.loc 2,⟨wf.length,54,5,none⟩)] 3) (fun a=>xC-a) (fun a=>a<=xC) 0 (by simp[eC,hy];exact bV) Ω (fun a bk _=>?_);have hB:=YD h (a:=a) (j:=xC) Ω Ω;have mX:=amq a Ω;unfold pb at hB;simp only[eC,hy];by_cases mf:a<xC
    ·have tD:=hB.2 mf;clear hB;generalize UInt8.ofNat (48+a)=g at tD mX;simp;((with_reducible repeat' first|refine aj ?_|refine aD mX ?_|refine aE mX ?_|simp[tD]|((first|apply bJ|apply bM|apply bL)<;>intro h<;>try simp at h))<;>(try exact cc));exact bQ.whl (a+1) Ω Ω bV
    ·have CX:¬_:=fun hm=>mf (hB.1 hm);have oi:=al0 h (j:=xC) Ω;have Ks:a=xC:=Ω
     subst Ks;unfold pb at oi ha;have jF:=anm [119,UInt8.ofNat (48+a)];clear hB;generalize UInt8.ofNat (48+a)=g at CX oi ha jF mX;simp;(with_reducible repeat' first|refine aj ?_|refine aD mX ?_|refine aE mX ?_|refine aD jF ?_|refine aE jF ?_|simp[CX,oi]);exact bQ.rng () hi trivial ⟨by simp[fresh,aP,aG,cn,inObs,Pv.look,sj,ha,o2],en (by simp[fresh,aP,aG,cn,inObs,Pv.look,sj,ha,o2]),eo (by simp[fresh,aP,aG,dV,inObs,Pv.look,sj,ha,o2]),Ψ⟩
   ·rw[if_neg U]at ha;have Az:(hq l i==2)=false:=by rw[ad];simpa using U
    have afV:¬hq l i=2:=by simpa using Az
    clear ad;obtain⟨a6,bD,bY⟩:=G6 EG;have bF:=Zk EG;generalize nL EG=m at a6 bD bY bF ha;simp only[eC,hy];simp[gH];(with_reducible repeat' first|refine aj ?_|refine aD (tM i) ?_|refine aE (tM i) ?_|simp[gH,bs,Az,afV]);refine nu (fun(a:Nat)=>eC [(15,.gmap (.loc 1)),(18,.slice 5 (.own (.loc 2)) (wf.map ak.e)),(19,.int .i64 i),(20,.int .i64 a)] (hy s) ⟨vJ s xC,EG⟩ [(.loc 1,k7 l)] [(.loc 2,⟨wf.length,54,5,none⟩)] 3) (fun a=>m-a) (fun a=>a<=m) 0 (by simp[eC,hy];exact bV) Ω (fun a bk _=>?_);simp only[eC,hy];by_cases mf:a<m
    ·have tD:=a6 a mf;simp;((with_reducible repeat' first|refine aj ?_|simp[tD]|((first|apply bJ|apply bM|apply bL)<;>intro h<;>try simp at h))<;>(try exact cc));exact bQ.whl (a+1) Ω Ω bV
    ·have Ks:a=m:=Ω
     subst Ks;have jF:=am6 a;simp;(with_reducible repeat' first|refine aj ?_|refine aD jF ?_|refine aE jF ?_|simp[bD,xN,bF]);exact bQ.rng () hi trivial ⟨by simp[fresh,aP,aG,cn,inObs,Pv.look,sj,ha,o2],en (by simp[fresh,aP,aG,cn,inObs,Pv.look,sj,ha,o2]),eo (by simp[fresh,aP,aG,dV,inObs,Pv.look,sj,ha,o2]),Ψ⟩
  ·have bs:0<=j4 s.b i:=by have:=mt (zX jE.sol.asc i).1 ab;omega
   rw[if_pos (by cases e:cU s.b i with|none=>exact absurd e ab|some _=>rfl)]at ha;simp only[eC,hy];simp[gH];(with_reducible repeat' first|refine aj ?_|refine aD (tM i) ?_|refine aE (tM i) ?_|simp[gH,bs]);exact bQ.rng () hi trivial ⟨by simp[fresh,aP,aG,cn,inObs,Pv.look,sj,ha,o2],en (by simp[fresh,aP,aG,cn,inObs,Pv.look,sj,ha,o2]),eo (by simp[fresh,aP,aG,dV,inObs,Pv.look,sj,ha,o2]),Ψ⟩
 clear mP;have yo:¬(N:Int)<s.n:=Ω
 have kG:=Bw s N Gd;have TQ:=ak9 h;have wJ:=Xm s Gd;have dS:=fun v=>anu h v;have aX:=fun i (hi:i<N)=>ans ay hi;have apv:(rB s).length=N:=by simp[rB];omega
 generalize iG s N=w at kG TQ wJ dS aX⊢;simp only[eC,hy];simp;(with_reducible repeat' first|refine aj ?_|simp[yo]);refine hQ (fun i (a:List ak)=>⟨[(1,.ptr (.loc 0) 0),(18,.slice 5 (.own (.loc 2)) (w.f.map ak.e)),(21,.slice 5 (.own (.loc 3)) (a.map ak.e)),(22,.int .i64 i)],[(.loc 0,hy s)],[(.loc 3,⟨a.length,54,5,none⟩)],4,[]⟩) N (fun i a=>a=(rB s).take i) [] (by simp[hy];exact bV) Ψ (fun a af _=>?_) (fun i a hi af _=>?_)
 ·rw[hx Ω]at af;rw[<-af];simp only[hy];exact cD
 ·have gH:(i:Int)<s.n:=Ω
  have ae:=aX i hi;have lQ:=ng ae;rw[<-af]at lQ;have mf:a.length<=N:=by rw[af,List.length_take];omega
  have bf:=dS i;have e3:=jg i;have gT:=xz w.f (bh s.b i) Ω kG.asc TQ;rw[if_pos bf,gD bf]at gT;generalize (bh s.b i).ap (bh w.f)=x at ae lQ gT;clear bf dS aX ae af;simp only[hy];by_cases ab:cU s.b i=none
  ·have bs:¬0<=j4 s.b i:=by have:=(zX jE.sol.asc i).2 ab;omega
   have kt:bh s.b i= .var i:=by unfold bh;rw[ab];rfl
   rw[kt]at gT;simp[gH];((with_reducible repeat' first|refine aj ?_|refine aD e3 ?_|refine aE e3 ?_|refine aD (tM i) ?_|refine aE (tM i) ?_|refine aD gT ?_|refine aE gT ?_|simp[gH,bs]|((first|apply bJ|apply bM|apply bL)<;>intro h<;>try simp at h))<;>(try exact cc));exact bQ.rng _ hi lQ.symm ⟨by simp[fresh,aP,aG,cn,inObs,Pv.look,o2],en (by simp[fresh,aP,aG,cn,inObs,Pv.look,o2]),eo (by simp[fresh,aP,aG,dV,inObs,Pv.look,o2]),Ψ⟩
  ·obtain⟨t,aM⟩:=Option.ne_none_iff_exists'.1 ab;obtain⟨bE,b,j5,nC⟩:=adh jE.sol.asc i aM;have kt:bh s.b i=b.t:=by unfold bh;rw[aM,nC];rfl
   rw[kt]at gT;have qe:=(J5 s.b i).1;have cw:∀h,(s.b[(j4 s.b i).toNat]'h)=b:=fun h=>by rw[cf h]at j5;exact eJ j5
   have GF:=tM i;clear tM;generalize j4 s.b i=f at bE j5 qe cw GF;simp[gH];((with_reducible repeat' first|refine aj ?_|refine aD e3 ?_|refine aE e3 ?_|refine aD GF ?_|refine aE GF ?_|refine aD gT ?_|refine aE gT ?_|simp[gH,bE,j5,cw,qe]|((first|apply bJ|apply bM|apply bL)<;>intro h<;>try simp at h))<;>(try exact cc));exact bQ.rng _ hi lQ.symm ⟨by simp[fresh,aP,aG,cn,inObs,Pv.look,o2],en (by simp[fresh,aP,aG,cn,inObs,Pv.look,o2]),eo (by simp[fresh,aP,aG,dV,inObs,Pv.look,o2]),Ψ⟩
def Jg:C:=(aa [bq 2 false] (.seq (aa [I 6 0,cz 7 6,aS 8 .gtr 7 1048576] (aZ 8 (aa [bq 2 true] .ret) .skip)) (aa [I 9 0,dj 10 6 [.t 9,(eF 0),(eF 7)],c1 3 kR,bN 5 3 10] (aa [a7 12 5 3,cR 13 7 12,I 11 13,cC 14 0 11,cC 15 1 11,I 4 14,I 5 15] (aa [I 16 5,I 17 16,au 17 true (a7 18 5 3),bW 17 true 19 4,au 17 true (ch 20 8 18 19),dq 21 17 20,I 22 21,au 22 true (a7 23 5 3),bW 22 true 24 4,au 22 true (ch 25 9 23 24),dq 26 22 25,I 27 26,bW 27 true 28 4,au 27 true (cz 29 28),au 27 true (aS 30 .eql 29 7),dq 31 27 30,I 2 31] .ret)))))
@[simp] def Wz:List bX:=[.tmp 2]
def XL:List (Nat×dz):=[
 (4,⟨1,1,.bool,.bool false⟩),
 (22,⟨1,24,.slice 5,.slice 1 .nil []⟩),
 (23,⟨1,24,.slice 54,.slice 5 .nil []⟩),
 (28,⟨5,104,.struct [(0,3),(1,23),(2,24),(3,25),(4,26)],.agg [.int .i64 0,.slice 5 .nil [],.slice 1 .nil [],.slice 2 .nil [],.slice 2 .nil []]⟩),
 (36,⟨4,56,.struct [(0,3),(1,3),(2,9),(3,34)],.agg [.int .i64 0,.int .i64 0,.str [],.slice 4 .nil []]⟩)]
theorem XN:fI az XL=true:=by kernel_rfl
theorem VH:b7 XL Jg Wz 1 Tryz.f3=true:=by kernel_rfl
theorem RX:az.funcs[(3:Nat)]? =some Tryz.f3:=Tryz.func3
open Classical in
theorem X1(d:List Int)(aN:uH d):bZ az 3 [.slice 1 .no (iQ d)] (.bool true):=by
 by_cases CJ:1048576<d.length
 ·have cw:(1048576:Int)<d.length:=Ω
  refine bz XN RX VH fun aT=>?_;unfold Jg;exact cD
 ·have av:d.length<=10000000:=Ω
  have aeA:¬(1048576:Int)<d.length:=Ω
  have dm:=amu d aN av 0 Ω 7 Ω;have pK:=ahd d 0 (n:=7) Ω;generalize DB d 0 7=s at dm pK;have ei:=pK.small Ω;have ok:=pK.s.ok;have tg:=pK.s.tg.w;have lQ:s.n=(7:Nat):=pK.s.n;have eC:=amC ei tg;obtain⟨aC,nG⟩:=ant ei;have mX:=amp ok tg lQ aC;have gM:=anc ok tg lQ aC;rw[gD nG]at mX gM;have wJ:(rB s).length=7:=by unfold rB;rw[lQ];rfl
  generalize rB s=w at eC mX gM wJ;clear aC nG ei pK ok tg;simp only[bP.e]at dm eC mX gM⊢;refine bz XN RX VH fun aT=>?_;unfold Jg;simp;((with_reducible repeat' first|refine aj ?_|refine aD dm ?_|refine aE dm ?_|refine aD eC ?_|refine aE eC ?_|refine aD mX ?_|refine aE mX ?_|refine aD gM ?_|refine aE gM ?_|simp[aeA,wJ]|((first|apply bJ|apply bM|apply bL)<;>intro h<;>try simp at h))<;>(try exact cc));simp[bu,Wz,aW,aY,aV]
end
section
open Go Go.Pv Go.ChangeShapes Go.WideShapes Go.ChangeAt Go.RowKit
theorem ak3:ownKnob az.godebug=none:=by kernel_rfl
theorem ak2:laidOutB az=true:=by kernel_rfl
theorem ZO:az.cellsOf 5=1:=by kernel_rfl
theorem Pc(w:World)(Z:bc):∀xs:List Int,dB w Z 1 (iQ xs) (xs.map (Value.int .u8))
 |[]=>by simp[iQ,dB]
 |x::xs=>by simp only[iQ,hk,dB];exact⟨.int .u8 x,_,rfl,⟨by simp[bd],rfl,by intro c aq;simp[pe]at aq;subst aq;rfl⟩,Pc w Z xs⟩
def zO(b off n:Nat):bc:=⟨fun b0 o=>b0=b/\off<=o/\o<off+n,fun _=>none,fun _=>none,fun _ _ _=>eW⟩
theorem AP(w:World)(A:Nat->Nat->Prop)(b:Nat):∀(us:List Value) (off:Nat),(∀i u,us[i]? =some u->A b (off+i)/\w.cell? ⟨b,off+i,none⟩=some u)->lV w A b off us
 |[],_,_=>trivial
 |u::us,off,h=>⟨by simpa using h 0 u rfl,AP w A b us (off+1) fun i fa hu=>by have:=h (i+1) fa (by simpa using hu);rwa[show off+(i+1)=off+1+i from by omega]at this⟩
theorem Jt{f:FuncId}{fn:Func}(pL:az.funcs[f]? =some fn)(Z7:∀args w,(callFunc f args).run az w= .ok (.enter f args) w){w:World}{Z:bc}{args:List ai}{ba:Array Value}(h:bZ az f args (.bool true))(aM:∀k j b,¬Z.tr k j b)(bg:∀b o,Z.A b o->b<w.heap.size)(ab:∀k,Z.bx k=none)(ax:∀k,Z.ow k=none)(aJ:cX w Z args ba.toList):
  Calls az f ba w fun e w'=>e= .returned (.bool true)/\Below w.heap.size w w':=by
 have aX:Pv.Good (fx Z ⟨[],[]⟩) w Z [] []:=⟨bg,fun k cs ad=>by simp[Pv.look]at ad,fun k bI bl J=>by simp[Pv.look]at J,fun g o ad=>by simp[Pv.look]at ad,fun g ff n n' v v' bl J=>by simp[Pv.look]at J,fun g k n v bl J=>by simp[Pv.look]at J,fun k=>.inl (ab k),fun _ _ k j=>aM k j _⟩;rcases h w Z ba aX (fun k=>⟨fun _=>ab k,fun _=>ax k,aM k⟩) aJ with⟨_,aq⟩|⟨v,w',aq,_⟩
 ·refine aq.mono ?_;rintro e w' ⟨v,r,ah,bn,rfl,⟨rfl,rfl⟩,mR,_,_,_,mh⟩;simp only[bd]at mR;subst mR;refine⟨rfl,mh.os,mh.tape,mh.output,mh.size,fun k ad=>mh.block k ad ?_⟩;simp[fx,Pv.look]
 ·rw[Z7]at aq;cases aq
theorem anr{n:Int}(h:(Lit.int .u8 n).wf=true):0<=n/\n<256:=by simp[Lit.wf,IntKind.min,IntKind.max,rD,nW]at h;omega
end
end Go.Proofs.YtohaalphocaebaaGreatDoor
