/- Contracts of the reference: code: goals of instructions. -/
import Derived.Shelf.Strings.Builder1
import Derived.Shelf.Strconv.Itoa3
import Derived.Shelf.Strconv.AtoiAll
import Derived.Ground.NamesProg
import Derived.Test.YtlnndmgfngfeiaaGreatDoorProg
import Derived.ProofKit
import Derived.WalkKit
import Derived.Lib.ItoaLen
import Derived.Test.YtlnndmgfngfeiaaGreatDoorF2
set_option linter.all false
set_option maxHeartbeats 4000000
set_option maxRecDepth 4000
open Bool renaming and_eq_true->bE
open Go renaming Program->bM
open Go.Extern.AbiNoEscape renaming same->YL
open Go.IntKind renaming i64->mQ
open Go.IntWalk renaming i64_in->pD
open Go.Lib renaming itoa->br
open Go.Proofs.Tryz renaming f3->h9,prog->aF
open Go.Value renaming cells->km,int->kY
open List renaming all_eq_true->kZ,cons_append->oA,getElem?_eq_getElem->cB,getElem?_eq_some_iff->dw,length_append->dh,length_cons->hy,length_map->kn,length_nil->l5,length_pos_iff->oB,map_cons->ez,mem_append->nD,mem_append_left->nE,mem_cons->hT,mem_of_getElem?->e9,nodup_append->oC,take_length->jY
open List.Nodup renaming length_le_of_subset->Us
open List.Pairwise renaming imp_of_mem->YQ,map->YR
open List.Perm renaming eq_of_pairwise->YS
open List.cons renaming injEq->tb
open Nat renaming le_refl->c7,lt_or_ge->ko
open Option renaming isSome_iff_exists->eK,map_eq_some_iff->jZ
open Option.some renaming inj->fo,injEq->dt
open Prod.mk renaming injEq->hz
open UInt8 renaming ofNat->nF
open _root_ renaming ByteArray->iI,False->dz,Option->bf,UInt8->bt,beq_eq_false_iff_ne->fN,beq_iff_eq->cD,congrArg->fa,decide_eq_false->ha,decide_eq_true->j0,decide_eq_true_eq->fY,if_neg->bu
namespace Go.Proofs.YtlnndmgfngfeiaaGreatDoor
section
open Go Go.Pv
def k5(l:List Int):List ae:=jU (l.map fun x=>(x,.bool true))
theorem jA(S:aw->Prop)(l:List Int):aB S (k5 l):=by
 have:∀l:List Int,aB S (jr (l.map fun x=>(x,.bool true))):=by
  intro l;induction l with
  |nil=>simp[jr,aB]
  |cons x r bb=>simp[jr,aB,bb,aH]
 simp[k5,jU,aB,this,aH]
def mV(v:Int)(l:List Int):List Int:=if v∈l then l else l++[v]
theorem Dw(k:Int):∀l:List Int,mW k (.bool true) (l.map fun x=>(x,ae.bool true))=if k∈l then some (l.map fun x=>(x,ae.bool true))else none
 |[]=>rfl
 |i::r=>by
  by_cases h:k=i
  ·simp[mW,h]
  ·by_cases J:k∈r<;>simp[mW,h,J,Dw k r]
@[simp]theorem Xt(k:Int)(l:List Int):qg .i (.int .i64 k) (.bool true) (k5 l)=some (k5 (mV k l)):=by
 simp only[k5,QA,kK,Dw,mV];split<;>rename_i h
 ·split at h
  ·simp at h;subst h;simp[*]
  ·cases h
 ·split at h
  ·cases h
  ·simp[*]
@[simp]theorem US:k5 []=jU []:=rfl
@[simp]theorem XF(l:List Int):gH (k5 l)=false:=rfl
@[simp]theorem XI(m:aw)(l:List Int):wD m (k5 l)=some (bV l.length [] m):=by simp[k5]
theorem Qt(f:aw->bf (List ae))(fI mk:aw)(n:Nat)(seen:List Nat)(b:Nat)(l:List Int)(x:Int)(aq:f fI=some (bV n (seen++[b]) mk))(hm:f mk=some (k5 l))(aS:n=l.length)(ab:l[b]? =some x):pe f (.ptr fI 0)=some (True,.tuple [.int .i64 x,.bool true]):=by rw[Qv f fI mk n seen b _ aq hm (by simpa using aS)];simp[ab]
theorem Ly{st:a6}{d:Nat}{K:a6->Prop}{fI mk:aw}{n:Nat}{seen:List Nat}{l:List Int}(aq:Pv.look fI st.b=some (bV n seen mk))(hm:Pv.look mk st.b=some (k5 l))(aS:n=l.length)
  (I:(∀b,b<l.length->b∈seen)->K {st with t:=Pv.put d (.tuple [.bool false]) st.t}) (J:∀b x,l[b]? =some x->b∉seen->K {st with t:=Pv.put d (.tuple [.bool true,.int .i64 x,.bool true]) st.t,b:=cx fI (bV n (seen++[b]) mk) st.b}):
  rW st d (.ptr fI 0) K:=by
 refine Lz aq hm (by simpa using aS) (fun h=>I fun b af=>h b Ω) (fun b k v af al=>?_);simp only[List.getElem?_map,jZ]at af;obtain⟨x,aj,aR⟩:=af;simp only[hz]at aR;obtain⟨rfl,rfl⟩:=aR;exact J b x aj al
def _root_.Go.Pv.T.fold{α:Type}(f:Int->α->α):T->α->α
 | .var n,a=>f n a
 | .pair x y,a=>y.fold f (x.fold f a)
 |_,a=>a
theorem NK{α:Type}(S:α->dH)(j7:∀a,im (S a))(kc:∀a b,lA (S a) (S b))(g:Nat)(cY:List ae)(aQ:∀a,aB (aK (S a)) cY)(fS:cd cY=cY)(f:Int->α->α)(av:∀v a,dP aF g (.int .i64 v::cY) (S a) fun r aE=>r= .tuple []/\aE=S (f v a))(t:T):
  ∀a,dP aF 79 [t.e,.func g cY] (S a) fun r aE=>r= .tuple []/\aE=S (t.fold f a):=by
 have aS:∀a m,Pv.look (.loc m) (S a).b=none:=fun a=>(j7 a).obj.1;have hu:∀a m cs,cx (.loc m) cs (S a).b=(S a).b++[(.loc m,cs)]:=fun a m cs=>Jr (aS a m);have ah:∀a m,aw.loc m∉fs (S a):=fun a=>Qo (j7 a).obj;induction t with
 |pair x y Bj Bk=>intro a;have al:=j7 a;refine dP.mk mixed rG Ag BY Ψ al.obj fun aO gw=>?_;unfold xf;simp[hu,ah,od,aS,fS];(with_reducible repeat' first|refine aP ?_|simp[hu,ah,od,aS]);refine cL.ob (Bj a) al bk bk (by simp[aQ]) ?_;rintro r aE ⟨rfl,rfl⟩;refine⟨kc _ _,?_⟩;simp[wY,wX,ch,aS];(with_reducible repeat' first|refine aP ?_|simp[hu,ah,od,aS]);rw[fS];refine cL.ob (Bk (x.fold f a)) (j7 (x.fold f a)) bk bk (by simp[aQ]) ?_;rintro r aE ⟨rfl,rfl⟩;refine⟨kc _ _,?_⟩;simp[wY,wX,ch,aS];refine fD.at (S (y.fold f (x.fold f a))) (.inr rfl) (j7 _) (kc _ _) bk bk ?_;simp[hb,yX,bp,bz,bo];simp[T.fold]
 |var n=>intro a;have al:=j7 a;refine dP.mk mixed rG Ag BY Ψ al.obj fun aO gw=>?_;unfold xf;simp[hu,ah,od,aS,fS];(with_reducible repeat' first|refine aP ?_|simp[hu,ah,od,aS]);refine cL.ob (av n a) al bk bk (by simp[aQ]) ?_;rintro r aE ⟨rfl,rfl⟩;refine⟨kc _ _,?_⟩;simp[wY,wX,ch,aS,od];refine fD.at (S (f n a)) (.inr rfl) (j7 _) (kc _ _) bk bk ?_;simp[hb,yX,bp,bz,bo];simp[T.fold]
 |_=>intro a;have al:=j7 a;refine dP.mk mixed rG Ag BY Ψ al.obj fun aO gw=>?_;unfold xf;simp[hu,ah,od,aS,fS];(with_reducible repeat' first|refine aP ?_|simp[hu,ah,od,aS]);refine fD.at (S a) (.inr rfl) al (lA.refl _) bk bk ?_;simp[hb,yX,bp,bz,bo];simp[T.fold]
def eI(l:List Int):dH:=⟨[(.obj 304,k5 l),(.obj 305,[.gmap (.obj 304)])],[]⟩
theorem nG(l:List Int):im (eI l):=by unfold eI;exact im.of ⟨by intro m;simp[Pv.look],by intro m;simp[Pv.look]⟩ (by simp[jA,aB,aH,aK,Pv.look]) Ψ
theorem qA(l e2:List Int):lA (eI l) (eI e2):=by refine⟨fun k=>?_,fun k=>rfl⟩;simp only[eI,Pv.look];split<;>rfl
def pH(l:List Int):dH:=⟨[(.obj 304,k5 l)],[]⟩
theorem Dr(l:List Int):im (pH l):=by unfold pH;exact im.of ⟨by intro m;simp[Pv.look],by intro m;simp[Pv.look]⟩ (by simp[jA,aB,aH,aK,Pv.look]) Ψ
theorem SQ{a b:List Int}(h:a.Perm b):mH a=mH b:=by
 have aG:∀a b c:Int,(decide (a<=b))=true->(decide (b<=c))=true->(decide (a<=c))=true:=by intro a b c;simp;omega
 have vW:∀a b:Int,(decide (a<=b)||decide (b<=a))=true:=by intro a b;simp;omega
 have I:=List.pairwise_mergeSort aG vW a;have J:=List.pairwise_mergeSort aG vW b;refine YS (le:=fun x y:Int=>(decide (x<=y))=true) (fun x y _ _ I J=>by simp at I J;omega) I J ?_;exact(List.mergeSort_perm a _).trans (h.trans (List.mergeSort_perm b _).symm)
def PT(l:List Int)(k:Nat)(st:a6):Prop:=∃(seen:List Nat) (xs:List Int),seen.Nodup/\(∀b∈seen,b<l.length)/\k=l.length-seen.length/\xs=seen.filterMap (fun b=>l[b]?)/\xs.length=seen.length/\st=⟨[(3,.row 1 (.obj 306) xs.length),(7,.ptr (.loc 0) 0)],[(.obj 304,k5 l),(.loc 0,bV l.length seen (.obj 304))],[(.obj 306,⟨xs.length,3,1,some (di xs)⟩)],1,[.obj 306,.obj 304]⟩
@[simp]theorem Wx(xs:List Int):(di xs).length=xs.length:=by simp[di]
@[simp]theorem Yu(xs:List Int):cd (di xs)=di xs:=by
 induction xs with
 |nil=>rfl
 |cons x r bb=>simp only[di,ez,cd,cg]at bb⊢;rw[bb]
@[simp]theorem Wy:di []=[]:=rfl
theorem PQ(xs:List Int)(x:Int):di xs++[ae.int .i64 x]=di (xs++[x]):=by simp[di]
theorem NP(l:List Int)(aA:l.length<=1000000):dP aF 160 [.gmap (.obj 304)] (pH l) fun r aE=>r= .slice 1 .no (di (mH l))/\aE=pH l:=by
 have al:=Dr l;unfold pH at al⊢;refine dP.mk mixed rG MJ Q2 Ψ al.obj fun aO gw=>?_;unfold DY;simp;refine xx (PT l) l.length _ ⟨by simp[fresh,aB,aH,bV,aK,Pv.look,jA,pa],dW (by simp[fresh,aB,aH,bV,aK,Pv.look,jA,pa]),dY (by simp[fresh,aB,aH,dJ,aK,Pv.look,jA,pa]),Ψ⟩ ⟨[],[],Ψ,Ψ,Ψ,Ψ,Ψ,rfl⟩ ?_;rintro k st ⟨seen,xs,bj,cM,aa,kU,h2,rfl⟩ tM gw;clear tM gw;have hle:=IU bj cM;simp;refine Ly (mk:= .obj 304) (seen:=seen) (l:=l) Ψ Ψ rfl (fun nT=>?_) (fun b x ab af=>?_)
 ·simp;have GB:=SF bj cM nT;rw[<-kU]at GB;refine cL.ob (NO 306 xs Ω) (zw 306 xs) (by unfold kp;exact bk) (by unfold kp;exact bk) (by simp[kp,aK,Pv.look]) ?_;rintro r aE ⟨rfl,rfl⟩;refine⟨⟨fun _=>rfl,fun k=>by simp only[kp,Pv.look];split<;>rfl⟩,?_⟩;unfold kp;simp[ch,CD];refine fD.at _ (.inl rfl) al (lA.refl _) bk bk ?_;simp[hb,Ik,bp,bz,bo];rw[SQ GB];simp[aH,pa]
 ·have O8:∀f:aw->bf (List ae),f (.loc 0)=some (bV l.length (seen++[b]) (.obj 304))->f (.obj 304)=some (k5 l)->pe f (.ptr (.loc 0) 0)=some (True,.tuple [.int .i64 x,.bool true]):=fun f I J=>Qt f (.loc 0) (.obj 304) l.length seen b l x I J rfl ab;have dQ:b<l.length:=(dw.1 ab).1;have kz:=SG bj cM dQ af;simp[O8,PQ];refine⟨by unfold aX;omega,?_⟩;refine cj.next (l.length-(seen.length+1)) Ω ⟨seen++[b],xs++[x],QL bj af,(by simp;intro c aQ;rcases aQ with aQ|rfl;exact cM c aQ;exact dQ),Ψ,by rw[List.filterMap_append,<-kU];simp[ab],by simp[h2],rfl⟩ ⟨by simp[fresh,aB,aH,bV,aK,Pv.look,jA,pa],dW (by simp[fresh,aB,aH,bV,aK,Pv.look,jA,pa]),dY (by simp[fresh,aB,aH,dJ,aK,Pv.look,jA,pa]),Ψ⟩
@[simp]theorem WM(S:aw->Prop)(xs:List Int):aB S (di xs)=True:=eq_true (pa S xs)
@[simp]theorem Vq:cells .junk=[.junk]:=rfl
def ga(vs:List Int)(l:List Int):List Int:=vs.foldl (fun l v=>mV v l) l
theorem w8(a b l:List Int):ga (a++b) l=ga b (ga a l):=List.foldl_append
theorem zy(vs:List Int):∀(l:List Int) (v:Int),v∈ga vs l↔v∈l\/v∈vs:=by
 induction vs with
 |nil=>intro l v;simp[ga]
 |cons x vs bb=>
  intro l v;show v∈ga vs (mV x l)↔_;rw[bb,mV];split
  ·rename_i h;constructor
   ·rintro(bS|bS)
    ·exact .inl bS
    ·exact .inr (by simp[bS])
   ·rintro(bS|bS)
    ·exact .inl bS
    ·rcases hT.1 bS with rfl|bS
     ·exact .inl h
     ·exact .inr bS
  ·simp[or_assoc]
theorem Ds(vs:List Int):∀l:List Int,l.Nodup->(ga vs l).Nodup:=by
 induction vs with
 |nil=>intro l h;exact h
 |cons x vs bb=>
  intro l h;refine bb _ ?_;show(mV x l).Nodup;unfold mV;split
  ·exact h
  ·rename_i ab;rw[oC];exact⟨h,Ψ,fun a bU b af=>by simp at af;subst af;rintro rfl;exact ab bU⟩
theorem Nx(t:T):∀l:List Int,t.fold mV l=ga t.tm.vs l:=by
 induction t with
 |pair a b sx sy=>
  intro l;have:(T.pair a b).tm.vs=a.tm.vs++b.tm.vs:=by simp[T.tm,aU.vs,aU.vsL]
  rw[this,w8,<-sx,<-sy];rfl
 |var n=>intro l;simp[T.tm,aU.vs,T.fold,ga]
 |_=>intro l;simp[T.tm,aU.vs,aU.vsL,T.fold,ga]
theorem JM(x:T)(h:x.ok=true):∀v∈x.tm.vs,0<=v/\v<=100000:=by
 induction x with
 |pair a b sx sy=>
  intro v ba;simp only[T.ok,bE]at h;have:(T.pair a b).tm.vs=a.tm.vs++b.tm.vs:=by simp[T.tm,aU.vs,aU.vsL]
  rw[this,nD]at ba;rcases ba with ba|ba
  ·exact sx h.1 v ba
  ·exact sy h.2 v ba
 |var n=>intro v ba;simp[T.tm,aU.vs]at ba;subst ba;simpa[T.ok]using h
 |_=>intro v ba;simp[T.tm,aU.vs,aU.vsL]at ba
theorem s3:∀l:List aU,aU.vsL l=l.flatMap aU.vs
 |[]=>rfl
 |x::l=>by simp[aU.vsL,s3 l]
theorem r3:∀l:List Gm,Gm.vsL l=l.flatMap Gm.vs
 |[]=>rfl
 |x::l=>by simp[Gm.vsL,r3 l]
theorem Aw(g:Gm):g.vs=aU.vsL g.ts++Gm.vsL g.gs:=by cases g;rfl
theorem ps{g:Gm}(h:g.shape=true):∀t∈g.ts,t.fits=true:=by rw[nv,bE]at h;exact fun t aG=>kZ.1 h.1 t aG
theorem pq{g:Gm}(h:g.shape=true):∀x∈g.gs,x.shape=true:=by
 rw[nv,bE]at h;obtain⟨_,h⟩:=h;intro x ab;have no:g.gs.isEmpty=false:=by
  cases aT:g.gs with
  |nil=>rw[aT]at ab;cases ab
  |cons=>rfl
 rw[no]at h;repeat' split at h
 all_goals simp at h
 ·exact h.2 x ab
 ·exact h.2 x ab
theorem xL:∀(n:Nat) (g:Gm),g.sz<=n->g.shape=true->∀v∈g.vs,0<=v/\v<=100000:=by
 intro n;induction n with
 |zero=>intro g aT;have:=g.sz_pos;omega
 |succ n bb=>
  intro g aT al v ba;rw[Aw,s3,r3,nD,List.mem_flatMap,List.mem_flatMap]at ba;rcases ba with⟨t,aG,ba⟩|⟨x,ab,ba⟩
  ·obtain⟨x,rfl,J⟩:=aU.fits_ex (ps al t aG);exact JM x (rY J) v ba
  ·exact bb x (by have:=g.gs_lt ab;omega) (pq al x ab) v ba
theorem BS{l:List Int}(aS:l.Nodup)(h:∀v∈l,0<=v/\v<=100000):l.length<=100001:=by
 have I:(l.map Int.toNat).Nodup:=by refine YR _ (fun a b r9=>?_) (YQ (S:=fun a b=>a≠b/\(0<=a/\0<=b)) (fun bU af r9=>⟨r9,(h _ bU).1,(h _ af).1⟩) aS);intro e;apply r9.1;omega
 have J:=Us I (l₂:=List.range 100001) fun x ab=>by obtain⟨v,ba,rfl⟩:=List.mem_map.1 ab;have:=h v ba;simp;omega
 simpa using J
theorem NN(v:Int)(l:List Int):dP aF 159 [.int .i64 v,.ptr (.obj 305) 0] (eI l) fun r aE=>r= .tuple []/\aE=eI (mV v l):=by have al:=nG l;have lL:=nG (mV v l);have kc:=qA l (mV v l);unfold eI at al lL kc⊢;refine dP.mk mixed jg MG QZ Ψ al.obj fun aO gw=>?_;unfold DV;simp;refine fD.at _ (.inr rfl) lL kc bk bk ?_;simp[hb,Ii,bp,bz,bo]
theorem NL{t:aU}(h:t.fits=true)(l:List Int):dP aF 79 [enc t,.func 159 [.ptr (.obj 305) 0]] (eI l) fun r aE=>r= .tuple []/\aE=eI (ga t.vs l):=by obtain⟨x,rfl,_⟩:=aU.fits_ex h;rw[pP,<-Nx];exact NK eI nG qA 159 [.ptr (.obj 305) 0] (by intro a;simp[aK,eI,Pv.look,aB,aH]) Ψ mV NN x l
theorem Ui{ts:List aU}{i:Nat}{t:aU}(h:ts[i]? =some t)(l:List Int):ga (aU.vsL (ts.take (i+1))) l=ga t.vs (ga (aU.vsL (ts.take i)) l):=by rw[List.take_add_one,h,s3,s3,<-w8];simp
theorem N8{gs:List Gm}{i:Nat}{g:Gm}(h:gs[i]? =some g)(l:List Int):ga (Gm.vsL (gs.take (i+1))) l=ga g.vs (ga (Gm.vsL (gs.take i)) l):=by rw[List.take_add_one,h,r3,r3,<-w8];simp
theorem NM(g:Gm)(av:∀t∈g.ts,t.fits=true)(l:List Int):dP aF 158 [g.e,.ptr (.obj 305) 0] (eI l) fun r aE=>r= .tuple []/\aE=eI (ga (aU.vsL g.ts) l):=by
 have al:=nG l;have lL:=nG (ga (aU.vsL g.ts) l);have kc:=qA l (ga (aU.vsL g.ts) l);unfold eI at al;refine dP.mk mixed jg MF QY Ψ al.obj fun aO gw=>?_;unfold DU;have ee:g.ts.length<=68719476736:=by rw[Gm.e_eq]at aO;simp[fb,eQ,e0,aX]at aO;omega
 clear aO gw;unfold eI;simp;(with_reducible repeat' first|refine aP ?_|simp);refine fv (fun i (_:Unit)=>⟨[(1,.ptr (.obj 305) 0),(6,.slice 4 .no (g.ts.map enc)),(7,.int .i64 g.ts.length),(8,.int .i64 i)],(eI (ga (aU.vsL (g.ts.take i)) l)).b,[],0,[.obj 304,.obj 305]⟩) g.ts.length (fun _ _=>True) () (by simp[eI,ga,aU.vsL];exact⟨by simp[fresh,aB,aH,bV,aK,Pv.look,jA],dW (by simp[fresh,aB,aH,bV,aK,Pv.look,jA]),dY (by simp[fresh,aB,aH,dJ,aK,Pv.look,jA]),Ψ⟩) trivial (fun _ _ _=>?_) (fun i _ aq _ _=>?_)
 ·simp only[jY,eI]at lL kc⊢;simp;(with_reducible repeat' first|refine aP ?_|simp);all_goals refine fD.at _ (.inr rfl) lL kc bk bk ?_
  all_goals simp[hb,Ih,bp,bz,bo]
 ·obtain⟨b,af,nU⟩:=eM aq;have sC:=NL (av b (e9 af)) (ga (aU.vsL (g.ts.take i)) l);rw[<-Ui af]at sC;have cS:bs ((i:Int)+1):=by unfold bs;omega
  clear lL kc;simp only[eI];simp[aq,nU];(with_reducible repeat' first|refine aP ?_|simp[aq,nU]);refine cL.ob sC (nG _) (by unfold eI;exact bk) (by unfold eI;exact bk) (by simp[aK,eI,Pv.look]) ?_;rintro r aE ⟨rfl,rfl⟩;refine⟨qA _ _,?_⟩;unfold eI;simp[ch];(with_reducible repeat' first|refine aP ?_|simp[cS]);all_goals refine cj.rng () aq trivial (by simp[eI];exact⟨by simp[fresh,aB,aH,bV,aK,Pv.look,jA],dW (by simp[fresh,aB,aH,bV,aK,Pv.look,jA]),dY (by simp[fresh,aB,aH,dJ,aK,Pv.look,jA]),Ψ⟩)
theorem zc{g:Gm}(h:g.shape=true):g.gs.length<=8/\g.ts.length<=4:=by
 rw[nv,bE]at h;obtain⟨_,h⟩:=h;have aS:jV g.kind<=2:=by unfold jV;(repeat' split)<;>omega
 split at h
 ·simp at h;obtain⟨⟨⟨_,I⟩,J⟩,_⟩:=h;rw[I];simp;omega
 ·split at h
  ·simp at h;rw[h.1.2];simp;omega
  ·split at h
   ·simp at h;rw[h.1.1.2];simp;omega
   ·split at h
    ·simp at h;rw[h.1.1.2];have:=h.1.2;split at this
     ·rename_i x ab;rw[ab];simp
     ·cases this
    ·cases h
theorem NJ:∀(n:Nat) (g:Gm),g.sz<=n->g.shape=true->∀l:List Int,dP aF 157 [g.e,.func 158 [.ptr (.obj 305) 0]] (eI l) fun r aE=>r= .tuple []/\aE=eI (ga g.vs l):=by
 intro n;induction n with
 |zero=>intro g aT;have:=g.sz_pos;omega
 |succ n bb=>
 intro g aT fR l;have al:=nG l;have lL:=nG (ga g.vs l);have kc:=qA l (ga g.vs l);have sC:=NM g (ps fR) l;have yf:∀x∈g.gs,∀l:List Int,dP aF 157 [x.e,.func 158 [.ptr (.obj 305) 0]] (eI l) fun r aE=>r= .tuple []/\aE=eI (ga x.vs l):=fun x ab l=>bb x (by have:=g.gs_lt ab;omega) (pq fR x ab) l;rw[Aw,w8]at lL kc⊢;generalize dy:ga (aU.vsL g.ts) l=pb at sC lL kc⊢;have Wc:g.gs.length<=1000000:=by have:=(zc fR).1;omega
 unfold eI at al;refine dP.mk mixed jg MB QU Ψ al.obj fun aO gw=>?_;unfold DQ;clear aO gw;unfold eI;simp;refine cL.ob (sC) (nG _) (by unfold eI;exact bk) (by unfold eI;exact bk) (by simp[aK,eI,Pv.look]) ?_;rintro r aE ⟨rfl,rfl⟩;refine⟨qA _ _,?_⟩;unfold eI;simp[ch];(with_reducible repeat' first|refine aP ?_|simp);refine fv (fun i (_:Unit)=>⟨[(1,.func 158 [.ptr (.obj 305) 0]),(10,.slice 4 .no (g.gs.map Gm.e)),(11,.int .i64 g.gs.length),(12,.int .i64 i)],(eI (ga (Gm.vsL (g.gs.take i)) pb)).b,[],0,[.obj 304,.obj 305]⟩) g.gs.length (fun _ _=>True) () (by simp[eI,ga,Gm.vsL];exact⟨by simp[fresh,aB,aH,bV,aK,Pv.look,jA],dW (by simp[fresh,aB,aH,bV,aK,Pv.look,jA]),dY (by simp[fresh,aB,aH,dJ,aK,Pv.look,jA]),Ψ⟩) trivial (fun _ _ _=>?_) (fun i _ aq _ _=>?_)
 ·simp only[jY,eI]at lL kc⊢;simp;(with_reducible repeat' first|refine aP ?_|simp);all_goals refine fD.at _ (.inr rfl) lL kc bk bk ?_
  all_goals simp[hb,If,bp,bz,bo]
 ·obtain⟨b,af,nU⟩:=eM aq;have kb:=yf b (e9 af) (ga (Gm.vsL (g.gs.take i)) pb);rw[<-N8 af]at kb;have cS:bs ((i:Int)+1):=by unfold bs;omega
  clear lL kc;simp only[eI];simp[aq,nU];(with_reducible repeat' first|refine aP ?_|simp[aq,nU]);refine cL.ob (kb) (nG _) (by unfold eI;exact bk) (by unfold eI;exact bk) (by simp[aK,eI,Pv.look]) ?_;rintro r aE ⟨rfl,rfl⟩;refine⟨qA _ _,?_⟩;unfold eI;simp[ch];(with_reducible repeat' first|refine aP ?_|simp[cS]);all_goals refine cj.rng () aq trivial (by simp[eI];exact⟨by simp[fresh,aB,aH,bV,aK,Pv.look,jA],dW (by simp[fresh,aB,aH,bV,aK,Pv.look,jA]),dY (by simp[fresh,aB,aH,dJ,aK,Pv.look,jA]),Ψ⟩)
def qK(g:Gm):List Int:=mH (ga g.vs [])
theorem TF(g:Gm)(h:g.shape=true):bF aF 90 [g.e] (.slice 1 .no (di (qK g))):=by
 have aA:(ga g.vs []).length<=1000000:=by have:=BS (Ds g.vs [] .nil) fun v ba=>xL g.sz g (c7 _) h v (by simpa[zy]using ba);omega
 have sC:=NJ g.sz g (c7 _) h [];have bO:=NP (ga g.vs []) aA;refine bq jg ME QX fun aO=>?_;unfold DT;clear aO;simp;(with_reducible repeat' first|refine aP ?_|simp);refine cL.ob (sC) (nG _) (by unfold eI;exact bk) (by unfold eI;exact bk) (by simp[aK,eI,Pv.look]) ?_;rintro r aE ⟨rfl,rfl⟩;refine⟨qA _ _,?_⟩;unfold eI;simp[ch];refine cL.ob bO (Dr _) (by unfold pH;exact bk) (by unfold pH;exact bk) (by simp[aK,pH,Pv.look]) ?_;rintro r aE ⟨rfl,rfl⟩;refine⟨lA.refl _,?_⟩;unfold pH;simp[ch];simp[bJ,Ig,bp,bz,bo];simp[qK]
theorem FL(g:Gm)(v:Int):v∈qK g↔v∈g.vs:=by unfold qK mH;rw[List.mem_mergeSort,zy];simp
theorem ND(g:Gm)(h:g.shape=true):(qK g).length<=100001:=by unfold qK;rw[CD];exact BS (Ds g.vs [] .nil) fun v ba=>xL g.sz g (c7 _) h v (by simpa[zy]using ba)
def pA(g:Gm)(n:Int):Bool:=(qK g).all fun v=>decide (v<n)
theorem wV(g:Gm)(n:Int):pA g n=true↔wU g n:=by unfold pA wU;rw[kZ];exact⟨fun h v ba=>by simpa using h v ((FL g v).2 ba),fun h v ba=>by simpa using h v ((FL g v).1 ba)⟩
theorem PR{l:List Int}{i:Nat}(h:i<(di l).length):(di l)[i]= .int .i64 (l[i]'(by simpa using h)):=by simp[di]
theorem JK(g:Gm)(h:g.shape=true)(n:Int):bF aF 120 [g.e,.int .i64 n] (.bool (pA g n)):=by
 have eN:=TF g h;have hlen:=ND g h;unfold pA;generalize qK g=l at eN hlen⊢;generalize aW:(l.all fun v=>decide (v<n))=R;refine bq jg ML Q4 fun aO=>?_;unfold D0;clear aO;simp;(with_reducible repeat' first|refine aP ?_|refine aC eN ?_|refine aD eN ?_|simp);refine fv (fun i (_:Unit)=>⟨[(1,.int .i64 n),(8,.slice 1 .no (di l)),(9,.int .i64 l.length),(10,.int .i64 i)],[],[],0,[]⟩) l.length (lk (fun v=>decide (v<n)) l) () (by simp;exact cq) (fun k b aa=>Ω) (fun _ ai _=>?_) (fun i _ aq ai _=>?_)
 ·have:R=true:=by rw[<-aW];exact ai.fin
  subst this;clear ai aW;exact bY
 ·obtain⟨v,ba⟩:∃v,l[i]? =some v:=⟨_,cB aq⟩;have Wl:∀h,((di l)[i]'h)= .int .i64 v:=fun h=>by rw[PR h];rw[cB aq]at ba;rw[fo ba]
  have cS:bs ((i:Int)+1):=by unfold bs;omega
  by_cases GK:v<n
  ·have aS:=ai.step ba (by simpa using GK);have J:¬n<=v:=Ω
   clear ai aW;exact nq
  ·have:R=false:=by rw[<-aW];exact rP ba (by simpa using GK)
   subst this;have J:n<=v:=Ω
   clear ai aW;exact bY
end
end Go.Proofs.YtlnndmgfngfeiaaGreatDoor
namespace Go.Pv
section
open Go Go.RowKit
end
end Go.Pv
namespace Go.Pv
open Go Go.RowKit
theorem Ny(w:World)(a:Addr)(n:Nat):(w.freeze a n).os=w.os/\(w.freeze a n).tape=w.tape/\(w.freeze a n).output=w.output/\(w.freeze a n).heap.size=w.heap.size/\∀j,j≠a.block->(w.freeze a n).heap[j]? =w.heap[j]?:=by
 unfold World.freeze;split
 ·exact⟨rfl,rfl,rfl,rfl,fun _ _=>rfl⟩
 ·exact⟨rfl,rfl,rfl,Ψ,fun j ai=>by simp only[Array.getElem?_modify];rw[bu (Ne.symm ai)]⟩
theorem bX.dropRow{C:dM}{st:a6}{a:Act}{w w':World}{ν:aM}(h:bX C st a w ν){g:aw}{o:da}(aT:look g st.e=some o){xs:List ae}(ab:o.xs=some xs){n:Nat}{v:Value}(ba:ν.ow g=some (n,v)){bl:Nat}(dQ:v.ownBlock=some bl)
  (qZ:w'.os=w.os) (vV:w'.tape=w.tape) (vN:w'.output=w.output) (iy:∀j,j≠bl->w'.heap[j]? =w.heap[j]?) (dR:w'.heap.size=w.heap.size):bX C {st with e:=ch [(g,o)] st.e} a w' ν:=by
 obtain⟨v0,us,bK,b6,cH,dd⟩:=h.good.own g o aT;rw[ba]at bK;simp only[dt,hz]at bK;obtain⟨wz,rfl⟩:=bK;obtain⟨_,_,x8⟩:=dd xs ab;have aY:∀b o,ν.A b o->b≠bl:=fun b o aY e=>x8 bl dQ o (e▸aY);have ah:jH w ν w' ν:=⟨fun b o pY=>⟨pY,World.cell?_of_block (iy b (aY b o pY))⟩,fun _ _ _ h=>h,fun g n u _ aT=>⟨n,u,aT,.inl ⟨rfl,rfl⟩⟩,fun b o pY=>sV (iy b (aY b o pY)),fun _ _ _ _ h=>h⟩;have aA:∀k p,look k (ch [(g,o)] st.e)=some p->k≠g/\look k st.e=some p:=by
  intro k p aa;rw[pd]at aa;by_cases e:g=k
  ·subst e;simp[look]at aa
  ·simp[look,e]at aa;exact⟨Ne.symm e,aa⟩
 have vG:∀k,(look k (ch [(g,o)] st.e)).isSome->k≠g/\(look k st.e).isSome:=by intro k aa;obtain⟨p,bB⟩:=eK.1 aa;exact⟨(aA k p bB).1,by simp[(aA k p bB).2]⟩
 refine h.over ah rfl ⟨fun b o af=>by rw[dR];exact h.good.alt b o af,fun k cs aa=>?_,h.good.inj,fun k p aa=>?_,fun k be n n' u dZ b I J=>h.good.oinj k be n n' u dZ b (vG k I).2 (vG be J).2,fun k j n u b I J=>h.good.obx k j n u b (vG k I).2 J,h.good.one,fun b af=>h.good.otr b (af.imp id fun⟨k,n,u,I,J⟩=>⟨k,n,u,(vG k I).2,J⟩)⟩
  ⟨qZ.trans h.fr.os,vV.trans h.fr.tape,vN.trans h.fr.output,by rw[dR];exact h.fr.size,fun k aa hm=>?_,fun b o pY=>?_,h.fr.fresh,h.fr.obj,h.fr.obn,h.fr.row,h.fr.obr,h.fr.trd,fun k j b af=>⟨(h.fr.trb k j b af).1,by rw[dR];exact(h.fr.trb k j b af).2⟩,h.fr.trn,fun b o pY=>(ah.sh b o (h.fr.keep b o pY).1).trans (h.fr.sh b o pY),h.fr.nrow⟩ h.new
 ·obtain⟨b,bh,el,g1,g2,g3,g4,g5⟩:=h.good.box k cs aa;refine⟨b,bh,el,g1,g2,g3,?_,lV ah g5⟩;rw[iy b fun e=>h.good.obx g k n v b (by simp[aT]) (by simp[aa]) ba (by rw[e];exact dQ) g1];exact g4
 ·obtain⟨dI,fP⟩:=aA k p aa;obtain⟨u,bh,aj,aR,bm,c1⟩:=h.good.own k p fP;refine⟨u,bh,aj,⟨aR.1,?_⟩,bm,nt ah (fun _ _ _ h=>h) c1⟩;rcases aR.2 with aR|⟨gr,cap,cur,f1,f2,f3,f4⟩
  ·exact .inl aR
  ·refine .inr ⟨gr,cap,cur,f1,f2,?_,f4⟩;rw[iy gr fun e=>dI (h.good.oinj k g _ _ _ _ bl (by simp[fP]) (by simp[aT]) aj ba (by rw[f1,<-e];rfl) dQ)];exact f3
 ·have bB:=(cH bl dQ).1;rw[iy k fun e=>by subst e;exact bB.elim hm (fun J=>Ω)];exact h.fr.block k aa hm
 ·obtain⟨b5,cE⟩:=h.fr.keep b o pY;exact⟨b5,(ah.A b o b5).2.trans cE⟩
theorem Iw{w:World}{ν:aM}:∀{l:List bt} {us:List Value},cf w ν 1 (e1 l) us->us=Lib.byteCells l
 |[],us,h=>by simpa[e1,cf,Lib.byteCells]using h
 |x::xs,us,h=>by simp only[e1,ez,cf]at h;obtain⟨u,bh,rfl,⟨I,_,_⟩,J⟩:=h;simp only[aJ]at I;subst I;have:=Iw (l:=xs) J;rw[this];simp[Lib.byteCells,km]
end Go.Pv
namespace Go.Proofs
open Go.Shelf Go.RowKit
variable {P:bM} {iW:Ren}
set_option maxRecDepth 100000 in
theorem Any.Builder_String_ex(L:Lays.n169 P iW)(X:Builder.Extra P iW)(b:Nat)(l:List bt)(w:World)(a1:l≠[])(p:Value)(g cap:Nat)(cur:Array Value)(Om:w.heap[b]? =some (.cells #[p,.slice (some ⟨g,0,none⟩) l.length cap] (iW.t 72) (0,0)))
  (iz:w.ownsRow 0 (iW.t 5) 1 (.slice (some ⟨g,0,none⟩) l.length cap) l.length (Lib.byteCells l)) (aT:w.heap[g]? =some (.cells cur (iW.t 5) (0,0))) (nW:l.length<=cap) (tO:cap<=maxLen) (Gd:cur.size=cap*1):
  Calls P (iW.f 169) #[.pointer (some ⟨b,0,none⟩)] w fun e w'=>e= .returned (.string ⟨l.toArray⟩)/\w'=w.drew.freeze ⟨g,0,none⟩ l.length:=by
 have qV:l.length≠0:=by simpa using a1
 have cp:w.drew.cell? ⟨b,1,none⟩=some (.slice (some ⟨g,0,none⟩) l.length cap):=by have:w.drew.heap[b]? =some (.cells #[p,.slice (some ⟨g,0,none⟩) l.length cap] (iW.t 72) (0,0)):=Om;rw[Lib.cell_of_heap this];rfl
 have V1:(Builtin.unsafeSliceData_ #[(iW.t 37)] (iW.t 127) #[.slice (some ⟨g,0,none⟩) l.length cap]).run P w.drew= .ok (.pointer (some ⟨g,0,none⟩)) w.drew:=Lib.run_unsafeSliceData_row _ _ _ _ _ _ Ω
 have V2:(Builtin.unsafeString_ #[(iW.t 127),(iW.t 3)] (iW.t 9) #[.pointer (some ⟨g,0,none⟩),.int .i64 l.length]).run P w.drew= .ok (.string ⟨l.toArray⟩) (w.drew.freeze ⟨g,0,none⟩ l.length):=by refine Lib.run_unsafeString_row w.drew (iW.t 127) (iW.t 3) (iW.t 9) (iW.t 5) L.t127 X.cellsByte g cur.size (by have ON:w.drew.heap[g]? =some (.cells cur (iW.t 5) (0,0)):=aT;simp[World.shape?,ON]) l a1 Ω (by unfold maxLen at tO;omega) ?_;intro j x ab;have:=iz.cells (g:=g) rfl j (.int .u8 x.toNat) (by simp[Lib.byteCells,ab]);exact this
 have mixed:=L.mixed;have t72:=L.t72;have a72:=L.a72;have z72:=L.z72;have v72:=L.v72;have YE:=run_underlying L.t72;have t70:=L.t70;have a70:=L.a70;have z70:=L.z70;have v70:=L.v70;have YD:=run_underlying L.t70;have t37:=L.t37;have a37:=L.a37;have z37:=L.z37;have v37:=L.v37;have YB:=run_underlying L.t37;have t127:=L.t127;have a127:=L.a127;have z127:=L.z127;have v127:=L.v127;have Yz:=run_underlying L.t127;have t3:=L.t3;have a3:=L.a3;have z3:=L.z3;have v3:=L.v3;have YA:=run_underlying L.t3;have t9:=L.t9;have a9:=L.a9;have z9:=L.z9;have v9:=L.v9;have YF:=run_underlying L.t9;have t5:=X.t5;have a5:=X.a5;have z5:=X.z5;have v5:=X.v5;have YC:=run_underlying X.t5;go_enter L.f169,Body.n169_ntmps iW;go_wp2;go_region_o;all_goals(go_wp2;go_ret;exact⟨rfl,rfl⟩)
end Go.Proofs
namespace Go.Proofs
section
open Go.Shelf
def Tryz.lays169_ren:Go.Shelf.Ren:=⟨fun|169=>66|n=>n,fun|70=>104|9=>9|0=>0|72=>106|37=>35|127=>181|3=>3|5=>5|n=>n,fun|n=>n⟩
theorem Tryz.lays169:Go.Proofs.Lays.n169 aF Tryz.lays169_ren:={
 mixed:=by kernel_rfl
 f169:=Tryz.func66.trans (fa some (by kernel_rfl))
 t0:=Tryz.underlying0
 a0:=Tryz.isAgg0
 z0:=Tryz.sizeOf0
 v0:=Tryz.zeroValue0
 t3:=Tryz.underlying3
 a3:=Tryz.isAgg3
 z3:=Tryz.sizeOf3
 v3:=Tryz.zeroValue3
 t9:=Tryz.underlying9
 a9:=Tryz.isAgg9
 z9:=Tryz.sizeOf9
 v9:=Tryz.zeroValue9
 t37:=Tryz.underlying35
 a37:=Tryz.isAgg35
 z37:=Tryz.sizeOf35
 v37:=Tryz.zeroValue35
 t70:=Tryz.underlying104
 a70:=Tryz.isAgg104
 z70:=Tryz.sizeOf104
 v70:=Tryz.zeroValue104
 t72:=Tryz.underlying106
 a72:=Tryz.isAgg106
 z72:=Tryz.sizeOf106
 v72:=Tryz.zeroValue106
 t127:=Tryz.underlying181
 a127:=Tryz.isAgg181
 z127:=Tryz.sizeOf181
 v127:=Tryz.zeroValue181}
theorem Tryz.builderE:Builder.Extra aF Tryz.lays169_ren:={
 sizeBuilder:=by kernel_rfl
 liesBuilder:=by kernel_rfl
 t5:=Tryz.underlying5
 a5:=Tryz.isAgg5
 z5:=Tryz.sizeOf5
 v5:=Tryz.zeroValue5
 infoByte:=by kernel_rfl
 cellsByte:=by kernel_rfl
 sizeByte:=by kernel_rfl
 neB5:=by decide}
def Tryz.laysM171_ren:Go.Shelf.Ren:=⟨fun|171=>136|243=>192|246=>229|283=>261|284=>262|285=>263|286=>264|129=>241|317=>278|318=>279|319=>280|320=>281|337=>296|338=>297|n=>n,fun|3=>3|9=>9|2=>2|4=>4|171=>284|0=>0|53=>267|37=>35|5=>5|173=>286|212=>302|51=>265|20=>20|213=>303|46=>209|232=>326|233=>327|n=>n,fun|17=>0|18=>3|19=>4|n=>n⟩
theorem Tryz.laysM171:Go.Proofs.LaysM.n171 aF Tryz.laysM171_ren:={
 mixed:=by kernel_rfl
 f129:=Tryz.func241.trans (fa some (by kernel_rfl))
 f171:=Tryz.func136.trans (fa some (by kernel_rfl))
 f243:=Tryz.func192.trans (fa some (by kernel_rfl))
 f246:=Tryz.func229.trans (fa some (by kernel_rfl))
 f283:=Tryz.func261.trans (fa some (by kernel_rfl))
 f284:=Tryz.func262.trans (fa some (by kernel_rfl))
 f285:=Tryz.func263.trans (fa some (by kernel_rfl))
 f286:=Tryz.func264.trans (fa some (by kernel_rfl))
 f317:=Tryz.func278.trans (fa some (by kernel_rfl))
 f318:=Tryz.func279.trans (fa some (by kernel_rfl))
 f319:=Tryz.func280.trans (fa some (by kernel_rfl))
 f320:=Tryz.func281.trans (fa some (by kernel_rfl))
 f337:=Tryz.func296.trans (fa some (by kernel_rfl))
 f338:=Tryz.func297.trans (fa some (by kernel_rfl))
 t0:=Tryz.underlying0
 a0:=Tryz.isAgg0
 z0:=Tryz.sizeOf0
 v0:=Tryz.zeroValue0
 t2:=Tryz.underlying2
 a2:=Tryz.isAgg2
 z2:=Tryz.sizeOf2
 v2:=Tryz.zeroValue2
 t3:=Tryz.underlying3
 a3:=Tryz.isAgg3
 z3:=Tryz.sizeOf3
 v3:=Tryz.zeroValue3
 t4:=Tryz.underlying4
 a4:=Tryz.isAgg4
 z4:=Tryz.sizeOf4
 v4:=Tryz.zeroValue4
 t5:=Tryz.underlying5
 a5:=Tryz.isAgg5
 z5:=Tryz.sizeOf5
 v5:=Tryz.zeroValue5
 t9:=Tryz.underlying9
 a9:=Tryz.isAgg9
 z9:=Tryz.sizeOf9
 v9:=Tryz.zeroValue9
 t20:=Tryz.underlying20
 a20:=Tryz.isAgg20
 z20:=Tryz.sizeOf20
 v20:=Tryz.zeroValue20
 t37:=Tryz.underlying35
 a37:=Tryz.isAgg35
 z37:=Tryz.sizeOf35
 v37:=Tryz.zeroValue35
 t46:=Tryz.underlying209
 a46:=Tryz.isAgg209
 z46:=Tryz.sizeOf209
 v46:=Tryz.zeroValue209
 t51:=Tryz.underlying265
 a51:=Tryz.isAgg265
 z51:=Tryz.sizeOf265
 v51:=Tryz.zeroValue265
 t53:=Tryz.underlying267
 a53:=Tryz.isAgg267
 z53:=Tryz.sizeOf267
 v53:=Tryz.zeroValue267
 t171:=Tryz.underlying284
 a171:=Tryz.isAgg284
 z171:=Tryz.sizeOf284
 v171:=Tryz.zeroValue284
 t173:=Tryz.underlying286
 a173:=Tryz.isAgg286
 z173:=Tryz.sizeOf286
 v173:=Tryz.zeroValue286
 t212:=Tryz.underlying302
 a212:=Tryz.isAgg302
 z212:=Tryz.sizeOf302
 v212:=Tryz.zeroValue302
 t213:=Tryz.underlying303
 a213:=Tryz.isAgg303
 z213:=Tryz.sizeOf303
 t232:=Tryz.underlying326
 a232:=Tryz.isAgg326
 z232:=Tryz.sizeOf326
 v232:=Tryz.zeroValue326
 t233:=Tryz.underlying327
 a233:=Tryz.isAgg327
 z233:=Tryz.sizeOf327
 v233:=Tryz.zeroValue327
 g17:=by kernel_rfl
 g18:=by kernel_rfl
 g19:=by kernel_rfl
 i0:=by kernel_rfl
 i2:=by kernel_rfl
 i3:=by kernel_rfl
 i4:=by kernel_rfl
 i5:=by kernel_rfl
 i9:=by kernel_rfl
 i20:=by kernel_rfl
 i37:=by kernel_rfl
 i46:=by kernel_rfl
 i51:=by kernel_rfl
 i53:=by kernel_rfl
 i171:=by kernel_rfl
 i173:=by kernel_rfl
 i212:=by kernel_rfl
 i232:=by kernel_rfl
 i233:=by kernel_rfl
 m17:=by kernel_rfl
 m18:=by kernel_rfl
 m19:=by kernel_rfl}
end
end Go.Proofs
namespace Go.Proofs.YtlnndmgfngfeiaaGreatDoor
section
open Go Go.Pv
def zM:C:=(ag [cl 4 0,bI 5 (.mov (.c (.junk)))] (ag [ad 6 0,cK 7 135 6] (ag [ad 8 0,ad 9 0,JT 10 9,aL 11 1 1 10,aN 12 1 11,ad 13 1,dm (.apps 14 5 (.t 12) (.t 13)),JT 15 8,aL 16 1 1 15,cI 1 16 14] (ag [ad 17 1,bI 18 (.slen (.t 17)),ad 4 18,bI 5 (.mov (.c (.junk)))] .ret))))
@[simp] def Ce:List cr:=[.tmp 4,.tmp 5]
def DK:C:=(ag [bI 2 (.mov (.c (.str [])))] (ag [ad 3 0,cK 4 136 3,ad 2 4] .ret))
@[simp] def RO:List cr:=[.tmp 2]
def DL:C:=(ag [dL 1 0,bI 2 (.mov (.c (.str [])))] (.seq (ag [bT 4 4 1,cK 5 77 4,e7 6 5] (bg 6 (ag [bI 2 (.mov (.c (.str [])))] .ret) .skip)) (ag [bI 7 (.build [.nilp,.slice 1 .nil []] []),dm (.box 8 (some 861) (.t 7)),ad 3 8] (ag [ad 9 3,bT 10 4 1,en 11 153 9 10] (ag [ad 12 3,⟨none,.opn (some 13) (.c (.func 66 [])) [.t 12]⟩,ad 2 13] .ret)))))
@[simp] def Ib:List cr:=[.tmp 2]
def DO:C:=(ag [bI 4 (.mov (.c (.str [])))] (ag [dm (.bslm 8 none 1 5 []),ad 5 8] (.seq (ag [ad 9 0,cw 10 9,cl 11 0] (jG 12 11 10 (.seq (.block 1 (ag [ad 13 11,dk 14 1 9 11,aN 15 1 14,ad 6 13,ad 7 15] (.seq (ag [ad 16 6,aZ 17 .gtr 16 0] (bg 17 (.region [ad 18 5,ad 19 1,dm (.apps 20 5 (.t 18) (.t 19)),ad 5 20]) .skip)) (.region [ad 21 5,ad 22 7,dm (.apps 23 5 (.t 21) (.t 22)),ad 5 23])))) (.region [aZ 24 .add 11 1,ad 11 24])))) (.seq (.pub 5 (.region [ad 25 5,bI 26 (.b2s (.t 25)),ad 4 26])) .ret))))
@[simp] def Ic:List cr:=[.tmp 4]
def nJ:C:=(ag [dL 3 1] (ag [aL 4 0 1 3,aN 5 1 4] (.block 0 (ag [aZ 7 .eql 5 0,ad 6 7] (bg 6 (.region [ad 8 0,⟨none,.call (some 9) (.c (.func 62 [])) [.t 8,(.c (.str [40,41]))]⟩]) (ag [aZ 11 .eql 5 1,ad 10 11] (bg 10 (.region [ad 12 0,aL 13 1 1 3,aN 14 1 13,cK 15 63 14,bI 16 (.bin .add false (.c (.str [63])) (.t 15)),en 17 62 12 16]) (ag [aZ 19 .eql 5 2,ad 18 19] (bg 18 (.region [ad 20 0,aL 21 2 1 3,aN 22 1 21,en 23 62 20 22]) (ag [aZ 25 .eql 5 3,ad 24 25] (bg 24 (.region [ad 26 0,aL 27 1 1 3,aN 28 1 27,cK 29 63 28,en 30 62 26 29]) (ag [aZ 32 .eql 5 4,ad 31 32] (bg 31 (ag [ad 33 0,⟨none,.call (some 34) (.c (.func 62 [])) [.t 33,(.c (.str [40]))]⟩] (ag [ad 35 0,aL 36 3 1 3,aN 37 1 36,jF 38 4 37 0,bT 39 4 38,en 40 153 35 39] (ag [aL 41 3 1 3,aN 42 1 41,jF 43 4 42 1,bT 44 4 43,cI 4 3 44] (.seq (.block 1 (.loop (.seq (ag [aL 45 0 1 3,aN 46 1 45,aZ 47 .eql 46 4] (bg 47 .skip (.exit 1))) (.block 2 (ag [ad 48 0,⟨none,.call (some 49) (.c (.func 62 [])) [.t 48,(.c (.str [32]))]⟩] (ag [ad 50 0,aL 51 3 1 3,aN 52 1 51,jF 53 4 52 0,bT 54 4 53,en 55 153 50 54] (.region [aL 56 3 1 3,aN 57 1 56,jF 58 4 57 1,bT 59 4 58,cI 4 3 59]))))))) (.seq (ag [aL 60 0 1 3,aN 61 1 60,aZ 62 .neq 61 0] (bg 62 (ag [ad 63 0,⟨none,.call (some 64) (.c (.func 62 [])) [.t 63,(.c (.str [32,46,32]))]⟩] (.region [ad 65 0,bT 66 4 3,en 67 153 65 66])) .skip)) (.region [ad 68 0,⟨none,.call (some 69) (.c (.func 62 [])) [.t 68,(.c (.str [41]))]⟩])))))) .skip)))))))))))))
@[simp] def kF:List cr:=[]
def uK:List (Nat×cR):=[
 (3,⟨1,8,.int .i64,.int .i64 0⟩),
 (5,⟨1,1,.int .u8,.int .u8 0⟩),
 (9,⟨1,16,.str,.str []⟩),
 (35,⟨1,24,.slice 5,.slice 1 .nil []⟩),
 (38,⟨1,24,.slice 40,.slice 4 .nil []⟩),
 (40,⟨4,56,.struct [(0,3),(1,3),(2,9),(3,38)],.agg [.int .i64 0,.int .i64 0,.str [],.slice 4 .nil []]⟩),
 (70,⟨1,24,.slice 9,.slice 1 .nil []⟩),
 (104,⟨1,8,.other,.nilp⟩),
 (106,⟨2,32,.struct [(0,104),(1,35)],.agg [.nilp,.slice 1 .nil []]⟩),
 (108,⟨1,16,.iface,.junk⟩)]
theorem lr:fm aF uK=true:=by kernel_rfl
theorem HW:cG uK zM Ce 2 Tryz.f62=true:=by kernel_rfl
theorem Ft:aF.funcs[(62:Nat)]? =some Tryz.f62:=Tryz.func62
theorem QO:cG uK DK RO 1 Tryz.f63=true:=by kernel_rfl
theorem Mv:aF.funcs[(63:Nat)]? =some Tryz.f63:=Tryz.func63
theorem QP:cG uK DL Ib 1 Tryz.f85=true:=by kernel_rfl
theorem Mw:aF.funcs[(85:Nat)]? =some Tryz.f85:=Tryz.func85
theorem QS:cG uK DO Ic 2 Tryz.f87=true:=by kernel_rfl
theorem Mz:aF.funcs[(87:Nat)]? =some Tryz.f87:=Tryz.func87
theorem pg:cG uK nJ kF 2 Tryz.f153=true:=by kernel_rfl
theorem oT:aF.funcs[(153:Nat)]? =some Tryz.f153:=Tryz.func153
def aI:ae:= .ptr (.obj 861) 0
def a7:dH:=⟨[(.obj 861,[.nilp,.slice 1 .nil []])],[]⟩
def oF:dH:=⟨[(.obj 861,[aI,.slice 1 .nil []])],[]⟩
def az(l:List bt):dH:=⟨[(.obj 861,[aI,.row 1 (.obj 862) l.length])],[(.obj 862,⟨l.length,5,1,some (e1 l)⟩)]⟩
theorem cT(S:aw->Prop)(l:List bt):aB S (e1 l):=by
 induction l with
 |nil=>simp[e1,aB]
 |cons x r bb=>simp only[e1,ez,aB,aH]at bb⊢;exact⟨trivial,bb⟩
theorem rJ:im a7:=by unfold a7;exact im.of ⟨by intro m;simp[Pv.look],by intro m;simp[Pv.look]⟩ (by simp[aB,aH]) Ψ
theorem JY:im oF:=by unfold oF;exact im.of ⟨by intro m;simp[Pv.look],by intro m;simp[Pv.look]⟩ (by simp[aB,aH,aI,aK,Pv.look]) Ψ
theorem hA(l:List bt):im (az l):=by unfold az;refine im.of ⟨by intro m;simp[Pv.look],by intro m;simp[Pv.look]⟩ (by simp[aB,aH,aI,aK,Pv.look]) ?_;intro x ab xs al;simp at ab;subst ab;simp at al;subst al;exact cT _ l
theorem Dh(l e2:List bt):lA (az l) (az e2):=⟨fun k=>by simp only[az,Pv.look];split<;>rfl,fun k=>by simp only[az,Pv.look];split<;>rfl⟩
theorem qv:(aF.info? 106).map (·.size)=some 2:=by kernel_rfl
theorem Qj:liesAt aF aF.depth 106 (2/aF.cellsOf 106) 0 106 1=true:=by kernel_rfl
set_option maxRecDepth 100000 in
theorem Lh(b:Nat)(w:World)(a1:w.cell? ⟨b,0,none⟩=some (.pointer (some ⟨b,0,none⟩))):
  Calls aF 135 #[.pointer (some ⟨b,0,none⟩)] w fun e w'=>e= .returned (.tuple #[])/\w'=w:=by
 obtain⟨j,ai,_⟩:=jZ.1 qv;go_enter Tryz.func135,Tryz.ntmps135;go_wp2;rw[Lib.run_neq_ptr_same w _ Tryz.underlying104 ai];go_wp2;go_end0;exact⟨rfl,rfl⟩
set_option maxRecDepth 100000 in
theorem Lg(b:Nat)(w:World)(a1:w.cell? ⟨b,0,none⟩=some (.pointer none))(fR:w.shape? b=some (106,2))(OM:w.frozen? ⟨b,0,none⟩=false):
  Calls aF 135 #[.pointer (some ⟨b,0,none⟩)] w fun e w'=>e= .returned (.tuple #[])/\w'=w.setCell ⟨b,0,none⟩ (.pointer (some ⟨b,0,none⟩)):=by
 obtain⟨j,ai,OU⟩:=jZ.1 qv;go_enter Tryz.func135,Tryz.ntmps135;go_wp2;rw[Lib.run_to_unsafe w ⟨b,0,none⟩ Tryz.underlying104 Tryz.underlying227 ai (by rw[OU];decide) fR (Nat.zero_lt_succ 1)];simp only[Result.andThen];rw[Oper.upon_value];go_wp2;rw[run_callFunc_extern Tryz.func191 (by kernel_rfl) (by kernel_rfl) (by kernel_rfl) (e:=YL) (by kernel_rfl)];rw[Lib.run_noEscape];simp only[Result.andThen];rw[Oper.upon_value];go_wp2;rw[Lib.run_from_unsafe w ⟨b,0,none⟩ Tryz.underlying227 Tryz.underlying104 ai fR Qj];simp only[Result.andThen];rw[Oper.upon_value];go_wp2;go_end0;exact⟨rfl,rfl⟩
theorem JL{vs:Array Value}(h:vs.size=1):vs= #[vs.getD 0 undef]:=by apply Array.ext (by simpa using h);intro i I J;simp at J;subst J;simp[Array.getD,h]
theorem NH:dP aF 135 [aI] a7 fun r aE=>r= .tuple []/\aE=oF:=by
 refine dP.sem rJ.obj fun w ν vs gl jR ao=>?_;refine .inl ⟨⟨Tryz.f135,Tryz.func135,by kernel_rfl,by kernel_rfl⟩,?_⟩;obtain⟨bl,us,el,aj,aR,bm,c1,gE⟩:=ao.good.box (.obj 861) _ (show Pv.look (.obj 861) a7.b=some [.nilp,.slice 1 .nil []]from rfl);have jN:=el.2 rfl;rw[mF (by rfl)]at c1;rw[lT (by rfl)]at gE;simp only[bW,aJ]at gE;obtain⟨h8,uN,I,⟨rfl,_⟩,hS,l3,rfl,⟨⟨_,aS,_⟩,_⟩,rfl⟩:=gE;obtain rfl:=aS trivial;have nj:us= #[.pointer none,.slice none 0 0]:=by rw[<-Array.toList_inj];simpa using I
 subst nj;have jQ:=ao.slot 0;simp only[iD,Pv.get,if_true,aI,aJ]at jQ;obtain⟨b,af,ba⟩:=jQ;rw[aj]at af;cases af;have p9:=JL (by simpa using jR);rw[ba]at p9;clear ba;subst p9;have fR:w.shape? bl=some (106,2):=by have:(106:Nat)=wR:=rfl;rw[this];simp[World.shape?,c1,jN]
 refine(Lg bl w (by simp[World.cell?,c1]) fR (by simp[World.frozen?,c1])).mono ?_;rintro e w' ⟨rfl,rfl⟩;have q2:=(ao.setBox (w':=w.setCell ⟨bl,0,none⟩ (.pointer (some ⟨bl,0,none⟩))) (cs':=[aI,.slice 1 .nil []]) (show Pv.look (.obj 861) a7.b=some [.nilp,.slice 1 .nil []]from rfl) aj (us:= #[.pointer (some ⟨bl,0,none⟩),.slice none 0 0]) (el:=el) rfl rfl rfl (fun j ai=>RowKit.Below.heap_setCell _ _ _ _ (fun e=>ai (by simp[e]))) (by simp[World.setCell])
  (by rw[mF (by rfl)];simp[World.setCell,Array.getElem?_modify,c1]) (by rw[lT (by rfl)];simp only[bW];exact⟨_,_,rfl,⟨by simp only[aI,aJ];exact⟨bl,aj,rfl⟩,rfl⟩,_,_,rfl,⟨by simp[aJ,maxLen,aX];exact⟨none,0,⟨rfl,rfl⟩,Ω⟩,rfl⟩,rfl⟩)).1
 refine⟨_,_,_,_,.tuple [],oF,rfl,q2,by simp[aJ,b4],by simp[a7,oF,fC,aK,Pv.look],by simp[a7,fC],?_,?_,JY.obj,by simp[aH,aB],rfl,rfl⟩
 ·refine dW ?_;simp[a7,oF,cx,Pv.look,aK,aB,aH,aI]
 ·refine dY ?_;simp[oF]
theorem NI(l:List bt):dP aF 135 [aI] (az l) fun r aE=>r= .tuple []/\aE=az l:=by
 refine dP.sem (hA l).obj fun w ν vs gl jR ao=>?_;refine .inl ⟨⟨Tryz.f135,Tryz.func135,by kernel_rfl,by kernel_rfl⟩,?_⟩;obtain⟨bl,us,el,aj,aR,bm,c1,gE⟩:=ao.good.box (.obj 861) _ (show Pv.look (.obj 861) (az l).b=some [aI,.row 1 (.obj 862) l.length]from rfl);rw[mF (by rfl)]at c1;rw[lT (by rfl)]at gE;simp only[bW,aJ,aI]at gE;obtain⟨h8,uN,I,⟨⟨bH,ks,rfl⟩,_⟩,hS,l3,rfl,_,rfl⟩:=gE;rw[aj]at ks;cases ks;have jQ:=ao.slot 0;simp only[iD,Pv.get,if_true,aI,aJ]at jQ;obtain⟨b,af,ba⟩:=jQ;rw[aj]at af;cases af;have p9:=JL (by simpa using jR);rw[ba]at p9;clear ba;subst p9;have a1:us[0]? =some (.pointer (some ⟨bl,0,none⟩)):=by rw[<-Array.getElem?_toList,I];rfl
 refine(Lh bl w (by simp[World.cell?,c1,a1])).mono ?_;rintro e w' ⟨rfl,rfl⟩;refine⟨_,_,_,_,.tuple [],az l,rfl,ao,by simp[aJ,b4],by simp[az,fC,aK,Pv.look],by simp[az,fC,aK,Pv.look],?_,?_,(hA l).obj,by simp[aH,aB],rfl,rfl⟩
 ·refine dW ?_;simp[az,Pv.look,aK,aB,aH,aI]
 ·intro k o aa;exact⟨aa,.inr (by simp[aa]),(hA l).ke k o aa⟩
theorem HH(l:List bt)(aA:l≠[]){ob:List aw}{st:a6}{d:bf Nat}{K:a6->Prop}(af:Pv.look (.obj 861) st.b=some [aI,.row 1 (.obj 862) l.length])(he:Pv.look (.obj 862) st.e=some ⟨l.length,5,1,some (e1 l)⟩)
  (cN:K ⟨eD d (.str l) st.t,st.b,ch [(aw.obj 862,(⟨l.length,5,1,some (e1 l)⟩:da))] st.e,st.n,st.o⟩):u3 aF ob 66 [aI] st d K:=by
 intro C a w ν vs VZ ao lf bj;refine .inl ⟨⟨Tryz.f66,Tryz.func66,by kernel_rfl,by kernel_rfl⟩,?_⟩;obtain⟨bl,us,el,aj,aR,bm,c1,gE⟩:=ao.good.box (.obj 861) _ af;have jN:=el.2 rfl;rw[mF (by rfl)]at c1;rw[lT (by rfl)]at gE;simp only[bW,aJ,aI]at gE;obtain⟨h8,uN,I,⟨⟨bH,ks,rfl⟩,_⟩,hS,l3,rfl,⟨⟨⟨g,cap,rfl⟩,ee,n',u,jW,iC,ln⟩,_⟩,rfl⟩:=gE;rw[aj]at ks;cases ks;obtain⟨v,cs,bK,b6,cH,dd⟩:=ao.good.own (.obj 862) _ he;rw[bK]at jW;simp only[dt,hz]at jW;obtain⟨rfl,rfl⟩:=jW;obtain rfl:=ln rfl;obtain⟨cz,iQ,om⟩:=dd _ rfl;obtain rfl:=Iw iQ;simp only at b6;rcases b6.2 with⟨h,_⟩|⟨du,tv,cur,al,_,aT,e5,er,nV,V6⟩
 ·cases h
 cases al;have nj:us= #[.pointer (some ⟨bl,0,none⟩),.slice (some ⟨g,0,none⟩) l.length cap]:=by rw[<-Array.toList_inj];simpa using I
 subst nj;simp only[aI,b4,aJ]at lf;obtain⟨nA,ws,bU,⟨bR,oX,rfl⟩,rfl⟩:=lf;rw[aj]at oX;cases oX;have p9:vs= #[.pointer (some ⟨bl,0,none⟩)]:=by rw[<-Array.toList_inj];simpa using bU
 rw[p9];have iZ:(Tryz.lays169_ren.t 72:Nat)=wR:=by kernel_rfl
 have GI:(Tryz.lays169_ren.t 5:Nat)=5:=by kernel_rfl
 have p7:l.length≠0:=by simpa using aA
 refine(Go.Proofs.Any.Builder_String_ex Tryz.lays169 Tryz.builderE bl l w aA _ g cap cur (by rw[iZ,<-jN];exact c1) (by rw[GI];exact b6) (by rw[GI];exact aT) e5 er nV).mono ?_;rintro e w' ⟨rfl,rfl⟩;obtain⟨w3,z2,z3,z4,z5⟩:=Ny w.drew ⟨g,0,none⟩ l.length;have o0:=ao.dropRow (w':=w.drew.freeze ⟨g,0,none⟩ l.length) he rfl bK rfl w3 z2 z3 z5 z4;exact⟨_,_,ν,rfl,cN,o0.put bj (by simp only[aJ];exact⟨trivial,ee⟩)⟩
theorem bF.sem{f:FuncId}{fn:Func}(av:aF.funcs[f]? =some fn)(af:fn.body.isSome=true)(aS:(fn.name== "runtime.NumGoroutine")=false){args:List ae}{r:ae}(ao:aH (fun _=>dz) r)
  (h:∀(w:World) (ν:aM) (vs:Array Value),k0 w ν->(∀b o,ν.A b o->b<w.heap.size)->b4 w ν args vs.toList->Calls aF f vs w fun e w'=> ∃v,e= .returned v/\(∀ν',(∀b o,ν.A b o->ν'.A b o)->aJ w' ν' r v)/\w.grownBy w' none):bF aF f args r:=by
 refine dP.sem sJ fun w ν vs gl jR mu=>?_;have lf:b4 w ν args vs.toList:=by
  have dS:args.length=vs.toList.length:=by simpa using jR.symm
  have:∀(l:List ae) (us:List Value),l.length=us.length->(∀i p,l[i]? =some p->aJ w ν p (us.getD i undef))->b4 w ν l us:=by
   intro l;induction l with
   |nil=>intro us h _;cases us<;>simp at h⊢;simp[b4]
   |cons p l bb=>
    intro us h aq;cases us with
    |nil=>simp at h
    |cons u us=>simp only[b4];exact⟨u,us,rfl,by simpa using aq 0 p rfl,bb us (by simpa using h) fun i q bP=>by simpa using aq (i+1) q (by simpa using bP)⟩
  refine this _ _ dS fun i p bB=>?_;have al:=mu.slot i;have aq:=(dw.1 bB).1;rw[xK,if_pos Ω]at al;have:args.getD i .junk=p:=by simp[List.getD,bB]
  simp only[Nat.sub_zero,this]at al;simpa[Array.getD_eq_getD_getElem?]using al
 refine .inl ⟨⟨fn,av,af,aS⟩,(h w ν vs gl mu.good.alt lf).mono ?_⟩;rintro e w' ⟨v,rfl,ba,aT⟩;exact⟨v,_,_,ν,r,⟨[],[]⟩,rfl,mu.grown aT,ba ν fun _ _ h=>h,trivial,trivial,fun k cs aa=>by simp[Pv.look]at aa,fun k cs aa=>by simp[Pv.look]at aa,sJ,sD (fun _ h=>h.elim) _ ao,rfl,rfl⟩
theorem GU{n:Int}(h:bs n):(br n).length<=aX:=by unfold bs at h;have:=Lib.itoa_length_le n Ω Ω;unfold aX;omega
theorem N7(w:World)(k:Nat)(os:Array Obj):w.grownBy (Sort.grow (w.drewN k) os) none:=⟨rfl,rfl,rfl,Ψ,fun j ai _=>Sort.heap_grow_old _ _ ai⟩
theorem FP(i:Nat)(aq:i<20):(0,i,20,fun v=>v=kY .u64 ((10 ^ i:Nat):Int))∈tG:=by unfold tG;exact nE _ (List.mem_map.2 ⟨i,List.mem_range.2 aq,rfl⟩)
theorem Tf{w:World}{ν:aM}(h:k0 w ν):Lib.TabIs aF w "internal/strconv.uint64pow10" .u64 Lib.pow10Tab:=by
 have aT:aF.globalNamed "internal/strconv.uint64pow10" =some 0:=by kernel_rfl
 obtain⟨_,_,el,fR⟩:=h _ (FP 0 Ω);unfold Lib.TabIs;simp only[World.var?,aT,Option.bind_some];unfold Pv.shape at fR;simp only at fR;split at fR
 ·rename_i cur dU fz hw;rw[hw];simp only[dt,hz]at fR;simp only[dt];apply Array.ext
  ·simp[fR.1,Lib.pow10Tab]
  ·intro i I J;obtain⟨_,⟨v,ba,bB⟩,_⟩:=h _ (FP i Ω);simp only at ba bB;subst bB;have aQ:cur[i]? =some (kY .u64 ((10 ^ i:Nat):Int)):=by simpa[World.cell?,hw]using ba
   rw[Array.getElem?_eq_getElem I]at aQ;rw[fo aQ];simp[Lib.pow10Tab]
 ·cases fR
theorem Tt(n:Int)(h:bs n):bF aF 136 [.int .i64 n] (.str (br n)):=by
 refine bF.sem Tryz.func136 (by kernel_rfl) (by kernel_rfl) (by simp[aH]) fun w ν vs gl aY lf=>?_;simp only[b4,aJ]at lf;obtain⟨v,us,bU,rfl,rfl⟩:=lf;have jR:vs= #[.int .i64 n]:=by rw[<-Array.toList_inj];simpa using bU
 subst jR;unfold bs at h;refine(Any.strconv_Itoa Tryz.laysM171 n Ω Ω w (Tf gl)).mono ?_;rintro e w' ⟨rfl,k,os,rfl⟩;exact⟨_,rfl,fun ν' _=>by simp only[aJ];exact⟨trivial,GU (by unfold bs;omega)⟩,N7 w k os⟩
theorem JX:lA a7 oF:=⟨fun k=>by simp only[a7,oF,Pv.look];split<;>rfl,fun k=>rfl⟩
theorem cL.two{P:bM}{n:Nat}{args:List ae}{st:a6}{d:bf Nat}{K:a6->Prop}{s:dH}{Q:ae->dH->Prop}(av:dP P n args s Q)(al:im s)(af:∀k cs,Pv.look k s.b=some cs->Pv.look k st.b=some cs)(he:∀k o,Pv.look k s.e=some o->Pv.look k st.e=some o)
  (aa:aB (aK s) args) (h:∀r aE,Q r aE->((∀m,(Pv.look (.obj m) aE.b).isSome->(Pv.look (.obj m) s.b).isSome\/ .obj m∉st.o)/\(∀m,(Pv.look (.obj m) aE.e).isSome->(Pv.look (.obj m) s.e).isSome\/ .obj m∉st.o))/\K ⟨eD d r st.t,ch s.b st.b++aE.b,ch s.e st.e++aE.e,st.n,st.o++fs aE⟩):cL P n args st d K:=
 .inl ⟨s,Q,fun k cs aQ=>⟨af k cs aQ,.inl (by simp[aQ]),al.kb k cs aQ⟩,fun k o ah=>⟨he k o ah,.inr (by simp[ah]),al.ke k o ah⟩,al.obj,aa,av,fun r aE bP=>h r aE bP⟩
theorem rT(a b:List bt):e1 (a++b)=e1 a++e1 b:=by simp[e1]
theorem NF(t:List bt)(aG:t≠[])(aA:t.length<=aX):dP aF 62 [aI,.str t] a7 fun r aE=>r= .tuple [.int .i64 t.length,.junk]/\aE=az t:=by have al:=rJ;simp only[a7]at al⊢;refine dP.mk mixed lr Ft HW Ψ al.obj fun aO gw=>?_;unfold zM;simp[aI];refine cL.ob NH rJ (by simp only[a7];exact bk) (by simp only[a7];exact bk) (by simp[aK,Pv.look,a7,aI,aB,aH]) ?_;rintro r aE ⟨rfl,rfl⟩;refine⟨JX,?_⟩;simp[ch,a7,oF,aI,aG,aA];refine fD.new (az t) (.inl rfl) (hA t) (by simp[fC,az,aK,Pv.look]) (by simp only[az,aI];exact bk) (by simp only[az,aI];exact bk) ?_;simp[hb,Ce,bp,bz,bo,az,aI,aK,Pv.look,aH,aB]
theorem NG(l t:List bt)(aA:(l++t).length<=aX):dP aF 62 [aI,.str t] (az l) fun r aE=>r= .tuple [.int .i64 t.length,.junk]/\aE=az (l++t):=by
 have al:=hA l;have n1:l.length+t.length<=aX:=by simpa using aA
 have dQ:(e1 l).length=l.length:=by simp[e1]
 simp only[az]at al⊢;refine dP.mk mixed lr Ft HW Ψ al.obj fun aO gw=>?_;unfold zM;simp[aI];refine cL.ob (NI l) (hA l) (by simp only[az,aI];exact bk) (by simp only[az,aI];exact bk) (by simp[aK,Pv.look,az,aI,aB,aH]) ?_;rintro r aE ⟨rfl,rfl⟩;refine⟨lA.refl _,?_⟩;simp[ch,az,aI,n1,dQ];refine fD.at (az (l++t)) (.inl rfl) (hA _) (Dh l (l++t)) (by simp only[az,aI];exact bk) (by simp only[az,aI,rT];exact bk) ?_;simp[hb,Ce,bp,bz,bo,az,aI,aK,Pv.look,aH,aB]
theorem mN(n:Int)(h:bs n):bF aF 63 [.int .i64 n] (.str (br n)):=by have k:=Tt n h;refine bq lr Mv QO fun aO=>?_;unfold DK;exact bY
def a8:bf (List bt)->dH
 |none=>a7
 |some l=>az l
theorem Di:∀o,im (a8 o)
 |none=>rJ
 |some l=>hA l
theorem cL.bd{P:bM}{n:Nat}{args:List ae}{st:a6}{d:bf Nat}{K:a6->Prop}{o:bf (List bt)}{r:ae}{e2:List bt}(av:dP P n args (a8 o) fun fK aE=>fK=r/\aE=az e2)(af:∀k cs,Pv.look k (a8 o).b=some cs->Pv.look k st.b=some cs)(he:∀k p,Pv.look k (a8 o).e=some p->Pv.look k st.e=some p)
  (aa:aB (aK (a8 o)) args) (aS:o=none->aw.obj 862∉st.o) (h:K ⟨eD d r st.t,ch (a8 o).b st.b++(az e2).b,ch (a8 o).e st.e++(az e2).e,st.n,st.o++[.obj 861,.obj 862]⟩):cL P n args st d K:=by
 refine cL.two av (Di o) af he aa ?_;rintro fK aE ⟨rfl,rfl⟩;refine⟨⟨fun m hm=>.inl ?_,fun m hm=>?_⟩,h⟩
 ·simp only[az,Pv.look]at hm;split at hm
  ·rename_i e;rw[<-e];cases o<;>simp[a8,a7,az,Pv.look]
  ·cases hm
 ·simp only[az,Pv.look]at hm;split at hm
  ·rename_i e;rw[<-e];cases o with
   |none=>exact .inr (aS rfl)
   |some l=>exact .inl (by simp[a8,az,Pv.look])
  ·cases hm
theorem fj(o:bf (List bt))(t:List bt)(aG:o=none->t≠[])(aA:(o.getD []++t).length<=aX):dP aF 62 [aI,.str t] (a8 o) fun r aE=>r= .tuple [.int .i64 t.length,.junk]/\aE=az (o.getD []++t):=by
 cases o with
 |none=>exact NF t (aG rfl) (by simpa using aA)
 |some l=>exact NG l t aA
theorem o9(n:Int):br n≠[]:=by
 unfold br;split
 ·simp
 ·exact EX _
def kJ(l:List bt)(u:T):a6:=⟨[(0,.ptr (.obj 861) 0),(3,.ptr (.loc 0) 0)],(az l).b++[(.loc 0,cells u.e)],(az l).e,1,[.obj 861,.obj 862]⟩
theorem NQ(n:Nat):∀t:T,t.size<=n->t.ok=true->∀o:bf (List bt),(o.getD []++bZ t).length<=aX->dP aF 153 [aI,t.e] (a8 o) fun r aE=>r= .tuple []/\aE=az (o.getD []++bZ t):=by
 induction n with
 |zero=>intro t h;have:=t.size_pos;omega
 |succ n bb=>
  intro t aS fw o aA;have al:=Di o;have dI:(40:bt)=40:=rfl;cases t with
  |nil=>
   clear bb;simp only[bZ]at aA⊢;cases o with
   |none=>simp only[a8,a7,az,Option.getD]at al aA⊢;refine dP.mk mixed lr oT pg Ψ al.obj fun aO gw=>?_;unfold nJ;clear aO gw;simp[aI];(with_reducible repeat' first|refine aP ?_|simp);refine cL.bd (o:=_) (fj (none) ([40,41]) (by simp[o9,dI]) aA) (by simp only[a8,a7,az,aI];exact bk) (by simp only[a8,a7,az,aI];exact bk) (by simp[aK,Pv.look,a8,a7,az,aI,aB,aH]) Ψ ?_;simp[ch,a8,a7,az,aI];refine fD.new (az ([]++([40,41]))) Ψ (hA _) (by simp[fC,az,aK,Pv.look]) (by simp only[az,aI];exact bk) (by simp only[az,aI];exact bk) ?_;simp[hb,kF,bp,bz,bo,az,aI,aK,Pv.look,aH,aB]
   |some l=>simp only[a8,a7,az,Option.getD]at al aA⊢;refine dP.mk mixed lr oT pg Ψ al.obj fun aO gw=>?_;unfold nJ;clear aO gw;simp[aI];(with_reducible repeat' first|refine aP ?_|simp);refine cL.bd (o:=_) (fj (some l) ([40,41]) (by simp[o9,dI]) aA) (by simp only[a8,a7,az,aI];exact bk) (by simp only[a8,a7,az,aI];exact bk) (by simp[aK,Pv.look,a8,a7,az,aI,aB,aH]) Ψ ?_;simp[ch,a8,a7,az,aI];refine fD.new (az (l++([40,41]))) Ψ (hA _) (by simp[fC,az,aK,Pv.look]) (by simp only[az,aI];exact bk) (by simp only[az,aI];exact bk) ?_;simp[hb,kF,bp,bz,bo,az,aI,aK,Pv.look,aH,aB]
  |var v=>
   clear bb;have ld:bs v:=by simp[T.ok]at fw;unfold bs;omega
   have fq:=mN v ld;have jO:=GU ld;have Gi:(br v).length+1<=aX:=by have:=Lib.itoa_length_le v (by unfold bs at ld;omega) (by unfold bs at ld;omega);unfold aX;omega
   simp only[bZ]at aA⊢;cases o with
   |none=>simp only[a8,a7,az,Option.getD]at al aA⊢;refine dP.mk mixed lr oT pg Ψ al.obj fun aO gw=>?_;unfold nJ;clear aO gw;simp[aI];(with_reducible repeat' first|refine aP ?_|refine aC fq ?_|refine aD fq ?_|simp[Gi]);refine cL.bd (o:=_) (fj (none) (63::br v) (by simp[o9,dI]) aA) (by simp only[a8,a7,az,aI];exact bk) (by simp only[a8,a7,az,aI];exact bk) (by simp[aK,Pv.look,a8,a7,az,aI,aB,aH]) Ψ ?_;simp[ch,a8,a7,az,aI];refine fD.new (az ([]++(63::br v))) Ψ (hA _) (by simp[fC,az,aK,Pv.look]) (by simp only[az,aI];exact bk) (by simp only[az,aI];exact bk) ?_;simp[hb,kF,bp,bz,bo,az,aI,aK,Pv.look,aH,aB]
   |some l=>simp only[a8,a7,az,Option.getD]at al aA⊢;refine dP.mk mixed lr oT pg Ψ al.obj fun aO gw=>?_;unfold nJ;clear aO gw;simp[aI];(with_reducible repeat' first|refine aP ?_|refine aC fq ?_|refine aD fq ?_|simp[Gi]);refine cL.bd (o:=_) (fj (some l) (63::br v) (by simp[o9,dI]) aA) (by simp only[a8,a7,az,aI];exact bk) (by simp only[a8,a7,az,aI];exact bk) (by simp[aK,Pv.look,a8,a7,az,aI,aB,aH]) Ψ ?_;simp[ch,a8,a7,az,aI];refine fD.new (az (l++(63::br v))) Ψ (hA _) (by simp[fC,az,aK,Pv.look]) (by simp only[az,aI];exact bk) (by simp only[az,aI];exact bk) ?_;simp[hb,kF,bp,bz,bo,az,aI,aK,Pv.look,aH,aB]
  |sym s=>
   clear bb;have dI:s≠[]:=HF (by simpa[T.ok]using fw);simp only[bZ]at aA⊢;cases o with
   |none=>simp only[a8,a7,az,Option.getD]at al aA⊢;refine dP.mk mixed lr oT pg Ψ al.obj fun aO gw=>?_;unfold nJ;clear aO gw;simp[aI];(with_reducible repeat' first|refine aP ?_|simp);refine cL.bd (o:=_) (fj (none) (s) (by simp[o9,dI]) aA) (by simp only[a8,a7,az,aI];exact bk) (by simp only[a8,a7,az,aI];exact bk) (by simp[aK,Pv.look,a8,a7,az,aI,aB,aH]) Ψ ?_;simp[ch,a8,a7,az,aI];refine fD.new (az ([]++(s))) Ψ (hA _) (by simp[fC,az,aK,Pv.look]) (by simp only[az,aI];exact bk) (by simp only[az,aI];exact bk) ?_;simp[hb,kF,bp,bz,bo,az,aI,aK,Pv.look,aH,aB]
   |some l=>simp only[a8,a7,az,Option.getD]at al aA⊢;refine dP.mk mixed lr oT pg Ψ al.obj fun aO gw=>?_;unfold nJ;clear aO gw;simp[aI];(with_reducible repeat' first|refine aP ?_|simp);refine cL.bd (o:=_) (fj (some l) (s) (by simp[o9,dI]) aA) (by simp only[a8,a7,az,aI];exact bk) (by simp only[a8,a7,az,aI];exact bk) (by simp[aK,Pv.look,a8,a7,az,aI,aB,aH]) Ψ ?_;simp[ch,a8,a7,az,aI];refine fD.new (az (l++(s))) Ψ (hA _) (by simp[fC,az,aK,Pv.look]) (by simp only[az,aI];exact bk) (by simp only[az,aI];exact bk) ?_;simp[hb,kF,bp,bz,bo,az,aI,aK,Pv.look,aH,aB]
  |num v=>
   clear bb;have ld:bs v:=by simp[T.ok]at fw;unfold bs;omega
   have fq:=mN v ld;simp only[bZ]at aA⊢;cases o with
   |none=>simp only[a8,a7,az,Option.getD]at al aA⊢;refine dP.mk mixed lr oT pg Ψ al.obj fun aO gw=>?_;unfold nJ;clear aO gw;simp[aI];(with_reducible repeat' first|refine aP ?_|refine aC fq ?_|refine aD fq ?_|simp);refine cL.bd (o:=_) (fj (none) (br v) (by simp[o9,dI]) aA) (by simp only[a8,a7,az,aI];exact bk) (by simp only[a8,a7,az,aI];exact bk) (by simp[aK,Pv.look,a8,a7,az,aI,aB,aH]) Ψ ?_;simp[ch,a8,a7,az,aI];refine fD.new (az ([]++(br v))) Ψ (hA _) (by simp[fC,az,aK,Pv.look]) (by simp only[az,aI];exact bk) (by simp only[az,aI];exact bk) ?_;simp[hb,kF,bp,bz,bo,az,aI,aK,Pv.look,aH,aB]
   |some l=>simp only[a8,a7,az,Option.getD]at al aA⊢;refine dP.mk mixed lr oT pg Ψ al.obj fun aO gw=>?_;unfold nJ;clear aO gw;simp[aI];(with_reducible repeat' first|refine aP ?_|refine aC fq ?_|refine aD fq ?_|simp);refine cL.bd (o:=_) (fj (some l) (br v) (by simp[o9,dI]) aA) (by simp only[a8,a7,az,aI];exact bk) (by simp only[a8,a7,az,aI];exact bk) (by simp[aK,Pv.look,a8,a7,az,aI,aB,aH]) Ψ ?_;simp[ch,a8,a7,az,aI];refine fD.new (az (l++(br v))) Ψ (hA _) (by simp[fC,az,aK,Pv.look]) (by simp only[az,aI];exact bk) (by simp only[az,aI];exact bk) ?_;simp[hb,kF,bp,bz,bo,az,aI,aK,Pv.look,aH,aB]
  |pair a b=>
   simp only[T.size]at aS;simp only[T.ok,bE]at fw;have x4:=bb a Ω fw.1;have mo:(o.getD []).length+(1+((bZ a).length+(ec b).length))<=aX:=by simpa[bZ,Nat.add_comm 1]using aA
   simp only[bZ]at aA⊢;obtain⟨zn,cC⟩:∃zn,zn=o.getD []++40::(bZ a++ec b):=⟨_,rfl⟩;rw[<-cC]at aA⊢;have dR:=b.size_pos;cases o with
   |none=>
    have kw:=fj none [40] Ψ (by unfold aX;simp);have qd:=x4 (some [40]) (by simp at mo⊢;omega);simp only[a8,a7,az,Option.getD]at al⊢;refine dP.mk mixed lr oT pg Ψ al.obj fun aO gw=>?_;unfold nJ;clear aO gw;simp[aI];(with_reducible repeat' first|refine aP ?_|simp);refine cL.bd (o:=_) (kw) (by simp only[a8,a7,az,aI];exact bk) (by simp only[a8,a7,az,aI];exact bk) (by simp[aK,Pv.look,a8,a7,az,aI,aB,aH]) Ψ ?_;simp[ch,a8,a7,az,aI];(with_reducible repeat' first|refine aP ?_|simp);refine cL.bd (o:=_) (qd) (by simp only[a8,a7,az,aI];exact bk) (by simp only[a8,a7,az,aI];exact bk) (by simp[aK,Pv.look,a8,a7,az,aI,aB,aH]) Ψ ?_;simp[ch,a8,a7,az,aI];(with_reducible repeat' first|refine aP ?_|simp);refine pR (fun x:T×List bt=>kJ x.2 x.1) (fun x=>x.1.size) (fun x=>x.1.ok=true/\x.1.size<=n/\x.2++ec x.1=zn) (b,[]++40::bZ a) (by simp[kJ,az,aI];exact⟨by simp[fresh,aB,aH,bV,aK,Pv.look,cT],dW (by simp[fresh,aB,aH,bV,aK,Pv.look,cT]),dY (by simp[fresh,aB,aH,dJ,aK,Pv.look,cT]),Ψ⟩) ⟨fw.2,(by show b.size<=n;omega),by rw[cC];simp⟩ ?_;rintro⟨u,acc⟩ ⟨lh,n9,vX⟩ tM;clear tM kw qd x4 cC mo;simp only at lh n9 vX;subst vX;cases u with
    |pair x y=>
     simp only[T.size]at n9;simp only[T.ok,bE]at lh;have et:acc.length+(1+((bZ x).length+(ec y).length))<=aX:=by simpa[ec,Nat.add_comm 1]using aA
     have kw:=fj (some acc) [32] Ψ (by simp;omega);have dD:=bb x Ω lh.1 (some (acc++[32])) (by simp;omega);simp[kJ,az,aI];(with_reducible repeat' first|refine aP ?_|simp);refine cL.bd (o:=_) (kw) (by simp only[a8,a7,az,aI];exact bk) (by simp only[a8,a7,az,aI];exact bk) (by simp[aK,Pv.look,a8,a7,az,aI,aB,aH]) Ψ ?_;simp[ch,a8,a7,az,aI];(with_reducible repeat' first|refine aP ?_|simp);refine cL.bd (o:=_) (dD) (by simp only[a8,a7,az,aI];exact bk) (by simp only[a8,a7,az,aI];exact bk) (by simp[aK,Pv.look,a8,a7,az,aI,aB,aH]) Ψ ?_;simp[ch,a8,a7,az,aI];(with_reducible repeat' first|refine aP ?_|simp);refine cj.whl (y,acc++32::bZ x) (by show y.size<1+x.size+y.size;omega) ⟨lh.2,(by show y.size<=n;omega),by simp[ec]⟩ ?_;simp[kJ,az,aI];exact⟨by simp[fresh,aB,aH,bV,aK,Pv.look,cT],dW (by simp[fresh,aB,aH,bV,aK,Pv.look,cT]),dY (by simp[fresh,aB,aH,dJ,aK,Pv.look,cT]),Ψ⟩
    |nil=>have kw:=fj (some acc) [41] Ψ (by simpa[ec]using aA);simp only[ec];simp[kJ,az,aI];(with_reducible repeat' first|refine aP ?_|simp);refine cL.bd (o:=_) (kw) (by simp only[a8,a7,az,aI];exact bk) (by simp only[a8,a7,az,aI];exact bk) (by simp[aK,Pv.look,a8,a7,az,aI,aB,aH]) Ψ ?_;simp[ch,a8,a7,az,aI];refine fD.new (az (acc++[41])) Ψ (hA _) (by simp[fC,az,aK,Pv.look]) (by simp only[az,aI];exact bk) (by simp only[az,aI];exact bk) ?_;simp[hb,kF,bp,bz,bo,az,aI,aK,Pv.look,aH,aB]
    |var v=>
     have et:acc.length+(3+((bZ (T.var v)).length+1))<=aX:=by simp[ec,bZ]at aA⊢;omega
     have kw:=fj (some acc) [32,46,32] Ψ (by simp;omega);have dD:=bb (T.var v) n9 lh (some (acc++[32,46,32])) (by simp;omega);have eG:=fj (some (acc++[32,46,32]++bZ (T.var v))) [41] Ψ (by simp;omega);have he:acc++ec (T.var v)=acc++[32,46,32]++bZ (T.var v)++[41]:=by simp[ec,bZ]
     rw[he];simp[kJ,az,aI];(with_reducible repeat' first|refine aP ?_|simp);refine cL.bd (o:=_) (kw) (by simp only[a8,a7,az,aI];exact bk) (by simp only[a8,a7,az,aI];exact bk) (by simp[aK,Pv.look,a8,a7,az,aI,aB,aH]) Ψ ?_;simp[ch,a8,a7,az,aI];(with_reducible repeat' first|refine aP ?_|simp);refine cL.bd (o:=_) (dD) (by simp only[a8,a7,az,aI];exact bk) (by simp only[a8,a7,az,aI];exact bk) (by simp[aK,Pv.look,a8,a7,az,aI,aB,aH]) Ψ ?_;simp[ch,a8,a7,az,aI];(with_reducible repeat' first|refine aP ?_|simp);refine cL.bd (o:=_) (eG) (by simp only[a8,a7,az,aI];exact bk) (by simp only[a8,a7,az,aI];exact bk) (by simp[aK,Pv.look,a8,a7,az,aI,aB,aH]) Ψ ?_;simp[ch,a8,a7,az,aI];refine fD.new (az (acc++[32,46,32]++bZ (T.var v)++[41])) Ψ (hA _) (by simp[fC,az,aK,Pv.look]) (by simp only[az,aI];exact bk) (by simp only[az,aI];exact bk) ?_;simp[hb,kF,bp,bz,bo,az,aI,aK,Pv.look,aH,aB]
    |sym v=>
     have et:acc.length+(3+((bZ (T.sym v)).length+1))<=aX:=by simp[ec,bZ]at aA⊢;omega
     have kw:=fj (some acc) [32,46,32] Ψ (by simp;omega);have dD:=bb (T.sym v) n9 lh (some (acc++[32,46,32])) (by simp;omega);have eG:=fj (some (acc++[32,46,32]++bZ (T.sym v))) [41] Ψ (by simp;omega);have he:acc++ec (T.sym v)=acc++[32,46,32]++bZ (T.sym v)++[41]:=by simp[ec,bZ]
     rw[he];simp[kJ,az,aI];(with_reducible repeat' first|refine aP ?_|simp);refine cL.bd (o:=_) (kw) (by simp only[a8,a7,az,aI];exact bk) (by simp only[a8,a7,az,aI];exact bk) (by simp[aK,Pv.look,a8,a7,az,aI,aB,aH]) Ψ ?_;simp[ch,a8,a7,az,aI];(with_reducible repeat' first|refine aP ?_|simp);refine cL.bd (o:=_) (dD) (by simp only[a8,a7,az,aI];exact bk) (by simp only[a8,a7,az,aI];exact bk) (by simp[aK,Pv.look,a8,a7,az,aI,aB,aH]) Ψ ?_;simp[ch,a8,a7,az,aI];(with_reducible repeat' first|refine aP ?_|simp);refine cL.bd (o:=_) (eG) (by simp only[a8,a7,az,aI];exact bk) (by simp only[a8,a7,az,aI];exact bk) (by simp[aK,Pv.look,a8,a7,az,aI,aB,aH]) Ψ ?_;simp[ch,a8,a7,az,aI];refine fD.new (az (acc++[32,46,32]++bZ (T.sym v)++[41])) Ψ (hA _) (by simp[fC,az,aK,Pv.look]) (by simp only[az,aI];exact bk) (by simp only[az,aI];exact bk) ?_;simp[hb,kF,bp,bz,bo,az,aI,aK,Pv.look,aH,aB]
    |num v=>
     have et:acc.length+(3+((bZ (T.num v)).length+1))<=aX:=by simp[ec,bZ]at aA⊢;omega
     have kw:=fj (some acc) [32,46,32] Ψ (by simp;omega);have dD:=bb (T.num v) n9 lh (some (acc++[32,46,32])) (by simp;omega);have eG:=fj (some (acc++[32,46,32]++bZ (T.num v))) [41] Ψ (by simp;omega);have he:acc++ec (T.num v)=acc++[32,46,32]++bZ (T.num v)++[41]:=by simp[ec,bZ]
     rw[he];simp[kJ,az,aI];(with_reducible repeat' first|refine aP ?_|simp);refine cL.bd (o:=_) (kw) (by simp only[a8,a7,az,aI];exact bk) (by simp only[a8,a7,az,aI];exact bk) (by simp[aK,Pv.look,a8,a7,az,aI,aB,aH]) Ψ ?_;simp[ch,a8,a7,az,aI];(with_reducible repeat' first|refine aP ?_|simp);refine cL.bd (o:=_) (dD) (by simp only[a8,a7,az,aI];exact bk) (by simp only[a8,a7,az,aI];exact bk) (by simp[aK,Pv.look,a8,a7,az,aI,aB,aH]) Ψ ?_;simp[ch,a8,a7,az,aI];(with_reducible repeat' first|refine aP ?_|simp);refine cL.bd (o:=_) (eG) (by simp only[a8,a7,az,aI];exact bk) (by simp only[a8,a7,az,aI];exact bk) (by simp[aK,Pv.look,a8,a7,az,aI,aB,aH]) Ψ ?_;simp[ch,a8,a7,az,aI];refine fD.new (az (acc++[32,46,32]++bZ (T.num v)++[41])) Ψ (hA _) (by simp[fC,az,aK,Pv.look]) (by simp only[az,aI];exact bk) (by simp only[az,aI];exact bk) ?_;simp[hb,kF,bp,bz,bo,az,aI,aK,Pv.look,aH,aB]
   |some l=>
    have kw:=fj (some l) [40] Ψ (by simp at mo⊢;omega);have qd:=x4 (some (l++[40])) (by simp at mo⊢;omega);simp only[a8,a7,az,Option.getD]at al⊢;refine dP.mk mixed lr oT pg Ψ al.obj fun aO gw=>?_;unfold nJ;clear aO gw;simp[aI];(with_reducible repeat' first|refine aP ?_|simp);refine cL.bd (o:=_) (kw) (by simp only[a8,a7,az,aI];exact bk) (by simp only[a8,a7,az,aI];exact bk) (by simp[aK,Pv.look,a8,a7,az,aI,aB,aH]) Ψ ?_;simp[ch,a8,a7,az,aI];(with_reducible repeat' first|refine aP ?_|simp);refine cL.bd (o:=_) (qd) (by simp only[a8,a7,az,aI];exact bk) (by simp only[a8,a7,az,aI];exact bk) (by simp[aK,Pv.look,a8,a7,az,aI,aB,aH]) Ψ ?_;simp[ch,a8,a7,az,aI];(with_reducible repeat' first|refine aP ?_|simp);refine pR (fun x:T×List bt=>kJ x.2 x.1) (fun x=>x.1.size) (fun x=>x.1.ok=true/\x.1.size<=n/\x.2++ec x.1=zn) (b,l++40::bZ a) (by simp[kJ,az,aI];exact⟨by simp[fresh,aB,aH,bV,aK,Pv.look,cT],dW (by simp[fresh,aB,aH,bV,aK,Pv.look,cT]),dY (by simp[fresh,aB,aH,dJ,aK,Pv.look,cT]),Ψ⟩) ⟨fw.2,(by show b.size<=n;omega),by rw[cC];simp⟩ ?_;rintro⟨u,acc⟩ ⟨lh,n9,vX⟩ tM;clear tM kw qd x4 cC mo;simp only at lh n9 vX;subst vX;cases u with
    |pair x y=>
     simp only[T.size]at n9;simp only[T.ok,bE]at lh;have et:acc.length+(1+((bZ x).length+(ec y).length))<=aX:=by simpa[ec,Nat.add_comm 1]using aA
     have kw:=fj (some acc) [32] Ψ (by simp;omega);have dD:=bb x Ω lh.1 (some (acc++[32])) (by simp;omega);simp[kJ,az,aI];(with_reducible repeat' first|refine aP ?_|simp);refine cL.bd (o:=_) (kw) (by simp only[a8,a7,az,aI];exact bk) (by simp only[a8,a7,az,aI];exact bk) (by simp[aK,Pv.look,a8,a7,az,aI,aB,aH]) Ψ ?_;simp[ch,a8,a7,az,aI];(with_reducible repeat' first|refine aP ?_|simp);refine cL.bd (o:=_) (dD) (by simp only[a8,a7,az,aI];exact bk) (by simp only[a8,a7,az,aI];exact bk) (by simp[aK,Pv.look,a8,a7,az,aI,aB,aH]) Ψ ?_;simp[ch,a8,a7,az,aI];(with_reducible repeat' first|refine aP ?_|simp);refine cj.whl (y,acc++32::bZ x) (by show y.size<1+x.size+y.size;omega) ⟨lh.2,(by show y.size<=n;omega),by simp[ec]⟩ ?_;simp[kJ,az,aI];exact⟨by simp[fresh,aB,aH,bV,aK,Pv.look,cT],dW (by simp[fresh,aB,aH,bV,aK,Pv.look,cT]),dY (by simp[fresh,aB,aH,dJ,aK,Pv.look,cT]),Ψ⟩
    |nil=>have kw:=fj (some acc) [41] Ψ (by simpa[ec]using aA);simp only[ec];simp[kJ,az,aI];(with_reducible repeat' first|refine aP ?_|simp);refine cL.bd (o:=_) (kw) (by simp only[a8,a7,az,aI];exact bk) (by simp only[a8,a7,az,aI];exact bk) (by simp[aK,Pv.look,a8,a7,az,aI,aB,aH]) Ψ ?_;simp[ch,a8,a7,az,aI];refine fD.new (az (acc++[41])) Ψ (hA _) (by simp[fC,az,aK,Pv.look]) (by simp only[az,aI];exact bk) (by simp only[az,aI];exact bk) ?_;simp[hb,kF,bp,bz,bo,az,aI,aK,Pv.look,aH,aB]
    |var v=>
     have et:acc.length+(3+((bZ (T.var v)).length+1))<=aX:=by simp[ec,bZ]at aA⊢;omega
     have kw:=fj (some acc) [32,46,32] Ψ (by simp;omega);have dD:=bb (T.var v) n9 lh (some (acc++[32,46,32])) (by simp;omega);have eG:=fj (some (acc++[32,46,32]++bZ (T.var v))) [41] Ψ (by simp;omega);have he:acc++ec (T.var v)=acc++[32,46,32]++bZ (T.var v)++[41]:=by simp[ec,bZ]
     rw[he];simp[kJ,az,aI];(with_reducible repeat' first|refine aP ?_|simp);refine cL.bd (o:=_) (kw) (by simp only[a8,a7,az,aI];exact bk) (by simp only[a8,a7,az,aI];exact bk) (by simp[aK,Pv.look,a8,a7,az,aI,aB,aH]) Ψ ?_;simp[ch,a8,a7,az,aI];(with_reducible repeat' first|refine aP ?_|simp);refine cL.bd (o:=_) (dD) (by simp only[a8,a7,az,aI];exact bk) (by simp only[a8,a7,az,aI];exact bk) (by simp[aK,Pv.look,a8,a7,az,aI,aB,aH]) Ψ ?_;simp[ch,a8,a7,az,aI];(with_reducible repeat' first|refine aP ?_|simp);refine cL.bd (o:=_) (eG) (by simp only[a8,a7,az,aI];exact bk) (by simp only[a8,a7,az,aI];exact bk) (by simp[aK,Pv.look,a8,a7,az,aI,aB,aH]) Ψ ?_;simp[ch,a8,a7,az,aI];refine fD.new (az (acc++[32,46,32]++bZ (T.var v)++[41])) Ψ (hA _) (by simp[fC,az,aK,Pv.look]) (by simp only[az,aI];exact bk) (by simp only[az,aI];exact bk) ?_;simp[hb,kF,bp,bz,bo,az,aI,aK,Pv.look,aH,aB]
    |sym v=>
     have et:acc.length+(3+((bZ (T.sym v)).length+1))<=aX:=by simp[ec,bZ]at aA⊢;omega
     have kw:=fj (some acc) [32,46,32] Ψ (by simp;omega);have dD:=bb (T.sym v) n9 lh (some (acc++[32,46,32])) (by simp;omega);have eG:=fj (some (acc++[32,46,32]++bZ (T.sym v))) [41] Ψ (by simp;omega);have he:acc++ec (T.sym v)=acc++[32,46,32]++bZ (T.sym v)++[41]:=by simp[ec,bZ]
     rw[he];simp[kJ,az,aI];(with_reducible repeat' first|refine aP ?_|simp);refine cL.bd (o:=_) (kw) (by simp only[a8,a7,az,aI];exact bk) (by simp only[a8,a7,az,aI];exact bk) (by simp[aK,Pv.look,a8,a7,az,aI,aB,aH]) Ψ ?_;simp[ch,a8,a7,az,aI];(with_reducible repeat' first|refine aP ?_|simp);refine cL.bd (o:=_) (dD) (by simp only[a8,a7,az,aI];exact bk) (by simp only[a8,a7,az,aI];exact bk) (by simp[aK,Pv.look,a8,a7,az,aI,aB,aH]) Ψ ?_;simp[ch,a8,a7,az,aI];(with_reducible repeat' first|refine aP ?_|simp);refine cL.bd (o:=_) (eG) (by simp only[a8,a7,az,aI];exact bk) (by simp only[a8,a7,az,aI];exact bk) (by simp[aK,Pv.look,a8,a7,az,aI,aB,aH]) Ψ ?_;simp[ch,a8,a7,az,aI];refine fD.new (az (acc++[32,46,32]++bZ (T.sym v)++[41])) Ψ (hA _) (by simp[fC,az,aK,Pv.look]) (by simp only[az,aI];exact bk) (by simp only[az,aI];exact bk) ?_;simp[hb,kF,bp,bz,bo,az,aI,aK,Pv.look,aH,aB]
    |num v=>
     have et:acc.length+(3+((bZ (T.num v)).length+1))<=aX:=by simp[ec,bZ]at aA⊢;omega
     have kw:=fj (some acc) [32,46,32] Ψ (by simp;omega);have dD:=bb (T.num v) n9 lh (some (acc++[32,46,32])) (by simp;omega);have eG:=fj (some (acc++[32,46,32]++bZ (T.num v))) [41] Ψ (by simp;omega);have he:acc++ec (T.num v)=acc++[32,46,32]++bZ (T.num v)++[41]:=by simp[ec,bZ]
     rw[he];simp[kJ,az,aI];(with_reducible repeat' first|refine aP ?_|simp);refine cL.bd (o:=_) (kw) (by simp only[a8,a7,az,aI];exact bk) (by simp only[a8,a7,az,aI];exact bk) (by simp[aK,Pv.look,a8,a7,az,aI,aB,aH]) Ψ ?_;simp[ch,a8,a7,az,aI];(with_reducible repeat' first|refine aP ?_|simp);refine cL.bd (o:=_) (dD) (by simp only[a8,a7,az,aI];exact bk) (by simp only[a8,a7,az,aI];exact bk) (by simp[aK,Pv.look,a8,a7,az,aI,aB,aH]) Ψ ?_;simp[ch,a8,a7,az,aI];(with_reducible repeat' first|refine aP ?_|simp);refine cL.bd (o:=_) (eG) (by simp only[a8,a7,az,aI];exact bk) (by simp only[a8,a7,az,aI];exact bk) (by simp[aK,Pv.look,a8,a7,az,aI,aB,aH]) Ψ ?_;simp[ch,a8,a7,az,aI];refine fD.new (az (acc++[32,46,32]++bZ (T.num v)++[41])) Ψ (hA _) (by simp[fC,az,aK,Pv.look]) (by simp only[az,aI];exact bk) (by simp only[az,aI];exact bk) ?_;simp[hb,kF,bp,bz,bo,az,aI,aK,Pv.look,aH,aB]
end
end Go.Proofs.YtlnndmgfngfeiaaGreatDoor
namespace Go.Pv
section
open Go Go.Lib
end
section
open Go
def T.ap(Df:Int->T):T->T
 | .var n=>Df n
 | .pair a b=>.pair (a.ap Df) (b.ap Df)
 |t=>t
def SH(s:List ia)(v:Int):T:=(Kk s v).getD (.var v)
abbrev Dg(s:List ia):Prop:=s.Pairwise fun x y=>x.v<y.v
def one(v:Int)(x:T)(w:Int):T:=if w=v then x else .var w
structure J2 where
 up:List (Int×Int)
 shape:List (Int×T)
 shaped:List (Int×Bool)
 color:List (Int×Int)
 size:List (Int×Int)
 full:List (Int×T)
end
section
open Go
section
variable {H0:Int->bf T} {iW:Int->Int} {r:Int->Nat}
end
section
variable {c:J2} {iW:Int->Int} {x y:Int}
end
end
section
open Go
def cut(n:Nat):Int:=if 5001<(n:Int)then 5001 else n
section
variable {V:List Int} {H0:Int->bf T} {iW:Int->Int} {r:Int->Nat}
end
end
section
open Go
section
variable {V:List Int} {H0:Int->bf T} {iW:Int->Int} {r:Int->Nat}
end
end
section
open Go
end
section
open Go Go.Lib
theorem BL{s:List bt}(h:iB s=true):s.length<=12:=by obtain⟨c,r,rfl,_,_,ak⟩:=HE h;simp;omega
mutual
theorem xC:∀t:T,t.ok=true->(bZ t).length<=26*t.size
 | .nil,_=>by simp[bZ,T.size]
 | .var n,h=>by simp only[T.ok,fY]at h;have:=itoa_length_le n Ω Ω;simp only[bZ,T.size,hy];omega
 | .sym s,h=>by have:=BL (s:=s) (by simpa[T.ok]using h);simp only[bZ,T.size];omega
 | .num n,h=>by simp only[T.ok,fY]at h;have:=itoa_length_le n Ω Ω;simp only[bZ,T.size];omega
 | .pair a b,h=>by simp only[T.ok,bE]at h;have I:=xC a h.1;have J:=Ff b h.2;simp only[bZ,T.size,hy,dh];omega
theorem Ff:∀t:T,t.ok=true->(ec t).length<=26*t.size
 | .nil,_=>by simp[ec,T.size]
 | .var n,h=>by simp only[T.ok,fY]at h;have:=itoa_length_le n Ω Ω;simp only[ec,T.size,hy,dh,l5];omega
 | .sym s,h=>by have:=BL (s:=s) (by simpa[T.ok]using h);simp only[ec,T.size,hy,dh,l5];omega
 | .num n,h=>by simp only[T.ok,fY]at h;have:=itoa_length_le n Ω Ω;simp only[ec,T.size,hy,dh,l5];omega
 | .pair a b,h=>by simp only[T.ok,bE]at h;have I:=xC a h.1;have J:=Ff b h.2;simp only[ec,T.size,hy,dh];omega
end
structure Dk (s t:List ia):Prop where
 sa:Dg s
 sv:∀b∈s,4<=b.v/\b.v<8
 so:∀b∈s,b.t.ok=true/\b.t.size<=16/\∀w,b.t.occ w=true->0<=w/\w<4
 ta:Dg t
 tk:∃k:Int,∀b∈t,0<=b.v/\b.v<4/\k<=b.v/\∀w,b.t.occ w=true->0<=w/\w<k
 to:∀b∈t,b.t.ok=true/\b.t.size<=16
def u9(t:List ia)(b:ia):ia:=⟨b.v,b.t.ap (SH t)⟩
section
variable {s t:List ia} (h:Dk s t)
include h
end
section
variable {s t:List ia} (h:Dk s t)
include h
end
end
end Go.Pv
namespace Go.Proofs.YtlnndmgfngfeiaaGreatDoor
section
open Go Go.Pv
theorem Mu(t:T)(h:t.ok=true):bZ t≠[]:=by
 cases t with
 |sym s=>simp only[bZ];exact HF (by simpa[T.ok]using h)
 |num n=>simp only[bZ];exact o9 n
 |_=>simp[bZ]
theorem Fe{t:T}(h:t.fit=true):(bZ t).length<=aX:=by
 have I:=xC t (rY h);have J:t.size<=5000:=by unfold T.fit at h;simp at h;exact h.2
 unfold aX;omega
theorem Ts(t:T)(h:t.fit=true):bF aF 85 [t.e] (.str (bZ t)):=by have cC:=Tu t;rw[h]at cC;have kw:=NQ t.size t (c7 _) (rY h) none (by simpa using Fe h);have dI:=Mu t (rY h);refine bq lr Mw QP fun aO=>?_;unfold DL;simp;((with_reducible repeat' first|refine aP ?_|refine aC cC ?_|refine aD cC ?_|simp|((first|apply b7|apply b9|apply b8)<;>intro h<;>try simp at h))<;>(try exact cn));refine cL.bd (o:=none) kw (by simp only[a8,a7,az,aI];exact bk) (by simp only[a8,a7,az,aI];exact bk) (by simp[aK,Pv.look,a8,a7,az,aI,aB,aH]) Ψ ?_;simp[ch,a8,a7,az,aI];refine HH (bZ t) dI (by simp[aI,Pv.look]) (by simp[Pv.look]) ?_;simp;simp[bJ,Ib,bp,bz,bo]
theorem Te{t:aU}(h:t.fits=true):(eP t).length<=aX:=by obtain⟨x,rfl,ab⟩:=aU.fits_ex h;rw[zm];exact Fe ab
theorem Jv(t:aU)(h:t.fits=true):bF aF 85 [enc t] (.str (eP t)):=by obtain⟨x,rfl,ab⟩:=aU.fits_ex h;rw[zm,pP];exact Ts x ab
theorem DF:∀l:List bt,lC (e1 l)=some l
 |[]=>rfl
 |c::l=>by have:=DF l;simp only[e1,ez,lC]at this⊢;rw[this];simp
def e8(l:List (List bt)):List ae:=l.map ae.str
@[simp]theorem WX(S:aw->Prop)(l:List (List bt)):aB S (e8 l)=True:=by
 apply eq_true;induction l with
 |nil=>simp[e8,aB]
 |cons x r bb=>simp only[e8,ez,aB,aH]at bb⊢;exact⟨trivial,bb⟩
@[simp]theorem Yj(l:List (List bt)):cd (e8 l)=e8 l:=by
 induction l with
 |nil=>rfl
 |cons x r bb=>simp only[e8,ez,cd,cg]at bb⊢;rw[bb]
@[simp]theorem Yx(l:List (List bt)):(e8 l).length=l.length:=by simp[e8]
theorem zj{l:List (List bt)}{i:Nat}(h:i<l.length):∀bS,(e8 l)[i]'bS= .str l[i]:=fun _=>by simp[e8]
theorem gN(S:aw->Prop):∀a b:List ae,aB S (a++b)=(aB S a/\aB S b)
 |[],b=>by simp[aB]
 |x::a,b=>by simp only[oA,aB,gN S a b,and_assoc]
theorem Bp(b:List bt):∀(l:List (List bt)) (k:Nat),(b0 b (l.take k)).length<=(b0 b l).length
 |[],k=>by simp
 |[x],k=>by cases k<;>simp[b0]
 |x::y::r,0=>by simp[b0]
 |x::y::r,1=>by simp[b0]
 |x::y::r,k+2=>by have:=Bp b (y::r) (k+1);simp only[List.take_succ_cons,b0,dh]at this⊢;omega
theorem Jz(l:List (List bt))(b:List bt)(aA:(b0 b l).length<=aX):bF aF 87 [.slice 1 .no (e8 l),.str b] (.str (b0 b l)):=by
 refine bq lr Mz QS fun aO=>?_;unfold DO;have af:l.length<=aX/\b.length<=aX:=by simpa[fb,eQ,e0]using aO
 clear aO;simp;((with_reducible repeat' first|refine aP ?_|simp|((first|apply b7|apply b9|apply b8)<;>intro h<;>try simp at h))<;>(try exact cn));refine fv (fun i (acc:List bt)=>⟨[(1,.str b),(9,.slice 1 .no (e8 l)),(10,.int .i64 l.length),(5,.row 1 (.loc 0) acc.length),(11,.int .i64 i)],[],[(.loc 0,⟨acc.length,5,1,some (e1 acc)⟩)],1,[]⟩) l.length (fun i acc=>acc=b0 b (l.take i)) [] (by simp[show e1 []=[]from rfl];exact⟨by simp[fresh,aB,aH,bV,aK,Pv.look,cT],dW (by simp[fresh,aB,aH,bV,aK,Pv.look,cT]),dY (by simp[fresh,aB,aH,dJ,aK,Pv.look,cT]),Ψ⟩) (by simp[b0]) (fun acc ai _=>?_) (fun i acc aq ai _=>?_)
 ·rw[List.take_of_length_le (c7 _)]at ai;subst ai;simp;(with_reducible repeat' first|refine aP ?_|simp);simp[rL,qh,DF];simp[bJ,Ic,bp,bz,bo]
 ·obtain⟨x,ab⟩:∃x,l[i]? =some x:=⟨_,cB aq⟩;have vS:∀h,(e8 l)[i]'h= .str x:=fun h=>by rw[zj aq,cB aq]at*;cases ab;rfl
  have hle:=Bp b l (i+1);have tT:=G2 b l ab;rw[tT]at hle;have dQ:(e1 acc).length=acc.length:=by simp[e1]
  have cS:bs ((i:Int)+1):=by unfold bs;have:=af.1;unfold aX at this;omega
  by_cases a1:i=0
  ·rw[if_pos a1]at hle tT;have vt:¬0<i:=Ω
   have fe:acc=[]:=by rw[ai,a1];simp[b0]
   have e5:acc.length+x.length<=aX:=by rw[fe];simp;omega
   simp[aq,vS];(with_reducible repeat' first|refine aP ?_|simp[aq,vS,vt,dQ,e5]);refine cj.rng (acc++x) aq (by rw[fe];exact tT.symm) ?_;exact⟨by simp[fresh,aB,aH,bV,aK,Pv.look,cT,rT,gN],dW (by simp[fresh,aB,aH,bV,aK,Pv.look,cT,rT,gN]),dY (by simp[fresh,aB,aH,dJ,aK,Pv.look,cT,rT,gN]),Ψ⟩
  ·rw[bu a1]at hle tT;have vt:0<i:=Ω
   rw[<-ai]at hle tT;simp only[dh]at hle;have e5:acc.length+b.length<=aX:=Ω
   have er:acc.length+b.length+x.length<=aX:=Ω
   have On:(e1 acc++e1 b).length=acc.length+b.length:=by simp[e1]
   simp[aq,vS];(with_reducible repeat' first|refine aP ?_|simp[aq,vS,vt,dQ,e5,er,On]);refine cj.rng (acc++b++x) aq tT.symm ?_;exact⟨by simp[fresh,aB,aH,bV,aK,Pv.look,cT,rT,Nat.add_assoc,gN],dW (by simp[fresh,aB,aH,bV,aK,Pv.look,cT,rT,Nat.add_assoc,gN]),dY (by simp[fresh,aB,aH,dJ,aK,Pv.look,cT,rT,Nat.add_assoc,gN]),Ψ⟩
mutual
def _root_.Go.Pv.Gm.w:Gm->Nat
 | .mk _ _ t g=>1+aU.szL t+r4 g
def r4:List Gm->Nat
 |[]=>0
 |x::xs=>x.w+r4 xs
end
theorem FY:∀l:List Gm,r4 l=(l.map Gm.w).sum
 |[]=>rfl
 |x::l=>by simp[r4,FY l]
theorem Jb:∀l:List aU,aU.szL l=(l.map aU.sz).sum
 |[]=>rfl
 |x::l=>by simp[aU.szL,Jb l]
theorem wW(g:Gm):g.w=1+(g.ts.map aU.sz).sum+(g.gs.map Gm.w).sum:=by rw[<-FY,<-Jb];cases g;rfl
theorem P9(L:List (List bt)):(b0 [32] L).length<=(L.map fun x=>x.length+1).sum:=by
 induction L with
 |nil=>simp[b0]
 |cons x r bb=>
  cases r with
  |nil=>simp[b0]
  |cons y r=>simp only[b0,dh,ez,List.sum_cons,List.length_singleton]at bb⊢;omega
theorem Td{t:aU}(h:t.fits=true):(eP t).length<=26*t.sz:=by
 obtain⟨x,rfl,J⟩:=aU.fits_ex h;have:=xC x (rY J);rw[zm];have e:x.tm.sz=x.size:=by
  clear this J h;induction x with
  |pair a b sx sy=>simp[T.tm,aU.sz,aU.szL,T.size,sx,sy];omega
  |_=>rfl
 omega
theorem pU(g:Gm):c6 g=if g.kind=0\/g.kind=1 then hK g.kind else 40::(b0 [32] ((if g.kind=9 then g.name else hK g.kind)::(g.ts.map eP++g.gs.map c6))++[41]):=by cases g;simp only[c6,Ae,Gm.kind,Gm.name,Gm.ts,Gm.gs];rfl
theorem Ge(k:Int):(hK k).length<=12:=by
 unfold hK;repeat' split
 all_goals decide
theorem CC{g:Gm}(h:g.shape=true):g.name.length<=12:=by
 rw[nv,bE]at h;obtain⟨_,h⟩:=h;split at h
 ·simp at h;rw[h.1.1.1];simp
 ·split at h
  ·simp at h;have:=h.1.1;unfold h4 at this;rw[bE]at this;exact BL this.2
  ·split at h
   ·simp at h;rw[h.1.1.1];simp
   ·split at h
    ·simp at h;rw[h.1.1.1];simp
    ·cases h
theorem CN{α:Type}{f g:α->Nat}{k:Nat}:∀{l:List α},(∀x∈l,f x<=k*g x)->(l.map f).sum<=k*(l.map g).sum
 |[],_=>by simp
 |x::l,h=>by have I:=h x Ψ;have J:=CN (l:=l) fun y bG=>h y (by simp[bG]);simp only[ez,List.sum_cons,Nat.mul_add];omega
theorem vk:∀(n:Nat) (g:Gm),g.sz<=n->g.shape=true->(c6 g).length+1<=30*g.w:=by
 intro n;induction n with
 |zero=>intro g aT;have:=g.sz_pos;omega
 |succ n bb=>
  intro g aT al;rw[pU,wW];split
  ·have:=Ge g.kind;omega
  ·have I:(if g.kind=9 then g.name else hK g.kind).length<=12:=by
    split
    ·exact CC al
    ·exact Ge _
   have J:=P9 ((if g.kind=9 then g.name else hK g.kind)::(g.ts.map eP++g.gs.map c6));have ak:((g.ts.map eP).map fun x=>x.length+1).sum<=27*(g.ts.map aU.sz).sum:=by
    rw[List.map_map];refine CN fun t aG=>?_;have:=Td (ps al t aG);have bB:1<=t.sz:=by cases t;simp[aU.sz]
    simp only[Function.comp];omega
   have aV:((g.gs.map c6).map fun x=>x.length+1).sum<=30*(g.gs.map Gm.w).sum:=by rw[List.map_map];exact CN fun x ab=>bb x (by have:=g.gs_lt ab;omega) (pq al x ab)
   simp only[ez,List.map_append,List.sum_cons,List.sum_append]at J;simp only[hy,dh,l5];omega
abbrev Jj:List (Int×ae):=kK 10 (.str [110,111,116]) (kK 8 (.str [111,114]) (kK 7 (.str [97,110,100]) (kK 6 (.str [97,98,115,101,110,116]) (kK 5 (.str [110,117,109,98,101,114]) (kK 4 (.str [115,121,109,98,111,108]) (kK 3 (.str [47,61]) (kK 2 (.str [61]) [])))))))
theorem yC(f:aw->bf (List ae))(m:aw)(k:Int)(hm:f m=some (jU Jj)):nm f .i (.str []) false (.gmap m) (.int .i64 k)=some (True,.str (if k=0\/k=1 then []else hK k)):=by
 rw[kA _ _ _ _ false k hm];have e:Jj=[(2,.str [61]),(3,.str [47,61]),(4,.str [115,121,109,98,111,108]),(5,.str [110,117,109,98,101,114]),(6,.str [97,98,115,101,110,116]),(7,.str [97,110,100]),(8,.str [111,114]),(10,.str [110,111,116])]:=rfl;rw[e];by_cases J:k=2
 ·subst J;rfl
 by_cases ak:k=3
 ·subst ak;rfl
 by_cases aV:k=4
 ·subst aV;rfl
 by_cases bn:k=5
 ·subst bn;rfl
 by_cases cb:k=6
 ·subst cb;rfl
 by_cases eC:k=7
 ·subst eC;rfl
 by_cases hY:k=8
 ·subst hY;rfl
 by_cases hf:k=10
 ·subst hf;rfl
 have h:(if k=0\/k=1 then([]:List bt)else hK k)=[]:=by
  split
  ·rfl
  ·rename_i h;rw[not_or]at h;simp[hK,J,ak,aV,bn,cb,eC,hY,hf,h.1,h.2]
 rw[h];simp[qC,J,ak,aV,bn,cb,eC,hY,hf]
def oL(g:Gm)(i:Nat)(p:List (List bt)):a6:=⟨[(1,.ptr (.loc 0) 0),(4,.slice 1 (.own (.loc 2)) (e8 p)),(27,.slice 4 .no (g.ts.map enc)),(28,.int .i64 g.ts.length),(29,.int .i64 i)],[(.loc 0,[.int .i64 g.kind,.str g.name,.slice 4 .no (g.ts.map enc),.slice 4 .no (g.gs.map Gm.e)])],[(.loc 2,⟨p.length,9,1,none⟩)],3,[]⟩
def oM(g:Gm)(i:Nat)(p:List (List bt)):a6:=⟨[(4,.slice 1 (.own (.loc 2)) (e8 p)),(40,.slice 4 .no (g.gs.map Gm.e)),(41,.int .i64 g.gs.length),(42,.int .i64 i)],[],[(.loc 2,⟨p.length,9,1,none⟩)],3,[]⟩
theorem rf{α β:Type}(f:α->β){l:List α}{i:Nat}{x:α}(h:l[i]? =some x):(l.map f).take (i+1)=(l.map f).take i++[f x]:=by rw[List.take_add_one,List.getElem?_map,h];simp
theorem kX(x:List bt)(l:List (List bt)):e8 (x::l)= .str x::e8 l:=rfl
theorem ny:e8 []=[]:=rfl
theorem rA(a b:List (List bt)):e8 (a++b)=e8 a++e8 b:=List.map_append
theorem wh{α:Type}(f:α->Nat){x:α}:∀{l:List α},x∈l->f x<=(l.map f).sum
 |y::l,h=>by
  simp only[ez,List.sum_cons];rcases hT.1 h with rfl|h
  ·omega
  ·have:=wh f h;omega
theorem zo:∀(n:Nat) (g:Gm),g.sz<=n->g.shape=true->g.w<=100000000->bF aF 65 [g.e] (.str (c6 g)):=by
 intro n;induction n with
 |zero=>intro g aT;have:=g.sz_pos;omega
 |succ n bb=>
 intro g aT al hw;refine bq jg MD QW fun aO=>?_;unfold DS;clear aO;simp;by_cases a1:g.kind=0
 ·rw[show c6 g=s6 by rw[pU,a1];rfl];(with_reducible repeat' first|refine aP ?_|simp[yC,a1,-kA]);simp[bJ,B7,bp,bz,bo];rfl
 by_cases I:g.kind=1
 ·rw[show c6 g=s5 by rw[pU,I];rfl];(with_reducible repeat' first|refine aP ?_|simp[yC,I,-kA]);simp[bJ,B7,bp,bz,bo];rfl
 have sb:(g.kind==0)=false:=fN.2 a1;have ks:(g.kind==1)=false:=fN.2 I;have kz:=zc al;have qL:¬(g.kind=0\/g.kind=1):=fun h=>h.elim a1 I;by_cases dv:g.kind=9
 ·(with_reducible repeat' first|refine aP ?_|simp[yC,dv,-kA]);refine fv (oL g) g.ts.length (fun i p=>p=g.name::(g.ts.map eP).take i) [g.name] (by simp[oL,kX,ny,dv];exact cq) Ψ (fun p ai _=>?_) (fun i p aq ai _=>?_)
  ·rw[<-kn (f:=eP),jY]at ai;subst ai;simp[oL];(with_reducible repeat' first|refine aP ?_|simp);refine fv (oM g) g.gs.length (fun i p=>p=g.name::(g.ts.map eP++(g.gs.map c6).take i)) (g.name::g.ts.map eP) (by simp[oM,kX];exact cq) Ψ (fun p ai _=>?_) (fun i p aq ai _=>?_)
   ·rw[<-kn (f:=c6),jY]at ai;have nY:c6 g=40::(b0 [32] p++[41]):=by rw[pU,bu qL,ai];simp[dv,dv]
    have kv:=vk g.sz g (c7 _) al;rw[nY]at kv⊢;simp only[hy,dh,l5]at kv;have dy:(b0 [32] p).length<=aX:=by unfold aX;omega
    have et:(b0 [32] p).length+1<=aX:=by unfold aX;omega
    have mm:(b0 [32] p).length+1+1<=aX:=by unfold aX;omega
    have n2:1+(b0 [32] p).length<=aX:=by unfold aX;omega
    have p6:1+(b0 [32] p).length+1<=aX:=by unfold aX;omega
    have fB:=Jz p [32] dy;clear ai nY kv bb;simp[oM];exact bY
   ·obtain⟨x,ab,bL⟩:=eM aq;have lj:=e9 ab;have dD:=bb x (by have:=g.gs_lt lj;omega) (pq al x lj) (by rw[wW]at hw;have:=wh Gm.w lj;omega)
    have hN:p.length+1<=aX:=by rw[ai];simp;unfold aX;omega
    have cS:bs ((i:Int)+1):=by unfold bs;omega
    have aS:p++[c6 x]=g.name::(g.ts.map eP++(g.gs.map c6).take (i+1)):=by rw[ai,rf c6 ab];simp
    clear bb ai ab;simp[oM,aq,bL];(with_reducible repeat' first|refine aP ?_|refine aC dD ?_|refine aD dD ?_|simp[aq,bL,hN,cS]);refine cj.rng (p++[c6 x]) aq aS (by simp[oM,rA,kX,ny];exact⟨by simp[fresh,aB,aH,bV,aK,Pv.look,gN],dW (by simp[fresh,aB,aH,bV,aK,Pv.look,gN]),dY (by simp[fresh,aB,aH,dJ,aK,Pv.look,gN]),Ψ⟩)
  ·obtain⟨x,ab,bL⟩:=eM aq;have dD:=Jv x (ps al x (e9 ab));have hN:p.length+1<=aX:=by rw[ai];simp;unfold aX;omega
   have cS:bs ((i:Int)+1):=by unfold bs;omega
   have aS:p++[eP x]=g.name::(g.ts.map eP).take (i+1):=by rw[ai,rf eP ab];simp
   clear bb ai ab;simp[oL,aq,bL];(with_reducible repeat' first|refine aP ?_|refine aC dD ?_|refine aD dD ?_|simp[aq,bL,hN,cS]);refine cj.rng (p++[eP x]) aq aS (by simp[oL,rA,kX,ny];exact⟨by simp[fresh,aB,aH,bV,aK,Pv.look,gN],dW (by simp[fresh,aB,aH,bV,aK,Pv.look,gN]),dY (by simp[fresh,aB,aH,dJ,aK,Pv.look,gN]),Ψ⟩)
 ·have F8:(g.kind==9)=false:=fN.2 dv;(with_reducible repeat' first|refine aP ?_|simp[yC,sb,ks,F8,qL,-kA]);refine fv (oL g) g.ts.length (fun i p=>p=hK g.kind::(g.ts.map eP).take i) [hK g.kind] (by simp[oL,kX,ny,dv];exact cq) Ψ (fun p ai _=>?_) (fun i p aq ai _=>?_)
  ·rw[<-kn (f:=eP),jY]at ai;subst ai;simp[oL];(with_reducible repeat' first|refine aP ?_|simp);refine fv (oM g) g.gs.length (fun i p=>p=hK g.kind::(g.ts.map eP++(g.gs.map c6).take i)) (hK g.kind::g.ts.map eP) (by simp[oM,kX];exact cq) Ψ (fun p ai _=>?_) (fun i p aq ai _=>?_)
   ·rw[<-kn (f:=c6),jY]at ai;have nY:c6 g=40::(b0 [32] p++[41]):=by rw[pU,bu qL,ai];simp[F8,dv]
    have kv:=vk g.sz g (c7 _) al;rw[nY]at kv⊢;simp only[hy,dh,l5]at kv;have dy:(b0 [32] p).length<=aX:=by unfold aX;omega
    have et:(b0 [32] p).length+1<=aX:=by unfold aX;omega
    have mm:(b0 [32] p).length+1+1<=aX:=by unfold aX;omega
    have n2:1+(b0 [32] p).length<=aX:=by unfold aX;omega
    have p6:1+(b0 [32] p).length+1<=aX:=by unfold aX;omega
    have fB:=Jz p [32] dy;clear ai nY kv bb;simp[oM];exact bY
   ·obtain⟨x,ab,bL⟩:=eM aq;have lj:=e9 ab;have dD:=bb x (by have:=g.gs_lt lj;omega) (pq al x lj) (by rw[wW]at hw;have:=wh Gm.w lj;omega)
    have hN:p.length+1<=aX:=by rw[ai];simp;unfold aX;omega
    have cS:bs ((i:Int)+1):=by unfold bs;omega
    have aS:p++[c6 x]=hK g.kind::(g.ts.map eP++(g.gs.map c6).take (i+1)):=by rw[ai,rf c6 ab];simp
    clear bb ai ab;simp[oM,aq,bL];(with_reducible repeat' first|refine aP ?_|refine aC dD ?_|refine aD dD ?_|simp[aq,bL,hN,cS]);refine cj.rng (p++[c6 x]) aq aS (by simp[oM,rA,kX,ny];exact⟨by simp[fresh,aB,aH,bV,aK,Pv.look,gN],dW (by simp[fresh,aB,aH,bV,aK,Pv.look,gN]),dY (by simp[fresh,aB,aH,dJ,aK,Pv.look,gN]),Ψ⟩)
  ·obtain⟨x,ab,bL⟩:=eM aq;have dD:=Jv x (ps al x (e9 ab));have hN:p.length+1<=aX:=by rw[ai];simp;unfold aX;omega
   have cS:bs ((i:Int)+1):=by unfold bs;omega
   have aS:p++[eP x]=hK g.kind::(g.ts.map eP).take (i+1):=by rw[ai,rf eP ab];simp
   clear bb ai ab;simp[oL,aq,bL];(with_reducible repeat' first|refine aP ?_|refine aC dD ?_|refine aD dD ?_|simp[aq,bL,hN,cS]);refine cj.rng (p++[eP x]) aq aS (by simp[oL,rA,kX,ny];exact⟨by simp[fresh,aB,aH,bV,aK,Pv.look,gN],dW (by simp[fresh,aB,aH,bV,aK,Pv.look,gN]),dY (by simp[fresh,aB,aH,dJ,aK,Pv.look,gN]),Ψ⟩)
def _root_.Go.Pv.Ix.e(x:Ix):ae:= .agg [.int .i64 x.op,.int .i64 x.a,.int .i64 x.b,.int .i64 x.g.kind,.str x.g.name,.slice 4 .no (x.g.ts.map enc),.slice 4 .no (x.g.gs.map Gm.e)]
theorem Ix.e_eq(x:Ix):x.e= .agg [.int .i64 x.op,.int .i64 x.a,.int .i64 x.b,.int .i64 x.g.kind,.str x.g.name,.slice 4 .no (x.g.ts.map enc),.slice 4 .no (x.g.gs.map Gm.e)]:=rfl
@[simp]theorem Qf(S:aw->Prop)(x:Ix):aH S x.e=True:=by simp[Ix.e_eq,aH,aB]
theorem Hi(S:aw->Prop):∀l:List Ix,aB S (l.map Ix.e)
 |[]=>trivial
 |x::l=>by simp only[ez,aB,Qf,true_and];exact Hi S l
@[simp]theorem WW(S:aw->Prop)(l:List Ix):aB S (l.map Ix.e)=True:=eq_true (Hi S l)
@[simp]theorem S1(x:Ix):cg x.e=x.e:=by simp[Ix.e_eq,cg,cd]
@[simp]theorem SX:∀l:List Ix,cd (l.map Ix.e)=l.map Ix.e
 |[]=>rfl
 |x::l=>by simp only[ez,cd,S1,SX l]
@[simp]theorem X8(x:Ix):dE x.e=true:=rfl
@[simp]theorem Vp(x:Ix):cells x.e=[.int .i64 x.op,.int .i64 x.a,.int .i64 x.b,.int .i64 x.g.kind,.str x.g.name,.slice 4 .no (x.g.ts.map enc),.slice 4 .no (x.g.gs.map Gm.e)]:=rfl
@[simp]theorem UH(x:Ix):ae.agg [.int .i64 x.op,.int .i64 x.a,.int .i64 x.b,.int .i64 x.g.kind,.str x.g.name,.slice 4 .no (x.g.ts.map enc),.slice 4 .no (x.g.gs.map Gm.e)]=x.e:=rfl
@[simp]theorem VT(off:Nat)(eh:Bool)(sz:Nat)(x:Ix):oW off eh sz x.e=if eh then some (off+sz<=7,.agg (([.int .i64 x.op,.int .i64 x.a,.int .i64 x.b,.int .i64 x.g.kind,.str x.g.name,.slice 4 .no (x.g.ts.map enc),.slice 4 .no (x.g.gs.map Gm.e)].drop off).take sz))else(([.int .i64 x.op,.int .i64 x.a,.int .i64 x.b,.int .i64 x.g.kind,.str x.g.name,.slice 4 .no (x.g.ts.map enc),.slice 4 .no (x.g.gs.map Gm.e)]:List ae)[off]?).map fun p=>(True,p):=rfl
@[simp]theorem VK(off:Nat)(eh:Bool)(sz:Nat)(x:Ix):lI off eh sz (.eptr x.e)=if eh then some (off+sz<=7,.eptr (.agg (([.int .i64 x.op,.int .i64 x.a,.int .i64 x.b,.int .i64 x.g.kind,.str x.g.name,.slice 4 .no (x.g.ts.map enc),.slice 4 .no (x.g.gs.map Gm.e)].drop off).take sz)))else(([.int .i64 x.op,.int .i64 x.a,.int .i64 x.b,.int .i64 x.g.kind,.str x.g.name,.slice 4 .no (x.g.ts.map enc),.slice 4 .no (x.g.gs.map Gm.e)]:List ae)[off]?).map fun p=>(dE p=true/\cells p=[p],.eptr p):=rfl
@[simp]theorem WH(x:Ix):Pv.isAgg 7 x.e:=⟨_,rfl,rfl⟩
def _root_.Go.Pv.Ey.e(x:Ey):ae:= .agg [.str x.name,.int .i64 x.pos,.int .i64 x.ar,.int .i64 x.vars]
theorem Ey.e_eq(x:Ey):x.e= .agg [.str x.name,.int .i64 x.pos,.int .i64 x.ar,.int .i64 x.vars]:=rfl
@[simp]theorem Qc(S:aw->Prop)(x:Ey):aH S x.e=True:=by simp[Ey.e_eq,aH,aB]
theorem Hh(S:aw->Prop):∀l:List Ey,aB S (l.map Ey.e)
 |[]=>trivial
 |x::l=>by simp only[ez,aB,Qc,true_and];exact Hh S l
@[simp]theorem WV(S:aw->Prop)(l:List Ey):aB S (l.map Ey.e)=True:=eq_true (Hh S l)
@[simp]theorem SY(x:Ey):cg x.e=x.e:=by simp[Ey.e_eq,cg,cd]
@[simp]theorem SV:∀l:List Ey,cd (l.map Ey.e)=l.map Ey.e
 |[]=>rfl
 |x::l=>by simp only[ez,cd,SY,SV l]
@[simp]theorem X1(x:Ey):dE x.e=true:=rfl
@[simp]theorem Vi(x:Ey):cells x.e=[.str x.name,.int .i64 x.pos,.int .i64 x.ar,.int .i64 x.vars]:=rfl
@[simp]theorem UF(x:Ey):ae.agg [.str x.name,.int .i64 x.pos,.int .i64 x.ar,.int .i64 x.vars]=x.e:=rfl
@[simp]theorem VS(off:Nat)(eh:Bool)(sz:Nat)(x:Ey):oW off eh sz x.e=if eh then some (off+sz<=4,.agg (([.str x.name,.int .i64 x.pos,.int .i64 x.ar,.int .i64 x.vars].drop off).take sz))else(([.str x.name,.int .i64 x.pos,.int .i64 x.ar,.int .i64 x.vars]:List ae)[off]?).map fun p=>(True,p):=rfl
@[simp]theorem VH(off:Nat)(eh:Bool)(sz:Nat)(x:Ey):lI off eh sz (.eptr x.e)=if eh then some (off+sz<=4,.eptr (.agg (([.str x.name,.int .i64 x.pos,.int .i64 x.ar,.int .i64 x.vars].drop off).take sz)))else(([.str x.name,.int .i64 x.pos,.int .i64 x.ar,.int .i64 x.vars]:List ae)[off]?).map fun p=>(dE p=true/\cells p=[p],.eptr p):=rfl
@[simp]theorem WC(x:Ey):Pv.isAgg 4 x.e:=⟨_,rfl,rfl⟩
def _root_.Go.Pv.Cd.e(c:Cd):ae:= .agg [.slice 7 .no (c.is.map Ix.e),.slice 4 .no (c.es.map Ey.e)]
theorem Cd.e_eq(c:Cd):c.e= .agg [.slice 7 .no (c.is.map Ix.e),.slice 4 .no (c.es.map Ey.e)]:=rfl
@[simp]theorem WY(S:aw->Prop)(c:Cd):aH S c.e=True:=by simp[Cd.e_eq,aH,aB]
@[simp]theorem Yk(c:Cd):cg c.e=c.e:=by simp[Cd.e_eq,cg,cd]
@[simp]theorem XU(c:Cd):dE c.e=true:=rfl
@[simp]theorem Vd(c:Cd):cells c.e=[.slice 7 .no (c.is.map Ix.e),.slice 4 .no (c.es.map Ey.e)]:=rfl
@[simp]theorem zz(c:Cd):ae.agg [.slice 7 .no (c.is.map Ix.e),.slice 4 .no (c.es.map Ey.e)]=c.e:=rfl
@[simp]theorem VR(off:Nat)(eh:Bool)(sz:Nat)(c:Cd):oW off eh sz c.e=if eh then some (off+sz<=2,.agg (([.slice 7 .no (c.is.map Ix.e),.slice 4 .no (c.es.map Ey.e)].drop off).take sz))else(([.slice 7 .no (c.is.map Ix.e),.slice 4 .no (c.es.map Ey.e)]:List ae)[off]?).map fun p=>(True,p):=rfl
@[simp]theorem VF(off:Nat)(eh:Bool)(sz:Nat)(c:Cd):lI off eh sz (.eptr c.e)=if eh then some (off+sz<=2,.eptr (.agg (([.slice 7 .no (c.is.map Ix.e),.slice 4 .no (c.es.map Ey.e)].drop off).take sz)))else(([.slice 7 .no (c.is.map Ix.e),.slice 4 .no (c.es.map Ey.e)]:List ae)[off]?).map fun p=>(dE p=true/\cells p=[p],.eptr p):=rfl
inductive eg where
 |s (l:List bt)
 |b (x:iI)
def eg.e:eg->ae
 | .s l=>.str l
 | .b x=>.cst (.string x)
def eg.len:eg->Int
 | .s l=>l.length
 | .b x=>x.size
def kH(n:Nat):Prop:=aX<n/\n<=9223372036854775807
def eg.wf:eg->Prop
 | .s _=>True
 | .b x=>kH x.size
inductive cV (α:Type) where
 |l (xs:List α)
 |b (p:bf Addr) (n cap:Nat)
def cV.e{α:Type}(sz:Nat)(f:α->ae):cV α->ae
 | .l xs=>.slice sz .no (xs.map f)
 | .b p n cap=>.cst (.slice p n cap)
def cV.wf{α:Type}(P:α->Prop):cV α->Prop
 | .l xs=> ∀x∈xs,P x
 | .b _ n _=>kH n
inductive bC where
 |mk (k n:Int) (s:eg) (a:List bC)
 |big (k n:Int) (s:eg) (p:bf Addr) (len cap:Nat)
mutual
def bC.e:bC->ae
 | .mk k n s a=>.agg [.int .i64 k,.int .i64 n,s.e,.slice 4 .no (bC.eL a)]
 | .big k n s p len cap=>.agg [.int .i64 k,.int .i64 n,s.e,.cst (.slice p len cap)]
def bC.eL:List bC->List ae
 |[]=>[]
 |x::xs=>x.e::bC.eL xs
end
theorem bC.eL_map:∀l,bC.eL l=l.map bC.e
 |[]=>rfl
 |x::xs=>by simp[bC.eL,bC.eL_map xs]
def bC.kind:bC->Int| .mk k _ _ _=>k| .big k _ _ _ _ _=>k
def bC.num:bC->Int| .mk _ n _ _=>n| .big _ n _ _ _ _=>n
def bC.name:bC->eg| .mk _ _ s _=>s| .big _ _ s _ _ _=>s
def bC.args:bC->cV bC| .mk _ _ _ a=>.l a| .big _ _ _ p l c=>.b p l c
theorem bC.e_eq(t:bC):t.e= .agg [.int .i64 t.kind,.int .i64 t.num,t.name.e,t.args.e 4 bC.e]:=by
 cases t with
 |mk k n s a=>simp only[bC.e,bC.eL_map];rfl
 |big=>rfl
@[simp]theorem W6(S:aw->Prop)(s:eg):aH S s.e=True:=by cases s<;>simp[eg.e,aH]
@[simp]theorem Yr(s:eg):cg s.e=s.e:=by cases s<;>simp[eg.e,cg]
mutual
theorem Hm(S:aw->Prop):∀t:bC,aH S t.e
 | .mk k n s a=>by simp[bC.e,aH,aB,Bv S a]
 | .big k n s p l c=>by simp[bC.e,aH,aB]
theorem Bv(S:aw->Prop):∀l:List bC,aB S (bC.eL l)
 |[]=>by simp[bC.eL,aB]
 |x::xs=>by simp[bC.eL,aB,Hm S x,Bv S xs]
end
mutual
theorem I0:∀t:bC,cg t.e=t.e
 | .mk k n s a=>by simp[bC.e,cg,cd,CK a]
 | .big k n s p l c=>by simp[bC.e,cg,cd]
theorem CK:∀l:List bC,cd (bC.eL l)=bC.eL l
 |[]=>by simp[bC.eL,cd]
 |x::xs=>by simp[bC.eL,cd,I0 x,CK xs]
end
@[simp]theorem W9(S:aw->Prop)(t:bC):aH S t.e=True:=eq_true (Hm S t)
@[simp]theorem WU(S:aw->Prop)(l:List bC):aB S (l.map bC.e)=True:=by rw[<-bC.eL_map];exact eq_true (Bv S l)
@[simp]theorem Yv(t:bC):cg t.e=t.e:=I0 t
@[simp]theorem Yi(l:List bC):cd (l.map bC.e)=l.map bC.e:=by rw[<-bC.eL_map];exact CK l
@[simp]theorem WI(t:bC):Pv.isAgg 4 t.e:=by rw[bC.e_eq];exact⟨_,rfl,rfl⟩
@[simp]theorem Qe(S:aw->Prop)(x:cV bC):aH S (x.e 4 bC.e)=True:=by cases x<;>simp[cV.e,aH]
@[simp]theorem S0(x:cV bC):cg (x.e 4 bC.e)=x.e 4 bC.e:=by cases x<;>simp[cV.e,cg]
mutual
def bC.sz:bC->Nat
 | .mk _ _ _ a=>1+bC.szL a
 | .big _ _ _ _ _ _=>1
def bC.szL:List bC->Nat
 |[]=>0
 |x::xs=>x.sz+bC.szL xs
end
theorem bC.szL_mem:∀{l:List bC} {x:bC},x∈l->x.sz<=bC.szL l
 |y::l,x,h=>by
  rcases hT.1 h with rfl|h
  ·simp[bC.szL]
  ·have:=bC.szL_mem h;simp[bC.szL];omega
mutual
def bC.wf:bC->Prop
 | .mk _ _ s a=>s.wf/\bC.wfL a
 | .big _ _ s _ l _=>s.wf/\kH l
def bC.wfL:List bC->Prop
 |[]=>True
 |x::xs=>x.wf/\bC.wfL xs
end
theorem bC.wfL_iff:∀{l:List bC},bC.wfL l↔∀x∈l,x.wf
 |[]=>by simp[bC.wfL]
 |x::l=>by simp[bC.wfL,bC.wfL_iff (l:=l)]
def fL{α:Type}(f:α->Int->Int):List α->Int->Int
 |[],m=>m
 |x::xs,m=>if f x m<0 then-1 else fL f xs (f x m)
def kG{α:Type}(f:α->Int->Int)(l:List α)(m:Int):Int:=if m-l.length<0 then-1 else fL f l (m-l.length)
def eY{α:Type}(f:α->Int->Int):cV α->Int->Int
 | .l xs,m=>kG f xs m
 | .b _ _ _,_=> -1
theorem CO{α:Type}{f:α->Int->Int}(av:∀x m,0<=m-> -1<=f x m/\f x m<=m):∀(l:List α) (m:Int),0<=m-> -1<=fL f l m/\fL f l m<=m
 |[],m,h=>by simp only[fL];omega
 |x::xs,m,h=>by
  have I:=av x m h;simp only[fL];split
  ·omega
  ·have J:=CO av xs (f x m) Ω;omega
theorem Ta{α:Type}{f:α->Int->Int}(av:∀x m,0<=m-> -1<=f x m/\f x m<=m)(l:List α)(m:Int)(h:0<=m): -1<=kG f l m/\kG f l m<=m:=by
 unfold kG;split
 ·omega
 ·have:=CO av l (m-l.length) Ω;omega
theorem rD{α:Type}{f:α->Int->Int}(av:∀x m,0<=m-> -1<=f x m/\f x m<=m)(l:cV α)(m:Int)(h:0<=m): -1<=eY f l m/\eY f l m<=m:=by
 cases l with
 |l xs=>exact Ta av xs m h
 |b=>simp only[eY];omega
mutual
def ft:bC->Int->Int
 | .mk _ _ s a,m=>if m-s.len<0 then-1 else if m-s.len-a.length<0 then-1 else lZ a (m-s.len-a.length)
 | .big _ _ s _ _ _,m=>if m-s.len<0 then-1 else-1
def lZ:List bC->Int->Int
 |[],m=>m
 |x::xs,m=>if ft x m<0 then-1 else lZ xs (ft x m)
end
theorem Jc:∀(l:List bC) (m:Int),lZ l m=fL ft l m
 |[],m=>rfl
 |x::xs,m=>by simp only[lZ,fL,Jc xs]
theorem zl(t:bC)(m:Int):ft t m=if m-t.name.len<0 then-1 else eY ft t.args (m-t.name.len):=by
 cases t with
 |mk=>simp only[ft,eY,kG,Jc,bC.name,bC.args];rfl
 |big=>simp only[ft,eY,bC.name,bC.args];rfl
theorem eg.len_nn(s:eg):0<=s.len:=by cases s<;>simp[eg.len]
mutual
theorem sZ:∀(t:bC) (m:Int),0<=m-> -1<=ft t m/\ft t m<=m
 | .mk _ _ s a,m,h=>by
  have:=s.len_nn;simp only[ft];split
  ·omega
  ·split
   ·omega
   ·have:=Jd a (m-s.len-a.length) Ω;omega
 | .big _ _ s _ _ _,m,h=>by simp only[ft];split<;>omega
theorem Jd:∀(l:List bC) (m:Int),0<=m-> -1<=lZ l m/\lZ l m<=m
 |[],m,h=>by simp only[lZ];omega
 |x::xs,m,h=>by
  have I:=sZ x m h;simp only[lZ];split
  ·omega
  ·have J:=Jd xs (ft x m) Ω;omega
end
theorem eg.small{s:eg}(hw:s.wf){m:Int}(a1:m<=1048576)(h:0<=m-s.len):∃l,s= .s l:=by
 cases s with
 |s l=>exact⟨l,rfl⟩
 |b x=>simp only[eg.wf,kH,aX]at hw;simp only[eg.len]at h;omega
mutual
def iU:aU->bC
 | .mk k n s a=>.mk k n (.s s) (mK a)
def mK:List aU->List bC
 |[]=>[]
 |x::xs=>iU x::mK xs
end
theorem Jl:∀l,mK l=l.map iU
 |[]=>rfl
 |x::xs=>by simp[mK,Jl xs]
mutual
theorem Jm:∀t:aU,(iU t).e=enc t
 | .mk k n s a=>by simp only[iU,bC.e,enc,Jk a];rfl
theorem Jk:∀l:List aU,bC.eL (mK l)=lG l
 |[]=>rfl
 |x::xs=>by simp only[mK,bC.eL,lG,Jm x,Jk xs]
end
mutual
theorem Jf:∀(t:bC) (m:Int),t.wf->m<=1048576->0<=m->0<=ft t m->∃u:aU,t=iU u
 | .mk k n s a,m,hw,I,a1,h=>by
  simp only[bC.wf]at hw;simp only[ft]at h;have:=s.len_nn;split at h
  ·omega
  rename_i g;obtain⟨l,rfl⟩:=eg.small hw.1 I Ω;split at h
  ·omega
  obtain⟨b,af⟩:=Je a _ hw.2 Ω Ω h;exact⟨.mk k n l b,by simp only[iU,af]⟩
 | .big _ _ s _ _ _,m,_,_,_,h=>by simp only[ft]at h;split at h<;>omega
theorem Je:∀(l:List bC) (m:Int),bC.wfL l->m<=1048576->0<=m->0<=lZ l m->∃u:List aU,l=mK u
 |[],_,_,_,_,_=>⟨[],rfl⟩
 |x::xs,m,hw,I,a1,h=>by
  simp only[bC.wfL]at hw;simp only[lZ]at h;have J:=sZ x m a1;split at h
  ·omega
  obtain⟨u,hu⟩:=Jf x m hw.1 I a1 Ω;obtain⟨v,ba⟩:=Je xs _ hw.2 Ω Ω h;exact⟨u::v,by simp only[mK,hu,ba]⟩
end
theorem I4{α β:Type}{f:α->Int->Int}{P:α->Prop}{g:β->α}(hle:∀x m,0<=m-> -1<=f x m/\f x m<=m)(al:∀x m,P x->m<=1048576->0<=m->0<=f x m->∃y,x=g y):∀(l:List α) (m:Int),(∀x∈l,P x)->m<=1048576->0<=m->0<=fL f l m->∃u:List β,l=u.map g
 |[],_,_,_,_,_=>⟨[],rfl⟩
 |x::xs,m,hw,I,a1,h=>by
  simp only[fL]at h;have J:=hle x m a1;split at h
  ·omega
  obtain⟨u,hu⟩:=al x m (hw x Ψ) I a1 Ω;obtain⟨v,ba⟩:=I4 hle al xs _ (fun y bG=>hw y (by simp[bG])) Ω Ω h;exact⟨u::v,by rw[ez,<-hu,<-ba]⟩
theorem CP{α β:Type}{f:α->Int->Int}{P:α->Prop}{g:β->α}(hle:∀x m,0<=m-> -1<=f x m/\f x m<=m)(al:∀x m,P x->m<=1048576->0<=m->0<=f x m->∃y,x=g y)(l:cV α)(m:Int)(hw:l.wf P)(I:m<=1048576)(a1:0<=m)(h:0<=eY f l m):∃u:List β,l= .l (u.map g):=by
 cases l with
 |b=>simp only[eY]at h;omega
 |l xs=>
  simp only[eY,kG]at h;split at h
  ·omega
  obtain⟨u,hu⟩:=I4 hle al xs _ hw Ω Ω h;exact⟨u,by rw[hu]⟩
def D9:C:=(ag [b3 4 false] (.seq (ag [ad 6 0,cw 7 6,ad 8 1,cw 9 8,b2 10 .neq 7 9] (bg 10 (ag [b3 4 false] .ret) .skip)) (.seq (ag [cl 5 0] (.block 0 (.loop (.seq (ag [ad 11 5,ad 12 0,cw 13 12,b2 14 .lss 11 13] (bg 14 .skip (.exit 0))) (.seq (.block 1 (.seq (.drawn true 27 [ad 17 0,ad 18 5,dk 19 4 17 18,bT 20 4 19,ad 21 1,ad 22 5,dk 23 4 21 22,bT 24 4 23,en 25 161 20 24,e7 26 25]) (bg 26 (ag [b3 4 false] .ret) .skip))) (.region [ad 15 5,aZ 16 .add 15 1,ad 5 16])))))) (ag [b3 4 true] .ret))))
@[simp] def R4:List cr:=[.tmp 4]
def D8:C:=(ag [dL 2 0,dL 3 1,b3 4 false] (.seq (ag [aL 5 0 1 2,aN 6 1 5,aL 7 0 1 3,aN 8 1 7,b2 9 .neq 6 8] (bg 9 (ag [b3 4 false] .ret) .skip)) (.seq (ag [aL 10 1 1 2,aN 11 1 10,aL 12 1 1 3,aN 13 1 12,b2 14 .neq 11 13] (bg 14 (ag [b3 4 false] .ret) .skip)) (.seq (ag [aL 15 2 1 2,aN 16 1 15,aL 17 2 1 3,aN 18 1 17,b2 19 .neq 16 18] (bg 19 (ag [b3 4 false] .ret) .skip)) (.seq (ag [aL 20 3 1 2,aN 21 1 20,aL 22 3 1 3,aN 23 1 22,en 24 91 21 23,e7 25 24] (bg 25 (ag [b3 4 false] .ret) .skip)) (ag [b3 4 true] .ret))))))
@[simp] def R3:List cr:=[.tmp 4]
def zJ:C:=(ag [cl 4 0] (ag [ad 6 1,ad 7 0,cw 8 7,b2 9 .sub 6 8,ad 1 9] (.seq (ag [ad 10 1,aZ 11 .lss 10 0] (bg 11 (ag [cl 4 (-1)] .ret) .skip)) (.seq (ag [cl 5 0] (.block 0 (.loop (.seq (ag [ad 12 5,ad 13 0,cw 14 13,b2 15 .lss 12 14] (bg 15 .skip (.exit 0))) (.seq (.block 1 (ag [ad 18 0,ad 19 5,dk 20 4 18 19,bT 21 4 20,ad 22 1,en 23 259 21 22,ad 1 23] (ag [ad 24 1,aZ 25 .lss 24 0] (bg 25 (ag [cl 4 (-1)] .ret) .skip)))) (.region [ad 16 5,aZ 17 .add 16 1,ad 5 17])))))) (ag [ad 26 1,ad 4 26] .ret)))))
@[simp] def Sa:List cr:=[.tmp 4]
def Ei:C:=(ag [pB 2 4] (ag [ad 5 0,cw 6 5,dm (.mks 7 none 4 40 (.agg oa) (.t 6)),ad 3 7] (.seq (ag [cl 4 0] (.block 0 (.loop (.seq (ag [ad 8 4,ad 9 0,cw 10 9,b2 11 .lss 8 10] (bg 11 .skip (.exit 0))) (.seq (.block 1 (.region [ad 14 3,ad 15 4,ad 16 0,ad 17 4,dk 18 4 16 17,bT 19 4 18,cK 20 260 19,dk 21 4 14 15,cI 4 21 20])) (.region [ad 12 4,aZ 13 .add 12 1,ad 4 13])))))) (.seq (.pub 3 (.region [ad 22 3,ad 2 22])) .ret))))
@[simp] def Sh:List cr:=[.tmp 2]
def pM:C:=(ag [dL 2 0,cl 4 0] (ag [ad 5 1,aL 6 2 1 2,aN 7 1 6,bI 8 (.slen (.t 7)),b2 9 .sub 5 8,ad 1 9] (.seq (ag [ad 10 1,aZ 11 .lss 10 0] (bg 11 (ag [cl 4 (-1)] .ret) .skip)) (ag [aL 12 3 1 2,aN 13 1 12,ad 14 1,en 15 224 13 14,ad 1 15] (.seq (ag [ad 16 1,aZ 17 .lss 16 0] (bg 17 (ag [cl 4 (-1)] .ret) .skip)) (ag [ad 18 1,ad 4 18] .ret))))))
@[simp] def R9:List cr:=[.tmp 4]
def Eh:C:=(ag [dL 1 0,mP 2 oa] (ag [mP 3 oa] (ag [aL 4 0 1 1,aN 5 1 4,aL 6 0 1 3,cI 1 6 5] (ag [aL 7 1 1 1,aN 8 1 7,aL 9 1 1 3,cI 1 9 8] (ag [aL 10 2 1 1,aN 11 1 10,aL 12 2 1 3,cI 1 12 11] (ag [aL 13 3 1 1,aN 14 1 13,cK 15 227 14,aL 16 3 1 3,cI 1 16 15] (ag [bT 17 4 3,cI 4 2 17] .ret)))))))
@[simp] def Sg:List cr:=[.cell 2 true 4]
def s0:List (Nat×cR):=[
 (3,⟨1,8,.int .i64,.int .i64 0⟩),
 (9,⟨1,16,.str,.str []⟩),
 (38,⟨1,24,.slice 40,.slice 4 .nil []⟩),
 (40,⟨4,56,.struct [(0,3),(1,3),(2,9),(3,38)],.agg [.int .i64 0,.int .i64 0,.str [],.slice 4 .nil []]⟩),
 (167,⟨1,24,.slice 282,.slice 4 .nil []⟩),
 (282,⟨4,56,.struct [(0,3),(1,3),(2,9),(3,167)],.agg [.int .i64 0,.int .i64 0,.str [],.slice 4 .nil []]⟩)]
theorem l2:fm aF s0=true:=by kernel_rfl
theorem Re:cG s0 D9 R4 2 Tryz.f91=true:=by kernel_rfl
theorem MU:aF.funcs[(91:Nat)]? =some Tryz.f91:=Tryz.func91
theorem Rc:cG s0 D8 R3 2 Tryz.f161=true:=by kernel_rfl
theorem MT:aF.funcs[(161:Nat)]? =some Tryz.f161:=Tryz.func161
theorem HT:cG s0 zJ Sa 2 Tryz.f224=true:=by kernel_rfl
theorem Fp:aF.funcs[(224:Nat)]? =some Tryz.f224:=Tryz.func224
theorem Rn:cG s0 Ei Sh 1 Tryz.f227=true:=by kernel_rfl
theorem M3:aF.funcs[(227:Nat)]? =some Tryz.f227:=Tryz.func227
theorem rp:cG s0 pM R9 2 Tryz.f259=true:=by kernel_rfl
theorem qG:aF.funcs[(259:Nat)]? =some Tryz.f259:=Tryz.func259
theorem Rm:cG s0 Eh Sg 1 Tryz.f260=true:=by kernel_rfl
theorem M2:aF.funcs[(260:Nat)]? =some Tryz.f260:=Tryz.func260
theorem yx{α:Type}{s:List α}{i:Nat}{t:α}(h:s[i]? =some t):s.drop i=t::s.drop (i+1):=by obtain⟨I,J⟩:=dw.1 h;rw[List.drop_eq_getElem_cons I,J]
theorem Tg{α:Type}{t:List α}{i:Nat}{b:α}(ba:t[i]? =some b):t.take (i+1)=t.take i++[b]:=by rw[List.take_succ,ba];rfl
def hD{α:Type}(f:α->ae)(z:ae)(l:List α)(i:Nat):List ae:=(l.take i).map f++List.replicate (l.length-i) z
theorem nn{α:Type}(f:α->ae)(z:ae)(l:List α):hD f z l 0=List.replicate l.length z:=by simp[hD]
theorem yE{α:Type}(f:α->ae)(z:ae)(l:List α):hD f z l l.length=l.map f:=by simp[hD]
theorem yF{α:Type}(f:α->ae)(z:ae)(l:List α){i:Nat}(aq:i<l.length):(hD f z l i)[i]? =some z:=by
 unfold hD;have h:((l.take i).map f).length=i:=by simp;omega
 rw[List.getElem?_append_right Ω,h,Nat.sub_self,List.getElem?_replicate,if_pos Ω]
theorem yG{α:Type}(f:α->ae)(z:ae)(l:List α){i:Nat}{x:α}(ab:l[i]? =some x):(hD f z l i).set i (f x)=hD f z l (i+1):=by
 have aq:=(dw.1 ab).1;unfold hD;have h:((l.take i).map f).length=i:=by simp;omega
 rw[List.set_append_right _ _ Ω,h,Nat.sub_self,Tg ab,List.map_append,List.append_assoc];congr 1;obtain⟨m,hm⟩:∃m,l.length-i=m+1:=⟨l.length-i-1,Ω⟩;rw[hm,show l.length-(i+1)=m from by omega,List.replicate_succ,List.set_cons_zero];rfl
theorem Hc(S:aw->Prop):∀{a b:List ae},aB S (a++b)↔aB S a/\aB S b
 |[],b=>by simp[aB]
 |x::a,b=>by simp[aB,Hc S (a:=a),and_assoc]
theorem Hd{α:Type}(S:aw->Prop)(f:α->ae)(av:∀x,aH S (f x)):∀l:List α,aB S (l.map f)
 |[]=>by simp[aB]
 |x::xs=>by simp[aB,Hd S f av xs,av]
theorem uf(S:aw->Prop)(z:ae)(dS:aH S z):∀n,aB S (List.replicate n z)
 |0=>by simp[aB]
 |n+1=>by simp[List.replicate_succ,aB,uf S z dS n,dS]
theorem yp{α:Type}(S:aw->Prop)(f:α->ae)(z:ae)(l:List α)(i:Nat)(av:∀x,aH S (f x))(dS:aH S z):aB S (hD f z l i):=by unfold hD;rw[Hc];exact⟨Hd S f av _,uf S z dS _⟩
theorem C1(l:cV bC)(hw:∀p n cap,l= .b p n cap->kH n)(av:∀xs,l= .l xs->∀x∈xs,∀m,0<=m->m<=1048576->bF aF 259 [bC.e x,.int .i64 m] (.int .i64 (ft x m)))(m:Int)(a1:0<=m)(I:m<=1048576):bF aF 224 [l.e 4 bC.e,.int .i64 m] (.int .i64 (eY ft l m)):=by
 cases l with
 |b p n cap=>
  have aS:=hw p n cap rfl;simp only[kH,aX]at aS;have g:m-n<0:=Ω
  simp only[cV.e,eY];clear hw av;refine bq l2 Fp HT fun aO=>?_;unfold zJ;exact bY
 |l l=>
 have av:=av l rfl;clear hw;simp only[cV.e,eY];generalize aW:kG ft l m=R;unfold kG at aW;refine bq l2 Fp HT fun aO=>?_;unfold zJ;have ee:l.length<=68719476736:=by simp[fb,eQ,e0,aX]at aO;omega
 simp;by_cases g:m-l.length<0
 ·rw[if_pos g]at aW;subst aW;exact bY
 rw[bu g]at aW;(with_reducible repeat' first|refine aP ?_|simp[g]);refine mb [0] (fun i (k:Int)=>[(1,.int .i64 k),(5,.int .i64 i)]) l.length (fun i k=>(0<=k/\k<=1048576)/\fL ft (l.drop i) k=R) (m-l.length) cq ⟨⟨Ω,Ω⟩,by simpa using aW⟩ (fun k ai _=>?_) (fun i k aq ai _=>?_)
 ·obtain⟨_,ai⟩:=ai;rw[List.drop_length]at ai;simp only[fL]at ai;subst ai;exact bY
 ·obtain⟨⟨eW,b5⟩,ai⟩:=ai;obtain⟨x,ab,bL⟩:=eM aq;have key:=av x (e9 ab) k eW b5;have hle:=sZ x k eW;rw[yx ab]at ai;simp only[fL]at ai;generalize ft x k=q at key hle ai;clear ab;by_cases bP:q<0
  ·rw[if_pos bP]at ai;subst ai;exact bY
  ·rw[bu bP]at ai;simp[aq,bL];((with_reducible repeat' first|refine aP ?_|refine aC key ?_|refine aD key ?_|simp[aq,bL,bP]|((first|apply b7|apply b9|apply b8)<;>intro h<;>try simp at h))<;>(try exact cn));all_goals exact cj.rng q aq ⟨⟨Ω,Ω⟩,ai⟩ cq
theorem JJ(l:List aU)(av:∀x∈l,bF aF 260 [enc x] (enc x)):bF aF 227 [.slice 4 .no (l.map enc)] (.slice 4 .no (l.map enc)):=by
 refine bq l2 M3 Rn fun aO=>?_;unfold Ei;have ee:l.length<=68719476736:=by simp[fb,eQ,e0,aX]at aO;omega
 simp;all_goals first|(refine⟨by unfold aX;omega,?_⟩)|skip
 (with_reducible repeat' first|refine aP ?_|simp);have eb:∀(S:aw->Prop) (n:Nat),aB S (List.replicate n (.agg [.int .i64 0,.int .i64 0,.str [],.slice 4 .nil []]))=True:=fun S n=>eq_true (uf S _ (by simp[aH,aB]) n);refine fv (fun i (_:Unit)=>⟨[(0,.slice 4 .no (l.map enc)),(3,.row 4 (.loc 0) l.length),(4,.int .i64 i)],[],[(.loc 0,⟨l.length,40,4,some (hD enc (.agg [.int .i64 0,.int .i64 0,.str [],.slice 4 .nil []]) l i)⟩)],1,[]⟩) l.length (fun _ _=>True) () ⟨by simp[fresh,aB,aH,bV,aK,Pv.look,nn,eb],dW (by simp[fresh,aB,aH,bV,aK,Pv.look,nn,eb]),dY (by simp[fresh,aB,aH,dJ,aK,Pv.look,nn,eb]),Ψ⟩ trivial (fun _ _ _=>?_) (fun i _ aq _ _=>?_)
 ·rw[yE];exact bY
 ·obtain⟨x,ab,bL⟩:=eM aq;have key:=av x (e9 ab);have aj:=yF enc (.agg [.int .i64 0,.int .i64 0,.str [],.slice 4 .nil []]) l aq;have aR:=yG enc (.agg [.int .i64 0,.int .i64 0,.str [],.slice 4 .nil []]) l ab;have bm:∀S:aw->Prop,aB S (hD enc (.agg [.int .i64 0,.int .i64 0,.str [],.slice 4 .nil []]) l (i+1)):=fun S=>yp S _ _ _ _ (fun x=>by simp) (by simp[aH,aB]);generalize hD enc (.agg [.int .i64 0,.int .i64 0,.str [],.slice 4 .nil []]) l i=hQ at aj aR;generalize sr:hD enc (.agg [.int .i64 0,.int .i64 0,.str [],.slice 4 .nil []]) l (i+1)=dr at aR bm;clear ab;simp[aq,bL];(with_reducible repeat' first|refine aP ?_|refine aC key ?_|refine aD key ?_|simp[aq,bL,aj,aR]);all_goals refine cj.rng () aq trivial ?_
  all_goals rw[sr]
  all_goals first
   |exact⟨by simp[fresh,aB,aH,bV,aK,Pv.look,bm],dW (by simp[fresh,aB,aH,bV,aK,Pv.look,bm]),dY (by simp[fresh,aB,aH,dJ,aK,Pv.look,bm]),Ψ⟩
   |exact⟨by simp[fresh,aB,aH,bV,aK,Pv.look,bm],dW (by simp[fresh,aB,aH,bV,aK,Pv.look,bm]),dY (by simp[fresh,aB,aH,dJ,aK,Pv.look,bm];exact aR),Ψ⟩
theorem JC(l:List aU)(av:∀x∈l,bF aF 161 [enc x,enc x] (.bool true)):bF aF 91 [.slice 4 .no (l.map enc),.slice 4 .no (l.map enc)] (.bool true):=by
 refine bq l2 MU Re fun aO=>?_;unfold D9;have ee:l.length<=68719476736:=by simp[fb,eQ,e0,aX]at aO;omega
 simp;(with_reducible repeat' first|refine aP ?_|simp);refine mb [0,1] (fun i (_:Unit)=>[(5,.int .i64 i)]) l.length (fun _ _=>True) () cq trivial (fun _ _ _=>?_) (fun i _ aq _ _=>?_)
 ·exact bY
 ·obtain⟨x,ab,bL⟩:=eM aq;have key:=av x (e9 ab);clear ab;exact nq
theorem T3(t:bC)(hw:t.wf):∀m:Int,0<=m->m<=1048576->bF aF 259 [t.e,.int .i64 m] (.int .i64 (ft t m)):=by
 suffices H:∀(k:Nat) (t:bC),t.sz<=k->t.wf->∀m:Int,0<=m->m<=1048576->bF aF 259 [t.e,.int .i64 m] (.int .i64 (ft t m))from H _ t (c7 _) hw
 intro k;clear hw t;induction k with
 |zero=>intro t aG;cases t<;>simp[bC.sz]at aG
 |succ k bb=>
  intro t aG hw m a1 I;cases t with
  |mk tk fM s a=>
   simp only[bC.wf,bC.wfL_iff]at hw;obtain⟨A9,vx⟩:=hw;have iw:m-s.len<0->ft (.mk tk fM s a) m= -1:=fun g=>by rw[zl];exact if_pos g
   have js:¬m-s.len<0->ft (.mk tk fM s a) m=eY ft (.l a) (m-s.len):=fun g=>by rw[zl];exact bu g
   generalize ft (.mk tk fM s a) m=R at iw js;have p8:=s.len_nn;have key:=fun h=>C1 (.l a) (fun p n c e=>by cases e) (fun xs e x ab=>by cases e;exact bb x (by have:=bC.szL_mem ab;simp only[bC.sz]at aG;omega) (vx x ab)) (m-s.len) h Ω;have hle:=fun h=>rD sZ (.l a) (m-s.len) h;simp only[bC.e,bC.eL_map];simp only[cV.e]at key;clear aG vx;cases s with
   |b x=>
    simp only[eg.wf,kH,aX]at A9;have g:m-x.size<0:=Ω
    have aW:=iw g;subst aW;clear iw js;clear key hle bb;simp only[eg.e];refine bq l2 qG rp fun aO=>?_;unfold pM;exact bY
   |s l=>
    simp only[eg.len]at iw js key hle;simp only[eg.e];by_cases g:m-l.length<0
    ·have aW:=iw g;subst aW;clear iw js;clear key hle bb;refine bq l2 qG rp fun aO=>?_;unfold pM;have ee:l.length<=68719476736:=by simp[fb,eQ,e0,aX]at aO;omega
     exact bY
    ·have aW:=js g;clear iw js;have key:=key Ω;have hle:=hle Ω;rw[<-aW]at key hle;clear aW bb;by_cases bP:R<0
     ·have:R= -1:=Ω
      subst this;refine bq l2 qG rp fun aO=>?_;unfold pM;have ee:l.length<=68719476736:=by simp[fb,eQ,e0,aX]at aO;omega
      exact bY
     ·refine bq l2 qG rp fun aO=>?_;unfold pM;have ee:l.length<=68719476736:=by simp[fb,eQ,e0,aX]at aO;omega
      exact bY
  |big tk fM s p n c=>
   simp only[bC.wf]at hw;obtain⟨A9,vx⟩:=hw;have iw:m-s.len<0->ft (.big tk fM s p n c) m= -1:=fun g=>by rw[zl];exact if_pos g
   have js:¬m-s.len<0->ft (.big tk fM s p n c) m=eY ft (.b p n c) (m-s.len):=fun g=>by rw[zl];exact bu g
   generalize ft (.big tk fM s p n c) m=R at iw js;have p8:=s.len_nn;have key:=fun h=>C1 (.b p n c) (fun p n c e=>by cases e;exact vx) (fun xs e=>by cases e) (m-s.len) h Ω;have hle:=fun h=>rD sZ (.b p n c) (m-s.len) h;simp only[bC.e];simp only[cV.e]at key;clear aG vx;cases s with
   |b x=>
    simp only[eg.wf,kH,aX]at A9;have g:m-x.size<0:=Ω
    have aW:=iw g;subst aW;clear iw js;clear key hle bb;simp only[eg.e];refine bq l2 qG rp fun aO=>?_;unfold pM;exact bY
   |s l=>
    simp only[eg.len]at iw js key hle;simp only[eg.e];by_cases g:m-l.length<0
    ·have aW:=iw g;subst aW;clear iw js;clear key hle bb;refine bq l2 qG rp fun aO=>?_;unfold pM;have ee:l.length<=68719476736:=by simp[fb,eQ,e0,aX]at aO;omega
     exact bY
    ·have aW:=js g;clear iw js;have key:=key Ω;have hle:=hle Ω;rw[<-aW]at key hle;clear aW bb;by_cases bP:R<0
     ·have:R= -1:=Ω
      subst this;refine bq l2 qG rp fun aO=>?_;unfold pM;have ee:l.length<=68719476736:=by simp[fb,eQ,e0,aX]at aO;omega
      exact bY
     ·refine bq l2 qG rp fun aO=>?_;unfold pM;have ee:l.length<=68719476736:=by simp[fb,eQ,e0,aX]at aO;omega
      exact bY
theorem Uc(t:aU):bF aF 260 [enc t] (enc t):=by
 suffices H:∀(k:Nat) (t:aU),t.sz<=k->bF aF 260 [enc t] (enc t)from H _ t (c7 _)
 intro k;induction k with
 |zero=>intro t aG;cases t;simp[aU.sz]at aG
 |succ k bb=>intro t aG;have key:=JJ t.args (fun x ab=>bb x (by have:=CQ ab;omega));clear bb;refine bq l2 M2 Rm fun aO=>?_;unfold Eh;exact bY
theorem TC(t:aU):bF aF 161 [enc t,enc t] (.bool true):=by
 suffices H:∀(k:Nat) (t:aU),t.sz<=k->bF aF 161 [enc t,enc t] (.bool true)from H _ t (c7 _)
 intro k;induction k with
 |zero=>intro t aG;cases t;simp[aU.sz]at aG
 |succ k bb=>intro t aG;have key:=JC t.args (fun x ab=>bb x (by have:=CQ ab;omega));clear bb;refine bq l2 MT Rc fun aO=>?_;unfold D8;exact bY
inductive bN where
 |mk (k:Int) (s:eg) (t:cV bC) (g:List bN)
 |big (k:Int) (s:eg) (t:cV bC) (p:bf Addr) (len cap:Nat)
def l0(t:cV bC):ae:=t.e 4 bC.e
mutual
def bN.e:bN->ae
 | .mk k s t g=>.agg [.int .i64 k,s.e,l0 t,.slice 4 .no (bN.eL g)]
 | .big k s t p len cap=>.agg [.int .i64 k,s.e,l0 t,.cst (.slice p len cap)]
def bN.eL:List bN->List ae
 |[]=>[]
 |x::xs=>x.e::bN.eL xs
end
theorem bN.eL_map:∀l,bN.eL l=l.map bN.e
 |[]=>rfl
 |x::xs=>by simp[bN.eL,bN.eL_map xs]
def bN.kind:bN->Int| .mk k _ _ _=>k| .big k _ _ _ _ _=>k
def bN.name:bN->eg| .mk _ s _ _=>s| .big _ s _ _ _ _=>s
def bN.ts:bN->cV bC| .mk _ _ t _=>t| .big _ _ t _ _ _=>t
def bN.gs:bN->cV bN| .mk _ _ _ a=>.l a| .big _ _ _ p l c=>.b p l c
theorem bN.e_eq(t:bN):t.e= .agg [.int .i64 t.kind,t.name.e,l0 t.ts,t.gs.e 4 bN.e]:=by
 cases t with
 |mk k n s a=>simp only[bN.e,bN.eL_map];rfl
 |big=>rfl
@[simp]theorem Xa(S:aw->Prop)(d:cV bC):aH S (l0 d)=True:=Qe S d
@[simp]theorem Yw(d:cV bC):cg (l0 d)=l0 d:=S0 d
mutual
theorem Hl(S:aw->Prop):∀t:bN,aH S t.e
 | .mk k n s a=>by simp[bN.e,aH,aB,Bu S a]
 | .big k n s p l c=>by simp[bN.e,aH,aB]
theorem Bu(S:aw->Prop):∀l:List bN,aB S (bN.eL l)
 |[]=>by simp[bN.eL,aB]
 |x::xs=>by simp[bN.eL,aB,Hl S x,Bu S xs]
end
mutual
theorem IZ:∀t:bN,cg t.e=t.e
 | .mk k n s a=>by simp[bN.e,cg,cd,CJ a]
 | .big k n s p l c=>by simp[bN.e,cg,cd]
theorem CJ:∀l:List bN,cd (bN.eL l)=bN.eL l
 |[]=>by simp[bN.eL,cd]
 |x::xs=>by simp[bN.eL,cd,IZ x,CJ xs]
end
@[simp]theorem W4(S:aw->Prop)(t:bN):aH S t.e=True:=eq_true (Hl S t)
@[simp]theorem WS(S:aw->Prop)(l:List bN):aB S (l.map bN.e)=True:=by rw[<-bN.eL_map];exact eq_true (Bu S l)
@[simp]theorem Yp(t:bN):cg t.e=t.e:=IZ t
@[simp]theorem Yh(l:List bN):cd (l.map bN.e)=l.map bN.e:=by rw[<-bN.eL_map];exact CJ l
@[simp]theorem WE(t:bN):Pv.isAgg 4 t.e:=by rw[bN.e_eq];exact⟨_,rfl,rfl⟩
@[simp]theorem Qd(S:aw->Prop)(x:cV bN):aH S (x.e 4 bN.e)=True:=by cases x<;>simp[cV.e,aH]
@[simp]theorem SZ(x:cV bN):cg (x.e 4 bN.e)=x.e 4 bN.e:=by cases x<;>simp[cV.e,cg]
mutual
def bN.sz:bN->Nat
 | .mk _ _ _ a=>1+bN.szL a
 | .big _ _ _ _ _ _=>1
def bN.szL:List bN->Nat
 |[]=>0
 |x::xs=>x.sz+bN.szL xs
end
theorem bN.szL_mem:∀{l:List bN} {x:bN},x∈l->x.sz<=bN.szL l
 |y::l,x,h=>by
  rcases hT.1 h with rfl|h
  ·simp[bN.szL]
  ·have:=bN.szL_mem h;simp[bN.szL];omega
def uV(t:cV bC):Prop:=t.wf bC.wf
mutual
def bN.wf:bN->Prop
 | .mk _ s t a=>(s.wf/\uV t)/\bN.wfL a
 | .big _ s t _ l _=>(s.wf/\uV t)/\kH l
def bN.wfL:List bN->Prop
 |[]=>True
 |x::xs=>x.wf/\bN.wfL xs
end
theorem bN.wfL_iff:∀{l:List bN},bN.wfL l↔∀x∈l,x.wf
 |[]=>by simp[bN.wfL]
 |x::l=>by simp[bN.wfL,bN.wfL_iff (l:=l)]
def ou(t:cV bC)(m:Int):Int:=eY ft t m
theorem Jh(t:cV bC)(m:Int)(h:0<=m): -1<=ou t m/\ou t m<=m:=rD sZ t m h
def kk(s:eg)(t:cV bC)(m:Int):Int:=if m-s.len<0 then-1 else ou t (m-s.len)
theorem Jg(s:eg)(t:cV bC)(m:Int)(h:0<=m): -1<=kk s t m/\kk s t m<=m:=by
 have:=s.len_nn;unfold kk;split
 ·omega
 ·have:=Jh t (m-s.len) Ω;omega
mutual
def gi:bN->Int->Int
 | .mk _ s t a,m=>if kk s t m<0 then-1 else if kk s t m-a.length<0 then-1 else lY a (kk s t m-a.length)
 | .big _ _ _ _ _ _,_=> -1
def lY:List bN->Int->Int
 |[],m=>m
 |x::xs,m=>if gi x m<0 then-1 else lY xs (gi x m)
end
theorem I5:∀(l:List bN) (m:Int),lY l m=fL gi l m
 |[],m=>rfl
 |x::xs,m=>by simp only[lY,fL,I5 xs]
theorem S5(t:bN)(m:Int):gi t m=if kk t.name t.ts m<0 then-1 else eY gi t.gs (kk t.name t.ts m):=by
 cases t with
 |mk=>simp only[gi,eY,kG,I5,bN.name,bN.ts,bN.gs];rfl
 |big=>simp only[gi,eY,bN.gs];split<;>rfl
mutual
theorem uJ:∀(t:bN) (m:Int),0<=m-> -1<=gi t m/\gi t m<=m
 | .mk _ s t a,m,h=>by
  have:=Jg s t m h;simp only[gi];split
  ·omega
  ·split
   ·omega
   ·have:=I6 a (kk s t m-a.length) Ω;omega
 | .big _ _ _ _ _ _,m,h=>by simp only[gi];omega
theorem I6:∀(l:List bN) (m:Int),0<=m-> -1<=lY l m/\lY l m<=m
 |[],m,h=>by simp only[lY];omega
 |x::xs,m,h=>by
  have I:=uJ x m h;simp only[lY];split
  ·omega
  ·have J:=I6 xs (gi x m) Ω;omega
end
mutual
def lb:Gm->bN
 | .mk k s t g=>.mk k (.s s) (.l (t.map iU)) (mh g)
def mh:List Gm->List bN
 |[]=>[]
 |x::xs=>lb x::mh xs
end
theorem FR:∀l,mh l=l.map lb
 |[]=>rfl
 |x::xs=>by simp[mh,FR xs]
theorem Tk(l:List aU):(l.map iU).map bC.e=l.map enc:=by rw[List.map_map];exact List.map_congr_left fun b _=>Jm b
mutual
theorem FT:∀t:Gm,(lb t).e=t.e
 | .mk k s t g=>by have h:=FQ g;simp only[lb,bN.e,Gm.e_eq,Gm.kind,Gm.name,Gm.ts,Gm.gs,l0,cV.e,Tk,h];rfl
theorem FQ:∀l:List Gm,bN.eL (mh l)=l.map Gm.e
 |[]=>rfl
 |x::xs=>by simp only[mh,bN.eL,ez,FT x,FQ xs]
end
theorem Tb(x:cV bC)(m:Int)(hw:uV x)(I:m<=1048576)(a1:0<=m)(h:0<=ou x m):∃u:List aU,x= .l (u.map iU):=CP sZ (P:=bC.wf) Jf x m hw I a1 h
mutual
theorem I8:∀(t:bN) (m:Int),t.wf->m<=1048576->0<=m->0<=gi t m->∃u:Gm,t=lb u
 | .mk k s t a,m,hw,I,a1,h=>by
  simp only[bN.wf]at hw;have aA:=Jg s t m a1;simp only[gi]at h;split at h
  ·omega
  rename_i g;split at h
  ·omega
  obtain⟨b,af⟩:=I7 a _ hw.2 Ω Ω h;unfold kk at g;split at g
  ·omega
  obtain⟨l,rfl⟩:=eg.small hw.1.1 I Ω;obtain⟨u,rfl⟩:=Tb t (m-eg.len (.s l)) hw.1.2 (by have:=eg.len_nn (.s l);omega) Ω Ω;exact⟨.mk k l u b,by simp only[lb,af]⟩
 | .big _ _ _ _ _ _,m,_,_,_,h=>by simp only[gi]at h;omega
theorem I7:∀(l:List bN) (m:Int),bN.wfL l->m<=1048576->0<=m->0<=lY l m->∃u:List Gm,l=mh u
 |[],_,_,_,_,_=>⟨[],rfl⟩
 |x::xs,m,hw,I,a1,h=>by
  simp only[bN.wfL]at hw;simp only[lY]at h;have J:=uJ x m a1;split at h
  ·omega
  obtain⟨u,hu⟩:=I8 x m hw.1 I a1 Ω;obtain⟨v,ba⟩:=I7 xs _ hw.2 Ω Ω h;exact⟨u::v,by simp only[mh,hu,ba]⟩
end
theorem S8:∀(t:aU) (m:Int),0<=m->0<=ft (iU t) m->(t.sz:Int)<=1+m-ft (iU t) m:=by
 suffices H:(∀(t:aU) (m:Int),0<=m->0<=ft (iU t) m->(t.sz:Int)<=1+m-ft (iU t) m)from H
 intro t;refine aU.rec (motive_1:=fun t=> ∀m:Int,0<=m->0<=ft (iU t) m->(t.sz:Int)<=1+m-ft (iU t) m) (motive_2:=fun l=> ∀m:Int,0<=m->0<=lZ (mK l) m->(aU.szL l:Int)<=l.length+m-lZ (mK l) m) ?_ ?_ ?_ t
 ·intro k n s a bb m a1 h;simp only[iU,ft]at h⊢;have:=eg.len_nn (.s s);split at h
  ·omega
  rename_i g1;split at h
  ·omega
  rename_i g2;rw[bu g1,bu g2];have:=bb _ Ω h;have aA:(mK a).length=a.length:=by rw[Jl,kn]
  simp only[aU.sz];omega
 ·intro m a1 h;simp[mK,lZ,aU.szL]
 ·intro x xs Bh Bi m a1 h;simp only[mK,lZ]at h⊢;split at h
  ·omega
  rename_i g1;rw[bu g1];have I:=Bh m a1 Ω;have J:=Bi _ Ω h;simp only[aU.szL,hy];omega
theorem Tc(t:List aU)(m:Int)(a1:0<=m)(h:0<=ou (.l (t.map iU)) m):(aU.szL t:Int)<=m-ou (.l (t.map iU)) m:=by
 unfold ou at h⊢;simp only[eY,kG]at h⊢;split at h
 ·omega
 rename_i g;rw[bu g];have key:∀(l:List aU) (m:Int),0<=m->0<=fL ft (l.map iU) m->(aU.szL l:Int)<=l.length+m-fL ft (l.map iU) m:=by
  intro l;induction l with
  |nil=>intro m a1 h;simp[fL,aU.szL]
  |cons x xs bb=>
   intro m a1 h;simp only[ez,fL]at h⊢;split at h
   ·omega
   rename_i g1;rw[bu g1];have I:=S8 x m a1 Ω;have J:=bb _ Ω h;simp only[aU.szL,hy];omega
 have:=key t _ Ω h;simp only[kn]at*;omega
theorem S9(s:List bt)(t:List aU)(m:Int)(a1:0<=m)(h:0<=kk (.s s) (.l (t.map iU)) m):(s.length+aU.szL t:Int)<=m-kk (.s s) (.l (t.map iU)) m:=by
 unfold kk at h⊢;split at h
 ·omega
 rename_i g;rw[bu g];simp only[eg.len]at*;have:=Tc t _ Ω h;omega
theorem S6(g:Gm):∀m:Int,0<=m->0<=gi (lb g) m->(g.w:Int)<=1+m-gi (lb g) m:=by
 refine Gm.rec (motive_1:=fun g=> ∀m:Int,0<=m->0<=gi (lb g) m->(g.w:Int)<=1+m-gi (lb g) m) (motive_2:=fun l=> ∀m:Int,0<=m->0<=lY (mh l) m->(r4 l:Int)<=l.length+m-lY (mh l) m) ?_ ?_ ?_ g
 ·intro k s t a bb m a1 h;simp only[lb,gi]at h⊢;split at h
  ·omega
  rename_i g1;split at h
  ·omega
  rename_i g2;rw[bu g1,bu g2];have I:=S9 s t m a1 Ω;have:=bb _ Ω h;have aA:(mh a).length=a.length:=by rw[FR,kn]
  simp only[Gm.w];omega
 ·intro m a1 h;simp[mh,lY,r4]
 ·intro x xs Bh Bi m a1 h;simp only[mh,lY]at h⊢;split at h
  ·omega
  rename_i g1;rw[bu g1];have I:=Bh m a1 Ω;have J:=Bi _ Ω h;simp only[r4,hy];omega
def zE:C:=(ag [dL 1 0,b3 2 false] (ag [cl 3 1048576] (ag [bT 7 2 1,ad 8 3,en 9 10 7 8,ad 3 9] (.seq (ag [ad 10 3,aZ 11 .lss 10 0] (bg 11 (ag [b3 2 true] .ret) .skip)) (ag [bT 12 2 1,cK 13 12 12,cK 14 11 13,ad 4 14] (ag [bT 15 2 1,cK 16 12 15,dm (.alloc 5 none (.agg [.slice 7 .nil [],.slice 4 .nil []])),cI 2 5 16] (ag [bT 17 2 5,cK 18 13 17,ad 6 18] (.seq (ag [ad 19 6,ad 20 4,b2 21 .neq 19 20] (bg 21 (ag [b3 2 false] .ret) .skip)) (.seq (.seq (.drawn true 27 [bT 22 2 5,bT 23 2 1,cK 24 12 23,en 25 14 22 24,e7 26 25]) (bg 26 (ag [b3 2 false] .ret) .skip)) (ag [b3 2 true] .ret))))))))))
@[simp] def RV:List cr:=[.tmp 2]
def xg:C:=(ag [dL 2 0,cl 4 0] (ag [aL 5 0 1 2,aN 6 1 5,ad 7 1,en 8 54 6 7,ad 1 8] (.seq (ag [ad 9 1,aZ 10 .lss 9 0] (bg 10 (ag [cl 4 (-1)] .ret) .skip)) (ag [aL 11 1 1 2,aN 12 1 11,ad 13 1,en 14 55 12 13,ad 1 14] (.seq (ag [ad 15 1,aZ 16 .lss 15 0] (bg 16 (ag [cl 4 (-1)] .ret) .skip)) (ag [ad 17 1,ad 4 17] .ret))))))
@[simp] def yZ:List cr:=[.tmp 4]
def Ea:C:=(ag [dL 1 0,dm (.alloc 2 none (.agg [.slice 7 .nil [],.slice 4 .nil []]))] (ag [dm (.alloc 3 none (.agg [.slice 7 .nil [],.slice 4 .nil []]))] (ag [aL 4 0 1 1,aN 5 1 4,cK 6 60 5,aL 7 0 1 3,cI 1 7 6] (ag [aL 8 1 1 1,aN 9 1 8,cK 10 61 9,aL 11 1 1 3,cI 1 11 10] (ag [bT 12 2 3,cI 2 2 12] .ret)))))
@[simp] def Sb:List cr:=[.cell 2 true 2]
def D1:C:=(ag [dL 2 0,dL 3 1,b3 4 false] (.seq (ag [aL 5 0 1 2,aN 6 1 5,aL 7 0 1 3,aN 8 1 7,en 9 67 6 8,e7 10 9] (bg 10 (ag [b3 4 false] .ret) .skip)) (.seq (ag [aL 11 1 1 2,aN 12 1 11,aL 13 1 1 3,aN 14 1 13,en 15 68 12 14,e7 16 15] (bg 16 (ag [b3 4 false] .ret) .skip)) (ag [b3 4 true] .ret))))
@[simp] def RW:List cr:=[.tmp 4]
def zI:C:=(ag [cl 4 0] (ag [ad 6 1,ad 7 0,cw 8 7,b2 9 .sub 6 8,ad 1 9] (.seq (ag [ad 10 1,aZ 11 .lss 10 0] (bg 11 (ag [cl 4 (-1)] .ret) .skip)) (.seq (ag [cl 5 0] (.block 0 (.loop (.seq (ag [ad 12 5,ad 13 0,cw 14 13,b2 15 .lss 12 14] (bg 15 .skip (.exit 0))) (.seq (.block 1 (ag [ad 18 0,ad 19 5,dk 20 7 18 19,bT 21 7 20,ad 22 1,en 23 125 21 22,ad 1 23] (ag [ad 24 1,aZ 25 .lss 24 0] (bg 25 (ag [cl 4 (-1)] .ret) .skip)))) (.region [ad 16 5,aZ 17 .add 16 1,ad 5 17])))))) (ag [ad 26 1,ad 4 26] .ret)))))
@[simp] def R8:List cr:=[.tmp 4]
def zF:C:=(ag [cl 4 0] (ag [ad 6 1,ad 7 0,cw 8 7,b2 9 .sub 6 8,ad 1 9] (.seq (ag [ad 10 1,aZ 11 .lss 10 0] (bg 11 (ag [cl 4 (-1)] .ret) .skip)) (.seq (ag [cl 5 0] (.block 0 (.loop (.seq (ag [ad 12 5,ad 13 0,cw 14 13,b2 15 .lss 12 14] (bg 15 .skip (.exit 0))) (.seq (.block 1 (ag [ad 18 0,ad 19 5,dk 20 4 18 19,bT 21 4 20,ad 22 1,en 23 126 21 22,ad 1 23] (ag [ad 24 1,aZ 25 .lss 24 0] (bg 25 (ag [cl 4 (-1)] .ret) .skip)))) (.region [ad 16 5,aZ 17 .add 16 1,ad 5 17])))))) (ag [ad 26 1,ad 4 26] .ret)))))
@[simp] def R6:List cr:=[.tmp 4]
def Eg:C:=(ag [pB 2 7] (ag [ad 5 0,cw 6 5,dm (.mks 7 none 7 74 (.agg [.int .i64 0,.int .i64 0,.int .i64 0,.int .i64 0,.str [],.slice 4 .nil [],.slice 4 .nil []]) (.t 6)),ad 3 7] (.seq (ag [cl 4 0] (.block 0 (.loop (.seq (ag [ad 8 4,ad 9 0,cw 10 9,b2 11 .lss 8 10] (bg 11 .skip (.exit 0))) (.seq (.block 1 (.region [ad 14 3,ad 15 4,ad 16 0,ad 17 4,dk 18 7 16 17,bT 19 7 18,cK 20 133 19,dk 21 7 14 15,cI 7 21 20])) (.region [ad 12 4,aZ 13 .add 12 1,ad 4 13])))))) (.seq (.pub 3 (.region [ad 22 3,ad 2 22])) .ret))))
@[simp] def Sf:List cr:=[.tmp 2]
def Ec:C:=(ag [pB 2 4] (ag [ad 5 0,cw 6 5,dm (.mks 7 none 4 99 (.agg [.str [],.int .i64 0,.int .i64 0,.int .i64 0]) (.t 6)),ad 3 7] (.seq (ag [cl 4 0] (.block 0 (.loop (.seq (ag [ad 8 4,ad 9 0,cw 10 9,b2 11 .lss 8 10] (bg 11 .skip (.exit 0))) (.seq (.block 1 (.region [ad 14 3,ad 15 4,ad 16 0,ad 17 4,dk 18 4 16 17,bT 19 4 18,cK 20 134 19,dk 21 4 14 15,cI 4 21 20])) (.region [ad 12 4,aZ 13 .add 12 1,ad 4 13])))))) (.seq (.pub 3 (.region [ad 22 3,ad 2 22])) .ret))))
@[simp] def Il:List cr:=[.tmp 2]
def D7:C:=(ag [b3 4 false] (.seq (ag [ad 6 0,cw 7 6,ad 8 1,cw 9 8,b2 10 .neq 7 9] (bg 10 (ag [b3 4 false] .ret) .skip)) (.seq (ag [cl 5 0] (.block 0 (.loop (.seq (ag [ad 11 5,ad 12 0,cw 13 12,b2 14 .lss 11 13] (bg 14 .skip (.exit 0))) (.seq (.block 1 (.seq (.drawn true 27 [ad 17 0,ad 18 5,dk 19 7 17 18,bT 20 7 19,ad 21 1,ad 22 5,dk 23 7 21 22,bT 24 7 23,en 25 137 20 24,e7 26 25]) (bg 26 (ag [b3 4 false] .ret) .skip))) (.region [ad 15 5,aZ 16 .add 15 1,ad 5 16])))))) (ag [b3 4 true] .ret))))
@[simp] def R2:List cr:=[.tmp 4]
def D3:C:=(ag [b3 4 false] (.seq (ag [ad 6 0,cw 7 6,ad 8 1,cw 9 8,b2 10 .neq 7 9] (bg 10 (ag [b3 4 false] .ret) .skip)) (.seq (ag [cl 5 0] (.block 0 (.loop (.seq (ag [ad 11 5,ad 12 0,cw 13 12,b2 14 .lss 11 13] (bg 14 .skip (.exit 0))) (.seq (.block 1 (.seq (.drawn true 27 [ad 17 0,ad 18 5,dk 19 4 17 18,bT 20 4 19,ad 21 1,ad 22 5,dk 23 4 21 22,bT 24 4 23,en 25 138 20 24,e7 26 25]) (bg 26 (ag [b3 4 false] .ret) .skip))) (.region [ad 15 5,aZ 16 .add 15 1,ad 5 16])))))) (ag [b3 4 true] .ret))))
@[simp] def RY:List cr:=[.tmp 4]
def zH:C:=(ag [dL 2 0,cl 4 0] (ag [h7 5 3 4 2,bT 6 4 5,ad 7 1,en 8 187 6 7,ad 1 8] (.seq (ag [ad 9 1,aZ 10 .lss 9 0] (bg 10 (ag [cl 4 (-1)] .ret) .skip)) (ag [ad 11 1,ad 4 11] .ret))))
@[simp] def B9:List cr:=[.tmp 4]
def xh:C:=(ag [dL 2 0,cl 4 0] (ag [ad 5 1,aL 6 0 1 2,aN 7 1 6,bI 8 (.slen (.t 7)),b2 9 .sub 5 8,ad 1 9] (.seq (ag [ad 10 1,aZ 11 .lss 10 0] (bg 11 (ag [cl 4 (-1)] .ret) .skip)) (ag [ad 12 1,ad 4 12] .ret))))
@[simp] def R5:List cr:=[.tmp 4]
def Ef:C:=(ag [dL 1 0,dm (.alloc 2 none (.agg [.int .i64 0,.int .i64 0,.int .i64 0,.int .i64 0,.str [],.slice 4 .nil [],.slice 4 .nil []]))] (ag [dm (.alloc 3 none (.agg [.int .i64 0,.int .i64 0,.int .i64 0,.int .i64 0,.str [],.slice 4 .nil [],.slice 4 .nil []]))] (ag [aL 4 0 1 1,aN 5 1 4,aL 6 0 1 3,cI 1 6 5] (ag [aL 7 1 1 1,aN 8 1 7,aL 9 1 1 3,cI 1 9 8] (ag [aL 10 2 1 1,aN 11 1 10,aL 12 2 1 3,cI 1 12 11] (ag [h7 13 3 4 1,bT 14 4 13,cK 15 190 14,h7 16 3 4 3,cI 4 16 15] (ag [bT 17 7 3,cI 7 2 17] .ret)))))))
@[simp] def Se:List cr:=[.cell 2 true 7]
def Eb:C:=(ag [dL 1 0,dm (.alloc 2 none (.agg [.str [],.int .i64 0,.int .i64 0,.int .i64 0]))] (ag [dm (.alloc 3 none (.agg [.str [],.int .i64 0,.int .i64 0,.int .i64 0]))] (ag [aL 4 0 1 1,aN 5 1 4,aL 6 0 1 3,cI 1 6 5] (ag [aL 7 1 1 1,aN 8 1 7,aL 9 1 1 3,cI 1 9 8] (ag [aL 10 2 1 1,aN 11 1 10,aL 12 2 1 3,cI 1 12 11] (ag [aL 13 3 1 1,aN 14 1 13,aL 15 3 1 3,cI 1 15 14] (ag [bT 16 4 3,cI 4 2 16] .ret)))))))
@[simp] def Sc:List cr:=[.cell 2 true 4]
def D6:C:=(ag [dL 2 0,dL 3 1,b3 4 false] (.seq (ag [aL 5 0 1 2,aN 6 1 5,aL 7 0 1 3,aN 8 1 7,b2 9 .neq 6 8] (bg 9 (ag [b3 4 false] .ret) .skip)) (.seq (ag [aL 10 1 1 2,aN 11 1 10,aL 12 1 1 3,aN 13 1 12,b2 14 .neq 11 13] (bg 14 (ag [b3 4 false] .ret) .skip)) (.seq (ag [aL 15 2 1 2,aN 16 1 15,aL 17 2 1 3,aN 18 1 17,b2 19 .neq 16 18] (bg 19 (ag [b3 4 false] .ret) .skip)) (.seq (ag [h7 20 3 4 2,bT 21 4 20,h7 22 3 4 3,bT 23 4 22,en 24 193 21 23,e7 25 24] (bg 25 (ag [b3 4 false] .ret) .skip)) (ag [b3 4 true] .ret))))))
@[simp] def R1:List cr:=[.tmp 4]
def D2:C:=(ag [dL 2 0,dL 3 1,b3 4 false] (.seq (ag [aL 5 0 1 2,aN 6 1 5,aL 7 0 1 3,aN 8 1 7,b2 9 .neq 6 8] (bg 9 (ag [b3 4 false] .ret) .skip)) (.seq (ag [aL 10 1 1 2,aN 11 1 10,aL 12 1 1 3,aN 13 1 12,b2 14 .neq 11 13] (bg 14 (ag [b3 4 false] .ret) .skip)) (.seq (ag [aL 15 2 1 2,aN 16 1 15,aL 17 2 1 3,aN 18 1 17,b2 19 .neq 16 18] (bg 19 (ag [b3 4 false] .ret) .skip)) (.seq (ag [aL 20 3 1 2,aN 21 1 20,aL 22 3 1 3,aN 23 1 22,b2 24 .neq 21 23] (bg 24 (ag [b3 4 false] .ret) .skip)) (ag [b3 4 true] .ret))))))
@[simp] def RX:List cr:=[.tmp 4]
def tq:C:=(ag [dL 2 0,cl 4 0] (ag [ad 5 1,aL 6 1 1 2,aN 7 1 6,bI 8 (.slen (.t 7)),b2 9 .sub 5 8,ad 1 9] (.seq (ag [ad 10 1,aZ 11 .lss 10 0] (bg 11 (ag [cl 4 (-1)] .ret) .skip)) (ag [aL 12 2 1 2,aN 13 1 12,ad 14 1,en 15 224 13 14,ad 1 15] (.seq (ag [ad 16 1,aZ 17 .lss 16 0] (bg 17 (ag [cl 4 (-1)] .ret) .skip)) (ag [aL 18 3 1 2,aN 19 1 18,ad 20 1,en 21 225 19 20,ad 1 21] (.seq (ag [ad 22 1,aZ 23 .lss 22 0] (bg 23 (ag [cl 4 (-1)] .ret) .skip)) (ag [ad 24 1,ad 4 24] .ret))))))))
@[simp] def B8:List cr:=[.tmp 4]
def Ed:C:=(ag [dL 1 0,dm (.alloc 2 none (.agg [.int .i64 0,.str [],.slice 4 .nil [],.slice 4 .nil []]))] (ag [dm (.alloc 3 none (.agg [.int .i64 0,.str [],.slice 4 .nil [],.slice 4 .nil []]))] (ag [aL 4 0 1 1,aN 5 1 4,aL 6 0 1 3,cI 1 6 5] (ag [aL 7 1 1 1,aN 8 1 7,aL 9 1 1 3,cI 1 9 8] (ag [aL 10 2 1 1,aN 11 1 10,cK 12 227 11,aL 13 2 1 3,cI 1 13 12] (ag [aL 14 3 1 1,aN 15 1 14,cK 16 228 15,aL 17 3 1 3,cI 1 17 16] (ag [bT 18 4 3,cI 4 2 18] .ret)))))))
@[simp] def Sd:List cr:=[.cell 2 true 4]
def D4:C:=(ag [dL 2 0,dL 3 1,b3 4 false] (.seq (ag [aL 5 0 1 2,aN 6 1 5,aL 7 0 1 3,aN 8 1 7,b2 9 .neq 6 8] (bg 9 (ag [b3 4 false] .ret) .skip)) (.seq (ag [aL 10 1 1 2,aN 11 1 10,aL 12 1 1 3,aN 13 1 12,b2 14 .neq 11 13] (bg 14 (ag [b3 4 false] .ret) .skip)) (.seq (ag [aL 15 2 1 2,aN 16 1 15,aL 17 2 1 3,aN 18 1 17,en 19 91 16 18,e7 20 19] (bg 20 (ag [b3 4 false] .ret) .skip)) (.seq (ag [aL 21 3 1 2,aN 22 1 21,aL 23 3 1 3,aN 24 1 23,en 25 230 22 24,e7 26 25] (bg 26 (ag [b3 4 false] .ret) .skip)) (ag [b3 4 true] .ret))))))
@[simp] def RZ:List cr:=[.tmp 4]
def zG:C:=(ag [cl 4 0] (ag [ad 6 1,ad 7 0,cw 8 7,b2 9 .sub 6 8,ad 1 9] (.seq (ag [ad 10 1,aZ 11 .lss 10 0] (bg 11 (ag [cl 4 (-1)] .ret) .skip)) (.seq (ag [cl 5 0] (.block 0 (.loop (.seq (ag [ad 12 5,ad 13 0,cw 14 13,b2 15 .lss 12 14] (bg 15 .skip (.exit 0))) (.seq (.block 1 (ag [ad 18 0,ad 19 5,dk 20 4 18 19,bT 21 4 20,ad 22 1,en 23 187 21 22,ad 1 23] (ag [ad 24 1,aZ 25 .lss 24 0] (bg 25 (ag [cl 4 (-1)] .ret) .skip)))) (.region [ad 16 5,aZ 17 .add 16 1,ad 5 17])))))) (ag [ad 26 1,ad 4 26] .ret)))))
@[simp] def R7:List cr:=[.tmp 4]
def Ee:C:=(ag [pB 2 4] (ag [ad 5 0,cw 6 5,dm (.mks 7 none 4 65 (.agg [.int .i64 0,.str [],.slice 4 .nil [],.slice 4 .nil []]) (.t 6)),ad 3 7] (.seq (ag [cl 4 0] (.block 0 (.loop (.seq (ag [ad 8 4,ad 9 0,cw 10 9,b2 11 .lss 8 10] (bg 11 .skip (.exit 0))) (.seq (.block 1 (.region [ad 14 3,ad 15 4,ad 16 0,ad 17 4,dk 18 4 16 17,bT 19 4 18,cK 20 190 19,dk 21 4 14 15,cI 4 21 20])) (.region [ad 12 4,aZ 13 .add 12 1,ad 4 13])))))) (.seq (.pub 3 (.region [ad 22 3,ad 2 22])) .ret))))
@[simp] def Im:List cr:=[.tmp 2]
def D5:C:=(ag [b3 4 false] (.seq (ag [ad 6 0,cw 7 6,ad 8 1,cw 9 8,b2 10 .neq 7 9] (bg 10 (ag [b3 4 false] .ret) .skip)) (.seq (ag [cl 5 0] (.block 0 (.loop (.seq (ag [ad 11 5,ad 12 0,cw 13 12,b2 14 .lss 11 13] (bg 14 .skip (.exit 0))) (.seq (.block 1 (.seq (.drawn true 27 [ad 17 0,ad 18 5,dk 19 4 17 18,bT 20 4 19,ad 21 1,ad 22 5,dk 23 4 21 22,bT 24 4 23,en 25 193 20 24,e7 26 25]) (bg 26 (ag [b3 4 false] .ret) .skip))) (.region [ad 15 5,aZ 16 .add 15 1,ad 5 16])))))) (ag [b3 4 true] .ret))))
@[simp] def R0:List cr:=[.tmp 4]
def iF:List (Nat×cR):=[
 (3,⟨1,8,.int .i64,.int .i64 0⟩),
 (9,⟨1,16,.str,.str []⟩),
 (22,⟨1,24,.slice 172,.slice 7 .nil []⟩),
 (23,⟨1,24,.slice 174,.slice 4 .nil []⟩),
 (25,⟨2,48,.struct [(0,22),(1,23)],.agg [.slice 7 .nil [],.slice 4 .nil []]⟩),
 (28,⟨1,24,.slice 74,.slice 7 .nil []⟩),
 (29,⟨1,24,.slice 99,.slice 4 .nil []⟩),
 (31,⟨2,48,.struct [(0,28),(1,29)],.agg [.slice 7 .nil [],.slice 4 .nil []]⟩),
 (38,⟨1,24,.slice 40,.slice 4 .nil []⟩),
 (63,⟨1,24,.slice 65,.slice 4 .nil []⟩),
 (65,⟨4,72,.struct [(0,3),(1,9),(2,38),(3,63)],.agg [.int .i64 0,.str [],.slice 4 .nil [],.slice 4 .nil []]⟩),
 (74,⟨7,96,.struct [(0,3),(1,3),(2,3),(3,65)],.agg [.int .i64 0,.int .i64 0,.int .i64 0,.int .i64 0,.str [],.slice 4 .nil [],.slice 4 .nil []]⟩),
 (99,⟨4,40,.struct [(0,9),(1,3),(2,3),(3,3)],.agg [.str [],.int .i64 0,.int .i64 0,.int .i64 0]⟩),
 (167,⟨1,24,.slice 282,.slice 4 .nil []⟩),
 (168,⟨1,24,.slice 170,.slice 4 .nil []⟩),
 (170,⟨4,72,.struct [(0,3),(1,9),(2,167),(3,168)],.agg [.int .i64 0,.str [],.slice 4 .nil [],.slice 4 .nil []]⟩),
 (172,⟨7,96,.struct [(0,3),(1,3),(2,3),(3,170)],.agg [.int .i64 0,.int .i64 0,.int .i64 0,.int .i64 0,.str [],.slice 4 .nil [],.slice 4 .nil []]⟩),
 (174,⟨4,40,.struct [(0,9),(1,3),(2,3),(3,3)],.agg [.str [],.int .i64 0,.int .i64 0,.int .i64 0]⟩)]
theorem fW:fm aF iF=true:=by kernel_rfl
theorem HO:cG iF zE RV 1 h9=true:=by kernel_rfl
theorem Fj:aF.funcs[(3:Nat)]? =some h9:=Tryz.func3
theorem BZ:cG iF xg yZ 2 Tryz.f10=true:=by kernel_rfl
theorem Ah:aF.funcs[(10:Nat)]? =some Tryz.f10:=Tryz.func10
theorem Rf:cG iF Ea Sb 1 Tryz.f12=true:=by kernel_rfl
theorem MV:aF.funcs[(12:Nat)]? =some Tryz.f12:=Tryz.func12
theorem Q5:cG iF D1 RW 2 Tryz.f14=true:=by kernel_rfl
theorem MM:aF.funcs[(14:Nat)]? =some Tryz.f14:=Tryz.func14
theorem HS:cG iF zI R8 2 Tryz.f54=true:=by kernel_rfl
theorem Fo:aF.funcs[(54:Nat)]? =some Tryz.f54:=Tryz.func54
theorem HP:cG iF zF R6 2 Tryz.f55=true:=by kernel_rfl
theorem Fk:aF.funcs[(55:Nat)]? =some Tryz.f55:=Tryz.func55
theorem Rl:cG iF Eg Sf 1 Tryz.f60=true:=by kernel_rfl
theorem M1:aF.funcs[(60:Nat)]? =some Tryz.f60:=Tryz.func60
theorem Rh:cG iF Ec Il 1 Tryz.f61=true:=by kernel_rfl
theorem MX:aF.funcs[(61:Nat)]? =some Tryz.f61:=Tryz.func61
theorem Rb:cG iF D7 R2 2 Tryz.f67=true:=by kernel_rfl
theorem MS:aF.funcs[(67:Nat)]? =some Tryz.f67:=Tryz.func67
theorem Q7:cG iF D3 RY 2 Tryz.f68=true:=by kernel_rfl
theorem MO:aF.funcs[(68:Nat)]? =some Tryz.f68:=Tryz.func68
theorem HR:cG iF zH B9 2 Tryz.f125=true:=by kernel_rfl
theorem Fm:aF.funcs[(125:Nat)]? =some Tryz.f125:=Tryz.func125
theorem B0:cG iF xh R5 2 Tryz.f126=true:=by kernel_rfl
theorem Ai:aF.funcs[(126:Nat)]? =some Tryz.f126:=Tryz.func126
theorem Rk:cG iF Ef Se 1 Tryz.f133=true:=by kernel_rfl
theorem M0:aF.funcs[(133:Nat)]? =some Tryz.f133:=Tryz.func133
theorem Rg:cG iF Eb Sc 1 Tryz.f134=true:=by kernel_rfl
theorem MW:aF.funcs[(134:Nat)]? =some Tryz.f134:=Tryz.func134
theorem Ra:cG iF D6 R1 2 Tryz.f137=true:=by kernel_rfl
theorem MR:aF.funcs[(137:Nat)]? =some Tryz.f137:=Tryz.func137
theorem Q6:cG iF D2 RX 2 Tryz.f138=true:=by kernel_rfl
theorem MN:aF.funcs[(138:Nat)]? =some Tryz.f138:=Tryz.func138
theorem wk:cG iF tq B8 2 Tryz.f187=true:=by kernel_rfl
theorem vl:aF.funcs[(187:Nat)]? =some Tryz.f187:=Tryz.func187
theorem Ri:cG iF Ed Sd 1 Tryz.f190=true:=by kernel_rfl
theorem MY:aF.funcs[(190:Nat)]? =some Tryz.f190:=Tryz.func190
theorem Q8:cG iF D4 RZ 2 Tryz.f193=true:=by kernel_rfl
theorem MP:aF.funcs[(193:Nat)]? =some Tryz.f193:=Tryz.func193
theorem HQ:cG iF zG R7 2 Tryz.f225=true:=by kernel_rfl
theorem Fl:aF.funcs[(225:Nat)]? =some Tryz.f225:=Tryz.func225
theorem Rj:cG iF Ee Im 1 Tryz.f228=true:=by kernel_rfl
theorem MZ:aF.funcs[(228:Nat)]? =some Tryz.f228:=Tryz.func228
theorem Q9:cG iF D5 R0 2 Tryz.f230=true:=by kernel_rfl
theorem MQ:aF.funcs[(230:Nat)]? =some Tryz.f230:=Tryz.func230
theorem T4(d:cV bC)(hw:uV d)(m:Int)(a1:0<=m)(I:m<=1048576):bF aF 224 [l0 d,.int .i64 m] (.int .i64 (ou d m)):=C1 d (fun p n c e=>by subst e;exact hw) (fun xs e x ab m a1 I=>by subst e;exact T3 x (hw x ab) m a1 I) m a1 I
theorem Ud(d:List aU):bF aF 227 [.slice 4 .no (d.map enc)] (.slice 4 .no (d.map enc)):=JJ d fun x _=>Uc x
theorem TD(d:List aU):bF aF 91 [.slice 4 .no (d.map enc),.slice 4 .no (d.map enc)] (.bool true):=JC d fun x _=>TC x
theorem JI(l:cV bN)(hw:∀p n cap,l= .b p n cap->kH n)(av:∀xs,l= .l xs->∀x∈xs,∀m,0<=m->m<=1048576->bF aF 187 [bN.e x,.int .i64 m] (.int .i64 (gi x m)))(m:Int)(a1:0<=m)(I:m<=1048576):bF aF 225 [l.e 4 bN.e,.int .i64 m] (.int .i64 (eY gi l m)):=by
 cases l with
 |b p n cap=>
  have aS:=hw p n cap rfl;simp only[kH,aX]at aS;have g:m-n<0:=Ω
  simp only[cV.e,eY];clear hw av;refine bq fW Fl HQ fun aO=>?_;unfold zG;exact bY
 |l l=>
 have av:=av l rfl;clear hw;simp only[cV.e,eY];generalize aW:kG gi l m=R;unfold kG at aW;refine bq fW Fl HQ fun aO=>?_;unfold zG;have ee:l.length<=68719476736:=by simp[fb,eQ,e0,aX]at aO;omega
 simp;by_cases g:m-l.length<0
 ·rw[if_pos g]at aW;subst aW;exact bY
 rw[bu g]at aW;(with_reducible repeat' first|refine aP ?_|simp[g]);refine mb [0] (fun i (k:Int)=>[(1,.int .i64 k),(5,.int .i64 i)]) l.length (fun i k=>(0<=k/\k<=1048576)/\fL gi (l.drop i) k=R) (m-l.length) cq ⟨⟨Ω,Ω⟩,by simpa using aW⟩ (fun k ai _=>?_) (fun i k aq ai _=>?_)
 ·obtain⟨_,ai⟩:=ai;rw[List.drop_length]at ai;simp only[fL]at ai;subst ai;exact bY
 ·obtain⟨⟨eW,b5⟩,ai⟩:=ai;obtain⟨x,ab,bL⟩:=eM aq;have key:=av x (e9 ab) k eW b5;have hle:=uJ x k eW;rw[yx ab]at ai;simp only[fL]at ai;generalize gi x k=q at key hle ai;clear ab;by_cases bP:q<0
  ·rw[if_pos bP]at ai;subst ai;exact bY
  ·rw[bu bP]at ai;simp[aq,bL];((with_reducible repeat' first|refine aP ?_|refine aC key ?_|refine aD key ?_|simp[aq,bL,bP]|((first|apply b7|apply b9|apply b8)<;>intro h<;>try simp at h))<;>(try exact cn));all_goals exact cj.rng q aq ⟨⟨Ω,Ω⟩,ai⟩ cq
theorem T9(l:List Gm)(av:∀x∈l,bF aF 190 [Gm.e x] (Gm.e x)):bF aF 228 [.slice 4 .no (l.map Gm.e)] (.slice 4 .no (l.map Gm.e)):=by
 refine bq fW MZ Rj fun aO=>?_;unfold Ee;have ee:l.length<=68719476736:=by simp[fb,eQ,e0,aX]at aO;omega
 simp;all_goals first|(refine⟨by unfold aX;omega,?_⟩)|skip
 ((with_reducible repeat' first|refine aP ?_|simp|((first|apply b7|apply b9|apply b8)<;>intro h<;>try simp at h))<;>(try exact cn));have eb:∀(S:aw->Prop) (n:Nat),aB S (List.replicate n (.agg [.int .i64 0,.str [],.slice 4 .nil [],.slice 4 .nil []]))=True:=fun S n=>eq_true (uf S _ (by simp[aH,aB]) n);refine fv (fun i (_:Unit)=>⟨[(0,.slice 4 .no (l.map Gm.e)),(3,.row 4 (.loc 0) l.length),(4,.int .i64 i)],[],[(.loc 0,⟨l.length,65,4,some (hD Gm.e (.agg [.int .i64 0,.str [],.slice 4 .nil [],.slice 4 .nil []]) l i)⟩)],1,[]⟩) l.length (fun _ _=>True) () ⟨by simp[fresh,aB,aH,bV,aK,Pv.look,nn,eb],dW (by simp[fresh,aB,aH,bV,aK,Pv.look,nn,eb]),dY (by simp[fresh,aB,aH,dJ,aK,Pv.look,nn,eb]),Ψ⟩ trivial (fun _ _ _=>?_) (fun i _ aq _ _=>?_)
 ·rw[yE];simp;((with_reducible repeat' first|refine aP ?_|simp|((first|apply b7|apply b9|apply b8)<;>intro h<;>try simp at h))<;>(try exact cn));simp[bJ,Im,bp,bz,bo]
 ·obtain⟨x,ab,bL⟩:=eM aq;have key:=av x (e9 ab);have aj:=yF Gm.e (.agg [.int .i64 0,.str [],.slice 4 .nil [],.slice 4 .nil []]) l aq;have aR:=yG Gm.e (.agg [.int .i64 0,.str [],.slice 4 .nil [],.slice 4 .nil []]) l ab;have bm:∀S:aw->Prop,aB S (hD Gm.e (.agg [.int .i64 0,.str [],.slice 4 .nil [],.slice 4 .nil []]) l (i+1)):=fun S=>yp S _ _ _ _ (fun x=>by simp) (by simp[aH,aB]);generalize hD Gm.e (.agg [.int .i64 0,.str [],.slice 4 .nil [],.slice 4 .nil []]) l i=hQ at aj aR;generalize sr:hD Gm.e (.agg [.int .i64 0,.str [],.slice 4 .nil [],.slice 4 .nil []]) l (i+1)=dr at aR bm;clear ab;simp[aq,bL];((with_reducible repeat' first|refine aP ?_|refine aC key ?_|refine aD key ?_|simp[aq,bL,aj,aR]|((first|apply b7|apply b9|apply b8)<;>intro h<;>try simp at h))<;>(try exact cn));all_goals refine cj.rng () aq trivial ?_
  all_goals rw[sr]
  all_goals first
   |exact⟨by simp[fresh,aB,aH,bV,aK,Pv.look,bm],dW (by simp[fresh,aB,aH,bV,aK,Pv.look,bm]),dY (by simp[fresh,aB,aH,dJ,aK,Pv.look,bm]),Ψ⟩
   |exact⟨by simp[fresh,aB,aH,bV,aK,Pv.look,bm],dW (by simp[fresh,aB,aH,bV,aK,Pv.look,bm]),dY (by simp[fresh,aB,aH,dJ,aK,Pv.look,bm];exact aR),Ψ⟩
theorem Tz(l:List Gm)(av:∀x∈l,bF aF 193 [Gm.e x,Gm.e x] (.bool true)):bF aF 230 [.slice 4 .no (l.map Gm.e),.slice 4 .no (l.map Gm.e)] (.bool true):=by
 refine bq fW MQ Q9 fun aO=>?_;unfold D5;have ee:l.length<=68719476736:=by simp[fb,eQ,e0,aX]at aO;omega
 simp;(with_reducible repeat' first|refine aP ?_|simp);refine mb [0,1] (fun i (_:Unit)=>[(5,.int .i64 i)]) l.length (fun _ _=>True) () cq trivial (fun _ _ _=>?_) (fun i _ aq _ _=>?_)
 ·exact bY
 ·obtain⟨x,ab,bL⟩:=eM aq;have key:=av x (e9 ab);clear ab;exact nq
def nc(d:cV bN):ae:=d.e 4 bN.e
@[simp]theorem W5(S:aw->Prop)(d:cV bN):aH S (nc d)=True:=Qd S d
@[simp]theorem Yq(d:cV bN):cg (nc d)=nc d:=SZ d
theorem I9(k:Int)(s:eg)(t:cV bC)(gs:cV bN)(al:s.wf)(aG:uV t)(aa:∀q:Int,0<=q->q<=1048576->bF aF 225 [nc gs,.int .i64 q] (.int .i64 (eY gi gs q)))(m:Int)(a1:0<=m)(I:m<=1048576):
  bF aF 187 [.agg [.int .i64 k,s.e,l0 t,nc gs],.int .i64 m] (.int .i64 (if kk s t m<0 then-1 else eY gi gs (kk s t m))):=by
 generalize aW:(if kk s t m<0 then-1 else eY gi gs (kk s t m))=R;unfold kk at aW;cases s with
 |b x=>
  simp only[eg.wf,kH,aX]at al;have g:m-x.size<0:=Ω
  have du:m-(eg.b x).len<0:=g;rw[if_pos du,if_pos Ω]at aW;clear du;subst aW;clear aa;simp only[eg.e];refine bq fW vl wk fun aO=>?_;unfold tq;simp;((with_reducible repeat' first|refine aP ?_|simp[g]|((first|apply b7|apply b9|apply b8)<;>intro h<;>try simp at h))<;>(try exact cn));all_goals simp[bJ,B8,bp,bz,bo]
 |s l=>
  simp only[eg.e];clear al;by_cases g:m-l.length<0
  ·have du:m-(eg.s l).len<0:=g;rw[if_pos du,if_pos Ω]at aW;subst aW;clear aa du;refine bq fW vl wk fun aO=>?_;unfold tq;have ee:l.length<=68719476736:=by simp[fb,eQ,e0,aX]at aO;omega
   simp;((with_reducible repeat' first|refine aP ?_|simp|((first|apply b7|apply b9|apply b8)<;>intro h<;>try simp at h))<;>(try exact cn));all_goals simp[bJ,B8,bp,bz,bo]
  have du:¬m-(eg.s l).len<0:=g;rw[bu du]at aW;clear du;replace aW:(if ou t (m-l.length)<0 then-1 else eY gi gs (ou t (m-l.length)))=R:=aW;have eA:=T4 t aG (m-l.length) Ω Ω;have cC:=Jh t (m-l.length) Ω;generalize ou t (m-l.length)=q at eA cC aW;by_cases bP:q<0
  ·rw[if_pos bP]at aW;subst aW;have:q= -1:=Ω
   subst this;clear aa;refine bq fW vl wk fun aO=>?_;unfold tq;have ee:l.length<=68719476736:=by simp[fb,eQ,e0,aX]at aO;omega
   exact bY
  rw[bu bP]at aW;have cc:=aa q Ω Ω;have jL:=rD uJ gs q Ω;rw[aW]at cc jL;clear aa aW;by_cases bB:R<0
  ·have:R= -1:=Ω
   subst this;refine bq fW vl wk fun aO=>?_;unfold tq;have ee:l.length<=68719476736:=by simp[fb,eQ,e0,aX]at aO;omega
   exact bY
  ·refine bq fW vl wk fun aO=>?_;unfold tq;have ee:l.length<=68719476736:=by simp[fb,eQ,e0,aX]at aO;omega
   exact bY
theorem T0(t:bN)(hw:t.wf):∀m:Int,0<=m->m<=1048576->bF aF 187 [t.e,.int .i64 m] (.int .i64 (gi t m)):=by
 suffices H:∀(k:Nat) (t:bN),t.sz<=k->t.wf->∀m:Int,0<=m->m<=1048576->bF aF 187 [t.e,.int .i64 m] (.int .i64 (gi t m))from H _ t (c7 _) hw
 intro k;clear hw t;induction k with
 |zero=>intro t aG;cases t<;>simp[bN.sz]at aG
 |succ k bb=>
  intro t aG hw m a1 I;rw[S5,bN.e_eq];cases t with
  |mk tk s t a=>simp only[bN.wf,bN.wfL_iff]at hw;exact I9 tk s t (.l a) hw.1.1 hw.1.2 (JI (.l a) (fun p n c e=>by cases e) fun xs e x ab=>by cases e;exact bb x (by have:=bN.szL_mem ab;simp only[bN.sz]at aG;omega) (hw.2 x ab)) m a1 I
  |big tk s t p n c=>simp only[bN.wf]at hw;exact I9 tk s t (.b p n c) hw.1.1 hw.1.2 (JI (.b p n c) (fun p n c e=>by cases e;exact hw.2) fun xs e=>by cases e) m a1 I
theorem T8(t:Gm):bF aF 190 [t.e] t.e:=by
 suffices H:∀(k:Nat) (t:Gm),t.sz<=k->bF aF 190 [t.e] t.e from H _ t (c7 _)
 intro k;induction k with
 |zero=>intro t aG;have:=t.sz_pos;omega
 |succ k bb=>intro t aG;have key:=T9 t.gs (fun x ab=>bb x (by have:=t.gs_lt ab;omega));have eA:=Ud t.ts;clear bb;refine bq fW MY Ri fun aO=>?_;unfold Ed;exact bY
theorem Ty(t:Gm):bF aF 193 [t.e,t.e] (.bool true):=by
 suffices H:∀(k:Nat) (t:Gm),t.sz<=k->bF aF 193 [t.e,t.e] (.bool true)from H _ t (c7 _)
 intro k;induction k with
 |zero=>intro t aG;have:=t.sz_pos;omega
 |succ k bb=>intro t aG;have key:=Tz t.gs (fun x ab=>bb x (by have:=t.gs_lt ab;omega));have eA:=TD t.ts;clear bb;refine bq fW MP Q8 fun aO=>?_;unfold D4;exact bY
structure gn where
 op:Int
 a:Int
 b:Int
 g:bN
def gn.e(x:gn):ae:= .agg [.int .i64 x.op,.int .i64 x.a,.int .i64 x.b,.int .i64 x.g.kind,x.g.name.e,l0 x.g.ts,nc x.g.gs]
@[simp]theorem W7(S:aw->Prop)(b:gn):aH S b.e=True:=by simp[gn.e,aH,aB]
@[simp]theorem Ys(b:gn):cg b.e=b.e:=by simp[gn.e,cg,cd]
theorem Hg(S:aw->Prop):∀l:List gn,aB S (l.map gn.e)
 |[]=>by simp[aB]
 |x::xs=>by simp[aB,Hg S xs]
@[simp]theorem WT(S:aw->Prop)(l:List gn):aB S (l.map gn.e)=True:=eq_true (Hg S l)
@[simp]theorem X6(b:gn):dE b.e=true:=rfl
@[simp]theorem WG(b:gn):Pv.isAgg 7 b.e:=⟨_,rfl,rfl⟩
@[simp]theorem Vn(b:gn):cells b.e=[.int .i64 b.op,.int .i64 b.a,.int .i64 b.b,.int .i64 b.g.kind,b.g.name.e,l0 b.g.ts,nc b.g.gs]:=rfl
structure gm where
 s:eg
 pos:Int
 ar:Int
 vars:Int
def gm.e(b:gm):ae:= .agg [b.s.e,.int .i64 b.pos,.int .i64 b.ar,.int .i64 b.vars]
@[simp]theorem W0(S:aw->Prop)(b:gm):aH S b.e=True:=by simp[gm.e,aH,aB]
@[simp]theorem Ym(b:gm):cg b.e=b.e:=by simp[gm.e,cg,cd]
theorem Hf(S:aw->Prop):∀l:List gm,aB S (l.map gm.e)
 |[]=>by simp[aB]
 |x::xs=>by simp[aB,Hf S xs]
@[simp]theorem WO(S:aw->Prop)(l:List gm):aB S (l.map gm.e)=True:=eq_true (Hf S l)
@[simp]theorem XY(b:gm):dE b.e=true:=rfl
@[simp]theorem WA(b:gm):Pv.isAgg 4 b.e:=⟨_,rfl,rfl⟩
@[simp]theorem Vf(b:gm):cells b.e=[b.s.e,.int .i64 b.pos,.int .i64 b.ar,.int .i64 b.vars]:=rfl
def iS(x:gn)(m:Int):Int:=gi x.g m
theorem wQ(x:gn)(m:Int)(h:0<=m): -1<=iS x m/\iS x m<=m:=uJ x.g m h
def jf(b:gm)(m:Int):Int:=if m-b.s.len<0 then-1 else m-b.s.len
theorem zk(b:gm)(m:Int)(h:0<=m): -1<=jf b m/\jf b m<=m:=by have:=b.s.len_nn;unfold jf;split<;>omega
theorem w9(t:bN):ae.agg [.int .i64 t.kind,t.name.e,l0 t.ts,nc t.gs]=t.e:=(bN.e_eq t).symm
theorem T1(b:gn)(hw:b.g.wf)(m:Int)(a1:0<=m)(I:m<=1048576):bF aF 125 [b.e,.int .i64 m] (.int .i64 (iS b m)):=by
 have key:=T0 b.g hw m a1 I;have hle:=uJ b.g m a1;unfold iS;generalize gi b.g m=q at key hle⊢;by_cases bP:q<0
 ·have:q= -1:=Ω
  subst this;refine bq fW Fm HR fun aO=>?_;unfold zH;simp[w9];(with_reducible repeat' first|refine aP ?_|refine aC key ?_|refine aD key ?_|simp[w9]);all_goals simp[bJ,B9,bp,bz,bo]
 ·refine bq fW Fm HR fun aO=>?_;unfold zH;simp[w9];(with_reducible repeat' first|refine aP ?_|refine aC key ?_|refine aD key ?_|simp[bP,w9]);all_goals simp[bJ,B9,bp,bz,bo]
theorem Ua(b:Ix):bF aF 133 [b.e] b.e:=by have key:=T8 b.g;refine bq fW M0 Rk fun aO=>?_;unfold Ef;exact bY
theorem TA(b:Ix):bF aF 137 [b.e,b.e] (.bool true):=by have key:=Ty b.g;refine bq fW MR Ra fun aO=>?_;unfold D6;exact bY
theorem TY(b:gm)(hw:b.s.wf)(m:Int)(a1:0<=m)(I:m<=1048576):bF aF 126 [b.e,.int .i64 m] (.int .i64 (jf b m)):=by
 have iw:m-b.s.len<0->jf b m= -1:=fun g=>if_pos g;have js:¬m-b.s.len<0->jf b m=m-b.s.len:=fun g=>bu g;generalize jf b m=R at iw js;obtain⟨s,p,a,v⟩:=b;simp only[gm.e]at hw iw js⊢;cases s with
 |b x=>
  simp only[eg.wf,kH,aX]at hw;have g:m-x.size<0:=Ω
  have aW:=iw g;subst aW;clear iw js;simp only[eg.e];refine bq fW Ai B0 fun aO=>?_;unfold xh;exact bY
 |s l=>
  simp only[eg.e];by_cases g:m-l.length<0
  ·have aW:=iw g;subst aW;clear iw js hw;refine bq fW Ai B0 fun aO=>?_;unfold xh;have ee:l.length<=68719476736:=by simp[fb,eQ,e0,aX]at aO;omega
   exact bY
  ·have aW:R=m-l.length:=js g;subst aW;clear iw js hw;refine bq fW Ai B0 fun aO=>?_;unfold xh;have ee:l.length<=68719476736:=by simp[fb,eQ,e0,aX]at aO;omega
   exact bY
theorem T6(b:Ey):bF aF 134 [b.e] b.e:=by refine bq fW MW Rg fun aO=>?_;unfold Eb;exact bY
theorem Tw(b:Ey):bF aF 138 [b.e,b.e] (.bool true):=by refine bq fW MN Q6 fun aO=>?_;unfold D2;exact bY
@[simp high] theorem XM(x y:Ix):lX x.e 0 [.int .i64 y.op,.int .i64 y.a,.int .i64 y.b,.int .i64 y.g.kind,.str y.g.name,.slice 4 .no (y.g.ts.map enc),.slice 4 .no (y.g.gs.map Gm.e)]=y.e:=rfl
@[simp high] theorem XL(x y:Ey):lX x.e 0 [.str y.name,.int .i64 y.pos,.int .i64 y.ar,.int .i64 y.vars]=y.e:=rfl
theorem T2(l:cV gn)(hw:∀p n cap,l= .b p n cap->kH n)(av:∀xs,l= .l xs->∀x∈xs,∀m,0<=m->m<=1048576->bF aF 125 [gn.e x,.int .i64 m] (.int .i64 (iS x m)))(m:Int)(a1:0<=m)(I:m<=1048576):bF aF 54 [l.e 7 gn.e,.int .i64 m] (.int .i64 (eY iS l m)):=by
 cases l with
 |b p n cap=>
  have aS:=hw p n cap rfl;simp only[kH,aX]at aS;have g:m-n<0:=Ω
  simp only[cV.e,eY];clear hw av;refine bq fW Fo HS fun aO=>?_;unfold zI;exact bY
 |l l=>
 have av:=av l rfl;clear hw;simp only[cV.e,eY];generalize aW:kG iS l m=R;unfold kG at aW;refine bq fW Fo HS fun aO=>?_;unfold zI;have ee:l.length<=68719476736:=by simp[fb,eQ,e0,aX]at aO;omega
 simp;by_cases g:m-l.length<0
 ·rw[if_pos g]at aW;subst aW;exact bY
 rw[bu g]at aW;(with_reducible repeat' first|refine aP ?_|simp[g]);refine mb [0] (fun i (k:Int)=>[(1,.int .i64 k),(5,.int .i64 i)]) l.length (fun i k=>(0<=k/\k<=1048576)/\fL iS (l.drop i) k=R) (m-l.length) cq ⟨⟨Ω,Ω⟩,by simpa using aW⟩ (fun k ai _=>?_) (fun i k aq ai _=>?_)
 ·obtain⟨_,ai⟩:=ai;rw[List.drop_length]at ai;simp only[fL]at ai;subst ai;exact bY
 ·obtain⟨⟨eW,b5⟩,ai⟩:=ai;obtain⟨x,ab,bL⟩:=eM aq;have key:=av x (e9 ab) k eW b5;have hle:=wQ x k eW;rw[yx ab]at ai;simp only[fL]at ai;generalize iS x k=q at key hle ai;clear ab;by_cases bP:q<0
  ·rw[if_pos bP]at ai;subst ai;exact bY
  ·rw[bu bP]at ai;simp[aq,bL];((with_reducible repeat' first|refine aP ?_|refine aC key ?_|refine aD key ?_|simp[aq,bL,bP]|((first|apply b7|apply b9|apply b8)<;>intro h<;>try simp at h))<;>(try exact cn));all_goals exact cj.rng q aq ⟨⟨Ω,Ω⟩,ai⟩ cq
theorem Ub(l:List Ix)(av:∀x∈l,bF aF 133 [Ix.e x] (Ix.e x)):bF aF 60 [.slice 7 .no (l.map Ix.e)] (.slice 7 .no (l.map Ix.e)):=by
 refine bq fW M1 Rl fun aO=>?_;unfold Eg;have ee:l.length<=68719476736:=by simp[fb,eQ,e0,aX]at aO;omega
 simp;all_goals first|(refine⟨by unfold aX;omega,?_⟩)|skip
 (with_reducible repeat' first|refine aP ?_|simp);have eb:∀(S:aw->Prop) (n:Nat),aB S (List.replicate n (.agg [.int .i64 0,.int .i64 0,.int .i64 0,.int .i64 0,.str [],.slice 4 .nil [],.slice 4 .nil []]))=True:=fun S n=>eq_true (uf S _ (by simp[aH,aB]) n);refine fv (fun i (_:Unit)=>⟨[(0,.slice 7 .no (l.map Ix.e)),(3,.row 7 (.loc 0) l.length),(4,.int .i64 i)],[],[(.loc 0,⟨l.length,74,7,some (hD Ix.e (.agg [.int .i64 0,.int .i64 0,.int .i64 0,.int .i64 0,.str [],.slice 4 .nil [],.slice 4 .nil []]) l i)⟩)],1,[]⟩) l.length (fun _ _=>True) () ⟨by simp[fresh,aB,aH,bV,aK,Pv.look,nn,eb],dW (by simp[fresh,aB,aH,bV,aK,Pv.look,nn,eb]),dY (by simp[fresh,aB,aH,dJ,aK,Pv.look,nn,eb]),Ψ⟩ trivial (fun _ _ _=>?_) (fun i _ aq _ _=>?_)
 ·rw[yE];exact bY
 ·obtain⟨x,ab,bL⟩:=eM aq;have key:=av x (e9 ab);have aj:=yF Ix.e (.agg [.int .i64 0,.int .i64 0,.int .i64 0,.int .i64 0,.str [],.slice 4 .nil [],.slice 4 .nil []]) l aq;have aR:=yG Ix.e (.agg [.int .i64 0,.int .i64 0,.int .i64 0,.int .i64 0,.str [],.slice 4 .nil [],.slice 4 .nil []]) l ab;have bm:∀S:aw->Prop,aB S (hD Ix.e (.agg [.int .i64 0,.int .i64 0,.int .i64 0,.int .i64 0,.str [],.slice 4 .nil [],.slice 4 .nil []]) l (i+1)):=fun S=>yp S _ _ _ _ (fun x=>by simp) (by simp[aH,aB]);generalize hD Ix.e (.agg [.int .i64 0,.int .i64 0,.int .i64 0,.int .i64 0,.str [],.slice 4 .nil [],.slice 4 .nil []]) l i=hQ at aj aR;generalize sr:hD Ix.e (.agg [.int .i64 0,.int .i64 0,.int .i64 0,.int .i64 0,.str [],.slice 4 .nil [],.slice 4 .nil []]) l (i+1)=dr at aR bm;clear ab;simp[aq,bL];(with_reducible repeat' first|refine aP ?_|refine aC key ?_|refine aD key ?_|simp[aq,bL,aj,aR]);all_goals refine cj.rng () aq trivial ?_
  all_goals rw[sr]
  all_goals first
   |exact⟨by simp[fresh,aB,aH,bV,aK,Pv.look,bm],dW (by simp[fresh,aB,aH,bV,aK,Pv.look,bm]),dY (by simp[fresh,aB,aH,dJ,aK,Pv.look,bm]),Ψ⟩
   |exact⟨by simp[fresh,aB,aH,bV,aK,Pv.look,bm],dW (by simp[fresh,aB,aH,bV,aK,Pv.look,bm]),dY (by simp[fresh,aB,aH,dJ,aK,Pv.look,bm];exact aR),Ψ⟩
theorem TB(l:List Ix)(av:∀x∈l,bF aF 137 [Ix.e x,Ix.e x] (.bool true)):bF aF 67 [.slice 7 .no (l.map Ix.e),.slice 7 .no (l.map Ix.e)] (.bool true):=by
 refine bq fW MS Rb fun aO=>?_;unfold D7;have ee:l.length<=68719476736:=by simp[fb,eQ,e0,aX]at aO;omega
 simp;(with_reducible repeat' first|refine aP ?_|simp);refine mb [0,1] (fun i (_:Unit)=>[(5,.int .i64 i)]) l.length (fun _ _=>True) () cq trivial (fun _ _ _=>?_) (fun i _ aq _ _=>?_)
 ·exact bY
 ·obtain⟨x,ab,bL⟩:=eM aq;have key:=av x (e9 ab);clear ab;exact nq
theorem TZ(l:cV gm)(hw:∀p n cap,l= .b p n cap->kH n)(av:∀xs,l= .l xs->∀x∈xs,∀m,0<=m->m<=1048576->bF aF 126 [gm.e x,.int .i64 m] (.int .i64 (jf x m)))(m:Int)(a1:0<=m)(I:m<=1048576):bF aF 55 [l.e 4 gm.e,.int .i64 m] (.int .i64 (eY jf l m)):=by
 cases l with
 |b p n cap=>
  have aS:=hw p n cap rfl;simp only[kH,aX]at aS;have g:m-n<0:=Ω
  simp only[cV.e,eY];clear hw av;refine bq fW Fk HP fun aO=>?_;unfold zF;exact bY
 |l l=>
 have av:=av l rfl;clear hw;simp only[cV.e,eY];generalize aW:kG jf l m=R;unfold kG at aW;refine bq fW Fk HP fun aO=>?_;unfold zF;have ee:l.length<=68719476736:=by simp[fb,eQ,e0,aX]at aO;omega
 simp;by_cases g:m-l.length<0
 ·rw[if_pos g]at aW;subst aW;exact bY
 rw[bu g]at aW;(with_reducible repeat' first|refine aP ?_|simp[g]);refine mb [0] (fun i (k:Int)=>[(1,.int .i64 k),(5,.int .i64 i)]) l.length (fun i k=>(0<=k/\k<=1048576)/\fL jf (l.drop i) k=R) (m-l.length) cq ⟨⟨Ω,Ω⟩,by simpa using aW⟩ (fun k ai _=>?_) (fun i k aq ai _=>?_)
 ·obtain⟨_,ai⟩:=ai;rw[List.drop_length]at ai;simp only[fL]at ai;subst ai;exact bY
 ·obtain⟨⟨eW,b5⟩,ai⟩:=ai;obtain⟨x,ab,bL⟩:=eM aq;have key:=av x (e9 ab) k eW b5;have hle:=zk x k eW;rw[yx ab]at ai;simp only[fL]at ai;generalize jf x k=q at key hle ai;clear ab;by_cases bP:q<0
  ·rw[if_pos bP]at ai;subst ai;exact bY
  ·rw[bu bP]at ai;simp[aq,bL];((with_reducible repeat' first|refine aP ?_|refine aC key ?_|refine aD key ?_|simp[aq,bL,bP]|((first|apply b7|apply b9|apply b8)<;>intro h<;>try simp at h))<;>(try exact cn));all_goals exact cj.rng q aq ⟨⟨Ω,Ω⟩,ai⟩ cq
theorem T7(l:List Ey)(av:∀x∈l,bF aF 134 [Ey.e x] (Ey.e x)):bF aF 61 [.slice 4 .no (l.map Ey.e)] (.slice 4 .no (l.map Ey.e)):=by
 refine bq fW MX Rh fun aO=>?_;unfold Ec;have ee:l.length<=68719476736:=by simp[fb,eQ,e0,aX]at aO;omega
 simp;all_goals first|(refine⟨by unfold aX;omega,?_⟩)|skip
 ((with_reducible repeat' first|refine aP ?_|simp|((first|apply b7|apply b9|apply b8)<;>intro h<;>try simp at h))<;>(try exact cn));have eb:∀(S:aw->Prop) (n:Nat),aB S (List.replicate n (.agg [.str [],.int .i64 0,.int .i64 0,.int .i64 0]))=True:=fun S n=>eq_true (uf S _ (by simp[aH,aB]) n);refine fv (fun i (_:Unit)=>⟨[(0,.slice 4 .no (l.map Ey.e)),(3,.row 4 (.loc 0) l.length),(4,.int .i64 i)],[],[(.loc 0,⟨l.length,99,4,some (hD Ey.e (.agg [.str [],.int .i64 0,.int .i64 0,.int .i64 0]) l i)⟩)],1,[]⟩) l.length (fun _ _=>True) () ⟨by simp[fresh,aB,aH,bV,aK,Pv.look,nn,eb],dW (by simp[fresh,aB,aH,bV,aK,Pv.look,nn,eb]),dY (by simp[fresh,aB,aH,dJ,aK,Pv.look,nn,eb]),Ψ⟩ trivial (fun _ _ _=>?_) (fun i _ aq _ _=>?_)
 ·rw[yE];simp;((with_reducible repeat' first|refine aP ?_|simp|((first|apply b7|apply b9|apply b8)<;>intro h<;>try simp at h))<;>(try exact cn));simp[bJ,Il,bp,bz,bo]
 ·obtain⟨x,ab,bL⟩:=eM aq;have key:=av x (e9 ab);have aj:=yF Ey.e (.agg [.str [],.int .i64 0,.int .i64 0,.int .i64 0]) l aq;have aR:=yG Ey.e (.agg [.str [],.int .i64 0,.int .i64 0,.int .i64 0]) l ab;have bm:∀S:aw->Prop,aB S (hD Ey.e (.agg [.str [],.int .i64 0,.int .i64 0,.int .i64 0]) l (i+1)):=fun S=>yp S _ _ _ _ (fun x=>by simp) (by simp[aH,aB]);generalize hD Ey.e (.agg [.str [],.int .i64 0,.int .i64 0,.int .i64 0]) l i=hQ at aj aR;generalize sr:hD Ey.e (.agg [.str [],.int .i64 0,.int .i64 0,.int .i64 0]) l (i+1)=dr at aR bm;clear ab;simp[aq,bL];(with_reducible repeat' first|refine aP ?_|refine aC key ?_|refine aD key ?_|simp[aq,bL,aj,aR]);all_goals refine cj.rng () aq trivial ?_
  all_goals rw[sr]
  all_goals first
   |exact⟨by simp[fresh,aB,aH,bV,aK,Pv.look,bm],dW (by simp[fresh,aB,aH,bV,aK,Pv.look,bm]),dY (by simp[fresh,aB,aH,dJ,aK,Pv.look,bm]),Ψ⟩
   |exact⟨by simp[fresh,aB,aH,bV,aK,Pv.look,bm],dW (by simp[fresh,aB,aH,bV,aK,Pv.look,bm]),dY (by simp[fresh,aB,aH,dJ,aK,Pv.look,bm];exact aR),Ψ⟩
theorem Tx(l:List Ey)(av:∀x∈l,bF aF 138 [Ey.e x,Ey.e x] (.bool true)):bF aF 68 [.slice 4 .no (l.map Ey.e),.slice 4 .no (l.map Ey.e)] (.bool true):=by
 refine bq fW MO Q7 fun aO=>?_;unfold D3;have ee:l.length<=68719476736:=by simp[fb,eQ,e0,aX]at aO;omega
 simp;(with_reducible repeat' first|refine aP ?_|simp);refine mb [0,1] (fun i (_:Unit)=>[(5,.int .i64 i)]) l.length (fun _ _=>True) () cq trivial (fun _ _ _=>?_) (fun i _ aq _ _=>?_)
 ·exact bY
 ·obtain⟨x,ab,bL⟩:=eM aq;have key:=av x (e9 ab);clear ab;exact nq
def o8(d:cV gn):ae:=d.e 7 gn.e
def nL(d:cV gm):ae:=d.e 4 gm.e
@[simp]theorem W8(S:aw->Prop)(d:cV gn):aH S (o8 d)=True:=by cases d<;>simp[o8,cV.e,aH]
@[simp]theorem Yt(d:cV gn):cg (o8 d)=o8 d:=by
 cases d with
 |l l=>
  have:∀l:List gn,cd (l.map gn.e)=l.map gn.e:=by
   intro l;induction l with
   |nil=>rfl
   |cons x l bb=>simp[cd,bb]
  simp[o8,cV.e,cg,this]
 |b=>simp[o8,cV.e,cg]
@[simp]theorem W1(S:aw->Prop)(d:cV gm):aH S (nL d)=True:=by cases d<;>simp[nL,cV.e,aH]
@[simp]theorem Yn(d:cV gm):cg (nL d)=nL d:=by
 cases d with
 |l l=>
  have:∀l:List gm,cd (l.map gm.e)=l.map gm.e:=by
   intro l;induction l with
   |nil=>rfl
   |cons x l bb=>simp[cd,bb]
  simp[nL,cV.e,cg,this]
 |b=>simp[nL,cV.e,cg]
theorem H3(d:cV gn)(l:List ae):gH (o8 d::l)=true:=by cases d<;>rfl
structure lv where
 is:cV gn
 es:cV gm
def lv.e(r:lv):ae:= .agg [o8 r.is,nL r.es]
structure lv.wf (r:lv):Prop where
 is:r.is.wf fun x=>x.g.wf
 es:r.es.wf fun x=>x.s.wf
def rC(r:lv)(m:Int):Int:=if eY iS r.is m<0 then-1 else if eY jf r.es (eY iS r.is m)<0 then-1 else eY jf r.es (eY iS r.is m)
def mz(b:Ix):gn:=⟨b.op,b.a,b.b,lb b.g⟩
def qF(b:Ey):gm:=⟨.s b.name,b.pos,b.ar,b.vars⟩
theorem P5(b:Ix):(mz b).e=b.e:=by have h:=FT b.g;rw[bN.e_eq,Gm.e_eq]at h;simp only[ae.agg.injEq,tb,and_true]at h;obtain⟨I,J,ak,aV⟩:=h;show ae.agg [_,_,_,_,_,_,_]=ae.agg [_,_,_,_,_,_,_];rw[show(mz b).g=lb b.g from rfl,I,J,ak,show nc (lb b.g).gs=_ from aV];rfl
theorem Mr(b:Ey):(qF b).e=b.e:=rfl
theorem P6(l:List Ix):(l.map mz).map gn.e=l.map Ix.e:=by rw[List.map_map];exact List.map_congr_left fun b _=>P5 b
theorem Ms(l:List Ey):(l.map qF).map gm.e=l.map Ey.e:=by rw[List.map_map];exact List.map_congr_left fun b _=>Mr b
def _root_.Go.Pv.Cd.h(c:Cd):lv:=⟨.l (c.is.map mz),.l (c.es.map qF)⟩
theorem Kw(c:Cd):c.h.e=c.e:=by simp only[lv.e,Cd.h,Cd.e,o8,nL,cV.e,P6,Ms]
theorem S7(x:gn)(m:Int)(hw:x.g.wf)(I:m<=1048576)(a1:0<=m)(h:0<=iS x m):∃y,x=mz y:=by obtain⟨u,hu⟩:=I8 x.g m hw I a1 h;exact⟨⟨x.op,x.a,x.b,u⟩,by cases x;simp only[mz]at hu⊢;rw[hu]⟩
theorem S4(x:gm)(m:Int)(hw:x.s.wf)(I:m<=1048576)(a1:0<=m)(h:0<=jf x m):∃y,x=qF y:=by
 unfold jf at h;split at h
 ·omega
 ·obtain⟨l,aA⟩:=eg.small hw I h;exact⟨⟨l,x.pos,x.ar,x.vars⟩,by cases x;simp only[qF]at aA⊢;rw[aA]⟩
theorem Ja:∀(l:List Ix) (m:Int),0<=m->0<=fL iS (l.map mz) m->(((l.map fun x=>x.g.w).sum:Nat):Int)<=l.length+m-fL iS (l.map mz) m
 |[],m,a1,h=>by simp[fL]
 |x::xs,m,a1,h=>by
  simp only[ez,fL]at h⊢;split at h
  ·omega
  rename_i g1;rw[bu g1];have I:=S6 x.g m a1 (show 0<=iS (mz x) m by omega);have J:=Ja xs _ Ω h;simp only[List.sum_cons,hy];have:iS (mz x) m=gi (lb x.g) m:=rfl;omega
theorem I3:∀(l:List Ey) (m:Int),0<=m->0<=fL jf (l.map qF) m->(((l.map fun x=>x.name.length).sum:Nat):Int)<=m-fL jf (l.map qF) m
 |[],m,a1,h=>by simp[fL]
 |x::xs,m,a1,h=>by
  simp only[ez,fL]at h⊢;split at h
  ·omega
  rename_i g1;rw[bu g1];have I:jf (qF x) m=if m-x.name.length<0 then-1 else m-x.name.length:=rfl
  have J:=I3 xs _ Ω h;simp only[List.sum_cons];split at I<;>omega
theorem S3{r:lv}(hw:r.wf)(h:0<=rC r 1048576):∃u:Cd,r=u.h/\(u.is.length<=1048576/\u.es.length<=1048576/\(u.is.map fun x=>x.g.w).sum<=1048576/\(u.es.map fun x=>x.name.length).sum<=1048576):=by
 obtain⟨is,es⟩:=r;obtain⟨nA,nB⟩:=hw;simp only at nA nB;unfold rC at h;simp only at h;have bH:=rD wQ is 1048576 Ω;split at h
 ·omega
 have bR:=rD zk es (eY iS is 1048576) Ω;split at h
 ·omega
 obtain⟨hh,rfl⟩:=CP wQ (P:=fun x=>x.g.wf) S7 is 1048576 nA Ω Ω Ω;obtain⟨gD,rfl⟩:=CP zk (P:=fun x=>x.s.wf) S4 es (eY iS (.l (hh.map mz)) 1048576) nB Ω Ω Ω;refine⟨⟨hh,gD⟩,rfl,?_⟩;generalize bP:eY iS (.l (hh.map mz)) 1048576=q at*;simp only[eY,kG,kn]at bP h;split at bP
 ·omega
 split at h
 ·omega
 have ak:=Ja hh (1048576-hh.length) Ω (by rw[bP];omega);have aV:=I3 gD (q-gD.length) Ω h;simp only;have:=CO wQ (hh.map mz) (1048576-hh.length) Ω;omega
theorem TX(r:lv)(hw:r.wf)(m:Int)(a1:0<=m)(I:m<=1048576):bF aF 10 [r.e,.int .i64 m] (.int .i64 (rC r m)):=by
 generalize aW:rC r m=R;obtain⟨is,es⟩:=r;obtain⟨nA,nB⟩:=hw;simp only at nA nB;unfold rC at aW;simp only[lv.e]at aW⊢;have bB:=H3 is [nL es];unfold gH at bB;have b5:bF aF 54 [o8 is,.int .i64 m] (.int .i64 (eY iS is m)):=T2 is (fun p n c e=>by subst e;exact nA) (fun xs e x ab m a1 I=>by subst e;exact T1 x (nA x ab) m a1 I) m a1 I;have bH:=rD wQ is m a1;generalize eY iS is m=bK at aW b5 bH;have cE:_->bF aF 55 [nL es,.int .i64 bK] (.int .i64 (eY jf es bK)):=fun h=>TZ es (fun p n c e=>by subst e;exact nB) (fun xs e x ab m a1 I=>by subst e;exact TY x (nB x ab) m a1 I) bK h Ω;have bR:=fun h=>rD zk es bK h;by_cases g1:bK<0
 ·rw[if_pos g1]at aW;subst aW;have:bK= -1:=Ω
  subst this;clear cE bR;refine bq fW Ah BZ fun aO=>?_;unfold xg;simp;((with_reducible repeat' first|refine aP ?_|refine aC b5 ?_|refine aD b5 ?_|simp[bB]|((first|apply b7|apply b9|apply b8)<;>intro h<;>try simp at h))<;>(try exact cn));all_goals simp[bJ,yZ,bp,bz,bo]
 rw[bu g1]at aW;have cE:=cE Ω;have bR:=bR Ω;generalize eY jf es bK=b6 at aW cE bR;by_cases g2:b6<0
 ·rw[if_pos g2]at aW;subst aW;have:b6= -1:=Ω
  subst this;refine bq fW Ah BZ fun aO=>?_;unfold xg;simp;((with_reducible repeat' first|refine aP ?_|refine aC b5 ?_|refine aD b5 ?_|refine aC cE ?_|refine aD cE ?_|simp[bB,g1]|((first|apply b7|apply b9|apply b8)<;>intro h<;>try simp at h))<;>(try exact cn));all_goals simp[bJ,yZ,bp,bz,bo]
 ·rw[bu g2]at aW;subst aW;refine bq fW Ah BZ fun aO=>?_;unfold xg;simp;((with_reducible repeat' first|refine aP ?_|refine aC b5 ?_|refine aD b5 ?_|refine aC cE ?_|refine aD cE ?_|simp[bB,g1,g2]|((first|apply b7|apply b9|apply b8)<;>intro h<;>try simp at h))<;>(try exact cn));all_goals simp[bJ,yZ,bp,bz,bo]
theorem T5(c:Cd):bF aF 12 [c.e] c.e:=by have b5:=Ub c.is fun x _=>Ua x;have cE:=T7 c.es fun x _=>T6 x;refine bq fW MV Rf fun aO=>?_;unfold Ea;exact bY
theorem Tv(c:Cd):bF aF 14 [c.e,c.e] (.bool true):=by have b5:=TB c.is fun x _=>TA x;have cE:=Tx c.es fun x _=>Tw x;refine bq fW MM Q5 fun aO=>?_;unfold D1;exact bY
def En:C:=(ag [b3 6 false] (ag [ad 7 0,ad 8 1,b2 9 .geq 7 8,ad 10 9,cZ 10 true 11 0,cZ 10 true 12 2,au 10 true (b2 13 .leq 11 12),dT 14 10 13,ad 6 14] .ret))
@[simp] def Io:List cr:=[.tmp 6]
def tt:C:=(ag [dL 2 0,pB 4 1] (.seq (ag [aL 7 0 1 2,aN 8 1 7,aZ 9 .eql 8 1] (bg 9 (ag [ad 10 1,aL 11 1 1 2,aN 12 1 11,en 13 212 10 12,ad 4 13] .ret) .skip)) (.seq (ag [aL 14 3 1 2,aN 15 1 14,cw 16 15,cl 17 0] (jG 18 17 16 (.seq (.block 1 (ag [dk 19 4 15 17,bT 20 4 19,mP 6 oa,cI 4 6 20] (.region [bT 21 4 6,ad 22 1,en 23 156 21 22,ad 1 23]))) (.region [aZ 24 .add 17 1,ad 17 24])))) (ag [ad 25 1,ad 4 25] .ret))))
@[simp] def uz:List cr:=[.tmp 4]
def Ej:C:=(ag [b3 2 false] (.seq (ag [cl 3 0] (.block 0 (.loop (.seq (ag [ad 5 3,ad 6 0,bI 7 (.slen (.t 6)),b2 8 .lss 5 7] (bg 8 .skip (.exit 0))) (.seq (.block 1 (ag [ad 11 0,ad 12 3,bI 13 (.sidx (.t 11) (.t 12)),bI 14 (.bin .geq false (.t 13) (.c (.int .u8 97))),ad 15 14,cZ 15 true 16 0,cZ 15 true 17 3,au 15 true (bI 18 (.sidx (.t 16) (.t 17))),au 15 true (bI 19 (.bin .leq false (.t 18) (.c (.int .u8 122)))),dT 20 15 19,ad 4 20] (ag [ad 21 4,e7 22 21,ad 23 22,cZ 23 true 24 3,au 23 true (aZ 25 .eql 24 0),cZ 23 true 26 25,cZ 26 false 27 0,cZ 26 false 28 3,au 26 false (bI 29 (.sidx (.t 27) (.t 28))),au 26 false (bI 30 (.bin .neq false (.t 29) (.c (.int .u8 45)))),cZ 26 false 31 30,cZ 31 true 32 0,cZ 31 true 33 3,au 31 true (bI 34 (.sidx (.t 32) (.t 33))),au 31 true (bI 35 (.conv .i64 (.t 34))),au 31 true (iV 36 127 [.t 35,(dG 48),(dG 57)]),au 31 true (e7 37 36),au 26 false (dT 38 31 37),au 23 true (dq 39 26 38),dT 40 23 39] (bg 40 (ag [b3 2 false] .ret) .skip)))) (.region [ad 9 3,aZ 10 .add 9 1,ad 3 10])))))) (ag [ad 41 0,bI 42 (.slen (.t 41)),iV 43 127 [.t 42,(dG 1),(dG 12)],ad 2 43] .ret)))
@[simp] def uy:List cr:=[.tmp 2]
def Er:C:=(ag [pB 4 1] (ag [ad 7 0,cw 8 7,ad 5 8] (.seq (.block 0 (.loop (.seq (ag [ad 9 5,aZ 10 .gtr 9 0,ad 11 10,cZ 11 true 12 0,cZ 11 true 13 5,au 11 true (aZ 14 .sub 13 1),au 11 true (dk 15 1 12 14),au 11 true (aN 16 1 15),cZ 11 true 17 1,au 11 true (b2 18 .geq 16 17),dT 19 11 18] (bg 19 .skip (.exit 0))) (.block 1 (.region [ad 20 5,aZ 21 .sub 20 1,ad 5 21]))))) (.seq (ag [ad 22 5,ad 23 0,cw 24 23,b2 25 .lss 22 24,ad 26 25,cZ 26 true 27 0,cZ 26 true 28 5,au 26 true (dk 29 1 27 28),au 26 true (aN 30 1 29),cZ 26 true 31 1,au 26 true (b2 32 .eql 30 31),dT 33 26 32] (bg 33 (ag [ad 34 0,ad 4 34] .ret) .skip)) (ag [ji 35 1 3 [],ad 36 0,ad 37 5,bI 38 (.lsl 1 (.t 36) none (some (.t 37))),oy 39 1 3 35 38,ad 6 39] (ag [ad 40 6,ad 41 1,ji 42 1 3 [.t 41],oy 43 1 3 40 42,ad 6 43] (ag [ad 44 6,ad 45 0,ad 46 5,bI 47 (.lsl 1 (.t 45) (some (.t 46)) none),oy 48 1 3 44 47,ad 4 48] .ret)))))))
@[simp] def sL:List cr:=[.tmp 4]
def jJ:C:=(ag [dL 1 0,b3 2 false] (.seq (ag (aL 3 0 1 1::aN 4 1 3::aZ 5 .neq 4 1::ad 6 5::au 6 true (aL 7 0 1 1)::au 6 true (aN 8 1 7)::au 6 true (aZ 9 .neq 8 3)::dT 10 6 9::ad 11 10::au 11 true (aL 12 1 1 1)::au 11 true (aN 13 1 12)::au 11 true (aZ 14 .neq 13 0)::dT 15 11 14::ad 16 15::au 16 false (aL 17 0 1 1)::au 16 false (aN 18 1 17)::au 16 false (aZ 19 .neq 18 2)::cZ 16 false 20 19::au 20 true (aL 21 2 1 1)::au 20 true (aN 22 1 21)::pC 20 true 23 (.bin .neq false (.t 22) (.c (.str [])))::au 16 false (dT 24 20 23)::dq 25 16 24::ad 26 25::au 26 false (aL 27 0 1 1)::au 26 false (aN 28 1 27)::au 26 false (aZ 29 .neq 28 4)::cZ 26 false 30 29::au 30 true (aL 31 3 1 1)::au 30 true (aN 32 1 31)::au 30 true (cw 33 32)::au 30 true (aZ 34 .gtr 33 0)::au 26 false (dT 35 30 34)::dq 36 26 35::[]) (bg 36 (ag [b3 2 false] .ret) .skip)) (.seq (ag [aL 37 0 1 1,aN 38 1 37] (.block 0 (ag [aZ 40 .eql 38 0,ad 39 40] (bg 39 (ag [b3 2 true] .ret) (ag [aZ 42 .eql 38 1,ad 41 42] (bg 41 (ag [aL 43 1 1 1,aN 44 1 43,iV 45 127 [.t 44,(dG 0),(dG 100000)],ad 2 45] .ret) (ag [aZ 47 .eql 38 2,ad 46 47] (bg 46 (ag [aL 48 2 1 1,aN 49 1 48,cK 50 188 49,ad 2 50] .ret) (ag [aZ 52 .eql 38 3,ad 51 52] (bg 51 (ag [aL 53 1 1 1,aN 54 1 53,iV 55 127 [.t 54,(dG (-1000000000)),(dG 1000000000)],ad 2 55] .ret) (ag [aZ 57 .eql 38 4,ad 56 57] (bg 56 (ag [aL 58 3 1 1,aN 59 1 58,cw 60 59,aZ 61 .eql 60 2,ad 62 61,au 62 true (aL 63 3 1 1),au 62 true (aN 64 1 63),au 62 true (jF 65 4 64 0),au 62 true (bT 66 4 65),au 62 true (cK 67 270 66),dT 68 62 67,ad 69 68,au 69 true (aL 70 3 1 1),au 69 true (aN 71 1 70),au 69 true (jF 72 4 71 1),au 69 true (bT 73 4 72),au 69 true (cK 74 270 73),dT 75 69 74,ad 2 75] .ret) .skip)))))))))))) (ag [b3 2 false] .ret))))
@[simp] def jD:List cr:=[.tmp 2]
def Em:C:=(ag [dL 1 0,b3 2 false] (ag [bT 3 4 1,iV 4 283 [.t 3,(dG 5000)],aZ 5 .leq 4 5000,ad 6 5,au 6 true (bT 7 4 1),au 6 true (cK 8 270 7),dT 9 6 8,ad 2 9] .ret))
@[simp] def Sl:List cr:=[.tmp 2]
def Ep:C:=(ag [dL 2 0,cl 4 0] (ag [cl 5 1] (.seq (ag [aL 8 3 1 2,aN 9 1 8,cw 10 9,cl 11 0] (jG 12 11 10 (.seq (.block 1 (ag [dk 13 4 9 11,bT 14 4 13,mP 7 oa,cI 4 7 14] (.seq (ag [ad 15 5,ad 16 1,b2 17 .gtr 15 16] (bg 17 (ag [ad 18 5,ad 4 18] .ret) .skip)) (.region [ad 19 5,bT 20 4 7,ad 21 1,ad 22 5,b2 23 .sub 21 22,en 24 283 20 23,b2 25 .add 19 24,ad 5 25])))) (.region [aZ 26 .add 11 1,ad 11 26])))) (ag [ad 27 5,ad 4 27] .ret))))
@[simp] def Cb:List cr:=[.tmp 4]
def rF:List (Nat×cR):=[
 (3,⟨1,8,.int .i64,.int .i64 0⟩),
 (5,⟨1,1,.int .u8,.int .u8 0⟩),
 (9,⟨1,16,.str,.str []⟩),
 (38,⟨1,24,.slice 40,.slice 4 .nil []⟩),
 (40,⟨4,56,.struct [(0,3),(1,3),(2,9),(3,38)],.agg [.int .i64 0,.int .i64 0,.str [],.slice 4 .nil []]⟩),
 (136,⟨1,24,.slice 3,.slice 1 .nil []⟩)]
theorem ht:fm aF rF=true:=by kernel_rfl
theorem Rs:cG rF En Io 3 Tryz.f127=true:=by kernel_rfl
theorem M8:aF.funcs[(127:Nat)]? =some Tryz.f127:=Tryz.func127
theorem wm:cG rF tt uz 2 Tryz.f156=true:=by kernel_rfl
theorem vm:aF.funcs[(156:Nat)]? =some Tryz.f156:=Tryz.func156
theorem Ro:cG rF Ej uy 1 Tryz.f188=true:=by kernel_rfl
theorem M4:aF.funcs[(188:Nat)]? =some Tryz.f188:=Tryz.func188
theorem Rv:cG rF Er sL 2 Tryz.f212=true:=by kernel_rfl
theorem Nb:aF.funcs[(212:Nat)]? =some Tryz.f212:=Tryz.func212
theorem kh:cG rF jJ jD 1 Tryz.f270=true:=by kernel_rfl
theorem j6:aF.funcs[(270:Nat)]? =some Tryz.f270:=Tryz.func270
theorem Rr:cG rF Em Sl 1 Tryz.f271=true:=by kernel_rfl
theorem M7:aF.funcs[(271:Nat)]? =some Tryz.f271:=Tryz.func271
theorem Ru:cG rF Ep Cb 2 Tryz.f283=true:=by kernel_rfl
theorem Na:aF.funcs[(283:Nat)]? =some Tryz.f283:=Tryz.func283
mutual
def jK:aU->Int->Int
 | .mk _ _ _ args,m=>cntLS args 1 m
def cntLS:List aU->Int->Int->Int
 |[],n,_=>n
 |x::xs,n,m=>if m<n then n else cntLS xs (n+jK x (m-n)) m
end
mutual
theorem zV:∀(t:aU) (m:Int),0<=m->1<=jK t m/\jK t m<=m+1
 | .mk _ _ _ args,m,h=>by simp only[jK];exact ER args 1 m h Ω Ω
theorem ER:∀(l:List aU) (n m:Int),0<=m->1<=n->n<=m+1->1<=cntLS l n m/\cntLS l n m<=m+1
 |[],n,m,_,I,J=>by simp only[cntLS];exact⟨I,J⟩
 |x::xs,n,m,a1,I,J=>by
  simp only[cntLS];split
  ·exact⟨I,J⟩
  ·have:=zV x (m-n) Ω;exact ER xs _ m a1 Ω Ω
end
theorem zU:∀(t:T) (m:Int),0<=m->(jK t.tm m<=m↔(t.size:Int)<=m)/\((t.size:Int)<=m->jK t.tm m=t.size)
 | .pair a b,m,h=>by
  have bU:=T.size_pos a;have af:=T.size_pos b;simp only[T.tm,jK,cntLS,T.size];by_cases I:m<1
  ·rw[if_pos I];exact⟨Ω,fun h=>Ω⟩
  ·rw[bu I];obtain⟨bQ,a2⟩:=zU a (m-1) Ω;have a3:=zV a.tm (m-1) Ω;by_cases J:(a.size:Int)<=m-1
   ·have e:=a2 J;rw[e];by_cases ak:m<1+(a.size:Int)
    ·omega
    ·rw[bu ak];obtain⟨bH,bR⟩:=zU b (m-(1+a.size)) Ω;refine⟨Ω,fun h=>?_⟩;rw[bR Ω];omega
   ·have:¬jK a.tm (m-1)<=m-1:=fun h=>J (bQ.1 h);rw[if_pos Ω];exact⟨Ω,fun h=>Ω⟩
 | .nil,m,h=>by simp[T.tm,jK,cntLS,T.size]
 | .var _,m,h=>by simp[T.tm,jK,cntLS,T.size]
 | .sym _,m,h=>by simp[T.tm,jK,cntLS,T.size]
 | .num _,m,h=>by simp[T.tm,jK,cntLS,T.size]
theorem Ld(t:aU)(m:Int):jK t m=cntLS t.args 1 m:=by cases t;rfl
theorem TH(t:aU):∀m:Int,0<=m->m<=1000000->bF aF 283 [enc t,.int .i64 m] (.int .i64 (jK t m)):=by
 suffices H:∀(k:Nat) (t:aU),t.sz<=k->∀m:Int,0<=m->m<=1000000->bF aF 283 [enc t,.int .i64 m] (.int .i64 (jK t m))from H _ t (c7 _)
 intro k;induction k with
 |zero=>intro t aG;cases t;simp[aU.sz]at aG
 |succ k bb=>
  intro t aG m a1 I;refine bq ht Na Ru fun aO=>?_;unfold Ep;have ee:t.args.length<=68719476736:=by rw[tz]at aO;simp[fb,eQ,e0,aX]at aO;omega
  simp;refine mb [1,9,10] (fun i (n:Int)=>[(5,.int .i64 n),(11,.int .i64 i)]) t.args.length (fun i n=>(1<=n/\n<=m+1)/\cntLS (t.args.drop i) n m=jK t m) 1 cq ⟨Ω,by simp[Ld]⟩ (fun n ai _=>?_) (fun i n aq ai _=>?_)
  ·simp;(with_reducible repeat' first|refine aP ?_|simp);simp[bJ,Cb,bp,bz,bo];have:=ai.2;simp[cntLS]at this;exact this
  ·obtain⟨⟨n3,gL⟩,ai⟩:=ai;obtain⟨x,ab,bL⟩:=eM aq;have bj:t.args.drop i=x::t.args.drop (i+1):=by rw[List.drop_eq_getElem_cons aq,bL]
   have dR:x.sz<=k:=by have:=CQ (e9 ab);omega
   rw[bj]at ai;simp only[cntLS]at ai;simp[aq,bL];by_cases af:m<n
   ·rw[if_pos af]at ai;(with_reducible repeat' first|refine aP ?_|simp[af]);simp[bJ,Cb,bp,bz,bo];exact ai
   ·rw[bu af]at ai;have aQ:=zV x (m-n) Ω;((with_reducible repeat' first|refine aP ?_|refine aC (bb x dR (m-n) Ω Ω) ?_|refine aD (bb x dR (m-n) Ω Ω) ?_|simp[af]|((first|apply b7|apply b9|apply b8)<;>intro h<;>try simp at h))<;>(try exact cn));exact cj.rng (n+jK x (m-n)) aq ⟨Ω,ai⟩ cq
theorem dn(n lo aq:Int):bF aF 127 [.int .i64 n,.int .i64 lo,.int .i64 aq] (.bool (decide (lo<=n/\n<=aq))):=by
 refine bq ht M8 Rs fun aO=>?_;unfold En;simp;((with_reducible repeat' first|refine aP ?_|simp|((first|apply b7|apply b9|apply b8)<;>intro h<;>try simp at h))<;>(try exact cn));all_goals simp[bJ,Io,bp,bz,bo]
 all_goals first|omega|(simp;done)|(simp;omega)
def eX:aU->Bool
 | .mk k n s [a,b]=>k==4&&n==0&&s==[]&&eX a&&eX b
 | .mk k n s []=>ja k n s
 |_=>false
theorem zd:∀x:T,eX x.tm=x.ok
 | .nil=>by simp[T.tm,eX,ja,T.ok]
 | .var _=>by simp[T.tm,eX,ja,T.ok]
 | .sym _=>by simp[T.tm,eX,ja,T.ok]
 | .num _=>by simp[T.tm,eX,ja,T.ok]
 | .pair a b=>by simp[T.tm,eX,T.ok,zd a,zd b]
theorem SO:∀(m:Nat) (t:aU),t.sz<=m->eX t=true->∃x:T,x.tm=t:=by
 intro m;induction m with
 |zero=>intro t aG;cases t;simp[aU.sz]at aG
 |succ m bb=>
  rintro⟨k,n,s,args⟩ aG h;match args with
  |[a,b]=>
   simp[aU.sz,aU.szL]at aG;simp only[eX,bE,cD]at h;obtain⟨⟨⟨⟨rfl,rfl⟩,ak⟩,I⟩,J⟩:=h;obtain⟨x,rfl⟩:=bb a Ω I;obtain⟨y,rfl⟩:=bb b Ω J;have:s=[]:=by simpa using ak
   subst this;exact⟨.pair x y,rfl⟩
  |[]=>
   simp only[eX,ja]at h;split at h
   ·subst_vars;simp at h;exact⟨.nil,by simp[T.tm,h]⟩
   split at h
   ·subst_vars;simp at h;exact⟨.var n,by simp[T.tm,h]⟩
   split at h
   ·subst_vars;simp at h;exact⟨.sym s,by simp[T.tm,h]⟩
   split at h
   ·subst_vars;simp at h;exact⟨.num n,by simp[T.tm,h]⟩
   ·simp at h
  |[_]=>simp[eX]at h
  |_::_::_::_=>simp[eX]at h
theorem Nu(t:aU):t.fits=(decide (jK t 5000<=5000)&&eX t):=by
 by_cases h:eX t=true
 ·obtain⟨x,rfl⟩:=SO _ t (c7 _) h;have:=(zU x 5000 Ω).1;rw[aU.fits_T,T.fit,h];rw[zd]at h;simp[h,this];omega
 ·have a1:t.fits=false:=by
   cases av:t.fits with
   |false=>rfl
   |true=>obtain⟨x,rfl,ab⟩:=aU.fits_ex av;rw[zd]at h;simp[T.fit]at ab;exact absurd ab.1 h
  simp at h;rw[a1,h];simp
def Bm(s:List bt)(i:Nat):Prop:=i<=s.length/\∀k,k<i->jS (s.getD k 0)=true/\(k=0->low (s.getD k 0)=true)
theorem P3{s:List bt}(h:Bm s s.length):iB s=decide (1<=s.length/\s.length<=12):=by
 unfold iB;by_cases aA:1<=s.length
 ·have I:=(h.2 0 Ω).2 rfl;have J:(s.drop 1).all jS=true:=by rw[kZ];intro b af;obtain⟨i,aq,e⟩:=List.getElem_of_mem af;simp at aq e;have:=(h.2 (i+1) Ω).1;rw[List.getD_eq_getElem?_getD,cB Ω]at this;simp only[Option.getD_some]at this;rw[<-e];exact this
  rw[I,J];simp
 ·have:decide (1<=s.length/\s.length<=12)=false:=by simp;omega
  rw[this];simp
theorem P2{s:List bt}{i:Nat}(aq:i<s.length)(h:jS (s.getD i 0)=false\/(i=0/\low (s.getD i 0)=false)):iB s=false:=by
 cases e:iB s with
 |false=>rfl
 |true=>
  exfalso;simp only[iB,bE,kZ]at e;obtain⟨⟨_,aj⟩,aR⟩:=e;rcases h with h|⟨rfl,h⟩
  ·by_cases a1:i=0
   ·subst a1;rw[jS,aj]at h;simp at h
   ·have:=aR (s.getD i 0) (by rw[List.getD_eq_getElem?_getD,cB aq];simp only[Option.getD_some];refine List.mem_iff_getElem.2 ⟨i-1,by simp;omega,?_⟩;simp[show i-1+1=i from by omega])
    rw[this]at h;cases h
  ·rw[aj]at h;cases h
theorem fX(s:List bt):bF aF 188 [.str s] (.bool (iB s)):=by
 generalize aW:iB s=R;refine bq ht M4 Ro fun aO=>?_;unfold Ej;have ee:s.length<=68719476736:=by simp[fb,eQ,e0,aX]at aO;omega
 simp;refine Fa [0] (fun(i:Nat)=>[(3,.int .i64 i)]) (fun i=>s.length-i) (Bm s) 0 cq ⟨Ω,fun k aa=>Ω⟩ (fun i ai _=>?_);have o4:=ai.1;by_cases aq:i<s.length
 ·have gU:=P2 aq;rw[aW]at gU;obtain⟨c,aQ,oZ⟩:=eM aq;have Ga:s.getD i 0=c:=by simp[List.getD_eq_getElem?_getD,aQ]
  rw[Ga]at gU;have fS:jS c=true->(i=0->low c=true)->Bm s (i+1):=fun I J=>⟨Ω,fun k aa=>by
   rcases(by omega:k<i\/k=i)with h|rfl
   ·exact ai.2 k h
   ·rw[Ga];exact⟨I,J⟩⟩
  have hw:mQ.wrap (c.toNat:Int)=c.toNat:=pD _ (by have:=c.toNat_lt;omega);simp[aq,oZ,aQ];by_cases bK:(97:Int)<=c.toNat
  ·by_cases b6:(c.toNat:Int)<=122
   ·have aA:low c=true:=by simp[low];omega
    (with_reducible repeat' first|refine aP ?_|refine aC (dn _ _ _) ?_|refine aD (dn _ _ _) ?_|simp[aq,oZ,aQ,bK,b6]);exact cj.whl (i+1) Ω (fS (by simp[jS,aA]) (fun _=>aA)) cq
   ·have aA:low c=false:=by simp[low];omega
    by_cases a1:i=0
    ·rw[gU (.inr ⟨a1,aA⟩)];have nd:((i:Int)==0)=true:=by simp[a1]
     (with_reducible repeat' first|refine aP ?_|refine aC (dn _ _ _) ?_|refine aD (dn _ _ _) ?_|simp[aq,oZ,aQ,bK,b6,nd,hw]);simp[bJ,uy,bp,bz,bo]
    ·have nd:((i:Int)==0)=false:=by simp[a1]
     by_cases cH:(c.toNat:Int)=45
     ·have qk:((c.toNat:Int) !=45)=false:=by simp[cH]
      (with_reducible repeat' first|refine aP ?_|refine aC (dn _ _ _) ?_|refine aD (dn _ _ _) ?_|simp[aq,oZ,aQ,bK,b6,nd,hw,cH,qk]);all_goals exact cj.whl (i+1) Ω (fS (by simp[jS];omega) (fun h=>absurd h a1)) cq
     ·have qk:((c.toNat:Int) !=45)=true:=by simp[cH]
      by_cases dd:(48:Int)<=c.toNat/\(c.toNat:Int)<=57
      ·(with_reducible repeat' first|refine aP ?_|refine aC (dn _ _ _) ?_|refine aD (dn _ _ _) ?_|simp[aq,oZ,aQ,bK,b6,nd,hw,cH,qk,dd]);all_goals exact cj.whl (i+1) Ω (fS (by simp[jS];omega) (fun h=>absurd h a1)) cq
      ·rw[gU (.inl (by simp[jS,aA];omega))];(with_reducible repeat' first|refine aP ?_|refine aC (dn _ _ _) ?_|refine aD (dn _ _ _) ?_|simp[aq,oZ,aQ,bK,b6,nd,hw,cH,qk,dd]);simp[bJ,uy,bp,bz,bo]
  ·have aA:low c=false:=by simp[low];omega
   by_cases a1:i=0
   ·rw[gU (.inr ⟨a1,aA⟩)];have nd:((i:Int)==0)=true:=by simp[a1]
    (with_reducible repeat' first|refine aP ?_|refine aC (dn _ _ _) ?_|refine aD (dn _ _ _) ?_|simp[aq,oZ,aQ,bK,nd,hw]);simp[bJ,uy,bp,bz,bo]
   ·have nd:((i:Int)==0)=false:=by simp[a1]
    by_cases cH:(c.toNat:Int)=45
    ·have qk:((c.toNat:Int) !=45)=false:=by simp[cH]
     (with_reducible repeat' first|refine aP ?_|refine aC (dn _ _ _) ?_|refine aD (dn _ _ _) ?_|simp[aq,oZ,aQ,bK,nd,hw,cH,qk]);all_goals exact cj.whl (i+1) Ω (fS (by simp[jS];omega) (fun h=>absurd h a1)) cq
    ·have qk:((c.toNat:Int) !=45)=true:=by simp[cH]
     by_cases dd:(48:Int)<=c.toNat/\(c.toNat:Int)<=57
     ·(with_reducible repeat' first|refine aP ?_|refine aC (dn _ _ _) ?_|refine aD (dn _ _ _) ?_|simp[aq,oZ,aQ,bK,nd,hw,cH,qk,dd]);all_goals exact cj.whl (i+1) Ω (fS (by simp[jS];omega) (fun h=>absurd h a1)) cq
     ·rw[gU (.inl (by simp[jS,aA];omega))];(with_reducible repeat' first|refine aP ?_|refine aC (dn _ _ _) ?_|refine aD (dn _ _ _) ?_|simp[aq,oZ,aQ,bK,nd,hw,cH,qk,dd]);simp[bJ,uy,bp,bz,bo]
 ·have:i=s.length:=Ω
  subst this;rw[P3 ai]at aW;simp[aq];(with_reducible repeat' first|refine aP ?_|refine aC (dn _ _ _) ?_|refine aD (dn _ _ _) ?_|simp[aq]);simp[bJ,uy,bp,bz,bo];rw[<-aW,Bool.eq_iff_iff];simp;omega
def qu:List aU->Bool
 |[a,b]=>eX a&&eX b
 |_=>false
theorem SN(k n:Int)(s:List bt)(args:List aU):eX ⟨k,n,s,args⟩=if k≠1/\k≠3/\n≠0 then false else if k≠2/\s≠[]then false else if k≠4/\args≠[]then false else if k=0 then true else if k=1 then decide (0<=n/\n<=100000)else if k=2 then iB s else if k=3 then decide (-1000000000<=n/\n<=1000000000)else if k=4 then qu args else false:=by
 by_cases eW:k=0
 ·subst eW;match args with
  |[]=>by_cases aS:n=0<;>by_cases al:s=[]<;>simp[eX,ja,aS,al]
  |[a]=>simp[eX]
  |[a,b]=>simp[eX]
  |_::_::_::_=>simp[eX]
 by_cases b5:k=1
 ·subst b5;match args with
  |[]=>by_cases al:s=[]<;>simp[eX,ja,al]
  |[a]=>simp[eX]
  |[a,b]=>simp[eX]
  |_::_::_::_=>simp[eX]
 by_cases cE:k=2
 ·subst cE;match args with
  |[]=>by_cases aS:n=0<;>simp[eX,ja,aS]
  |[a]=>simp[eX]
  |[a,b]=>simp[eX]
  |_::_::_::_=>simp[eX]
 by_cases fA:k=3
 ·subst fA;match args with
  |[]=>by_cases al:s=[]<;>simp[eX,ja,al]
  |[a]=>simp[eX]
  |[a,b]=>simp[eX]
  |_::_::_::_=>simp[eX]
 by_cases h5:k=4
 ·subst h5;match args with
  |[]=>simp[eX,ja,qu]
  |[a]=>simp[eX,qu]
  |[a,b]=>by_cases aS:n=0<;>by_cases al:s=[]<;>simp[eX,qu,aS,al]
  |_::_::_::_=>simp[eX,qu]
 ·match args with
  |[]=>simp[eX,ja,eW,b5,cE,fA,h5]
  |[a]=>simp[eX,eW,b5,cE,fA,h5]
  |[a,b]=>simp[eX,eW,b5,cE,fA,h5]
  |_::_::_::_=>simp[eX,eW,b5,cE,fA,h5]
set_option maxRecDepth 8000 in
theorem TJ(m:Nat):∀(t:aU),t.sz<=m->bF aF 270 [enc t] (.bool (eX t)):=by
 induction m with
 |zero=>intro t aG;cases t;simp[aU.sz]at aG
 |succ m bb=>
 rintro⟨k,n,s,args⟩ aG;generalize aW:eX ⟨k,n,s,args⟩=R;have dB:=SN k n s args;rw[aW]at dB;by_cases bH:k≠1/\k≠3/\n≠0
 ·rw[if_pos bH]at dB;obtain⟨b5,fA,n0⟩:=bH;have ub:(k !=1)=true:=by simp[b5]
  have uc:(k !=3)=true:=by simp[fA]
  have BK:(n !=0)=true:=by simp[n0]
  subst dB;refine bq ht j6 kh fun aO=>?_;unfold jJ;simp[aU.kind,aU.num,aU.name,aU.args];(with_reducible repeat' first|refine aP ?_|refine aC (dn _ _ _) ?_|refine aD (dn _ _ _) ?_|refine aC (fX _) ?_|refine aD (fX _) ?_|simp[ub,uc,BK]);all_goals simp[bJ,jD,bp,bz,bo]
 rw[bu bH]at dB;have rR:(if k !=1 then k !=3 else false)=true->(n !=0)=false:=by intro h;simp at h⊢;exact Classical.byContradiction fun aS=>bH ⟨h.1,h.2,aS⟩
 by_cases bR:k≠2/\s≠[]
 ·rw[if_pos bR]at dB;have yn:(k !=2)=true:=by simp[bR.1]
  have Ct:s.isEmpty=false:=by simp[bR.2]
  by_cases b5:k=1
  ·subst b5;subst dB;refine bq ht j6 kh fun aO=>?_;unfold jJ;simp[aU.kind,aU.num,aU.name,aU.args];(with_reducible repeat' first|refine aP ?_|refine aC (dn _ _ _) ?_|refine aD (dn _ _ _) ?_|refine aC (fX _) ?_|refine aD (fX _) ?_|simp[Ct]);all_goals simp[bJ,jD,bp,bz,bo]
  by_cases fA:k=3
  ·subst fA;subst dB;refine bq ht j6 kh fun aO=>?_;unfold jJ;simp[aU.kind,aU.num,aU.name,aU.args];(with_reducible repeat' first|refine aP ?_|refine aC (dn _ _ _) ?_|refine aD (dn _ _ _) ?_|refine aC (fX _) ?_|refine aD (fX _) ?_|simp[Ct]);all_goals simp[bJ,jD,bp,bz,bo]
  have ub:(k !=1)=true:=by simp[b5]
  have uc:(k !=3)=true:=by simp[fA]
  have BK:(n !=0)=false:=rR (by simp[b5,fA]);subst dB;refine bq ht j6 kh fun aO=>?_;unfold jJ;simp[aU.kind,aU.num,aU.name,aU.args];(with_reducible repeat' first|refine aP ?_|refine aC (dn _ _ _) ?_|refine aD (dn _ _ _) ?_|refine aC (fX _) ?_|refine aD (fX _) ?_|simp[ub,uc,BK,yn,Ct]);all_goals simp[bJ,jD,bp,bz,bo]
 rw[bu bR]at dB;by_cases eW:k=0
 ·subst eW;have n0:n=0:=by simpa using rR (by decide)
  have qt:s=[]:=Classical.byContradiction fun h=>bR ⟨Ω,h⟩;subst n0 qt;by_cases a0:args=[];rotate_left
  ·rw[if_pos ⟨Ω,a0⟩]at dB;have pI:(0:Int)<args.length:=by have:=oB.2 a0;omega
   subst dB;refine bq ht j6 kh fun aO=>?_;unfold jJ;simp[aU.kind,aU.num,aU.name,aU.args];((with_reducible repeat' first|refine aP ?_|refine aC (dn _ _ _) ?_|refine aD (dn _ _ _) ?_|refine aC (fX _) ?_|refine aD (fX _) ?_|simp[Int.natCast_nonneg,pI]|((first|apply b7|apply b9|apply b8)<;>intro h<;>try simp at h))<;>(try exact cn));all_goals simp[bJ,jD,bp,bz,bo]
  rw[bu (by simp[a0])]at dB;subst a0;simp at dB;subst dB;refine bq ht j6 kh fun aO=>?_;unfold jJ;simp[aU.kind,aU.num,aU.name,aU.args];(with_reducible repeat' first|refine aP ?_|refine aC (dn _ _ _) ?_|refine aD (dn _ _ _) ?_|refine aC (fX _) ?_|refine aD (fX _) ?_|simp[Int.natCast_nonneg]);all_goals simp[bJ,jD,bp,bz,bo]
 by_cases b5:k=1
 ·subst b5;have qt:s=[]:=Classical.byContradiction fun h=>bR ⟨Ω,h⟩;subst qt;by_cases a0:args=[];rotate_left
  ·rw[if_pos ⟨Ω,a0⟩]at dB;have pI:(0:Int)<args.length:=by have:=oB.2 a0;omega
   subst dB;refine bq ht j6 kh fun aO=>?_;unfold jJ;simp[aU.kind,aU.num,aU.name,aU.args];((with_reducible repeat' first|refine aP ?_|refine aC (dn _ _ _) ?_|refine aD (dn _ _ _) ?_|refine aC (fX _) ?_|refine aD (fX _) ?_|simp[Int.natCast_nonneg,pI]|((first|apply b7|apply b9|apply b8)<;>intro h<;>try simp at h))<;>(try exact cn));all_goals simp[bJ,jD,bp,bz,bo]
  rw[bu (by simp[a0])]at dB;subst a0;simp at dB;subst dB;refine bq ht j6 kh fun aO=>?_;unfold jJ;simp[aU.kind,aU.num,aU.name,aU.args];(with_reducible repeat' first|refine aP ?_|refine aC (dn _ _ _) ?_|refine aD (dn _ _ _) ?_|refine aC (fX _) ?_|refine aD (fX _) ?_|simp[Int.natCast_nonneg]);all_goals simp[bJ,jD,bp,bz,bo]
 by_cases cE:k=2
 ·subst cE;have n0:n=0:=by simpa using rR (by decide)
  subst n0;by_cases a0:args=[];rotate_left
  ·rw[if_pos ⟨Ω,a0⟩]at dB;have pI:(0:Int)<args.length:=by have:=oB.2 a0;omega
   subst dB;refine bq ht j6 kh fun aO=>?_;unfold jJ;simp[aU.kind,aU.num,aU.name,aU.args];((with_reducible repeat' first|refine aP ?_|refine aC (dn _ _ _) ?_|refine aD (dn _ _ _) ?_|refine aC (fX _) ?_|refine aD (fX _) ?_|simp[Int.natCast_nonneg,pI]|((first|apply b7|apply b9|apply b8)<;>intro h<;>try simp at h))<;>(try exact cn));all_goals simp[bJ,jD,bp,bz,bo]
  rw[bu (by simp[a0])]at dB;subst a0;simp at dB;subst dB;refine bq ht j6 kh fun aO=>?_;unfold jJ;simp[aU.kind,aU.num,aU.name,aU.args];(with_reducible repeat' first|refine aP ?_|refine aC (dn _ _ _) ?_|refine aD (dn _ _ _) ?_|refine aC (fX _) ?_|refine aD (fX _) ?_|simp[Int.natCast_nonneg]);all_goals simp[bJ,jD,bp,bz,bo]
 by_cases fA:k=3
 ·subst fA;have qt:s=[]:=Classical.byContradiction fun h=>bR ⟨Ω,h⟩;subst qt;by_cases a0:args=[];rotate_left
  ·rw[if_pos ⟨Ω,a0⟩]at dB;have pI:(0:Int)<args.length:=by have:=oB.2 a0;omega
   subst dB;refine bq ht j6 kh fun aO=>?_;unfold jJ;simp[aU.kind,aU.num,aU.name,aU.args];((with_reducible repeat' first|refine aP ?_|refine aC (dn _ _ _) ?_|refine aD (dn _ _ _) ?_|refine aC (fX _) ?_|refine aD (fX _) ?_|simp[Int.natCast_nonneg,pI]|((first|apply b7|apply b9|apply b8)<;>intro h<;>try simp at h))<;>(try exact cn));all_goals simp[bJ,jD,bp,bz,bo]
  rw[bu (by simp[a0])]at dB;subst a0;simp at dB;subst dB;refine bq ht j6 kh fun aO=>?_;unfold jJ;simp[aU.kind,aU.num,aU.name,aU.args];(with_reducible repeat' first|refine aP ?_|refine aC (dn _ _ _) ?_|refine aD (dn _ _ _) ?_|refine aC (fX _) ?_|refine aD (fX _) ?_|simp[Int.natCast_nonneg]);all_goals simp[bJ,jD,bp,bz,bo]
 by_cases h5:k=4
 ·subst h5;have n0:n=0:=by simpa using rR (by decide)
  have qt:s=[]:=Classical.byContradiction fun h=>bR ⟨Ω,h⟩;subst n0 qt;simp at dB;match args,dB with
  |[a,b],dB=>
   simp[aU.sz,aU.szL]at aG;have bU:=bb a Ω;have af:=bb b Ω;simp only[qu]at dB;subst dB;refine bq ht j6 kh fun aO=>?_;unfold jJ;simp[aU.kind,aU.num,aU.name,aU.args];cases q:eX a with
   |true=>rw[q]at bU;(with_reducible repeat' first|refine aP ?_|refine aC bU ?_|refine aD bU ?_|refine aC af ?_|refine aD af ?_|simp[Int.natCast_nonneg]);all_goals simp[bJ,jD,bp,bz,bo]
   |false=>rw[q]at bU;(with_reducible repeat' first|refine aP ?_|refine aC bU ?_|refine aD bU ?_|refine aC af ?_|refine aD af ?_|simp[Int.natCast_nonneg]);all_goals simp[bJ,jD,bp,bz,bo]
  |[],dB=>simp only[qu]at dB;subst dB;refine bq ht j6 kh fun aO=>?_;unfold jJ;simp[aU.kind,aU.num,aU.name,aU.args];(with_reducible repeat' first|refine aP ?_|refine aC (dn _ _ _) ?_|refine aD (dn _ _ _) ?_|refine aC (fX _) ?_|refine aD (fX _) ?_|simp[Int.natCast_nonneg]);all_goals simp[bJ,jD,bp,bz,bo]
  |[_],dB=>simp only[qu]at dB;subst dB;refine bq ht j6 kh fun aO=>?_;unfold jJ;simp[aU.kind,aU.num,aU.name,aU.args];(with_reducible repeat' first|refine aP ?_|refine aC (dn _ _ _) ?_|refine aD (dn _ _ _) ?_|refine aC (fX _) ?_|refine aD (fX _) ?_|simp[Int.natCast_nonneg]);all_goals simp[bJ,jD,bp,bz,bo]
  |_::_::_::l,dB=>
   simp only[qu]at dB;have aA:((l.length:Int)+1+1+1==2)=false:=by simp;omega
   subst dB;refine bq ht j6 kh fun aO=>?_;unfold jJ;simp[aU.kind,aU.num,aU.name,aU.args];(with_reducible repeat' first|refine aP ?_|refine aC (dn _ _ _) ?_|refine aD (dn _ _ _) ?_|refine aC (fX _) ?_|refine aD (fX _) ?_|simp[aA]);all_goals simp[bJ,jD,bp,bz,bo]
 have n0:(n !=0)=false:=rR (by simp[b5,fA]);have qt:s=[]:=Classical.byContradiction fun h=>bR ⟨cE,h⟩;subst qt;have G3:(k==0)=false:=by simp[eW]
 have ub:(k==1)=false:=by simp[b5]
 have yn:(k==2)=false:=by simp[cE]
 have uc:(k==3)=false:=by simp[fA]
 have G7:(k==4)=false:=by simp[h5]
 have G4:(k !=1)=true:=by simp[b5]
 have G5:(k !=2)=true:=by simp[cE]
 have G6:(k !=3)=true:=by simp[fA]
 have G8:(k !=4)=true:=by simp[h5]
 by_cases a0:args=[]
 ·subst a0;simp[eW,b5,cE,fA,h5]at dB;subst dB;refine bq ht j6 kh fun aO=>?_;unfold jJ;simp[aU.kind,aU.num,aU.name,aU.args];(with_reducible repeat' first|refine aP ?_|refine aC (dn _ _ _) ?_|refine aD (dn _ _ _) ?_|refine aC (fX _) ?_|refine aD (fX _) ?_|simp[G3,ub,yn,uc,G7,G4,G5,G6,G8,n0]);all_goals simp[bJ,jD,bp,bz,bo]
 ·rw[if_pos ⟨h5,a0⟩]at dB;have pI:(0:Int)<args.length:=by have:=oB.2 a0;omega
  subst dB;refine bq ht j6 kh fun aO=>?_;unfold jJ;simp[aU.kind,aU.num,aU.name,aU.args];((with_reducible repeat' first|refine aP ?_|refine aC (dn _ _ _) ?_|refine aD (dn _ _ _) ?_|refine aC (fX _) ?_|refine aD (fX _) ?_|simp[pI,G3,ub,yn,uc,G7,G4,G5,G6,G8,n0]|((first|apply b7|apply b9|apply b8)<;>intro h<;>try simp at h))<;>(try exact cn));all_goals simp[bJ,jD,bp,bz,bo]
theorem TW(t:aU):bF aF 271 [enc t] (.bool t.fits):=by
 rw[Nu];have aQ:=TH t 5000 Ω Ω;have al:=TJ t.sz t (c7 _);refine bq ht M7 Rr fun aO=>?_;unfold Em;simp;by_cases q:jK t 5000<=5000
 ·exact bY
 ·exact bY
def xj:C:=(ag [bI 2 (.mov (.c (.str [])))] (.seq (ag [ad 4 0,aZ 5 .lss 4 0] (bg 5 (.seq (ag [ad 6 0,aZ 7 .quo 6 10,aZ 8 .eql 7 0] (bg 8 (ag [ad 9 0,bI 10 (.bin .sub false (dG 48) (.t 9)),bI 11 (.conv .u8 (.t 10)),ji 12 1 5 [.t 11],bI 13 (.b2s (.t 12)),bI 14 (.bin .add false (.c (.str [45])) (.t 13)),ad 2 14] .ret) .skip)) (.seq (.drawn true 44 [ad 15 0,aZ 16 .quo 15 10,cK 17 57 16,ad 18 0,aZ 19 .rem 18 10,bI 20 (.bin .sub false (dG 48) (.t 19)),bI 21 (.conv .u8 (.t 20)),ji 22 1 5 [.t 21],bI 23 (.b2s (.t 22)),b2 24 .add 17 23,ad 2 24]) .ret)) .skip)) (ag [bI 3 (.mov (.c (.str [])))] (.seq (.block 0 (.loop (.seq (ag [ad 25 0,aZ 26 .gtr 25 9] (bg 26 .skip (.exit 0))) (.block 1 (ag [ad 27 0,aZ 28 .rem 27 10,bI 29 (.bin .add false (dG 48) (.t 28)),bI 30 (.conv .u8 (.t 29)),ji 31 1 5 [.t 30],bI 32 (.b2s (.t 31)),ad 33 3,b2 34 .add 32 33,ad 3 34] (.region [ad 35 0,aZ 36 .quo 35 10,ad 0 36])))))) (ag [ad 37 0,bI 38 (.bin .add false (dG 48) (.t 37)),bI 39 (.conv .u8 (.t 38)),ji 40 1 5 [.t 39],bI 41 (.b2s (.t 40)),ad 42 3,b2 43 .add 41 42,ad 2 43] .ret)))))
@[simp] def y0:List cr:=[.tmp 2]
def xk:C:=(ag [dL 1 0,bI 2 (.mov (.c (.str [])))] (.seq (.drawn true 53 [iV 9 131 [],aL 10 0 1 1,aN 11 1 10,dk 12 1 9 11,aN 13 1 12,aL 14 1 1 1,aN 15 1 14,b2 16 .add 13 15,ad 3 16]) (.seq (ag [aL 17 0 1 1,aN 18 1 17,aZ 19 .leq 18 1] (bg 19 (ag [ad 20 3,ad 2 20] .ret) .skip)) (ag [ad 21 3,ji 22 1 9 [.t 21],ad 4 22] (.seq (ag [aL 23 2 1 1,aN 24 1 23,cw 25 24,cl 26 0] (jG 27 26 25 (.seq (.block 1 (ag [dk 28 4 24 26,bT 29 4 28,mP 6 oa,cI 4 6 29] (.region [ad 30 4,bT 31 4 6,cK 32 132 31,ji 33 1 9 [.t 32],oy 34 1 9 30 33,ad 4 34]))) (.region [aZ 35 .add 26 1,ad 26 35])))) (.seq (ag [aL 36 3 1 1,aN 37 1 36,cw 38 37,cl 39 0] (.block 2 (.loop (ag [b2 40 .lss 39 38] (.seq (bg 40 .skip (.exit 2)) (.seq (.block 3 (ag [dk 41 4 37 39,bT 42 4 41,dm (.alloc 8 none (.agg [.int .i64 0,.str [],.slice 4 .nil [],.slice 4 .nil []])),cI 4 8 42] (.region [ad 43 4,bT 44 4 8,cK 45 58 44,ji 46 1 9 [.t 45],oy 47 1 9 43 46,ad 4 47]))) (.region [aZ 48 .add 39 1,ad 39 48]))))))) (ag [ad 49 4,⟨none,.call (some 50) (.c (.func 59 [])) [.t 49,(.c (.str [32]))]⟩,bI 51 (.bin .add false (.c (.str [40])) (.t 50)),bI 52 (.bin .add false (.t 51) (.c (.str [41]))),ad 2 52] .ret)))))))
@[simp] def Ip:List cr:=[.tmp 2]
def El:C:=(ag [bI 4 (.mov (.c (.str [])))] (ag [bI 5 (.mov (.c (.str [])))] (.seq (ag [ad 8 0,cw 9 8,cl 10 0] (jG 11 10 9 (.seq (.block 1 (ag [ad 12 10,dk 13 1 8 10,aN 14 1 13,ad 6 12,ad 7 14] (.seq (ag [ad 15 6,aZ 16 .gtr 15 0] (bg 16 (.region [ad 17 5,ad 18 1,b2 19 .add 17 18,ad 5 19]) .skip)) (.region [ad 20 5,ad 21 7,b2 22 .add 20 21,ad 5 22])))) (.region [aZ 23 .add 10 1,ad 10 23])))) (ag [ad 24 5,ad 4 24] .ret))))
@[simp] def Sk:List cr:=[.tmp 4]
def Et:C:=(ag [dL 2 0,pB 4 1] (.seq (ag [aL 9 2 1 2,aN 10 1 9,cw 11 10,cl 12 0] (jG 13 12 11 (.seq (.block 1 (ag [dk 14 4 10 12,bT 15 4 14,mP 6 oa,cI 4 6 15] (.region [bT 16 4 6,ad 17 1,en 18 156 16 17,ad 1 18]))) (.region [aZ 19 .add 12 1,ad 12 19])))) (.seq (ag [aL 20 3 1 2,aN 21 1 20,cw 22 21,cl 23 0] (.block 2 (.loop (ag [b2 24 .lss 23 22] (.seq (bg 24 .skip (.exit 2)) (.seq (.block 3 (ag [dk 25 4 21 23,bT 26 4 25,dm (.alloc 8 none (.agg [.int .i64 0,.str [],.slice 4 .nil [],.slice 4 .nil []])),cI 4 8 26] (.region [bT 27 4 8,ad 28 1,en 29 89 27 28,ad 1 29]))) (.region [aZ 30 .add 23 1,ad 23 30]))))))) (ag [ad 31 1,ad 4 31] .ret))))
@[simp] def Sp:List cr:=[.tmp 4]
def Ek:C:=(ag [b3 2 false] (.seq (ag [dm (.bsl 5 1 9 [(.c (.str [116,114,117,101])),(.c (.str [102,97,105,108])),(.c (.str [115,121,109,98,111,108])),(.c (.str [110,117,109,98,101,114])),(.c (.str [97,98,115,101,110,116])),(.c (.str [97,110,100])),(.c (.str [111,114])),(.c (.str [110,111,116])),(.c (.str [100,101,102,105,110,101]))]),cw 6 5,cl 7 0] (jG 8 7 6 (.seq (.block 1 (ag [dk 9 1 5 7,aN 10 1 9,ad 4 10] (ag [ad 11 4,ad 12 0,b2 13 .eql 11 12] (bg 13 (ag [b3 2 false] .ret) .skip)))) (.region [aZ 14 .add 7 1,ad 7 14])))) (ag [ad 15 0,cK 16 188 15,ad 2 16] .ret)))
@[simp] def Sj:List cr:=[.tmp 2]
def Eu:C:=(ag [pB 0 1] (ag [dm (.bsl 1 1 9 [(.c (.str [116,114,117,101])),(.c (.str [102,97,105,108])),(.c (.str [61])),(.c (.str [47,61])),(.c (.str [115,121,109,98,111,108])),(.c (.str [110,117,109,98,101,114])),(.c (.str [97,98,115,101,110,116])),(.c (.str [97,110,100])),(.c (.str [111,114])),(.c (.str [])),(.c (.str [110,111,116]))]),ad 0 1] .ret))
@[simp] def Sq:List cr:=[.tmp 0]
def tu:C:=(ag [dL 1 0,bI 2 (.mov (.c (.str [])))] (.seq (ag [aL 4 0 1 1,aN 5 1 4] (.block 0 (ag [aZ 7 .eql 5 0,ad 6 7] (bg 6 (ag [bI 2 (.mov (.c (.str [40,41])))] .ret) (ag [aZ 9 .eql 5 1,ad 8 9] (bg 8 (ag [aL 10 1 1 1,aN 11 1 10,cK 12 57 11,bI 13 (.bin .add false (.c (.str [63])) (.t 12)),ad 2 13] .ret) (ag [aZ 15 .eql 5 2,ad 14 15] (bg 14 (ag [aL 16 2 1 1,aN 17 1 16,ad 2 17] .ret) (ag [aZ 19 .eql 5 3,ad 18 19] (bg 18 (ag [aL 20 1 1 1,aN 21 1 20,cK 22 57 21,ad 2 22] .ret) .skip)))))))))) (ag [aL 23 3 1 1,aN 24 1 23,jF 25 4 24 0,bT 26 4 25,cK 27 132 26,bI 28 (.bin .add false (.c (.str [40])) (.t 27)),ad 3 28] (.seq (ag [aL 29 3 1 1,aN 30 1 29,jF 31 4 30 1,bT 32 4 31,cI 4 1 32] (.block 1 (.loop (.seq (ag [aL 33 0 1 1,aN 34 1 33,aZ 35 .eql 34 4] (bg 35 .skip (.exit 1))) (.seq (.block 2 (.region [ad 40 3,bI 41 (.bin .add false (.t 40) (.c (.str [32]))),aL 42 3 1 1,aN 43 1 42,jF 44 4 43 0,bT 45 4 44,cK 46 132 45,b2 47 .add 41 46,ad 3 47])) (.region [aL 36 3 1 1,aN 37 1 36,jF 38 4 37 1,bT 39 4 38,cI 4 1 39])))))) (.seq (ag [aL 48 0 1 1,aN 49 1 48,aZ 50 .neq 49 0] (bg 50 (.region [ad 51 3,bI 52 (.bin .add false (.t 51) (.c (.str [32,46,32]))),bT 53 4 1,cK 54 132 53,b2 55 .add 52 54,ad 3 55]) .skip)) (ag [ad 56 3,bI 57 (.bin .add false (.t 56) (.c (.str [41]))),ad 2 57] .ret))))))
@[simp] def Cc:List cr:=[.tmp 2]
def zL:C:=(ag [dL 1 0,b3 2 false] (ag [bT 3 4 1,iV 4 210 [.t 3,(dG 80)],aZ 5 .leq 4 80,ad 6 5,au 6 true (bT 7 4 1),au 6 true (cK 8 211 7),dT 9 6 8,ad 2 9] .ret))
@[simp] def Ca:List cr:=[.tmp 2]
def Es:C:=(ag [dL 2 0,cl 4 0] (ag [cl 5 1] (.seq (ag [aL 8 3 1 2,aN 9 1 8,cw 10 9,cl 11 0] (jG 12 11 10 (.seq (.block 1 (ag [dk 13 4 9 11,bT 14 4 13,dm (.alloc 7 none (.agg [.int .i64 0,.str [],.slice 4 .nil [],.slice 4 .nil []])),cI 4 7 14] (.seq (ag [ad 15 5,ad 16 1,b2 17 .gtr 15 16] (bg 17 (ag [ad 18 5,ad 4 18] .ret) .skip)) (.region [ad 19 5,bT 20 4 7,ad 21 1,ad 22 5,b2 23 .sub 21 22,en 24 210 20 23,b2 25 .add 19 24,ad 5 25])))) (.region [aZ 26 .add 11 1,ad 11 26])))) (ag [ad 27 5,ad 4 27] .ret))))
@[simp] def Sn:List cr:=[.tmp 4]
def nK:C:=(ag [dL 1 0,b3 2 false] (.seq (ag [aL 6 0 1 1,aN 7 1 6,iV 8 127 [.t 7,(dG 0),(dG 10)],e7 9 8,ad 10 9,au 10 false (aL 11 0 1 1),au 10 false (aN 12 1 11),au 10 false (aZ 13 .neq 12 9),cZ 10 false 14 13,au 14 true (aL 15 1 1 1),au 14 true (aN 16 1 15),pC 14 true 17 (.bin .neq false (.t 16) (.c (.str []))),au 10 false (dT 18 14 17),dq 19 10 18,ad 20 19,au 20 false (aL 21 2 1 1),au 20 false (aN 22 1 21),au 20 false (cK 23 253 22),au 20 false (e7 24 23),dq 25 20 24] (bg 25 (ag [b3 2 false] .ret) .skip)) (ag [aL 26 2 1 1,aN 27 1 26,cw 28 27,ji 29 1 3 [(dG 0),(dG 0),(dG 2),(dG 2),(dG 1),(dG 1),(dG 2),(dG 0),(dG 0),.t 28,(dG 0)],aL 30 0 1 1,aN 31 1 30,dk 32 1 29 31,aN 33 1 32,ad 3 33] (.seq (ag [aL 34 2 1 1,aN 35 1 34,cw 36 35,ad 37 3,b2 38 .neq 36 37,ad 39 38,cZ 39 false 40 3,au 39 false (aZ 41 .gtr 40 4),dq 42 39 41,ad 43 42,au 43 false (aL 44 0 1 1),au 43 false (aN 45 1 44),au 43 false (aZ 46 .lss 45 7),cZ 43 false 47 46,au 47 true (aL 48 3 1 1),au 47 true (aN 49 1 48),au 47 true (cw 50 49),au 47 true (aZ 51 .gtr 50 0),au 43 false (dT 52 47 51),dq 53 43 52,ad 54 53,au 54 false (aL 55 3 1 1),au 54 false (aN 56 1 55),au 54 false (cw 57 56),au 54 false (aZ 58 .gtr 57 8),dq 59 54 58] (bg 59 (ag [b3 2 false] .ret) .skip)) (.seq (ag [aL 60 3 1 1,aN 61 1 60,cw 62 61,cl 63 0] (jG 64 63 62 (.seq (.block 1 (ag [dk 65 4 61 63,bT 66 4 65,dm (.alloc 5 none (.agg [.int .i64 0,.str [],.slice 4 .nil [],.slice 4 .nil []])),cI 4 5 66] (ag [bT 67 4 5,cK 68 211 67,e7 69 68] (bg 69 (ag [b3 2 false] .ret) .skip)))) (.region [aZ 70 .add 63 1,ad 63 70])))) (.seq (ag [aL 71 0 1 1,aN 72 1 71] (.block 2 (ag [aZ 74 .eql 72 6,ad 73 74] (bg 73 (ag [aL 75 2 1 1,aN 76 1 75,jF 77 4 76 0,aL 78 0 1 77,aN 79 1 78,aZ 80 .eql 79 2,ad 2 80] .ret) (ag [aZ 82 .eql 72 9,ad 81 82] (bg 81 (ag [aL 83 3 1 1,aN 84 1 83,cw 85 84,aZ 86 .eql 85 0,ad 87 86,au 87 true (aL 88 1 1 1),au 87 true (aN 89 1 88),au 87 true (cK 90 128 89),dT 91 87 90,ad 2 91] .ret) (ag [aZ 93 .eql 72 10,ad 92 93] (bg 92 (ag [aL 94 3 1 1,aN 95 1 94,cw 96 95,aZ 97 .eql 96 1,ad 98 97,au 98 true (aL 99 3 1 1),au 98 true (aN 100 1 99),au 98 true (jF 101 4 100 0),au 98 true (aL 102 0 1 101),au 98 true (aN 103 1 102),au 98 true (aZ 104 .eql 103 9),dT 105 98 104,ad 2 105] .ret) .skip)))))))) (ag [b3 2 true] .ret)))))))
@[simp] def uA:List cr:=[.tmp 2]
def Ev:C:=(ag [dL 1 0,b3 2 false] (ag [aL 3 0 1 1,aN 4 1 3,aZ 5 .eql 4 0,ad 6 5,au 6 true (aL 7 1 1 1),au 6 true (aN 8 1 7),pC 6 true 9 (.bin .eql false (.t 8) (.c (.str []))),dT 10 6 9,ad 11 10,au 11 true (aL 12 2 1 1),au 11 true (aN 13 1 12),au 11 true (cw 14 13),au 11 true (aZ 15 .eql 14 0),dT 16 11 15,ad 17 16,au 17 true (aL 18 3 1 1),au 17 true (aN 19 1 18),au 17 true (cw 20 19),au 17 true (aZ 21 .eql 20 0),dT 22 17 21,ad 2 22] .ret))
@[simp] def Iq:List cr:=[.tmp 2]
def Eo:C:=(ag [b3 2 false] (.seq (ag [ad 5 0,cw 6 5,cl 7 0] (jG 8 7 6 (.seq (.block 1 (ag [dk 9 4 5 7,bT 10 4 9,mP 4 oa,cI 4 4 10] (ag [bT 11 4 4,cK 12 271 11,e7 13 12] (bg 13 (ag [b3 2 false] .ret) .skip)))) (.region [aZ 14 .add 7 1,ad 7 14])))) (ag [b3 2 true] .ret)))
@[simp] def Sm:List cr:=[.tmp 2]
def mL:List (Nat×cR):=[
 (3,⟨1,8,.int .i64,.int .i64 0⟩),
 (5,⟨1,1,.int .u8,.int .u8 0⟩),
 (9,⟨1,16,.str,.str []⟩),
 (35,⟨1,24,.slice 5,.slice 1 .nil []⟩),
 (38,⟨1,24,.slice 40,.slice 4 .nil []⟩),
 (40,⟨4,56,.struct [(0,3),(1,3),(2,9),(3,38)],.agg [.int .i64 0,.int .i64 0,.str [],.slice 4 .nil []]⟩),
 (63,⟨1,24,.slice 65,.slice 4 .nil []⟩),
 (65,⟨4,72,.struct [(0,3),(1,9),(2,38),(3,63)],.agg [.int .i64 0,.str [],.slice 4 .nil [],.slice 4 .nil []]⟩),
 (70,⟨1,24,.slice 9,.slice 1 .nil []⟩),
 (136,⟨1,24,.slice 3,.slice 1 .nil []⟩)]
theorem gZ:fm aF mL=true:=by kernel_rfl
theorem B2:cG mL xj y0 1 Tryz.f57=true:=by kernel_rfl
theorem Ak:aF.funcs[(57:Nat)]? =some Tryz.f57:=Tryz.func57
theorem B3:cG mL xk Ip 1 Tryz.f58=true:=by kernel_rfl
theorem Al:aF.funcs[(58:Nat)]? =some Tryz.f58:=Tryz.func58
theorem Rq:cG mL El Sk 2 Tryz.f59=true:=by kernel_rfl
theorem M6:aF.funcs[(59:Nat)]? =some Tryz.f59:=Tryz.func59
theorem Rx:cG mL Et Sp 2 Tryz.f89=true:=by kernel_rfl
theorem Nd:aF.funcs[(89:Nat)]? =some Tryz.f89:=Tryz.func89
theorem Rp:cG mL Ek Sj 1 Tryz.f128=true:=by kernel_rfl
theorem M5:aF.funcs[(128:Nat)]? =some Tryz.f128:=Tryz.func128
theorem Ry:cG mL Eu Sq 0 Tryz.f131=true:=by kernel_rfl
theorem Nf:aF.funcs[(131:Nat)]? =some Tryz.f131:=Tryz.func131
theorem wo:cG mL tu Cc 1 Tryz.f132=true:=by kernel_rfl
theorem vn:aF.funcs[(132:Nat)]? =some Tryz.f132:=Tryz.func132
theorem HV:cG mL zL Ca 1 Tryz.f155=true:=by kernel_rfl
theorem Fs:aF.funcs[(155:Nat)]? =some Tryz.f155:=Tryz.func155
theorem Rw:cG mL Es Sn 2 Tryz.f210=true:=by kernel_rfl
theorem Nc:aF.funcs[(210:Nat)]? =some Tryz.f210:=Tryz.func210
theorem ph:cG mL nK uA 1 Tryz.f211=true:=by kernel_rfl
theorem oU:aF.funcs[(211:Nat)]? =some Tryz.f211:=Tryz.func211
theorem Rz:cG mL Ev Iq 1 Tryz.f226=true:=by kernel_rfl
theorem Ng:aF.funcs[(226:Nat)]? =some Tryz.f226:=Tryz.func226
theorem Rt:cG mL Eo Sm 1 Tryz.f253=true:=by kernel_rfl
theorem M9:aF.funcs[(253:Nat)]? =some Tryz.f253:=Tryz.func253
theorem C0(l:List aU):bF aF 253 [.slice 4 .no (l.map enc)] (.bool (l.all aU.fits)):=by
 generalize aW:l.all aU.fits=R;refine bq gZ M9 Rt fun aO=>?_;unfold Eo;have ee:l.length<=68719476736:=by simp[fb,eQ,e0,aX]at aO;omega
 clear aO;simp;refine fv (fun i (_:Unit)=>⟨[(5,.slice 4 .no (l.map enc)),(6,.int .i64 l.length),(7,.int .i64 i)],[],[],0,[]⟩) l.length (lk aU.fits l) () cq (fun k b aa=>Ω) (fun _ ai _=>?_) (fun i _ aq ai _=>?_)
 ·have:R=true:=by rw[<-aW];exact ai.fin
  subst this;clear ai aW;exact bY
 ·obtain⟨t,aG,Py⟩:=eM aq;have eA:=TW t;cases g:t.fits
  ·rw[g]at eA;have:R=false:=by rw[<-aW];exact rP aG g
   subst this;clear aG ai aW;exact bY
  ·rw[g]at eA;have aS:=ai.step aG g;clear aG ai aW;exact nq
theorem TQ(g:Gm):bF aF 226 [g.e] (.bool (rl g)):=by
 refine bq gZ Ng Rz fun aO=>?_;unfold Ev;clear aO;simp;((with_reducible repeat' first|refine aP ?_|simp|((first|apply b7|apply b9|apply b8)<;>intro h<;>try simp at h))<;>(try exact cn));all_goals simp[bJ,Iq,bp,bz,bo]
 all_goals simp_all[rl,ui]
mutual
def jm:Gm->Int->Int
 | .mk _ _ _ gs,m=>k6 gs 1 m
def k6:List Gm->Int->Int->Int
 |[],n,_=>n
 |x::xs,n,m=>if m<n then n else k6 xs (n+jm x (m-n)) m
end
mutual
theorem zT:∀(t:Gm) (m:Int),0<=m->1<=jm t m/\jm t m<=m+1
 | .mk _ _ _ gs,m,h=>by simp only[jm];exact EN gs 1 m h Ω Ω
theorem EN:∀(l:List Gm) (n m:Int),0<=m->1<=n->n<=m+1->1<=k6 l n m/\k6 l n m<=m+1
 |[],n,m,_,I,J=>by simp only[k6];exact⟨I,J⟩
 |x::xs,n,m,a1,I,J=>by
  simp only[k6];split
  ·exact⟨I,J⟩
  ·have:=zT x (m-n) Ω;exact EN xs _ m a1 Ω Ω
end
mutual
theorem EP:∀(t:Gm) (m:Int),0<=m->(jm t m<=m↔(t.sz:Int)<=m)/\((t.sz:Int)<=m->jm t m=t.sz)
 | .mk _ _ _ gs,m,h=>by have:=EO gs 1 m h Ω;simp only[jm,Gm.sz];exact⟨this.1.trans Ω,fun h=>by rw[this.2 Ω];omega⟩
theorem EO:∀(l:List Gm) (n m:Int),0<=m->1<=n->(k6 l n m<=m↔n+(nR l:Int)<=m)/\(n+(nR l:Int)<=m->k6 l n m=n+nR l)
 |[],n,m,_,I=>by simp[k6,nR]
 |x::xs,n,m,a1,I=>by
  simp only[k6,nR];have bB:=x.sz_pos;by_cases hm:m<n
  ·rw[if_pos hm];exact⟨Ω,fun h=>Ω⟩
  ·rw[bu hm];obtain⟨bQ,a2⟩:=EP x (m-n) Ω;have a3:=zT x (m-n) Ω;obtain⟨bH,bR⟩:=EO xs (n+jm x (m-n)) m a1 Ω;by_cases ab:(x.sz:Int)<=m-n
   ·rw[a2 ab]at bH bR⊢;exact⟨bH.trans Ω,fun h=>by rw[bR Ω];omega⟩
   ·have:¬jm x (m-n)<=m-n:=fun h=>ab (bQ.1 h);exact⟨bH.trans ⟨fun h=>Ω,fun h=>Ω⟩,fun h=>Ω⟩
end
theorem Lc(g:Gm)(m:Int):jm g m=k6 g.gs 1 m:=by cases g;rfl
theorem TM:∀(k:Nat) (t:Gm),t.sz<=k->∀m:Int,0<=m->m<=1000000->bF aF 210 [t.e,.int .i64 m] (.int .i64 (jm t m)):=by
 intro k;induction k with
 |zero=>intro t aG;have:=t.sz_pos;omega
 |succ k bb=>
  intro t aG m a1 I;refine bq gZ Nc Rw fun aO=>?_;unfold Es;have ee:t.gs.length<=68719476736:=by rw[Gm.e_eq]at aO;simp[fb,eQ,e0,aX]at aO;omega
  clear aO;simp;refine fv (fun i (n:Int)=>⟨[(1,.int .i64 m),(5,.int .i64 n),(9,.slice 4 .no (t.gs.map Gm.e)),(10,.int .i64 t.gs.length),(11,.int .i64 i)],[],[],0,[]⟩) t.gs.length (fun i n=>(1<=n/\n<=m+1)/\k6 (t.gs.drop i) n m=jm t m) 1 (by simp;exact cq) ⟨Ω,by simp[Lc]⟩ (fun n ai _=>?_) (fun i n aq ai _=>?_)
  ·have he:n=jm t m:=by have:=ai.2;simp[k6]at this;exact this
   subst he;clear ai;exact bY
  ·obtain⟨⟨n3,gL⟩,ai⟩:=ai;obtain⟨x,ab,bL⟩:=eM aq;have bj:t.gs.drop i=x::t.gs.drop (i+1):=by rw[List.drop_eq_getElem_cons aq,bL]
   have dR:x.sz<=k:=by have:=t.gs_lt (e9 ab);omega
   have cS:bs ((i:Int)+1):=by unfold bs;omega
   rw[bj]at ai;simp only[k6]at ai;by_cases af:m<n
   ·rw[if_pos af]at ai;subst ai;clear bb;exact bY
   ·rw[bu af]at ai;have aQ:=zT x (m-n) Ω;have dD:=bb x dR (m-n) Ω Ω;have ld:bs (m-n):=by unfold bs;omega
    have VY:bs (n+jm x (m-n)):=by unfold bs;omega
    have gK:(1<=n+jm x (m-n)/\n+jm x (m-n)<=m+1)/\k6 (t.gs.drop (i+1)) (n+jm x (m-n)) m=jm t m:=⟨Ω,ai⟩;clear bb;have wg:=dD;exact nq
theorem zp(d:Nat)(h:d<10):IntKind.u8.wrap (48+(d:Int))=((48+d:Nat):Int):=by rcases(by omega:d=0\/d=1\/d=2\/d=3\/d=4\/d=5\/d=6\/d=7\/d=8\/d=9)with rfl|rfl|rfl|rfl|rfl|rfl|rfl|rfl|rfl|rfl<;>rfl
theorem E0(d:Nat):nF (48+(d:Int)).toNat=48+nF d:=by rw[show(48+(d:Int)).toNat=48+d by omega];simp
theorem EZ(d:Nat)(h:d<10):nF (IntKind.u8.wrap (48+(d:Int))).toNat=48+nF d:=by rw[zp d h,Int.toNat_natCast];simp
theorem EY(m:Nat)(h:m<18446744073709551616):(Lib.decDigits m).length<=25:=by
 have:∀(k:Nat) (m:Nat),m<10 ^ (k+1)->(Lib.decDigits m).length<=k+1:=by
  intro k;induction k with
  |zero=>intro m hm;rw[rV (by simpa using hm)];simp
  |succ k bb=>
   intro m hm;by_cases h:m<10
   ·rw[rV h];simp
   ·rw[vh Ω,dh];have:=bb (m/10) (by rw[Nat.pow_succ]at hm;omega);simp;omega
 exact this 24 m Ω
theorem SD(m:Nat)(h:m<=9223372036854775807):bF aF 57 [.int .i64 m] (.str (Lib.decDigits m)):=by
 have a1:¬(m:Int)<0:=Ω
 have se:=EY m Ω;generalize aW:Lib.decDigits m=R at se;refine bq gZ Ak B2 fun aO=>?_;unfold xj;clear aO;simp;(with_reducible repeat' first|refine aP ?_|simp[a1]);refine pR (fun(x:Nat×List bt)=>⟨[(0,.int .i64 x.1),(3,.str x.2)],[],[],0,[]⟩) (fun x=>x.1) (fun x=>x.1<=9223372036854775807/\Lib.decDigits x.1++x.2=R) (m,[]) (by simp;exact cq) ⟨h,by simp[aW]⟩ ?_;rintro⟨j,o⟩ ⟨I,J⟩ _;simp only at I J;have Wk:o.length<=25:=by rw[<-J]at se;simp at se;omega
 have dy:1+o.length<=aX:=by unfold aX;omega
 have et:o.length+1<=aX:=by unfold aX;omega
 by_cases ai:9<j
 ·have bj:(j:Int).tdiv 10=(j/10:Nat):=by rw[Int.tdiv_eq_ediv_of_nonneg Ω];omega
  have hm:(j:Int).tmod 10=(j%10:Nat):=by rw[Int.tmod_eq_emod_of_nonneg Ω];omega
  have sw:=zp (j%10) Ω;have ld:bs (48+((j%10:Nat):Int)):=by unfold bs;omega
  have hw:mQ.wrap ((j/10:Nat):Int)=((j/10:Nat):Int):=pD _ Ω;have Bf:mQ.wrap ((j%10:Nat):Int)=((j%10:Nat):Int):=pD _ Ω;have vZ:mQ.wrap ((j:Int)/10)=(j:Int)/10:=pD _ Ω;have v7:nF (IntKind.u8.wrap (48+(j:Int)%10)).toNat=48+nF (j%10):=by have:=EZ (j%10) Ω;rwa[Int.natCast_emod]at this
  have kO:(9:Int)<j:=Ω
  rw[vh Ω]at J;simp[kO,ai];(with_reducible repeat' first|refine aP ?_|simp[bj,hm,sw,ld,hw,Bf,dy,et]);refine cj.whl (j/10,nF (48+j%10)::o) (by simp;omega) ⟨by simp;omega,by rw[<-J];simp⟩ ⟨by simp[fresh,aB,aH,bV,aK,Pv.look,vZ,v7],dW (by simp[fresh,aB,aH,bV,aK,Pv.look,vZ,v7]),dY (by simp[fresh,aB,aH,dJ,aK,Pv.look,vZ,v7]),Ψ⟩
 ·have kO:¬(9:Int)<j:=Ω
  have sw:=zp j Ω;have ld:bs (48+(j:Int)):=by unfold bs;omega
  rw[rV Ω]at J;subst J;simp[kO,ai];(with_reducible repeat' first|refine aP ?_|simp[sw,ld,dy,et]);simp[bJ,y0,bp,bz,bo];exact E0 j
theorem SC:∀m:Nat,1<=m->m<=9223372036854775808->bF aF 57 [.int .i64 (-(m:Int))] (.str (45::Lib.decDigits m)):=by
 intro m;induction m using Nat.strongRecOn with
 |_ m bb=>
 intro I J;have a1:0<m:=Ω
 have se:=EY m Ω;have bj:(-(m:Int)).tdiv 10= -((m/10:Nat):Int):=by rw[Int.neg_tdiv,Int.tdiv_eq_ediv_of_nonneg Ω];omega
 have hm:(-(m:Int)).tmod 10= -((m%10:Nat):Int):=by rw[Int.neg_tmod,Int.tmod_eq_emod_of_nonneg Ω];omega
 have hw:mQ.wrap (-((m/10:Nat):Int))= -((m/10:Nat):Int):=pD _ Ω;have Bf:mQ.wrap (-((m%10:Nat):Int))= -((m%10:Nat):Int):=pD _ Ω;by_cases al:m<10
 ·have dS:m/10=0:=Ω
  have sw:=zp m al;have ld:bs (48+(m:Int)):=by unfold bs;omega
  have Oy:(-(m:Int)).tdiv 10=0:=by rw[bj,dS];rfl
  have PC:mQ.wrap 0=0:=rfl;have A8:(48:Int)- -(m:Int)=48+m:=Ω
  rw[rV al];refine bq gZ Ak B2 fun aO=>?_;unfold xj;clear aO;simp;(with_reducible repeat' first|refine aP ?_|simp[a1,Oy,PC,A8,sw,ld]);simp[bJ,y0,bp,bz,bo];exact E0 m
 ·have aY:(-(m:Int)).tdiv 10= -((m:Int)/10):=by rw[bj];simp
  have hB:(-(m:Int)).tmod 10= -((m:Int)%10):=by rw[hm];simp
  have vZ:mQ.wrap (-((m:Int)/10))= -((m:Int)/10):=pD _ Ω;have v7:mQ.wrap (-((m:Int)%10))= -((m:Int)%10):=pD _ Ω;have Pb:((-((m:Int)/10))==0)=false:=fN.2 Ω;have dK:=bb (m/10) Ω Ω Ω;rw[Int.natCast_ediv]at dK;have sw:nF (IntKind.u8.wrap (48+(m:Int)%10)).toNat=48+nF (m%10):=by have:=EZ (m%10) Ω;rwa[Int.natCast_emod]at this
  have ld:bs (48+(m:Int)%10):=by unfold bs;omega
  have A8:(48:Int)- -((m:Int)%10)=48+(m:Int)%10:=Ω
  rw[vh Ω]at se⊢;simp at se;have dy:(Lib.decDigits (m/10)).length+1+1<=aX:=by unfold aX;omega
  clear bj hm hw Bf bb se;refine bq gZ Ak B2 fun aO=>?_;unfold xj;clear aO;simp;(with_reducible repeat' first|refine aP ?_|refine aC dK ?_|refine aD dK ?_|simp[a1,aY,hB,vZ,v7,Pb,A8,sw,ld,dy]);simp[bJ,y0,bp,bz,bo]
theorem rH(n:Int)(h:bs n):bF aF 57 [.int .i64 n] (.str (br n)):=by
 unfold bs at h;unfold br;by_cases a1:n<0
 ·rw[if_pos a1];have:=SC n.natAbs Ω Ω;rwa[show-(n.natAbs:Int)=n by omega]at this
 ·rw[bu a1];have:=SD n.toNat Ω;rwa[show(n.toNat:Int)=n by omega]at this
theorem qx(l:List (List bt))(b:List bt)(aA:(b0 b l).length<=aX):bF aF 59 [.slice 1 .no (e8 l),.str b] (.str (b0 b l)):=by
 refine bq gZ M6 Rq fun aO=>?_;unfold El;have af:l.length<=aX/\b.length<=aX:=by simpa[fb,eQ,e0]using aO
 clear aO;simp;(with_reducible repeat' first|refine aP ?_|simp);refine fv (fun i (acc:List bt)=>⟨[(1,.str b),(5,.str acc),(8,.slice 1 .no (e8 l)),(9,.int .i64 l.length),(10,.int .i64 i)],[],[],0,[]⟩) l.length (fun i acc=>acc=b0 b (l.take i)) [] (by simp;exact cq) (by simp[b0]) (fun acc ai _=>?_) (fun i acc aq ai _=>?_)
 ·rw[jY]at ai;subst ai;exact bY
 ·obtain⟨x,ab⟩:∃x,l[i]? =some x:=⟨_,cB aq⟩;have bL:∀h,((e8 l)[i]'h)= .str x:=fun h=>by rw[zj aq];rw[cB aq]at ab;rw[fo ab]
  have cS:bs ((i:Int)+1):=by unfold bs;unfold aX at af;omega
  have hle:=Bp b l (i+1);have hM:=G2 b l ab;by_cases a1:i=0
  ·rw[if_pos a1]at hM;have fe:acc=[]:=by rw[ai,a1];simp[b0]
   have aT:¬0<i:=Ω
   have dy:x.length<=aX:=by rw[hM]at hle;omega
   subst fe;simp[aq,bL];(with_reducible repeat' first|refine aP ?_|simp[aq,bL,aT,dy,cS]);refine cj.rng x aq hM.symm cq
  ·rw[bu a1,<-ai]at hM;have aT:0<i:=Ω
   rw[hM]at hle;simp only[dh]at hle;have dy:acc.length+b.length<=aX:=Ω
   have et:acc.length+b.length+x.length<=aX:=Ω
   have mm:acc.length+(b.length+x.length)<=aX:=Ω
   simp[aq,bL];(with_reducible repeat' first|refine aP ?_|simp[aq,bL,aT,dy,et,mm,cS]);refine cj.rng (acc++b++x) aq hM.symm (by simp only[List.append_assoc];exact cq)
def qB(x:List bt×T):a6:=⟨[(1,.ptr (.loc 0) 0),(3,.str x.1)],[(.loc 0,cells x.2.e)],[],1,[]⟩
theorem TL:∀(n:Nat) (t:T),t.size<=n->t.ok=true->(bZ t).length<=aX->bF aF 132 [t.e] (.str (bZ t)):=by
 intro n;induction n with
 |zero=>intro t aG;cases t<;>simp[T.size]at aG
 |succ n bb=>
 intro t aG fw ee;cases t with
 |nil=>refine bq gZ vn wo fun aO=>?_;unfold tu;clear aO;simp;(with_reducible repeat' first|refine aP ?_|simp);simp[bJ,Cc,bp,bz,bo];rfl
 |var m=>
  have ao:0<=m/\m<=100000:=by simpa[T.ok]using fw
  have cQ:=rH m (by unfold bs;omega);have aA:=ee;simp only[bZ,hy]at aA⊢;have dy:1+(br m).length<=aX:=Ω
  refine bq gZ vn wo fun aO=>?_;unfold tu;clear aO;exact bY
 |sym s=>refine bq gZ vn wo fun aO=>?_;unfold tu;clear aO;simp;(with_reducible repeat' first|refine aP ?_|simp);simp[bJ,Cc,bp,bz,bo];rfl
 |num m=>
  have ao: -1000000000<=m/\m<=1000000000:=by simpa[T.ok]using fw
  have cQ:=rH m (by unfold bs;omega);simp only[bZ];refine bq gZ vn wo fun aO=>?_;unfold tu;clear aO;exact bY
 |pair a b=>
  simp only[T.size]at aG;have Gx:a.ok=true/\b.ok=true:=by simpa[T.ok]using fw
  have he:bZ (.pair a b)=(40::bZ a)++ec b:=by simp[bZ]
  generalize hw:bZ (.pair a b)=W at ee he⊢;have tK:(40::bZ a).length<=aX:=by rw[he]at ee;simp only[dh]at ee;omega
  have qd:=bb a Ω Gx.1 (by simp at tK;omega);simp only[hy]at tK;have F4:1+(bZ a).length<=aX:=Ω
  refine bq gZ vn wo fun aO=>?_;unfold tu;clear aO;simp;(with_reducible repeat' first|refine aP ?_|refine aC qd ?_|refine aD qd ?_|simp[tK,F4]);refine pR qB (fun x=>x.2.size) (fun x=>x.1++ec x.2=W/\x.2.size<=n/\x.2.ok=true) (40::bZ a,b) (by simp[qB];exact cq) ⟨by simpa using he.symm,by simp;omega,Gx.2⟩ ?_;rintro⟨s,u⟩ ⟨I,J,ak⟩ _;simp only at I J ak;have kz:s.length+(ec u).length<=aX:=by rw[<-I]at ee;simpa using ee
  subst I;clear hw he qd tK F4;cases u with
  |pair x y=>
   simp only[T.size]at J;have Gy:x.ok=true/\y.ok=true:=by simpa[T.ok]using ak
   simp only[ec,hy,dh]at kz;have dD:=bb x Ω Gy.1 Ω;have dy:s.length+1<=aX:=Ω
   have et:s.length+1+(bZ x).length<=aX:=Ω
   have mm:s.length+(1+(bZ x).length)<=aX:=Ω
   have n2:s.length+((bZ x).length+1)<=aX:=Ω
   simp[qB];(with_reducible repeat' first|refine aP ?_|refine aC dD ?_|refine aD dD ?_|simp[dy,et,mm,n2]);refine cj.whl (s++32::bZ x,y) (by simp[T.size];omega) ⟨by simp[ec],by simp;omega,Gy.2⟩ (by simp[qB];exact cq)
  |nil=>simp only[ec,hy,l5]at kz⊢;simp[qB];exact bY
  |var m=>
   have e:ec (T.var m)=32::46::32::(bZ (T.var m)++[41]):=by simp[ec,bZ]
   have av:(ec (T.var m)).length=(bZ (T.var m)).length+4:=by rw[e];simp
   rw[av]at kz;have dD:=bb _ J ak Ω;rw[e];have dy:s.length+3<=aX:=Ω
   have et:s.length+3+(bZ (T.var m)).length<=aX:=Ω
   have mm:s.length+((bZ (T.var m)).length+3)<=aX:=Ω
   have n2:s.length+((bZ (T.var m)).length+3)+1<=aX:=Ω
   have p6:s.length+3+(bZ (T.var m)).length+1<=aX:=Ω
   have vE:s.length+((bZ (T.var m)).length+1+1+1)<=aX:=Ω
   have vF:s.length+((bZ (T.var m)).length+1+1+1)+1<=aX:=Ω
   generalize bZ (T.var m)=w at dD dy et mm n2 p6 vE vF⊢;simp[qB];have wg:=dD;exact bY
  |sym m=>
   have e:ec (T.sym m)=32::46::32::(bZ (T.sym m)++[41]):=by simp[ec,bZ]
   have av:(ec (T.sym m)).length=(bZ (T.sym m)).length+4:=by rw[e];simp
   rw[av]at kz;have dD:=bb _ J ak Ω;rw[e];have dy:s.length+3<=aX:=Ω
   have et:s.length+3+(bZ (T.sym m)).length<=aX:=Ω
   have mm:s.length+((bZ (T.sym m)).length+3)<=aX:=Ω
   have n2:s.length+((bZ (T.sym m)).length+3)+1<=aX:=Ω
   have p6:s.length+3+(bZ (T.sym m)).length+1<=aX:=Ω
   have vE:s.length+((bZ (T.sym m)).length+1+1+1)<=aX:=Ω
   have vF:s.length+((bZ (T.sym m)).length+1+1+1)+1<=aX:=Ω
   generalize bZ (T.sym m)=w at dD dy et mm n2 p6 vE vF⊢;simp[qB];have wg:=dD;exact bY
  |num m=>
   have e:ec (T.num m)=32::46::32::(bZ (T.num m)++[41]):=by simp[ec,bZ]
   have av:(ec (T.num m)).length=(bZ (T.num m)).length+4:=by rw[e];simp
   rw[av]at kz;have dD:=bb _ J ak Ω;rw[e];have dy:s.length+3<=aX:=Ω
   have et:s.length+3+(bZ (T.num m)).length<=aX:=Ω
   have mm:s.length+((bZ (T.num m)).length+3)<=aX:=Ω
   have n2:s.length+((bZ (T.num m)).length+3)+1<=aX:=Ω
   have p6:s.length+3+(bZ (T.num m)).length+1<=aX:=Ω
   have vE:s.length+((bZ (T.num m)).length+1+1+1)<=aX:=Ω
   have vF:s.length+((bZ (T.num m)).length+1+1+1)+1<=aX:=Ω
   generalize bZ (T.num m)=w at dD dy et mm n2 p6 vE vF⊢;simp[qB];have wg:=dD;exact bY
theorem IK:e8 iR=[.str [116,114,117,101],.str [102,97,105,108],.str [115,121,109,98,111,108],.str [110,117,109,98,101,114],.str [97,98,115,101,110,116],.str [97,110,100],.str [111,114],.str [110,111,116],.str [100,101,102,105,110,101]]:=rfl
theorem JH(s:List bt):bF aF 128 [.str s] (.bool (h4 s)):=by
 have c8:=fX s;generalize aW:h4 s=R;refine bq gZ M5 Rp fun aO=>?_;unfold Ek;clear aO;simp[<-IK];refine⟨by rw[IK];simp[nI],?_⟩;refine fv (fun i (_:Unit)=>⟨[(0,.str s),(5,.slice 1 (.own (.loc 0)) (e8 iR)),(6,.int .i64 iR.length),(7,.int .i64 i)],[],[(.loc 0,⟨9,9,1,none⟩)],1,[]⟩) iR.length (lk (fun w=>w !=s) iR) () cq (fun k b aa=>Ω) (fun _ ai _=>?_) (fun i _ aq ai _=>?_)
 ·have aS:iR.contains s=false:=by
   have:=(show lk (fun w=>w !=s) iR iR.length ()from ai).fin;rw[kZ]at this;cases aQ:iR.contains s with
   |false=>rfl
   |true=>
    have I:s∈iR:=by simpa using aQ
    have:=this s I;simp at this
  have:R=iB s:=by rw[<-aW,h4,aS];rfl
  rw[this];clear aW ai;exact bY
 ·have jO:i<iR.length:=aq;obtain⟨w,hw⟩:∃w,iR[i]? =some w:=⟨_,cB jO⟩;have PD:∀h,((e8 iR)[i]'h)= .str w:=fun h=>by rw[zj jO];rw[cB jO]at hw;rw[fo hw]
  have We:(i:Int)<9:=by have h:i<9:=jO;omega
  have cS:bs ((i:Int)+1):=by unfold bs;omega
  have OY:i<(e8 iR).length:=jO;have vS:(e8 iR)[i]? =some (.str w):=by rw[cB OY,PD]
  by_cases he:w=s
  ·have:R=false:=by
    rw[<-aW,h4];have:iR.contains s=true:=by rw[<-he];simpa using e9 hw
    rw[this];rfl
   subst this;subst he;clear aW ai;exact bY
  ·have aS:=ai.step hw (by simpa using he);have V8:(w==s)=false:=by simpa using he
   clear aW ai;exact nq
def rE(k:Int)(n:Int):Int:=if k=9 then n else jV k
def sd(g:Gm):Prop:=(g.ts.length:Int)=rE g.kind g.ts.length/\g.ts.length<=4/\(g.kind<7->g.gs=[])/\g.gs.length<=8
def ov(g:Gm):Bool:=if g.kind=6 then(match g.ts with|x::_=>decide (x.kind=2)|[]=>false)else if g.kind=9 then g.gs.isEmpty&&h4 g.name else if g.kind=10 then(match g.gs with|[x]=>decide (x.kind=9)|_=>false)else true
theorem QB(k:Int):0<=jV k/\jV k<=2:=by
 unfold jV;repeat' split
 all_goals omega
theorem CB(g:Gm):g.shape=true↔(0<=g.kind/\g.kind<=10)/\(g.kind≠9->g.name=[])/\g.ts.all aU.fits=true/\sd g/\g.gs.all Gm.shape=true/\ov g=true:=by
 rw[nv,bE];have aS:=QB g.kind;unfold sd rE ov;by_cases I:0<=g.kind/\g.kind<=6
 ·rw[if_pos I,bu (show¬g.kind=9 by omega)];by_cases cb:g.kind=6
  ·simp[cb];constructor
   ·rintro⟨a,⟨⟨b,c⟩,d⟩,e⟩;rw[c]at*;refine⟨b,a,⟨d,by rw[cb]at aS;omega,rfl,Ψ⟩,Ψ,e⟩
   ·rintro⟨a,b,⟨c,d,e,_⟩,_,f⟩;exact⟨b,⟨⟨a,e⟩,c⟩,f⟩
  ·have wj:¬g.kind=9:=Ω
   have n10:¬g.kind=10:=Ω
   simp[cb,wj,n10];constructor
   ·rintro⟨a,⟨b,c⟩,d⟩;rw[c];exact⟨Ω,b,a,⟨d,Ω,fun _=>rfl,Ψ⟩,Ψ⟩
   ·rintro⟨_,a,b,⟨c,d,e,_⟩,_⟩;exact⟨b,⟨a,e Ω⟩,c⟩
 ·rw[bu I];by_cases dv:g.kind=9
  ·simp[dv];intro _;constructor
   ·rintro⟨⟨b,c⟩,d⟩;rw[c];exact⟨⟨d,Ψ⟩,Ψ,rfl,b⟩
   ·rintro⟨⟨b,c⟩,d,e,f⟩;exact⟨⟨f,e⟩,b⟩
  ·rw[bu dv];by_cases r5:g.kind=7\/g.kind=8
   ·rw[if_pos r5];have dS:jV g.kind=0:=by rcases r5 with h|h<;>rw[h]<;>rfl
    rw[dS];rcases r5 with h|h;all_goals
     simp[h]
     constructor
     ·rintro⟨a,⟨⟨b,c⟩,d⟩,e⟩
      rw[c];exact⟨b,Ψ,⟨rfl,Ψ,d⟩,e⟩
     ·rintro⟨a,b,⟨c,d,e⟩,f⟩
      exact⟨b,⟨⟨a,c⟩,e⟩,f⟩
   ·rw[bu r5];by_cases hf:g.kind=10
    ·simp[hf,jV];constructor
     ·rintro⟨a,⟨⟨b,c⟩,d⟩,e⟩;rw[c];refine⟨b,Ψ,⟨rfl,Ψ,?_⟩,e,d⟩;split at d
      ·rename_i x ab;rw[ab];simp
      ·cases d
     ·rintro⟨a,b,⟨c,d,e⟩,f,h⟩;exact⟨b,⟨⟨a,c⟩,h⟩,f⟩
    ·rw[bu hf];constructor
     ·rintro⟨_,h⟩;cases h
     ·rintro⟨h,_⟩;omega
theorem SJ(g:Gm)(h:¬(0<=g.kind/\g.kind<=10)):bF aF 211 [g.e] (.bool false):=by have cQ:=dn g.kind 0 10;rw[ha h]at cQ;refine bq gZ oU ph fun aO=>?_;unfold nK;clear aO;exact bY
theorem SL(g:Gm)(h:0<=g.kind/\g.kind<=10)(dv:¬g.kind=9)(aS:g.name.isEmpty=false):bF aF 211 [g.e] (.bool false):=by
 have cQ:=dn g.kind 0 10;rw[j0 h]at cQ;have kr:(g.kind !=9)=true:=by simpa using dv
 refine bq gZ oU ph fun aO=>?_;unfold nK;clear aO;exact bY
theorem SM(g:Gm)(h:0<=g.kind/\g.kind<=10)(aS:g.kind≠9->g.name.isEmpty=true)(aG:g.ts.all aU.fits=false):bF aF 211 [g.e] (.bool false):=by
 have cQ:=dn g.kind 0 10;rw[j0 h]at cQ;have b1:=C0 g.ts;rw[aG]at b1;by_cases dv:g.kind=9
 ·have kr:(g.kind !=9)=false:=by simpa using dv
  refine bq gZ oU ph fun aO=>?_;unfold nK;clear aO;simp;((with_reducible repeat' first|refine aP ?_|refine aC cQ ?_|refine aD cQ ?_|refine aC b1 ?_|refine aD b1 ?_|simp[kr]|((first|apply b7|apply b9|apply b8)<;>intro h<;>try simp at h))<;>(try exact cn));simp[bJ,uA,bp,bz,bo]
 ·have kr:(g.kind !=9)=true:=by simpa using dv
  have h0:=aS dv;refine bq gZ oU ph fun aO=>?_;unfold nK;clear aO;exact bY
set_option maxRecDepth 8000 in
theorem SI(g:Gm)(h:0<=g.kind/\g.kind<=10)(aS:g.kind≠9->g.name.isEmpty=true)(aG:g.ts.all aU.fits=true)(hB:¬sd g):bF aF 211 [g.e] (.bool false):=by
 have cQ:=dn g.kind 0 10;rw[j0 h]at cQ;have b1:=C0 g.ts;rw[aG]at b1;have p5:g.kind=0\/g.kind=1\/g.kind=2\/g.kind=3\/g.kind=4\/g.kind=5\/g.kind=6\/g.kind=7\/g.kind=8\/g.kind=9\/g.kind=10:=Ω
 have h0:g.kind≠9->g.name.isEmpty=true:=aS;have sl:∀l:List Gm,decide ((0:Int)<l.length)= !l.isEmpty:=fun l=>by cases l<;>simp
 clear h aG aS;have xN:¬((g.ts.length:Int)=rE g.kind g.ts.length/\g.ts.length<=4/\(g.kind<7->g.gs=[])/\g.gs.length<=8):=hB;clear hB;by_cases dv:g.kind=9
 ·rw[dv]at xN cQ;simp[rE]at xN;clear p5 h0;refine bq gZ oU ph fun aO=>?_;unfold nK;clear aO;simp;simp[dv];((with_reducible repeat' first|refine aP ?_|refine aC cQ ?_|refine aD cQ ?_|refine aC b1 ?_|refine aD b1 ?_|simp[dv,sl]|((first|apply b7|apply b9|apply b8)<;>intro h<;>try simp at h))<;>(try exact cn));all_goals first|(simp[bJ,uA,bp,bz,bo];done)|(exfalso;clear cQ b1;simp_all;done)|(exfalso;clear cQ b1;simp_all;omega)|(exfalso;clear cQ b1;grind)
 have p5:g.kind=0\/g.kind=1\/g.kind=2\/g.kind=3\/g.kind=4\/g.kind=5\/g.kind=6\/g.kind=7\/g.kind=8\/g.kind=10:=Ω
 rcases p5 with aa|aa|aa|aa|aa|aa|aa|aa|aa|aa;all_goals
  rw[aa]at xN
  simp[rE,jV]at xN
  have kR:=h0 Ω
  rw[aa]at cQ
  refine bq gZ oU ph fun aO=>?_;unfold nK
  clear aO
  simp
  simp[aa]
  ((with_reducible repeat' first|refine aP ?_|refine aC cQ ?_|refine aD cQ ?_|refine aC b1 ?_|refine aD b1 ?_|simp[aa,kR,sl]|((first|apply b7|apply b9|apply b8)<;>intro h<;>try simp at h))<;>(try exact cn))
  all_goals first|(simp[bJ,uA,bp,bz,bo];done)|(exfalso;clear cQ b1;simp_all;done)|(exfalso;clear cQ b1;simp_all;omega)|(exfalso;clear cQ b1;grind)
def hH(g:Gm)(i:Nat)(_:Unit):a6:=⟨[(1,.ptr (.loc 0) 0),(61,.slice 4 .no (g.gs.map Gm.e)),(62,.int .i64 g.gs.length),(63,.int .i64 i)],[(.loc 0,[.int .i64 g.kind,.str g.name,.slice 4 .no (g.ts.map enc),.slice 4 .no (g.gs.map Gm.e)])],[],2,[]⟩
set_option maxRecDepth 8000 in
theorem SK(g:Gm)(h:0<=g.kind/\g.kind<=10)(aS:g.kind≠9->g.name.isEmpty=true)(aG:g.ts.all aU.fits=true)(hB:sd g)(bb:∀x∈g.gs,bF aF 211 [x.e] (.bool x.shape)):bF aF 211 [g.e] (.bool (g.gs.all Gm.shape&&ov g)):=by
 have cQ:=dn g.kind 0 10;rw[j0 h]at cQ;have b1:=C0 g.ts;rw[aG]at b1;have p5:g.kind=0\/g.kind=1\/g.kind=2\/g.kind=3\/g.kind=4\/g.kind=5\/g.kind=6\/g.kind=7\/g.kind=8\/g.kind=9\/g.kind=10:=Ω
 have h0:g.kind≠9->g.name.isEmpty=true:=aS;have sl:∀l:List Gm,decide ((0:Int)<l.length)= !l.isEmpty:=fun l=>by cases l<;>simp
 clear h aG aS;obtain⟨bH,bR,ea,ic⟩:=hB;have jl:¬(4:Int)<g.ts.length:=Ω
 have ir:¬(8:Int)<g.gs.length:=Ω
 generalize aW:(g.gs.all Gm.shape&&ov g)=R;have OQ:g.gs.length<=1000000:=Ω
 by_cases dv:g.kind=9
 ·rw[dv]at cQ;clear p5 h0;refine bq gZ oU ph fun aO=>?_;unfold nK;clear aO;simp;simp[dv];(with_reducible repeat' first|refine aP ?_|refine aC cQ ?_|refine aD cQ ?_|refine aC b1 ?_|refine aD b1 ?_|simp[dv,sl,jl,ir]);refine fv (hH g) g.gs.length (lk Gm.shape g.gs) () (by simp[hH,dv];exact cq) (fun k b aa=>Ω) (fun _ ai _=>?_) (fun i _ aq ai _=>?_);rotate_left
  ·obtain⟨y,bG,gg⟩:=eM aq;have gh:=bb y (e9 bG);have cS:bs ((i:Int)+1):=by unfold bs;omega
   cases gz:y.shape
   ·have cC:R=false:=by rw[<-aW,rP bG gz];rfl
    subst cC;rw[gz]at gh;clear aW ai bb;simp[hH,dv,aq,gg];exact bY
   ·have gK:=ai.step bG gz;rw[gz]at gh;clear aW ai bb;simp[hH,dv,aq,gg];(with_reducible repeat' first|refine aP ?_|refine aC gh ?_|refine aD gh ?_|simp[aq,gg,cS]);refine cj.rng () aq gK (by simp[hH,dv];exact cq)
  have cC:R=(g.gs.isEmpty&&h4 g.name):=by rw[<-aW,ai.fin];simp[ov,dv]
  subst cC;clear aW ai bb;have dj:=JH g.name;cases dS:g.gs.isEmpty
  ·have PH:((g.gs.length:Int)==0)=false:=by rw[ui,dS]
   simp[hH,dv];have wg:=dj;exact bY
  ·have PH:((g.gs.length:Int)==0)=true:=by rw[ui,dS]
   simp[hH,dv];have wg:=dj;exact bY
 have kR:=h0 dv;have Dy:g.kind<7->¬0<g.gs.length:=fun h=>by rw[ea h];simp
 clear ea h0;by_cases cb:g.kind=6
 ·rw[cb]at bH cQ;simp only[rE,jV,Int.reduceEq,reduceIte]at bH;have ea:=Dy Ω;refine bq gZ oU ph fun aO=>?_;unfold nK;clear aO;simp;simp[cb];(with_reducible repeat' first|refine aP ?_|refine aC cQ ?_|refine aD cQ ?_|refine aC b1 ?_|refine aD b1 ?_|simp[cb,kR,sl,bH,ea,jl,ir]);refine fv (hH g) g.gs.length (lk Gm.shape g.gs) () (by simp[hH,cb];exact cq) (fun k b aa=>Ω) (fun _ ai _=>?_) (fun i _ aq ai _=>?_);rotate_left
  ·obtain⟨y,bG,gg⟩:=eM aq;have gh:=bb y (e9 bG);have cS:bs ((i:Int)+1):=by unfold bs;omega
   cases gz:y.shape
   ·have cC:R=false:=by rw[<-aW,rP bG gz];rfl
    subst cC;rw[gz]at gh;clear aW ai bb;simp[hH,cb,aq,gg];exact bY
   ·have gK:=ai.step bG gz;rw[gz]at gh;clear aW ai bb;simp[hH,cb,aq,gg];(with_reducible repeat' first|refine aP ?_|refine aC gh ?_|refine aD gh ?_|simp[aq,gg,cS]);refine cj.rng () aq gK (by simp[hH,cb];exact cq)
  obtain⟨x,y,e⟩:∃x y,g.ts=[x,y]:=Jp Ω;have cC:R=decide (x.kind=2):=by rw[<-aW,ai.fin];simp[ov,cb,e]
  subst cC;clear aW ai bb;simp[hH,cb,e];(with_reducible repeat' first|refine aP ?_|simp[cb]);simp[bJ,uA,bp,bz,bo];rfl
 by_cases hf:g.kind=10
 ·rw[hf]at bH cQ;simp only[rE,jV,Int.reduceEq,reduceIte]at bH;refine bq gZ oU ph fun aO=>?_;unfold nK;clear aO;simp;simp[hf];(with_reducible repeat' first|refine aP ?_|refine aC cQ ?_|refine aD cQ ?_|refine aC b1 ?_|refine aD b1 ?_|simp[hf,kR,sl,bH,jl,ir]);refine fv (hH g) g.gs.length (lk Gm.shape g.gs) () (by simp[hH,hf];exact cq) (fun k b aa=>Ω) (fun _ ai _=>?_) (fun i _ aq ai _=>?_);rotate_left
  ·obtain⟨y,bG,gg⟩:=eM aq;have gh:=bb y (e9 bG);have cS:bs ((i:Int)+1):=by unfold bs;omega
   cases gz:y.shape
   ·have cC:R=false:=by rw[<-aW,rP bG gz];rfl
    subst cC;rw[gz]at gh;clear aW ai bb;simp[hH,hf,aq,gg];exact bY
   ·have gK:=ai.step bG gz;rw[gz]at gh;clear aW ai bb;simp[hH,hf,aq,gg];(with_reducible repeat' first|refine aP ?_|refine aC gh ?_|refine aD gh ?_|simp[aq,gg,cS]);refine cj.rng () aq gK (by simp[hH,hf];exact cq)
  by_cases j9:g.gs.length=1
  ·obtain⟨x,e⟩:=List.length_eq_one_iff.1 j9;have cC:R=decide (x.kind=9):=by rw[<-aW,ai.fin];simp[ov,hf,e]
   subst cC;clear aW ai bb;simp[hH,hf,e];(with_reducible repeat' first|refine aP ?_|simp[hf]);simp[bJ,uA,bp,bz,bo];rfl
  ·have cC:R=false:=by
    rw[<-aW,ai.fin];simp[ov,hf];split
    ·rename_i x ab;rw[ab]at j9;simp at j9
    ·rfl
   subst cC;have V9:((g.gs.length:Int)==1)=false:=fN.2 Ω;clear aW ai bb;simp[hH,hf];exact bY
 have p5:g.kind=0\/g.kind=1\/g.kind=2\/g.kind=3\/g.kind=4\/g.kind=5\/g.kind=7\/g.kind=8:=Ω
 rcases p5 with aa|aa|aa|aa|aa|aa|aa|aa;all_goals
  rw[aa]at bH cQ
  simp only[rE,jV,Int.reduceEq,reduceIte]at bH
  have ea:=Dy
  simp only[aa,Int.reduceLT,forall_const,false_imp_iff]at ea
  refine bq gZ oU ph fun aO=>?_;unfold nK
  clear aO
  simp
  simp[aa]
  (with_reducible repeat' first|refine aP ?_|refine aC cQ ?_|refine aD cQ ?_|refine aC b1 ?_|refine aD b1 ?_|simp[aa,kR,sl,bH,ea,jl,ir])
  refine fv (hH g) g.gs.length (lk Gm.shape g.gs) () (by simp[hH,aa];exact cq) (fun k b aa=>Ω) (fun _ ai _=>?_) (fun i _ aq ai _=>?_)
  rotate_left
  ·obtain⟨y,bG,gg⟩:=eM aq
   have gh:=bb y (e9 bG)
   have cS:bs ((i:Int)+1):=by unfold bs;omega
   cases gz:y.shape
   ·have cC:R=false:=by rw[<-aW,rP bG gz];rfl
    subst cC
    rw[gz]at gh
    clear aW ai bb
    simp[hH,aa,aq,gg]
    exact bY
   ·have gK:=ai.step bG gz
    rw[gz]at gh
    clear aW ai bb
    simp[hH,aa,aq,gg]
    (with_reducible repeat' first|refine aP ?_|refine aC gh ?_|refine aD gh ?_|simp[aq,gg,cS])
    refine cj.rng () aq gK (by simp[hH,aa];exact cq)
  have cC:R=true:=by rw[<-aW,ai.fin];simp[ov,aa]
  subst cC
  clear aW ai bb
  simp[hH,aa]
  exact bY
end
end Go.Proofs.YtlnndmgfngfeiaaGreatDoor

namespace Go.Proofs.YtlnndmgfngfeiaaGreatDoor
section
open Go Go.Pv
def jz(n:Int):List Int->List Int
 |[]=>[n]
 |c::l=>if c<n then c::jz n l else if c=n then c::l else n::c::l
def oE(l:List Int):Prop:=l.Pairwise (· < ·)
theorem GM(n:Int):∀(l:List Int) (k:Nat),(∀i c,i<k->l[i]? =some c->c<n)->(∀c,l[k]? =some c->n<=c)->k<=l.length->jz n l=if l[k]? =some n then l else l.take k++n::l.drop k
 |[],k,_,_,aa=>by simp at aa;subst aa;rfl
 |c::l,0,_,J,_=>by
  have:=J c rfl;by_cases e:c=n
  ·simp[jz,e]
  ·have ak:¬c<n:=Ω
   simp[jz,ak,e]
 |c::l,k+1,I,J,aa=>by have a1:=I 0 c Ω rfl;simp only[jz,if_pos a1,List.take_succ_cons,List.drop_succ_cons,oA,List.getElem?_cons_succ];rw[GM n l k (fun i d aq bj=>I (i+1) d Ω (by simpa using bj)) (fun d bj=>J d (by simpa using bj)) (by simpa using aa)];split<;>rfl
theorem BH{n m:Int}:∀{l:List Int},m∈jz n l↔m=n\/m∈l
 |[]=>by simp[jz]
 |c::l=>by
  simp only[jz];split
  ·simp only[hT,BH (l:=l)];constructor
   ·rintro(h|h|h)
    ·exact .inr (.inl h)
    ·exact .inl h
    ·exact .inr (.inr h)
   ·rintro(h|h|h)
    ·exact .inr (.inl h)
    ·exact .inl h
    ·exact .inr (.inr h)
  ·split
   ·rename_i h;subst h;simp
   ·simp
theorem Bl{n:Int}:∀{l:List Int},oE l->oE (jz n l)
 |[],_=>by simp[jz,oE]
 |c::l,h=>by
  obtain⟨I,J⟩:=List.pairwise_cons.1 h;simp only[jz];split
  ·rename_i ak;refine List.pairwise_cons.2 ⟨fun m hm=>?_,Bl J⟩;rcases BH.1 hm with rfl|hm
   ·exact ak
   ·exact I m hm
  ·split
   ·exact h
   ·refine List.pairwise_cons.2 ⟨fun m hm=>?_,h⟩;rcases hT.1 hm with rfl|hm
    ·omega
    ·have:=I m hm;omega
theorem GN(n:Int):∀l:List Int,(jz n l).length<=l.length+1
 |[]=>by simp[jz]
 |c::l=>by
  have:=GN n l;simp only[jz];split
  ·simp;omega
  ·split<;>simp
theorem GQ(l:List Int)(i:Nat):(di l)[i]? =(l[i]?).map (ae.int .i64):=by simp[di]
theorem sX:∀l:List Int,cd (di l)=di l
 |[]=>by simp[di,cd]
 |a::l=>by have:=sX l;simp only[di,ez,cd,cg]at this⊢;rw[this]
theorem yi(l:List Int)(n:Int)(k:Nat):cd (List.take k (di l)++ae.int .i64 n::List.drop k (List.take l.length (di l)))=di (List.take k l++n::List.drop k l):=by
 have e:List.take l.length (di l)=di l:=List.take_of_length_le (by simp[di]);have aR:List.take k (di l)++ae.int .i64 n::List.drop k (di l)=di (List.take k l++n::List.drop k l):=by simp only[di,List.map_append,ez,List.map_take,List.map_drop]
 rw[e,aR];exact sX _
theorem TI(l:List Int)(n:Int)(aA:l.length<=1000000)(bU:oE l):bF aF 212 [.slice 1 .no (di l),.int .i64 n] (.slice 1 .no (di (jz n l))):=by
 refine bq ht Nb Rv fun aO=>?_;unfold Er;simp;refine Fa [0,1] (fun(k:Nat)=>[(5,.int .i64 k)]) (fun k=>k) (fun k=>k<=l.length/\∀c,l[k]? =some c->n<=c) l.length cq ⟨Ω,fun c h=>by simp at h⟩ (fun k ai _=>?_);obtain⟨aa,ai⟩:=ai;have vA:(∀c,0<k->l[k-1]? =some c->c<n)->jz n l=if l[k]? =some n then l else l.take k++n::l.drop k:=fun h=>GM n l k (fun i c aq aQ=>by
  obtain⟨d,bj⟩:∃d,l[k-1]? =some d:=⟨_,cB Ω⟩;have I:=h d Ω bj;rcases ko i (k-1)with J|J
  ·have vC:=(dw.1 aQ);have vz:=(dw.1 bj);have:=List.pairwise_iff_getElem.1 bU i (k-1) vC.1 vz.1 J;rw[vC.2,vz.2]at this;omega
  ·have:i=k-1:=Ω
   subst this;rw[bj]at aQ;cases aQ;exact I) ai aa
 have j8:∀c,l[k]? =some c->∀h,((di l)[k]'h)= .int .i64 c:=fun c h bS=>by have:=GQ l k;rw[h,cB bS]at this;exact fo this
 have kN:(0<k->∃d,l[k-1]? =some d/\d<n)->∀P:Prop,(jz n l=(if l[k]? =some n then l else l.take k++n::l.drop k)->P)->P:=fun h P xP=>xP (vA fun c a1 aQ=>by obtain⟨d,bj,I⟩:=h a1;rw[bj]at aQ;cases aQ;exact I)
 rcases Nat.eq_zero_or_pos k with a1|eS
 ·have dS:decide ((0:Int)<k)=false:=by simp;omega
  refine kN (fun h=>Ω) _ fun e=>?_;by_cases dC:k<l.length
  ·obtain⟨c,aQ⟩:∃c,l[k]? =some c:=⟨_,cB dC⟩;have ku:=j8 c aQ;rw[aQ]at e;by_cases q:c=n
   ·have hE:(c==n)=true:=by simp[q]
    rw[if_pos (by rw[q])]at e;rw[e];simp[dS,dC];((with_reducible repeat' first|refine aP ?_|simp[dS,dC,ku,hE]|((first|apply b7|apply b9|apply b8)<;>intro h<;>try simp at h))<;>(try exact cn));all_goals simp[bJ,sL,bp,bz,bo]
   ·have hE:(c==n)=false:=by simp[q]
    rw[bu (by simp[q])]at e;rw[e];simp[dS,dC];((with_reducible repeat' first|refine aP ?_|simp[dS,dC,ku,hE]|((first|apply b7|apply b9|apply b8)<;>intro h<;>try simp at h))<;>(try exact cn));all_goals simp[bJ,sL,bp,bz,bo]
    all_goals exact yi l n k
  ·rw[List.getElem?_eq_none Ω]at e;simp only[reduceCtorEq,if_false]at e;rw[e];simp[dS,dC];((with_reducible repeat' first|refine aP ?_|simp[dS,dC]|((first|apply b7|apply b9|apply b8)<;>intro h<;>try simp at h))<;>(try exact cn));all_goals simp[bJ,sL,bp,bz,bo]
   all_goals exact yi l n k
 ·obtain⟨d,bj⟩:∃d,l[k-1]? =some d:=⟨_,cB Ω⟩;have aj:((k:Int)-1).toNat=k-1:=Ω
  have aR:∀h,((di l)[k-1]'h)= .int .i64 d:=fun bS=>by have:=GQ l (k-1);rw[bj,cB bS]at this;exact fo this
  have q0:(0:Int)<k:=Ω
  have qU:k-1<l.length:=Ω
  by_cases af:n<=d
  ·simp[eS,q0,aj,aR,af,qU];(with_reducible repeat' first|refine aP ?_|simp[eS,q0,aj,aR,af,qU]);refine cj.whl (k-1) Ω ⟨Ω,fun c aQ=>by rw[bj]at aQ;cases aQ;exact af⟩ ?_;have bm:((k-1:Nat):Int)=(k:Int)-1:=Ω
   simp[bm];exact cq
  ·refine kN (fun _=>⟨d,bj,Ω⟩) _ fun e=>?_;by_cases dC:k<l.length
   ·obtain⟨c,aQ⟩:∃c,l[k]? =some c:=⟨_,cB dC⟩;have ku:=j8 c aQ;rw[aQ]at e;by_cases q:c=n
    ·have hE:(c==n)=true:=by simp[q]
     rw[if_pos (by rw[q])]at e;rw[e];simp[eS,q0,aj,aR,af,qU,dC];((with_reducible repeat' first|refine aP ?_|simp[eS,q0,aj,aR,af,qU,dC,ku,hE]|((first|apply b7|apply b9|apply b8)<;>intro h<;>try simp at h))<;>(try exact cn));all_goals simp[bJ,sL,bp,bz,bo]
    ·have hE:(c==n)=false:=by simp[q]
     rw[bu (by simp[q])]at e;rw[e];simp[eS,q0,aj,aR,af,qU,dC];(with_reducible repeat' first|refine aP ?_|simp[eS,q0,aj,aR,af,qU,dC,ku,hE]);all_goals simp[bJ,sL,bp,bz,bo]
     all_goals exact yi l n k
   ·rw[List.getElem?_eq_none Ω]at e;simp only[reduceCtorEq,if_false]at e;rw[e];simp[eS,q0,aj,aR,af,qU,dC];(with_reducible repeat' first|refine aP ?_|simp[eS,q0,aj,aR,af,qU,dC]);all_goals simp[bJ,sL,bp,bz,bo]
    all_goals exact yi l n k
def iG:T->List Int->List Int
 | .var n,l=>jz n l
 | .pair a b,l=>iG b (iG a l)
 |_,l=>l
theorem C2:∀(t:T) {l:List Int},oE l->oE (iG t l)
 | .var _,_,h=>Bl h
 | .pair a b,_,h=>C2 b (C2 a h)
 | .nil,_,h=>h
 | .sym _,_,h=>h
 | .num _,_,h=>h
theorem C3:∀(t:T) (l:List Int),(iG t l).length<=l.length+t.size
 | .var n,l=>by have:=GN n l;simp only[iG,T.size];omega
 | .pair a b,l=>by have I:=C3 a l;have J:=C3 b (iG a l);simp only[iG,T.size];omega
 | .nil,l=>by simp[iG]
 | .sym _,l=>by simp[iG]
 | .num _,l=>by simp[iG]
theorem CZ:∀(t:T) (l:List Int),l.length+t.size<=1000000->oE l->bF aF 156 [t.e,.slice 1 .no (di l)] (.slice 1 .no (di (iG t l)))
 | .var n,l,aA,bU=>by
  simp only[T.size]at aA;have key:=TI l n Ω bU;refine bq ht vm wm fun aO=>?_;unfold tt;simp;(with_reducible repeat' first|refine aP ?_|refine aC key ?_|refine aD key ?_|simp);all_goals simp[bJ,uz,bp,bz,bo]
  all_goals simp[iG,sX]
 | .pair a b,l,aA,bU=>by
  simp only[T.size]at aA;have Xg:=C3 a l;have b5:=CZ a l Ω bU;have cE:=CZ b (iG a l) Ω (C2 a bU);refine bq ht vm wm fun aO=>?_;unfold tt;simp;refine mb [15,16] (fun i (_:Unit)=>[(1,.slice 1 .no (di (if i=0 then l else if i=1 then iG a l else iG b (iG a l)))),(17,.int .i64 i)]) 2 (fun _ _=>True) () cq trivial (fun _ _ _=>?_) (fun i _ aq _ _=>?_)
  ·simp;(with_reducible repeat' first|refine aP ?_|simp);simp[bJ,uz,bp,bz,bo];simp[iG,sX]
  ·rcases(by omega:i=0\/i=1)with rfl|rfl
   ·simp;((with_reducible repeat' first|refine aP ?_|refine aC b5 ?_|refine aD b5 ?_|simp|((first|apply b7|apply b9|apply b8)<;>intro h<;>try simp at h))<;>(try exact cn));exact cj.rng () aq trivial cq
   ·simp;((with_reducible repeat' first|refine aP ?_|refine aC cE ?_|refine aD cE ?_|simp|((first|apply b7|apply b9|apply b8)<;>intro h<;>try simp at h))<;>(try exact cn));exact cj.rng () aq trivial cq
 | .nil,l,aA,bU=>by refine bq ht vm wm fun aO=>?_;unfold tt;simp;refine mb [15,16] (fun i (_:Unit)=>[(1,.slice 1 .no (di l)),(17,.int .i64 i)]) 0 (fun _ _=>True) () cq trivial (fun _ _ _=>?_) (fun i _ aq _ _=>Ω);simp;((with_reducible repeat' first|refine aP ?_|simp|((first|apply b7|apply b9|apply b8)<;>intro h<;>try simp at h))<;>(try exact cn));simp[bJ,uz,bp,bz,bo];simp[iG,sX]
 | .sym _,l,aA,bU=>by refine bq ht vm wm fun aO=>?_;unfold tt;simp;refine mb [15,16] (fun i (_:Unit)=>[(1,.slice 1 .no (di l)),(17,.int .i64 i)]) 0 (fun _ _=>True) () cq trivial (fun _ _ _=>?_) (fun i _ aq _ _=>Ω);simp;(with_reducible repeat' first|refine aP ?_|simp);simp[bJ,uz,bp,bz,bo];simp[iG,sX]
 | .num _,l,aA,bU=>by refine bq ht vm wm fun aO=>?_;unfold tt;simp;refine mb [15,16] (fun i (_:Unit)=>[(1,.slice 1 .no (di l)),(17,.int .i64 i)]) 0 (fun _ _=>True) () cq trivial (fun _ _ _=>?_) (fun i _ aq _ _=>Ω);simp;(with_reducible repeat' first|refine aP ?_|simp);simp[bJ,uz,bp,bz,bo];simp[iG,sX]
theorem TN:∀(n:Nat) (g:Gm),g.sz<=n->bF aF 211 [g.e] (.bool g.shape):=by
 intro n;induction n with
 |zero=>intro g aT;have:=g.sz_pos;omega
 |succ n bb=>
 intro g aT;have no:∀h:¬((0<=g.kind/\g.kind<=10)/\(g.kind≠9->g.name=[])/\g.ts.all aU.fits=true/\sd g/\g.gs.all Gm.shape=true/\ov g=true),g.shape=false:=fun h=>by
  cases al:g.shape with
  |false=>rfl
  |true=>exact absurd ((CB g).1 al) h
 by_cases I:0<=g.kind/\g.kind<=10;rotate_left
 ·rw[no fun h=>I h.1];exact SJ g I
 by_cases J:g.kind≠9->g.name=[];rotate_left
 ·rw[no fun h=>J h.2.1];rw[Classical.not_imp]at J;exact SL g I J.1 (by simpa using J.2)
 have pX:g.kind≠9->g.name.isEmpty=true:=fun h=>by simpa using J h
 cases ak:g.ts.all aU.fits
 ·rw[no fun h=>by rw[ak]at h;cases h.2.2.1];exact SM g I pX ak
 by_cases aV:sd g;rotate_left
 ·rw[no fun h=>aV h.2.2.2.1];exact SI g I pX ak aV
 have aA:=SK g I pX ak aV fun x ab=>bb x (by have:=g.gs_lt ab;omega);have he:(g.gs.all Gm.shape&&ov g)=g.shape:=by rw[Bool.eq_iff_iff,bE,CB];exact⟨fun h=>⟨I,J,ak,aV,h.1,h.2⟩,fun h=>⟨h.2.2.2.2.1,h.2.2.2.2.2⟩⟩
 rwa[he]at aA
theorem TV(g:Gm):bF aF 155 [g.e] (.bool (g.fits 80)):=by
 have lQ:=TM g.sz g (c7 _) 80 Ω Ω;have yo:=TN g.sz g (c7 _);have aQ:=(EP g 80 Ω).1;by_cases h:g.sz<=80
 ·have I:jm g 80<=80:=aQ.2 Ω;have av:g.fits 80=g.shape:=by unfold Gm.fits;rw[j0 h,Bool.and_true]
  rw[av];refine bq gZ Fs HV fun aO=>?_;unfold zL;clear aO;simp;((with_reducible repeat' first|refine aP ?_|refine aC lQ ?_|refine aD lQ ?_|refine aC yo ?_|refine aD yo ?_|simp[I]|((first|apply b7|apply b9|apply b8)<;>intro h<;>try simp at h))<;>(try exact cn));simp[bJ,Ca,bp,bz,bo]
 ·have I:¬jm g 80<=80:=fun bS=>h (by have:=aQ.1 bS;omega);have av:g.fits 80=false:=by unfold Gm.fits;rw[ha h,Bool.and_false]
  rw[av];refine bq gZ Fs HV fun aO=>?_;unfold zL;clear aO;simp;((with_reducible repeat' first|refine aP ?_|refine aC lQ ?_|refine aD lQ ?_|refine aC yo ?_|refine aD yo ?_|simp[I]|((first|apply b7|apply b9|apply b8)<;>intro h<;>try simp at h))<;>(try exact cn));simp[bJ,Ca,bp,bz,bo]
def gG(vs:List Int)(l:List Int):List Int:=vs.foldl (fun l v=>jz v l) l
theorem yg(a b l:List Int):gG (a++b) l=gG b (gG a l):=List.foldl_append
theorem GP(vs:List Int):∀(l:List Int) (v:Int),v∈gG vs l↔v∈l\/v∈vs:=by
 induction vs with
 |nil=>intro l v;simp[gG]
 |cons x vs bb=>
  intro l v;show v∈gG vs (jz x l)↔_;rw[bb,BH];simp only[hT];constructor
  ·rintro((h|h)|h)
   ·exact .inr (.inl h)
   ·exact .inl h
   ·exact .inr (.inr h)
  ·rintro(h|h|h)
   ·exact .inl (.inr h)
   ·exact .inl (.inl h)
   ·exact .inr h
theorem GO(vs:List Int):∀{l:List Int},oE l->oE (gG vs l):=by
 induction vs with
 |nil=>intro l h;exact h
 |cons x vs bb=>intro l h;exact bb (Bl h)
theorem Uf(t:T):∀l:List Int,iG t l=gG t.tm.vs l:=by
 induction t with
 |pair a b sx sy=>
  intro l;have:(T.pair a b).tm.vs=a.tm.vs++b.tm.vs:=by simp[T.tm,aU.vs,aU.vsL]
  rw[this,yg,<-sx,<-sy];rfl
 |var n=>intro l;simp[T.tm,aU.vs,iG,gG]
 |_=>intro l;simp[T.tm,aU.vs,aU.vsL,iG,gG]
def lM(l:List Int):Prop:=oE l/\∀v∈l,0<=v/\v<=100000
theorem lM.len{l:List Int}(h:lM l):l.length<=100001:=BS (h.1.imp fun r9=>Int.ne_of_lt r9) h.2
theorem lM.ins{l vs:List Int}(h:lM l)(ba:∀v∈vs,0<=v/\v<=100000):lM (gG vs l):=⟨GO vs h.1,fun v hm=>by rcases(GP vs l v).1 hm with bS|bS;exact h.2 v bS;exact ba v bS⟩
theorem TK{t:aU}(aG:t.fits=true){l:List Int}(aA:lM l):bF aF 156 [enc t,.slice 1 .no (di l)] (.slice 1 .no (di (gG t.vs l))):=by
 obtain⟨x,rfl,ab⟩:=aU.fits_ex aG;rw[pP,<-Uf];have bn:x.size<=5000:=by simp only[T.fit,bE,fY]at ab;exact ab.2
 exact CZ x l (by have:=aA.len;omega) aA.1
theorem Uj{t:aU}(aG:t.fits=true):∀v∈t.vs,0<=v/\v<=100000:=by obtain⟨x,rfl,ab⟩:=aU.fits_ex aG;exact JM x (rY ab)
theorem PM{ts:List aU}{i:Nat}{t:aU}(h:ts[i]? =some t)(l:List Int):gG (aU.vsL (ts.take (i+1))) l=gG t.vs (gG (aU.vsL (ts.take i)) l):=by rw[List.take_add_one,h,s3,s3,<-yg];simp
theorem PL{gs:List Gm}{i:Nat}{g:Gm}(h:gs[i]? =some g)(l:List Int):gG (Gm.vsL (gs.take (i+1))) l=gG g.vs (gG (Gm.vsL (gs.take i)) l):=by rw[List.take_add_one,h,r3,r3,<-yg];simp
def u5(g:Gm)(l:List Int)(i:Nat)(_:Unit):a6:=⟨[(1,.slice 1 .no (di (gG (aU.vsL (g.ts.take i)) l))),(2,.ptr (.loc 0) 0),(10,.slice 4 .no (g.ts.map enc)),(11,.int .i64 g.ts.length),(12,.int .i64 i)],[(.loc 0,[.int .i64 g.kind,.str g.name,.slice 4 .no (g.ts.map enc),.slice 4 .no (g.gs.map Gm.e)])],[],1,[]⟩
def u6(g:Gm)(l:List Int)(i:Nat)(_:Unit):a6:=⟨[(1,.slice 1 .no (di (gG (Gm.vsL (g.gs.take i)) l))),(21,.slice 4 .no (g.gs.map Gm.e)),(22,.int .i64 g.gs.length),(23,.int .i64 i)],[],[],1,[]⟩
theorem lM.tk{g:Gm}(al:g.shape=true){l:List Int}(h:lM l)(i:Nat):lM (gG (aU.vsL (g.ts.take i)) l):=h.ins fun v ba=>by rw[s3,List.mem_flatMap]at ba;obtain⟨t,aG,ba⟩:=ba;exact Uj (ps al t (List.mem_of_mem_take aG)) v ba
theorem lM.gk{g:Gm}(al:g.shape=true){l:List Int}(h:lM l)(i:Nat):lM (gG (Gm.vsL (g.gs.take i)) l):=h.ins fun v ba=>by rw[r3,List.mem_flatMap]at ba;obtain⟨t,aG,ba⟩:=ba;exact xL t.sz t (c7 _) (pq al t (List.mem_of_mem_take aG)) v ba
theorem TO:∀(n:Nat) (g:Gm),g.sz<=n->g.shape=true->∀l:List Int,lM l->bF aF 89 [g.e,.slice 1 .no (di l)] (.slice 1 .no (di (gG g.vs l))):=by
 intro n;induction n with
 |zero=>intro g aT;have:=g.sz_pos;omega
 |succ n bb=>
 intro g aT al l aA;have kz:=zc al;rw[Aw,yg];refine bq gZ Nd Rx fun aO=>?_;unfold Et;clear aO;simp;refine fv (u5 g l) g.ts.length (fun _ _=>True) () (by simp[u5,aU.vsL,gG];exact cq) trivial (fun _ _ _=>?_) (fun i _ aq _ _=>?_)
 ·have dy:=aA.tk al g.ts.length;rw[jY]at dy;simp[u5];generalize gG (aU.vsL g.ts) l=pb at dy⊢;(with_reducible repeat' first|refine aP ?_|simp);refine fv (u6 g pb) g.gs.length (fun _ _=>True) () (by simp[u6,Gm.vsL,gG];exact cq) trivial (fun _ _ _=>?_) (fun i _ aq _ _=>?_)
  ·simp[u6];exact bY
  ·obtain⟨b,af,nU⟩:=eM aq;have cS:bs ((i:Int)+1):=by unfold bs;omega
   have hm:=e9 af;have dD:=bb b (by have:=g.gs_lt hm;omega) (pq al b hm) _ (dy.gk al i);rw[<-PL af]at dD;clear bb;simp[u6,aq,nU];(with_reducible repeat' first|refine aP ?_|refine aC dD ?_|refine aD dD ?_|simp[aq,nU,cS]);refine cj.rng () aq trivial (by simp[u6];exact cq)
 ·obtain⟨b,af,nU⟩:=eM aq;have cS:bs ((i:Int)+1):=by unfold bs;omega
  have dD:=TK (ps al b (e9 af)) (aA.tk al i);rw[<-PM af]at dD;clear bb;simp[u5,aq,nU];(with_reducible repeat' first|refine aP ?_|refine aC dD ?_|refine aD dD ?_|simp[aq,nU,cS]);refine cj.rng () aq trivial (by simp[u5];exact cq)
theorem JD{t:aU}(h:t.fits=true):bF aF 132 [enc t] (.str (eP t)):=by have aA:=Te h;obtain⟨x,rfl,ab⟩:=aU.fits_ex h;rw[zm]at aA⊢;rw[pP];exact TL x.size x (c7 _) (rY ab) aA
def sf:List (List bt):=[s6,s5,C8,C7,uU,uS,uP,uQ,uT,[],uR]
theorem OE:e8 sf=[.str [116,114,117,101],.str [102,97,105,108],.str [61],.str [47,61],.str [115,121,109,98,111,108],.str [110,117,109,98,101,114],.str [97,98,115,101,110,116],.str [97,110,100],.str [111,114],.str [],.str [110,111,116]]:=rfl
theorem TP:bF aF 131 [] (.slice 1 .no (e8 sf)):=by rw[OE];refine bq gZ Nf Ry fun aO=>?_;unfold Eu;clear aO;exact bY
def oI(g:Gm)(i:Nat)(p:List (List bt)):a6:=⟨[(1,.ptr (.loc 0) 0),(4,.slice 1 (.own (.loc 54)) (e8 p)),(24,.slice 4 .no (g.ts.map enc)),(25,.int .i64 g.ts.length),(26,.int .i64 i)],[(.loc 0,[.int .i64 g.kind,.str g.name,.slice 4 .no (g.ts.map enc),.slice 4 .no (g.gs.map Gm.e)])],[(.loc 54,⟨p.length,9,1,none⟩)],55,[]⟩
def oK(g:Gm)(i:Nat)(p:List (List bt)):a6:=⟨[(4,.slice 1 (.own (.loc 54)) (e8 p)),(37,.slice 4 .no (g.gs.map Gm.e)),(38,.int .i64 g.gs.length),(39,.int .i64 i)],[],[(.loc 54,⟨p.length,9,1,none⟩)],55,[]⟩
theorem OB{g:Gm}(al:g.shape=true):∃(k:Nat) (w:List bt),g.kind=k/\sf[k]? =some w/\k<11/\w++g.name=(if g.kind=9 then g.name else hK g.kind)/\w.length<=12:=by
 obtain⟨I,J,_⟩:=(CB g).1 al;obtain⟨k,aa⟩:∃k:Nat,g.kind=k:=⟨g.kind.toNat,Ω⟩;by_cases dv:g.kind=9
 ·have:k=9:=Ω
  subst this;exact⟨9,[],aa,rfl,Ω,by rw[if_pos dv];rfl,Ψ⟩
 ·rw[J dv,bu dv,aa];rcases(by omega:k=0\/k=1\/k=2\/k=3\/k=4\/k=5\/k=6\/k=7\/k=8\/k=10)with rfl|rfl|rfl|rfl|rfl|rfl|rfl|rfl|rfl|rfl;all_goals exact⟨_,_,rfl,rfl,Ω,by rfl,by decide⟩
theorem JE:∀(n:Nat) (g:Gm),g.sz<=n->g.shape=true->g.w<=100000000->bF aF 58 [g.e] (.str (c6 g)):=by
 intro n;induction n with
 |zero=>intro g aT;have:=g.sz_pos;omega
 |succ n bb=>
 intro g aT al hw;have kz:=zc al;have ud:=TP;obtain⟨k,w,aa,tV,x3,qa,Wm⟩:=OB al;have gy:k<(e8 sf).length:=x3;have o5:∀h,((e8 sf)[k]'h)= .str w:=fun h=>by rw[zj x3];rw[cB x3]at tV;rw[fo tV]
 have AR:(e8 sf)[k]? =some (.str w):=by rw[cB gy,o5]
 have h1:=CC al;have jw:k<sf.length:=x3;have qV:w.length+g.name.length<=aX:=by unfold aX;omega
 by_cases I:g.kind<=1
 ·have qL:g.kind=0\/g.kind=1:=Ω
  have dv:¬g.kind=9:=Ω
  rw[pU,if_pos qL];rw[bu dv]at qa;rw[<-qa];have x2:(k:Int)<=1:=Ω
  clear bb qa;refine bq gZ Al B3 fun aO=>?_;unfold xk;clear aO;simp[aa];(with_reducible repeat' first|refine aP ?_|refine aC ud ?_|refine aD ud ?_|simp[aa,gy,o5,AR,qV,x2,jw]);simp[bJ,Ip,bp,bz,bo]
 ·have qL:¬(g.kind=0\/g.kind=1):=Ω
  have x2:¬(k:Int)<=1:=Ω
  by_cases dv:g.kind=9
  ·rw[if_pos dv]at qa;refine bq gZ Al B3 fun aO=>?_;unfold xk;clear aO;simp[aa];(with_reducible repeat' first|refine aP ?_|refine aC ud ?_|refine aD ud ?_|simp[aa,gy,o5,AR,qV,x2,jw,qa]);refine fv (oI g) g.ts.length (fun i p=>p=g.name::(g.ts.map eP).take i) [g.name] (by simp[oI,kX,ny,aa];exact cq) Ψ (fun p ai _=>?_) (fun i p aq ai _=>?_)
   ·rw[<-kn (f:=eP),jY]at ai;subst ai;simp[oI];(with_reducible repeat' first|refine aP ?_|simp);refine fv (oK g) g.gs.length (fun i p=>p=g.name::(g.ts.map eP++(g.gs.map c6).take i)) (g.name::g.ts.map eP) (by simp[oK,kX];exact cq) Ψ (fun p ai _=>?_) (fun i p aq ai _=>?_)
    ·rw[<-kn (f:=c6),jY]at ai;have nY:c6 g=40::(b0 [32] p++[41]):=by rw[pU,bu qL,ai];simp[dv,dv]
     have kv:=vk g.sz g (c7 _) al;rw[nY]at kv⊢;simp only[hy,dh,l5]at kv;have dy:(b0 [32] p).length<=aX:=by unfold aX;omega
     have et:(b0 [32] p).length+1<=aX:=by unfold aX;omega
     have mm:(b0 [32] p).length+1+1<=aX:=by unfold aX;omega
     have n2:1+(b0 [32] p).length<=aX:=by unfold aX;omega
     have p6:1+(b0 [32] p).length+1<=aX:=by unfold aX;omega
     have fB:=qx p [32] dy;clear ai nY kv bb;simp[oK];exact bY
    ·obtain⟨x,ab,bL⟩:=eM aq;have lj:=e9 ab;have dD:=bb x (by have:=g.gs_lt lj;omega) (pq al x lj) (by rw[wW]at hw;have:=wh Gm.w lj;omega)
     have hN:p.length+1<=aX:=by rw[ai];simp;unfold aX;omega
     have cS:bs ((i:Int)+1):=by unfold bs;omega
     have aS:p++[c6 x]=g.name::(g.ts.map eP++(g.gs.map c6).take (i+1)):=by rw[ai,rf c6 ab];simp
     clear bb ai ab;simp[oK,aq,bL];(with_reducible repeat' first|refine aP ?_|refine aC dD ?_|refine aD dD ?_|simp[aq,bL,hN,cS]);refine cj.rng (p++[c6 x]) aq aS (by simp[oK,rA,kX,ny];exact⟨by simp[fresh,aB,aH,bV,aK,Pv.look,gN],dW (by simp[fresh,aB,aH,bV,aK,Pv.look,gN]),dY (by simp[fresh,aB,aH,dJ,aK,Pv.look,gN]),Ψ⟩)
   ·obtain⟨x,ab,bL⟩:=eM aq;have dD:=JD (ps al x (e9 ab));have hN:p.length+1<=aX:=by rw[ai];simp;unfold aX;omega
    have cS:bs ((i:Int)+1):=by unfold bs;omega
    have aS:p++[eP x]=g.name::(g.ts.map eP).take (i+1):=by rw[ai,rf eP ab];simp
    clear bb ai ab;simp[oI,aq,bL];(with_reducible repeat' first|refine aP ?_|refine aC dD ?_|refine aD dD ?_|simp[aq,bL,hN,cS]);refine cj.rng (p++[eP x]) aq aS (by simp[oI,rA,kX,ny];exact⟨by simp[fresh,aB,aH,bV,aK,Pv.look,gN],dW (by simp[fresh,aB,aH,bV,aK,Pv.look,gN]),dY (by simp[fresh,aB,aH,dJ,aK,Pv.look,gN]),Ψ⟩)
  ·rw[bu dv]at qa;refine bq gZ Al B3 fun aO=>?_;unfold xk;clear aO;simp[aa];(with_reducible repeat' first|refine aP ?_|refine aC ud ?_|refine aD ud ?_|simp[aa,gy,o5,AR,qV,x2,jw,qa]);refine fv (oI g) g.ts.length (fun i p=>p=hK g.kind::(g.ts.map eP).take i) [hK g.kind] (by simp[oI,kX,ny,aa];exact cq) Ψ (fun p ai _=>?_) (fun i p aq ai _=>?_)
   ·rw[<-kn (f:=eP),jY]at ai;subst ai;simp[oI];(with_reducible repeat' first|refine aP ?_|simp);refine fv (oK g) g.gs.length (fun i p=>p=hK g.kind::(g.ts.map eP++(g.gs.map c6).take i)) (hK g.kind::g.ts.map eP) (by simp[oK,kX];exact cq) Ψ (fun p ai _=>?_) (fun i p aq ai _=>?_)
    ·rw[<-kn (f:=c6),jY]at ai;have nY:c6 g=40::(b0 [32] p++[41]):=by rw[pU,bu qL,ai];simp[dv,dv]
     have kv:=vk g.sz g (c7 _) al;rw[nY]at kv⊢;simp only[hy,dh,l5]at kv;have dy:(b0 [32] p).length<=aX:=by unfold aX;omega
     have et:(b0 [32] p).length+1<=aX:=by unfold aX;omega
     have mm:(b0 [32] p).length+1+1<=aX:=by unfold aX;omega
     have n2:1+(b0 [32] p).length<=aX:=by unfold aX;omega
     have p6:1+(b0 [32] p).length+1<=aX:=by unfold aX;omega
     have fB:=qx p [32] dy;clear ai nY kv bb;simp[oK];exact bY
    ·obtain⟨x,ab,bL⟩:=eM aq;have lj:=e9 ab;have dD:=bb x (by have:=g.gs_lt lj;omega) (pq al x lj) (by rw[wW]at hw;have:=wh Gm.w lj;omega)
     have hN:p.length+1<=aX:=by rw[ai];simp;unfold aX;omega
     have cS:bs ((i:Int)+1):=by unfold bs;omega
     have aS:p++[c6 x]=hK g.kind::(g.ts.map eP++(g.gs.map c6).take (i+1)):=by rw[ai,rf c6 ab];simp
     clear bb ai ab;simp[oK,aq,bL];(with_reducible repeat' first|refine aP ?_|refine aC dD ?_|refine aD dD ?_|simp[aq,bL,hN,cS]);refine cj.rng (p++[c6 x]) aq aS (by simp[oK,rA,kX,ny];exact⟨by simp[fresh,aB,aH,bV,aK,Pv.look,gN],dW (by simp[fresh,aB,aH,bV,aK,Pv.look,gN]),dY (by simp[fresh,aB,aH,dJ,aK,Pv.look,gN]),Ψ⟩)
   ·obtain⟨x,ab,bL⟩:=eM aq;have dD:=JD (ps al x (e9 ab));have hN:p.length+1<=aX:=by rw[ai];simp;unfold aX;omega
    have cS:bs ((i:Int)+1):=by unfold bs;omega
    have aS:p++[eP x]=hK g.kind::(g.ts.map eP).take (i+1):=by rw[ai,rf eP ab];simp
    clear bb ai ab;simp[oI,aq,bL];(with_reducible repeat' first|refine aP ?_|refine aC dD ?_|refine aD dD ?_|simp[aq,bL,hN,cS]);refine cj.rng (p++[eP x]) aq aS (by simp[oI,rA,kX,ny];exact⟨by simp[fresh,aB,aH,bV,aK,Pv.look,gN],dW (by simp[fresh,aB,aH,bV,aK,Pv.look,gN]),dY (by simp[fresh,aB,aH,dJ,aK,Pv.look,gN]),Ψ⟩)
def zK:C:=(ag [dL 1 0,bI 2 (.mov (.c (.str [])))] (.seq (ag [bT 9 2 1,cK 10 56 9,e7 11 10] (bg 11 (ag [bI 2 (.mov (.c (.str [])))] .ret) .skip)) (ag [bI 3 (.mov (.c (.str [])))] (.seq (ag [aL 12 0 1 1,aN 13 1 12,cw 14 13,cl 15 0] (jG 16 15 14 (.seq (.block 1 (ag [ad 17 15,dk 18 7 13 15,bT 19 7 18,dm (.alloc 5 none (.agg [.int .i64 0,.int .i64 0,.int .i64 0,.int .i64 0,.str [],.slice 4 .nil [],.slice 4 .nil []])),ad 4 17,cI 7 5 19] (.seq (ag [aL 20 1 1 1,aN 21 1 20,cw 22 21,cl 23 0] (.block 2 (.loop (ag [b2 24 .lss 23 22] (.seq (bg 24 .skip (.exit 2)) (.seq (.block 3 (ag [dk 25 4 21 23,bT 26 4 25,dm (.alloc 7 none (.agg [.str [],.int .i64 0,.int .i64 0,.int .i64 0])),cI 4 7 26] (ag [aL 27 1 1 7,aN 28 1 27,ad 29 4,b2 30 .eql 28 29] (bg 30 (.drawn true 100 [ad 31 3,aL 32 0 1 7,aN 33 1 32,b2 34 .add 31 33,bI 35 (.bin .add false (.t 34) (.c (.str [47]))),aL 36 2 1 7,aN 37 1 36,cK 38 57 37,b2 39 .add 35 38,bI 40 (.bin .add false (.t 39) (.c (.str [58]))),ji 41 1 5 [(.c (.int .u8 10))],bI 42 (.b2s (.t 41)),b2 43 .add 40 42,ad 3 43]) .skip)))) (.region [aZ 44 .add 23 1,ad 23 44]))))))) (.seq (.drawn true 100 [ad 45 4,cK 46 57 45,dm (.bsl 47 1 9 [(.c (.str [114,101,113,117,105,114,101])),(.c (.str [116,114,121])),(.c (.str [112,105,99,107])),(.c (.str [106,117,109,112])),(.c (.str [102,97,105,108])),(.c (.str [99,97,108,108])),(.c (.str [114,101,116,117,114,110]))]),aL 48 0 1 5,aN 49 1 48,dk 50 1 47 49,aN 51 1 50,ji 52 1 9 [.t 46,.t 51],ad 8 52]) (.seq (ag [aL 53 0 1 5,aN 54 1 53] (.block 4 (.seq (ag [aZ 56 .eql 54 0,ad 55 56] (bg 55 .skip (.region [aZ 57 .eql 54 5,ad 55 57]))) (bg 55 (.region [ad 58 8,h7 59 3 4 5,bT 60 4 59,cK 61 58 60,ji 62 1 9 [.t 61],oy 63 1 9 58 62,ad 8 63]) (ag [aZ 65 .eql 54 1,ad 64 65] (bg 64 (.drawn true 100 [ad 66 8,aL 67 1 1 5,aN 68 1 67,cK 69 57 68,aL 70 2 1 5,aN 71 1 70,cK 72 57 71,ji 73 1 9 [.t 69,.t 72],oy 74 1 9 66 73,ad 8 74]) (ag [aZ 76 .eql 54 2,ad 75 76] (bg 75 (.region [ad 77 8,aL 78 2 1 5,aN 79 1 78,cK 80 57 79,ji 81 1 9 [.t 80],oy 82 1 9 77 81,ad 8 82]) (ag [aZ 84 .eql 54 3,ad 83 84] (bg 83 (.region [ad 85 8,aL 86 1 1 5,aN 87 1 86,cK 88 57 87,ji 89 1 9 [.t 88],oy 90 1 9 85 89,ad 8 90]) .skip)))))))))) (.drawn true 100 [ad 91 3,ad 92 8,⟨none,.call (some 93) (.c (.func 59 [])) [.t 92,(.c (.str [32]))]⟩,b2 94 .add 91 93,ji 95 1 5 [(.c (.int .u8 10))],bI 96 (.b2s (.t 95)),b2 97 .add 94 96,ad 3 97])))))) (.region [aZ 98 .add 15 1,ad 15 98])))) (ag [ad 99 3,ad 2 99] .ret)))))
@[simp] def Si:List cr:=[.tmp 2]
def xi:C:=(ag [dL 1 0,b3 2 false] (ag [aL 7 1 1 1,aN 8 1 7,cw 9 8,aZ 10 .sub 9 1,ad 3 10] (.seq (ag [ad 11 3,aZ 12 .lss 11 0,ad 13 12,au 13 false (aL 14 1 1 1),au 13 false (aN 15 1 14),au 13 false (jF 16 4 15 0),au 13 false (aL 17 1 1 16),au 13 false (aN 18 1 17),au 13 false (aZ 19 .neq 18 0),dq 20 13 19,ad 21 20,au 21 false (aL 22 1 1 1),au 21 false (aN 23 1 22),cZ 21 false 24 3,au 21 false (dk 25 4 23 24),au 21 false (aL 26 0 1 25),au 21 false (aN 27 1 26),pC 21 false 28 (.bin .neq false (.t 27) (.c (.str []))),dq 29 21 28,ad 30 29,au 30 false (aL 31 1 1 1),au 30 false (aN 32 1 31),cZ 30 false 33 3,au 30 false (dk 34 4 32 33),au 30 false (aL 35 2 1 34),au 30 false (aN 36 1 35),au 30 false (aZ 37 .neq 36 0),dq 38 30 37] (bg 38 (ag [b3 2 false] .ret) .skip)) (.seq (ag [aL 39 1 1 1,aN 40 1 39,cw 41 40,cl 42 0] (jG 43 42 41 (.seq (.block 1 (ag [ad 44 42,dk 45 4 40 42,bT 46 4 45,dm (.alloc 5 none (.agg [.str [],.int .i64 0,.int .i64 0,.int .i64 0])),ad 4 44,cI 4 5 46] (ag [aL 47 0 1 1,aN 48 1 47,cw 49 48,ad 6 49] (.seq (ag [ad 50 4,ad 51 3,b2 52 .lss 50 51] (bg 52 (.region [aL 53 1 1 1,aN 54 1 53,ad 55 4,aZ 56 .add 55 1,dk 57 4 54 56,aL 58 1 1 57,aN 59 1 58,ad 6 59]) .skip)) (.seq (ag [aL 60 1 1 5,aN 61 1 60,ad 62 6,b2 63 .geq 61 62,ad 64 63,au 64 false (aL 65 1 1 5),au 64 false (aN 66 1 65),au 64 false (aZ 67 .lss 66 0),dq 68 64 67,ad 69 68,cZ 69 false 70 6,au 69 false (aL 71 0 1 1),au 69 false (aN 72 1 71),au 69 false (cw 73 72),au 69 false (b2 74 .gtr 70 73),dq 75 69 74,ad 76 75,au 76 false (aL 77 2 1 5),au 76 false (aN 78 1 77),au 76 false (iV 79 127 [.t 78,(dG 0),(dG 4)]),au 76 false (e7 80 79),dq 81 76 80,ad 82 81,au 82 false (aL 83 3 1 5),au 82 false (aN 84 1 83),au 82 false (aL 85 2 1 5),au 82 false (aN 86 1 85),au 82 false (iV 87 127 [.t 84,.t 86,(dG 100000)]),au 82 false (e7 88 87),dq 89 82 88] (bg 89 (ag [b3 2 false] .ret) .skip)) (ag [ad 90 4,ad 91 3,b2 92 .lss 90 91,ad 93 92,au 93 true (aL 94 0 1 5),au 93 true (aN 95 1 94),au 93 true (cK 96 128 95),au 93 true (e7 97 96),cZ 93 true 98 97,au 98 false (bT 99 2 1),au 98 false (aL 100 0 1 5),au 98 false (aN 101 1 100),au 98 false (en 102 129 99 101),cZ 98 false 103 4,au 98 false (b2 104 .neq 102 103),au 93 true (dq 105 98 104),dT 106 93 105,ad 107 106,au 107 false (bT 108 2 1),au 107 false (bT 109 4 5),cZ 107 false 110 6,au 107 false (iV 111 130 [.t 108,.t 109,.t 110]),au 107 false (e7 112 111),dq 113 107 112] (bg 113 (ag [b3 2 false] .ret) .skip))))))) (.region [aZ 114 .add 42 1,ad 42 114])))) (ag [b3 2 true] .ret)))))
@[simp] def sK:List cr:=[.tmp 2]
def Ew:C:=(ag [dL 2 0,cl 4 0] (.seq (ag [aL 7 1 1 2,aN 8 1 7,cw 9 8,cl 10 0] (jG 11 10 9 (.seq (.block 1 (ag [ad 12 10,dk 13 4 8 10,bT 14 4 13,dm (.alloc 6 none (.agg [.str [],.int .i64 0,.int .i64 0,.int .i64 0])),ad 5 12,cI 4 6 14] (ag [aL 15 0 1 6,aN 16 1 15,ad 17 1,b2 18 .eql 16 17,ad 19 18,cZ 19 true 20 5,au 19 true (aL 21 1 1 2),au 19 true (aN 22 1 21),au 19 true (cw 23 22),au 19 true (aZ 24 .sub 23 1),au 19 true (b2 25 .lss 20 24),dT 26 19 25] (bg 26 (ag [ad 27 5,ad 4 27] .ret) .skip)))) (.region [aZ 28 .add 10 1,ad 10 28])))) (ag [cl 4 (-1)] .ret)))
@[simp] def Sr:List cr:=[.tmp 4]
def Ex:C:=(ag [dL 3 0,dL 4 1,b3 6 false] (.seq (ag [aL 12 1 1 4,aN 13 1 12,ad 7 13] (.block 0 (.loop (.seq (ag [ad 14 7,ad 15 2,b2 16 .lss 14 15] (bg 16 .skip (.exit 0))) (.seq (.block 1 (ag [aL 19 0 1 3,aN 20 1 19,ad 21 7,dk 22 7 20 21,bT 23 7 22,dm (.alloc 8 none (.agg [.int .i64 0,.int .i64 0,.int .i64 0,.int .i64 0,.str [],.slice 4 .nil [],.slice 4 .nil []])),cI 7 8 23] (ag [aL 24 0 1 8,aN 25 1 24,aZ 26 .eql 25 1,ad 27 26,au 27 false (aL 28 0 1 8),au 27 false (aN 29 1 28),au 27 false (aZ 30 .eql 29 3),dq 31 27 30,ad 9 31] (ag [aL 32 0 1 8,aN 33 1 32,aZ 34 .eql 33 1,ad 35 34,au 35 false (aL 36 0 1 8),au 35 false (aN 37 1 36),au 35 false (aZ 38 .eql 37 2),dq 39 35 38,ad 10 39] (.seq (ag [aL 40 0 1 8,aN 41 1 40,iV 42 127 [.t 41,(dG 0),(dG 6)],e7 43 42,ad 44 43,au 44 false (aL 45 0 1 8),au 44 false (aN 46 1 45),au 44 false (aZ 47 .eql 46 6),cZ 44 false 48 7,cZ 44 false 49 2,au 44 false (aZ 50 .sub 49 1),au 44 false (b2 51 .eql 48 50),au 44 false (bI 52 (.beq true none (.t 47) (.t 51))),dq 53 44 52,ad 54 53,au 54 false (bT 55 2 3),au 54 false (bT 56 7 8),au 54 false (aL 57 3 1 4),au 54 false (aN 58 1 57),au 54 false (iV 59 189 [.t 55,.t 56,.t 58]),au 54 false (e7 60 59),dq 61 54 60] (bg 61 (ag [b3 6 false] .ret) .skip)) (.seq (ag (ad 62 9::ad 63 62::au 63 true (aL 64 1 1 8)::au 63 true (aN 65 1 64)::cZ 63 true 66 7::au 63 true (aZ 67 .add 66 1)::cZ 63 true 68 2::au 63 true (aZ 69 .sub 68 1)::au 63 true (iV 70 127 [.t 65,.t 67,.t 69])::au 63 true (e7 71 70)::dT 72 63 71::ad 73 72::cZ 73 false 74 9::au 73 false (e7 75 74)::cZ 73 false 76 75::au 76 true (aL 77 1 1 8)::au 76 true (aN 78 1 77)::au 76 true (aZ 79 .neq 78 0)::au 73 false (dT 80 76 79)::dq 81 73 80::ad 82 81::cZ 82 false 83 10::cZ 82 false 84 83::au 84 true (aL 85 2 1 8)::au 84 true (aN 86 1 85)::au 84 true (iV 87 127 [.t 86,(dG 0),(dG 7)])::au 84 true (e7 88 87)::au 82 false (dT 89 84 88)::dq 90 82 89::ad 91 90::cZ 91 false 92 10::au 91 false (e7 93 92)::cZ 91 false 94 93::au 94 true (aL 95 2 1 8)::au 94 true (aN 96 1 95)::au 94 true (aZ 97 .neq 96 0)::au 91 false (dT 98 94 97)::dq 99 91 98::[]) (bg 99 (ag [b3 6 false] .ret) .skip)) (ag [aL 100 0 1 8,aN 101 1 100,aZ 102 .eql 101 1] (bg 102 (ag [aL 103 0 1 3,aN 104 1 103,aL 105 1 1 8,aN 106 1 105,dk 107 7 104 106,bT 108 7 107,dm (.alloc 11 none (.agg [.int .i64 0,.int .i64 0,.int .i64 0,.int .i64 0,.str [],.slice 4 .nil [],.slice 4 .nil []])),cI 7 11 108] (ag [aL 109 0 1 11,aN 110 1 109,aZ 111 .neq 110 1,ad 112 111,au 112 true (aL 113 0 1 11),au 112 true (aN 114 1 113),au 112 true (aZ 115 .neq 114 2),dT 116 112 115,ad 117 116,au 117 false (aL 118 2 1 11),au 117 false (aN 119 1 118),au 117 false (aL 120 2 1 8),au 117 false (aN 121 1 120),au 117 false (aZ 122 .add 121 1),au 117 false (b2 123 .neq 119 122),dq 124 117 123] (bg 124 (ag [b3 6 false] .ret) .skip))) .skip)))))))) (.region [ad 17 7,aZ 18 .add 17 1,ad 7 18])))))) (ag [b3 6 true] .ret)))
@[simp] def jd:List cr:=[.tmp 6]
def mY:C:=(ag [dL 3 0,dL 4 1,b3 6 false] (.seq (ag [aL 9 0 1 4,aN 10 1 9,aZ 11 .neq 10 0,ad 12 11,au 12 true (aL 13 0 1 4),au 12 true (aN 14 1 13),au 12 true (aZ 15 .neq 14 5),dT 16 12 15] (bg 16 (ag [h7 17 3 4 4,bT 18 4 17,cK 19 226 18,ad 6 19] .ret) .skip)) (.seq (ag [h7 20 3 4 4,bT 21 4 20,cK 22 155 21,e7 23 22] (bg 23 (ag [b3 6 false] .ret) .skip)) (ag [h7 24 3 4 4,bT 25 4 24,iV 26 89 [.t 25,(.c (.slice 1 .nil []))],ad 7 26] (.seq (ag [ad 27 7,cw 28 27,aZ 29 .gtr 28 0,ad 30 29,cZ 30 true 31 7,cZ 30 true 32 7,au 30 true (cw 33 32),au 30 true (aZ 34 .sub 33 1),au 30 true (dk 35 1 31 34),au 30 true (aN 36 1 35),cZ 30 true 37 2,au 30 true (b2 38 .geq 36 37),dT 39 30 38] (bg 39 (ag [b3 6 false] .ret) .skip)) (.seq (ag [aL 40 0 1 4,aN 41 1 40,aZ 42 .eql 41 0] (bg 42 (ag [h7 43 3 4 4,aL 44 0 1 43,aN 45 1 44,iV 46 127 [.t 45,(dG 2),(dG 6)],ad 6 46] .ret) .skip)) (ag [bT 47 2 3,h7 48 3 4 4,aL 49 1 1 48,aN 50 1 49,en 51 129 47 50,ad 8 51] (.seq (.drawn true 73 [h7 52 3 4 4,aL 53 0 1 52,aN 54 1 53,aZ 55 .eql 54 9,ad 56 55,cZ 56 true 57 8,au 56 true (aZ 58 .geq 57 0),dT 59 56 58,ad 60 59,au 60 true (h7 61 3 4 4),au 60 true (aL 62 2 1 61),au 60 true (aN 63 1 62),au 60 true (cw 64 63),au 60 true (aL 65 1 1 3),au 60 true (aN 66 1 65),cZ 60 true 67 8,au 60 true (dk 68 4 66 67),au 60 true (aL 69 2 1 68),au 60 true (aN 70 1 69),au 60 true (b2 71 .eql 64 70),dT 72 60 71,ad 6 72]) .ret))))))))
@[simp] def pn:List cr:=[.tmp 6]
def uM:List (Nat×cR):=[
 (3,⟨1,8,.int .i64,.int .i64 0⟩),
 (4,⟨1,1,.bool,.bool false⟩),
 (5,⟨1,1,.int .u8,.int .u8 0⟩),
 (9,⟨1,16,.str,.str []⟩),
 (28,⟨1,24,.slice 74,.slice 7 .nil []⟩),
 (29,⟨1,24,.slice 99,.slice 4 .nil []⟩),
 (31,⟨2,48,.struct [(0,28),(1,29)],.agg [.slice 7 .nil [],.slice 4 .nil []]⟩),
 (35,⟨1,24,.slice 5,.slice 1 .nil []⟩),
 (38,⟨1,24,.slice 40,.slice 4 .nil []⟩),
 (65,⟨4,72,.struct [(0,3),(1,9),(2,38),(3,63)],.agg [.int .i64 0,.str [],.slice 4 .nil [],.slice 4 .nil []]⟩),
 (70,⟨1,24,.slice 9,.slice 1 .nil []⟩),
 (74,⟨7,96,.struct [(0,3),(1,3),(2,3),(3,65)],.agg [.int .i64 0,.int .i64 0,.int .i64 0,.int .i64 0,.str [],.slice 4 .nil [],.slice 4 .nil []]⟩),
 (99,⟨4,40,.struct [(0,9),(1,3),(2,3),(3,3)],.agg [.str [],.int .i64 0,.int .i64 0,.int .i64 0]⟩),
 (136,⟨1,24,.slice 3,.slice 1 .nil []⟩)]
theorem kl:fm aF uM=true:=by kernel_rfl
theorem HU:cG uM zK Si 1 Tryz.f11=true:=by kernel_rfl
theorem Fq:aF.funcs[(11:Nat)]? =some Tryz.f11:=Tryz.func11
theorem B1:cG uM xi sK 1 Tryz.f56=true:=by kernel_rfl
theorem Aj:aF.funcs[(56:Nat)]? =some Tryz.f56:=Tryz.func56
theorem RA:cG uM Ew Sr 2 Tryz.f129=true:=by kernel_rfl
theorem Nh:aF.funcs[(129:Nat)]? =some Tryz.f129:=Tryz.func129
theorem RB:cG uM Ex jd 3 Tryz.f130=true:=by kernel_rfl
theorem Ni:aF.funcs[(130:Nat)]? =some Tryz.f130:=Tryz.func130
theorem oj:cG uM mY pn 3 Tryz.f189=true:=by kernel_rfl
theorem nO:aF.funcs[(189:Nat)]? =some Tryz.f189:=Tryz.func189
def GY(es:List Ey)(s:List bt)(i:Nat):Prop:= ∀(k:Nat) (e:Ey),k<i->(es.take (es.length-1))[k]? =some e->e.name≠s
theorem JF(c:Cd)(jN:c.es.length<=100000000)(s:List bt):bF aF 129 [c.e,.str s] (.int .i64 (kL c.es s)):=by
 generalize aW:kL c.es s=R;refine bq kl Nh RA fun aO=>?_;unfold Ew;clear aO;simp;refine fv (fun i (_:Unit)=>⟨[(1,.str s),(2,.ptr (.loc 0) 0),(8,.slice 4 .no (c.es.map Ey.e)),(9,.int .i64 c.es.length),(10,.int .i64 i)],[(.loc 0,[.slice 7 .no (c.is.map Ix.e),.slice 4 .no (c.es.map Ey.e)])],[],1,[]⟩) c.es.length (fun i _=>GY c.es s i) () (by simp;exact cq) (fun k b aa=>Ω) (fun _ ai _=>?_) (fun i _ aq ai _=>?_)
 ·have:R= -1:=by rw[<-aW];exact E4 fun j f av=>ai j f (by have:=(dw.1 av).1;simp at this;omega) av
  subst this;clear ai aW;exact bY
 ·obtain⟨e,he,cP⟩:=eM aq;have cS:bs ((i:Int)+1):=by unfold bs;omega
  have qY:bs ((c.es.length:Int)-1):=by unfold bs;omega
  by_cases aS:e.name=s/\i<c.es.length-1
  ·have:R=i:=by rw[<-aW];exact xu (by rw[List.getElem?_take_of_lt aS.2];exact he) aS.1 ai
   subst this;have cM:(i:Int)<(c.es.length:Int)-1:=Ω
   obtain⟨n3,gL⟩:=aS;clear ai aW;subst n3;exact bY
  ·have gK:GY c.es s (i+1):=fun k f aa av=>by
    rcases ko k i with h|h
    ·exact ai k f h av
    ·obtain rfl:k=i:=Ω
     have aA:=(dw.1 av).1;simp at aA;rw[List.getElem?_take_of_lt Ω,he]at av;cases av;exact fun e=>aS ⟨e,Ω⟩
   clear ai aW;by_cases n3:e.name=s
   ·have cM:¬(i:Int)<(c.es.length:Int)-1:=fun h=>aS ⟨n3,Ω⟩;clear aS;subst n3;exact nq
   ·have h0:(e.name==s)=false:=by simpa using n3
    clear aS;exact nq
def tF(c:Cd)(x:Ix)(vars:Int):Bool:=if x.op≠0/\x.op≠5 then rl x.g else x.g.fits 80&&pA x.g vars&&(if x.op=0 then decide (2<=x.g.kind/\x.g.kind<=6)else x.g.kind==9&&(decide (0<=kL c.es x.g.name)&&(match c.es[(kL c.es x.g.name).toNat]? with|some f=>(x.g.ts.length:Int)==f.ar|none=>false)))
theorem Ug{g:Gm}(al:g.shape=true)(vars:Int):pA g vars=true↔gG g.vs []=[]\/ ∃u m,gG g.vs []=u++[m]/\m<vars:=by
 rw[wV];have bU:=GO g.vs (l:=[]) .nil;have hm:∀v,v∈gG g.vs []↔v∈g.vs:=fun v=>by simp[GP]
 constructor
 ·intro h;rcases List.eq_nil_or_concat (gG g.vs [])with e|⟨u,m,e⟩
  ·exact .inl e
  ·right;rw[List.concat_eq_append]at e;exact⟨u,m,e,h m ((hm m).1 (by rw[e];simp))⟩
 ·rintro(e|⟨u,m,e,cM⟩) v ba
  ·rw[<-hm,e]at ba;cases ba
  ·rw[<-hm,e]at ba;rw[e]at bU;rcases nD.1 ba with h|h
   ·have:=(List.pairwise_append.1 bU).2.2 v h m Ψ;omega
   ·simp at h;omega
theorem wb{u:List Int}{m:Int}:∀h,(di (u++[m]))[u.length]'h= .int .i64 m:=fun h=>by simp[di]
set_option maxRecDepth 8000 in
theorem TR(c:Cd)(jN:c.es.length<=100000000)(x:Ix)(vars:Int):bF aF 189 [c.e,x.e,.int .i64 vars] (.bool (tF c x vars)):=by
 have c8:=TQ x.g;have cc:=TV x.g;have fq:=JF c jN x.g.name;generalize aW:tF c x vars=R;unfold tF at aW;by_cases pW:x.op≠0/\x.op≠5
 ·rw[if_pos pW]at aW;obtain⟨a1,bn⟩:=pW;have nd:(x.op !=0)=true:=by simpa using a1
  have VX:(x.op !=5)=true:=by simpa using bn
  subst aW;refine bq kl nO oj fun aO=>?_;unfold mY;clear aO;exact bY
 rw[bu pW]at aW;have gM:x.op=0\/x.op=5:=Ω
 clear pW;cases av:x.g.fits 80
 ·rw[av]at aW cc;simp at aW;subst aW;rcases gM with a1|a1;all_goals
   refine bq kl nO oj fun aO=>?_;unfold mY
   clear aO
   exact bY
 have al:x.g.shape=true:=by unfold Gm.fits at av;rw[bE]at av;exact av.1
 have eN:bF aF 89 [x.g.e,.slice 1 .no []] (.slice 1 .no (di (gG x.g.vs []))):=TO x.g.sz x.g (c7 _) al [] ⟨.nil,Ψ⟩;rw[av]at aW cc;have nk:=Ug al vars;have hlen:=(lM.ins (l:=[]) ⟨.nil,Ψ⟩ (xL x.g.sz x.g (c7 _) al)).len;rw[Bool.true_and]at aW;have aa:kL c.es x.g.name= -1\/ ∃j f,kL c.es x.g.name=(j:Nat)/\c.es[j]? =some f:=by
  unfold kL;by_cases h:0<=hc (c.es.take (c.es.length-1)) x.g.name
  ·obtain⟨j,ai⟩:∃j:Nat,hc (c.es.take (c.es.length-1)) x.g.name=j:=⟨(hc (c.es.take (c.es.length-1)) x.g.name).toNat,Ω⟩;obtain⟨f,I,_⟩:=xv ai;have aA:=(dw.1 I).1;simp at aA;rw[List.getElem?_take_of_lt Ω]at I;exact .inr ⟨j,f,ai,I⟩
  ·left;unfold hc at h⊢;split at h
   ·omega
   ·rfl
 generalize gG x.g.vs []=U at eN nk hlen;have cQ:=dn x.g.kind 2 6;have p7:True:=trivial;rcases List.eq_nil_or_concat U with e|⟨u,m,e⟩
 ·subst e;have q5:bF aF 89 [x.g.e,.slice 1 .no []] (.slice 1 .no []):=eN;rw[nk.2 (.inl rfl),Bool.true_and]at aW;clear eN nk hlen;rcases gM with a1|a1
  ·rw[if_pos a1]at aW;subst aW;refine bq kl nO oj fun aO=>?_;unfold mY;clear aO;simp;(with_reducible repeat' first|refine aP ?_|refine aC cc ?_|refine aD cc ?_|refine aC q5 ?_|refine aD q5 ?_|refine aC cQ ?_|refine aD cQ ?_|simp[a1,p7]);all_goals simp[bJ,pn,bp,bz,bo]
  ·rw[bu Ω]at aW;by_cases dv:x.g.kind=9
   ·have kr:(x.g.kind==9)=true:=by simpa using dv
    rw[kr,Bool.true_and]at aW;rcases aa with aa|⟨j,f,ai,gS⟩
    ·rw[aa]at aW fq;simp at aW;subst aW;refine bq kl nO oj fun aO=>?_;unfold mY;clear aO;simp;((with_reducible repeat' first|refine aP ?_|refine aC cc ?_|refine aD cc ?_|refine aC q5 ?_|refine aD q5 ?_|refine aC fq ?_|refine aD fq ?_|simp[a1,kr,p7]|((first|apply b7|apply b9|apply b8)<;>intro h<;>try simp at h))<;>(try exact cn));all_goals simp[bJ,pn,bp,bz,bo]
    ·have fF:=(dw.1 gS).1;have vD:∀h,(c.es[j]'h)=f:=fun h=>by rw[cB fF]at gS;exact fo gS
     rw[ai]at aW fq;simp[gS]at aW;subst aW;refine bq kl nO oj fun aO=>?_;unfold mY;clear aO;simp;((with_reducible repeat' first|refine aP ?_|refine aC cc ?_|refine aD cc ?_|refine aC q5 ?_|refine aD q5 ?_|refine aC fq ?_|refine aD fq ?_|simp[a1,kr,fF,vD,gS,p7]|((first|apply b7|apply b9|apply b8)<;>intro h<;>try simp at h))<;>(try exact cn));all_goals simp[bJ,pn,bp,bz,bo]
   ·have kr:(x.g.kind==9)=false:=fN.2 dv;rw[kr,Bool.false_and]at aW;subst aW;refine bq kl nO oj fun aO=>?_;unfold mY;clear aO;simp;((with_reducible repeat' first|refine aP ?_|refine aC cc ?_|refine aD cc ?_|refine aC q5 ?_|refine aD q5 ?_|refine aC fq ?_|refine aD fq ?_|simp[a1,kr,p7]|((first|apply b7|apply b9|apply b8)<;>intro h<;>try simp at h))<;>(try exact cn));all_goals simp[bJ,pn,bp,bz,bo]
 ·rw[List.concat_eq_append]at e;subst e;have ni:u.length<=100000:=by rw[dh,List.length_singleton]at hlen;omega
  have O7:(0:Int)<(u++[m]).length:=by rw[dh,List.length_singleton];omega
  by_cases hm:m<vars
  ·rw[nk.2 (.inr ⟨u,m,rfl,hm⟩),Bool.true_and]at aW;have tW:¬vars<=m:=Ω
   clear nk hlen;rcases gM with a1|a1
   ·rw[if_pos a1]at aW;subst aW;refine bq kl nO oj fun aO=>?_;unfold mY;clear aO;simp;(with_reducible repeat' first|refine aP ?_|refine aC cc ?_|refine aD cc ?_|refine aC eN ?_|refine aD eN ?_|refine aC cQ ?_|refine aD cQ ?_|simp[a1,tW,wb]);all_goals simp[bJ,pn,bp,bz,bo]
   ·rw[bu Ω]at aW;by_cases dv:x.g.kind=9
    ·have kr:(x.g.kind==9)=true:=by simpa using dv
     rw[kr,Bool.true_and]at aW;rcases aa with aa|⟨j,f,ai,gS⟩
     ·rw[aa]at aW fq;simp at aW;subst aW;refine bq kl nO oj fun aO=>?_;unfold mY;clear aO;simp;(with_reducible repeat' first|refine aP ?_|refine aC cc ?_|refine aD cc ?_|refine aC eN ?_|refine aD eN ?_|refine aC fq ?_|refine aD fq ?_|simp[a1,kr,tW,wb]);all_goals simp[bJ,pn,bp,bz,bo]
     ·have fF:=(dw.1 gS).1;have vD:∀h,(c.es[j]'h)=f:=fun h=>by rw[cB fF]at gS;exact fo gS
      rw[ai]at aW fq;simp[gS]at aW;subst aW;refine bq kl nO oj fun aO=>?_;unfold mY;clear aO;simp;(with_reducible repeat' first|refine aP ?_|refine aC cc ?_|refine aD cc ?_|refine aC eN ?_|refine aD eN ?_|refine aC fq ?_|refine aD fq ?_|simp[a1,kr,fF,vD,gS,tW,wb]);all_goals simp[bJ,pn,bp,bz,bo]
    ·have kr:(x.g.kind==9)=false:=fN.2 dv;rw[kr,Bool.false_and]at aW;subst aW;refine bq kl nO oj fun aO=>?_;unfold mY;clear aO;simp;(with_reducible repeat' first|refine aP ?_|refine aC cc ?_|refine aD cc ?_|refine aC eN ?_|refine aD eN ?_|refine aC fq ?_|refine aD fq ?_|simp[a1,kr,tW,wb]);all_goals simp[bJ,pn,bp,bz,bo]
  ·have:pA x.g vars=false:=by
    cases h:pA x.g vars with
    |false=>rfl
    |true=>
     rcases nk.1 h with e|⟨dZ,Xo,e,bS⟩
     ·simp at e
     ·obtain⟨-,aR⟩:=List.append_inj' e rfl;simp at aR;subst aR;exact absurd bS hm
   rw[this,Bool.false_and]at aW;subst aW;have tW:vars<=m:=Ω
   rcases gM with a1|a1;all_goals
    refine bq kl nO oj fun aO=>?_;unfold mY
    clear aO
    simp
    (with_reducible repeat' first|refine aP ?_|refine aC cc ?_|refine aD cc ?_|refine aC eN ?_|refine aD eN ?_|simp[a1,tW,wb])
    simp[bJ,pn,bp,bz,bo]
end
end Go.Proofs.YtlnndmgfngfeiaaGreatDoor
