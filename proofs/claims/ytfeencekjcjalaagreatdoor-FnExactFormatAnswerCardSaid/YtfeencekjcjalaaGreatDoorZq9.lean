/- From a contract to the row: answers. -/
import Derived.ProofKit
import Derived.Carry
import Derived.WalkKit
import Derived.Deep.Slices
import Derived.Test.YtfeencekjcjalaaGreatDoorProg
import Derived.Lib.LaidTab
import Derived.Stop.LaidErr
import Derived.Lib.ItoaNum
import Derived.Test.YtfeencekjcjalaaGreatDoorZq8
set_option linter.all false
set_option maxHeartbeats 4000000
set_option maxRecDepth 4000
open Bool renaming and_eq_true->cD
open Go renaming TypeId->fF
open Go.DataW renaming trod->iV
open Go.Proofs.Tryz renaming prog->ar
open Go.Value renaming cells->nu,int->pz
open List renaming all_eq_true->iW,cons_append->b3,drop->n2,getElem?_append_left->rQ,getElem?_eq_getElem->cl,getElem?_eq_some_iff->fp,length_append->ga,length_cons->ik,length_map->iz,length_nil->nv,length_take->oT,map_cons->fG,map_nil->nx,mem_append->j0,mem_cons->gj,mem_map->iA,mem_of_getElem?->ev,take->kT,take_length->lZ,take_succ->pC
open List.cons renaming injEq->pA
open Nat renaming le_refl->e2
open Option renaming bind_eq_some_iff->n5,bind_some->ld
open Option.some renaming inj->ft
open _root_ renaming False->eF,UInt8->b7,congrArg->eG,decide_eq_false->l0,decide_eq_false_iff_not->hb,decide_eq_true->lL,decide_eq_true_eq->e3
namespace Go.Proofs.YtfeencekjcjalaaGreatDoor
section
open Go Go.Pv
section
variable {α:Type} (S:α->cS) (f:Int->α->α) (fJ:Nat->α->Prop)
def ah6(e:∀n v a,fJ (n+1) a->fJ n (f v a))(b:∀n a,fJ (n+1) a->fJ n a)(t:T):∀n a,fJ (n+t.size) a->fJ n (t.fold f a):=by
 induction t with
 |var v=>intro n a h;exact e n v a h
 |pair x y d c=>intro n a h;refine c n _ (d _ a (b _ _ ?_));simp only[T.size]at h;rwa[show n+y.size+x.size+1=n+(1+x.size+y.size) by omega]
 |_=>intro n a h;exact b n a h
def aix(du:∀a,ea (S a))(eI:∀a b,Same (S a) (S b))(g:Nat)(cW:List ah)(aA:∀a,ay (inObs (S a)) cW)(dd:cR cW=cW)(k:∀n v a,fJ (n+1) a->fJ n (f v a))(h:∀n a,fJ (n+1) a->fJ n a)(j:∀n v a,fJ (n+1) a->bG ar g (.int .i64 v::cW) (S a) fun r e=>r= .tuple []/\e=S (f v a))(t:T):
  ∀n a,fJ (n+t.size) a->bG ar 131 [t.e,.func g cW] (S a) fun r e=>r= .tuple []/\e=S (t.fold f a):=by
 have c:∀a m,Pv.look (.loc m) (S a).b=none:=fun a=>(du a).obj.1;have hu:∀a m cs,cG (.loc m) cs (S a).b=(S a).b++[(.loc m,cs)]:=fun a m cs=>ku (c a m);have al:∀a m,aB.loc m∉di (S a):=fun a=>kq (du a).obj;induction t with
 |pair x y p o=>intro n a i;simp only[T.size]at i;have q:fJ (n+y.size+x.size) a:=h _ _ (by rwa[show n+y.size+x.size+1=n+(1+x.size+y.size) by omega]);have z:=p _ a q;have w:=o n (x.fold f a) (ah6 f fJ k h x _ a q);clear p o j k h;have d:=du a;refine bG.mk mixed a7 Tryz.func131 wE Ψ d.obj fun u s=>?_;unfold uw;simp[hu,al,cT,c,dd];(with_reducible repeat' first|refine ak ?_|simp[hu,al,cT,c]);refine cx.ob z d aG aG (by simp[aA]) ?_;rintro r e ⟨rfl,rfl⟩;refine⟨eI _ _,?_⟩;simp[hn,iM,bW,c];(with_reducible repeat' first|refine ak ?_|simp[hu,al,cT,c]);rw[dd];refine cx.ob w (du (x.fold f a)) aG aG (by simp[aA]) ?_;rintro r e ⟨rfl,rfl⟩;refine⟨eI _ _,?_⟩;simp[hn,iM,bW,c];refine cJ.at (S (y.fold f (x.fold f a))) (.inr rfl) (du _) (eI _ _) aG aG ?_;simp[cM,aX,aY,aW];simp[T.fold]
 |var v=>intro n a i;have l:=j n v a i;clear j k h;have d:=du a;refine bG.mk mixed a7 Tryz.func131 wE Ψ d.obj fun u s=>?_;unfold uw;simp[hu,al,cT,c,dd];(with_reducible repeat' first|refine ak ?_|simp[hu,al,cT,c]);refine cx.ob l d aG aG (by simp[aA]) ?_;rintro r e ⟨rfl,rfl⟩;refine⟨eI _ _,?_⟩;simp[hn,iM,bW,c,cT];refine cJ.at (S (f v a)) (.inr rfl) (du _) (eI _ _) aG aG ?_;simp[cM,aX,aY,aW];simp[T.fold]
 |_=>intro n a i;clear j k h;have d:=du a;refine bG.mk mixed a7 Tryz.func131 wE Ψ d.obj fun u s=>?_;unfold uw;simp[hu,al,cT,c,dd];(with_reducible repeat' first|refine ak ?_|simp[hu,al,cT,c]);refine cJ.at (S a) (.inr rfl) d (Same.refl _) aG aG ?_;simp[cM,aX,aY,aW];simp[T.fold]
end
def sB(l:List Int):List (Int×Bool):=l.map fun v=>(v,true)
def Qi(v:Int):∀l:List Int,dp v (sB l)=if v∈l then some true else none
 |[]=>rfl
 |x::l=>by have a:=Qi v l;simp only[sB]at a;simp only[sB,fG,dp,a,gj];by_cases h:v=x<;>simp[h]
def arM{v:Int}{l:List Int}(h:v∉l):fa v true (sB l)=sB (l++[v]):=by rw[J3 (by rw[Qi,if_neg h])];simp[sB]
def pG(n:Nat)(m:List (Int×Bool))(xs:List ah):cS:=⟨[(.obj 862,[.row 1 (.obj 861) n]),(.obj 863,qN m),(.obj 864,[.gmap (.obj 863)])],[(.obj 861,⟨n,3,1,some xs⟩)]⟩
def lO(l:List Int):cS:=pG l.length (sB l) (dT l)
def Gw(l:List Int):ea (lO l):=by unfold lO pG;refine ea.of ⟨by intro m;simp[Pv.look],by intro m;simp[Pv.look]⟩ g8 ?_;intro x b xs a;simp at b;subst b;simp at a;subst a;simp
def Ku(l a:List Int):Same (lO l) (lO a):=Same.keys rfl rfl
def acN(l:List Int){n:Nat}{m:List (Int×Bool)}{xs:List ah}(a:n=l.length)(hm:m=sB l)(b:xs=dT l):pG n m xs=lO l:=by subst a b hm;rfl
def aiG(v:Int)(l:List Int)(j:l.length<=10000000000):bG ar 148 [.int .i64 v,.ptr (.obj 864) 0,.ptr (.obj 862) 0] (lO l) fun r g=>r= .tuple []/\g=lO (qn v l):=by
 have a:=Gw l;have aM:=Qi v l;by_cases h:v∈l
 ·rw[if_pos h]at aM;rw[show qn v l=l from if_pos h];unfold lO pG at a⊢;generalize sB l=m at aM a⊢;refine bG.mk mixed a7 Tryz.func148 Y0 Ψ a.obj fun i f=>?_;unfold KZ;simp[aM];(with_reducible repeat' first|refine ak ?_|simp[aM]);all_goals refine cJ.at _ (.inr rfl) a (Same.refl _) aG aG ?_
  all_goals simp[cM,aX,aY,aW]
 ·rw[if_neg h]at aM;have d:=arM h;have b:=Gw (qn v l);have e:pG (l.length+1) (fa v true (sB l)) (dT l++[.int .i64 v])=lO (qn v l):=by rw[show qn v l=l++[v]from if_neg h];exact acN _ Ψ d (Nq l v)
  have c:=Ku l (qn v l);rw[<-e]at b c⊢;simp only[lO,pG]at a b c⊢;generalize sB l=m at aM a b c⊢;clear d e;refine bG.mk mixed a7 Tryz.func148 Y0 Ψ a.obj fun i f=>?_;unfold KZ;simp[aM];(with_reducible repeat' first|refine ak ?_|simp[aM]);all_goals try refine⟨by unfold lim;omega,?_⟩
  all_goals(with_reducible repeat' first|refine ak ?_|simp[aM])
  all_goals refine cJ.at _ (.inr rfl) b c aG aG ?_
  all_goals simp[cM,aX,aY,aW]
end
section
open Go Go.Pv
def uq(n:Nat)(l:List Int):Prop:=l.length+n<=10000000000
def acC(n:Nat)(v:Int)(a:List Int)(h:uq (n+1) a):uq n (qn v a):=by
 unfold uq at*;unfold qn;split
 ·omega
 ·simp only[ga,List.length_singleton];omega
def acB(n:Nat)(a:List Int)(h:uq (n+1) a):uq n a:=by unfold uq at*;omega
def abY(u:List T)(hu:u.length<=1048576)(e:∀t∈u,t.fit=true):bK ar 100 [.slice 4 .no (u.map T.e)] (.slice 1 .no (dT (gB u []))):=by
 have hlen:=fun i=>I8 (u.take i) [] fun t aM=>e t (List.mem_of_mem_take aM);have a1:=fun(t:T) (l:List Int) (h:uq (0+t.size) l)=>aix lO qn uq Gw Ku 148 [.ptr (.obj 864) 0,.ptr (.obj 862) 0] (by intro a;simp[inObs,lO,pG,Pv.look,ay,au]) Ψ acC acB (fun n v a h=>aiG v a (by unfold uq at h;omega)) t 0 l h;refine br a7 Tryz.func100 ans fun j=>?_;unfold Su;clear j;simp;refine gb (fun i (_:Unit)=>⟨[(3,.ptr (.obj 862) 0),(4,.ptr (.obj 864) 0),(9,.slice 4 .no (u.map T.e)),(10,.int .i64 u.length),(11,.int .i64 i)],(lO (gB (u.take i) [])).b,(lO (gB (u.take i) [])).e,0,[.obj 861,.obj 862,.obj 863,.obj 864]⟩) u.length (fun _ _=>True) () (by simp[lO,pG,gB,sB];exact bU) trivial (fun _ _ _=>?_) (fun i _ hi _ _=>?_)
 ·simp only[lZ,lO,pG];exact ca
 ·obtain⟨b,ae,d⟩:=dX hi;have k:=e b (ev ae);simp only[T.fit,cD,e3]at k;have f:=hlen i;simp only[oT,nv]at f;have c:gB (u.take (i+1)) []=b.fold qn (gB (u.take i) []):=by rw[pC,ae,ah7];exact Zk _ _ _
  have g:=a1 b (gB (u.take i) []) (by unfold uq;omega);rw[<-c]at g;clear a1 hlen c f;simp only[lO,pG];simp[hi,d];(with_reducible repeat' first|refine ak ?_|simp[hi,d]);refine cx.ob g (Gw _) (by unfold lO pG;exact aG) (by unfold lO pG;exact aG) (by simp[inObs,lO,pG,Pv.look]) ?_;rintro r m ⟨rfl,rfl⟩;refine⟨Ku _ _,?_⟩;unfold lO pG;simp[bW];(with_reducible repeat' first|refine ak ?_|simp);all_goals refine bQ.rng () hi trivial (by simp[lO,pG];exact bU)
def Ir(S:aB->Prop):∀a b:List ah,ay S (a++b)↔ay S a/\ay S b
 |[],b=>by simp[ay]
 |x::r,b=>by simp only[b3,ay,Ir S r b,and_assoc]
def XV(S:aB->Prop):∀(W:List T) (i:Nat),ay S (kT i (List.map T.e W))
 |[],i=>by simp[ay]
 |_::_,0=>by simp[ay]
 |x::W,i+1=>by simp only[fG,List.take_succ_cons,ay];exact⟨Ψ,XV S W i⟩
def mK:List Int->Nat->List (Int×Int)
 |[],_=>[]
 |v::r,k=>(v,(k:Int))::mK r (k+1)
def Xh(v:Int):∀(l:List Int) (k:Nat),mK (l++[v]) k=mK l k++[(v,((k+l.length:Nat):Int))]
 |[],k=>by simp[mK]
 |x::l,k=>by simp only[b3,mK,Xh v l,ik];rw[show k+1+l.length=k+(l.length+1) by omega]
def Qh(v:Int):∀(l:List Int) (k:Nat),dp v (mK l k)=if v∈l then some ((k+tC l v:Nat):Int)else none
 |[],k=>rfl
 |x::l,k=>by
  simp only[mK,dp,Qh v l,gj,tC];by_cases h:v=x
  ·subst h;simp
  ·simp only[h,if_false,false_or,if_neg fun e:x=v=>h e.symm];split
   ·congr 1;omega
   ·rfl
def arL{v:Int}{l:List Int}(h:v∉l):fa v (l.length:Int) (mK l 0)=mK (l++[v]) 0:=by rw[J3 (by rw[Qh,if_neg h]),Xh];simp
def arQ{v:Int}{l:List Int}(h:v∈l):iL (mK l 0) v=(tC l v:Int):=by unfold iL;rw[Qh,if_pos h];simp
def NU:mj []=kL []:=rfl
def sU(m:List (Int×Int)):cS:=⟨[(.obj 865,mj m),(.obj 866,[.gmap (.obj 865)])],[]⟩
def Kp(m:List (Int×Int)):ea (sU m):=by unfold sU;exact ea.of ⟨by intro m;simp[Pv.look],by intro m;simp[Pv.look]⟩ g8 Ψ
def aik(v:Int)(m:List (Int×Int)):bG ar 147 [.int .i64 v,.ptr (.obj 866) 0] (sU m) fun r c=>r= .tuple [(T.var (iL m v)).e,.bool true]/\c=sU m:=by
 have a:=Kp m;have b:=kR (iL m v);unfold sU at a⊢;refine bG.mk mixed a7 Tryz.func147 amQ Ψ a.obj fun e d=>?_;unfold RQ;simp;(with_reducible repeat' first|refine ak ?_|refine aI b ?_|refine aJ b ?_|simp);all_goals refine cJ.at _ (.inl rfl) a (Same.refl _) aG aG ?_
 all_goals simp[cM,aX,aY,aW]
def ar1(u:List T)(hu:u.length<=1048576)(e:∀t∈u,t.fit=true):bK ar 99 [.slice 4 .no (u.map T.e)] (.slice 4 .no ((yT u).map T.e)):=by
 have A:=ab2 u e;have k:=abY u hu e;have x:(gB u []).Nodup:=ON u Ψ;have g:∀t∈u,∀v,t.occ v=true->v∈gB u []:=fun t aM v q=>(I9 u).2 (.inr ⟨t,aM,q⟩);have D:(gB u []).length<=10000000000:=by have:=I8 u [] e;simp only[nv]at this;omega
 unfold yT;generalize gB u []=o at k x g D⊢;have z:=fun(t:T) (aM:t∈u)=>Vu (sU (mK o 0)) (Kp _) 147 [.ptr (.obj 866) 0] (by simp[inObs,sU,Pv.look,ay,au]) Ψ (fun v=>some (.var (tC o v))) t fun v q=>by have:=aik v (mK o 0);rw[arQ (g t aM v q)]at this;exact this
 clear g e;obtain⟨W,a⟩:∃W,W=u.map (wO o):=⟨_,rfl⟩;rw[<-a];have l:W.length=u.length:=by rw[a,iz]
 have m:∀(i:Nat) b,u[i]? =some b->W[i]? =some (wO o b):=fun i b ae=>by rw[a,List.getElem?_map,ae];rfl
 clear a;refine br a7 Tryz.func99 amP fun F=>?_;unfold RP;clear F;simp;(with_reducible repeat' first|refine ak ?_|refine aI A ?_|refine aJ A ?_|simp);(with_reducible repeat' first|refine ak ?_|refine aI k ?_|refine aJ k ?_|simp);refine gb (fun i (_:Unit)=>⟨[(0,.slice 4 .no (u.map T.e)),(3,.ptr (.obj 866) 0),(14,.slice 1 .no (dT o)),(15,.int .i64 o.length),(16,.int .i64 i)],[(.obj 865,mj (mK (o.take i) 0)),(.obj 866,[.gmap (.obj 865)])],[],0,[.obj 865,.obj 866]⟩) o.length (fun _ _=>True) () (by simp[mK];exact⟨by simp[fresh,ay,au,bX,inObs,Pv.look,NU,mK],dH (by simp[fresh,ay,au,bX,inObs,Pv.look,NU,mK]),dK (by simp[fresh,ay,au,dD,inObs,Pv.look,NU,mK]),Ψ⟩) trivial (fun _ _ _=>?_) (fun i _ hi _ _=>?_);rotate_left
 ·obtain⟨b,ae,c⟩:=dX hi;have f:fa b (i:Int) (mK (o.take i) 0)=mK (o.take (i+1)) 0:=by
   have E:b∉o.take i:=fun hm=>by
    obtain⟨j,d⟩:=List.mem_iff_getElem?.1 hm;rw[List.getElem?_take]at d;split at d
    ·rename_i H;have:=(List.getElem?_inj Ω x).1 (d.trans ae.symm);omega
    ·cases d
   have:=arL E;rw[oT,Nat.min_eq_left Ω]at this;rw[this,pC,ae];rfl
  have B:∀h,((dT o)[i]'h)= .int .i64 b:=fun h=>by simp[dT,c]
  simp[hi,B];(with_reducible repeat' first|refine ak ?_|simp[hi,B]);all_goals refine bQ.rng () hi trivial ⟨by simp[fresh,ay,au,bX,inObs,Pv.look,f],dH (by simp[fresh,ay,au,bX,inObs,Pv.look,f]),dK (by simp[fresh,ay,au,dD,inObs,Pv.look,f]),Ψ⟩
 rw[lZ];simp;(with_reducible repeat' first|refine ak ?_|simp);refine gb (fun i (_:Unit)=>⟨[(3,.ptr (.obj 866) 0),(26,.slice 4 .no (u.map T.e)),(27,.int .i64 u.length),(6,.slice 4 (.own (.loc 0)) ((W.take i).map T.e)),(28,.int .i64 i)],[(.obj 865,mj (mK o 0)),(.obj 866,[.gmap (.obj 865)])],[(.loc 0,⟨i,71,4,none⟩)],1,[.obj 865,.obj 866]⟩) u.length (fun _ _=>True) () bU trivial (fun _ _ _=>?_) (fun i _ hi _ _=>?_)
 ·rw[<-l,lZ];exact ca
 ·obtain⟨b,ae,c⟩:=dX hi;have y:=z b (ev ae);have n:=m i b ae;rw[show T.sub (fun v=>some (T.var (tC o v))) b=wO o b from rfl]at y;clear z;simp[hi,c];(with_reducible repeat' first|refine ak ?_|simp[hi,c]);refine cx.ob y (Kp _) (by unfold sU;exact aG) (by unfold sU;exact aG) (by simp[inObs,sU,Pv.look]) ?_;rintro r G ⟨rfl,rfl⟩;refine⟨Same.refl _,?_⟩;unfold sU;simp[bW];(with_reducible repeat' first|refine ak ?_|simp);all_goals try refine⟨by unfold lim;omega,?_⟩
  all_goals(with_reducible repeat' first|refine ak ?_|simp)
  have p:kT (i+1) (List.map T.e W)=kT i (List.map T.e W)++[(wO o b).e]:=by rw[pC,List.getElem?_map,n];rfl
  have s:min i W.length=i:=Ω
  have w:∀S:aB->Prop,ay S (kT i (List.map T.e W)):=fun S=>XV S W i;all_goals refine bQ.rng () hi trivial ⟨by simp[fresh,ay,au,bX,inObs,Pv.look,p,s,w,Ir],dH (by simp[fresh,ay,au,bX,inObs,Pv.look,p,s,w,Ir]),dK (by simp[fresh,ay,au,dD,inObs,Pv.look,p,s,w,Ir]),Ψ⟩
def arF{α:Type}{a b:List α}{i:Nat}{x y:α}(d:a[i]? =some x)(ae:b[i]? =some y):a.take (i+1)=b.take (i+1)↔a.take i=b.take i/\x=y:=by
 rw[pC,pC,d,ae];have J:(a.take i).length=i:=by have:=(fp.1 d).1;simp;omega
 have U:(b.take i).length=i:=by have:=(fp.1 ae).1;simp;omega
 constructor
 ·intro h;obtain⟨c,e⟩:=List.append_inj h (J.trans U.symm);exact⟨c,by simpa using e⟩
 ·rintro⟨c,rfl⟩;rw[c]
def asZ(x y:List T):bK ar 98 [.slice 4 .no (x.map T.e),.slice 4 .no (y.map T.e)] (.bool (decide (x=y))):=by
 by_cases d:x.length=y.length;rotate_left
 ·have:decide (x=y)=false:=l0 fun e=>d (by rw[e]);rw[this];have f:((x.length:Int) !=(y.length:Int))=true:=bne_iff_ne.2 Ω;refine br a7 Tryz.func98 Y1 fun g=>?_;unfold K0;exact ca
 generalize bg:decide (x=y)=R;have f:((x.length:Int) !=(y.length:Int))=false:=by rw[bne_eq_false_iff_eq];omega
 refine br a7 Tryz.func98 Y1 fun g=>?_;unfold K0;have m:x.length<=68719476736:=by simp[eV,eN,eS,lim]at g;omega
 clear g;simp[f];(with_reducible repeat' first|refine ak ?_|simp[f]);refine eH [0,1,12] (fun i (_:Unit)=>[(13,.int .i64 i)]) x.length (fun i _=>x.take i=y.take i) () bU Ψ (fun _ a _=>?_) (fun i _ hi a _=>?_)
 ·have:R=true:=by rw[<-bg,decide_eq_true_iff];rw[lZ,d,lZ]at a;exact a
  subst this;exact ca
 ·obtain⟨b,ae,n⟩:=dX hi;obtain⟨c,aA⟩:∃c,y[i]? =some c:=⟨_,cl (d▸hi)⟩;have k:∀h,(y[i]'h)=c:=fun h=>by rw[cl (d▸hi)]at aA;exact ft aA
  have l:i<y.length:=d▸hi;have j:=uc b c;by_cases e:b=c
  ·rw[lL e]at j;have o:x.take (i+1)=y.take (i+1):=(arF ae aA).2 ⟨a,e⟩;clear a bg;subst e;exact hS
  ·rw[l0 e]at j;have:R=false:=by rw[<-bg,hb];rintro rfl;rw[ae]at aA;exact e (ft aA)
   subst this;clear a bg;exact ca
def abH(l:List bO):bK ar 93 [.slice 4 .no (l.map enc)] (.bool (l.all bO.fits)):=by
 generalize bg:l.all bO.fits=R;refine br a7 Tryz.func93 aor fun d=>?_;unfold Tv;have f:l.length<=68719476736:=by simp[eV,eN,eS,lim]at d;omega
 simp;refine eH [5,6] (fun i (_:Unit)=>[(7,.int .i64 i)]) l.length (p3 bO.fits l) () bU (fun k b j=>Ω) (fun _ a _=>?_) (fun i _ hi a _=>?_)
 ·have:R=true:=by rw[<-bg,iW];exact a.fin
  subst this;clear a bg;exact ca
 ·obtain⟨t,aM,e⟩:=dX hi;have c:=QC t;cases g:t.fits
  ·rw[g]at c;have:R=false:=by rw[<-bg,List.all_eq_false];exact⟨t,ev aM,by rw[g];simp⟩
   subst this;clear aM a bg;exact ca
  ·rw[g]at c;have h:=a.step aM g;clear aM a bg;exact hS
def asv(u:List T)(h:∀t∈u,t.fit=true):bK ar 93 [.slice 4 .no (u.map T.e)] (.bool true):=by have:=abH (u.map T.tm);rwa[Bb,show(u.map T.tm).all bO.fits=true by rw[List.all_map,iW];exact fun t aM=>(bO.fits_T t).trans (h t aM)]at this
def gR(l:List Int):cS:=⟨[],[(.obj 881,⟨l.length,3,1,some (dT l)⟩)]⟩
def q4(l:List Int):ea (gR l):=by unfold gR;refine ea.of ⟨by intro m;simp[Pv.look],by intro m;simp[Pv.look]⟩ Ψ ?_;intro x b xs a;simp at b;subst b;simp at a;subst a;simp
def Db(l a:List Int):Same (gR l) (gR a):=Same.keys rfl rfl
def aiB(l:List Int)(n:Int)(j:l.length<=10000000000):bG ar 177 [.row 1 (.obj 881) l.length,.int .i64 n] (gR l) fun r g=>r= .bool (decide (n∈l))/\g=gR l:=by
 have c:=q4 l;generalize bg:decide (n∈l)=R;unfold gR at c⊢;refine bG.mk mixed a7 Tryz.func177 aou Ψ c.obj fun o k=>?_;unfold Ty;simp;refine eH [1,7,8] (fun i (_:Unit)=>[(9,.int .i64 i)]) l.length (fun i _=>n∉l.take i) () bU Ψ (fun _ a _=>?_) (fun i _ hi a _=>?_)
 ·have:R=false:=by rw[<-bg,hb];rwa[lZ]at a
  subst this;clear a bg;simp;(with_reducible repeat' first|refine ak ?_|simp);all_goals refine cJ.at _ (.inl rfl) c (Same.refl _) aG aG ?_
  all_goals simp[cM,aX,aY,aW]
 ·obtain⟨b,ae,f⟩:=dX hi;have d:∀h,((dT l)[i]'h)= .int .i64 b:=fun h=>by simp[dT,f]
  by_cases e:b=n
  ·have:R=true:=by rw[<-bg,decide_eq_true_iff,<-e];exact ev ae
   subst this;clear a bg;simp[hi,d];(with_reducible repeat' first|refine ak ?_|simp[hi,d,e]);all_goals refine cJ.at _ (.inl rfl) c (Same.refl _) aG aG ?_
   all_goals simp[cM,aX,aY,aW]
  ·have m:n∉l.take (i+1):=by
    rw[pC,ae,j0];rintro(h|h)
    ·exact a h
    ·simp at h;exact e h.symm
   clear a bg;have he:(b==n)=false:=beq_eq_false_iff_ne.2 e;exact hS
def aiC(t:T):∀l:List Int,l.length+t.size<=10000000000->bG ar 144 [t.e,.row 1 (.obj 881) l.length] (gR l) fun r k=>r= .row 1 (.obj 881) (hq t l).length/\k=gR (hq t l):=by
 induction t with
 |var n=>
  intro l g;simp only[T.size]at g;have o:=aiB l n Ω;have c:=q4 l;by_cases h:n∈l
  ·rw[lL h]at o;have e:hq (.var n) l=l:=if_pos h;rw[e];clear e;unfold gR at c⊢;refine bG.mk mixed a7 Tryz.func144 Cr Ψ c.obj fun m j=>?_;unfold yR;simp;refine cx.ob o (q4 _) mO mO qr ?_;rintro r k ⟨rfl,rfl⟩;refine⟨Same.refl _,?_⟩;unfold gR;simp[bW];(with_reducible repeat' first|refine ak ?_|simp);refine gb (fun i (_:Unit)=>⟨[(1,.row 1 (.obj 881) l.length),(23,.slice 4 .no []),(24,.int .i64 0),(25,.int .i64 i)],[],[(.obj 881,⟨l.length,3,1,some (dT l)⟩)],1,[.obj 881]⟩) 0 (fun _ _=>True) () bU trivial (fun _ _ _=>?_) (fun i _ hi _ _=>absurd hi Ω);simp;(with_reducible repeat' first|refine ak ?_|simp);refine cJ.at _ (.inl rfl) c (Same.refl _) aG aG ?_;simp[cM,aX,aY,aW,inObs,Pv.look]
  ·rw[l0 h]at o;have e:hq (.var n) l=l++[n]:=if_neg h;have d:=q4 (l++[n]);have eI:=Db l (l++[n]);have x:(⟨[],[(.obj 881,⟨l.length+1,3,1,some (dT l++[.int .i64 n])⟩)]⟩:cS)=gR (l++[n]):=by simp[gR,Nq]
   have y:(l++[n]).length=l.length+1:=Ψ
   rw[e,y];rw[<-x]at d eI⊢;clear e x y;unfold gR at c eI⊢;refine bG.mk mixed a7 Tryz.func144 Cr Ψ c.obj fun m j=>?_;unfold yR;simp;refine cx.ob o (q4 _) mO mO qr ?_;rintro r k ⟨rfl,rfl⟩;refine⟨Same.refl _,?_⟩;unfold gR;simp[bW];(with_reducible repeat' first|refine ak ?_|simp);all_goals try refine⟨by unfold lim;omega,?_⟩
   all_goals(with_reducible repeat' first|refine ak ?_|simp)
   refine cJ.at _ (.inl rfl) d eI aG aG ?_;simp[cM,aX,aY,aW,inObs,Pv.look]
 |pair a b w v=>
  intro l g;simp only[T.size]at g;have z:=I7 a l;have q:=w l Ω;have kb:=v (hq a l) Ω;have c:=q4 l;have d:=q4 (hq (.pair a b) l);have eI:=Db l (hq (.pair a b) l);have e:hq (.pair a b) l=hq b (hq a l):=rfl;rw[e]at d eI⊢;clear e w v z;generalize hq a l=p at q kb d eI⊢;generalize hq b p=u at kb d eI⊢;unfold gR at c d eI⊢;refine bG.mk mixed a7 Tryz.func144 Cr Ψ c.obj fun m j=>?_;unfold yR;simp;(with_reducible repeat' first|refine ak ?_|simp);refine gb (fun i (L:List Int)=>⟨[(1,.row 1 (.obj 881) L.length),(23,.slice 4 .no [a.e,b.e]),(24,.int .i64 2),(25,.int .i64 i)],[],[(.obj 881,⟨L.length,3,1,some (dT L)⟩)],1,[.obj 881]⟩) 2 (fun i L=>(i=0->L=l)/\(i=1->L=p)/\(i=2->L=u)) l bU ⟨fun _=>rfl,fun h=>Ω,fun h=>Ω⟩ (fun L f _=>?_) (fun i L hi f _=>?_)
  ·obtain rfl:=f.2.2 rfl;clear f;simp;(with_reducible repeat' first|refine ak ?_|simp);refine cJ.at _ (.inl rfl) d eI aG aG ?_;simp[cM,aX,aY,aW,inObs,Pv.look]
  ·rcases(by omega:i=0\/i=1)with rfl|rfl
   ·obtain rfl:=f.1 rfl;clear f;simp;(with_reducible repeat' first|refine ak ?_|simp);refine cx.ob q (q4 _) mO mO qr ?_;rintro r k ⟨rfl,rfl⟩;refine⟨Db _ _,?_⟩;unfold gR;simp[bW];(with_reducible repeat' first|refine ak ?_|simp);all_goals refine bQ.rng (n:=2) (i:=0) p Ω ⟨fun h=>Ω,fun _=>rfl,fun h=>Ω⟩ bU
   ·obtain rfl:=f.2.1 rfl;clear f;simp;(with_reducible repeat' first|refine ak ?_|simp);refine cx.ob kb (q4 _) mO mO qr ?_;rintro r k ⟨rfl,rfl⟩;refine⟨Db _ _,?_⟩;unfold gR;simp[bW];(with_reducible repeat' first|refine ak ?_|simp);all_goals refine bQ.rng (n:=2) (i:=1) u Ω ⟨fun h=>Ω,fun h=>Ω,fun _=>rfl⟩ bU
 |nil=>intro l g;have c:=q4 l;have e:hq T.nil l=l:=rfl;rw[e];clear e;unfold gR at c⊢;refine bG.mk mixed a7 Tryz.func144 Cr Ψ c.obj fun m j=>?_;unfold yR;simp;(with_reducible repeat' first|refine ak ?_|simp);refine gb (fun i (_:Unit)=>⟨[(1,.row 1 (.obj 881) l.length),(23,.slice 4 .no []),(24,.int .i64 0),(25,.int .i64 i)],[],[(.obj 881,⟨l.length,3,1,some (dT l)⟩)],1,[.obj 881]⟩) 0 (fun _ _=>True) () bU trivial (fun _ _ _=>?_) (fun i _ hi _ _=>absurd hi Ω);simp;(with_reducible repeat' first|refine ak ?_|simp);refine cJ.at _ (.inl rfl) c (Same.refl _) aG aG ?_;simp[cM,aX,aY,aW,inObs,Pv.look]
 |sym s=>intro l g;have c:=q4 l;have e:hq (T.sym s) l=l:=rfl;rw[e];clear e;unfold gR at c⊢;refine bG.mk mixed a7 Tryz.func144 Cr Ψ c.obj fun m j=>?_;unfold yR;simp;(with_reducible repeat' first|refine ak ?_|simp);refine gb (fun i (_:Unit)=>⟨[(1,.row 1 (.obj 881) l.length),(23,.slice 4 .no []),(24,.int .i64 0),(25,.int .i64 i)],[],[(.obj 881,⟨l.length,3,1,some (dT l)⟩)],1,[.obj 881]⟩) 0 (fun _ _=>True) () bU trivial (fun _ _ _=>?_) (fun i _ hi _ _=>absurd hi Ω);simp;(with_reducible repeat' first|refine ak ?_|simp);refine cJ.at _ (.inl rfl) c (Same.refl _) aG aG ?_;simp[cM,aX,aY,aW,inObs,Pv.look]
 |num s=>intro l g;have c:=q4 l;have e:hq (T.num s) l=l:=rfl;rw[e];clear e;unfold gR at c⊢;refine bG.mk mixed a7 Tryz.func144 Cr Ψ c.obj fun m j=>?_;unfold yR;simp;(with_reducible repeat' first|refine ak ?_|simp);refine gb (fun i (_:Unit)=>⟨[(1,.row 1 (.obj 881) l.length),(23,.slice 4 .no []),(24,.int .i64 0),(25,.int .i64 i)],[],[(.obj 881,⟨l.length,3,1,some (dT l)⟩)],1,[.obj 881]⟩) 0 (fun _ _=>True) () bU trivial (fun _ _ _=>?_) (fun i _ hi _ _=>absurd hi Ω);simp;(with_reducible repeat' first|refine ak ?_|simp);refine cJ.at _ (.inl rfl) c (Same.refl _) aG aG ?_;simp[cM,aX,aY,aW,inObs,Pv.look]
def asd(u:List T)(hu:u.length<=1048576)(a:∀t∈u,t.fit=true):bK ar 94 [.slice 4 .no (u.map T.e)] (.slice 1 .no (dT (gB u []))):=by
 have e:=asv u a;have hlen:=fun i=>I8 (u.take i) [] fun t aM=>a t (List.mem_of_mem_take aM);refine br a7 Tryz.func94 aoo fun h=>?_;unfold Ts;clear h;simp;(with_reducible repeat' first|refine ak ?_|refine aI e ?_|refine aJ e ?_|simp);refine gb (fun i (_:Unit)=>⟨[(3,.row 1 (.obj 881) (gB (u.take i) []).length),(10,.slice 4 .no (u.map T.e)),(11,.int .i64 u.length),(12,.int .i64 i)],[],(gR (gB (u.take i) [])).e,0,[.obj 881]⟩) u.length (fun _ _=>True) () (by simp[gR,gB];exact bU) trivial (fun _ _ _=>?_) (fun i _ hi _ _=>?_)
 ·simp only[lZ,gR];exact ca
 ·obtain⟨b,ae,d⟩:=dX hi;have j:=a b (ev ae);simp only[T.fit,cD,e3]at j;have f:=hlen i;simp only[oT,nv]at f;have c:gB (u.take (i+1)) []=hq b (gB (u.take i) []):=by rw[pC,ae];exact Zk _ _ _
  have g:=aiC b (gB (u.take i) []) Ω;rw[<-c]at g;clear hlen c f;simp only[gR];simp[hi,d];(with_reducible repeat' first|refine ak ?_|simp[hi,d]);refine cx.ob g (q4 _) mO mO qr ?_;rintro r k ⟨rfl,rfl⟩;refine⟨Db _ _,?_⟩;unfold gR;simp[bW];(with_reducible repeat' first|refine ak ?_|simp);all_goals refine bQ.rng () hi trivial (by simp[gR];exact bU)
structure Ri (u:List T) (s:dR):Prop where
 f:∀t∈u,t.fit=true
 ok:JV s
 b:s.b=[]
 up:F8 (gB u [])
 n:s.n=((gB u []).length:Nat)
def AT(a:j8):Prop:= ∃(u:List T) (s:dR),a.t=u.map T.tm/\a.s=s.r/\Ri u s
def Rj{u:List T}{s:dR}:AT ⟨u.map T.tm,s.r⟩↔Ri u s:=by
 constructor
 ·rintro⟨d,e,J,U,a⟩;have b:=arJ J;have c:=dR.r_inj U;rw[b,c];exact a
 ·intro h;exact⟨u,s,rfl,rfl,h⟩
def KI(u:List T)(s:dR):(⟨u.map T.tm,s.r⟩:j8).e= .agg [.slice 4 .no (u.map T.e),.int .i64 s.n,.slice 5 .no (s.b.map az.e),.slice 1 .no (s.d.map c7),.slice 2 .no (s.k.map bR.e),.slice 2 .no (s.m.map bq.e)]:=by have h:[_,_,_,_,_]=[_,_,_,_,_]:=ah.agg.inj (PY s);have U:=eG (fun l=>ah.agg (.slice 4 .no (u.map T.e)::l)) h;rw[<-Bb]at U⊢;exact U
open Classical in
def ar0(a:j8)(g:iH a.s.m->w4 a.s.m)(f:a.t.length<=1048576):bK ar 46 [a.e] (.bool (decide (AT a))):=by
 have l:=atb a.t;have c:=ase a.s fun h=>(g h).w;generalize bg:decide (AT a)=R;obtain⟨t,s⟩:=a;simp only at l c g f;cases g1:t.all bO.fits with
 |false=>
  rw[g1]at l;have:R=false:=by rw[<-bg,hb];rintro⟨u,r,e,_,h⟩;simp only at e;subst e;rw[List.all_map,List.all_eq_false]at g1;obtain⟨x,y,U⟩:=g1;exact U ((bO.fits_T x).trans (h.f x y))
  subst this;clear bg g f;obtain⟨n,b,d,k,m⟩:=s;simp only[ja.e,j8.e]at c⊢;refine br a7 Tryz.func46 Co fun j=>?_;unfold yO;exact ca
 |true=>
  obtain⟨u,rfl,hu⟩:=LZ g1;rw[g1,Bb]at l;by_cases g2:tX s;rotate_left
  ·rw[l0 g2]at c;have:R=false:=by rw[<-bg,hb];rintro⟨z,r,_,e,h⟩;exact g2 ⟨r,e,h.ok⟩
   subst this;clear bg g f g1 g2;obtain⟨n,b,d,k,m⟩:=s;simp only[ja.e,j8.e,Bb]at c⊢;refine br a7 Tryz.func46 Co fun j=>?_;unfold yO;exact ca
  rw[lL g2]at c;obtain⟨st,rfl,dd⟩:=g2;rw[PY]at c;rw[KI];simp only[Rj]at bg;rw[iz]at f;have v:=ar1 u f hu;have q:=abY u f hu;have p:=asZ (yT u) u;obtain⟨n,b,d,k,m⟩:=st;by_cases g3:b=[];rotate_left
  ·have:R=false:=by rw[<-bg,hb];exact fun h=>g3 h.b
   subst this;have w:b.length≠0:=fun h=>g3 (List.length_eq_zero_iff.1 h);have A:((b.length:Int) !=0)=true:=bne_iff_ne.2 Ω;clear bg g f dd hu g1 v q p;simp only[dR.e,nx]at c⊢;refine br a7 Tryz.func46 Co fun j=>?_;unfold yO;exact ca
  subst g3;have i:R=true↔yT u=u/\n=((gB u []).length:Nat):=by rw[<-bg,decide_eq_true_iff,adE];exact⟨fun h=>⟨h.up,h.n⟩,fun h=>⟨hu,dd,rfl,h.1,h.2⟩⟩
  generalize gB u []=o at q i;by_cases g4:yT u=u
  ·rw[lL g4]at p;by_cases g5:n=(o.length:Nat)
   ·have:R=true:=i.2 ⟨g4,g5⟩;subst this;clear i bg g f dd hu g1 g4;subst g5;simp only[dR.e,nx]at c⊢;refine br a7 Tryz.func46 Co fun j=>?_;unfold yO;exact ca
   ·have:R=false:=by cases R with|false=>rfl|true=>exact absurd (i.1 rfl).2 g5
    subst this;clear i bg g f dd hu g1 g4;simp only[dR.e,nx]at c⊢;refine br a7 Tryz.func46 Co fun j=>?_;unfold yO;exact ca
  ·rw[l0 g4]at p;have:R=false:=by cases R with|false=>rfl|true=>exact absurd (i.1 rfl).1 g4
   subst this;clear i bg g f dd hu g1 g4;simp only[dR.e,nx]at c⊢;refine br a7 Tryz.func46 Co fun j=>?_;unfold yO;exact ca
open Classical in
def asS(a:j8)(p:iH a.s.m->w4 a.s.m)(g:a.t.length<=1048576):bK ar 38 [a.e] (.bool (decide (AT a))):=by
 have r:=abH a.t;have c:=asX a.s fun h=>(p h).w;generalize bg:decide (AT a)=R;obtain⟨t,s⟩:=a;simp only at r c p g;cases g1:t.all bO.fits with
 |false=>
  rw[g1]at r;have:R=false:=by rw[<-bg,hb];rintro⟨u,A,e,_,h⟩;simp only at e;subst e;rw[List.all_map,List.all_eq_false]at g1;obtain⟨x,J,U⟩:=g1;exact U ((bO.fits_T x).trans (h.f x J))
  subst this;clear bg p g;obtain⟨n,b,d,k,m⟩:=s;simp only[ja.e,j8.e]at c⊢;refine br a7 Tryz.func38 I0 fun y=>?_;unfold Ds;exact ca
 |true=>
  obtain⟨u,rfl,hu⟩:=LZ g1;rw[g1,Bb]at r;by_cases g2:tX s;rotate_left
  ·rw[l0 g2]at c;have:R=false:=by rw[<-bg,hb];rintro⟨N,A,_,e,h⟩;exact g2 ⟨A,e,h.ok⟩
   subst this;clear bg p g g1 g2;obtain⟨n,b,d,k,m⟩:=s;simp only[ja.e,j8.e,Bb]at c⊢;refine br a7 Tryz.func38 I0 fun y=>?_;unfold Ds;exact ca
  rw[lL g2]at c;obtain⟨st,rfl,dd⟩:=g2;rw[PY]at c;rw[KI];simp only[Rj]at bg;rw[iz]at g;have w:=asd u g hu;obtain⟨n,b,d,k,m⟩:=st;by_cases g3:b=[];rotate_left
  ·have:R=false:=by rw[<-bg,hb];exact fun h=>g3 h.b
   subst this;have H:b.length≠0:=fun h=>g3 (List.length_eq_zero_iff.1 h);have L:(0:Int)<(b.length:Int):=Ω
   have E:0<b.length:=Ω
   have F:decide ((0:Int)<(b.length:Int))=true:=lL L;clear bg p g dd hu g1 w;simp only[dR.e,nx]at c⊢;refine br a7 Tryz.func38 I0 fun y=>?_;unfold Ds;exact ca
  subst g3;have B:(gB u []).length<=10000000000:=by have:=I8 u [] hu;simp only[nv]at this;omega
  have f:R=true↔F8 (gB u [])/\n=((gB u []).length:Nat):=by rw[<-bg,decide_eq_true_iff];exact⟨fun h=>⟨h.up,h.n⟩,fun h=>⟨hu,dd,rfl,h.1,h.2⟩⟩
  generalize gB u []=o at w f B;clear bg p g dd hu g1;simp only[dR.e,nx]at c⊢;refine br a7 Tryz.func38 I0 fun y=>?_;unfold Ds;clear y;simp;(with_reducible repeat' first|refine ak ?_|refine aI r ?_|refine aJ r ?_|refine aI c ?_|refine aJ c ?_|simp);(with_reducible repeat' first|refine ak ?_|refine aI w ?_|refine aJ w ?_|simp);refine eH [1,3,26,27] (fun i (_:Unit)=>[(28,.int .i64 i)]) o.length (fun i _=> ∀(j:Nat) v,j<i->o[j]? =some v->v=j) () bU (fun j v h=>Ω) (fun _ l _=>?_) (fun i _ hi l _=>?_)
  ·have z:F8 o:=fun j v q=>l j v (fp.1 q).1 q;by_cases g5:n=(o.length:Nat)
   ·have:R=true:=f.2 ⟨z,g5⟩;subst this;subst g5;clear f l z;exact ca
   ·have:R=false:=by cases R with|false=>rfl|true=>exact absurd (f.1 rfl).2 g5
    subst this;have G:(n==(o.length:Int))=false:=beq_eq_false_iff_ne.2 g5;clear f l z;exact ca
  ·obtain⟨b,ae,D⟩:=dX hi;have P:∀h,((dT o)[i]'h)= .int .i64 b:=fun h=>by simp[dT,D]
   by_cases e:b=(i:Int)
   ·have O:∀(j:Nat) v,j<i+1->o[j]? =some v->v=j:=fun j v h q=>by
     by_cases K:j<i
     ·exact l j v K q
     ·obtain rfl:j=i:=Ω
      rw[ae]at q;rw[<-ft q];exact e
    clear l f;subst e;exact hS
   ·have:R=false:=by cases R with|false=>rfl|true=>exact absurd ((f.1 rfl).1 i b ae) e
    subst this;have M:(b !=(i:Int))=true:=bne_iff_ne.2 e;clear l f;exact ca
def ary{u:ja}{M:Int}(g:0<=M)(d:M<=1048576)(h:0<=sI u.h M):u.k.length<=1048576/\u.m.length<=1048576:=by
 unfold sI at h;have i:=yt u.h.b M Ω;split at h
 ·omega
 have j:=w1 yt u.h.d (iT u.h.b M) Ω;split at h
 ·omega
 have f:=P8 u.h.k (gP iT u.h.d (iT u.h.b M)) Ω;split at h
 ·omega
 rename_i a;split at h
 ·omega
 rename_i c;generalize gP iT u.h.d (iT u.h.b M)=q at*;have e:nY u.h.k q=if q-u.k.length<0 then-1 else q-u.k.length:=rfl
 have b:gP lW u.h.m (nY u.h.k q)=if nY u.h.k q-(u.m.map u5).length<0 then-1 else kt lW (u.m.map u5) (nY u.h.k q-(u.m.map u5).length):=rfl
 rw[iz]at b;constructor
 ·rw[e]at a;split at a<;>omega
 ·rw[b]at c;split at c<;>omega
def arq{u:j8}(h:0<=sH u.h 1048576):u.t.length<=1048576/\bO.szL u.t<=1048576/\u.s.k.length<=1048576/\u.s.m.length<=1048576:=by
 have e:=ars (m:=1048576) u h;unfold sH at h;have c:=Qc u.h.t 1048576 Ω;split at h
 ·omega
 rename_i J;split at h
 ·omega
 rename_i U;have f:(bO.szL u.t:Int)<=1048576:=arC (l:=u.t) (m:=1048576) (show 0<=qd u.h.t 1048576 by omega);have d:0<=sI u.s.h (qd u.h.t 1048576):=by show 0<=sI u.h.s (qd u.h.t 1048576);omega
 obtain⟨a,b⟩:=ary (u:=u.s) Ω c.2 d;exact⟨Ω,Ω,a,b⟩
open Classical in
def adx(a:j8)(j:iH a.s.m->w4 a.s.m)(f:a.t.length<=1048576)(h:bO.szL a.t<=1048576)(q:a.s.k.length<=1048576)(hm:a.s.m.length<=1048576):∃t:List b7,bK ar 12 [a.e] (.str t)/\bK ar 14 [a.e] (.str t):=by
 have c:=asS a j f;have e:=ar0 a j f;by_cases g:AT a
 ·rw[lL g]at c e;obtain⟨t,s⟩:=a;obtain⟨u,m,o,v,p⟩:=g;simp only at o v f h q hm;subst o v;rw[KI]at c e⊢;rw[aa7]at h;rw[iz]at f;have r:Dh u m:=⟨arP p.ok q hm,p.f,f,h⟩;exact⟨vz u m,asT r c,ar3 r e⟩
 ·rw[l0 g]at c e;refine⟨[],?_,?_⟩
  ·clear e;obtain⟨t,n,b,d,k,l⟩:=a;simp only[j8.e]at c⊢;refine br a7 Tryz.func12 Za fun i=>?_;unfold Le;clear i;exact ca
  ·clear c;obtain⟨t,n,b,d,k,l⟩:=a;simp only[j8.e]at e⊢;refine br a7 Tryz.func14 YT fun i=>?_;unfold KS;clear i;exact ca
def ar2(a:qh)(hw:a.wf):bK ar 4 [a.e] (.bool true):=by
 have c:=as2 a hw 1048576 Ω Ω;by_cases g:sH a 1048576<0
 ·generalize sH a 1048576=q at c g;clear hw;obtain⟨t,n,b,d,k,l⟩:=a;simp only[qh.e]at c⊢;refine br a7 US Y3 fun w=>?_;unfold K2;simp[-gN];(with_reducible repeat' first|refine ak ?_|refine aI c ?_|refine aJ c ?_|simp[g,-gN]);all_goals simp[bF,aX,aY,aW]
 obtain⟨r,rfl,h⟩:=art (m:=1048576) hw Ω Ω Ω;clear hw;rw[ac9]at c⊢;have v:=atc r;obtain⟨e,f,j,i⟩:=arq (u:=r) Ω;obtain⟨t,s,o⟩:=adx r h e f j i;have p:=asi r;clear h e f j i;generalize sH r.h 1048576=q at c g;obtain⟨t,n,b,d,k,l⟩:=r;simp only[j8.e]at c v s o p⊢;refine br a7 US Y3 fun w=>?_;unfold K2;exact ca
end
section
open Go Go.Pv Go.ChangeShapes Go.WideShapes Go.ChangeAt Go.RowKit Go.Deep
def r8(W:World):a8:=⟨fun b o=> ∃u,W.cell? ⟨b,o,none⟩=some u,fun _=>none,fun _=>none,fun _ _ _=>eF⟩
def X2(W:World)(b:Nat):∀(us:List Value) (off:Nat),(∀i u,us[i]? =some u->W.cell? ⟨b,off+i,none⟩=some u)->lB W (r8 W).A b off us
 |[],_,_=>trivial
 |u::us,off,h=>by
  have a:W.cell? ⟨b,off,none⟩=some u:=by simpa using h 0 u rfl
  exact⟨⟨⟨u,a⟩,a⟩,X2 W b us (off+1) fun i c hu=>by have:=h (i+1) c (by simpa using hu);rwa[show off+(i+1)=off+1+i from by omega]at this⟩
section
variable {H:Type} {enc:fF×Value->H} {W:World} {spare:Nat->Bool} {held:Bool}
def reads(W:World)(p:ah)(cs:List Value):Prop:= ∃v:Value,v.cells.toList=cs/\aV W (r8 W) p v/\∀c∈cs,c.oneCell'=true
def Ah{W:World}{a:List ah}{cs:List Value}(h:c1 W (r8 W) a cs):reads W (.agg a) cs:=by
 refine⟨.agg cs.toArray,by simp[nu],by simp only[aV];exact⟨cs.toArray,rfl,by simpa using h⟩,?_⟩;have:∀(a:List ah) (cs:List Value),c1 W (r8 W) a cs->∀c∈cs,c.oneCell'=true:=by
  intro a;induction a with
  |nil=>intro cs h;simp only[c1]at h;subst h;simp
  |cons p a b=>
   intro cs h c aA;simp only[c1]at h;obtain⟨u,us,rfl,J,U⟩:=h;rcases gj.1 aA with rfl|aA
   ·exact J.2
   ·exact b us U c aA
 exact this a cs h
def ve(W:World)(p:ah)(v:Value):Prop:=aV W (r8 W) p v/\v.oneCell'=true/\v.cells= #[v]
def ve.reads{W:World}{p:ah}{v:Value}(h:ve W p v):reads W p [v]:=⟨v,by rw[h.2.2],h.1,fun c aA=>by simp at aA;subst aA;exact h.2.1⟩
def adN{W:World}{b a k j:Nat}:W.cell? (((⟨b,a,none⟩:Addr).add k).add j)=W.cell? ⟨b,a+(k+j),none⟩:=by rw[add_add,Addr.add_lit]
def CR{α:Type}{t e:fF}{sz:Nat}(f:α->ah)(Q:α->Prop)(aM:ar.underlying t=some (.slice e))(aA:ar.cellsOf e=sz)(G:0<sz){fuel:Nat}
  (R:∀n cs x,n<fuel->iV enc ar W 0 spare held n e cs=some x->∃a:α,Q a/\reads W (f a) cs)
  {cs:List Value} {x:DataW H×List MemPlace} (h:iV enc ar W 0 spare held fuel t cs=some x):∃l:dn α,l.wf Q/\∃v,cs=[v]/\ve W (l.e sz f) v:=by
 rcases DataW.trod_slice aM h with⟨rfl,_⟩|⟨a,len,cap,elems,rest,n,rfl,rfl,_,_,N,hm,hlen,E,_,_⟩
 ·refine⟨.l [],by simp[dn.wf],_,rfl,?_,rfl,rfl⟩;simp only[dn.e,nx,aV];exact⟨⟨none,0,rfl,Ψ,⟨by simp[maxLen],by simp[lim]⟩,.inl Ψ⟩,fun e=>(by cases e),fun g e=>(by cases e),fun _ _ e=>(by cases e),fun _ e=>(by cases e)⟩
 by_cases P:lim<len
 ·refine⟨.b (some a) len cap,⟨P,by unfold maxLen at hm;omega⟩,_,rfl,?_,rfl,rfl⟩;simp only[dn.e,aV]
 rcases Nat.eq_zero_or_pos len with rfl|F
 ·refine⟨.l [],by simp[dn.wf],_,rfl,?_,rfl,rfl⟩;simp only[dn.e,nx,aV];exact⟨⟨some a,cap,rfl,Ψ,⟨hm,by simp[lim]⟩,.inl Ψ⟩,fun e=>(by cases e),fun g e=>(by cases e),fun _ _ e=>(by cases e),fun _ e=>(by cases e)⟩
 rw[aA]at E;have B:∀i,i<len->∃cs',cs'.length=sz/\(∀j,j<sz->W.cell? ((a.add (i*sz)).add j)=cs'[j]?)/\∃b:α,Q b/\reads W (f b) cs':=by intro i hi;have J:=E i hi;rw[cl Ω]at J;obtain⟨cs',U,o⟩:=n5.1 J;obtain⟨_,O,M⟩:=World.cells?_some U;exact⟨cs',O,M,R n cs' _ Ω o⟩
 obtain⟨m,k,spot⟩:=a;have w:spot=none:=by obtain⟨cs',J,U,_⟩:=B 0 F;have o:=U 0 G;rw[cl Ω]at o;simpa[Addr.add]using World.cell?_spot o
 subst w;have y:∀d,d<=len->∃xs:List α,xs.length=d/\(∀x∈xs,Q x)/\∃us:List Value,us.length=d*sz/\dk W (r8 W) sz (xs.map f) us/\∀j u,us[j]? =some u->W.cell? ⟨m,k+((len-d)*sz+j),none⟩=some u:=by
  intro d;induction d with
  |zero=>intro _;exact⟨[],rfl,Ψ,[],Ψ,by simp[dk],Ψ⟩
  |succ d L=>
   intro V;obtain⟨xs,c,A,us,D,r,q⟩:=L Ω;obtain⟨cs',s,c2,b,ae,v,v1,v2,v3⟩:=B (len-(d+1)) Ω;have hmul:(len-d)*sz=(len-(d+1))*sz+sz:=by rw[show len-d=(len-(d+1))+1 from by omega,Nat.succ_mul]
   refine⟨b::xs,by simp[c],fun x z=>?_,cs'++us,by rw[ga,s,D,Nat.succ_mul];omega,?_,fun j u p=>?_⟩
   ·rcases gj.1 z with rfl|z
    ·exact ae
    ·exact A x z
   ·simp only[fG,dk];exact⟨v,us,by rw[v1],⟨v2,by rw[<-s,<-v1];simp,by rw[v1];exact v3⟩,r⟩
   ·rcases Nat.lt_or_ge j sz with K|S
    ·rw[rQ Ω]at p;have:=c2 j K;rw[adN]at this;rw[this];exact p
    ·rw[List.getElem?_append_right Ω,s]at p;have:=q (j-sz) u p;rwa[show(len-d)*sz+(j-sz)=(len-(d+1))*sz+j from by omega]at this
 obtain⟨xs,c,A,us,D,r,q⟩:=y len (e2 _);refine⟨.l xs,A,_,rfl,?_,rfl,rfl⟩;simp only[dn.e,aV];refine⟨⟨some ⟨m,k,none⟩,cap,by rw[iz,c],by rw[iz,c];exact N,⟨hm,by rw[iz,c];omega⟩,.inr ⟨m,k,us,rfl,X2 W m us k fun i u hu=>?_,r⟩⟩,fun e=>(by cases e),fun g e=>(by cases e),fun _ _ e=>(by cases e),fun _ e=>(by cases e)⟩;have:=q i u hu;simpa using this
end
end
section
open Go Go.Pv Go.ChangeShapes Go.WideShapes Go.ChangeAt Go.RowKit Go.Deep
section
variable {H:Type} {enc:fF×Value->H} {W:World} {spare:Nat->Bool} {held:Bool} {cs:List Value} {x:DataW H×List MemPlace} {fuel:Nat}
def Dv:ar.cellsOf 3=1:=an
def T6:ar.cellsOf 9=1:=an
def G4:ar.cellsOf 104=4:=an
def T7:ar.cellsOf 39=1:=an
def T1:ar.cellsOf 106=5:=an
def T2:ar.cellsOf 22=1:=an
def adQ:ar.cellsOf 23=1:=an
def T3:ar.cellsOf 121=2:=an
def adR:ar.cellsOf 24=1:=an
def T4:ar.cellsOf 108=2:=an
def adS:ar.cellsOf 25=1:=an
def T5:ar.cellsOf 27=5:=an
def zL(h:iV enc ar W 0 spare held fuel 3 cs=some x):∃(n:Int) (v:Value),cs=[v]/\ve W (.int .i64 n) v:=by obtain⟨n,rfl,_,_⟩:=DataW.trod_int Tryz.underlying3 h;exact⟨n,_,rfl,by simp only[aV],rfl,rfl⟩
def aaX(h:iV enc ar W 0 spare held fuel 9 cs=some x):∃(s:hy) (v:Value),s.wf/\cs=[v]/\ve W s.e v:=by
 obtain⟨s,rfl,_,hm⟩:=DataW.trod_string Tryz.underlying9 h;by_cases a:lim<s.size
 ·exact⟨.b s,_,⟨a,by unfold maxLen at hm;omega⟩,rfl,by simp only[hy.e,aV],rfl,rfl⟩
 ·refine⟨.s s.data.toList,_,trivial,rfl,?_,rfl,rfl⟩;simp only[hy.e,aV];refine⟨Ψ,?_⟩;have:s.data.toList.length=s.size:=rfl;omega
def X5{α:Type}:∀{cs:List α},cs.length=2->∃a b,cs=[a,b]
 |[a,b],_=>⟨a,b,rfl⟩
def alO{α:Type}:∀{cs:List α},cs.length=4->∃a b c d,cs=[a,b,c,d]
 |[a,b,c,d],_=>⟨a,b,c,d,rfl⟩
def X6{α:Type}:∀{cs:List α},cs.length=5->∃a b c d e,cs=[a,b,c,d,e]
 |[a,b,c,d,e],_=>⟨a,b,c,d,e,rfl⟩
def abg:∀(fuel:Nat) (cs:List Value) (x:DataW H×List MemPlace),iV enc ar W 0 spare held fuel 104 cs=some x->∃t:cv,t.wf/\c1 W (r8 W) [.int .i64 t.kind,.int .i64 t.num,t.name.e,t.args.e 4 cv.e] cs:=by
 intro fuel;induction fuel using Nat.strongRecOn with
 |ind fuel z=>
  intro cs x h;obtain⟨xs,n,rfl,_,hlen,w,i⟩:=DataW.trod_struct Tryz.underlying104 h;rw[G4]at hlen;obtain⟨c0,g,c2,c3,rfl⟩:=alO hlen;have E:xs.length=4:=w;have f0:iV enc ar W 0 spare held n 3 (([c0,g,c2,c3].drop 0).take (ar.cellsOf 3))=xs[0]?:=i 0 _ rfl;have f1:iV enc ar W 0 spare held n 3 (([c0,g,c2,c3].drop 1).take (ar.cellsOf 3))=xs[1]?:=i 1 _ rfl;have f2:iV enc ar W 0 spare held n 9 (([c0,g,c2,c3].drop 2).take (ar.cellsOf 9))=xs[2]?:=i 2 _ rfl;have f3:iV enc ar W 0 spare held n 39 (([c0,g,c2,c3].drop 3).take (ar.cellsOf 39))=xs[3]?:=i 3 _ rfl;simp only[Dv,T6,T7,n2,kT]at f0 f1 f2 f3;rw[cl Ω]at f0 f1 f2 f3;obtain⟨k,v0,o,r0⟩:=zL f0;obtain⟨m,v1,u,f⟩:=zL f1;obtain⟨s,v2,q,v,e⟩:=aaX f2;obtain⟨l,j,v3,r,d⟩:=CR cv.e cv.wf Tryz.underlying39 G4 Ω (fun n' cs' B D A=>by obtain⟨t,t1,t2⟩:=z n' Ω cs' B A;exact⟨t,t1,by rw[cv.e_eq];exact Ah t2⟩) f3
  simp only[pA,and_true]at o u v r;subst o u v r;cases l with
  |l a=>
   refine⟨.mk k m s a,?_,?_⟩
   ·simp only[cv.wf,cv.wfL_iff];exact⟨q,j⟩
   ·simp only[c1,cv.kind,cv.num,cv.name,cv.args];exact⟨_,_,rfl,⟨r0.1,r0.2.1⟩,_,_,rfl,⟨f.1,f.2.1⟩,_,_,rfl,⟨e.1,e.2.1⟩,_,_,rfl,⟨d.1,d.2.1⟩,rfl⟩
  |b p y c=>
   refine⟨.big k m s p y c,?_,?_⟩
   ·simp only[cv.wf];exact⟨q,j⟩
   ·simp only[c1,cv.kind,cv.num,cv.name,cv.args];exact⟨_,_,rfl,⟨r0.1,r0.2.1⟩,_,_,rfl,⟨f.1,f.2.1⟩,_,_,rfl,⟨e.1,e.2.1⟩,_,_,rfl,⟨d.1,d.2.1⟩,rfl⟩
def adq(h:iV enc ar W 0 spare held fuel 106 cs=some x):∃b:fP,b.t.wf/\reads W b.e cs:=by obtain⟨xs,n,rfl,_,hlen,e,d⟩:=DataW.trod_struct Tryz.underlying106 h;rw[T1]at hlen;obtain⟨c0,c,c2,c3,c4,rfl⟩:=X6 hlen;have i:xs.length=2:=e;have f0:iV enc ar W 0 spare held n 3 (([c0,c,c2,c3,c4].drop 0).take (ar.cellsOf 3))=xs[0]?:=d 0 _ rfl;have f1:iV enc ar W 0 spare held n 104 (([c0,c,c2,c3,c4].drop 1).take (ar.cellsOf 104))=xs[1]?:=d 1 _ rfl;simp only[Dv,G4,n2,kT]at f0 f1;rw[cl Ω]at f0 f1;obtain⟨k,v0,a,r0⟩:=zL f0;obtain⟨t,f,g⟩:=abg _ _ _ f1;simp only[pA,and_true]at a;subst a;refine⟨⟨k,t⟩,f,Ah ?_⟩;rw[c1];exact⟨_,_,rfl,⟨r0.1,r0.2.1⟩,g⟩
def alG(h:iV enc ar W 0 spare held fuel 121 cs=some x):∃b:bR,True/\reads W b.e cs:=by obtain⟨xs,n,rfl,_,hlen,g,f⟩:=DataW.trod_struct Tryz.underlying121 h;rw[T3]at hlen;obtain⟨c0,d,rfl⟩:=X5 hlen;have i:xs.length=2:=g;have f0:iV enc ar W 0 spare held n 3 (([c0,d].drop 0).take (ar.cellsOf 3))=xs[0]?:=f 0 _ rfl;have f1:iV enc ar W 0 spare held n 3 (([c0,d].drop 1).take (ar.cellsOf 3))=xs[1]?:=f 1 _ rfl;simp only[Dv,n2,kT]at f0 f1;rw[cl Ω]at f0 f1;obtain⟨k,v0,a,r0⟩:=zL f0;obtain⟨m,v1,e,c⟩:=zL f1;simp only[pA,and_true]at a e;subst a e;refine⟨⟨k,m⟩,trivial,Ah ?_⟩;simp only[c1];exact⟨_,_,rfl,⟨r0.1,r0.2.1⟩,_,_,rfl,⟨c.1,c.2.1⟩,rfl⟩
def al2(h:iV enc ar W 0 spare held fuel 108 cs=some x):∃b:im,b.s.wf/\reads W b.e cs:=by obtain⟨xs,n,rfl,_,hlen,g,f⟩:=DataW.trod_struct Tryz.underlying108 h;rw[T4]at hlen;obtain⟨c0,d,rfl⟩:=X5 hlen;have j:xs.length=2:=g;have f0:iV enc ar W 0 spare held n 3 (([c0,d].drop 0).take (ar.cellsOf 3))=xs[0]?:=f 0 _ rfl;have f1:iV enc ar W 0 spare held n 9 (([c0,d].drop 1).take (ar.cellsOf 9))=xs[1]?:=f 1 _ rfl;simp only[Dv,T6,n2,kT]at f0 f1;rw[cl Ω]at f0 f1;obtain⟨k,v0,a,r0⟩:=zL f0;obtain⟨s,v1,i,e,c⟩:=aaX f1;simp only[pA,and_true]at a e;subst a e;refine⟨⟨k,s⟩,i,Ah ?_⟩;simp only[c1];exact⟨_,_,rfl,⟨r0.1,r0.2.1⟩,_,_,rfl,⟨c.1,c.2.1⟩,rfl⟩
def Rv(h:iV enc ar W 0 spare held fuel 22 cs=some x):∃d:dn fP,yz d/\∃v,cs=[v]/\ve W (kZ d) v:=CR fP.e (fun b=>b.t.wf) Tryz.underlying22 T1 Ω (fun _ _ _ _ a=>adq a) h
def adr(h:iV enc ar W 0 spare held fuel 23 cs=some x):∃d:dn (dn fP),d.wf yz/\∃v,cs=[v]/\ve W (sY d) v:=CR kZ yz Tryz.underlying23 T2 Ω (fun _ _ _ _ a=>by obtain⟨d,w,v,rfl,r⟩:=Rv a;exact⟨d,w,r.reads⟩) h
def alJ(h:iV enc ar W 0 spare held fuel 24 cs=some x):∃d:dn bR,d.wf (fun _=>True)/\∃v,cs=[v]/\ve W (tE d) v:=CR bR.e (fun _=>True) Tryz.underlying24 T3 Ω (fun _ _ _ _ a=>alG a) h
def al3(h:iV enc ar W 0 spare held fuel 25 cs=some x):∃d:dn im,d.wf (fun b=>b.s.wf)/\∃v,cs=[v]/\ve W (tL d) v:=CR im.e (fun b=>b.s.wf) Tryz.underlying25 T4 Ω (fun _ _ _ _ a=>al2 a) h
def arc(h:iV enc ar W 0 spare held fuel 27 cs=some x):∃r:pI,r.wf/\reads W r.e cs:=by obtain⟨xs,n,rfl,_,hlen,u,b⟩:=DataW.trod_struct Tryz.underlying27 h;rw[T5]at hlen;obtain⟨c0,a,c2,c3,c4,rfl⟩:=X6 hlen;have y:xs.length=5:=u;have f0:iV enc ar W 0 spare held n 3 (([c0,a,c2,c3,c4].drop 0).take (ar.cellsOf 3))=xs[0]?:=b 0 _ rfl;have f1:iV enc ar W 0 spare held n 22 (([c0,a,c2,c3,c4].drop 1).take (ar.cellsOf 22))=xs[1]?:=b 1 _ rfl;have f2:iV enc ar W 0 spare held n 23 (([c0,a,c2,c3,c4].drop 2).take (ar.cellsOf 23))=xs[2]?:=b 2 _ rfl;have f3:iV enc ar W 0 spare held n 24 (([c0,a,c2,c3,c4].drop 3).take (ar.cellsOf 24))=xs[3]?:=b 3 _ rfl;have f4:iV enc ar W 0 spare held n 25 (([c0,a,c2,c3,c4].drop 4).take (ar.cellsOf 25))=xs[4]?:=b 4 _ rfl;simp only[Dv,T2,adQ,adR,adS,n2,kT]at f0 f1 f2 f3 f4;rw[cl Ω]at f0 f1 f2 f3 f4;obtain⟨k,v0,g,r0⟩:=zL f0;obtain⟨d1,v,v1,m,i⟩:=Rv f1;obtain⟨d2,w,v2,o,f⟩:=adr f2;obtain⟨d3,s,v3,l,d⟩:=alJ f3;obtain⟨d4,t,v4,j,q⟩:=al3 f4;simp only[pA,and_true]at g m o l j;subst g m o l j;refine⟨⟨k,d1,d2,d3,d4⟩,⟨v,w,fun p n c e=>by simp only at e;subst e;exact s,t⟩,Ah ?_⟩;simp only[c1];exact⟨_,_,rfl,⟨r0.1,r0.2.1⟩,_,_,rfl,⟨i.1,i.2.1⟩,_,_,rfl,⟨f.1,f.2.1⟩,_,_,rfl,⟨d.1,d.2.1⟩,_,_,rfl,⟨q.1,q.2.1⟩,rfl⟩
end
end
section
open Go Go.Pv Go.ChangeShapes Go.WideShapes Go.ChangeAt Go.RowKit
def aqu:ownKnob ar.godebug=none:=an
def aqt:laidOutB ar=true:=an
def ai5(b o:Nat):Prop:= ∃x∈Bq,x.1=b/\x.2.1=o
def DS(w:World):Prop:= ∀x∈Bq,(∃v,w.cell? ⟨x.1,x.2.1,none⟩=some v/\x.2.2.2 v)/\∃el,Pv.shape w x.1=some (x.2.2.1,el)
def DS.gl{w:World}(h:DS w){Z:a8}(bj:∀b o,ai5 b o->Z.A b o):n7 w Z:=fun x a=>⟨bj _ _ ⟨x,a,rfl,rfl⟩,h x a⟩
def atm{w:World}{n:String}{g:Nat}{cs:Array Value}(a1:ar.globalNamed n=some g)(h:w.var? ar n=some cs):∃el,Pv.shape w g=some (cs.size,el):=by
 simp only[World.var?,a1,ld]at h;unfold Pv.shape;split at h
 ·rename_i c t fz e;cases h;rw[e];exact⟨_,rfl⟩
 ·cases h
def ai6{w:World}(aM:Lib.TabIs ar w "internal/strconv.uint64pow10" .u64 Lib.pow10Tab):DS w:=by
 have g0:ar.globalNamed "internal/strconv.uint64pow10" =some 0:=an
 intro x ab;unfold Bq at ab;rw[List.append_nil]at ab;obtain⟨i,hi,rfl⟩:=iA.1 ab;have hi:=List.mem_range.1 hi;refine⟨⟨_,aM.cell g0 i (by simpa[Lib.pow10Tab]using hi),?_⟩,?_⟩
 ·show pz .u64 _=_;rw[Lib.pow10Tab_at i hi]
 ·obtain⟨el,h⟩:=atm g0 aM;exact⟨el,by simpa[Lib.pow10Tab]using h⟩
def adD{f:FuncId}{fn:Func}(m:ar.funcs[f]? =some fn)(d:∀args w,(callFunc f args).run ar w= .ok (.enter f args) w){w:World}{Z:a8}{args:List ah}{bf:Array Value}(gl:n7 w Z)(h:bK ar f args (.bool true))(aM:∀k j b,¬Z.tr k j b)(bj:∀b o,Z.A b o->b<w.heap.size)(ae:∀k,Z.bx k=none)(al:∀k,Z.ow k=none)(l:cN w Z args bf.toList):
  Calls ar f bf w fun e w'=>e= .returned (.bool true)/\Below w.heap.size w w':=by
 have a1:Pv.Good (gh Z ⟨[],[]⟩) w Z [] []:=⟨bj,fun k cs c=>by simp[Pv.look]at c,fun k q bl J=>by simp[Pv.look]at J,fun g o c=>by simp[Pv.look]at c,fun g p n n' v v' bl J=>by simp[Pv.look]at J,fun g k n v bl J=>by simp[Pv.look]at J,fun k=>.inl (ae k),fun _ _ k j=>aM k j _⟩;rcases h w Z bf gl a1 (fun k=>⟨fun _=>ae k,fun _=>al k,aM k⟩) l with⟨_,aA⟩|⟨v,w',aA,_⟩
 ·refine aA.mono ?_;rintro e w' ⟨v,r,s,Z',rfl,⟨rfl,rfl⟩,i,_,_,_,a⟩;simp only[aV]at i;subst i;refine⟨rfl,a.os,a.tape,a.output,a.size,fun k c=>a.block k c ?_⟩;simp[gh,Pv.look]
 ·rw[d]at aA;cases aA
def aeJ{W:World}{b o:Nat}(h:(r8 W).A b o):b<W.heap.size:=by
 obtain⟨u,hu⟩:=h;rcases Nat.lt_or_ge b W.heap.size with h|h
 ·exact h
 ·simp[World.cell?,Array.getElem?_eq_none h]at hu
def aeI{W:World}(h:DS W):n7 W (r8 W):=h.gl fun b o a1=>by obtain⟨x,a,rfl,rfl⟩:=a1;obtain⟨⟨v,c,_⟩,_⟩:=h x a;exact⟨v,c⟩
def aqm{W:World}{a:List ah}{us:Array Value}(h:reads W (.agg a) us.toList):aV W (r8 W) (.agg a) (.agg us):=by
 obtain⟨v,J,U,_⟩:=h;have b:=U;simp only[aV]at b;obtain⟨ws,rfl,_⟩:=b;have:ws=us:=by
  have:ws.toList=us.toList:=by simpa[nu]using J
  exact Array.toList_inj.1 this
 rw[<-this];exact U
end
section
open Go Go.Pv Go.ChangeShapes Go.WideShapes Go.ChangeAt Go.RowKit Go.Deep
def adP:ar.cellsOf 41=6:=an
def alP{α:Type}:∀{cs:List α},cs.length=6->∃a b c d e f,cs=[a,b,c,d,e,f]
 |[a,b,c,d,e,f],_=>⟨a,b,c,d,e,f,rfl⟩
section
variable {H:Type} {enc:fF×Value->H} {W:World} {spare:Nat->Bool} {held:Bool} {cs:List Value} {x:DataW H×List MemPlace} {fuel:Nat}
def arG(h:iV enc ar W 0 spare held fuel 39 cs=some x):∃d:dn cv,d.wf (fun t=>t.wf)/\∃v,cs=[v]/\ve W (sK d) v:=CR cv.e cv.wf Tryz.underlying39 G4 Ω (fun n' cs' c b a=>by obtain⟨t,t1,t2⟩:=abg _ _ _ a;exact⟨t,t1,by rw[cv.e_eq];exact Ah t2⟩) h
def ac3(h:iV enc ar W 0 spare held fuel 41 cs=some x):∃a:qh,a.wf/\reads W a.e cs:=by
 obtain⟨xs,n,rfl,_,hlen,g,e⟩:=DataW.trod_struct Tryz.underlying41 h;rw[adP]at hlen;obtain⟨c0,c,c2,c3,c4,c5,rfl⟩:=alP hlen;have j:xs.length=2:=g;have f0:iV enc ar W 0 spare held n 39 (([c0,c,c2,c3,c4,c5].drop 0).take (ar.cellsOf 39))=xs[0]?:=e 0 _ rfl;have f1:iV enc ar W 0 spare held n 27 (([c0,c,c2,c3,c4,c5].drop 1).take (ar.cellsOf 27))=xs[1]?:=e 1 _ rfl;simp only[T7,T5,n2,kT]at f0 f1;rw[cl Ω]at f0 f1;obtain⟨l,w0,v0,d,r0⟩:=arG f0;obtain⟨s,i,u,hu,b,al⟩:=arc f1;simp only[pA,and_true]at d;subst d;simp only[pI.e,aV]at b;obtain⟨us,rfl,b⟩:=b;have f:us.toList=[c,c2,c3,c4,c5]:=by simpa[nu]using hu
 rw[f]at b;refine⟨⟨l,s⟩,⟨w0,i⟩,Ah ?_⟩;rw[c1];exact⟨_,_,rfl,⟨r0.1,r0.2.1⟩,b⟩
end
def ac2{H:Type}{enc:fF×Value->H}{W:World}{spare:Nat->Bool}{held:Bool}{us:Array Value}{x:DataW H×List MemPlace}{fuel:Nat}(h:iV enc ar W 0 spare held fuel 41 us.toList=some x):∃r:qh,r.wf/\aV W (r8 W) r.e (.agg us):=by obtain⟨r,b,a⟩:=ac3 h;exact⟨r,b,aqm a⟩
end
end Go.Proofs.YtfeencekjcjalaaGreatDoor
