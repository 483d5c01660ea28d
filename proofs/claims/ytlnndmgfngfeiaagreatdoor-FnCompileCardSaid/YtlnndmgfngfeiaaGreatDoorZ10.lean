/- From a contract of a law of bytes to its row. -/
import Derived.Shelf.SlSortFuncK.WholeK
import Derived.Shelf.GgSortFunc.Tiny
import Derived.Ground.GgsProg
import Derived.Test.YtlnndmgfngfeiaaGreatDoorProg
import Derived.ProofKit
import Derived.Carry
import Derived.WalkKit
import Derived.Lib.LaidTab
import Derived.Stop.LaidErr
import Derived.Lib.ItoaNum
import Derived.Test.YtlnndmgfngfeiaaGreatDoorZ9
set_option linter.all false
set_option maxHeartbeats 4000000
set_option maxRecDepth 4000
open Bool renaming and_eq_true->bB
open Go renaming Program->bW
open Go.Lib renaming itoa->b8
open Go.Proofs.Tryz renaming prog->aP
open Go.Value renaming cells->l1,int->mE
open List renaming all_eq_true->gC,append_assoc->l2,cons_append->iT,getElem?_eq_getElem->bO,getElem?_eq_some_iff->cX,getElem?_of_mem->l4,length_append->dF,length_cons->e3,map_cons->eQ,mem_map->pv,mem_of_getElem?->eR,take_add_one->jw,take_length->jl
open Nat renaming eq_or_lt_of_le->k1,le_refl->da,lt_or_ge->hS
open Option.some renaming inj->dZ,injEq->dL
open _root_ renaming False->dK,Option->be,UInt8->aF,decide_eq_false->ly,decide_eq_true->k2,decide_eq_true_eq->ef,if_neg->bf,if_pos->bN
namespace Go.Proofs.YtlnndmgfngfeiaaGreatDoor
section
open Go Go.Pv
theorem gI.bd{P:bW}{nw:List Nat}{n:Nat}{args:List ag}{st:bb}{d:be Nat}{K:bb->Prop}{o:be (List aF)}{r:ag}{cQ:List aF}(aM:bT P n args (bo o) fun dt aC=>dt=r/\aC=aN cQ)(af:∀k cs,Pv.look k (bo o).b=some cs->Pv.look k st.b=some cs)(he:∀k p,Pv.look k (bo o).e=some p->Pv.look k st.e=some p)
  (aa:ai (ah (bo o)) args) (aK:o=none->862∈nw/\Pv.look (.obj 862) st.b=none/\Pv.look (.obj 862) st.e=none) (h:K ⟨e6 d r st.t,bu (bo o).b st.b++(aN cQ).b,bu (bo o).e st.e++(aN cQ).e,st.n,st.o⟩):gI P false nw n args st d K:=by
 cases o with
 |some l=>exact gI.ob aM (iU l) (iU cQ) (LY l cQ) af he aa h
 |none=>
  obtain⟨oc,rR,I0⟩:=aK rfl;refine .inr ⟨bj,aN cQ,r,some (.obj 862),fun k cs aD=>⟨af k cs aD,.inl (by show(Pv.look k bj.b).isSome=true;rw[show Pv.look k bj.b=some cs from aD];rfl),wJ.kb k cs aD⟩,fun k o aj=>⟨he k o aj,.inr (by show(Pv.look k bj.e).isSome=true;rw[show Pv.look k bj.e=some o from aj];rfl),wJ.ke k o aj⟩,wJ.obj,(iU cQ).obj,⟨fun k aa=>.inl ?_,fun k aa=>?_,fun k aa=>?_,fun k aa=>?_,fun k aa=>?_⟩,aa,aM,fun e=>(by cases e),h⟩
  ·simp only[aN,Pv.look]at aa;split at aa
   ·rename_i e;subst e;simp[bj,Pv.look]
   ·cases aa
  ·simp only[aN,Pv.look]at aa;split at aa
   ·rename_i e;subst e;exact .inr rfl
   ·cases aa
  ·simp only[bj,Pv.look]at aa;split at aa
   ·rename_i e;subst e;simp[aN,Pv.look]
   ·cases aa
  ·simp[bj,Pv.look]at aa
  ·simp only[dL]at aa;subst aa;exact⟨⟨862,oc,rfl⟩,rR,I0,.inr (by simp[aN,Pv.look])⟩
theorem Yu(c:Cd){m n:Nat}(h:m<=n):(nr c m).length<=(nr c n).length:=by
 induction n with
 |zero=>rw[show m=0 by omega];exact da _
 |succ n a8=>
  rcases k1 h with rfl|h
  ·exact da _
  ·have:=a8 Ω;simp only[nr,dF];omega
theorem Rr(c:Cd)(a:Nat){m n:Nat}(b4:a<=m)(h:m<=n):(ix c a m).length<=(ix c a n).length:=by
 induction n with
 |zero=>rw[show m=0 by omega];exact da _
 |succ n a8=>
  rcases k1 h with rfl|h
  ·exact da _
  ·have:=a8 Ω;rw[lW c (by omega:a<=n),dF];omega
def gq(c:Cd):List (aJ×List ag):=[(.loc 0,[.slice 7 .no (c.is.map Ix.e),.slice 4 .no (c.es.map Ey.e)])]
def x7:be (List aF)->List aJ
 |none=>[.obj 861]
 |some _=>[.obj 861,.obj 862]
def wT(c:Cd)(i:Nat)(s:be (List aF)):bb:=⟨[(1,.ptr (.loc 0) 0),(3,aQ),(15,.slice 4 .no (c.es.map Ey.e)),(16,.int .i64 c.es.length),(17,.int .i64 i)],(bo s).b++gq c,(bo s).e,1,x7 s⟩
def hj(c:Cd)(i:Nat)(x:Nat×List aF):bb:=⟨[(1,.ptr (.loc 0) 0),(3,aQ),(4,.int .i64 i),(6,.int .i64 x.1),(15,.slice 4 .no (c.es.map Ey.e)),(16,.int .i64 c.es.length),(17,.int .i64 i)],(aN x.2).b++gq c,(aN x.2).e,2,[.obj 861,.obj 862]⟩
open Classical in
set_option maxRecDepth 8000 in
theorem af7(c:Cd)(ie:c.is.length<=100000000)(xA:c.es.length<=100000000)(hw:∀x∈c.is,x.g.w<=100000000)(aE:lE c->(oT c).length<=bA):cg aP 13 [c.e] (.str (if lE c then oT c else [])):=by
 have e5:=Lw c ie xA;by_cases aD:lE c;rotate_left
 ·rw[bf aD];rw[ly aD]at e5;clear aE;refine bJ kZ OA R2 fun aG=>?_;unfold G4;clear aG;have pY:=e5;exact bZ
 rw[bN aD];rw[k2 aD]at e5;replace aE:=aE aD;obtain⟨⟨ib,oW,Qd⟩,J,av⟩:=aD;have fb:=(cX.1 oW).1;refine bJ kZ OA R2 fun aG=>?_;unfold G4;clear aG;simp;(with_reducible repeat' first|refine aA ?_|refine aX e5 ?_|refine aY e5 ?_|simp);refine fM (wT c) c.es.length (fun i s=>s.getD []=nr c i/\(s=none↔i=0)) none (by simp[wT,gq,x7,bo,bj,aQ];exact c8) ⟨rfl,Ψ⟩ (fun s al _=>?_) (fun i s aw al _=>?_)
 ·obtain⟨iw,gR⟩:=al;obtain⟨l,rfl⟩:∃l,s=some l:=by
   cases s with
   |none=>have:=gR.1 rfl;omega
   |some l=>exact⟨l,rfl⟩
  have o1:l=oT c:=iw;have cE:oT c≠[]:=by intro h;obtain⟨n,aK⟩:∃n,c.es.length=n+1:=⟨c.es.length-1,Ω⟩;obtain⟨e,he⟩:∃e,c.es[n]? =some e:=⟨_,bO Ω⟩;rw[oT,aK,nr,he]at h;simp[j5]at h
  subst o1;clear iw gR;simp[wT,gq,x7,bo,aN,aQ];(with_reducible repeat' first|refine aA ?_|simp);refine RX (oT c) cE (by simp[aQ,Pv.look]) (by simp[Pv.look]) ?_;simp;simp[b1,SH,bn,bp,bk]
 obtain⟨e,he,eF⟩:=gd aw;have b2:aZ ((i:Int)+1):=by unfold aZ;omega
 have fc:=tA c i aw;obtain⟨f1,f2⟩:=AE J he;obtain⟨_,_,g1,_,⟨f3,f4⟩,_⟩:=J i e he;have hH:=(av i e he).2;have hle:=Yu c (m:=i+1) (n:=c.es.length) aw;have sU:nr c (i+1)=nr c i++(j5 e++ix c e.pos.toNat (c.fin i).toNat):=by rw[nr,he]
 obtain⟨N,ja⟩:∃N:Nat,c.fin i=N:=⟨(c.fin i).toNat,Ω⟩;obtain⟨A,bg⟩:∃A:Nat,e.pos=A:=⟨e.pos.toNat,Ω⟩;rw[ja]at fc f1 f2 hH;rw[bg]at f1 f3 f4 hH;rw[ja,bg,Int.toNat_natCast,Int.toNat_natCast]at sU;rw[sU,<-al.1]at hle;rw[<-al.1]at sU;have aiX:(s.getD []).length+((j5 e).length+(ix c A N).length)<=bA:=by simp only[dF]at hle;unfold oT at aE;omega
 have cZ:=qh e.ar (by unfold aZ;omega);have IT:(s.getD []).length+(j5 e).length<=bA:=Ω
 have Ft:=gf s (j5 e) (fun _=>by simp[j5]) (by simp only[dF];exact IT);have bK:e.name.length+(1+((b8 e.ar).length+2))<=bA:=by simp[j5]at IT;omega
 have b9:e.name.length+1<=bA:=Ω
 have cx:e.name.length+1+(b8 e.ar).length<=bA:=Ω
 have dp:e.name.length+1+(b8 e.ar).length+2<=bA:=Ω
 have eO:nr c (i+1)=s.getD []++j5 e++ix c A N:=by rw[sU,l2]
 clear sU hle IT bK oW;generalize gL:s.getD []++j5 e=P at Ft eO;have xv:P.length+(ix c A N).length<=bA:=by rw[<-gL,dF];omega
 clear gL al aE J av;simp only[j5,iT,List.nil_append,l2]at Ft;cases s with
 |none=>
  simp[wT,gq,x7,bo,bj,aN,aQ,aw,eF];(with_reducible repeat' first|refine aA ?_|refine aX cZ ?_|refine aY cZ ?_|simp[aw,eF,b9,cx,dp]);refine gI.bd (o:=none) (Ft) (by simp only[bo,bj,aN,aQ];exact aH) (by simp only[bo,bj,aN,aQ];exact aH) (by simp[ah,Pv.look,bo,bj,aN,aQ,ai,ak]) (by simp[Pv.look]) ?_;simp[bu,bo,bj,aN,aQ];(with_reducible repeat' first|refine aA ?_|simp[bg]);refine gZ (hj c i) (fun x=>N-x.1) (fun x=>A<=x.1/\x.1<=N/\x.2=P++ix c A x.1) (A,P) (by simp[hj,gq,aN,aQ];exact⟨by simp[fresh,ai,ak,bc,ah,Pv.look,dz],cb (by simp[fresh,ai,ak,bc,ah,Pv.look,dz]),cc (by simp[fresh,ai,ak,b6,ah,Pv.look,dz]),Ψ⟩) ⟨da _,by show A<=N;omega,by simp[JN]⟩ ?_;rintro⟨k,acc⟩ ⟨fO,fG,ft⟩ _;simp only at fO fG ft;rcases k1 fG with rfl|hk4
  ·have gr:(some acc).getD []=nr c (i+1)/\(some acc=none↔i+1=0):=⟨by rw[eO];exact ft,Ψ⟩;clear ft eO;simp[hj,gq,aN,aQ];((with_reducible repeat' first|refine aA ?_|refine aX fc ?_|refine aY fc ?_|simp[b2]|((first|apply cu|apply cw|apply cv)<;>intro h<;>try simp at h))<;>(try exact cK));refine bP.rng (some acc) aw gr (by simp[wT,gq,x7,bo,aN,aQ];exact⟨by simp[fresh,ai,ak,bc,ah,Pv.look,dz],cb (by simp[fresh,ai,ak,bc,ah,Pv.look,dz]),cc (by simp[fresh,ai,ak,b6,ah,Pv.look,dz]),Ψ⟩)
  have dW:k<c.is.length:=Ω
  obtain⟨x,ad,dn⟩:=gd dW;have hL:aZ ((k:Int)+1):=by unfold aZ;omega
  have bX:=qh (k:Int) (by unfold aZ;omega);have jF:=Rr c A (m:=k+1) (n:=N) Ω Ω;rw[lW c fO,ad]at jF;simp only[dF]at jF;have h2:acc.length+(gw k x).length<=bA:=by rw[ft,dF];omega
  have fU:=h2;obtain⟨bQ,b3,eV,l7,qv,pF,oO,wY,sG,Va⟩:=hH k x Ω Ω ad;rcases(by omega:x.op=0\/x.op=1\/x.op=2\/x.op=3\/x.op=4\/x.op=5\/x.op=6)with h|h|h|h|h|h|h;all_goals simp[gw,ks,h]at h2
  ·have ao:x.g.shape=true:=by have:=(b3 h).2.2.1;unfold Gm.fits at this;rw[bB]at this;exact this.1
   have e0:=GB x.g.sz x.g (da _) ao (hw x (eR ad));have dm:gw k x=b8 (k:Int)++(32::114::101::113::117::105::114::101::32::(fl x.g++[10])):=by simp[gw,ks,h]
   rw[dm]at fU;have kw:=gf (some acc) (b8 (k:Int)++(32::114::101::113::117::105::114::101::32::(fl x.g++[10]))) Ψ (by rw[dF];exact fU);have aK:acc++(b8 (k:Int)++(32::114::101::113::117::105::114::101::32::(fl x.g++[10])))=P++ix c A (k+1):=by rw[lW c fO,ad,ft,<-dm];simp
   clear ft eO fU dm jF hH;simp[hj,gq,aN,aQ];(with_reducible repeat' first|refine aA ?_|refine aX fc ?_|refine aY fc ?_|refine aX bX ?_|refine aY bX ?_|refine aX e0 ?_|refine aY e0 ?_|simp[hk4,dW,dn,h,hL,h]);refine bI.bd (o:=_) (kw) (by simp only[bo,bj,aN,aQ];exact aH) (by simp only[bo,bj,aN,aQ];exact aH) (by simp[ah,Pv.look,bo,bj,aN,aQ,ai,ak]) Ψ ?_;simp[bu,bo,bj,aN,aQ];((with_reducible repeat' first|refine aA ?_|simp|((first|apply cu|apply cw|apply cv)<;>intro h<;>try simp at h))<;>(try exact cK));refine bP.whl (k+1,acc++(b8 (k:Int)++(32::114::101::113::117::105::114::101::32::(fl x.g++[10])))) (by show N-(k+1)<N-k;omega) ⟨by show A<=k+1;omega,by show k+1<=N;omega,aK⟩ (by simp[hj,gq,aN,aQ];exact⟨by simp[fresh,ai,ak,bc,ah,Pv.look,dz],cb (by simp[fresh,ai,ak,bc,ah,Pv.look,dz]),cc (by simp[fresh,ai,ak,b6,ah,Pv.look,dz]),Ψ⟩)
  ·have ek:=qh x.a (by have:=(l7 h).1;unfold aZ;omega);have eh:=qh x.b (by have:=(l7 h).2.1;unfold aZ;omega);have dm:gw k x=b8 (k:Int)++(32::116::114::121::32::(b8 x.a++32::(b8 x.b++[10]))):=by simp[gw,ks,h]
   rw[dm]at fU;have kw:=gf (some acc) (b8 (k:Int)++(32::116::114::121::32::(b8 x.a++32::(b8 x.b++[10])))) Ψ (by rw[dF];exact fU);have aK:acc++(b8 (k:Int)++(32::116::114::121::32::(b8 x.a++32::(b8 x.b++[10]))))=P++ix c A (k+1):=by rw[lW c fO,ad,ft,<-dm];simp
   clear ft eO fU dm jF hH;simp[hj,gq,aN,aQ];((with_reducible repeat' first|refine aA ?_|refine aX fc ?_|refine aY fc ?_|refine aX bX ?_|refine aY bX ?_|refine aX ek ?_|refine aY ek ?_|refine aX eh ?_|refine aY eh ?_|simp[hk4,dW,dn,h,hL,h]|((first|apply cu|apply cw|apply cv)<;>intro h<;>try simp at h))<;>(try exact cK));refine bI.bd (o:=_) (kw) (by simp only[bo,bj,aN,aQ];exact aH) (by simp only[bo,bj,aN,aQ];exact aH) (by simp[ah,Pv.look,bo,bj,aN,aQ,ai,ak]) Ψ ?_;simp[bu,bo,bj,aN,aQ];((with_reducible repeat' first|refine aA ?_|simp|((first|apply cu|apply cw|apply cv)<;>intro h<;>try simp at h))<;>(try exact cK));refine bP.whl (k+1,acc++(b8 (k:Int)++(32::116::114::121::32::(b8 x.a++32::(b8 x.b++[10]))))) (by show N-(k+1)<N-k;omega) ⟨by show A<=k+1;omega,by show k+1<=N;omega,aK⟩ (by simp[hj,gq,aN,aQ];exact⟨by simp[fresh,ai,ak,bc,ah,Pv.look,dz],cb (by simp[fresh,ai,ak,bc,ah,Pv.look,dz]),cc (by simp[fresh,ai,ak,b6,ah,Pv.look,dz]),Ψ⟩)
  ·have eh:=qh x.b (by have:=(qv h).2;unfold aZ;omega);have dm:gw k x=b8 (k:Int)++(32::112::105::99::107::32::(b8 x.b++[10])):=by simp[gw,ks,h]
   rw[dm]at fU;have kw:=gf (some acc) (b8 (k:Int)++(32::112::105::99::107::32::(b8 x.b++[10]))) Ψ (by rw[dF];exact fU);have aK:acc++(b8 (k:Int)++(32::112::105::99::107::32::(b8 x.b++[10])))=P++ix c A (k+1):=by rw[lW c fO,ad,ft,<-dm];simp
   clear ft eO fU dm jF hH;simp[hj,gq,aN,aQ];(with_reducible repeat' first|refine aA ?_|refine aX fc ?_|refine aY fc ?_|refine aX bX ?_|refine aY bX ?_|refine aX eh ?_|refine aY eh ?_|simp[hk4,dW,dn,h,hL,h]);refine bI.bd (o:=_) (kw) (by simp only[bo,bj,aN,aQ];exact aH) (by simp only[bo,bj,aN,aQ];exact aH) (by simp[ah,Pv.look,bo,bj,aN,aQ,ai,ak]) Ψ ?_;simp[bu,bo,bj,aN,aQ];((with_reducible repeat' first|refine aA ?_|simp|((first|apply cu|apply cw|apply cv)<;>intro h<;>try simp at h))<;>(try exact cK));refine bP.whl (k+1,acc++(b8 (k:Int)++(32::112::105::99::107::32::(b8 x.b++[10])))) (by show N-(k+1)<N-k;omega) ⟨by show A<=k+1;omega,by show k+1<=N;omega,aK⟩ (by simp[hj,gq,aN,aQ];exact⟨by simp[fresh,ai,ak,bc,ah,Pv.look,dz],cb (by simp[fresh,ai,ak,bc,ah,Pv.look,dz]),cc (by simp[fresh,ai,ak,b6,ah,Pv.look,dz]),Ψ⟩)
  ·have ek:=qh x.a (by have:=(pF h).1;unfold aZ;omega);have dm:gw k x=b8 (k:Int)++(32::106::117::109::112::32::(b8 x.a++[10])):=by simp[gw,ks,h]
   rw[dm]at fU;have kw:=gf (some acc) (b8 (k:Int)++(32::106::117::109::112::32::(b8 x.a++[10]))) Ψ (by rw[dF];exact fU);have aK:acc++(b8 (k:Int)++(32::106::117::109::112::32::(b8 x.a++[10])))=P++ix c A (k+1):=by rw[lW c fO,ad,ft,<-dm];simp
   clear ft eO fU dm jF hH;simp[hj,gq,aN,aQ];(with_reducible repeat' first|refine aA ?_|refine aX fc ?_|refine aY fc ?_|refine aX bX ?_|refine aY bX ?_|refine aX ek ?_|refine aY ek ?_|simp[hk4,dW,dn,h,hL,h]);refine bI.bd (o:=_) (kw) (by simp only[bo,bj,aN,aQ];exact aH) (by simp only[bo,bj,aN,aQ];exact aH) (by simp[ah,Pv.look,bo,bj,aN,aQ,ai,ak]) Ψ ?_;simp[bu,bo,bj,aN,aQ];((with_reducible repeat' first|refine aA ?_|simp|((first|apply cu|apply cw|apply cv)<;>intro h<;>try simp at h))<;>(try exact cK));refine bP.whl (k+1,acc++(b8 (k:Int)++(32::106::117::109::112::32::(b8 x.a++[10])))) (by show N-(k+1)<N-k;omega) ⟨by show A<=k+1;omega,by show k+1<=N;omega,aK⟩ (by simp[hj,gq,aN,aQ];exact⟨by simp[fresh,ai,ak,bc,ah,Pv.look,dz],cb (by simp[fresh,ai,ak,bc,ah,Pv.look,dz]),cc (by simp[fresh,ai,ak,b6,ah,Pv.look,dz]),Ψ⟩)
  ·have dm:gw k x=b8 (k:Int)++[32,102,97,105,108,10]:=by simp[gw,ks,h]
   rw[dm]at fU;have kw:=gf (some acc) (b8 (k:Int)++[32,102,97,105,108,10]) Ψ (by rw[dF];exact fU);have aK:acc++(b8 (k:Int)++[32,102,97,105,108,10])=P++ix c A (k+1):=by rw[lW c fO,ad,ft,<-dm];simp
   clear ft eO fU dm jF hH;simp[hj,gq,aN,aQ];(with_reducible repeat' first|refine aA ?_|refine aX fc ?_|refine aY fc ?_|refine aX bX ?_|refine aY bX ?_|refine aX bX ?_|refine aY bX ?_|simp[hk4,dW,dn,h,hL,h]);refine bI.bd (o:=_) (kw) (by simp only[bo,bj,aN,aQ];exact aH) (by simp only[bo,bj,aN,aQ];exact aH) (by simp[ah,Pv.look,bo,bj,aN,aQ,ai,ak]) Ψ ?_;simp[bu,bo,bj,aN,aQ];((with_reducible repeat' first|refine aA ?_|simp|((first|apply cu|apply cw|apply cv)<;>intro h<;>try simp at h))<;>(try exact cK));refine bP.whl (k+1,acc++(b8 (k:Int)++[32,102,97,105,108,10])) (by show N-(k+1)<N-k;omega) ⟨by show A<=k+1;omega,by show k+1<=N;omega,aK⟩ (by simp[hj,gq,aN,aQ];exact⟨by simp[fresh,ai,ak,bc,ah,Pv.look,dz],cb (by simp[fresh,ai,ak,bc,ah,Pv.look,dz]),cc (by simp[fresh,ai,ak,b6,ah,Pv.look,dz]),Ψ⟩)
  ·have ao:x.g.shape=true:=by have:=(eV h).2.2.1;unfold Gm.fits at this;rw[bB]at this;exact this.1
   have e0:=GB x.g.sz x.g (da _) ao (hw x (eR ad));have dm:gw k x=b8 (k:Int)++(32::99::97::108::108::32::(fl x.g++[10])):=by simp[gw,ks,h]
   rw[dm]at fU;have kw:=gf (some acc) (b8 (k:Int)++(32::99::97::108::108::32::(fl x.g++[10]))) Ψ (by rw[dF];exact fU);have aK:acc++(b8 (k:Int)++(32::99::97::108::108::32::(fl x.g++[10])))=P++ix c A (k+1):=by rw[lW c fO,ad,ft,<-dm];simp
   clear ft eO fU dm jF hH;simp[hj,gq,aN,aQ];(with_reducible repeat' first|refine aA ?_|refine aX fc ?_|refine aY fc ?_|refine aX bX ?_|refine aY bX ?_|refine aX e0 ?_|refine aY e0 ?_|simp[hk4,dW,dn,h,hL,h]);refine bI.bd (o:=_) (kw) (by simp only[bo,bj,aN,aQ];exact aH) (by simp only[bo,bj,aN,aQ];exact aH) (by simp[ah,Pv.look,bo,bj,aN,aQ,ai,ak]) Ψ ?_;simp[bu,bo,bj,aN,aQ];((with_reducible repeat' first|refine aA ?_|simp|((first|apply cu|apply cw|apply cv)<;>intro h<;>try simp at h))<;>(try exact cK));refine bP.whl (k+1,acc++(b8 (k:Int)++(32::99::97::108::108::32::(fl x.g++[10])))) (by show N-(k+1)<N-k;omega) ⟨by show A<=k+1;omega,by show k+1<=N;omega,aK⟩ (by simp[hj,gq,aN,aQ];exact⟨by simp[fresh,ai,ak,bc,ah,Pv.look,dz],cb (by simp[fresh,ai,ak,bc,ah,Pv.look,dz]),cc (by simp[fresh,ai,ak,b6,ah,Pv.look,dz]),Ψ⟩)
  ·have dm:gw k x=b8 (k:Int)++[32,114,101,116,117,114,110,10]:=by simp[gw,ks,h]
   rw[dm]at fU;have kw:=gf (some acc) (b8 (k:Int)++[32,114,101,116,117,114,110,10]) Ψ (by rw[dF];exact fU);have aK:acc++(b8 (k:Int)++[32,114,101,116,117,114,110,10])=P++ix c A (k+1):=by rw[lW c fO,ad,ft,<-dm];simp
   clear ft eO fU dm jF hH;simp[hj,gq,aN,aQ];(with_reducible repeat' first|refine aA ?_|refine aX fc ?_|refine aY fc ?_|refine aX bX ?_|refine aY bX ?_|refine aX bX ?_|refine aY bX ?_|simp[hk4,dW,dn,h,hL,h]);refine bI.bd (o:=_) (kw) (by simp only[bo,bj,aN,aQ];exact aH) (by simp only[bo,bj,aN,aQ];exact aH) (by simp[ah,Pv.look,bo,bj,aN,aQ,ai,ak]) Ψ ?_;simp[bu,bo,bj,aN,aQ];(with_reducible repeat' first|refine aA ?_|simp);refine bP.whl (k+1,acc++(b8 (k:Int)++[32,114,101,116,117,114,110,10])) (by show N-(k+1)<N-k;omega) ⟨by show A<=k+1;omega,by show k+1<=N;omega,aK⟩ (by simp[hj,gq,aN,aQ];exact⟨by simp[fresh,ai,ak,bc,ah,Pv.look,dz],cb (by simp[fresh,ai,ak,bc,ah,Pv.look,dz]),cc (by simp[fresh,ai,ak,b6,ah,Pv.look,dz]),Ψ⟩)
 |some l=>
  simp[wT,gq,x7,bo,bj,aN,aQ,aw,eF];(with_reducible repeat' first|refine aA ?_|refine aX cZ ?_|refine aY cZ ?_|simp[aw,eF,b9,cx,dp]);refine gI.bd (o:=some l) (Ft) (by simp only[bo,bj,aN,aQ];exact aH) (by simp only[bo,bj,aN,aQ];exact aH) (by simp[ah,Pv.look,bo,bj,aN,aQ,ai,ak]) (by simp[Pv.look]) ?_;simp[bu,bo,bj,aN,aQ];(with_reducible repeat' first|refine aA ?_|simp[bg]);refine gZ (hj c i) (fun x=>N-x.1) (fun x=>A<=x.1/\x.1<=N/\x.2=P++ix c A x.1) (A,P) (by simp[hj,gq,aN,aQ];exact⟨by simp[fresh,ai,ak,bc,ah,Pv.look,dz],cb (by simp[fresh,ai,ak,bc,ah,Pv.look,dz]),cc (by simp[fresh,ai,ak,b6,ah,Pv.look,dz]),Ψ⟩) ⟨da _,by show A<=N;omega,by simp[JN]⟩ ?_;rintro⟨k,acc⟩ ⟨fO,fG,ft⟩ _;simp only at fO fG ft;rcases k1 fG with rfl|hk4
  ·have gr:(some acc).getD []=nr c (i+1)/\(some acc=none↔i+1=0):=⟨by rw[eO];exact ft,Ψ⟩;clear ft eO;simp[hj,gq,aN,aQ];((with_reducible repeat' first|refine aA ?_|refine aX fc ?_|refine aY fc ?_|simp[b2]|((first|apply cu|apply cw|apply cv)<;>intro h<;>try simp at h))<;>(try exact cK));refine bP.rng (some acc) aw gr (by simp[wT,gq,x7,bo,aN,aQ];exact⟨by simp[fresh,ai,ak,bc,ah,Pv.look,dz],cb (by simp[fresh,ai,ak,bc,ah,Pv.look,dz]),cc (by simp[fresh,ai,ak,b6,ah,Pv.look,dz]),Ψ⟩)
  have dW:k<c.is.length:=Ω
  obtain⟨x,ad,dn⟩:=gd dW;have hL:aZ ((k:Int)+1):=by unfold aZ;omega
  have bX:=qh (k:Int) (by unfold aZ;omega);have jF:=Rr c A (m:=k+1) (n:=N) Ω Ω;rw[lW c fO,ad]at jF;simp only[dF]at jF;have h2:acc.length+(gw k x).length<=bA:=by rw[ft,dF];omega
  have fU:=h2;obtain⟨bQ,b3,eV,l7,qv,pF,oO,wY,sG,Va⟩:=hH k x Ω Ω ad;rcases(by omega:x.op=0\/x.op=1\/x.op=2\/x.op=3\/x.op=4\/x.op=5\/x.op=6)with h|h|h|h|h|h|h;all_goals simp[gw,ks,h]at h2
  ·have ao:x.g.shape=true:=by have:=(b3 h).2.2.1;unfold Gm.fits at this;rw[bB]at this;exact this.1
   have e0:=GB x.g.sz x.g (da _) ao (hw x (eR ad));have dm:gw k x=b8 (k:Int)++(32::114::101::113::117::105::114::101::32::(fl x.g++[10])):=by simp[gw,ks,h]
   rw[dm]at fU;have kw:=gf (some acc) (b8 (k:Int)++(32::114::101::113::117::105::114::101::32::(fl x.g++[10]))) Ψ (by rw[dF];exact fU);have aK:acc++(b8 (k:Int)++(32::114::101::113::117::105::114::101::32::(fl x.g++[10])))=P++ix c A (k+1):=by rw[lW c fO,ad,ft,<-dm];simp
   clear ft eO fU dm jF hH;simp[hj,gq,aN,aQ];(with_reducible repeat' first|refine aA ?_|refine aX fc ?_|refine aY fc ?_|refine aX bX ?_|refine aY bX ?_|refine aX e0 ?_|refine aY e0 ?_|simp[hk4,dW,dn,h,hL,h]);refine bI.bd (o:=_) (kw) (by simp only[bo,bj,aN,aQ];exact aH) (by simp only[bo,bj,aN,aQ];exact aH) (by simp[ah,Pv.look,bo,bj,aN,aQ,ai,ak]) Ψ ?_;simp[bu,bo,bj,aN,aQ];((with_reducible repeat' first|refine aA ?_|simp|((first|apply cu|apply cw|apply cv)<;>intro h<;>try simp at h))<;>(try exact cK));refine bP.whl (k+1,acc++(b8 (k:Int)++(32::114::101::113::117::105::114::101::32::(fl x.g++[10])))) (by show N-(k+1)<N-k;omega) ⟨by show A<=k+1;omega,by show k+1<=N;omega,aK⟩ (by simp[hj,gq,aN,aQ];exact⟨by simp[fresh,ai,ak,bc,ah,Pv.look,dz],cb (by simp[fresh,ai,ak,bc,ah,Pv.look,dz]),cc (by simp[fresh,ai,ak,b6,ah,Pv.look,dz]),Ψ⟩)
  ·have ek:=qh x.a (by have:=(l7 h).1;unfold aZ;omega);have eh:=qh x.b (by have:=(l7 h).2.1;unfold aZ;omega);have dm:gw k x=b8 (k:Int)++(32::116::114::121::32::(b8 x.a++32::(b8 x.b++[10]))):=by simp[gw,ks,h]
   rw[dm]at fU;have kw:=gf (some acc) (b8 (k:Int)++(32::116::114::121::32::(b8 x.a++32::(b8 x.b++[10])))) Ψ (by rw[dF];exact fU);have aK:acc++(b8 (k:Int)++(32::116::114::121::32::(b8 x.a++32::(b8 x.b++[10]))))=P++ix c A (k+1):=by rw[lW c fO,ad,ft,<-dm];simp
   clear ft eO fU dm jF hH;simp[hj,gq,aN,aQ];((with_reducible repeat' first|refine aA ?_|refine aX fc ?_|refine aY fc ?_|refine aX bX ?_|refine aY bX ?_|refine aX ek ?_|refine aY ek ?_|refine aX eh ?_|refine aY eh ?_|simp[hk4,dW,dn,h,hL,h]|((first|apply cu|apply cw|apply cv)<;>intro h<;>try simp at h))<;>(try exact cK));refine bI.bd (o:=_) (kw) (by simp only[bo,bj,aN,aQ];exact aH) (by simp only[bo,bj,aN,aQ];exact aH) (by simp[ah,Pv.look,bo,bj,aN,aQ,ai,ak]) Ψ ?_;simp[bu,bo,bj,aN,aQ];((with_reducible repeat' first|refine aA ?_|simp|((first|apply cu|apply cw|apply cv)<;>intro h<;>try simp at h))<;>(try exact cK));refine bP.whl (k+1,acc++(b8 (k:Int)++(32::116::114::121::32::(b8 x.a++32::(b8 x.b++[10]))))) (by show N-(k+1)<N-k;omega) ⟨by show A<=k+1;omega,by show k+1<=N;omega,aK⟩ (by simp[hj,gq,aN,aQ];exact⟨by simp[fresh,ai,ak,bc,ah,Pv.look,dz],cb (by simp[fresh,ai,ak,bc,ah,Pv.look,dz]),cc (by simp[fresh,ai,ak,b6,ah,Pv.look,dz]),Ψ⟩)
  ·have eh:=qh x.b (by have:=(qv h).2;unfold aZ;omega);have dm:gw k x=b8 (k:Int)++(32::112::105::99::107::32::(b8 x.b++[10])):=by simp[gw,ks,h]
   rw[dm]at fU;have kw:=gf (some acc) (b8 (k:Int)++(32::112::105::99::107::32::(b8 x.b++[10]))) Ψ (by rw[dF];exact fU);have aK:acc++(b8 (k:Int)++(32::112::105::99::107::32::(b8 x.b++[10])))=P++ix c A (k+1):=by rw[lW c fO,ad,ft,<-dm];simp
   clear ft eO fU dm jF hH;simp[hj,gq,aN,aQ];(with_reducible repeat' first|refine aA ?_|refine aX fc ?_|refine aY fc ?_|refine aX bX ?_|refine aY bX ?_|refine aX eh ?_|refine aY eh ?_|simp[hk4,dW,dn,h,hL,h]);refine bI.bd (o:=_) (kw) (by simp only[bo,bj,aN,aQ];exact aH) (by simp only[bo,bj,aN,aQ];exact aH) (by simp[ah,Pv.look,bo,bj,aN,aQ,ai,ak]) Ψ ?_;simp[bu,bo,bj,aN,aQ];((with_reducible repeat' first|refine aA ?_|simp|((first|apply cu|apply cw|apply cv)<;>intro h<;>try simp at h))<;>(try exact cK));refine bP.whl (k+1,acc++(b8 (k:Int)++(32::112::105::99::107::32::(b8 x.b++[10])))) (by show N-(k+1)<N-k;omega) ⟨by show A<=k+1;omega,by show k+1<=N;omega,aK⟩ (by simp[hj,gq,aN,aQ];exact⟨by simp[fresh,ai,ak,bc,ah,Pv.look,dz],cb (by simp[fresh,ai,ak,bc,ah,Pv.look,dz]),cc (by simp[fresh,ai,ak,b6,ah,Pv.look,dz]),Ψ⟩)
  ·have ek:=qh x.a (by have:=(pF h).1;unfold aZ;omega);have dm:gw k x=b8 (k:Int)++(32::106::117::109::112::32::(b8 x.a++[10])):=by simp[gw,ks,h]
   rw[dm]at fU;have kw:=gf (some acc) (b8 (k:Int)++(32::106::117::109::112::32::(b8 x.a++[10]))) Ψ (by rw[dF];exact fU);have aK:acc++(b8 (k:Int)++(32::106::117::109::112::32::(b8 x.a++[10])))=P++ix c A (k+1):=by rw[lW c fO,ad,ft,<-dm];simp
   clear ft eO fU dm jF hH;simp[hj,gq,aN,aQ];(with_reducible repeat' first|refine aA ?_|refine aX fc ?_|refine aY fc ?_|refine aX bX ?_|refine aY bX ?_|refine aX ek ?_|refine aY ek ?_|simp[hk4,dW,dn,h,hL,h]);refine bI.bd (o:=_) (kw) (by simp only[bo,bj,aN,aQ];exact aH) (by simp only[bo,bj,aN,aQ];exact aH) (by simp[ah,Pv.look,bo,bj,aN,aQ,ai,ak]) Ψ ?_;simp[bu,bo,bj,aN,aQ];((with_reducible repeat' first|refine aA ?_|simp|((first|apply cu|apply cw|apply cv)<;>intro h<;>try simp at h))<;>(try exact cK));refine bP.whl (k+1,acc++(b8 (k:Int)++(32::106::117::109::112::32::(b8 x.a++[10])))) (by show N-(k+1)<N-k;omega) ⟨by show A<=k+1;omega,by show k+1<=N;omega,aK⟩ (by simp[hj,gq,aN,aQ];exact⟨by simp[fresh,ai,ak,bc,ah,Pv.look,dz],cb (by simp[fresh,ai,ak,bc,ah,Pv.look,dz]),cc (by simp[fresh,ai,ak,b6,ah,Pv.look,dz]),Ψ⟩)
  ·have dm:gw k x=b8 (k:Int)++[32,102,97,105,108,10]:=by simp[gw,ks,h]
   rw[dm]at fU;have kw:=gf (some acc) (b8 (k:Int)++[32,102,97,105,108,10]) Ψ (by rw[dF];exact fU);have aK:acc++(b8 (k:Int)++[32,102,97,105,108,10])=P++ix c A (k+1):=by rw[lW c fO,ad,ft,<-dm];simp
   clear ft eO fU dm jF hH;simp[hj,gq,aN,aQ];(with_reducible repeat' first|refine aA ?_|refine aX fc ?_|refine aY fc ?_|refine aX bX ?_|refine aY bX ?_|refine aX bX ?_|refine aY bX ?_|simp[hk4,dW,dn,h,hL,h]);refine bI.bd (o:=_) (kw) (by simp only[bo,bj,aN,aQ];exact aH) (by simp only[bo,bj,aN,aQ];exact aH) (by simp[ah,Pv.look,bo,bj,aN,aQ,ai,ak]) Ψ ?_;simp[bu,bo,bj,aN,aQ];((with_reducible repeat' first|refine aA ?_|simp|((first|apply cu|apply cw|apply cv)<;>intro h<;>try simp at h))<;>(try exact cK));refine bP.whl (k+1,acc++(b8 (k:Int)++[32,102,97,105,108,10])) (by show N-(k+1)<N-k;omega) ⟨by show A<=k+1;omega,by show k+1<=N;omega,aK⟩ (by simp[hj,gq,aN,aQ];exact⟨by simp[fresh,ai,ak,bc,ah,Pv.look,dz],cb (by simp[fresh,ai,ak,bc,ah,Pv.look,dz]),cc (by simp[fresh,ai,ak,b6,ah,Pv.look,dz]),Ψ⟩)
  ·have ao:x.g.shape=true:=by have:=(eV h).2.2.1;unfold Gm.fits at this;rw[bB]at this;exact this.1
   have e0:=GB x.g.sz x.g (da _) ao (hw x (eR ad));have dm:gw k x=b8 (k:Int)++(32::99::97::108::108::32::(fl x.g++[10])):=by simp[gw,ks,h]
   rw[dm]at fU;have kw:=gf (some acc) (b8 (k:Int)++(32::99::97::108::108::32::(fl x.g++[10]))) Ψ (by rw[dF];exact fU);have aK:acc++(b8 (k:Int)++(32::99::97::108::108::32::(fl x.g++[10])))=P++ix c A (k+1):=by rw[lW c fO,ad,ft,<-dm];simp
   clear ft eO fU dm jF hH;simp[hj,gq,aN,aQ];(with_reducible repeat' first|refine aA ?_|refine aX fc ?_|refine aY fc ?_|refine aX bX ?_|refine aY bX ?_|refine aX e0 ?_|refine aY e0 ?_|simp[hk4,dW,dn,h,hL,h]);refine bI.bd (o:=_) (kw) (by simp only[bo,bj,aN,aQ];exact aH) (by simp only[bo,bj,aN,aQ];exact aH) (by simp[ah,Pv.look,bo,bj,aN,aQ,ai,ak]) Ψ ?_;simp[bu,bo,bj,aN,aQ];((with_reducible repeat' first|refine aA ?_|simp|((first|apply cu|apply cw|apply cv)<;>intro h<;>try simp at h))<;>(try exact cK));refine bP.whl (k+1,acc++(b8 (k:Int)++(32::99::97::108::108::32::(fl x.g++[10])))) (by show N-(k+1)<N-k;omega) ⟨by show A<=k+1;omega,by show k+1<=N;omega,aK⟩ (by simp[hj,gq,aN,aQ];exact⟨by simp[fresh,ai,ak,bc,ah,Pv.look,dz],cb (by simp[fresh,ai,ak,bc,ah,Pv.look,dz]),cc (by simp[fresh,ai,ak,b6,ah,Pv.look,dz]),Ψ⟩)
  ·have dm:gw k x=b8 (k:Int)++[32,114,101,116,117,114,110,10]:=by simp[gw,ks,h]
   rw[dm]at fU;have kw:=gf (some acc) (b8 (k:Int)++[32,114,101,116,117,114,110,10]) Ψ (by rw[dF];exact fU);have aK:acc++(b8 (k:Int)++[32,114,101,116,117,114,110,10])=P++ix c A (k+1):=by rw[lW c fO,ad,ft,<-dm];simp
   clear ft eO fU dm jF hH;simp[hj,gq,aN,aQ];(with_reducible repeat' first|refine aA ?_|refine aX fc ?_|refine aY fc ?_|refine aX bX ?_|refine aY bX ?_|refine aX bX ?_|refine aY bX ?_|simp[hk4,dW,dn,h,hL,h]);refine bI.bd (o:=_) (kw) (by simp only[bo,bj,aN,aQ];exact aH) (by simp only[bo,bj,aN,aQ];exact aH) (by simp[ah,Pv.look,bo,bj,aN,aQ,ai,ak]) Ψ ?_;simp[bu,bo,bj,aN,aQ];(with_reducible repeat' first|refine aA ?_|simp);refine bP.whl (k+1,acc++(b8 (k:Int)++[32,114,101,116,117,114,110,10])) (by show N-(k+1)<N-k;omega) ⟨by show A<=k+1;omega,by show k+1<=N;omega,aK⟩ (by simp[hj,gq,aN,aQ];exact⟨by simp[fresh,ai,ak,bc,ah,Pv.look,dz],cb (by simp[fresh,ai,ak,bc,ah,Pv.look,dz]),cc (by simp[fresh,ai,ak,b6,ah,Pv.look,dz]),Ψ⟩)
theorem Vz{c:Cd}(h:DI c){i:Nat}{x:Ix}(ad:c.is[i]? =some x):∃e N,N<=(c.is.length:Int)/\Fl c e N i x:=by
 obtain⟨⟨ib,bD,I⟩,⟨l,aE,_⟩,av⟩:=h;have ie:=(cX.1 ad).1;have hlen:=(cX.1 aE).1;have key:∀j e,c.es[j]? =some e->(i:Int)<c.fin j->∃e N,N<=(c.is.length:Int)/\Fl c e N i x:=by
  intro j;induction j with
  |zero=>intro e he aM;rw[bD]at he;cases he;obtain⟨⟨_,_,b,_⟩,_,r⟩:=av 0 ib bD;exact⟨ib,c.fin 0,b,r i x Ω aM ad⟩
  |succ j a8=>
   intro e he aM;obtain⟨⟨_,_,b,_⟩,_,r⟩:=av _ e he;by_cases bq:e.pos<=i
   ·exact⟨e,c.fin (j+1),b,r i x bq aM ad⟩
   ·have al:=(cX.1 he).1;obtain⟨f,EE⟩:∃f,c.es[j]? =some f:=⟨_,bO Ω⟩;exact a8 f EE (by rw[Cd.fin_of he];omega)
 exact key _ l aE (by rw[Cd.fin_last Ω];omega)
theorem TQ(p:Int)(L:Nat):∀n:Nat,((List.range n).map fun k=>if p=((k:Nat):Int)then L else 0).sum<=L/\((n:Int)<=p->((List.range n).map fun k=>if p=((k:Nat):Int)then L else 0).sum=0)
 |0=>by simp
 |n+1=>by
  obtain⟨I,J⟩:=TQ p L n;rw[List.range_succ,List.map_append,List.sum_append];simp only[eQ,List.map_nil,List.sum_cons,List.sum_nil,Nat.add_zero];refine⟨?_,fun h=>?_⟩
  ·by_cases bq:p=n
   ·rw[J Ω,bN bq];omega
   ·rw[bf bq];omega
  ·rw[J Ω,bf Ω]
theorem abj(e:Ey)(es:List Ey)(k:Nat):(kP (e::es) k).length=(if e.pos=((k:Nat):Int)then(j5 e).length else 0)+(kP es k).length:=by
 unfold kP;by_cases h:e.pos=k
 ·simp[h]
 ·simp[h]
theorem acH(l:List Nat)(f g:Nat->Nat):(l.map fun k=>f k+g k).sum=(l.map f).sum+(l.map g).sum:=by
 induction l with
 |nil=>rfl
 |cons x l a8=>simp only[eQ,List.sum_cons,a8];omega
theorem Qm(n:Nat):∀es:List Ey,((List.range n).map fun k=>(kP es k).length).sum<=(es.map fun e=>(j5 e).length).sum
 |[]=>by
  have:((List.range n).map fun k=>(kP [] k).length)=(List.range n).map fun _=>0:=List.map_congr_left fun k _=>by simp[kP]
  rw[this];have:∀l:List Nat,(l.map fun _=>0).sum=0:=fun l=>by induction l<;>simp_all
  rw[this];exact Nat.zero_le _
 |e::es=>by have I:=Qm n es;have J:=(TQ e.pos (j5 e).length n).1;have:((List.range n).map fun k=>(kP (e::es) k).length)=(List.range n).map fun k=>(if e.pos=((k:Nat):Int)then(j5 e).length else 0)+(kP es k).length:=List.map_congr_left fun k _=>abj e es k;rw[this,acH,eQ,List.sum_cons];omega
theorem acx{c:Cd}(h:DI c){k:Nat}{x:Ix}(ad:c.is[k]? =some x)(aK:c.is.length<=1048576):(gw k x).length<=72+30*x.g.w:=by
 obtain⟨e,N,ja,⟨bQ,yP⟩,b3,eV,l7,qv,pF,oO,wY⟩:=Vz h ad;have aa:=(cX.1 ad).1;have I:=uv (n:=(k:Int)) (by unfold aZ;omega);have ao:x.op=0\/x.op=5->(fl x.g).length+1<=30*x.g.w:=fun h=>by have J:=(eV.2 h).1;unfold Gm.fits at J;rw[bB]at J;exact HV x.g.sz x.g (da _) J.1
 have b4:x.op=1\/x.op=3->(b8 x.a).length<=20:=fun h=>uv (by have:=l7 h;unfold aZ;omega);have af:x.op=1\/x.op=2->(b8 x.b).length<=20:=fun h=>uv (by have:=pF h;unfold aZ;omega);have Ev:(ks x).length<=49+30*x.g.w:=by
  unfold ks;split
  ·rename_i h;have:=ao (.inl h);simp;omega
  split
  ·rename_i h;have:=b4 (.inl h);have:=af (.inl h);simp;omega
  split
  ·rename_i h;have:=af (.inr h);simp;omega
  split
  ·rename_i h;have:=b4 (.inr h);simp;omega
  split
  ·simp;omega
  split
  ·rename_i h;have:=ao (.inr h);simp;omega
  split
  ·simp;omega
  ·simp
 unfold gw;simp;omega
theorem OW{c:Cd}(h:DI c)(aK:c.is.length<=1048576):∀n:Nat,n<=c.is.length->(mf c n).length<=((List.range n).map fun k=>(kP c.es k).length).sum+72*n+30*((c.is.take n).map fun x=>x.g.w).sum
 |0,_=>by simp[mf]
 |n+1,aE=>by have a8:=OW h aK n Ω;obtain⟨x,ad⟩:∃x,c.is[n]? =some x:=⟨_,bO aE⟩;have J:=acx h ad aK;rw[mf,ad,List.range_succ,jw,ad];simp only[dF,List.map_append,List.sum_append,eQ,List.map_nil,List.sum_cons,List.sum_nil,Option.toList_some];omega
theorem Z8{es:List Ey}(h:∀e∈es,0<=e.ar/\e.ar<=4):(es.map fun e=>(j5 e).length).sum<=(es.map fun e=>e.name.length).sum+23*es.length:=by
 induction es with
 |nil=>simp
 |cons e es a8=>
  have I:=h e Ψ;have J:=a8 fun f aM=>h f (by simp[aM]);have av:=uv (n:=e.ar) (by unfold aZ;omega);have aV:(j5 e).length=e.name.length+(1+((b8 e.ar).length+2)):=by simp[j5];omega
  simp only[eQ,List.sum_cons,e3];omega
theorem agb(d:List Int)(a7:rp d)(aE:d.length<=10000000)(n:Nat)(aK:n<=1000000):cg aP 36 [.slice 1 .no (h1 d),.int .i64 n] (.int .i64 ((ku d n).byte*256+(ku d n).next.byte)):=by have bQ:=(ku d n).byte_le;have b3:=(ku d n).next.byte_le;refine bJ q6 X1 adQ fun aG=>?_;unfold M6;simp[-az,-au];refine bI.new (Ia d a7 aE n aK) ((fq.of ⟨by intro m;simp[-az,-au,Pv.look],by intro m;simp[-az,-au,Pv.look]⟩ (by simp[-az,-au,ai,ak,ah,Pv.look]) (by simp[-az,-au,ai,ak,ah,Pv.look]))) aH aH (by simp[-az,-au]) ?_;rintro r aC ⟨rfl,rfl⟩;refine⟨fun m _=>.inr (by simp[-az,-au]),?_⟩;unfold aL;simp[-az,-au,bu];(refine bI.ob (Ee _ (DO a7 aE n)) (cm _) (by unfold aL;exact aH) (by unfold aL;exact aH) (by simp[-az,-au,ah,aL,Pv.look]) ?_;rintro r aC ⟨rfl,rfl⟩;refine⟨cY _ _,?_⟩;unfold aL;simp[-az,-au,bu]);(with_reducible repeat' first|refine aA ?_|simp[-az,-au]);(refine bI.ob (Ee _ (DO a7 aE n).next) (cm _) (by unfold aL;exact aH) (by unfold aL;exact aH) (by simp[-az,-au,ah,aL,Pv.look]) ?_;rintro r aC ⟨rfl,rfl⟩;refine⟨cY _ _,?_⟩;unfold aL;simp[-az,-au,bu]);exact bZ
end
section
open Go Go.Pv
open Classical
mutual
theorem Km:∀g:Gm,nI g=true->g.on false=true
 | .mk k s t gs,h=>by simp only[nI,bB]at h;simp only[Gm.on,yd,Bool.false_and,Bool.not_false,Bool.and_true,bB];exact⟨by simpa using h.1,Sp gs h.2⟩
theorem Sp:∀l:List Gm,r6 l=true->Gm.onL false l=true
 |[],_=>rfl
 |x::l,h=>by simp only[r6,bB]at h;simp only[Gm.onL,bB];exact⟨Km x h.1,Sp l h.2⟩
end
theorem afQ(Q:List Ix)(k:Nat)(x:ag):cO ((Q.map Ix.e).set k x)=(Q.map Ix.e).set k (dr x):=by
 induction Q generalizing k with
 |nil=>rfl
 |cons y Q a8=>
  cases k with
  |zero=>simp[cO]
  |succ k=>simp only[eQ,List.set_cons_succ,cO,TP,a8]
@[simp]theorem ajE(S:aJ->Prop)(Q:List Ix)(k:Nat)(x:ag):ai S ((Q.map Ix.e).set k x)=(k<Q.length->ak S x):=xX S Q k x
theorem Vo{P:List Rl}{g:Gm}(h:il P=true)(aK:∀r∈P,nI r.body=true)(aO:rj P 3 g):w7 P g 3=true:=by unfold w7 zY;simp only[bB,ef,gC];exact⟨⟨⟨⟨⟨Ω,Ω⟩,h,fun r hr=>Km _ (aK r hr)⟩,aO.fit⟩,(Da g 3).2 aO.vb,aO.cf⟩,Km _ aO.nn⟩
theorem afW{t:ba}(h:t.fits=true):t.sz<=5000:=by
 obtain⟨x,rfl,J⟩:=ba.fits_ex h;have e:x.tm.sz=x.size:=by
  clear h J;induction x with
  |pair a b s7 s8=>simp[T.tm,ba.sz,ba.szL,T.size,s7,s8];omega
  |_=>rfl
 simp only[T.fit,bB,ef]at J;omega
theorem Uv{g:Gm}(h:g.shape=true)(aa:(2<=g.kind/\g.kind<=6)\/g.kind=9):g.w<=20001:=by
 have gu:g.gs=[]:=by
  rw[pg,bB]at h;have J:=h.2;rcases aa with aa|aa
  ·rw[bN Ω]at J;simp at J;exact J.1.1.2
  ·rw[bf Ω,bN aa]at J;simp at J;exact J.1.2
 have aE:=(u0 h).2;have abq:∀l:List ba,(∀t∈l,t.fits=true)->(l.map ba.sz).sum<=5000*l.length:=by
  intro l;induction l with
  |nil=>intro _;simp
  |cons t l a8=>intro J;have a:=afW (J t Ψ);have b:=a8 fun x ad=>J x (by simp[ad]);simp only[eQ,List.sum_cons,e3];omega
 have:=abq g.ts (se h);rw[Dc,gu];simp only[List.map_nil,List.sum_nil];omega
theorem Uu{c:Cd}(h:lE c):∀x∈c.is,x.g.w<=20001:=fun x ad=>by
 obtain⟨k,aa⟩:=l4 ad;obtain⟨i,e,he,b9,cx,dp,_⟩:=A0 h aa;have dQ:∀n,x.g.fits n=true->x.g.shape=true:=fun n aM=>by unfold Gm.fits at aM;rw[bB]at aM;exact aM.1
 by_cases bD:x.op=0
 ·obtain⟨_,_,a3,a4,a5,_⟩:=cx bD;exact Uv (dQ _ a3) (.inl ⟨a4,a5⟩)
 by_cases bE:x.op=5
 ·obtain⟨_,_,a3,a4,_⟩:=dp bE;exact Uv (dQ _ a3) (.inr a4)
 have:=b9 bD bE;simp only[x5,bB,List.isEmpty_iff]at this;rw[Dc,this.1.2,this.2];simp
theorem Yv{c:Cd}(h:lE c)(I:c.is.length<=3000)(J:c.es.length<=100):(oT c).length<=10000000000:=by
 have gy:=(VA c).1 h;have bV:=OW gy Ω c.is.length (da _);have a2:=Qm c.is.length c.es;have a3:=Z8 (es:=c.es) fun e he=>by obtain⟨i,aw⟩:=l4 he;exact(gy.2.2 i e aw).1.2.2.2.1
 have a4:∀l:List Ix,(∀x∈l,x.g.w<=20001)->(l.map fun x=>x.g.w).sum<=20001*l.length:=by
  intro l;induction l with
  |nil=>intro _;simp
  |cons x l a8=>intro av;have:=av x Ψ;have:=a8 fun y bC=>av y (by simp[bC]);simp only[eQ,List.sum_cons,e3];omega
 have a5:=a4 c.is (Uu h);have wV:∀l:List Ey,(∀x∈l,x.name.length<=12)->(l.map fun x=>x.name.length).sum<=12*l.length:=by
  intro l;induction l with
  |nil=>intro _;simp
  |cons x l a8=>intro av;have:=av x Ψ;have:=a8 fun y bC=>av y (by simp[bC]);simp only[eQ,List.sum_cons,e3];omega
 have AS:=wV c.es fun e he=>by
  obtain⟨i,aw⟩:=l4 he;obtain⟨b9,cx,_⟩:=h.2.1 i e aw;by_cases aE:i+1=c.es.length
  ·rw[(b9 aE).1];simp
  ·exact FH (KO (cx aE).1)
 rw[jl]at bV;rw[H2 h];omega
theorem U1{c:Cd}(h:lE c){k:Nat}{x:Ix}(ad:c.is[k]? =some x):0<=x.a/\x.a<=c.is.length:=by
 obtain⟨i,e,he,_,CD,CF,iA,hv,uL,CE,Ko,aem,aen⟩:=A0 h ad;have hK:c.fin i<=c.is.length:=by
  cases aK:c.es[i+1]? with
  |none=>rw[Cd.fin,aK];simp only;omega
  |some g=>rw[Cd.fin_of aK];have:=(h.2.1 _ g aK).2.2.2.2.1.2;omega
 rcases(by omega:x.op=0\/x.op=1\/x.op=2\/x.op=3\/x.op=4\/x.op=5\/x.op=6)with aj|aj|aj|aj|aj|aj|aj
 ·have b:=(CD aj).1;omega
 ·have b:=(iA aj).1;omega
 ·have b:=(hv aj).1;omega
 ·have b:=(uL aj).1;omega
 ·have b:=(CE aj).1;omega
 ·have b:=(CF aj).1;omega
 ·have b:=(Ko aj).1;omega
theorem T9(d:List Int)(a7:rp d):cg aP 6 [.slice 1 .no (h1 d)] (.bool true):=by
 by_cases xx:1048576<d.length
 ·have lI:(1048576:Int)<d.length:=Ω
  refine bJ nO OK Sc fun aG=>?_;unfold He;((with_reducible repeat' first|refine aA ?_|simp[lI]|((first|apply cu|apply cw|apply cv)<;>intro h<;>try simp at h))<;>(try exact cK));simp[b1,Kw,bn,bp,bk]
 have aE:d.length<=10000000:=Ω
 have ZS:¬(1048576:Int)<d.length:=Ω
 have c1:=YS d a7 aE 0 Ω;refine bJ nO OK Sc fun aG=>?_;unfold He;clear aG;simp;((with_reducible repeat' first|refine aA ?_|simp[ZS]|((first|apply cu|apply cw|apply cv)<;>intro h<;>try simp at h))<;>(try exact cK));refine bI.ob c1 gb (fun k cs h=>by simp[Pv.look]at h) (fun k cs h=>by simp[Pv.look]at h) (by simp[ai,ak]) ?_;rintro r aC ⟨rfl,P,rfl,ec,mo,xv⟩;refine⟨fJ.refl _,?_⟩;simp[bu];have pO:∀r∈P,0<=r.ar/\r.ar<=4:=fun r hr=>by simp only[il,bB,ef,gC]at ec;have:=ec.2 r hr;simp only[Rl.ok,bB,ef]at this;exact this.1.1.1.1.2
 have ZK:P.length<=8:=by simp only[il,bB,ef]at ec;exact ec.1.1
 have e0:=aga d a7 aE 60 Ω P xv pO;have aO:=Zy ec xv (ku d 60);generalize (xp P (ku d 60)).1=g at e0 aO;have e5:=af6 P g 3;rw[Vo ec mo aO]at e5;simp only[if_true]at e5;have oU:=Vy ec mo aO Ω Ω;obtain⟨L,nx⟩:=ach P g 3;have ug:(k6 P g 3).es.length=P.length+1:=(w9 _ _).trans (CJ P g 3);have aaA:(k6 P g 3).is.length<=3000:=by
  have:=Hw (fR P g 3) 0 fun x ad=>by
   obtain⟨i,aw⟩:=l4 ad;rcases Kq aw with⟨r,hr,rfl⟩|⟨_,rfl⟩
   ·have hm:=eR hr;simp only[il,bB,ef,gC]at ec;have:=ec.2 r hm;simp only[Rl.ok,Gm.fits,bB,ef]at this;have:=this.1.1.2.2;simp only;omega
   ·have:=aO.fit;unfold Gm.fits at this;rw[bB,ef]at this;exact this.2
  rw[CJ]at this;show(fL (fR P g 3) 0).length<=3000;omega
 generalize k6 P g 3=C at*;have oY:=Yv oU aaA Ω;have jI:=Lw C Ω Ω;rw[k2 oU]at jI;have cZ:=af7 C Ω Ω (fun x ad=>by have:=Uu oU x ad;omega) (fun _=>by unfold bA;omega);rw[bN oU]at cZ;have gU:=agc (oT C) oY;have ai0:(xZ (oT C)).length=C.is.length+C.es.length:=by have fb:=NK oU;obtain⟨s,ao⟩:=Yw C C.is.length fb (da _);rw[<-ac7 oU];exact acy (by rw[H2 oU];exact ao)
 have bX:=agb d a7 aE 90 Ω;have bQ:=(ku d 90).byte_le;have b3:=(ku d 90).next.byte_le;have vQ:0<=(ku d 90).byte*256+(ku d 90).next.byte:=Ω
 have aa0:(ku d 90).byte*256+(ku d 90).next.byte<=65535:=Ω
 generalize (ku d 90).byte*256+(ku d 90).next.byte=m at bX vQ aa0;have fb:=NK oU;obtain⟨k,aa⟩:∃k:Nat,m.tmod C.is.length=k:=⟨(m.tmod C.is.length).toNat,by have:=Int.tmod_nonneg (C.is.length:Int) vQ;omega⟩;have dW:k<C.is.length:=by have:=Int.tmod_lt_of_pos m (show(0:Int)<C.is.length by omega);omega
 obtain⟨x,ad⟩:∃x,C.is[k]? =some x:=⟨_,bO dW⟩;have dn:∀h,(C.is[k]'h)=x:=fun h=>by rw[bO h]at ad;exact dZ ad
 have b4:=U1 oU ad;have ZO:aZ (x.a+C.is.length):=by unfold aZ;omega
 have eh:=Lw (qw C k x) (by simp only[qw,List.length_set];omega) (by simp only[qw];omega);rw[ly (Vd oU ad)]at eh;have xF:((C.es.length:Int) !=P.length+1)=false:=by simp;omega
 have aiZ:∀h,(C.is[C.is.length-1]'h)=⟨6,0,0,dN⟩:=fun h=>by simp only[nx];simp
 have hle:C.e= .agg [.slice 7 .no (C.is.map Ix.e),.slice 4 .no (C.es.map Ey.e)]:=rfl;have Im:(qw C k x).e= .agg [.slice 7 .no ((C.is.map Ix.e).set k (.agg [.int .i64 x.op,.int .i64 (x.a+C.is.length),.int .i64 x.b,.int .i64 x.g.kind,.str x.g.name,.slice 4 .no (x.g.ts.map enc),.slice 4 .no (x.g.gs.map Gm.e)])),.slice 4 .no (C.es.map Ey.e)]:=by simp only[qw,Cd.e_eq,List.map_set];rfl
 have EO:(k:Int)<C.is.length:=Ω
 have vN:aZ ((C.is.length:Int)-1):=by unfold aZ;omega
 have IX:C.is.length<=bA:=by unfold bA;omega
 have ZJ:aZ ((P.length:Int)+1):=by unfold aZ;omega
 have cE:¬C.is=[]:=by intro e;rw[e]at fb;simp at fb
 have ZD:(1:Int)<=C.is.length:=Ω
 have zu:C.is[C.is.length-1]? =some ⟨6,0,0,dN⟩:=by rw[nx];simp
 have aaY:(⟨6,0,0,dN⟩:Ix).e= .agg [.int .i64 6,.int .i64 0,.int .i64 0,.int .i64 0,.str [],.slice 4 .no [],.slice 4 .no []]:=rfl;have abi:aZ ((C.is.length:Int)+C.es.length):=by unfold aZ;omega
 have oa:((xZ (oT C)).length:Int)=C.is.length+C.es.length:=Ω
 have abz:x.e= .agg [.int .i64 x.op,.int .i64 x.a,.int .i64 x.b,.int .i64 x.g.kind,.str x.g.name,.slice 4 .no (x.g.ts.map enc),.slice 4 .no (x.g.gs.map Gm.e)]:=rfl;have zn:Pv.isAgg 7 (.agg [.int .i64 6,.int .i64 0,.int .i64 0,.int .i64 0,.str [],.slice 4 .no [],.slice 4 .no []]):=⟨_,rfl,rfl⟩;rw[Im]at eh;clear bQ b3 pO oY mo ec aO xx oU;(with_reducible repeat' first|refine aA ?_|refine aX e0 ?_|refine aY e0 ?_|refine aX e5 ?_|refine aY e5 ?_|refine aX jI ?_|refine aY jI ?_|refine aX cZ ?_|refine aY cZ ?_|refine aX gU ?_|refine aY gU ?_|refine aX bX ?_|refine aY bX ?_|refine aX eh ?_|refine aY eh ?_|simp[xF,ZJ,aa,dW,EO,IX,cE,dn,ZO,vN,ZD,zu,aaY,abi,oa,abz,zn,afQ,-GU]);simp[b1,Kw,bn,bp,bk]
end
end Go.Proofs.YtlnndmgfngfeiaaGreatDoor
namespace Go.Proofs
section
open Go.Shelf
end
end Go.Proofs
namespace Go.Proofs.YtlnndmgfngfeiaaGreatDoor
section
open Go Go.Pv Go.ChangeShapes Go.WideShapes Go.ChangeAt Go.RowKit
theorem afh:ownKnob aP.godebug=none:=by kernel_rfl
theorem afg:laidOutB aP=true:=by kernel_rfl
theorem VB:aP.cellsOf 5=1:=by kernel_rfl
theorem Mv(w:World)(ν:aT):∀xs:List Int,cI w ν 1 (h1 xs) (xs.map (mE .u8))
 |[]=>by simp[h1,cI]
 |x::xs=>by simp only[h1,eQ,cI];exact⟨.int .u8 x,_,rfl,⟨by simp[aR],rfl,by intro c aD;simp[l1]at aD;subst aD;rfl⟩,Mv w ν xs⟩
def Ic(b o:Nat):Prop:= ∃x∈zh,x.1=b/\x.2.1=o
def sR(w:World):Prop:= ∀x∈zh,(∃v,w.cell? ⟨x.1,x.2.1,none⟩=some v/\x.2.2.2 v)/\∃el,Pv.shape w x.1=some (x.2.2.1,el)
theorem sR.lt{w:World}(h:sR w){b o:Nat}(aO:Ic b o):b<w.heap.size:=by
 obtain⟨x,ad,rfl,rfl⟩:=aO;obtain⟨⟨v,aS,_⟩,_⟩:=h x ad;rcases hS x.1 w.heap.size with h|h
 ·exact h
 ·simp[World.cell?,Array.getElem?_eq_none h]at aS
theorem sR.gl{w:World}(h:sR w){ν:aT}(bg:∀b o,Ic b o->ν.A b o):nQ w ν:=fun x ad=>⟨bg _ _ ⟨x,ad,rfl,rfl⟩,h x ad⟩
theorem agL{w:World}{n:String}{g:Nat}{cs:Array Value}(aO:aP.globalNamed n=some g)(h:w.var? aP n=some cs):∃el,Pv.shape w g=some (cs.size,el):=by
 simp only[World.var?,aO,Option.bind_some]at h;unfold Pv.shape;split at h
 ·rename_i c t fz e;cases h;rw[e];exact⟨_,rfl⟩
 ·cases h
theorem Zm{w:World}(aI:Lib.TabIs aP w "internal/strconv.uint64pow10" .u64 Lib.pow10Tab):sR w:=by
 have dN:aP.globalNamed "internal/strconv.uint64pow10" =some 0:=by kernel_rfl
 intro x ad;unfold zh at ad;rw[List.append_nil]at ad;obtain⟨i,aw,rfl⟩:=pv.1 ad;have aw:=List.mem_range.1 aw;refine⟨⟨_,aI.cell dN i (by simpa[Lib.pow10Tab]using aw),?_⟩,?_⟩
 ·show mE .u64 _=_;rw[Lib.pow10Tab_at i aw]
 ·obtain⟨el,h⟩:=agL dN aI;exact⟨el,by simpa[Lib.pow10Tab]using h⟩
def Bc(b off n:Nat):aT:=⟨fun fy o=>(fy=b/\off<=o/\o<off+n)\/Ic fy o,fun _=>none,fun _=>none,fun _ _ _=>dK⟩
theorem HO{w:World}(hm:sR w){b off n:Nat}(af:n=0\/b<w.heap.size):∀fy o,(Bc b off n).A fy o->fy<w.heap.size:=by
 rintro fy o (⟨rfl,I,J⟩|h)
 ·rcases af with rfl|af
  ·omega
  ·exact af
 ·exact hm.lt h
theorem HN{w:World}(hm:sR w)(b off n:Nat):nQ w (Bc b off n):=hm.gl fun _ _ h=>.inr h
theorem xY(w:World)(A:Nat->Nat->Prop)(b:Nat):∀(us:List Value) (off:Nat),(∀i u,us[i]? =some u->A b (off+i)/\w.cell? ⟨b,off+i,none⟩=some u)->kg w A b off us
 |[],_,_=>trivial
 |u::us,off,h=>⟨by simpa using h 0 u rfl,xY w A b us (off+1) fun i e7 hu=>by have:=h (i+1) e7 (by simpa using hu);rwa[show off+(i+1)=off+1+i from by omega]at this⟩
theorem Hp{f:FuncId}{fn:Func}(sU:aP.funcs[f]? =some fn)(Wt:∀args w,(callFunc f args).run aP w= .ok (.enter f args) w){w:World}{ν:aT}{args:List ag}{vs:Array Value}(gl:nQ w ν)(h:cg aP f args (.bool true))(aI:∀k j b,¬ν.tr k j b)(bg:∀b o,ν.A b o->b<w.heap.size)(af:∀k,ν.bx k=none)(aj:∀k,ν.ow k=none)(hr:cD w ν args vs.toList):
  Calls aP f vs w fun e w'=>e= .returned (.bool true)/\Below w.heap.size w w':=by
 have aO:Pv.Good (gE ν ⟨[],[]⟩) w ν [] []:=⟨bg,fun k cs aa=>by simp[Pv.look]at aa,fun k bz bl I=>by simp[Pv.look]at I,fun g o aa=>by simp[Pv.look]at aa,fun g eK n n' v v' bl I=>by simp[Pv.look]at I,fun g k n v bl I=>by simp[Pv.look]at I,fun k=>.inl (af k),fun _ _ k j=>aI k j _⟩;rcases h w ν vs gl aO (fun k=>⟨fun _=>af k,fun _=>aj k,aI k⟩) hr with⟨_,aD⟩|⟨v,w',aD,_⟩
 ·refine aD.mono ?_;rintro e w' ⟨v,r,aC,ν',rfl,⟨rfl,rfl⟩,lk,_,_,_,mQ⟩;simp only[aR]at lk;subst lk;refine⟨rfl,mQ.os,mQ.tape,mQ.output,mQ.size,fun k aa=>mQ.block k aa ?_⟩;simp[gE,Pv.look]
 ·rw[Wt]at aD;cases aD
theorem agR{n:Int}(h:(Lit.int .u8 n).wf=true):0<=n/\n<256:=by simp[Lit.wf,IntKind.min,IntKind.max,IntKind.signed,IntKind.bits]at h;omega
end
end Go.Proofs.YtlnndmgfngfeiaaGreatDoor
