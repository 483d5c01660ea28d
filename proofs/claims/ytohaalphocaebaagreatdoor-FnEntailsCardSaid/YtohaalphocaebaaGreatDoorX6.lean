/- From a contract of a law of bytes to its row. -/
import Derived.Test.YtohaalphocaebaaGreatDoorProg
import Derived.ProofKit
import Derived.Carry
import Derived.WalkKit
import Derived.Test.YtohaalphocaebaaGreatDoorX5
set_option linter.all false
set_option maxHeartbeats 4000000
set_option maxRecDepth 4000
open Bool renaming and_eq_true->cr,eq_iff_iff->qz,not_eq_true'->oG,or_eq_true->lP
open Go renaming Program->cK
open Go.IntKind renaming bits->oH,signed->sc
open Go.Proofs.Tryz renaming prog->aw
open Go.Result renaming andThen_ok->fZ
open Go.Sem renaming run_bind->fU,run_pure->gC
open Go.Value renaming cells->pX
open List renaming all_eq_true->fV,cons_append->bP,drop_eq_getElem_cons->lu,getElem?_eq_getElem->cg,getElem?_eq_some_iff->fD,length_append->pc,length_cons->mG,map_cons->gZ,map_nil->nn,mem_append->hQ,mem_cons->fm,mem_map->hR,mem_of_getElem?->eF,mem_singleton->iS,nil_append->bU,pairwise_cons->np,take_length->lQ,take_of_length_le->hl
open List.cons renaming injEq->yk
open Nat renaming le_refl->dZ,le_trans->ha,mul_le_mul_right->rh
open Option renaming getD_none->lv,getD_some->iB,isSome_iff_exists->fo,isSome_none->k1,isSome_some->oJ,map_eq_some_iff->gv
open Option.some renaming inj->eZ
open _root_ renaming DecidableEq->nl,False->ey,beq_iff_eq->dM,congrArg->eW,decide_eq_false->h0,decide_eq_false_iff_not->gD,decide_eq_true->hb,decide_eq_true_eq->eN
namespace Go.Proofs.YtohaalphocaebaaGreatDoor
section
open Go Go.Pv
theorem PI{t:T}{m:Nat}(h:eD t<=m):t.size<=2*m-1:=by have:=EA t;have:=NL t;omega
theorem ac1{n:Nat}{s:br}(h:gX s)(au:s.n=n){d:List ai}(aG:d∈s.d){c:ai}(ao:c∈d):c.v∈qm n/\∀u,c.t.occ u=true->u∈qm n:=by obtain⟨bA,a2⟩:=Bx (h.d d aG).ok (h.db d aG) c ao;exact⟨BO.2 (by rw[<-au];exact bA),fun u hu=>BO.2 (by rw[<-au];exact a2 u hu)⟩
def Sm:C:=(aa [cW 2 0,cW 3 1,bq 4 false] (.seq (aa [aK 7 0 1 2,ax 8 1 7,aK 9 0 1 3,ax 10 1 9,bt 11 .neq 8 10,I 12 11,ar 12 false (aK 13 1 1 2),ar 12 false (ax 14 1 13),ar 12 false (aK 15 1 1 3),ar 12 false (ax 16 1 15),ar 12 false (bt 17 .neq 14 16),c3 18 12 17,I 19 18,ar 19 false (aK 20 2 1 2),ar 19 false (ax 21 1 20),ar 19 false (aK 22 2 1 3),ar 19 false (ax 23 1 22),ar 19 false (bt 24 .neq 21 23),c3 25 19 24,I 26 25,ar 26 false (aK 27 3 1 2),ar 26 false (ax 28 1 27),ar 26 false (cD 29 28),ar 26 false (aK 30 3 1 3),ar 26 false (ax 31 1 30),ar 26 false (cD 32 31),ar 26 false (bt 33 .neq 29 32),c3 34 26 33] (aZ 34 (aa [bq 4 false] .ret) .skip)) (.seq (aa [aK 35 3 1 2,ax 36 1 35,cD 37 36,cf 38 0] (ff 39 38 37 (.seq (.block 1 (aa [I 40 38,cC 41 4 36 38,aX 42 4 41,cR 6 da,I 5 40,bD 4 6 42] (.seq (.drawn true 52 [aX 43 4 6,aK 44 3 1 3,ax 45 1 44,I 46 5,cC 47 4 45 46,aX 48 4 47,cc 49 12 43 48,cx 50 49]) (aZ 50 (aa [bq 4 false] .ret) .skip)))) (.region [aT 51 .add 38 1,I 38 51])))) (aa [bq 4 true] .ret))))
@[simp] def E6:List bV:=[.tmp 4]
def aax:List (Nat×dy):=[
 (3,⟨1,8,.int .i64,.int .i64 0⟩),
 (9,⟨1,16,.str,.str []⟩),
 (34,⟨1,24,.slice 36,.slice 4 .nil []⟩),
 (36,⟨4,56,.struct [(0,3),(1,3),(2,9),(3,34)],.agg [.int .i64 0,.int .i64 0,.str [],.slice 4 .nil []]⟩)]
theorem apx:fJ aw aax=true:=by kernel_rfl
theorem alX:b6 aax Sm E6 2 Tryz.f12=true:=by kernel_rfl
theorem ae6:aw.funcs[(12:Nat)]? =some Tryz.f12:=Tryz.func12
def SQ:C:=(aa [cW 2 0,cR 4 da] (aa [I 5 1,aX 6 4 2,cc 7 38 5 6,cH 8 37 7,bD 4 4 8] .ret))
@[simp] def Zo:List bV:=[.cell 4 true 4]
def aay:List (Nat×dy):=[
 (36,⟨4,56,.struct [(0,3),(1,3),(2,9),(3,34)],.agg [.int .i64 0,.int .i64 0,.str [],.slice 4 .nil []]⟩)]
theorem apy:fJ aw aay=true:=by kernel_rfl
theorem amq:b6 aay SQ Zo 2 Tryz.f13=true:=by kernel_rfl
theorem afz:aw.funcs[(13:Nat)]? =some Tryz.f13:=Tryz.func13
def ajH(t u:T)(k:Nat)(st:bn):Prop:=∃i:Nat,i<=t.args.length/\k=t.args.length-i/\t.args.take i=u.args.take i/\st=⟨[(3,.ptr (.loc 1) 0),(36,.slice 4 .no (t.args.map T.e)),(37,.int .i64 t.args.length),(38,.int .i64 i)],[(.loc 1,[.int .i64 u.kind,.int .i64 u.int,.str u.name,.slice 4 .no (u.args.map T.e)])],[],2,[]⟩
theorem abn(t:T)(bN:∀x∈t.args,∀u:T,bK aw 12 [x.e,u.e] (.bool (decide (x=u))))(u:T):bK aw 12 [t.e,u.e] (.bool (decide (t=u))):=by
 have hle:t.args.length<=2:=by cases t<;>simp
 refine bo apx ae6 alX fun aQ=>?_;unfold Sm;simp;(with_reducible repeat' first|((first|apply bJ|apply bM|apply bL)<;>intro h<;>try simp at h)|refine ak ?_|simp)
 ·simp[bp,E6,aV,aY,aU];intro e;subst e;simp_all
 ·refine n1 (ajH t u) t.args.length _ b7 ⟨0,Ω,Ω,Ψ,rfl⟩ ?_;rintro k st ⟨i,hi,ae,rK,rfl⟩ jF cI;clear jF cI;by_cases bs:i<t.args.length
  ·have VT:i<u.args.length:=Ω
   simp[bs,VT];(with_reducible repeat' first|((first|apply bJ|apply bM|apply bL)<;>intro h<;>try simp at h)|refine ak ?_|refine aA (bN _ (List.getElem_mem bs) _) ?_|refine aB (bN _ (List.getElem_mem bs) _) ?_|simp)
   ·simp[bp,E6,aV,aY,aU];intro e;subst e;simp_all
   ·refine bR.next (t.args.length-(i+1)) Ω ⟨i+1,Ω,rfl,?_,rfl⟩ b7;rw[List.take_succ,List.take_succ,rK,cg bs,cg VT,h]
  ·simp[bs];(with_reducible repeat' first|refine ak ?_|simp);simp[bp,E6,aV,aY,aU];have:t.args=u.args:=by rw[hl Ω,hl Ω]at rK;exact rK
   simp_all;exact QU (by assumption) (by assumption) (by assumption) (by assumption)
 all_goals simp[bp,E6,aV,aY,aU]
 all_goals(intro e;subst e;simp_all)
theorem Qr(t:T):∀u:T,bK aw 12 [t.e,u.e] (.bool (decide (t=u))):=by
 induction t with
 |pair a b dz dA=>
  refine abn _ fun x ab=>?_;simp at ab;rcases ab with rfl|rfl
  ·exact dz
  ·exact dA
 |_=>exact abn _ fun x ab=>by simp at ab
theorem apY(l:List ai)(av:l.length<=1000000)(t:T):bK aw 13 [t.e,.slice 5 .no (l.map ai.e)] (t.sub (cO l)).e:=by refine bo apy afz amq fun aQ=>?_;unfold SQ;simp;(with_reducible repeat' first|refine ak ?_|refine aA (Qh l av t) ?_|refine aB (Qh l av t) ?_|refine aA (FG _) ?_|refine aB (FG _) ?_|simp);simp[bp,Zo,aV,aY,aU]
def Pp(r:List ai):aj:= .slice 5 .no (r.map ai.e)
@[simp]theorem auG(r:List ai):e4 (Pp r)=true:=rfl
@[simp]theorem auF(r:List ai):cells (Pp r)=[Pp r]:=rfl
open Classical in
theorem abm(l:List dO):bK aw 32 [.slice 5 .no (l.map dO.e)] (.bool (decide (wL l))):=by have k:=abd l;refine bo gg afD amu fun aQ=>?_;unfold SX;exact cz
open Classical in
theorem aqJ{v:List ai}(az:kW v)(oj:ga v)(bg:gO v):bK aw 32 [.slice 5 .no (v.map ai.e)] (.bool true):=by have hd:=abm (v.map ai.b);rw[hb (Ae.2 ⟨v,rfl,az,bg,oj⟩),uK]at hd;exact hd
open Classical in
theorem abl{v:List ai}(az:kW v)(oj:ga v)(bg:gO v){t:T}(aI:t.fit=true):bK aw 131 [t.e,.slice 5 .no (v.map ai.e)] (.tuple [(if(t.ap (aR v)).size<=5000 then t.ap (aR v)else .nil).e,.bool (decide ((t.ap (aR v)).size<=5000))]):=by
 have dt:=FJ t.tm;rw[kn,bX.fits_T,aI]at dt;have hd:=aqJ az oj bg;have aS:=Ad v (by have:=oj.1;omega) t;have bf:=FG (t.ap (aR v));generalize t.ap (aR v)=y at aS bf⊢;by_cases g:y.size<=5000
 ·rw[if_pos g];rw[hb g]at aS⊢;clear g oj az bg;refine bo gg Ut Yo fun aQ=>?_;unfold K5;exact cz
 ·rw[if_neg g];rw[h0 g]at aS⊢;clear g oj az bg;refine bo gg Ut Yo fun aQ=>?_;unfold K5;exact cz
theorem agj{n:Int}(h:0<=n/\n<=100000):(T.var n).fit=true:=by simp[T.fit,T.ok,T.size,h]
open Classical in
theorem aqC{v:List ai}(az:kW v)(oj:ga v)(bg:gO v){d:List ai}(aG:ev d):bK aw 81 [.slice 5 .no (d.map ai.e),.slice 5 .no (v.map ai.e)] (.bool (pq v d)):=by
 have kS:=Qq aG;have xc:=aG.len;generalize bH:pq v d=R;refine bo gg aft amk fun aQ=>?_;unfold SK;clear aQ;simp;(with_reducible repeat' first|refine ak ?_|refine aA kS ?_|refine aB kS ?_|simp);refine eJ [1,14,15] (fun i (_:Unit)=>[(16,.int .i64 i)]) d.length (mW (fun b=> !um v b) d) () b7 (fun k b ae=>Ω) (fun _ ag _=>?_) (fun i _ hi ag _=>?_)
 ·have:R=false:=by rw[<-bH,pq,List.any_eq_false];intro b ad;have:=ag.fin b ad;simpa using this
  subst this;clear ag bH kS;exact cz
 ·obtain⟨b,ad,cJ⟩:=eI hi;have mN:=eF ad;have aS:=abl az oj bg (agj (aG.ok b mN).1);have bf:=abl az oj bg (aG.fit b mN);have aq:((T.var b.v).ap (aR v)).size<=5000:=PG oj b.v;rw[if_pos aq,hb aq,show(T.var b.v).ap (aR v)=aR v b.v from rfl]at aS;have b4:=JU (aR v b.v) (b.t.ap (aR v));have cE:um v b=(decide ((b.t.ap (aR v)).size<=5000)&& !decide (aR v b.v=b.t.ap (aR v))):=rfl;have oo:um v b=true->R=true:=fun h=>by rw[<-bH,pq,List.any_eq_true];exact⟨b,mN,h⟩
  have cU:=fun h:um v b=false=>ag.step ad (by rw[h];rfl);have hq:=kM b.v;clear ag bH kS ad aq mN aG az oj bg;generalize um v b=H at cE oo cU;by_cases bd:(b.t.ap (aR v)).size<=5000
  ·rw[if_pos bd,hb bd]at bf;rw[hb bd,Bool.true_and]at cE;generalize b.t.ap (aR v)=y at bf b4 cE;generalize aR v b.v=x at aS b4 cE;generalize decide (x=y)=q at b4 cE;cases q
   ·have:=oo cE;subst this;exact cz
   ·have au:=cU cE;exact hN
  ·rw[if_neg bd,h0 bd]at bf;rw[h0 bd,Bool.false_and]at cE;have au:=cU cE;clear b4 cE;generalize aR v b.v=x at aS;exact hN
theorem ahj(t:T):t.gnd=true↔iA t []=[]:=by
 have J:∀t:T,t.gnd=true↔∀w,t.occ w=false:=by
  intro t;induction t with
  |var n=>simp[T.gnd,T.occ]
  |pair a b dz dA=>simp only[T.gnd,T.occ,cr,Bool.or_eq_false_iff,dz,dA];exact⟨fun h w=>⟨h.1 w,h.2 w⟩,fun h=>⟨fun w=>(h w).1,fun w=>(h w).2⟩⟩
  |_=>simp[T.gnd,T.occ]
 rw[J,List.eq_nil_iff_forall_not_mem];simp[EF]
theorem aqD{t:T}(aI:t.fit=true):bK aw 33 [t.e] (.bool t.gnd):=by
 have dt:=FJ t.tm;rw[kn,bX.fits_T,aI]at dt;have dS:t.size<=5000:=by simp only[T.fit,cr,eN]at aI;exact aI.2
 have kv:=CL t [];have hd:=FH t [] d7 (by simp[tI]);have A2:eC []=[]:=rfl;rw[A2]at hd;have aW:=ahj t;generalize iA t []=a7 at hd kv aW;cases a7 with
 |nil=>rw[aW.2 rfl];rw[A2]at hd;refine bo gg Uu Yp fun aQ=>?_;unfold K6;exact cz
 |cons w a7=>
  rw[show t.gnd=false from by rw[<-Bool.not_eq_true,aW];simp];have av:¬((a7.length:Int)+1=0):=Ω
  have ml:a7.length<=5000:=by simp at kv;omega
  clear aW kv dS aI;refine bo gg Uu Yp fun aQ=>?_;unfold K6;simp;(with_reducible repeat' first|refine ak ?_|refine aA dt ?_|refine aB dt ?_|refine aA hd ?_|refine aB hd ?_|simp[e9,av]);all_goals simp[bp,Zm,aV,aY,aU]
  all_goals omega
theorem aqB{t:T}(aI:t.fit=true)(s:List UInt8):bK aw 82 [t.e,.str s] (.bool (t.has s)):=by have dt:=FJ t.tm;rw[kn,bX.fits_T,aI]at dt;have k:=JW s t;refine bo gg afs amj fun aQ=>?_;unfold SJ;exact cz
open Classical in
theorem aqu{s:br}(af:gX s){v:List ai}(az:k0 s.n v):bK aw 34 [s.e,.slice 5 .no (v.map ai.e)] (.bool (decide (nc s v))):=by
 generalize bH:decide (nc s v)=R;have kv:v.length<=1000000:=by have:=az.fits.1;omega
 have qP:=kW.fit az.ok az.fits;obtain⟨n,Cp,zU,Cu,sm⟩:=s;have cU:¬nc ⟨n,Cp,zU,Cu,sm⟩ v->R=false:=fun h=>by rw[<-bH,gD];exact h
 have oo:nc ⟨n,Cp,zU,Cu,sm⟩ v->R=true:=fun h=>by rw[<-bH,eN];exact h
 clear bH;have lH:=af.b;have fB:=lH.len;have cI:=af.bb;have jG:=af.d;have xj:=af.k;have uh:=af.kb;have qR:=af.mb;have y6:=af.m;have ij:=q0 xj;simp only at lH fB cI jG xj uh qR y6 ij az;clear af;simp only[br.e];refine bo gg agb am2 fun aQ=>?_;unfold Tv;have xc:zU.length<=68719476736:=by simp[gQ,gi,gH,lim]at aQ;omega
 have mm:sm.length<=68719476736:=by simp[gQ,gi,gH,lim]at aQ;omega
 clear aQ;simp;(with_reducible repeat' first|refine ak ?_|simp);refine eJ [1,2,22,23] (fun i (_:Unit)=>[(24,.int .i64 i)]) Cp.length (mW (rU v) Cp) () b7 (fun k b ae=>Ω) (fun _ ag _=>?_) (fun i _ hi ag _=>?_);rotate_left
 ·obtain⟨b,ad,cJ⟩:=eI hi;have mN:=eF ad;obtain⟨c,ao,aW,oW⟩:=az.get (lH.ok b (eF ad)).1.1 (cI b (eF ad)).1;have aS:=sa v b.v kv;rw[aW]at aS;simp only[iB,oJ]at aS;have bf:=Ad v kv b.t;have b4:=JU c.t (b.t.ap (aR v));have cE:rU v b=(decide ((b.t.ap (aR v)).size<=5000)&&decide (c.t=b.t.ap (aR v))):=by rw[rU,oW];congr 1;exact decide_eq_decide.2 eq_comm
  have fW:rU v b=false->R=false:=fun h=>cU fun b9=>by have:=fV.1 b9.b b mN;rw[h]at this;cases this
  have eA:=fun h:rU v b=true=>ag.step ad h;clear ag ad mN cU oo az qP aW ao oW;generalize rU v b=H at cE fW eA;by_cases bd:(b.t.ap (aR v)).size<=5000
  ·rw[hb bd]at bf;rw[hb bd,Bool.true_and]at cE;generalize b.t.ap (aR v)=y at bf b4 cE;generalize decide (c.t=y)=q at b4 cE;cases q
   ·rw[fW cE];exact cz
   ·have au:=eA cE;exact hN
  ·rw[h0 bd]at bf;rw[h0 bd,Bool.false_and]at cE;rw[fW cE];generalize b.t.ap (aR v)=y at bf;clear b4;exact cz
 have jE:Cp.all (rU v)=true:=fV.2 ag.fin;clear ag;simp;(with_reducible repeat' first|refine ak ?_|simp);refine eJ [1,2,52,53] (fun i (_:Unit)=>[(54,.int .i64 i)]) zU.length (mW (pq v) zU) () b7 (fun k b ae=>Ω) (fun _ ag _=>?_) (fun i _ hi ag _=>?_);rotate_left
 ·obtain⟨b,ad,cJ⟩:=eI hi;have mN:=eF ad;have aS:bK aw 81 [cF b,.slice 5 .no (v.map ai.e)] (.bool (pq v b)):=aqC az.ok az.fits az.asc (jG b mN);have fW:pq v b=false->R=false:=fun h=>cU fun b9=>by have:=fV.1 b9.d b mN;rw[h]at this;cases this
  have eA:=fun h:pq v b=true=>ag.step ad h;clear ag ad mN cU oo az qP;generalize pq v b=q at aS fW eA;cases q
  ·rw[fW rfl];exact cz
  ·have au:=eA rfl;exact hN
 have sC:zU.all (pq v)=true:=fV.2 ag.fin;clear ag;simp;(with_reducible repeat' first|refine ak ?_|simp);refine eJ [1,2,64,65] (fun i (_:Unit)=>[(66,.int .i64 i)]) Cu.length (mW (fun k=>decide ((aR v k.v).kind=k.k)) Cu) () b7 (fun k b ae=>Ω) (fun _ ag _=>?_) (fun i _ hi ag _=>?_);rotate_left
 ·obtain⟨b,ad,cJ⟩:=eI hi;have mN:=eF ad;obtain⟨c,ao,aW,oW⟩:=az.get (xj.at' b (eF ad)).1.1 (uh b (eF ad));have aS:=sa v b.v kv;rw[aW]at aS;simp only[iB,oJ]at aS;by_cases g:c.t.kind=b.k
  ·have au:=ag.step ad (by rw[oW];exact hb g);clear ag ad mN cU oo az qP aW ao oW;exact hN
  ·rw[cU fun b9=>by have:=fV.1 b9.k b mN;rw[oW]at this;exact g (of_decide_eq_true this)]
   clear ag ad mN cU oo az qP aW ao oW;simp[hi,cJ];((with_reducible repeat' first|refine ak ?_|refine aA aS ?_|refine aB aS ?_|simp[cJ,hi,g]|((first|apply bJ|apply bM|apply bL)<;>intro h<;>try simp at h))<;>(try exact ck));all_goals simp[bp,ZD,aV,aY,aU]
 have c7:Cu.all (fun k=>decide ((aR v k.v).kind=k.k))=true:=fV.2 ag.fin;clear ag;simp;(with_reducible repeat' first|refine ak ?_|simp);refine eJ [1,84,85] (fun i (_:Unit)=>[(86,.int .i64 i)]) sm.length (mW (fun m=> !(aR v m.v).has m.s) sm) () b7 (fun k b ae=>Ω) (fun _ ag _=>?_) (fun i _ hi ag _=>?_);rotate_left
 ·obtain⟨b,ad,cJ⟩:=eI hi;have mN:=eF ad;obtain⟨c,ao,aW,oW⟩:=az.get (y6.at' b (eF ad)).1.1 (qR b (eF ad));have aS:=sa v b.v kv;rw[aW]at aS;simp only[iB,oJ]at aS;have bf:=aqB (qP c (eF ao)) b.s;cases g:c.t.has b.s
  ·rw[g]at bf;have au:=ag.step ad (by rw[oW,g];rfl);clear ag ad mN cU oo az qP aW ao oW;exact hN
  ·rw[g]at bf;rw[cU fun b9=>by have:=fV.1 b9.m b mN;rw[oW,g]at this;cases this]
   clear ag ad mN cU oo az qP aW ao oW;exact cz
 rw[oo ⟨jE,sC,c7,fV.2 ag.fin⟩];clear ag;exact cz
def PL(r:jU)(l:List dO):Prop:= ∃s:br,r=s.r/\j3 s/\Eg s l
theorem aad{s:br}(h:j3 s)(l:List dO):PL s.r l↔Eg s l:=by
 constructor
 ·rintro⟨ah,e,_,U⟩;rw[br.r_inj e];exact U
 ·intro U;exact⟨s,rfl,h,U⟩
open Classical in
theorem aqE(r:jU)(fu:iN r.m->kZ r.m)(l:List dO):bK aw 9 [r.e,.slice 5 .no (l.map dO.e)] (.bool (decide (PL r l))):=by
 have kS:=aqI r fu;by_cases g:ng r;rotate_left
 ·rw[h0 g]at kS;rw[h0 fun⟨s,J,U,_⟩=>g ⟨s,J,U⟩];obtain⟨n,b,d,k,m⟩:=r;simp only[jU.e]at kS⊢;refine bo gg GS IA fun aQ=>?_;unfold C7;exact cz
 rw[hb g]at kS;obtain⟨s,rfl,af⟩:=g;have e:decide (PL s.r l)=decide (Eg s l):=decide_eq_decide.2 (aad af l);rw[e];rw[uZ]at kS⊢;have hd:=abm l;generalize bH:decide (Eg s l)=R;by_cases g1:wL l;rotate_left
 ·rw[h0 g1]at hd;have:R=false:=by rw[<-bH,gD];rintro⟨v,rfl,h,_⟩;exact g1 (Ae.2 ⟨v,rfl,h.ok,h.asc,h.fits⟩)
  subst this;clear bH g1 af;obtain⟨n,b,d,k,m⟩:=s;simp only[br.e]at kS hd⊢;refine bo gg GS IA fun aQ=>?_;unfold C7;exact cz
 rw[hb g1]at hd;obtain⟨v,rfl,HL,M3,oj⟩:=Ae.1 g1;clear g1;rw[uK]at hd⊢;by_cases g2:(v.length:Int)=s.n;rotate_left
 ·have:R=false:=by rw[<-bH,gD];rintro⟨w,e,h,_⟩;rw[rr e]at g2;exact g2 h.len
  subst this;have G4:s.n≠(v.length:Int):=fun h=>g2 h.symm;clear bH af HL M3 oj;obtain⟨n,b,d,k,m⟩:=s;simp only[br.e]at kS hd g2 G4⊢;refine bo gg GS IA fun aQ=>?_;unfold C7;simp;((with_reducible repeat' first|refine ak ?_|refine aA kS ?_|refine aB kS ?_|refine aA hd ?_|refine aB hd ?_|simp[g2,G4]|((first|apply bJ|apply bM|apply bL)<;>intro h<;>try simp at h))<;>(try exact ck));all_goals simp[bp,OV,aV,aY,aU]
 have cU:¬(k0 s.n v/\nc s v)->R=false:=fun h=>by rw[<-bH,gD];rintro⟨w,e,J,U⟩;rw[rr e]at h;exact h ⟨J,U⟩
 have oo:k0 s.n v->decide (nc s v)=R:=fun J=>by rw[<-bH];exact decide_eq_decide.2 ⟨fun U=>⟨v,rfl,J,U⟩,fun⟨w,e,_,U⟩=>by rw[rr e];exact U⟩
 clear bH;have kv:v.length<=1000000:=by have:=oj.1;omega
 have qP:=kW.fit HL oj;have En:=fun az:k0 s.n v=>aqu af.1 az;obtain⟨n,Cp,zU,Cu,sm⟩:=s;simp only[br.e]at g2 cU oo En kS⊢;subst g2;clear af;refine bo gg GS IA fun aQ=>?_;unfold C7;clear aQ;simp;(with_reducible repeat' first|refine ak ?_|refine aA kS ?_|refine aB kS ?_|refine aA hd ?_|refine aB hd ?_|simp);refine eJ [1,2,22,23] (fun i (_:Unit)=>[(24,.int .i64 i)]) v.length (HZ v) () b7 (fun k b ae=>Ω) (fun _ ag _=>?_) (fun i _ hi ag _=>?_);rotate_left
 ·obtain⟨b,ad,cJ⟩:=eI hi;have aS:=aqD (qP b (eF ad));clear En oo kS hd HL M3 oj qP;by_cases g:b.v=(i:Int)/\b.t.gnd=true
  ·have au:=ag.step ad g;obtain⟨g1,g2⟩:=g;rw[g2]at aS;clear ag ad cU;exact hN
  ·rw[cU fun h=>g ⟨h.1.at' _ _ ad,h.1.gnd _ (eF ad)⟩];clear ag ad cU;by_cases g1:b.v=(i:Int)
   ·have g2:b.t.gnd=false:=by
     cases e:b.t.gnd with
     |false=>rfl
     |true=>exact absurd ⟨g1,e⟩ g
    rw[g2]at aS;exact cz
   ·simp[hi,cJ];((with_reducible repeat' first|refine ak ?_|simp[cJ,hi,g1]|((first|apply bJ|apply bM|apply bL)<;>intro h<;>try simp at h))<;>(try exact ck));all_goals simp[bp,OV,aV,aY,aU]
 have az:k0 v.length v:=⟨HL,M3,oj,rfl,fun i b ad=>(ag i b (fD.1 ad).1 ad).1,fun b ad=>by obtain⟨i,hi⟩:=List.mem_iff_getElem?.1 ad;exact(ag i b (fD.1 hi).1 hi).2⟩
 have En:=En az;rw[oo az]at En;clear ag hd kS oo cU az;exact cz
theorem ajN{s:br}{v:List ai}(h:k0 s.n v):Eg s (v.map ai.b)↔nc s v:=by
 constructor
 ·rintro⟨w,e,_,U⟩;rw[rr e];exact U
 ·intro U;exact⟨v,rfl,h,U⟩
open Classical in
theorem aqF{s:br}(h:j3 s)(hm:kZ s.m){n:Nat}(au:s.n=n){v:List ai}(az:k0 n v):bK aw 9 [s.e,.slice 5 .no (v.map ai.e)] (.bool (decide (nc s v))):=by rw[<-au]at az;have:=aqE s.r (fun _=>hm) (v.map ai.b);rw[decide_eq_decide.2 ((aad h _).trans (ajN az)),uZ]at this;rwa[uK]at this
structure h2 where
 s:List (List UInt8)
 i:List Int
def k2{α:Type}[nl α](x:α)(l:List α):List α:=if x∈l then l else l++[x]
theorem BN{α:Type}[nl α]{x y:α}{l:List α}:y∈k2 x l↔y∈l\/y=x:=by
 unfold k2;split
 ·rename_i h;exact⟨.inl,fun b9=>b9.elim id fun e=>e▸h⟩
 ·simp
theorem Ku{α:Type}[nl α]{x:α}{l:List α}(h:l.Nodup):(k2 x l).Nodup:=by
 unfold k2;split
 ·exact h
 ·rename_i ab;rw[List.nodup_append];exact⟨h,Ψ,fun a bg b ad e=>ab (by rw[iS.1 ad]at e;rw[<-e];exact bg)⟩
theorem Kt{α:Type}[nl α](x:α)(l:List α):(k2 x l).length<=l.length+1:=by
 unfold k2;split
 ·omega
 ·simp
def gM:T->h2->h2
 | .sym g,w=>⟨k2 g w.s,w.i⟩
 | .num k,w=>⟨w.s,k2 k w.i⟩
 | .pair a b,w=>gM b (gM a w)
 |_,w=>w
def kL(l:List ai)(w:h2):h2:=l.foldl (fun w b=>gM b.t w) w
def r7(l:List (List ai))(w:h2):h2:=l.foldl (fun w d=>kL d w) w
def r8(l:List bj)(w:h2):h2:=l.foldl (fun w m=>⟨k2 m.s w.s,w.i⟩) w
def pS(s:br):h2:=r8 s.m (r7 s.d (kL s.b ⟨[],[]⟩))
structure mD (w w':h2) (k:Nat):Prop where
 s:∀x∈w.s,x∈w'.s
 i:∀x∈w.i,x∈w'.i
 ns:w.s.Nodup->w'.s.Nodup
 ni:w.i.Nodup->w'.i.Nodup
 ls:w'.s.length<=w.s.length+k
 li:w'.i.length<=w.i.length+k
theorem mD.refl(w:h2):mD w w 0:=⟨fun _ h=>h,fun _ h=>h,id,id,Ω,Ω⟩
theorem mD.trans{a b c:h2}{j k:Nat}(h:mD a b j)(b9:mD b c k):mD a c (j+k):=⟨fun x ab=>b9.s x (h.s x ab),fun x ab=>b9.i x (h.i x ab),fun au=>b9.ns (h.ns au),fun au=>b9.ni (h.ni au),by have:=h.ls;have:=b9.ls;omega,by have:=h.li;have:=b9.li;omega⟩
theorem mD.le{a b:h2}{j k:Nat}(h:mD a b j)(ae:j<=k):mD a b k:=⟨h.s,h.i,h.ns,h.ni,by have:=h.ls;omega,by have:=h.li;omega⟩
theorem Qa:∀(t:T) (w:h2),mD w (gM t w) t.size
 | .sym g,w=>⟨fun _ h=>BN.2 (.inl h),fun _ h=>h,Ku,id,Kt _ _,by simp[gM]⟩
 | .num k,w=>⟨fun _ h=>h,fun _ h=>BN.2 (.inl h),id,Ku,by simp[gM],Kt _ _⟩
 | .pair a b,w=>((Qa a w).trans (Qa b _)).le (by simp only[T.size];omega)
 | .var _,w=>(mD.refl w).le Ω
 | .nil,w=>(mD.refl w).le Ω
theorem JQ:∀(l:List ai) (w:h2),(∀b∈l,b.t.size<=5000)->mD w (kL l w) (l.length*5000)
 |[],w,_=>(mD.refl w).le Ω
 |b::l,w,h=>by refine(((Qa b.t w).le (h b Ψ)).trans (JQ l (gM b.t w) fun c ao=>h c (by simp[ao]))).le ?_;rw[mG];omega
theorem P9:∀(l:List (List ai)) (w:h2),(∀d∈l,d.length<=400/\∀b∈d,b.t.size<=5000)->mD w (r7 l w) (l.length*2000000)
 |[],w,_=>(mD.refl w).le Ω
 |d::l,w,h=>by refine(((JQ d w (h d Ψ).2).le (k:=2000000) (by have:=(h d Ψ).1;omega)).trans (P9 l (kL d w) fun c ao=>h c (by simp[ao]))).le ?_;rw[mG];omega
theorem aaJ:∀(l:List bj) (w:h2),mD w (r8 l w) l.length
 |[],w=>(mD.refl w).le Ω
 |m::l,w=>((show mD w ⟨k2 m.s w.s,w.i⟩ 1 from⟨fun _ h=>BN.2 (.inl h),fun _ h=>h,Ku,id,Kt _ _,Ψ⟩).trans (aaJ l _)).le (by rw[mG];omega)
structure Ab (w:h2) (t:T):Prop where
 s:∀g,t= .sym g->g∈w.s
 i:∀k,t= .num k->k∈w.i
theorem Ab.mono{w w':h2}{k:Nat}{t:T}(h:Ab w t)(aM:mD w w' k):Ab w' t:=⟨fun g e=>aM.s _ (h.s g e),fun k e=>aM.i _ (h.i k e)⟩
theorem apF(t:T)(w:h2):Ab (gM t w) t:=by
 cases t with
 |sym g=>exact⟨fun fb e=>by cases e;exact BN.2 (.inr rfl),fun _ e=>by cases e⟩
 |num k=>exact⟨fun _ e=>(by cases e),fun bI e=>by cases e;exact BN.2 (.inr rfl)⟩
 |_=>exact⟨fun _ e=>(by cases e),fun _ e=>(by cases e)⟩
theorem aaF:∀(l:List ai) (w:h2),(∀b∈l,b.t.size<=5000)->∀b∈l,Ab (kL l w) b.t
 |c::l,w,h,b,ad=>by
  have b9:∀c∈l,c.t.size<=5000:=fun z bd=>h z (by simp[bd]);rcases fm.1 ad with rfl|ad
  ·exact(apF b.t w).mono (JQ l (gM b.t w) b9)
  ·exact aaF l (gM c.t w) b9 b ad
theorem aaH:∀(l:List (List ai)) (w:h2),(∀d∈l,d.length<=400/\∀b∈d,b.t.size<=5000)->∀d∈l,∀b∈d,Ab (r7 l w) b.t
 |e::l,w,h,d,aG,b,ad=>by
  have b9:∀d∈l,d.length<=400/\∀b∈d,b.t.size<=5000:=fun z bd=>h z (by simp[bd]);rcases fm.1 aG with rfl|aG
  ·exact(aaF d w (h d Ψ).2 b ad).mono (P9 l (kL d w) b9)
  ·exact aaH l (kL e w) b9 d aG b ad
def tf(l:List (List UInt8)):Prop:= ∀g∈l,g.head?≠some 119
theorem X4{g:List UInt8}{l:List (List UInt8)}(h:tf l)(aW:g.head?≠some 119):tf (k2 g l):=fun x ab=>by
 rcases BN.1 ab with ab|rfl
 ·exact h x ab
 ·exact aW
theorem Qb:∀(t:T) (w:h2),iQ t=true->tf w.s->tf (gM t w).s
 | .sym g,w,h,hw=>X4 hw (by simpa[iQ]using h)
 | .num k,w,h,hw=>hw
 | .pair a b,w,h,hw=>by simp only[iQ,cr]at h;exact Qb b _ h.2 (Qb a w h.1 hw)
 | .var _,w,h,hw=>hw
 | .nil,w,h,hw=>hw
theorem P8:∀(l:List ai) (w:h2),(∀b∈l,iQ b.t=true)->tf w.s->tf (kL l w).s
 |[],w,_,hw=>hw
 |b::l,w,h,hw=>P8 l (gM b.t w) (fun c ao=>h c (by simp[ao])) (Qb b.t w (h b Ψ) hw)
theorem aaI:∀(l:List (List ai)) (w:h2),(∀d∈l,∀b∈d,iQ b.t=true)->tf w.s->tf (r7 l w).s
 |[],w,_,hw=>hw
 |d::l,w,h,hw=>aaI l (kL d w) (fun c ao=>h c (by simp[ao])) (P8 d w (h d Ψ) hw)
theorem aaL:∀(l:List bj) (w:h2),(∀m∈l,m.s.head?≠some 119)->tf w.s->tf (r8 l w).s
 |[],w,_,hw=>hw
 |m::l,w,h,hw=>aaL l ⟨k2 m.s w.s,w.i⟩ (fun c ao=>h c (by simp[ao])) (X4 hw (h m Ψ))
def pU(k:Nat):List UInt8:=[119,UInt8.ofNat (48+k)]
theorem abA{i j:Nat}(hi:i<10)(ag:j<10)(h:pU i=pU j):i=j:=by simp only[pU,yk,and_true,true_and]at h;have:=eW UInt8.toNat h;rw[UInt8.toNat_ofNat',UInt8.toNat_ofNat',Nat.mod_eq_of_lt Ω,Nat.mod_eq_of_lt Ω]at this;omega
def vu(l:List Int):Nat->Nat->Nat
 |0,n=>n
 |f+1,n=>if(n:Int)∈l then vu l f (n+1)else n
theorem UL(l:List Int):∀(f n:Nat),n<=vu l f n/\vu l f n<=n+f/\(∀m,n<=m->m<vu l f n->(m:Int)∈l)/\(vu l f n=n+f\/(vu l f n:Int)∉l)
 |0,n=>⟨dZ _,dZ _,fun m J U=>(by simp only[vu]at U;omega),.inl rfl⟩
 |f+1,n=>by
  simp only[vu];split
  ·rename_i h;obtain⟨J,U,h3,h4⟩:=UL l f (n+1);refine⟨Ω,Ω,fun m hm Hv=>?_,h4.imp (fun e=>Ω) id⟩;by_cases e:m=n
   ·subst e;exact h
   ·exact h3 m Ω Hv
  ·rename_i h;exact⟨dZ _,Ω,fun m J U=>Ω,.inr h⟩
theorem ak2{a:List Int}(bg:a.Nodup):∀{l:List Int},(∀x∈a,x∈l)->a.length<=l.length:=by
 induction a with
 |nil=>intro l _;simp
 |cons x a bN=>
  intro l h;obtain⟨ab,bg⟩:=List.nodup_cons.1 bg;have av:=List.length_erase_of_mem (h x Ψ);have:=bN bg (l:=l.erase x) fun y aC=>by
   have cA:y≠x:=fun e=>by subst e;exact ab aC
   rw[List.mem_erase_of_ne cA];exact h y (by simp[aC])
  have bF:0<l.length:=List.length_pos_of_mem (h x Ψ);rw[mG];omega
def ou(l:List Int):Nat:=vu l (l.length+1) 0
theorem It(l:List Int):(∀m,m<ou l->(m:Int)∈l)/\(ou l:Int)∉l/\ou l<=l.length:=by
 obtain⟨_,U,h3,h4⟩:=UL l (l.length+1) 0;have hle:ou l<=l.length:=by
  have:=ak2 (Ng (ou l)) (l:=l) fun x ab=>by obtain⟨bz,J⟩:=BO.1 ab;have:=h3 x.toNat Ω (show x.toNat<ou l by omega);rwa[Int.toNat_of_nonneg bz]at this
  rwa[HU]at this
 refine⟨fun m hm=>h3 m Ω hm,?_,hle⟩;rcases h4 with h4|h4
 ·have:ou l=0+(l.length+1):=h4;omega
 ·exact h4
structure CW where
 i:List Int
 j:Nat
 f:List ai
def FA(s:br)(w:CW)(v:Int):CW:=
 if(cO s.b v).isSome then w
 else if jd s.k v=some 2 then⟨w.i,w.j+1,w.f++[⟨v,.sym (pU w.j)⟩]⟩
 else⟨w.i++[(ou w.i:Int)],w.j,w.f++[⟨v,.num (ou w.i)⟩]⟩
def iz(s:br):Nat->CW
 |0=>⟨(pS s).i,0,[]⟩
 |k+1=>FA s (iz s k) k
structure aov (s:br) (k:Nat) (w:CW):Prop where
 i:∀x∈(pS s).i,x∈w.i
 li:w.i.length<=(pS s).i.length+k
 j:w.j<=k
 v:∀b∈w.f,(0<=b.v/\b.v<k)/\cO s.b b.v=none
 asc:gO w.f
 al:∀u:Int,0<=u->u<k->cO s.b u=none->∃t,(⟨u,t⟩:ai)∈w.f
 at':∀b∈w.f,if jd s.k b.v=some 2 then∃i,i<w.j/\b.t= .sym (pU i)else∃m:Nat,b.t= .num m/\(m:Int)∈w.i/\(m:Int)∉(pS s).i/\m<=(pS s).i.length+k
 ne:w.f.Pairwise fun b c=>b.t≠c.t
theorem zS(s:br):∀k,k<=9->aov s k (iz s k)
 |0,_=>⟨fun _ h=>h,by simp[iz],by simp[iz],by simp[iz],by simp[iz,gO],fun u bz J=>Ω,by simp[iz],by simp[iz]⟩
 |k+1,ae=>by
  have h:=zS s k Ω;simp only[iz];generalize iz s k=w at h⊢;unfold FA;have EV:∀{w':CW},(∀b∈w.f,b∈w.f)->w.j<=w'.j->(∀x∈w.i,x∈w'.i)->∀b∈w.f,if jd s.k b.v=some 2 then∃i,i<w'.j/\b.t= .sym (pU i)else∃m:Nat,b.t= .num m/\(m:Int)∈w'.i/\(m:Int)∉(pS s).i/\m<=(pS s).i.length+(k+1:Nat):=fun _ ag hi b ad=>by
   have:=h.at' b ad;split at this
   ·rename_i e;rw[if_pos e];obtain⟨i,J,U⟩:=this;exact⟨i,Ω,U⟩
   ·rename_i e;rw[if_neg e];obtain⟨m,J,U,h3,h4⟩:=this;exact⟨m,J,hi _ U,h3,Ω⟩
  have Q7:∀t,gO (w.f++[⟨k,t⟩]):=fun t=>by unfold gO;rw[List.pairwise_append];refine⟨h.asc,Ψ,fun b ad c ao=>?_⟩;rw[iS.1 ao];have:=(h.v b ad).1;simp only;omega
  have aaO:∀t,cO s.b k=none->∀b∈w.f++[⟨k,t⟩],(0<=b.v/\b.v<((k+1:Nat):Int))/\cO s.b b.v=none:=fun t aN b ad=>by
   rcases hQ.1 ad with ad|ad
   ·have:=h.v b ad;exact⟨Ω,this.2⟩
   ·rw[iS.1 ad];exact⟨by simp only;omega,aN⟩
  have Q1:∀t,∀u:Int,0<=u->u<((k+1:Nat):Int)->cO s.b u=none->∃du,(⟨u,du⟩:ai)∈w.f++[⟨k,t⟩]:=fun t u bz J aN=>by
   by_cases e:u=k
   ·subst e;exact⟨t,Ψ⟩
   ·obtain⟨du,U⟩:=h.al u bz Ω aN;exact⟨du,List.mem_append_left _ U⟩
  have XZ:∀t,(∀b∈w.f,b.t≠t)->(w.f++[(⟨k,t⟩:ai)]).Pairwise fun b c=>b.t≠c.t:=fun t aI=>by rw[List.pairwise_append];refine⟨h.ne,Ψ,fun b ad c ao=>?_⟩;rw[iS.1 ao];exact aI b ad
  split
  ·rename_i ad;refine⟨h.i,by have:=h.li;omega,by have:=h.j;omega,fun b ad=>?_,h.asc,fun u bz J aN=>?_,EV (fun _ h=>h) (dZ _) (fun _ h=>h),h.ne⟩
   ·have:=h.v b ad;exact⟨Ω,this.2⟩
   ·by_cases e:u=k
    ·rw[<-e,aN]at ad;cases ad
    ·exact h.al u bz Ω aN
  ·rename_i ad;have aN:cO s.b k=none:=by simpa using ad
   split
   ·rename_i nE;refine⟨h.i,by have:=h.li;simp only;omega,by have:=h.j;simp only;omega,aaO _ aN,Q7 _,Q1 _,fun b ad=>?_,XZ _ fun b ad e=>?_⟩
    ·rcases hQ.1 ad with ad|ad
     ·exact EV (w':=⟨w.i,w.j+1,_⟩) (fun _ h=>h) Ψ (fun _ h=>h) b ad
     ·rw[iS.1 ad];simp only;rw[if_pos nE];exact⟨w.j,Ω,rfl⟩
    ·have:=h.at' b ad;have ag:=h.j;split at this
     ·obtain⟨i,J,U⟩:=this;rw[U]at e;have:=abA (i:=i) (j:=w.j) Ω Ω (T.sym.inj e);omega
     ·obtain⟨m,J,_⟩:=this;rw[J]at e;cases e
   ·rename_i nE;obtain⟨a1,bm,bW⟩:=It w.i;refine⟨fun x ab=>List.mem_append_left _ (h.i x ab),by have:=h.li;simp only[pc,List.length_singleton];omega,by have:=h.j;simp only;omega,aaO _ aN,Q7 _,Q1 _,fun b ad=>?_,XZ _ fun b ad e=>?_⟩
    ·rcases hQ.1 ad with ad|ad
     ·exact EV (w':=⟨w.i++[(ou w.i:Int)],w.j,_⟩) (fun _ h=>h) Ψ (fun _ h=>List.mem_append_left _ h) b ad
     ·rw[iS.1 ad];simp only;rw[if_neg nE];exact⟨ou w.i,rfl,Ψ,fun ab=>bm (h.i _ ab),by have:=h.li;omega⟩
    ·have:=h.at' b ad;split at this
     ·obtain⟨i,J,U⟩:=this;rw[U]at e;cases e
     ·obtain⟨m,J,U,_⟩:=this;rw[J]at e;rw[T.num.inj e]at U;exact bm U
def RM:C:=(aa [cW 1 0,eM 2 5,bq 3 false] (.seq (aa [aX 27 5 1,cH 28 22 27,cx 29 28,I 30 29,ar 30 false (aK 31 0 1 1),ar 30 false (ax 32 1 31),ar 30 false (aT 33 .gtr 32 400),c3 34 30 33] (aZ 34 (aa [eM 2 5,bq 3 false] .ret) .skip)) (aa [cS (.mkmap 35 (some 751)),cS (.alloc 4 (some 752) (.junk)),bD 1 4 35] (aa [cS (.mkmap 36 (some 753)),cS (.alloc 5 (some 754) (.junk)),bD 1 5 36] (aa [cS (.alloc 6 (some 755) (.junk))] (aa [bS 37 (.mkf 23 [.t 4,.t 5,.t 6]),bD 1 6 37] (.seq (aa [aK 38 1 1 1,ax 39 1 38,cD 40 39,cf 41 0] (ff 42 41 40 (.seq (.block 1 (aa [cC 43 5 39 41,aX 44 5 43,cR 8 iM,bD 5 8 44] (.region [ax 45 1 6,hZ 46 1 4 8,aX 47 4 46,gu 48 45 [.t 47]]))) (.region [aT 49 .add 41 1,I 41 49])))) (.seq (aa [aK 50 2 1 1,ax 51 1 50,cD 52 51,cf 53 0] (.block 2 (.loop (aa [bt 54 .lss 53 52] (.seq (aZ 54 .skip (.exit 2)) (.seq (.block 3 (aa [cC 55 1 51 53,ax 56 1 55,I 10 56] (aa [I 57 10,cD 58 57,cf 59 0] (.block 4 (.loop (aa [bt 60 .lss 59 58] (.seq (aZ 60 .skip (.exit 4)) (.seq (.block 5 (aa [cC 61 5 57 59,aX 62 5 61,cR 12 iM,bD 5 12 62] (.region [ax 63 1 6,hZ 64 1 4 12,aX 65 4 64,gu 66 63 [.t 65]]))) (.region [aT 67 .add 59 1,I 59 67]))))))))) (.region [aT 68 .add 53 1,I 53 68]))))))) (.seq (aa [aK 69 4 1 1,ax 70 1 69,cD 71 70,cf 72 0] (.block 6 (.loop (aa [bt 73 .lss 72 71] (.seq (aZ 73 .skip (.exit 6)) (.seq (.block 7 (aa [cC 74 2 70 72,aX 75 2 74,cS (.alloc 14 none (.agg [.int .i64 0,.str []])),bD 2 14 75] (.region [ax 76 1 4,aK 77 1 1 14,ax 78 1 77,cS (.mput .s (.t 76) (.t 78) (.c (.bool true)))]))) (.region [aT 79 .add 72 1,I 72 79]))))))) (aa [cS (.mkmap 80 none),I 15 80] (.seq (aa [aK 81 3 1 1,ax 82 1 81,cD 83 82,cf 84 0] (.block 8 (.loop (aa [bt 85 .lss 84 83] (.seq (aZ 85 .skip (.exit 8)) (.seq (.block 9 (aa [cC 86 2 82 84,aX 87 2 86,cS (.alloc 17 none (.agg [.int .i64 0,.int .i64 0])),bD 2 17 87] (.region [I 88 15,aK 89 0 1 17,ax 90 1 89,aK 91 1 1 17,ax 92 1 91,cS (.mput .i (.t 88) (.t 90) (.t 92))]))) (.region [aT 93 .add 84 1,I 84 93]))))))) (aa [dV 94 5 54 [],I 18 94] (.seq (aa [cf 19 0] (.block 10 (.loop (.seq (aa [I 95 19,aK 96 0 1 1,ax 97 1 96,bt 98 .lss 95 97] (aZ 98 .skip (.exit 10))) (.seq (.block 11 (.seq (aa [aK 101 1 1 1,ax 102 1 101,I 103 19,cc 104 24 102 103,aT 105 .geq 104 0] (aZ 105 (.exit 11) .skip)) (aa [cf 20 0] (.seq (aa [I 106 15,I 107 19,bS 108 (.mget .i (.int .i64 0) false (.t 106) (.t 107)),aT 109 .eql 108 2] (aZ 109 (.seq (.block 12 (.loop (.seq (.seq (.drawn true 178 [ax 110 1 4,I 111 20,cH 112 25 111,bS 113 (.bin .add false (.c (.str [119])) (.t 112)),bS 114 (.mgetB .s (.bool false) false (.t 110) (.t 113))]) (aZ 114 .skip (.exit 12))) (.block 13 (.region [I 115 20,aT 116 .add 115 1,I 20 116]))))) (.seq (.drawn true 178 [ax 117 1 4,I 118 20,cH 119 25 118,bS 120 (.bin .add false (.c (.str [119])) (.t 119)),cS (.mput .s (.t 117) (.t 120) (.c (.bool true)))]) (aa [I 121 18,I 122 19,I 123 20,cH 124 25 123,bS 125 (.bin .add false (.c (.str [119])) (.t 124)),cH 126 26 125,gY 127 iM [(0,1,(.t 122)),(1,4,(.t 126))],dV 128 5 54 [.t 127],gN 129 5 54 121 128,I 18 129] (.exit 11)))) .skip)) (.seq (.block 14 (.loop (.seq (aa [ax 130 1 5,I 131 20,bS 132 (.mget .i (.bool false) false (.t 130) (.t 131))] (aZ 132 .skip (.exit 14))) (.block 15 (.region [I 133 20,aT 134 .add 133 1,I 20 134]))))) (aa [ax 135 1 5,I 136 20,cS (.mput .i (.t 135) (.t 136) (.c (.bool true)))] (.region [I 137 18,I 138 19,I 139 20,cH 140 27 139,gY 141 iM [(0,1,(.t 138)),(1,4,(.t 140))],dV 142 5 54 [.t 141],gN 143 5 54 137 142,I 18 143]))))))) (.region [I 99 19,aT 100 .add 99 1,I 19 100])))))) (aa [dV 144 5 54 [],I 21 144] (.seq (aa [cf 22 0] (.block 16 (.loop (.seq (aa [I 145 22,aK 146 0 1 1,ax 147 1 146,bt 148 .lss 145 147] (aZ 148 .skip (.exit 16))) (.seq (.block 17 (aa [I 151 22,cH 152 28 151,cR 23 da,bD 4 23 152] (.seq (aa [aK 153 1 1 1,ax 154 1 153,I 155 22,cc 156 24 154 155,I 24 156] (aa [I 157 24,aT 158 .geq 157 0] (aZ 158 (.region [aK 159 1 1 1,ax 160 1 159,I 161 24,cC 162 5 160 161,hZ 163 1 4 162,aX 164 4 163,bD 4 23 164]) .skip))) (aa [I 166 18,aX 167 4 23,cc 168 29 166 167,I 165 168,cp 169 0 165,cp 170 1 165,cR 25 da,bD 4 25 169,I 26 170] (.region [I 171 21,I 172 22,aX 173 4 25,gY 174 iM [(0,1,(.t 172)),(1,4,(.t 173))],dV 175 5 54 [.t 174],gN 176 5 54 171 175,I 21 176]))))) (.region [I 149 22,aT 150 .add 149 1,I 22 150])))))) (aa [I 177 21,I 2 177,bq 3 true] .ret))))))))))))))))
@[simp] def anE:List bV:=[.tmp 2,.tmp 3]
def AA:C:=(aa [cW 4 0] (aa [aK 5 0 1 4,ax 6 1 5] (.block 0 (aa [aT 8 .eql 6 2,I 7 8] (aZ 7 (.region [ax 9 1 1,aK 10 2 1 4,ax 11 1 10,cS (.mput .s (.t 9) (.t 11) (.c (.bool true)))]) (aa [aT 13 .eql 6 3,I 12 13] (aZ 12 (.region [ax 14 1 2,aK 15 1 1 4,ax 16 1 15,cS (.mput .i (.t 14) (.t 16) (.c (.bool true)))]) (aa [aT 18 .eql 6 4,I 17 18] (aZ 17 (.seq (.drawn false 31 [bS 19 (.loadB false 1 (.t 3)),aK 20 3 1 4,ax 21 1 20,jh 22 4 21 0,aX 23 4 22,gu 24 19 [.t 23]]) (.drawn false 31 [bS 25 (.loadB false 1 (.t 3)),aK 26 3 1 4,ax 27 1 26,jh 28 4 27 1,aX 29 4 28,gu 30 25 [.t 29]])) .skip)))))))))
@[simp] def Cb:List bV:=[]
def Ry:C:=(aa [bS 2 (.mov (.c (.str [])))] (aa [I 3 0,cH 4 59 3,I 2 4] .ret))
@[simp] def anw:List bV:=[.tmp 2]
def Sh:C:=(aa [cR 2 da] (aa [I 3 0,gY 4 da [(0,1,(ef 2)),(2,1,(.t 3))],bD 4 2 4] .ret))
@[simp] def anM:List bV:=[.cell 2 true 4]
def R7:C:=(aa [cR 2 da] (aa [I 3 0,gY 4 da [(0,1,(ef 3)),(1,1,(.t 3))],bD 4 2 4] .ret))
@[simp] def anK:List bV:=[.cell 2 true 4]
def Tx:C:=(aa [bS 2 (.mov (.c (.str [])))] (aa [I 3 0,cH 4 111 3,I 2 4] .ret))
@[simp] def aoh:List bV:=[.tmp 2]
def Sk:C:=(aa [bS 2 (.mov (.c (.str [])))] (aa [I 3 0,c0 4 153 [.t 3,(ef 10)],I 2 4] .ret))
@[simp] def anQ:List bV:=[.tmp 2]
def Sj:C:=(aa [bS 4 (.mov (.c (.str [])))] (.seq (aa [I 10 1,aT 11 .eql 10 10] (aZ 11 (.seq (aa [I 12 0,bS 13 (.bin .leq false (ef 0) (.t 12)),I 14 13,bT 14 true 15 0,ar 14 true (aT 16 .lss 15 100),dh 17 14 16] (aZ 17 (aa [I 18 0,cH 19 174 18,I 4 19] .ret) .skip)) (.seq .no (aa [I 20 0,bS 21 (.conv .u64 (.t 20)),I 6 21] (.seq (aa [I 22 0,aT 23 .lss 22 0] (aZ 23 (.region [I 24 6,bS 25 (.neg (.t 24)),I 6 25]) .skip)) (aa [I 26 6,cH 27 175 26,I 7 27] (.seq .no (.seq (aa [I 33 0,aT 34 .lss 33 0] (aZ 34 (.seq .no (.seq .no .ret)) .skip)) (.seq .no .ret)))))))) .skip)) (aa [I 45 0,bS 46 (.conv .u64 (.t 45)),I 47 1,I 48 0,aT 49 .lss 48 0,c0 50 177 [(.c (.slice 1 .nil [])),.t 46,.t 47,.t 49,(.c (.bool false))],I 44 50,cp 51 0 44,cp 52 1 44,I 8 51,I 9 52] (aa [I 53 9,I 4 53] .ret))))
@[simp] def anP:List bV:=[.tmp 4]
def Sl:C:=(aa [bS 2 (.mov (.c (.str [])))] (.seq (aa [I 3 0,aT 4 .lss 3 10] (aZ 4 (aa [I 5 0,I 6 0,aT 7 .add 6 1,bS 8 (.ssl (.c (.str [48,49,50,51,52,53,54,55,56,57,97,98,99,100,101,102,103,104,105,106,107,108,109,110,111,112,113,114,115,116,117,118,119,120,121,122])) (some (.t 5)) (some (.t 7))),I 2 8] .ret) .skip)) (aa [I 9 0,aT 10 .mul 9 2,I 11 0,aT 12 .mul 11 2,aT 13 .add 12 2,bS 14 (.ssl (.c (.str [48,48,48,49,48,50,48,51,48,52,48,53,48,54,48,55,48,56,48,57,49,48,49,49,49,50,49,51,49,52,49,53,49,54,49,55,49,56,49,57,50,48,50,49,50,50,50,51,50,52,50,53,50,54,50,55,50,56,50,57,51,48,51,49,51,50,51,51,51,52,51,53,51,54,51,55,51,56,51,57,52,48,52,49,52,50,52,51,52,52,52,53,52,54,52,55,52,56,52,57,53,48,53,49,53,50,53,51,53,52,53,53,53,54,53,55,53,56,53,57,54,48,54,49,54,50,54,51,54,52,54,53,54,54,54,55,54,56,54,57,55,48,55,49,55,50,55,51,55,52,55,53,55,54,55,55,55,56,55,57,56,48,56,49,56,50,56,51,56,52,56,53,56,54,56,55,56,56,56,57,57,48,57,49,57,50,57,51,57,52,57,53,57,54,57,55,57,56,57,57])) (some (.t 10)) (some (.t 13))),I 2 14] .ret)))
@[simp] def anR:List bV:=[.tmp 2]
def u2:List (Nat×dy):=[
 (2,⟨1,8,.int .i64,.int .i64 0⟩),
 (3,⟨1,8,.int .i64,.int .i64 0⟩),
 (4,⟨1,1,.bool,.bool false⟩),
 (9,⟨1,16,.str,.str []⟩),
 (23,⟨1,24,.slice 54,.slice 5 .nil []⟩),
 (24,⟨1,24,.slice 23,.slice 1 .nil []⟩),
 (25,⟨1,24,.slice 59,.slice 2 .nil []⟩),
 (26,⟨1,24,.slice 56,.slice 2 .nil []⟩),
 (28,⟨5,104,.struct [(0,3),(1,23),(2,24),(3,25),(4,26)],.agg [.int .i64 0,.slice 5 .nil [],.slice 1 .nil [],.slice 2 .nil [],.slice 2 .nil []]⟩),
 (34,⟨1,24,.slice 36,.slice 4 .nil []⟩),
 (36,⟨4,56,.struct [(0,3),(1,3),(2,9),(3,34)],.agg [.int .i64 0,.int .i64 0,.str [],.slice 4 .nil []]⟩),
 (50,⟨1,8,.map 9 4,.junk⟩),
 (51,⟨1,8,.map 3 4,.junk⟩),
 (52,⟨1,8,.other,.junk⟩),
 (54,⟨5,64,.struct [(0,3),(1,36)],.agg [.int .i64 0,.int .i64 0,.int .i64 0,.str [],.slice 4 .nil []]⟩),
 (56,⟨2,24,.struct [(0,3),(1,9)],.agg [.int .i64 0,.str []]⟩),
 (57,⟨1,8,.map 3 3,.junk⟩),
 (59,⟨2,16,.struct [(0,3),(1,3)],.agg [.int .i64 0,.int .i64 0]⟩),
 (170,⟨1,8,.int .u64,.int .u64 0⟩)]
theorem q9:fJ aw u2=true:=by kernel_rfl
theorem alo:b6 u2 RM anE 1 Tryz.f7=true:=by kernel_rfl
theorem aey:aw.funcs[(7:Nat)]? =some Tryz.f7:=Tryz.func7
theorem EN:b6 u2 AA Cb 4 Tryz.f23=true:=by kernel_rfl
theorem Dh:aw.funcs[(23:Nat)]? =some Tryz.f23:=Tryz.func23
theorem ak9:b6 u2 Ry anw 1 Tryz.f25=true:=by kernel_rfl
theorem aek:aw.funcs[(25:Nat)]? =some Tryz.f25:=Tryz.func25
theorem alS:b6 u2 Sh anM 1 Tryz.f26=true:=by kernel_rfl
theorem ae1:aw.funcs[(26:Nat)]? =some Tryz.f26:=Tryz.func26
theorem alI:b6 u2 R7 anK 1 Tryz.f27=true:=by kernel_rfl
theorem aeR:aw.funcs[(27:Nat)]? =some Tryz.f27:=Tryz.func27
theorem am4:b6 u2 Tx aoh 1 Tryz.f59=true:=by kernel_rfl
theorem agd:aw.funcs[(59:Nat)]? =some Tryz.f59:=Tryz.func59
theorem alV:b6 u2 Sk anQ 1 Tryz.f111=true:=by kernel_rfl
theorem ae4:aw.funcs[(111:Nat)]? =some Tryz.f111:=Tryz.func111
theorem alU:b6 u2 Sj anP 2 Tryz.f153=true:=by kernel_rfl
theorem ae3:aw.funcs[(153:Nat)]? =some Tryz.f153:=Tryz.func153
theorem alW:b6 u2 Sl anR 1 Tryz.f174=true:=by kernel_rfl
theorem ae5:aw.funcs[(174:Nat)]? =some Tryz.f174:=Tryz.func174
def tq(l:List (List UInt8)):List aj:=l.flatMap fun s=>[.str s,.bool true]
def ts(l:List (List UInt8)):List aj:= .hdm l.length (List.range l.length)::tq l
@[simp]theorem auI:ts []=kj []:=rfl
theorem XD(s:List UInt8):∀l,uL .s (.str s) (tq l)=some (if s∈l then some (.bool true)else none)
 |[]=>rfl
 |x::r=>by
  have e:tq (x::r)= .str x:: .bool true::tq r:=rfl;rw[e];simp only[uL,rO];by_cases h:s=x
  ·subst h;simp
  ·have:(s==x)=false:=by simp[h]
   simp[h,this,XD s r]
theorem XY(s:List UInt8):∀l,td .s (.str s) (.bool true) (tq l)=some (if s∈l then some (tq l)else none)
 |[]=>rfl
 |x::r=>by
  have e:tq (x::r)= .str x:: .bool true::tq r:=rfl;rw[e];simp only[td,rO];by_cases h:s=x
  ·subst h;simp
  ·have:(s==x)=false:=by simp[h]
   simp only[this,XY s r];by_cases U:s∈r<;>simp[h,U,e]
@[simp]theorem aui(s:List UInt8)(l:List (List UInt8)):ot .s (.str s) (.bool true) (ts l)=some (ts (k2 s l)):=by
 simp only[ts,ot,W0,Bool.true_eq_false,reduceCtorEq,if_false,XY,k2];by_cases h:s∈l
 ·simp[h]
 ·simp[h,tq,List.range_succ]
theorem akF(f:aL->Option (List aj))(m:aL)(l:List (List UInt8))(s:List UInt8)(hm:f m=some (ts l)):nO f .s (.bool false) false (.gmap m) (.str s)=some (True,.bool (decide (s∈l))):=by simp only[N3,hm,ts,W0,Bool.true_eq_false,reduceCtorEq,if_false,XD];by_cases h:s∈l<;>simp[h]
@[simp]theorem aub(l:List (List UInt8))(s:List UInt8):zs .s (.bool false) false (some (ts l)) (.str s)=some (True,.bool (decide (s∈l))):=akF _ _ l s rfl
@[simp]theorem atv(S:aL->Prop)(l:List (List UInt8)):aO S (ts l)=True:=by
 refine eq_true ?_;have:∀l:List (List UInt8),aO S (tq l):=fun l=>by
  induction l with
  |nil=>simp[tq,aO]
  |cons x r bN=>exact⟨by simp[aJ],by simp[aJ],bN⟩
 exact⟨by simp[aJ],this l⟩
@[simp]theorem auz(l:List (List UInt8)):h9 (ts l)=false:=rfl
theorem Q4(k:Int):∀l:List Int,tP k (l.map fun x=>(x,aj.bool true))=if k∈l then some (.bool true)else none
 |[]=>rfl
 |i::r=>by
  by_cases h:k=i
  ·simp[tP,h]
  ·simp[tP,h,Q4 k r]
theorem akB(f:aL->Option (List aj))(m:aL)(l:List Int)(k:Int)(hm:f m=some (mc l)):nO f .i (.bool false) false (.gmap m) (.int .i64 k)=some (True,.bool (decide (k∈l))):=by rw[XF f m _ _ _ _ hm,Q4];by_cases h:k∈l<;>simp[h]
@[simp]theorem at5(l:List Int)(k:Int):zs .i (.bool false) false (some (mc l)) (.int .i64 k)=some (True,.bool (decide (k∈l))):=akB _ _ l k rfl
@[simp]theorem atj(S:aL->Prop)(l:List Int):aO S (mc l)=True:=eq_true (mY S l)
theorem yw(k:Int)(l:List Int):Ge k l=k2 k l:=rfl
def eH(w:h2):cT:=⟨[(.obj 751,ts w.s),(.obj 752,[.gmap (.obj 751)]),(.obj 753,mc w.i),(.obj 754,[.gmap (.obj 753)]),(.obj 755,[.func 23 [.ptr (.obj 752) 0,.ptr (.obj 754) 0,.ptr (.obj 755) 0]])],[]⟩
theorem jT(w:h2):dP (eH w):=by unfold eH;refine dP.of ⟨by intro m;simp[Pv.look],by intro m;simp[Pv.look]⟩ f8 Ψ
theorem US(t:T):∀w:h2,bG aw 23 [t.e,.ptr (.obj 752) 0,.ptr (.obj 754) 0,.ptr (.obj 755) 0] (eH w) fun r ah=>r= .tuple []/\ah=eH (gM t w):=by
 induction t with
 |pair a b dz dA=>intro w;have af:=jT w;unfold eH at af⊢;refine bG.mk mixed q9 Dh EN Ψ af.obj fun aQ cI=>?_;unfold AA;simp;((with_reducible repeat' first|refine ak ?_|simp|((first|apply bJ|apply bM|apply bL)<;>intro h<;>try simp at h))<;>(try exact ck));(refine gx.ob (dz w) gt gt (Same.keys (by simp[eH]) (by simp[eH])) (by simp only[eH,bP,bU];exact aH) (by simp only[eH,bP,bU];exact aH) (by simp[inObs,Pv.look,eH]) ?_;simp[cb,eH]);((with_reducible repeat' first|refine ak ?_|simp|((first|apply bJ|apply bM|apply bL)<;>intro h<;>try simp at h))<;>(try exact ck));(refine gx.ob (dA (gM a w)) gt gt (Same.keys (by simp[eH]) (by simp[eH])) (by simp only[eH,bP,bU];exact aH) (by simp only[eH,bP,bU];exact aH) (by simp[inObs,Pv.look,eH]) ?_;simp[cb,eH]);(with_reducible repeat' first|refine ak ?_|simp);(refine cL.at (eH (gM b (gM a w))) Ψ gt (Same.keys (by simp[eH,gM]) (by simp[eH,gM])) (by simp only[eH,gM,bP,bU];exact aH) (by simp only[eH,gM,bP,bU];exact aH) ?_;simp[cM,Cb,aV,aY,aU,inObs,Pv.look,eH,gM])
 |nil=>intro w;have af:=jT w;unfold eH at af⊢;refine bG.mk mixed q9 Dh EN Ψ af.obj fun aQ cI=>?_;unfold AA;simp;((with_reducible repeat' first|refine ak ?_|simp|((first|apply bJ|apply bM|apply bL)<;>intro h<;>try simp at h))<;>(try exact ck));(refine cL.at (eH w) Ψ gt (Same.keys (by simp[eH,gM]) (by simp[eH,gM])) (by simp only[eH,gM,bP,bU];exact aH) (by simp only[eH,gM,bP,bU];exact aH) ?_;simp[cM,Cb,aV,aY,aU,inObs,Pv.look,eH,gM])
 |var n=>intro w;have af:=jT w;unfold eH at af⊢;refine bG.mk mixed q9 Dh EN Ψ af.obj fun aQ cI=>?_;unfold AA;simp;((with_reducible repeat' first|refine ak ?_|simp|((first|apply bJ|apply bM|apply bL)<;>intro h<;>try simp at h))<;>(try exact ck));(refine cL.at (eH w) Ψ gt (Same.keys (by simp[eH,gM]) (by simp[eH,gM])) (by simp only[eH,gM,bP,bU];exact aH) (by simp only[eH,gM,bP,bU];exact aH) ?_;simp[cM,Cb,aV,aY,aU,inObs,Pv.look,eH,gM])
 |sym g=>intro w;have af:=jT w;unfold eH at af⊢;refine bG.mk mixed q9 Dh EN Ψ af.obj fun aQ cI=>?_;unfold AA;simp;((with_reducible repeat' first|refine ak ?_|simp|((first|apply bJ|apply bM|apply bL)<;>intro h<;>try simp at h))<;>(try exact ck));(refine cL.at (eH ⟨k2 g w.s,w.i⟩) Ψ gt (Same.keys (by simp[eH,gM]) (by simp[eH,gM])) (by simp only[eH,gM,bP,bU];exact aH) (by simp only[eH,gM,bP,bU];exact aH) ?_;simp[cM,Cb,aV,aY,aU,inObs,Pv.look,eH,gM])
 |num n=>intro w;have af:=jT w;unfold eH at af⊢;refine bG.mk mixed q9 Dh EN Ψ af.obj fun aQ cI=>?_;unfold AA;simp;((with_reducible repeat' first|refine ak ?_|simp[yw]|((first|apply bJ|apply bM|apply bL)<;>intro h<;>try simp at h))<;>(try exact ck));(refine cL.at (eH ⟨w.s,k2 n w.i⟩) Ψ gt (Same.keys (by simp[eH,gM,yw]) (by simp[eH,gM,yw])) (by simp only[eH,gM,yw,bP,bU];exact aH) (by simp only[eH,gM,yw,bP,bU];exact aH) ?_;simp[cM,Cb,aV,aY,aU,inObs,Pv.look,eH,gM,yw])
theorem aaK:∀(l:List bj) (w:h2),(r8 l w).i=w.i
 |[],_=>rfl
 |m::l,w=>aaK l ⟨k2 m.s w.s,w.i⟩
structure small (N:Nat) (s:br):Prop where
 ok:j3 s
 n:s.n=N
 n9:N<=9
 bw:∀b∈s.b,iQ b.t=true
 dw:∀d∈s.d,∀b∈d,iQ b.t=true
 t:kG [[97],[98]] s.m
theorem small.b5{n:Nat}{s:br}(h:small n s):∀b∈s.b,b.t.size<=5000:=h.ok.1.b.fits.2
theorem small.d5{n:Nat}{s:br}(h:small n s):∀d∈s.d,d.length<=400/\∀b∈d,b.t.size<=5000:=fun d aG=>⟨(h.ok.1.d d aG).fits.1,(h.ok.1.d d aG).fits.2⟩
theorem small.mw{n:Nat}{s:br}(h:small n s):∀m∈s.m,m.s.head?≠some 119:=fun m hm=>by have:=h.t m hm;simp only[fm,List.mem_nil_iff,or_false]at this;rcases this with e|e<;>rw[e]<;>decide
theorem small.li{n:Nat}{s:br}(h:small n s):(pS s).i.length<=62000000:=by have J:=(JQ s.b ⟨[],[]⟩ h.b5).li;have U:=(P9 s.d (kL s.b ⟨[],[]⟩) h.d5).li;have h3:=h.ok.self.c;have h4:=h.ok.1.b.fits.1;rw[pS,aaK];simp only[List.length_nil]at J;omega
theorem small.nw{n:Nat}{s:br}(h:small n s):tf (pS s).s:=aaL _ _ h.mw (aaI _ _ h.dw (P8 _ _ h.bw fun _ h=>by simp at h))
theorem small.dI{n:Nat}{s:br}(h:small n s):∀d∈s.d,∀b∈d,Ab (pS s) b.t:=fun d aG b ad=>(aaH s.d _ h.d5 d aG b ad).mono (aaJ s.m _)
theorem anp{l:List ai}(h:l.Pairwise fun b c=>b.t≠c.t):∀{b c:ai},b∈l->c∈l->b.t=c.t->b=c:=by
 induction h with
 |nil=>intro b c ad;simp at ad
 |cons J _ bN=>
  intro b c ad ao e;rcases fm.1 ad with ad|ad<;>rcases fm.1 ao with ao|ao
  ·rw[ad,ao]
  ·rw[ad]at e;exact absurd e (J _ ao)
  ·rw[ao]at e;exact absurd e.symm (J _ ad)
  ·exact bN ad ao e
theorem abC{i:Nat}(h:i<10):iK (pU i)=true:=by rcases(by omega:i=0\/i=1\/i=2\/i=3\/i=4\/i=5\/i=6\/i=7\/i=8\/i=9)with rfl|rfl|rfl|rfl|rfl|rfl|rfl|rfl|rfl|rfl<;>decide
def de(s:br):List ai:=(List.range s.n.toNat).map fun(v:Nat)=>⟨(v:Int),(aR s.b v).ap (aR (iz s s.n.toNat).f)⟩
theorem aj1{l:List b8}(h:hj l){x:b8}(ab:x∈l):jd l x.v=some x.k:=by
 unfold jd;have U:=h.asc;clear h;induction l with
 |nil=>simp at ab
 |cons y r bN=>
  rw[np]at U;rw[List.find?_cons];rcases fm.1 ab with rfl|ab
  ·simp
  ·have:=U.1 x ab;rw[show(y.v==x.v)=false by simp;omega];exact bN ab U.2
theorem J3{n:Nat}{s:br}(h:small n s):k0 n (de s)/\nc s (de s):=by
 have au:=h.n;have vK:s.n.toNat=n:=Ω
 have Hw:=h.n9;have kq:=zS s n Hw;have aiw:=h.li;unfold de;rw[vK];generalize iz s n=w at kq⊢;obtain⟨a1,bm,bW⟩:=It w.i;have vN:=kq.li;let f:Int->T:=fun u=>(cO w.f u).getD (.num (ou w.i))
 have fin:∀{u t},(⟨u,t⟩:ai)∈w.f->f u=t:=fun{u t} aI=>by have:=pn kq.asc aI;show(cO w.f u).getD _=t;rw[this];rfl
 have GW:∀u,(∃i,i<10/\f u= .sym (pU i))\/ ∃m:Nat,f u= .num m/\(m:Int)∉(pS s).i/\m<=63000000:=fun u=>by
  cases e:cO w.f u with
  |none=>
   have:f u= .num (ou w.i):=by show(cO w.f u).getD _=_;rw[e];rfl
   exact .inr ⟨ou w.i,this,fun ab=>bm (kq.i _ ab),Ω⟩
  |some t=>
   have hm:=iG e;have J:=kq.at' _ hm;rw[fin hm];simp only at J;split at J
   ·obtain⟨i,U,h3⟩:=J;exact .inl ⟨i,by have:=kq.j;omega,h3⟩
   ·obtain⟨m,U,_,h3,h4⟩:=J;exact .inr ⟨m,U,h3,Ω⟩
 have GX:∀u:Int,0<=u->u<n->cO s.b u=none->(⟨u,f u⟩:ai)∈w.f:=fun u bz J U=>by obtain⟨t,aI⟩:=kq.al u bz J U;rw[fin aI];exact aI
 have dp:=h.ok.self;have xi:=Jb h.ok.1.b.sol Ψ dp.k;have yP:abx s f:=by
  refine⟨fun v=>?_,fun v=>?_,fun u v bz J U h3 hu az e=>?_,fun d aG c ao v e=>?_,fun k ae=>?_,fun m hm=>?_⟩
  ·rcases GW v with⟨i,_,e⟩|⟨m,e,_⟩
   ·exact .inr ⟨_,e⟩
   ·exact .inl ⟨_,e⟩
  ·rcases GW v with⟨i,hi,e⟩|⟨m,e,_,hm⟩
   ·rw[e];exact abC hi
   ·rw[e];simp only[T.ok,eN];omega
  ·have:=anp kq.ne (GX u bz Ω hu) (GX v U Ω az) e;exact eW ai.v this
  ·have hw:=h.dw d aG c ao;have Md:=h.dI d aG c ao;rcases GW v with⟨i,hi,fE⟩|⟨m,fE,hm,_⟩
   ·rw[e,fE]at hw;simp[iQ,pU]at hw
   ·exact hm (Md.i m (by rw[e,fE]))
  ·have az:=h.ok.1.kb k ae;have jY:=h.ok.1.k.at' k ae;have J:=kq.at' _ (GX k.v jY.1.1 Ω (xi k ae));simp only[aj1 h.ok.1.k ae]at J;split at J
   ·rename_i e;obtain⟨i,_,U⟩:=J;rw[U,eZ e];rfl
   ·rename_i e;obtain⟨m,U,_⟩:=J;rw[U];rcases jY.2 with aF|aF
    ·exact absurd (by rw[aF]) e
    ·rw[aF];rfl
  ·rcases GW m.v with⟨i,hi,e⟩|⟨_,e,_⟩
   ·rw[e];have cA:=h.mw m hm;simp only[T.has,beq_eq_false_iff_ne,ne_eq];intro aF;rw[<-aF]at cA;simp[pU]at cA
   ·rw[e];rfl
 have aM:=aqV h.ok yP Ω (w:=(List.range n).map fun(v:Nat)=>⟨(v:Int),(aR s.b v).ap (aR w.f)⟩) (by simp[au]) fun i b ad=>by
  rw[List.getElem?_map,gv]at ad;obtain⟨j,ag,rfl⟩:=ad;obtain⟨ec,oU⟩:=fD.1 ag;rw[List.getElem_range]at oU;subst oU;rw[List.length_range]at ec;refine⟨rfl,nY fun u hu=>?_⟩;have uu:(0<=u/\u<n)/\cO s.b u=none:=by
   unfold aR at hu;cases e:cO s.b i with
   |none=>rw[e]at hu;simp only[lv,T.occ,dM]at hu;subst hu;exact⟨Ω,e⟩
   |some t=>rw[e]at hu;simp only[iB]at hu;have hm:=iG e;have J:=(Bx h.ok.1.b.ok h.ok.1.bb _ hm).2 u hu;exact⟨Ω,h.ok.1.b.sol.free _ hm u hu⟩
  have hm:=GX u uu.1.1 uu.1.2 uu.2;show aR w.f u=f u;unfold aR;rw[pn kq.asc hm];rfl
 rw[au]at aM;exact aM
theorem jO.small{n L:Nat}{s:br}{E:List (T×T)}(h:j3 s)(au:s.n=n)(kp:n<=9)(aI:kG [[97],[98]] s.m)(bF:jO (qm n) L E s):small n s:=⟨h,au,kp,fun _ ad=>bF.b_w ad,fun _ aG _ ad=>bF.d_w aG ad,aI⟩
theorem lD.small{n k:Nat}{s:br}(h:lD n k s)(kp:n<=9):small n s:=by obtain⟨E,c1⟩:=h.p;exact c1.small h.s.ok h.s.n kp h.s.t
theorem aaG{l:List ai}{i:Nat}{x:ai}(h:l[i]? =some x)(w:h2):kL (l.take (i+1)) w=gM x.t (kL (l.take i) w):=by rw[mC h,kL,List.foldl_append];rfl
theorem apD{l:List (List ai)}{i:Nat}{x:List ai}(h:l[i]? =some x)(w:h2):r7 (l.take (i+1)) w=kL x (r7 (l.take i) w):=by rw[mC h,r7,List.foldl_append];rfl
theorem apE{l:List bj}{i:Nat}{x:bj}(h:l[i]? =some x)(w:h2):r8 (l.take (i+1)) w=⟨k2 x.s (r8 (l.take i) w).s,(r8 (l.take i) w).i⟩:=by rw[mC h,r8,List.foldl_append];rfl
def wD(s:br)(j:Nat):List (List UInt8):=(pS s).s++(List.range j).map pU
theorem abB{N:Nat}{s:br}(h:small N s){a j:Nat}(bg:a<10)(ag:j<=9):pU a∈wD s j↔a<j:=by
 unfold wD;rw[hQ,hR];constructor
 ·rintro(J|⟨b,ad,e⟩)
  ·exact absurd rfl (h.nw _ J)
  ·rw[List.mem_range]at ad;have:=abA Ω bg e;omega
 ·intro J;exact .inr ⟨a,List.mem_range.2 J,rfl⟩
theorem apl{N:Nat}{s:br}(h:small N s){j:Nat}(ag:j<=9):k2 (pU j) (wD s j)=wD s (j+1):=by unfold k2;rw[if_neg (fun hm=>by have:=(abB h Ω ag).1 hm;omega)];simp[wD,List.range_succ]
theorem acm(l:List Int):k2 (ou l:Int) l=l++[(ou l:Int)]:=by unfold k2;rw[if_neg (It l).2.1]
theorem acs{k:List b8}(bg:k.Pairwise fun x y=>x.v<y.v)(v:Int):(k.any fun x=>x.v==v&&x.k==2)=(jd k v==some 2):=by
 rw[qz,List.any_eq_true,dM];constructor
 ·rintro⟨x,ab,h⟩;simp only[cr,dM]at h;have:=Er bg ab;rw[h.1,h.2]at this;exact this
 ·intro h;exact⟨_,BD h,Ψ⟩
def By(k:List b8)(i:Nat)(l:List (Int×Int)):Prop:= ∀v,(hC l v==2)=(k.take i).any fun x=>x.v==v&&x.k==2
theorem By.put{k:List b8}(bg:k.Pairwise fun x y=>x.v<y.v){i:Nat}{l:List (Int×Int)}(h:By k i l){x:b8}(ab:k[i]? =some x):By k (i+1) (e5 x.v x.k l):=fun v=>by
 rw[mC ab,List.any_append,<-h v];unfold hC;rw[nS];by_cases e:v=x.v
 ·subst e;have cU:((k.take i).any fun y=>y.v==x.v&&y.k==2)=false:=by rw[List.any_eq_false];intro y aC;have U:=bg;rw[<-List.take_append_drop i k,List.pairwise_append]at U;obtain⟨hi,cY⟩:=fD.1 ab;have:=U.2.2 y aC x (by rw[lu hi,cY];simp);simp;omega
  have h3:=h x.v;rw[cU]at h3;unfold hC at h3;rw[h3];simp
 ·rw[if_neg e];have:(x.v==v)=false:=by simp;exact fun h=>e h.symm
  simp[this]
theorem By.fin{k:List b8}(ae:hj k){l:List (Int×Int)}(h:By k k.length l)(v:Int):(hC l v==2)=(jd k v==some 2):=by rw[h v,lQ,acs ae.asc]
theorem ago{l:List ai}(af:gO l)(v:Int){t:T}(h:cO l v=some t):0<=ko l v/\∃b,l[(ko l v).toNat]? =some b/\b.t=t:=by
 have bz:¬ko l v<0:=fun au=>by rw[(AV af v).1 au]at h;cases h
 refine⟨Ω,?_⟩;rw[<-IJ af v]at h;unfold rX at h;rw[if_neg bz,gv]at h;exact h
theorem aow{N:Nat}{s:br}(kc:N<=9)(v:Int):(aR (iz s N).f v).size=1:=by
 unfold aR;cases e:cO (iz s N).f v with
 |none=>rfl
 |some t=>
  have J:=(zS s N kc).at' _ (iG e);simp only at J;split at J
  ·obtain⟨i,_,U⟩:=J;rw[U];rfl
  ·obtain⟨m,U,_⟩:=J;rw[U];rfl
theorem aox{N:Nat}{s:br}(h:small N s):wY (iz s N).f:=fun b ad=>by
 have kq:=zS s N h.n9;have J:=kq.at' b ad;have av:=h.li;have kc:=h.n9;have ag:=kq.j;split at J
 ·obtain⟨i,hi,U⟩:=J;rw[U];have:=abC (i:=i) Ω;simp[T.fit,T.ok,T.size,this]
 ·obtain⟨m,U,_,_,h3⟩:=J;rw[U];simp[T.fit,T.ok,T.size];omega
theorem Z3{N:Nat}(s:br)(kc:N<=9):(iz s N).f.length<=N:=by
 induction N with
 |zero=>simp[iz]
 |succ k bN=>
  have:=bN Ω;simp only[iz,FA];split
  ·omega
  ·split<;>simp<;>omega
theorem aqU{N:Nat}{s:br}(h:small N s)(v:Int):((aR s.b v).ap (aR (iz s N).f)).size<=5000:=by
 rw[Gg (aow h.n9)];unfold aR;cases e:cO s.b v with
 |none=>simp[T.size]
 |some t=>exact h.b5 _ (iG e)
theorem aqT{N:Nat}{s:br}(au:s.n=N){i:Nat}(hi:i<N):(de s)[i]? =some ⟨(i:Int),(aR s.b i).ap (aR (iz s N).f)⟩:=by
 have:s.n.toNat=N:=Ω
 unfold de;rw[this,List.getElem?_map,List.getElem?_range hi];rfl
open Classical in
theorem ap1{s:br}(h:j3 s)(hm:kZ s.m):bK aw 22 [s.e] (.bool true):=by have:=aaZ s.r fun _=>hm;rwa[hb ⟨s,rfl,h⟩,uZ]at this
theorem aqL(n:Nat)(h:n<10):bK aw 174 [.int .i64 n] (.str [UInt8.ofNat (48+n)]):=by
 rcases(by omega:n=0\/n=1\/n=2\/n=3\/n=4\/n=5\/n=6\/n=7\/n=8\/n=9)with rfl|rfl|rfl|rfl|rfl|rfl|rfl|rfl|rfl|rfl;all_goals
  refine bo q9 ae5 alW fun aQ=>?_;unfold Sl
  exact cz
theorem apP(n:Nat)(h:n<10):bK aw 153 [.int .i64 n,.int .i64 10] (.str [UInt8.ofNat (48+n)]):=by
 have kS:=aqL n h;have J:(0:Int)<=n:=Ω
 have U:(n:Int)<100:=Ω
 refine bo q9 ae3 alU fun aQ=>?_;unfold Sj;exact cz
theorem apR(n:Nat)(h:n<10):bK aw 25 [.int .i64 n] (.str [UInt8.ofNat (48+n)]):=by
 have H5:=apP n h;have kI:bK aw 111 [.int .i64 n] (.str [UInt8.ofNat (48+n)]):=by refine bo q9 ae4 alV fun aQ=>?_;unfold Sk;exact cz
 have hz:bK aw 59 [.int .i64 n] (.str [UInt8.ofNat (48+n)]):=by refine bo q9 agd am4 fun aQ=>?_;unfold Tx;exact cz
 refine bo q9 aek ak9 fun aQ=>?_;unfold Ry;exact cz
theorem aqM(g:List UInt8):bK aw 26 [.str g] (T.sym g).e:=by refine bo q9 ae1 alS fun aQ=>?_;unfold Sh;exact cz
theorem aqx(k:Int):bK aw 27 [.int .i64 k] (T.num k).e:=by refine bo q9 aeR alI fun aQ=>?_;unfold R7;exact cz
theorem pM(S:aL->Prop)(l:List ai)(d:ai):aO S (l.map ai.e++[d.e])=True:=by
 have:∀l:List ai,aO S (l.map ai.e):=fun l=>by
  induction l with
  |nil=>simp[aO]
  |cons x r bN=>simp only[gZ,aO];exact⟨Ψ,bN⟩
 have:=this (l++[d]);rw[List.map_append]at this;exact eq_true this
theorem NN:lI []=kj []:=rfl
def hH(s:br):List aj:=[.int .i64 s.n,.slice 5 .no (s.b.map ai.e),.slice 1 .no (s.d.map cF),.slice 2 .no (s.k.map b8.e),.slice 2 .no (s.m.map bj.e)]
def fa(t:List (Nat×aj))(c:List aj)(w:h2)(l:List (aL×List aj))(e:List (aL×fP))(n:Nat):bn:=⟨[(1,.ptr (.loc 0) 0),(4,.ptr (.obj 752) 0),(5,.ptr (.obj 754) 0)]++t,[(.loc 0,c),(.obj 751,ts w.s),(.obj 752,[.gmap (.obj 751)]),(.obj 753,mc w.i),(.obj 754,[.gmap (.obj 753)]),(.obj 755,[.func 23 [.ptr (.obj 752) 0,.ptr (.obj 754) 0,.ptr (.obj 755) 0]])]++l,e,n,[.obj 755,.obj 754,.obj 753,.obj 752,.obj 751]⟩
theorem Qe{N:Nat}{s:br}(h:small N s)(hm:kZ s.m):bK aw 7 [s.e] (.tuple [.slice 5 .no ((de s).map ai.e),.bool true]):=by
 have kS:=ap1 h.ok hm;have au:=h.n;have Hw:=h.n9;have ahL:¬s.n>400:=Ω
 have aiw:=h.li;have lH:=h.ok.1.b;have fB:=lH.len;have uy:=fun v=>tB s.b v Ω;simp only[br.e]at kS⊢;refine bo q9 aey alo fun aQ=>?_;unfold RM;have xc:s.d.length<=68719476736/\s.k.length<=68719476736/\s.m.length<=68719476736:=by simp[gQ,gi,gH,lim]at aQ;omega
 clear aQ;obtain⟨xc,ij,mm⟩:=xc;simp;(with_reducible repeat' first|refine ak ?_|refine aA kS ?_|refine aB kS ?_|simp[ahL]);refine hI (fun i (_:Unit)=>fa [(6,.ptr (.obj 755) 0),(39,.slice 5 .no (s.b.map ai.e)),(40,.int .i64 s.b.length),(41,.int .i64 i)] (hH s) (kL (s.b.take i) ⟨[],[]⟩) [] [] 1) s.b.length (fun _ _=>True) () (by simp[fa,hH,kL];exact b7) trivial (fun _ _ _=>?_) (fun i _ hi _ _=>?_);rotate_left
 ·obtain⟨x,ab,cY⟩:=eI hi;have hu:=aaG ab ⟨[],[]⟩;have aW:=US x.t (kL (s.b.take i) ⟨[],[]⟩);rw[<-hu]at aW;generalize kL (s.b.take i) ⟨[],[]⟩=w at aW⊢;generalize qj:kL (s.b.take (i+1)) ⟨[],[]⟩=w' at aW;simp only[fa,hH];simp[hi,cY];(with_reducible repeat' first|refine ak ?_|simp[hi,cY]);(refine cQ.ob (aW) gt (by simp only[eH,bP,bU];exact aH) (by simp only[eH,bP,bU];exact aH) (by simp[inObs,Pv.look,eH]) ?_;rintro r ah ⟨rfl,rfl⟩;refine⟨(Same.keys (by simp[eH]) (by simp[eH])),?_⟩;simp[cb,eH]);(with_reducible repeat' first|refine ak ?_|simp);exact bR.rng () hi trivial ⟨by simp[fresh,aO,aJ,cn,inObs,Pv.look,qj],ek (by simp[fresh,aO,aJ,cn,inObs,Pv.look,qj]),en (by simp[fresh,aO,aJ,dW,inObs,Pv.look,qj]),Ψ⟩
 rw[lQ];generalize zc:kL s.b ⟨[],[]⟩=eY;simp only[fa,hH];simp;(with_reducible repeat' first|refine ak ?_|simp);refine hI (fun i (_:Unit)=>fa [(6,.ptr (.obj 755) 0),(51,.slice 1 .no (s.d.map cF)),(52,.int .i64 s.d.length),(53,.int .i64 i)] (hH s) (r7 (s.d.take i) eY) [] [] 1) s.d.length (fun _ _=>True) () (by simp[fa,hH,r7];exact b7) trivial (fun _ _ _=>?_) (fun i _ hi _ _=>?_);rotate_left
 ·obtain⟨x,ab,cY⟩:=eI hi;have hu:=apD ab eY;have pI:=(h.d5 x (eF ab)).1;generalize asW:r7 (s.d.take i) eY=wd at hu⊢;simp only[fa,hH];simp[hi,cY,cF];(with_reducible repeat' first|refine ak ?_|simp[hi,cY,cF]);refine hI (fun j (_:Unit)=>fa [(6,.ptr (.obj 755) 0),(51,.slice 1 .no (s.d.map cF)),(52,.int .i64 s.d.length),(53,.int .i64 i),(57,.slice 5 .no (x.map ai.e)),(58,.int .i64 x.length),(59,.int .i64 j)] (hH s) (kL (x.take j) wd) [] [] 1) x.length (fun _ _=>True) () (by simp[fa,hH,kL];exact b7) trivial (fun _ _ _=>?_) (fun j _ ag _ _=>?_)
  ·rw[lQ,<-hu];generalize Bs:r7 (s.d.take (i+1)) eY=we;simp only[fa,hH];simp;(with_reducible repeat' first|refine ak ?_|simp);exact bR.rng () hi trivial ⟨by simp[fresh,aO,aJ,cn,inObs,Pv.look,Bs],ek (by simp[fresh,aO,aJ,cn,inObs,Pv.look,Bs]),en (by simp[fresh,aO,aJ,dW,inObs,Pv.look,Bs]),Ψ⟩
  ·obtain⟨y,aC,eP⟩:=eI ag;have uu:=aaG aC wd;have aW:=US y.t (kL (x.take j) wd);rw[<-uu]at aW;generalize kL (x.take j) wd=w at aW⊢;generalize qj:kL (x.take (j+1)) wd=w' at aW;clear hu uu;simp only[fa,hH];simp[ag,eP];(with_reducible repeat' first|refine ak ?_|simp[ag,eP]);(refine cQ.ob (aW) gt (by simp only[eH,bP,bU];exact aH) (by simp only[eH,bP,bU];exact aH) (by simp[inObs,Pv.look,eH]) ?_;rintro r ah ⟨rfl,rfl⟩;refine⟨(Same.keys (by simp[eH]) (by simp[eH])),?_⟩;simp[cb,eH]);(with_reducible repeat' first|refine ak ?_|simp);exact bR.rng () ag trivial ⟨by simp[fresh,aO,aJ,cn,inObs,Pv.look,qj],ek (by simp[fresh,aO,aJ,cn,inObs,Pv.look,qj]),en (by simp[fresh,aO,aJ,dW,inObs,Pv.look,qj]),Ψ⟩
 rw[lQ];generalize nG:r7 s.d eY=dD;simp only[fa,hH];simp;(with_reducible repeat' first|refine ak ?_|simp);refine hI (fun i (_:Unit)=>fa [(70,.slice 2 .no (s.m.map bj.e)),(71,.int .i64 s.m.length),(72,.int .i64 i)] (hH s) (r8 (s.m.take i) dD) [] [] 1) s.m.length (fun _ _=>True) () (by simp[fa,hH,r8];exact b7) trivial (fun _ _ _=>?_) (fun i _ hi _ _=>?_);rotate_left
 ·obtain⟨x,ab,cY⟩:=eI hi;have hu:=apE ab dD;generalize r8 (s.m.take i) dD=w at hu⊢;simp only[fa,hH];simp[hi,cY];(with_reducible repeat' first|refine ak ?_|simp[hi,cY]);exact bR.rng () hi trivial ⟨by simp[fresh,aO,aJ,cn,inObs,Pv.look,hu],ek (by simp[fresh,aO,aJ,cn,inObs,Pv.look,hu]),en (by simp[fresh,aO,aJ,dW,inObs,Pv.look,hu]),Ψ⟩
 rw[lQ];have Wm:r8 s.m dD=pS s:=by rw[<-nG,<-zc];rfl
 rw[Wm];clear zc nG Wm;simp only[fa,hH];simp;(with_reducible repeat' first|refine ak ?_|simp);refine hI (fun i (l:List (Int×Int))=>fa [(15,.gmap (.loc 1)),(82,.slice 2 .no (s.k.map b8.e)),(83,.int .i64 s.k.length),(84,.int .i64 i)] (hH s) (pS s) [(.loc 1,lI l)] [] 2) s.k.length (By s.k) [] (by simp[fa,hH];exact⟨by simp[fresh,aO,aJ,cn,inObs,Pv.look,NN],ek (by simp[fresh,aO,aJ,cn,inObs,Pv.look,NN]),en (by simp[fresh,aO,aJ,dW,inObs,Pv.look,NN]),Ψ⟩) (fun v=>by simp[hC,tg]) (fun l ag _=>?_) (fun i l hi ag _=>?_);rotate_left
 ·obtain⟨x,ab,cY⟩:=eI hi;have asR:=ag.put h.ok.1.k.asc ab;clear ag;simp only[fa,hH];exact hN
 have nE:=ag.fin h.ok.1.k;clear ag;simp only[fa,hH];simp;(with_reducible repeat' first|refine ak ?_|simp);refine hI (fun i (_:Unit)=>fa [(15,.gmap (.loc 1)),(18,.slice 5 (.own (.loc 2)) ((iz s i).f.map ai.e)),(19,.int .i64 i)] (hH s) ⟨wD s (iz s i).j,(iz s i).i⟩ [(.loc 1,lI l)] [(.loc 2,⟨(iz s i).f.length,54,5,none⟩)] 3) N (fun _ _=>True) () (by simp[fa,hH,iz,wD];exact b7) trivial (fun _ _ _=>?_) (fun i _ hi _ _=>?_);rotate_left
 ·have kq:=zS s i Ω;have gU:(i:Int)<s.n:=Ω
  have vN:=Z3 s (N:=i) Ω;have gK:iz s (i+1)=FA s (iz s i) i:=rfl;unfold FA at gK;generalize asX:iz s i=w at kq gK vN⊢;generalize sV:iz s (i+1)=wn' at gK;have ae:=nE i;clear nE;obtain⟨FO,yi,wf⟩:=w;have aie:=kq.j;have air:=kq.li;simp only at aie air gK vN;clear kq;by_cases ad:cO s.b i=none
  ·have bs:¬0<=ko s.b i:=by have:=(AV lH.sol.asc i).2 ad;omega
   rw[ad,if_neg Ψ]at gK;by_cases U:jd s.k i=some 2
   ·rw[if_pos U]at gK;have Bq:hC l i=2:=by rw[U]at ae;simpa using ae
    clear ae;simp only[fa,hH];simp[gU];(with_reducible repeat' first|refine ak ?_|refine aA (uy i) ?_|refine aB (uy i) ?_|simp[gU,bs,Bq]);refine n2 (fun(a:Nat)=>fa [(15,.gmap (.loc 1)),(18,.slice 5 (.own (.loc 2)) (wf.map ai.e)),(19,.int .i64 i),(20,.int .i64 a)] (hH s) ⟨wD s yi,FO⟩ [(.loc 1,lI l)] [(.loc 2,⟨wf.length,54,5,none⟩)] 3) (fun a=>yi-a) (fun a=>a<=yi) 0 (by simp[fa,hH];exact b7) Ω (fun a bg _=>?_);have hL:=abB h (a:=a) (j:=yi) Ω Ω;have kI:=apR a Ω;unfold pU at hL;simp only[fa,hH];by_cases mM:a<yi
    ·have uj:=hL.2 mM;clear hL;generalize UInt8.ofNat (48+a)=g at uj kI;simp;((with_reducible repeat' first|refine ak ?_|refine aA kI ?_|refine aB kI ?_|simp[uj]|((first|apply bJ|apply bM|apply bL)<;>intro h<;>try simp at h))<;>(try exact ck));exact bR.whl (a+1) Ω Ω b7
    ·have DU:¬_:=fun hm=>mM (hL.1 hm);have oY:=apl h (j:=yi) Ω;have Mg:a=yi:=Ω
     subst Mg;unfold pU at oY gK;have j1:=aqM [119,UInt8.ofNat (48+a)];clear hL;generalize UInt8.ofNat (48+a)=g at DU oY gK j1 kI;simp;(with_reducible repeat' first|refine ak ?_|refine aA kI ?_|refine aB kI ?_|refine aA j1 ?_|refine aB j1 ?_|simp[DU,oY]);exact bR.rng () hi trivial ⟨by simp[fresh,aO,aJ,cn,inObs,Pv.look,sV,gK,pM],ek (by simp[fresh,aO,aJ,cn,inObs,Pv.look,sV,gK,pM]),en (by simp[fresh,aO,aJ,dW,inObs,Pv.look,sV,gK,pM]),Ψ⟩
   ·rw[if_neg U]at gK;have Bq:(hC l i==2)=false:=by rw[ae];simpa using U
    have ai7:¬hC l i=2:=by simpa using Bq
    clear ae;obtain⟨a1,bm,bW⟩:=It FO;have bE:=acm FO;generalize ou FO=m at a1 bm bW bE gK;simp only[fa,hH];simp[gU];(with_reducible repeat' first|refine ak ?_|refine aA (uy i) ?_|refine aB (uy i) ?_|simp[gU,bs,Bq,ai7]);refine n2 (fun(a:Nat)=>fa [(15,.gmap (.loc 1)),(18,.slice 5 (.own (.loc 2)) (wf.map ai.e)),(19,.int .i64 i),(20,.int .i64 a)] (hH s) ⟨wD s yi,FO⟩ [(.loc 1,lI l)] [(.loc 2,⟨wf.length,54,5,none⟩)] 3) (fun a=>m-a) (fun a=>a<=m) 0 (by simp[fa,hH];exact b7) Ω (fun a bg _=>?_);simp only[fa,hH];by_cases mM:a<m
    ·have uj:=a1 a mM;simp;((with_reducible repeat' first|refine ak ?_|simp[uj]|((first|apply bJ|apply bM|apply bL)<;>intro h<;>try simp at h))<;>(try exact ck));exact bR.whl (a+1) Ω Ω b7
    ·have Mg:a=m:=Ω
     subst Mg;have j1:=aqx a;simp;(with_reducible repeat' first|refine ak ?_|refine aA j1 ?_|refine aB j1 ?_|simp[bm,yw,bE]);exact bR.rng () hi trivial ⟨by simp[fresh,aO,aJ,cn,inObs,Pv.look,sV,gK,pM],ek (by simp[fresh,aO,aJ,cn,inObs,Pv.look,sV,gK,pM]),en (by simp[fresh,aO,aJ,dW,inObs,Pv.look,sV,gK,pM]),Ψ⟩
  ·have bs:0<=ko s.b i:=by have:=mt (AV lH.sol.asc i).1 ad;omega
   rw[if_pos (by cases e:cO s.b i with|none=>exact absurd e ad|some _=>rfl)]at gK;simp only[fa,hH];simp[gU];(with_reducible repeat' first|refine ak ?_|refine aA (uy i) ?_|refine aB (uy i) ?_|simp[gU,bs]);exact bR.rng () hi trivial ⟨by simp[fresh,aO,aJ,cn,inObs,Pv.look,sV,gK,pM],ek (by simp[fresh,aO,aJ,cn,inObs,Pv.look,sV,gK,pM]),en (by simp[fresh,aO,aJ,dW,inObs,Pv.look,sV,gK,pM]),Ψ⟩
 clear nE;have vK:¬(N:Int)<s.n:=Ω
 have kq:=zS s N Hw;have Wn:=aox h;have vN:=Z3 s Hw;have dS:=fun v=>aqU h v;have aW:=fun i (hi:i<N)=>aqT au hi;have asV:(de s).length=N:=by simp[de];omega
 generalize iz s N=w at kq Wn vN dS aW⊢;simp only[fa,hH];simp;(with_reducible repeat' first|refine ak ?_|simp[vK]);refine hI (fun i (a:List ai)=>⟨[(1,.ptr (.loc 0) 0),(18,.slice 5 (.own (.loc 2)) (w.f.map ai.e)),(21,.slice 5 (.own (.loc 3)) (a.map ai.e)),(22,.int .i64 i)],[(.loc 0,hH s)],[(.loc 3,⟨a.length,54,5,none⟩)],4,[]⟩) N (fun i a=>a=(de s).take i) [] (by simp[hH];exact b7) Ψ (fun a ag _=>?_) (fun i a hi ag _=>?_)
 ·rw[hl Ω]at ag;rw[<-ag];simp only[hH];exact cz
 ·have gU:(i:Int)<s.n:=Ω
  have ab:=aW i hi;have jb:=mC ab;rw[<-ag]at jb;have mM:a.length<=N:=by rw[ag,List.length_take];omega
  have bd:=dS i;have hd:=lr i;have hj:=FI w.f (aR s.b i) Ω kq.asc Wn;rw[if_pos bd,hb bd]at hj;generalize (aR s.b i).ap (aR w.f)=x at ab jb hj;clear bd dS aW ab ag;simp only[hH];by_cases ad:cO s.b i=none
  ·have bs:¬0<=ko s.b i:=by have:=(AV lH.sol.asc i).2 ad;omega
   have oW:aR s.b i= .var i:=by unfold aR;rw[ad];rfl
   rw[oW]at hj;simp[gU];((with_reducible repeat' first|refine ak ?_|refine aA hd ?_|refine aB hd ?_|refine aA (uy i) ?_|refine aB (uy i) ?_|refine aA hj ?_|refine aB hj ?_|simp[gU,bs]|((first|apply bJ|apply bM|apply bL)<;>intro h<;>try simp at h))<;>(try exact ck));exact bR.rng _ hi jb.symm ⟨by simp[fresh,aO,aJ,cn,inObs,Pv.look,pM],ek (by simp[fresh,aO,aJ,cn,inObs,Pv.look,pM]),en (by simp[fresh,aO,aJ,dW,inObs,Pv.look,pM]),Ψ⟩
  ·obtain⟨t,aI⟩:=Option.ne_none_iff_exists'.1 ad;obtain⟨bz,b,kr,od⟩:=ago lH.sol.asc i aI;have oW:aR s.b i=b.t:=by unfold aR;rw[aI,od];rfl
   rw[oW]at hj;have qN:=(LU s.b i).1;have cJ:∀h,(s.b[(ko s.b i).toNat]'h)=b:=fun h=>by rw[cg h]at kr;exact eZ kr
   have H5:=uy i;clear uy;generalize ko s.b i=f at bz kr qN cJ H5;simp[gU];((with_reducible repeat' first|refine ak ?_|refine aA hd ?_|refine aB hd ?_|refine aA H5 ?_|refine aB H5 ?_|refine aA hj ?_|refine aB hj ?_|simp[gU,bz,kr,cJ,qN]|((first|apply bJ|apply bM|apply bL)<;>intro h<;>try simp at h))<;>(try exact ck));exact bR.rng _ hi jb.symm ⟨by simp[fresh,aO,aJ,cn,inObs,Pv.look,pM],ek (by simp[fresh,aO,aJ,cn,inObs,Pv.look,pM]),en (by simp[fresh,aO,aJ,dW,inObs,Pv.look,pM]),Ψ⟩
def KX:C:=(.seq (.drawn true 139 (I 82 10::aX 83 5 3::aX 84 4 4::aX 85 4 5::c0 86 14 [.t 83,.t 84,.t 85]::bS 87 (.beq true none (.t 82) (.t 86))::I 88 87::bT 88 true 89 12::ar 88 true (aX 90 5 3)::ar 88 true (aX 91 4 4)::ar 88 true (aX 92 4 5)::ar 88 true (c0 93 15 [.t 90,.t 91,.t 92])::ar 88 true (bS 94 (.beq true none (.t 89) (.t 93)))::dh 95 88 94::I 96 95::bT 96 true 97 10::ar 96 true (cx 98 97)::bT 96 true 99 98::bT 99 false 100 14::bT 99 false 101 100::ar 101 true (aX 102 5 3)::bT 101 true 103 13::ar 101 true (cc 104 9 102 103)::ar 99 false (dh 105 101 104)::bT 99 false 106 105::ar 106 true (aX 107 4 4)::bT 106 true 108 13::ar 106 true (cc 109 13 107 108)::ar 106 true (aX 110 4 5)::bT 106 true 111 13::ar 106 true (cc 112 13 110 111)::ar 106 true (cc 113 12 109 112)::ar 106 true (cx 114 113)::ar 99 false (dh 115 106 114)::ar 96 true (c3 116 99 115)::dh 117 96 116::I 118 117::bT 118 true 119 12::ar 118 true (cx 120 119)::bT 118 true 121 120::bT 121 false 122 16::bT 121 false 123 122::ar 123 true (aX 124 5 3)::bT 123 true 125 15::ar 123 true (cc 126 9 124 125)::ar 121 false (dh 127 123 126)::bT 121 false 128 127::ar 128 true (aX 129 4 4)::bT 128 true 130 15::ar 128 true (cc 131 13 129 130)::ar 128 true (aX 132 4 5)::bT 128 true 133 15::ar 128 true (cc 134 13 132 133)::ar 128 true (cc 135 12 131 134)::ar 121 false (dh 136 128 135)::ar 118 true (c3 137 121 136)::dh 138 118 137::I 2 138::[])) .ret)
def KY:C:=(.seq (aa [aX 41 5 3,aX 42 4 4,aX 43 4 5,c0 44 14 [.t 41,.t 42,.t 43],I 45 44,bT 45 true 46 8,ar 45 true (cx 47 46),dh 48 45 47,I 49 48,ar 49 false (aX 50 5 3),ar 49 false (aX 51 4 4),ar 49 false (aX 52 4 5),ar 49 false (c0 53 15 [.t 50,.t 51,.t 52]),bT 49 false 54 53,bT 54 true 55 8,ar 49 false (dh 56 54 55),c3 57 49 56] (aZ 57 (aa [bq 2 false] .ret) .skip)) (aa [aX 59 5 3,aX 60 4 4,aX 61 4 5,c0 62 16 [.t 59,.t 60,.t 61],I 58 62,cp 63 0 58,cp 64 1 58,cR 9 hf,bD 5 9 63,I 10 64] (aa [aX 66 5 3,aX 67 4 4,aX 68 4 5,c0 69 17 [.t 66,.t 67,.t 68],I 65 69,cp 70 0 65,cp 71 1 65,cR 11 hf,bD 5 11 70,I 12 71] (aa [aX 73 5 9,cH 74 7 73,I 72 74,cp 75 0 72,cp 76 1 72,I 13 75,I 14 76] (aa [aX 78 5 11,cH 79 7 78,I 77 79,cp 80 0 77,cp 81 1 77,I 15 80,I 16 81] KX)))))
def KW:C:=(aa [bq 2 false] (.seq (aa [I 17 0,cD 18 17,aT 19 .gtr 18 1048576] (aZ 19 (aa [bq 2 true] .ret) .skip)) (aa [I 20 0,c0 21 6 [.t 20,(ef 0),(ef 4)],cR 3 hf,bD 5 3 21] (aa [I 22 0,c0 23 10 [.t 22,(ef 60),(ef 3),(ef 4)],cR 4 da,bD 4 4 23] (aa [I 24 0,aX 25 4 4,c0 26 11 [.t 24,(ef 80),.t 25,(ef 4)],cR 5 da,bD 4 5 26] (aa [aX 28 5 3,cH 29 7 28,I 27 29,cp 30 0 27,cp 31 1 27,I 6 30,I 7 31] (.seq (aa [I 32 7,cx 33 32] (aZ 33 (aa [bq 2 false] .ret) .skip)) (.seq (.drawn true 139 [aX 34 4 4,I 35 6,cc 36 13 34 35,aX 37 4 5,I 38 6,cc 39 13 37 38,cc 40 12 36 39,I 8 40]) KY))))))))
@[simp] def zI:List bV:=[.tmp 2]
def aaz:List (Nat×dy):=[
 (4,⟨1,1,.bool,.bool false⟩),
 (22,⟨1,24,.slice 5,.slice 1 .nil []⟩),
 (23,⟨1,24,.slice 54,.slice 5 .nil []⟩),
 (28,⟨5,104,.struct [(0,3),(1,23),(2,24),(3,25),(4,26)],.agg [.int .i64 0,.slice 5 .nil [],.slice 1 .nil [],.slice 2 .nil [],.slice 2 .nil []]⟩),
 (36,⟨4,56,.struct [(0,3),(1,3),(2,9),(3,34)],.agg [.int .i64 0,.int .i64 0,.str [],.slice 4 .nil []]⟩)]
theorem aaB:fJ aw aaz=true:=by kernel_rfl
theorem Yl:b6 aaz KW zI 1 Tryz.f4=true:=by kernel_rfl
theorem Ur:aw.funcs[(4:Nat)]? =some Tryz.f4:=Tryz.func4
def TU(b e d:List ai):Prop:= ∀θ,dR b θ->dR e θ->dR d θ
theorem PO{s:br}{v:List ai}(h:nc s v):nr s (aR v):=by
 obtain⟨J,U,h3,h4⟩:=h;rw[fV]at J U h3 h4;refine⟨fun c ao=>?_,fun k ae=>of_decide_eq_true (h3 k ae),fun m hm=>by simpa using h4 m hm,fun d aG af=>?_⟩
 ·have:=J c ao;simp only[rU,cr,eN]at this;exact this.2.symm
 ·have:=U d aG;rw[pq,List.any_eq_true]at this;obtain⟨c,ao,q⟩:=this;simp only[um,cr,oG,gD]at q;exact q.2 (af c ao)
theorem ako{θ:Int->T}(h:∀u,eD (θ u)=1)(t:T):eD (t.ap θ)<=eD t:=by
 have:=Ez (θ:=θ) (t:=t) (m:=1) (dZ _) fun u _=>by rw[h u];omega
 omega
theorem aoy{n:Nat}{s:br}(kp:n<=9)(u:Int):eD (aR (iz s n).f u)=1:=by
 have kq:=zS s n kp;unfold aR;cases e:cO (iz s n).f u with
 |none=>rfl
 |some t=>
  have J:=kq.at' _ (iG e);simp only at J;simp only[iB];split at J
  ·obtain⟨i,_,aF⟩:=J;rw[aF];rfl
  ·obtain⟨i,aF,_⟩:=J;rw[aF];rfl
theorem aby{n L:Nat}{s:br}{E:List (T×T)}(h:small n s)(bF:jO (qm n) L E s)(ft:1<=L)(u:Int):eD (aR (de s) u)<=L ^ n:=by
 have J:=Nat.one_le_pow n L ft;have vK:s.n.toNat=n:=by have:=h.n;omega
 have az:=(J3 h).1;unfold aR;cases e:cO (de s) u with
 |none=>exact J
 |some t=>have hm:=iG e;simp only[de,hR,List.mem_range,ai.mk.injEq]at hm;obtain⟨j,ag,rfl,rfl⟩:=hm;simp only[iB];refine ha (ako (fun u=>by rw[vK];exact aoy h.n9 u) _) ?_;have:=bF.b_lv (Ng n) ft (v:=(j:Int)) (BO.2 ⟨Ω,Ω⟩);rwa[HU]at this
theorem ao2{n L m:Nat}{s:br}{E:List (T×T)}(bF:jO (qm n) L E s)(af:gX s)(au:s.n=n)(ft:1<=L){v:List ai}(az:∀u,eD (aR v u)<=m)(hm:1<=m)(ae:L ^ n*m<=2500*L)(yY:L ^ n<=2500):aab s v:=fun d aG c ao=>by
 obtain⟨a1,bm⟩:=ac1 af au aG ao;obtain⟨J,U⟩:=bF.d_lv (Ng n) ft aG ao a1 bm;rw[HU]at J;by_cases ay:∃u,c.t.occ u=true
 ·obtain⟨u,hu⟩:=ay;have h3:=U u hu;rw[HU]at h3;have h4:=Ez (θ:=aR v) (t:=c.t) hm fun u _=>az u;have h5:eD c.t*L*m<=2500*L:=ha (rh m h3) ae;have c9:eD c.t*m*L<=2500*L:=by rw[Nat.mul_right_comm];exact h5
  have dX:=Nat.le_of_mul_le_mul_right c9 ft;have:=PI (ha h4 dX);omega
 ·have:c.t.ap (aR v)=c.t:=Gf fun u hu=>absurd ⟨u,hu⟩ ay;rw[this];have:=PI (ha J yY);omega
theorem eqP.mono{V:List Int}{L tJ:Nat}(ft:L<=tJ){e:T×T}(h:eqP V L e):eqP V tJ e:=⟨⟨ha h.l.1 ft,ha h.l.2 ft⟩,h.v,h.w⟩
theorem jO.mono{V:List Int}{L tJ:Nat}(ft:L<=tJ){E:List (T×T)}{s:br}(h:jO V L E s):jO V tJ E s:=⟨fun e he=>(h.e e he).mono ft,h.b,fun d aG=>by obtain⟨e,x,J,U⟩:=h.d d aG;exact⟨e,x,J.mono ft,U⟩⟩
structure ps (n:Int) (t:T):Prop where
 f:t.fit=true
 b:dK n t=true
 l:eD t<=4
 o:∀v,t.occ v=true->0<=v/\v<n
 w:iQ t=true
theorem qE.a{n:Int}{t:T}(h:qE n t):ps n t:=⟨h.f,h.b,by have:=h.l;omega,h.o,h.w⟩
theorem GM{n:Nat}{x y:T}(ab:ps n x)(aC:ps n y):eqP (qm n) 4 (x,y):=⟨⟨ab.l,aC.l⟩,fun v az=>BO.2 (az.elim (ab.o v) (aC.o v)),ab.w,aC.w⟩
structure X1 (n:Nat) (s t:br) (g:(Int->T)->Prop):Prop where
 sm:small n t
 v:k0 n (de t)/\nc t (de t)
 h:nr s (aR (de t))/\g (aR (de t))
theorem Iw{n:Nat}{s t:br}(h:lD n 5 s)(kp:n<=9){x y:T}(ab:ps n x)(aC:ps n y)(he:jC s x y=some t):X1 n s t fun θ=>x.ap θ=y.ap θ:=by have jb:=h.s.n;have bx:=ab.b;have fi:=aC.b;rw[<-jb]at bx fi;obtain⟨E,c1⟩:=h.p;have bF:=OE (c1.mono (show 2<=4 by omega)) (GM ab aC) he;have aG:=Ks (kd:=0) (k:=2) (g:=[97]) h.s ab.f aC.f ab.b aC.b Ψ (by unfold qD;rw[if_pos rfl];exact he);have ea:=bF.small aG.ok aG.n kp aG.t;have hw:=J3 ea;refine⟨ea,hw,?_⟩;have az:=hw.1;rw[<-jb]at az;have:=T6 h.s.ok.1 az ab.f aC.f bx fi;rw[he]at this;exact this.1 (PO hw.2)
theorem Iv{n:Nat}{s t:br}(h:lD n 5 s)(kp:n<=9){x y:T}(ab:ps n x)(aC:ps n y)(he:jV s x y=some t):X1 n s t fun θ=>x.ap θ≠y.ap θ:=by have jb:=h.s.n;have bx:=ab.b;have fi:=aC.b;rw[<-jb]at bx fi;obtain⟨E,c1⟩:=h.p;have bF:=OD (c1.mono (show 2<=4 by omega)) (GM ab aC) he;have aG:=Ks (kd:=1) (k:=2) (g:=[97]) h.s ab.f aC.f ab.b aC.b Ψ (by unfold qD;rw[if_neg (by decide),if_pos rfl];exact he);have ea:=bF.small aG.ok aG.n kp aG.t;have hw:=J3 ea;refine⟨ea,hw,?_⟩;have az:=hw.1;rw[<-jb]at az;have:=TT h.s.ok.1 az ab.f aC.f bx fi;rw[he]at this;exact this.1 (PO hw.2)
theorem X2{n:Nat}{s t:br}(h:lD n 5 s)(kp:n<=9){x y:T}(ab:ps n x)(aC:ps n y)(he:jC s x y=some t\/jV s x y=some t):small n t/\∀u,eD (aR (de t) u)<=4 ^ n:=by
 obtain⟨E,c1⟩:=h.p;have Vg:=c1.mono (show 2<=4 by omega);rcases he with he|he
 ·exact⟨(Iw h kp ab aC he).sm,aby (Iw h kp ab aC he).sm (OE Vg (GM ab aC) he) Ω⟩
 ·exact⟨(Iv h kp ab aC he).sm,aby (Iv h kp ab aC he).sm (OD Vg (GM ab aC) he) Ω⟩
theorem ak0{s t:br}(h:lD 4 5 s){x y:T}(ab:ps 4 x)(aC:ps 4 y)(he:jC s x y=some t\/jV s x y=some t):k0 4 (de t)/\nc s (de t)/\(jC s x y=some t->x.ap (aR (de t))=y.ap (aR (de t)))/\(jV s x y=some t->x.ap (aR (de t))≠y.ap (aR (de t))):=by
 obtain⟨E,c1⟩:=h.p;have av:=(X2 (n:=4) h Ω ab aC he).2;have key:k0 4 (de t)->nr s (aR (de t))->nc s (de t):=fun az cE=>(ao7 az.fits (ao2 (m:=4 ^ 4) c1 h.s.ok.1 h.s.n Ω av Ω Ω Ω)).2 cE
 have aq:jC s x y=some t->x.ap (aR (de t))=y.ap (aR (de t)):=fun e=>(Iw (n:=4) h Ω ab aC e).h.2;have aF:jV s x y=some t->x.ap (aR (de t))≠y.ap (aR (de t)):=fun e=>(Iv (n:=4) h Ω ab aC e).h.2;rcases he with e|e
 ·have:=Iw (n:=4) h Ω ab aC e;exact⟨this.v.1,key this.v.1 this.h.1,aq,aF⟩
 ·have:=Iv (n:=4) h Ω ab aC e;exact⟨this.v.1,key this.v.1 this.h.1,aq,aF⟩
theorem adj{s:br}(h:lD 4 5 s){x y:T}(ab:ps 4 x)(aC:ps 4 y):(jV s x y=none->x.ap (aR (de s))=y.ap (aR (de s)))/\(jC s x y=none->x.ap (aR (de s))≠y.ap (aR (de s))):=by
 have jb:=h.s.n;have bx:dK s.n x=true:=by rw[jb];exact ab.b
 have fi:dK s.n y=true:=by rw[jb];exact aC.b
 obtain⟨az,af⟩:=J3 (n:=4) (h.small Ω);rw[<-jb]at az;have cE:=PO af;have ae:=h.k;constructor
 ·intro e;have:=TT h.s.ok.1 az ab.f aC.f bx fi;rw[e]at this;exact Classical.byContradiction fun cA=>this Ω ⟨cE,cA⟩
 ·intro e U;have:=T6 h.s.ok.1 az ab.f aC.f bx fi;rw[e]at this;exact this Ω ⟨cE,U⟩
end
end Go.Proofs.YtohaalphocaebaaGreatDoor
namespace Go.Pv
section
open Go Go.RowKit
mutual
def lp(k:aL)(m:Nat):aj->aj
 | .slice sz tag xs=>.slice sz (if tag= .own k then .own (.obj m)else .no) (dq xs)
 | .agg cs=>.agg (uT k m cs)
 | .tuple cs=>.tuple (uT k m cs)
 |p=>eb p
def uT(k:aL)(m:Nat):List aj->List aj
 |[]=>[]
 |c::cs=>lp k m c::uT k m cs
end
section
variable {w:World} {Z μ:bc} {k:aL} {m:Nat} (ay:pf (fun _=>ey) w Z w μ) (ae:∀n v,Z.ow k=some (n,v)->μ.ow (.obj m)=some (n,v))
include ay ae
mutual
theorem Ph:∀(p:aj) (v:Value),aJ (fun _=>ey) (eb p)->a8 w Z p v->a8 w μ (lp k m p) v
 | .slice sz tag xs,v,au,h=>by
  have U:=kY ay _ _ au (lK _ _ h);simp only[lp];split
  ·rename_i e;simp only[a8,eb]at h U⊢;refine⟨U.1,(fun e=>by cases e),fun g Lq=>?_,(fun _ _ e=>by cases e),fun _ e=>by cases e⟩;cases Lq;obtain⟨n',u,aq,aF,bB⟩:=h.2.2.1 k e;exact⟨n',u,ae _ _ aq,by rw[tw];exact aF,by rw[tw];exact bB⟩
  ·exact U
 | .agg cs,v,au,h=>by simp only[a8,aJ,lp,eb]at h au⊢;obtain⟨us,J,U⟩:=h;exact⟨us,J,ZL cs us.toList au U⟩
 | .tuple cs,v,au,h=>by simp only[a8,aJ,lp,eb]at h au⊢;obtain⟨us,J,U⟩:=h;exact⟨us,J,ZM cs us.toList au U⟩
 | .junk,_,_,_=>by simp[lp,eb,a8]
 | .int k n,v,au,h=>by have:=kY ay _ _ au (lK _ _ h);simpa only[lp]using this
 | .bool b,v,au,h=>by have:=kY ay _ _ au (lK _ _ h);simpa only[lp]using this
 | .str s,v,au,h=>by have:=kY ay _ _ au (lK _ _ h);simpa only[lp]using this
 | .ptr a b,v,au,h=>by have:=kY ay _ _ au (lK _ _ h);simpa only[lp]using this
 | .eptr x,v,au,h=>by have:=kY ay _ _ au (lK _ _ h);simpa only[lp]using this
 | .iface t x,v,au,h=>by have:=kY ay _ _ au (lK _ _ h);simpa only[lp]using this
 | .nilp,v,au,h=>by have:=kY ay _ _ au (lK _ _ h);simpa only[lp]using this
 | .func f c,v,au,h=>by have:=kY ay _ _ au (lK _ _ h);simpa only[lp]using this
 | .gmap x,v,au,h=>by have:=kY ay _ _ au (lK _ _ h);simpa only[lp]using this
 | .row a b c,v,au,h=>by have:=kY ay _ _ au (lK _ _ h);simpa only[lp]using this
 | .rptr a b c d e,v,au,h=>by have:=kY ay _ _ au (lK _ _ h);simpa only[lp]using this
 | .hdm a b,v,au,h=>by have:=kY ay _ _ au (lK _ _ h);simpa only[lp]using this
 | .hdi a b c,v,au,h=>by have:=kY ay _ _ au (lK _ _ h);simpa only[lp]using this
 | .cst a,v,au,h=>by have:=kY ay _ _ au (lK _ _ h);simpa only[lp]using this
theorem ZL:∀(cs:List aj) (us:List Value),aO (fun _=>ey) (dq cs)->dm w Z cs us->dm w μ (uT k m cs) us
 |[],us,_,h=>by simpa only[uT,dm]using h
 |c::cs,us,au,h=>by simp only[dm,dq,aO,uT]at h au⊢;obtain⟨u,cj,J,⟨U,h3⟩,h4⟩:=h;exact⟨u,cj,J,⟨Ph c u au.1 U,h3⟩,ZL cs cj au.2 h4⟩
theorem ZM:∀(cs:List aj) (us:List Value),aO (fun _=>ey) (dq cs)->cX w Z cs us->cX w μ (uT k m cs) us
 |[],us,_,h=>by simpa only[uT,cX]using h
 |c::cs,us,au,h=>by simp only[cX,dq,aO,uT]at h au⊢;obtain⟨u,cj,J,U,h4⟩:=h;exact⟨u,cj,J,Ph c u au.1 U,ZM cs cj au.2 h4⟩
end
end
def QR(eT:List bV)(k:aL)(m:Nat)(Q:aj->fP->Prop)(e:Exit)(st:bn):Prop:=
 (e= .ret\/e= .normal)/\match aV st eT with
  |some (c,cy)=>c/\∃o,look k st.e=some o/\o.xs=none/\aJ (fun _=>ey) (eb (aU cy))/\Q (lp k m (aU cy)) o
  |none=>ey
theorem bG.ofN{P:cK}(hm:P.follows .mixedOrders=true){bC:List (Nat×dy)}(aI:fJ P bC=true){f:FuncId}{fn:Func}(aN:P.funcs[f]? =some fn){c:C}{eT:List bV}{n:Nat}(eh:b6 bC c eT n fn=true)
  {args:List aj} (av:args.length<=n) (k:aL) (m:Nat) {Q:aj->fP->Prop} (he:gQ args->c4 P [] c (QR eT k m Q) ⟨j2 0 args,[],[],0,[]⟩):bG P f args ⟨[],[]⟩ fun r ah=> ∃o,Q r o/\ah=⟨[],[(.obj m,o)]⟩:=by
 unfold b6 at eh;split at eh;rotate_left
 ·cases eh
 rename_i code ad;simp only[cr,oG,eN]at eh;obtain⟨⟨⟨ao,Bm⟩,Bg⟩,h4⟩:=eh;replace av:=ha av h4;intro w Z a7 aW ab aM;refine .inl ⟨⟨fn,aN,by simp[ad],by assumption⟩,?_⟩;have kv:=zN aM;have lf:a7.size=args.length:=by simpa using kv
 let X:fp:=⟨w,Z,fA Z ⟨[],[]⟩,fn.ntmps,[]⟩
 have HM:∀k,Z.bx k=none:=fun k=>(ab k).1 rfl;have oZ:∀k,Z.ow k=none:=fun k=>(ab k).2.1 rfl;have HN:∀k j b,¬Z.tr k j b:=fun k=>(ab k).2.2;have pF:c2 X ⟨j2 0 args,[],[],0,[]⟩ {tmps:=a7++Array.replicate (fn.ntmps-a7.size) undef,defers:=[]} w Z:=by
  refine⟨⟨aW.alt,fun k cs ae=>(by simp[look]at ae),aW.inj,fun g o eA=>(by simp[look]at eA),aW.oinj,aW.obx,aW.one,aW.otr⟩,⟨rfl,rfl,rfl,dZ _,fun _ _ _=>rfl,fun b o h=>⟨h,rfl⟩,fun b o h=>.inl h,fun n b h=>h,fun n b h=>(by rw[HM]at h;cases h),fun m n u h=>⟨n,u,h,.inl ⟨rfl,rfl⟩⟩,fun m n u h=>(by rw[oZ]at h;cases h),fun k j _ _ b h=>absurd h (HN k j b),fun k j b h=>absurd h (HN k j b),fun k j b h=>absurd h (HN k j b),fun _ _ _=>rfl⟩,rfl,?_,fun i=>?_,fun k _=>⟨HM k,oZ k,HN k⟩⟩
  ·show(a7++Array.replicate (fn.ntmps-a7.size) undef).size=fn.ntmps;simp;omega
  ·rw[G7];by_cases hi:i<args.length
   ·rw[if_pos Ω];have rH:args[i]? =some args[i]:=cg hi;obtain⟨v,aq,aF⟩:=Fh i aM rH;have az:(a7++Array.replicate (fn.ntmps-a7.size) undef).getD i undef=v:=by
     have Db:a7[i]? =some v:=by simpa using aq
     rw[Array.getD_eq_getD_getElem?,Array.getElem?_append_left Ω,Db];rfl
    show a8 w Z _ ((a7++Array.replicate (fn.ntmps-a7.size) undef).getD i undef);rw[az];simpa[List.getD,rH]using aF
   ·rw[if_neg Ω];simp[a8]
 have M4:=rD hm aI (X:=X) c code (QR eT k m Q) _ ao (he (Pm aM)) _ w Z pF;refine calls_of_wp aN ad (wp_mono M4 fun e bk w' cE=>?_);obtain⟨st',bh,⟨sJ,bE⟩,dk⟩:=cE;cases sQ:aV st' eT with
 |none=>simp[sQ]at bE
 |some x=>
  obtain⟨cq,cy⟩:=x;simp only[sQ]at bE;obtain⟨hx,o,ail,gA,cZ,c6⟩:=bE;obtain⟨oB,g1,g2⟩:=Js aI dk eT fn.results.toList cq cy (by assumption) sQ hx;have MP:=zN g2;obtain⟨v,us,ei,ee,pO,aun⟩:=dk.good.own k o ail;let μ:bc:={A:=bh.A,bx:=fun _=>none,ow:=fun j=>if j= .obj m then bh.ow k else none,tr:=fun _ _ _=>ey}
  have ajm:μ.ow (.obj m)=some (o.n,v):=by simp[μ,ei]
  have dG:bk.defers=[]/\∃v,(results fn bk.tmps).run P w'= .ok v w'/\(fun(e:Ending) w'=> ∃v r ah bh,e= .returned v/\(∃o,Q r o/\ah=⟨[],[(.obj m,o)]⟩)/\a8 w' bh r v/\Good (fun bl=>fA Z ⟨[],[]⟩ bl\/w.heap.size<=bl) w' bh ah.b ah.e/\pw bh ah/\je ah/\qB ⟨w,Z,fA Z ⟨[],[]⟩,0,c5 ⟨[],[]⟩⟩ w' bh) (.returned v) w':=by
   refine⟨dk.defers,?_⟩;have iI:(results fn bk.tmps).run P w'= .ok (if h:oB.toArray.size=1 then oB.toArray[0]else .tuple oB.toArray) w':=by rw[ZZ];simp only[fU,Array.mapM_eq_mapM_toList,Sem.run_map,g1,fZ,gC]
   refine⟨_,iI,_,lp k m (aU cy),⟨[],[(.obj m,o)]⟩,μ,rfl,⟨o,c6,rfl⟩,?_,?_,?_,?_,?_⟩
   ·have mq:a8 w' bh (aU cy) (if h:oB.toArray.size=1 then oB.toArray[0]else .tuple oB.toArray):=by
     match cy,oB,g2,MP with
     |[p],[v],g2,_=>simp only[cX]at g2;obtain⟨u,cj,aq,aF,_⟩:=g2;cases aq;simpa[aU]using aF
     |[],[],g2,_=>simp[aU,a8,cX]
     |p::c8::cy,v::v2::oB,g2,_=>rw[dif_neg Ψ];simp only[aU,a8];exact⟨_,rfl,by simpa using g2⟩
     |[_],[],_,h=>simp at h
     |[],_::_,_,h=>simp at h
     |[_],_::_::_,_,h=>simp at h
     |_::_::_,[],_,h=>simp at h
     |_::_::_,[_],_,h=>simp at h
    refine Ph (Z:=bh) (μ:=μ) (k:=k) (m:=m) ⟨fun b o h=>⟨h,rfl⟩,fun _ _ h=>h.elim,fun _ _ _ h=>h.elim,fun _ _ _=>rfl,fun _ _ _ h=>h.elim⟩ (fun n v h=>?_) _ _ cZ mq;simp[μ,h]
   ·have hY:∀g x,look g [(aL.obj m,o)]=some x->g= .obj m/\x=o:=fun g x h=>by
     simp only[look]at h;split at h
     ·rename_i e;exact⟨e.symm,(eZ h).symm⟩
     ·cases h
    have VS:∀g,(look g [(aL.obj m,o)]).isSome->g= .obj m:=fun g h=>by obtain⟨x,ab⟩:=fo.1 h;exact(hY g x ab).1
    refine⟨dk.good.alt,fun k cs ae=>(by simp[look]at ae),fun k bI bl J=>(by simp[look]at J),fun g x ah8=>?_,fun g fb n n' v v' bl J U _ _ _ _=>(by rw[VS g J,VS fb U]),fun g k n v bl J U=>(by simp[look]at U),fun _=>.inl rfl,fun _ _ _ _ h=>h⟩;obtain⟨rfl,rfl⟩:=hY g x ah8;exact⟨v,us,ajm,ee,pO,fun xs h=>by rw[gA]at h;cases h⟩
   ·intro j;refine⟨fun _=>rfl,fun h=>?_,fun _ _ h=>h⟩;have:j≠ .obj m:=fun e=>by subst e;simp[look]at h
    simp[μ,this]
   ·exact⟨fun _=>rfl,fun _=>by simp[look]⟩
   ·exact⟨dk.fr.os,dk.fr.tape,dk.fr.output,dk.fr.size,dk.fr.block,dk.fr.keep,dk.fr.fresh,fun n b h=>(by rw[HM]at h;cases h),fun n b h=>(by rw[HM]at h;cases h),fun m n u h=>(by rw[oZ]at h;cases h),fun m n u h=>(by rw[oZ]at h;cases h),fun _ _ _ _ _ h=>h.elim,fun _ _ _ h=>h.elim,fun _ _ _ h=>h.elim,dk.fr.sh⟩
  rcases sJ with rfl|rfl<;>exact dG
end
end Go.Pv
namespace Go.Proofs.YtohaalphocaebaaGreatDoor
section
open Go Go.Pv
open Classical in
theorem aqz{s b:List ai}(af:ev s)(ad:ev b){E:List (T×T)}(hm:mgu s E=some b):bK aw 90 [.slice 5 .no (s.map ai.e),.slice 5 .no (b.map ai.e),.bool true] (.tuple [.slice 5 .no ((dN s b).map ai.e),.int .i64 (wW s (some b))]):=by
 have aS:=Qf s b af.len;have bf:=aaW af ad;have au:=N8 af hm;simp only[wW];by_cases g:s=b
 ·rw[hb g]at aS;rw[if_pos (au.2 g),au.2 g];clear bf af ad hm au g;refine bo gg LI Oo fun aQ=>?_;unfold Gv;exact cz
 ·rw[h0 g]at aS;rw[if_neg fun h=>g (au.1 h)];generalize dN s b=w at bf;clear af ad hm au g;refine bo gg LI Oo fun aQ=>?_;unfold Gv;exact cz
theorem aqA(s:List ai):bK aw 90 [.slice 5 .no (s.map ai.e),.slice 5 .no [],.bool false] (.tuple [.slice 5 .no [],.int .i64 1]):=by refine bo gg LI Oo fun aQ=>?_;unfold Gv;exact cz
open Classical in
theorem apK{s:List ai}(af:ev s){x y:T}(ab:x.fit=true)(aC:y.fit=true):bK aw 40 [.slice 5 .no (s.map ai.e),x.e,y.e] (.tuple [.slice 5 .no ((BV s (mgu s [(x,y)])).map ai.e),.int .i64 (wW s (mgu s [(x,y)]))]):=by
 have kS:=pT af;have aS:=Ac ab;have bf:=Ac aC;have b4:=aa0 af ab aC;cases hm:mgu s [(x,y)]with
 |none=>rw[hm]at b4;have ep:=aqA s;clear af ab aC hm;simp only[fk,lv,k1,nn,BV,wW]at b4⊢;refine bo gg Uf X9 fun aQ=>?_;unfold KK;exact cz
 |some b=>rw[hm]at b4;have ep:=aqz af (af.mgu (by simp[T.fit_ok ab,T.fit_ok aC]) hm) hm;simp only[BV];generalize wW s (some b)=c at ep;generalize dN s b=w at ep;clear af ab aC hm;simp only[fk,iB,oJ]at b4⊢;refine bo gg Uf X9 fun aQ=>?_;unfold KK;exact cz
def B5(s:br):aj:= .agg [.int .i64 s.n,.slice 5 .no (s.b.map ai.e),.slice 1 (.own (.obj 841)) (s.d.map cF),.slice 2 .no (s.k.map b8.e),.slice 2 .no (s.m.map bj.e)]
theorem agI(s:br)(ad:s.b.length<=1000000)(aG:∀x∈s.d,x.length<=1000000)(ae:s.k.length<=1000000)(hm:s.m.length<=68719470000):bG aw 41 [s.e] ⟨[],[]⟩ fun r ah=> ∃o,(r=B5 s/\o=⟨s.d.length,23,1,none⟩)/\ah=⟨[],[(.obj 841,o)]⟩:=by
 obtain⟨n,b,d,k,m⟩:=s;simp only[br.e,B5]at ad aG ae hm⊢;have kB:=FF b ad;refine bG.ofN mixed gg Un Yh Ψ (.loc 13) 841 fun aQ=>?_;unfold KS;have h7:d.length<=68719476736:=by simp[gQ,gi,gH,lim]at aQ;omega
 clear aQ;simp;(with_reducible repeat' first|refine ak ?_|refine aA kB ?_|refine aB kB ?_|simp);refine hI (fun i (L:List (List ai))=>⟨[(1,.ptr (.loc 0) 0),(2,.ptr (.loc 1) 0),(3,.ptr (.loc 5) 0),(14,.slice 1 .no (d.map cF)),(15,.int .i64 d.length),(16,.int .i64 i)],[(.loc 0,[.int .i64 n,.slice 5 .no (b.map ai.e),.slice 1 .no (d.map cF),.slice 2 .no (k.map b8.e),.slice 2 .no (m.map bj.e)]),(.loc 1,[.int .i64 0,.slice 5 .nil [],.slice 1 .nil [],.slice 2 .nil [],.slice 2 .nil []]),(.loc 5,[.int .i64 n,.slice 5 .no (b.map ai.e),.slice 1 (.own (.loc 13)) (L.map cF),.slice 2 .nil [],.slice 2 .nil []])],[(.loc 13,⟨L.length,23,1,none⟩)],41,[]⟩) d.length (fun i L=>L=d.take i) [] b7 Ψ (fun L ag _=>?_) (fun i L hi ag _=>?_)
 ·rw[lQ]at ag;subst ag;simp;(with_reducible repeat' first|refine ak ?_|simp);all_goals first|(refine⟨by unfold lim;omega,?_⟩)|skip
  (with_reducible repeat' first|refine ak ?_|simp);all_goals refine⟨.inl rfl,?_⟩
  all_goals simp[Y2,aV,aY,aU,lp,uT,Pv.look,aJ,aO]
 ·obtain⟨x,ab,cY⟩:=eI hi;have uD:=aa4 (aG x (eF ab));have av:L.length<=i:=by rw[ag];simp;omega
  simp[hi,cY];(with_reducible repeat' first|refine ak ?_|refine aA uD ?_|refine aB uD ?_|simp[cY,hi]);all_goals first|(refine⟨by unfold lim;omega,?_⟩)|skip
  (with_reducible repeat' first|refine ak ?_|simp);refine bR.rng (L++[x]) hi (by rw[mC ab,ag]) ?_;simp;exact⟨by simp[fresh,aO,aJ,cn,inObs,Pv.look,vW],ek (by simp[fresh,aO,aJ,cn,inObs,Pv.look,vW]),en (by simp[fresh,aO,aJ,dW,inObs,Pv.look,vW]),Ψ⟩
open Classical in
theorem aaP{s:br}(h:j3 s)(hm:kZ s.m){x y:T}(ab:x.fit=true)(aC:y.fit=true)(bx:dK s.n x=true)(fi:dK s.n y=true):bK aw 16 [s.e,x.e,y.e] (na (jV s x y)):=by
 have aS:=aa5 h hm ab aC bx fi;have bf:=apK h.1.b ab aC;have b4:=agI s h.1.b.len (fun z bd=>(h.1.d z bd).len) (by have:=q0 h.1.k;omega) (hm.len h.1.m);obtain⟨G,iH,aW⟩:=hm;have aG:=Z9 h.2;unfold jV;cases hu:mgu s.b [(x,y)]with
 |none=>rw[hu]at bf;have ep:=JZ h.1 iH aW;simp only;generalize fy s=O at ep;clear h hu;obtain⟨n,b,d,k,m⟩:=s;simp only[br.e,B5,BV,wW,na,nn]at aS bf b4 ep⊢;refine bo gg LB Oh fun aQ=>?_;unfold Gp;clear aQ;simp;(with_reducible repeat' first|refine ak ?_|refine aA aS ?_|refine aB aS ?_|refine aA bf ?_|refine aB bf ?_|simp);refine cQ.new b4 (dP.of uP Ψ Ψ) aH aH Ψ ?_;rintro r ah ⟨o,⟨rfl,rfl⟩,rfl⟩;refine⟨fun m hm=>.inr Ψ,?_⟩;simp[B5,cb];exact cz
 |some b3=>
  rw[hu]at bf;by_cases au:dN s.b b3=[]
  ·simp only[if_pos au];simp only[BV,wW,if_pos au,au,nn]at bf;clear h hu b4 au;obtain⟨n,b,d,k,m⟩:=s;simp only[br.e,na,lv,k1,dY]at aS bf⊢;refine bo gg LB Oh fun aQ=>?_;unfold Gp;exact cz
  ·simp only[if_neg au];simp only[BV,wW,if_neg au]at bf;have ep:=JZ (h.1.dif ab aC bx fi hu) iH aW;generalize dN s.b b3=w at bf ep;generalize fy {s with d:=s.d++[w]}=O at ep;clear h hu;obtain⟨n,b,d,k,m⟩:=s;simp only[br.e,B5,na]at aS bf b4 ep⊢;generalize sC:d++[w]=D at ep;have hw:cF w= .slice 5 .no (w.map ai.e):=rfl;refine bo gg LB Oh fun aQ=>?_;unfold Gp;clear aQ;simp only at aG;simp;(with_reducible repeat' first|refine ak ?_|refine aA aS ?_|refine aB aS ?_|refine aA bf ?_|refine aB bf ?_|simp);refine cQ.new b4 (dP.of uP Ψ Ψ) aH aH Ψ ?_;rintro r ah ⟨o,⟨rfl,rfl⟩,rfl⟩;refine⟨fun m hm=>.inr Ψ,?_⟩;simp[B5,cb];(with_reducible repeat' first|refine ak ?_|simp);all_goals first|(refine⟨by unfold lim;omega,?_⟩)|skip
   rw[<-hw,p8,GJ,sC];((with_reducible repeat' first|refine ak ?_|refine aA ep ?_|refine aB ep ?_|simp|((first|apply bJ|apply bM|apply bL)<;>intro h<;>try simp at h))<;>(try exact ck));all_goals simp[bp,YO,aV,aY,aU]
open Classical in
theorem apO(r:jU)(fu:iN r.m->kZ r.m)(a b:bX):bK aw 14 [r.e,enc a,enc b] (.bool (FZ r a b)):=by
 have aS:=Qg r fu [a,b];simp only[gZ,nn]at aS;by_cases g:ng r/\qI r.n [a,b];rotate_left
 ·rw[abR g];rw[h0 g]at aS;clear g fu;obtain⟨n,b3,d,k,m⟩:=r;simp only[jU.e]at aS⊢;refine bo gg Uh Yb fun aQ=>?_;unfold KM;exact cz
 rw[hb g]at aS;obtain⟨⟨s,rfl,af⟩,aN⟩:=g;obtain⟨x,rfl,_⟩:=bX.fits_ex (G0 aN a Ψ);obtain⟨y,rfl,_⟩:=bX.fits_ex (G0 aN b Ψ);obtain⟨⟨ab,aC⟩,bx,fi⟩:=UB aN;have hm:kZ s.m:=fu af.1.m;have bf:=aaP af hm ab aC bx fi;rw[QM af aN];generalize jV s x y=O at bf;rw[uZ,kn,kn]at aS;rw[uZ,kn,kn];clear fu aN af ab aC bx fi;obtain⟨n,b,d,k,m⟩:=s;cases O<;>simp only[br.e,na,Option.isSome,Option.isNone]at aS bf⊢;all_goals refine bo gg Uh Yb fun aQ=>?_;unfold KM
 all_goals simp
 all_goals(with_reducible repeat' first|refine ak ?_|refine aA aS ?_|refine aB aS ?_|refine aA bf ?_|refine aB bf ?_|simp)
 all_goals simp[bp,YQ,aV,aY,aU]
structure tN (n:Int) (m:Nat) (t:T):Prop where
 k:t.ok=true
 b:dK n t=true
 l:eD t<=m
 o:∀v,t.occ v=true->0<=v/\v<n
 w:iQ t=true
theorem qE.al{n:Int}{t:T}(h:qE n t):tN n 2 t:=by have:=h.f;simp only[T.fit,cr]at this;exact⟨this.1,h.b,h.l,h.o,h.w⟩
theorem tN.mono{n:Int}{m hM:Nat}{t:T}(h:tN n m t)(hm:m<=hM):tN n hM t:=⟨h.k,h.b,ha h.l hm,h.o,h.w⟩
theorem acp{n:Int}(au:n<=100001)(t:T):∀{m:Nat},tN n m t->∀c:dB,tN n (2*eD t) (iu n t c).1:=by
 induction t with
 |pair a b dz dA=>
  intro m h c;have ae:=h.k;have ad:=h.b;have hw:=h.w;simp only[T.ok,dK,iQ,cr]at ae ad hw;have bg:tN n (eD a) a:=⟨ae.1,ad.1,dZ _,fun v az=>h.o v (by simp[T.occ,az]),hw.1⟩;have gd:tN n (eD b) b:=⟨ae.2,ad.2,dZ _,fun v az=>h.o v (by simp[T.occ,az]),hw.2⟩;simp only[iu];split
  ·refine(yD au Ω _).al.mono ?_;have:=NL (.pair a b);omega
  ·have J:=dz bg c.next;have U:=dA gd (iu n a c.next).2;refine⟨by simp[T.ok,J.k,U.k],by simp[dK,J.b,U.b],?_,fun v az=>?_,by simp[iQ,J.w,U.w]⟩
   ·have:=J.l;have:=U.l;simp only[eD];omega
   ·simp only[T.occ,lP]at az;exact az.elim (J.o v) (U.o v)
 |_=>
  intro m h c;simp only[iu];split
  ·exact(yD au Ω _).al.mono (by simp[eD])
  ·exact⟨h.k,h.b,by simp[eD],h.o,h.w⟩
theorem tN.a{n:Int}{t:T}(h:tN n 4 t):ps n t:=by refine⟨?_,h.b,h.l,h.o,h.w⟩;have:=PI h.l;simp only[T.fit,cr,eN];exact⟨h.k,Ω⟩
theorem acq{n:Int}(au:n<=100001){t:T}(h:qE n t)(c:dB):ps n (iu n t c).1:=((acp au t h.al c).mono (by have:=h.l;omega)).a
theorem small.tg{N:Nat}{s:br}(h:small N s):kZ s.m:=⟨[[97],[98]],Ψ,h.t⟩
theorem ao3(h:j3 dY):small 0 dY:=⟨h,rfl,Ω,by simp[dY],by simp[dY],by simp[dY,kG]⟩
theorem CF(l:List ai)(av:l.length<=1000000)(t:T):bK aw 13 [t.e,.slice 5 .no (l.map ai.e)] (t.ap (aR l)).e:=by have:=apY l av t;rwa[PX]at this
theorem apM{s:br}(h:j3 s)(hm:kZ s.m){x y:T}(ab:x.fit=true)(aC:y.fit=true)(bx:dK s.n x=true)(fi:dK s.n y=true):bK aw 14 [s.e,x.e,y.e] (.bool (jV s x y).isNone):=by have:=apO s.r (fun _=>hm) x.tm y.tm;rwa[QM h (LQ ab aC bx fi),uZ,kn,kn]at this
theorem apL{s:br}(h:j3 s)(hm:kZ s.m){x y:T}(ab:x.fit=true)(aC:y.fit=true)(bx:dK s.n x=true)(fi:dK s.n y=true):bK aw 15 [s.e,x.e,y.e] (.bool (jC s x y).isNone):=by have:=apN s.r (fun _=>hm) x.tm y.tm;rwa[QL h (LQ ab aC bx fi),uZ,kn,kn]at this
theorem aa2{s:br}{o:Option br}(h:∀t,o=some t->small 4 t):bK aw 7 [(o.getD dY).e] (.tuple [.slice 5 .no ((de (o.getD dY)).map ai.e),.bool true]):=by
 cases o with
 |none=>exact Qe (ao3 (T1 Ω Ω)) ⟨[],Ψ,by simp[kG,dY]⟩
 |some t=>exact Qe (h t rfl) (h t rfl).tg
theorem Qy{s:br}:(de s).length=s.n.toNat:=by simp[de]
def me(a:T):List aj:=[.int .i64 a.kind,.int .i64 a.int,.str a.name,.slice 4 .no (a.args.map T.e)]
def iY(s:br):List aj:=[.int .i64 s.n,.slice 5 .no (s.b.map ai.e),.slice 1 .no (s.d.map cF),.slice 2 .no (s.k.map b8.e),.slice 2 .no (s.m.map bj.e)]
structure FX (t:List (Nat×aj)) (B:List (aL×List aj)) (s:br) (a b:T):Prop where
 h3:Pv.get 3 t= .ptr (.loc 0) 0
 h4:Pv.get 4 t= .ptr (.loc 1) 0
 h5:Pv.get 5 t= .ptr (.loc 2) 0
 b0:Pv.look (.loc 0) B=some (iY s)
 b1:Pv.look (.loc 1) B=some (me a)
 b2:Pv.look (.loc 2) B=some (me b)
structure Ak (s:br) (a b:T) (w:List ai) (x y:T) (p r:Bool):Prop where
 kA:bK aw 13 [a.e,.slice 5 .no (w.map ai.e)] x.e
 kB:bK aw 13 [b.e,.slice 5 .no (w.map ai.e)] y.e
 kS:bK aw 12 [x.e,y.e] (.bool r)
 kI:p=true->bK aw 9 [.agg (iY s),.slice 5 .no (w.map ai.e)] (.bool true)
theorem adh{t:List (Nat×aj)}{B:List (aL×List aj)}{n:Nat}{s:br}{a b pV j6 tD nk:T}{eY dD:List ai}{cP c8 eu fe:Bool}(H:FX t B s a b)(ym:Ak s a b eY pV j6 cP eu)(yn:Ak s a b dD tD nk c8 fe)(jR:cP=true->eu=false)(z2:c8=true->fe=true)
  (k9:bK aw 14 [.agg (iY s),a.e,b.e] (.bool !cP)) (k8:bK aw 15 [.agg (iY s),a.e,b.e] (.bool !c8))
  (w5:Pv.get 10 t= .bool cP) (mL:Pv.get 12 t= .bool c8) (w6:Pv.get 13 t= .slice 5 .no (eY.map ai.e)) (w7:Pv.get 14 t= .bool true) (w8:Pv.get 15 t= .slice 5 .no (dD.map ai.e)) (w9:Pv.get 16 t= .bool true):
  c4 aw [] KX (bp zI (.bool true)) ⟨t,B,[],n,[]⟩:=by
 obtain⟨h3,h4,h5,b0,b1,b2⟩:=H;obtain⟨vQ,vS,uB,uz⟩:=ym;obtain⟨vR,vT,uC,uA⟩:=yn;unfold iY at b0 k9 k8 uz uA;unfold me at b1 b2;unfold KX;cases cP<;>cases c8
 ·clear uz uA;simp[eX,h3,h4,h5,w5,mL,w6,w7,w8,w9,b0,b1,b2];(with_reducible repeat' first|refine ak ?_|refine aA k9 ?_|refine aB k9 ?_|refine aA k8 ?_|refine aB k8 ?_|simp[eX,h3,h4,h5,w5,mL,w6,w7,w8,w9,b0,b1,b2]);simp[bp,zI,aV,aY,aU];simp[eX]
 ·have kI:=uA rfl;have z:=z2 rfl;subst z;clear uz uA;simp[eX,h3,h4,h5,w5,mL,w6,w7,w8,w9,b0,b1,b2];(with_reducible repeat' first|refine ak ?_|refine aA k9 ?_|refine aB k9 ?_|refine aA k8 ?_|refine aB k8 ?_|refine aA kI ?_|refine aB kI ?_|refine aA vR ?_|refine aB vR ?_|refine aA vT ?_|refine aB vT ?_|refine aA uC ?_|refine aB uC ?_|simp[eX,h3,h4,h5,w5,mL,w6,w7,w8,w9,b0,b1,b2]);simp[bp,zI,aV,aY,aU];simp[eX]
 ·have kI:=uz rfl;have z:=jR rfl;subst z;clear uz uA;simp[eX,h3,h4,h5,w5,mL,w6,w7,w8,w9,b0,b1,b2];(with_reducible repeat' first|refine ak ?_|refine aA k9 ?_|refine aB k9 ?_|refine aA k8 ?_|refine aB k8 ?_|refine aA kI ?_|refine aB kI ?_|refine aA vQ ?_|refine aB vQ ?_|refine aA vS ?_|refine aB vS ?_|refine aA uB ?_|refine aB uB ?_|simp[eX,h3,h4,h5,w5,mL,w6,w7,w8,w9,b0,b1,b2]);simp[bp,zI,aV,aY,aU];simp[eX]
 ·have kI:=uz rfl;have hz:=uA rfl;have z:=jR rfl;have QB:=z2 rfl;subst z QB;clear uz uA;simp[eX,h3,h4,h5,w5,mL,w6,w7,w8,w9,b0,b1,b2];(with_reducible repeat' first|refine ak ?_|refine aA k9 ?_|refine aB k9 ?_|refine aA k8 ?_|refine aB k8 ?_|refine aA kI ?_|refine aB kI ?_|refine aA hz ?_|refine aB hz ?_|refine aA vQ ?_|refine aB vQ ?_|refine aA vS ?_|refine aB vS ?_|refine aA uB ?_|refine aB uB ?_|refine aA vR ?_|refine aB vR ?_|refine aA vT ?_|refine aB vT ?_|refine aA uC ?_|refine aB uC ?_|simp[eX,h3,h4,h5,w5,mL,w6,w7,w8,w9,b0,b1,b2]);simp[bp,zI,aV,aY,aU];simp[eX]
theorem adi{t:List (Nat×aj)}{s t1 t2:br}{a b pV j6 tD nk:T}{eY dD:List ai}{cP c8 r0 eu fe:Bool}(H:FX t [(.loc 0,iY s),(.loc 1,me a),(.loc 2,me b)] s a b)(ym:Ak s a b eY pV j6 cP eu)(yn:Ak s a b dD tD nk c8 fe)(jR:cP=true->eu=false)(z2:c8=true->fe=true)
  (z3:cP=false->r0=true) (z4:c8=false->r0=false)
  (k9:bK aw 14 [.agg (iY s),a.e,b.e] (.bool !cP)) (k8:bK aw 15 [.agg (iY s),a.e,b.e] (.bool !c8))
  (qJ:bK aw 16 [.agg (iY s),a.e,b.e] (.tuple [.agg (iY t1),.bool cP])) (qK:bK aw 17 [.agg (iY s),a.e,b.e] (.tuple [.agg (iY t2),.bool c8]))
  (s8:bK aw 7 [.agg (iY t1)] (.tuple [.slice 5 .no (eY.map ai.e),.bool true])) (s9:bK aw 7 [.agg (iY t2)] (.tuple [.slice 5 .no (dD.map ai.e),.bool true]))
  (jD:Pv.get 8 t= .bool r0):
  c4 aw [] KY (bp zI (.bool true)) ⟨t,[(.loc 0,iY s),(.loc 1,me a),(.loc 2,me b)],[],142,[]⟩:=by
 have key:=fun du (Kd:FX du [(.loc 0,iY s),(.loc 1,me a),(.loc 2,me b),(.loc 142,iY t1),(.loc 143,iY t2)] s a b)=>adh (n:=144) Kd ym yn jR z2 k9 k8;obtain⟨h3,h4,h5,_,_,_⟩:=H;have b0:Pv.look (.loc 0) [(.loc 0,iY s),(.loc 1,me a),(.loc 2,me b),(.loc 142,iY t1),(.loc 143,iY t2)]=some (iY s):=rfl;have b1:Pv.look (.loc 1) [(.loc 0,iY s),(.loc 1,me a),(.loc 2,me b),(.loc 142,iY t1),(.loc 143,iY t2)]=some (me a):=rfl;have b2:Pv.look (.loc 2) [(.loc 0,iY s),(.loc 1,me a),(.loc 2,me b),(.loc 142,iY t1),(.loc 143,iY t2)]=some (me b):=rfl;clear ym yn jR z2;unfold iY at*;unfold me at*;unfold KY;cases cP<;>cases c8
 ·have:=(z3 rfl).symm.trans (z4 rfl);cases this
 ·have z:=z3 rfl;subst z;clear z3 z4;simp[eX,h3,h4,h5,jD];(with_reducible repeat' first|refine ak ?_|refine aA k9 ?_|refine aB k9 ?_|refine aA k8 ?_|refine aB k8 ?_|refine aA qJ ?_|refine aB qJ ?_|refine aA qK ?_|refine aB qK ?_|refine aA s8 ?_|refine aB s8 ?_|refine aA s9 ?_|refine aB s9 ?_|simp[eX,h3,h4,h5,jD]);exact key _ ⟨by simp[eX,h3],by simp[eX,h4],by simp[eX,h5],b0,b1,b2⟩ (by simp[eX]) (by simp[eX]) (by simp[eX]) (by simp[eX]) (by simp[eX]) (by simp[eX])
 ·have z:=z4 rfl;subst z;clear z3 z4;simp[eX,h3,h4,h5,jD];(with_reducible repeat' first|refine ak ?_|refine aA k9 ?_|refine aB k9 ?_|refine aA k8 ?_|refine aB k8 ?_|refine aA qJ ?_|refine aB qJ ?_|refine aA qK ?_|refine aB qK ?_|refine aA s8 ?_|refine aB s8 ?_|refine aA s9 ?_|refine aB s9 ?_|simp[eX,h3,h4,h5,jD]);exact key _ ⟨by simp[eX,h3],by simp[eX,h4],by simp[eX,h5],b0,b1,b2⟩ (by simp[eX]) (by simp[eX]) (by simp[eX]) (by simp[eX]) (by simp[eX]) (by simp[eX])
 ·clear z3 z4;simp[eX,h3,h4,h5,jD];(with_reducible repeat' first|refine ak ?_|refine aA k9 ?_|refine aB k9 ?_|refine aA k8 ?_|refine aB k8 ?_|refine aA qJ ?_|refine aB qJ ?_|refine aA qK ?_|refine aB qK ?_|refine aA s8 ?_|refine aB s8 ?_|refine aA s9 ?_|refine aB s9 ?_|simp[eX,h3,h4,h5,jD]);exact key _ ⟨by simp[eX,h3],by simp[eX,h4],by simp[eX,h5],b0,b1,b2⟩ (by simp[eX]) (by simp[eX]) (by simp[eX]) (by simp[eX]) (by simp[eX]) (by simp[eX])
open Classical in
theorem aaR(d:List Int)(aG:sk d):bK aw 4 [.slice 1 .no (ic d)] (.bool true):=by
 by_cases DG:1048576<d.length
 ·have cJ:(1048576:Int)<d.length:=Ω
  refine bo aaB Ur Yl fun aQ=>?_;unfold KW;exact cz
 ·have av:d.length<=10000000:=Ω
  have ahH:¬(1048576:Int)<d.length:=Ω
  have dp:=apW d aG av 0 Ω 4 Ω;have oe:=akq d 0 (n:=4) Ω;generalize EC d 0 4=s at dp oe;have be:bK aw 10 [.slice 1 .no (ic d),.int .i64 60,.int .i64 3,.int .i64 4] (eg 3 4 (lC d 60)).1.e:=apX d aG av 60 Ω 3 Ω 4 Ω;have J9:=yD (n:=4) Ω (z:=3) Ω (lC d 60);generalize (eg 3 4 (lC d 60)).1=a at be J9;have jE:bK aw 11 [.slice 1 .no (ic d),.int .i64 80,a.e,.int .i64 4] (iu 4 a (lC d 80)).1.e:=apV d aG av 80 Ω a 4 Ω;have wH:=J9.a;have u6:=acq (n:=4) Ω J9 (lC d 80);generalize (iu 4 a (lC d 80)).1=b at jE u6;clear J9;have ea:=oe.small Ω;have ok:=oe.s.ok;have tg:=oe.s.tg.w;have jb:s.n=(4:Nat):=oe.s.n;have C1:dK s.n a=true:=by rw[jb];exact wH.b
  have lz:dK s.n b=true:=by rw[jb];exact u6.b
  have qJ:=aaP ok tg wH.f u6.f C1 lz;have qK:=aaQ ok tg wH.f u6.f C1 lz;have k9:=apM ok tg wH.f u6.f C1 lz;have k8:=apL ok tg wH.f u6.f C1 lz;have lV:=adj oe wH u6;have aq:∀t,jC s a b=some t\/jV s a b=some t->small 4 t:=fun t aI=>(X2 (n:=4) oe Ω wH u6 aI).1;have aF:=fun t=>ak0 (t:=t) oe wH u6;have H8:=Qe ea tg;have vN:(de s).length<=1000000:=by rw[Qy];omega
  have H3:=CF (de s) vN a;have H4:=CF (de s) vN b;have kI:∀t,jC s a b=some t\/jV s a b=some t->bK aw 9 [s.e,.slice 5 .no ((de t).map ai.e)] (.bool true):=fun t aI=>by have:=aqF ok tg jb (aF t aI).1;rwa[hb (aF t aI).2.1]at this
  generalize jC s a b=ee at qK k8 lV aq aF kI;generalize jV s a b=ei at qJ k9 lV aq aF kI;have sM:(de (ei.getD dY)).length<=1000000:=by
   cases ei with
   |none=>simp[de,dY]
   |some t=>rw[Qy];have:=(aq t (.inr rfl)).n;simp only[iB];omega
  have ml:(de (ee.getD dY)).length<=1000000:=by
   cases ee with
   |none=>simp[de,dY]
   |some t=>rw[Qy];have:=(aq t (.inl rfl)).n;simp only[iB];omega
  have s8:=aa2 (s:=s) (o:=ei) (fun t aI=>aq t (.inr aI));have s9:=aa2 (s:=s) (o:=ee) (fun t aI=>aq t (.inl aI));have vQ:=CF (de (ei.getD dY)) sM a;have vS:=CF (de (ei.getD dY)) sM b;have vR:=CF (de (ee.getD dY)) ml a;have vT:=CF (de (ee.getD dY)) ml b;have f1:ei=none->a.ap (aR (de s))=b.ap (aR (de s)):=lV.1;have f2:ee=none->a.ap (aR (de s))≠b.ap (aR (de s)):=lV.2;have f3:∀t,ei=some t->a.ap (aR (de t))≠b.ap (aR (de t)):=fun t aI=>(aF t (.inr aI)).2.2.2 aI;have f4:∀t,ee=some t->a.ap (aR (de t))=b.ap (aR (de t)):=fun t aI=>(aF t (.inl aI)).2.2.1 aI;have uz:∀t,ei=some t->bK aw 9 [s.e,.slice 5 .no ((de t).map ai.e)] (.bool true):=fun t aI=>kI t (.inr aI);have uA:∀t,ee=some t->bK aw 9 [s.e,.slice 5 .no ((de t).map ai.e)] (.bool true):=fun t aI=>kI t (.inl aI);have Eo:=Qr (a.ap (aR (de s))) (b.ap (aR (de s)));clear lV aq aF kI ea oe ok tg C1 lz wH u6 vN sM ml;have uB:=Qr (a.ap (aR (de (ei.getD dY)))) (b.ap (aR (de (ei.getD dY))));have uC:=Qr (a.ap (aR (de (ee.getD dY)))) (b.ap (aR (de (ee.getD dY))));simp only[na]at qJ qK;have nQ:decide (a.ap (aR (de s))=b.ap (aR (de s)))=true\/decide (a.ap (aR (de s))=b.ap (aR (de s)))=false:=by cases decide (a.ap (aR (de s))=b.ap (aR (de s)))<;>simp
  have g1:ei.isSome=false->decide (a.ap (aR (de s))=b.ap (aR (de s)))=true:=fun h=>hb (f1 (by simpa using h));have g2:ee.isSome=false->decide (a.ap (aR (de s))=b.ap (aR (de s)))=false:=fun h=>h0 (f2 (by simpa using h));have g3:ei.isSome=true->decide (a.ap (aR (de (ei.getD dY)))=b.ap (aR (de (ei.getD dY))))=false:=fun h=>by obtain⟨t,rfl⟩:=fo.1 h;exact h0 (f3 t rfl)
  have g4:ee.isSome=true->decide (a.ap (aR (de (ee.getD dY)))=b.ap (aR (de (ee.getD dY))))=true:=fun h=>by obtain⟨t,rfl⟩:=fo.1 h;exact hb (f4 t rfl)
  have gW:ei.isSome=true->bK aw 9 [s.e,.slice 5 .no ((de (ei.getD dY)).map ai.e)] (.bool true):=fun h=>by obtain⟨t,rfl⟩:=fo.1 h;exact uz t rfl
  have qW:ee.isSome=true->bK aw 9 [s.e,.slice 5 .no ((de (ee.getD dY)).map ai.e)] (.bool true):=fun h=>by obtain⟨t,rfl⟩:=fo.1 h;exact uA t rfl
  rw[show ei.isNone= !ei.isSome by cases ei<;>rfl]at k9;rw[show ee.isNone= !ee.isSome by cases ee<;>rfl]at k8;clear f1 f2 f3 f4 uz uA;generalize decide (a.ap (aR (de s))=b.ap (aR (de s)))=r0 at Eo g1 g2 nQ;generalize decide (a.ap (aR (de (ei.getD dY)))=b.ap (aR (de (ei.getD dY))))=eu at uB g3;generalize decide (a.ap (aR (de (ee.getD dY)))=b.ap (aR (de (ee.getD dY))))=fe at uC g4;generalize a.ap (aR (de s))=xA0 at Eo H3;generalize b.ap (aR (de s))=xB0 at Eo H4;generalize a.ap (aR (de (ei.getD dY)))=xA1 at uB vQ;generalize b.ap (aR (de (ei.getD dY)))=xB1 at uB vS;generalize a.ap (aR (de (ee.getD dY)))=xA2 at uC vR;generalize b.ap (aR (de (ee.getD dY)))=xB2 at uC vT;generalize de s=w0 at H8 H3 H4;generalize de (ei.getD dY)=eY at s8 vQ vS gW;generalize de (ee.getD dY)=dD at s9 vR vT qW;generalize ei.getD dY=t1 at qJ s8;generalize ee.getD dY=t2 at qK s9;generalize ei.isSome=cP at qJ k9 g1 g3 gW;generalize ee.isSome=c8 at qK k8 g2 g4 qW;have ym:Ak s a b eY xA1 xB1 cP eu:=⟨vQ,vS,uB,gW⟩;have yn:Ak s a b dD xA2 xB2 c8 fe:=⟨vR,vT,uC,qW⟩;have key:=fun du (Kd:FX du [(.loc 0,iY s),(.loc 1,me a),(.loc 2,me b)] s a b)=>adi Kd ym yn g3 g4 g1 g2 k9 k8 qJ qK s8 s9;clear vQ vS uB gW vR vT uC qW ym yn g1 g2 g3 g4 k9 k8 qJ qK s8 s9 nQ;simp only[br.e]at dp H8⊢;refine bo aaB Ur Yl fun aQ=>?_;unfold KW;simp;(with_reducible repeat' first|refine ak ?_|refine aA dp ?_|refine aB dp ?_|refine aA be ?_|refine aB be ?_|refine aA jE ?_|refine aB jE ?_|refine aA H8 ?_|refine aB H8 ?_|refine aA H3 ?_|refine aB H3 ?_|refine aA H4 ?_|refine aB H4 ?_|refine aA Eo ?_|refine aB Eo ?_|simp[ahH]);exact key _ ⟨rfl,rfl,rfl,rfl,rfl,rfl⟩ rfl
end
section
open Go Go.Pv Go.ChangeShapes Go.WideShapes Go.ChangeAt Go.RowKit
theorem aoq:ownKnob aw.godebug=none:=by kernel_rfl
theorem aop:laidOutB aw=true:=by kernel_rfl
theorem acU:aw.cellsOf 5=1:=by kernel_rfl
theorem Rr(w:World)(Z:bc):∀xs:List Int,dH w Z 1 (ic xs) (xs.map (Value.int .u8))
 |[]=>by simp[ic,dH]
 |x::xs=>by simp only[ic,gZ,dH];exact⟨.int .u8 x,_,rfl,⟨by simp[a8],rfl,by intro c ao;simp[pX]at ao;subst ao;rfl⟩,Rr w Z xs⟩
def AM(b off n:Nat):bc:=⟨fun b3 o=>b3=b/\off<=o/\o<off+n,fun _=>none,fun _=>none,fun _ _ _=>ey⟩
theorem BH(w:World)(A:Nat->Nat->Prop)(b:Nat):∀(us:List Value) (off:Nat),(∀i u,us[i]? =some u->A b (off+i)/\w.cell? ⟨b,off+i,none⟩=some u)->mx w A b off us
 |[],_,_=>trivial
 |u::us,off,h=>⟨by simpa using h 0 u rfl,BH w A b us (off+1) fun i fl hu=>by have:=h (i+1) fl (by simpa using hu);rwa[show off+(i+1)=off+1+i from by omega]at this⟩
theorem Lc{f:FuncId}{fn:Func}(qg:aw.funcs[f]? =some fn)(Lq:∀args w,(callFunc f args).run aw w= .ok (.enter f args) w){w:World}{Z:bc}{args:List aj}{a7:Array Value}(h:bK aw f args (.bool true))(aI:∀k j b,¬Z.tr k j b)(be:∀b o,Z.A b o->b<w.heap.size)(ad:∀k,Z.bx k=none)(ay:∀k,Z.ow k=none)(aM:cX w Z args a7.toList):
  Calls aw f a7 w fun e w'=>e= .returned (.bool true)/\Below w.heap.size w w':=by
 have aW:Pv.Good (fA Z ⟨[],[]⟩) w Z [] []:=⟨be,fun k cs ae=>by simp[Pv.look]at ae,fun k bI bl J=>by simp[Pv.look]at J,fun g o ae=>by simp[Pv.look]at ae,fun g fb n n' v v' bl J=>by simp[Pv.look]at J,fun g k n v bl J=>by simp[Pv.look]at J,fun k=>.inl (ad k),fun _ _ k j=>aI k j _⟩;rcases h w Z a7 aW (fun k=>⟨fun _=>ad k,fun _=>ay k,aI k⟩) aM with⟨_,ao⟩|⟨v,w',ao,_⟩
 ·refine ao.mono ?_;rintro e w' ⟨v,r,ah,bh,rfl,⟨rfl,rfl⟩,mq,_,_,_,mQ⟩;simp only[a8]at mq;subst mq;refine⟨rfl,mQ.os,mQ.tape,mQ.output,mQ.size,fun k ae=>mQ.block k ae ?_⟩;simp[fA,Pv.look]
 ·rw[Lq]at ao;cases ao
theorem aqS{n:Int}(h:(Lit.int .u8 n).wf=true):0<=n/\n<256:=by simp[Lit.wf,IntKind.min,IntKind.max,sc,oH]at h;omega
end
end Go.Proofs.YtohaalphocaebaaGreatDoor
