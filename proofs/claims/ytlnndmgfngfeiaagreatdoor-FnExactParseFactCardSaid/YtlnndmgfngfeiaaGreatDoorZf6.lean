/- Contracts of the reference: terms. -/
import Derived.Shelf.Sort.Plain
import Derived.Ground.NamesProg
import Derived.Test.YtlnndmgfngfeiaaGreatDoorProg
import Derived.Sort.OwnSortedInts
import Derived.Lib.OwnBridge
import Derived.Shelf.Strings.Builder1
import Derived.Shelf.Strconv.Itoa3
import Derived.Shelf.Strconv.AtoiAll
import Derived.ProofKit
import Derived.WalkKit
import Derived.Lib.ItoaLen
import Derived.Test.YtlnndmgfngfeiaaGreatDoorZf5
set_option linter.all false
set_option maxHeartbeats 4000000
set_option maxRecDepth 4000
open Array renaming getD_eq_getD_getElem?->mg,getElem?_eq_getElem->mh,replicate->nQ
open Bool renaming and_eq_true->bA,not_eq_true'->oO
open ByteArray renaming size->Gj
open Go renaming Program->bp
open Go.IntKind renaming i64->jY
open Go.IntWalk renaming i64_in->ll
open Go.Proofs.Tryz renaming prog->aS
open Go.Result renaming andThen_ok->eg
open Go.Sem renaming run_bind->ee,run_pure->eT
open Go.Value renaming cells->mj,int->lM
open List renaming all_eq_true->kj,cons_append->eI,drop_eq_getElem_cons->pR,drop_length->ml,getElem?_append_left->nS,getElem?_eq_getElem->eh,getElem?_eq_some_iff->fG,length_append->jA,length_cons->lN,length_pos_iff->nT,map_cons->gZ,mem_append->ha,mem_append_left->kk,mem_append_right->iz,mem_cons->gp,mem_map->lO,mem_of_getElem?->gB,nil_append->fx,nodup_append->nU,take_add_one->lq,take_length->kQ
open List.Nodup renaming length_le_of_subset->WD
open List.Pairwise renaming imp_of_mem->aaz,map->WE
open List.Perm renaming eq_of_pairwise->aaA
open List.cons renaming injEq->MR
open Nat renaming eq_or_lt_of_le->jB,le_refl->cE
open Option renaming map_eq_some_iff->lr,map_some->mZ
open Option.some renaming inj->iN,injEq->dv
open Prod.mk renaming injEq->hx
open UInt8 renaming ofNat->lP
open _root_ renaming ByteArray->ib,False->cw,Option->aV,UInt8->aC,beq_iff_eq->df,congrArg->dq,decide_eq_true_eq->fH,if_neg->be
namespace Go.Proofs
section
open Go.Shelf
def Tryz.lays191_ren:Go.Shelf.Ren:=⟨fun|191=>213|189=>254|125=>202|257=>272|128=>240|129=>241|294=>284|295=>285|296=>286|297=>287|298=>288|299=>289|216=>290|300=>291|301=>292|328=>298|329=>299|330=>300|331=>301|332=>302|215=>303|343=>306|n=>n,fun|28=>136|0=>0|3=>3|46=>209|51=>265|53=>267|4=>4|183=>309|182=>308|131=>214|5=>5|9=>9|218=>319|222=>292|228=>328|229=>305|n=>n,fun|n=>n⟩
theorem Tryz.lays191:Go.Proofs.Lays.n191 aS Tryz.lays191_ren:={
 mixed:=by kernel_rfl
 f125:=Tryz.func202.trans (dq some (by kernel_rfl))
 f128:=Tryz.func240.trans (dq some (by kernel_rfl))
 f129:=Tryz.func241.trans (dq some (by kernel_rfl))
 f189:=Tryz.func254.trans (dq some (by kernel_rfl))
 f191:=Tryz.func213.trans (dq some (by kernel_rfl))
 f215:=Tryz.func303.trans (dq some (by kernel_rfl))
 f216:=Tryz.func290.trans (dq some (by kernel_rfl))
 f257:=Tryz.func272.trans (dq some (by kernel_rfl))
 f294:=Tryz.func284.trans (dq some (by kernel_rfl))
 f295:=Tryz.func285.trans (dq some (by kernel_rfl))
 f296:=Tryz.func286.trans (dq some (by kernel_rfl))
 f297:=Tryz.func287.trans (dq some (by kernel_rfl))
 f298:=Tryz.func288.trans (dq some (by kernel_rfl))
 f299:=Tryz.func289.trans (dq some (by kernel_rfl))
 f300:=Tryz.func291.trans (dq some (by kernel_rfl))
 f301:=Tryz.func292.trans (dq some (by kernel_rfl))
 f328:=Tryz.func298.trans (dq some (by kernel_rfl))
 f329:=Tryz.func299.trans (dq some (by kernel_rfl))
 f330:=Tryz.func300.trans (dq some (by kernel_rfl))
 f331:=Tryz.func301.trans (dq some (by kernel_rfl))
 f332:=Tryz.func302.trans (dq some (by kernel_rfl))
 f343:=Tryz.func306.trans (dq some (by kernel_rfl))
 t0:=Tryz.underlying0
 a0:=Tryz.isAgg0
 z0:=Tryz.sizeOf0
 v0:=Tryz.zeroValue0
 t3:=Tryz.underlying3
 a3:=Tryz.isAgg3
 z3:=Tryz.sizeOf3
 v3:=Tryz.zeroValue3
 t4:=Tryz.underlying4
 a4:=Tryz.isAgg4
 z4:=Tryz.sizeOf4
 v4:=Tryz.zeroValue4
 t5:=Tryz.underlying5
 a5:=Tryz.isAgg5
 z5:=Tryz.sizeOf5
 v5:=Tryz.zeroValue5
 t9:=Tryz.underlying9
 a9:=Tryz.isAgg9
 z9:=Tryz.sizeOf9
 v9:=Tryz.zeroValue9
 t28:=Tryz.underlying136
 a28:=Tryz.isAgg136
 z28:=Tryz.sizeOf136
 v28:=Tryz.zeroValue136
 t46:=Tryz.underlying209
 a46:=Tryz.isAgg209
 z46:=Tryz.sizeOf209
 v46:=Tryz.zeroValue209
 t51:=Tryz.underlying265
 a51:=Tryz.isAgg265
 z51:=Tryz.sizeOf265
 v51:=Tryz.zeroValue265
 t53:=Tryz.underlying267
 a53:=Tryz.isAgg267
 z53:=Tryz.sizeOf267
 v53:=Tryz.zeroValue267
 t131:=Tryz.underlying214
 a131:=Tryz.isAgg214
 z131:=Tryz.sizeOf214
 v131:=Tryz.zeroValue214
 t182:=Tryz.underlying308
 a182:=Tryz.isAgg308
 z182:=Tryz.sizeOf308
 v182:=Tryz.zeroValue308
 t183:=Tryz.underlying309
 a183:=Tryz.isAgg309
 z183:=Tryz.sizeOf309
 v183:=Tryz.zeroValue309
 t218:=Tryz.underlying319
 a218:=Tryz.isAgg319
 z218:=Tryz.sizeOf319
 v218:=Tryz.zeroValue319
 t222:=Tryz.underlying292
 a222:=Tryz.isAgg292
 z222:=Tryz.sizeOf292
 v222:=Tryz.zeroValue292
 t228:=Tryz.underlying328
 a228:=Tryz.isAgg328
 z228:=Tryz.sizeOf328
 v228:=Tryz.zeroValue328
 t229:=Tryz.underlying305
 a229:=Tryz.isAgg305
 z229:=Tryz.sizeOf305
 v229:=Tryz.zeroValue305}
end
end Go.Proofs

namespace Go.Proofs.YtlnndmgfngfeiaaGreatDoor
section
open Go Go.Pv
def dI(xs:List Int):List ab:=xs.map (ab.int .i64)
theorem Lv{w:World}{ν:aD}:∀{xs:List Int} {us:List Value},b4 w ν 1 (dI xs) us->us=xs.map (lM .i64)
 |[],us,h=>by simpa[dI,b4]using h
 |x::xs,us,h=>by simp only[dI,gZ,b4]at h;obtain⟨u,a6,rfl,⟨I,_,_⟩,aa⟩:=h;simp only[aw]at I;subst I;rw[Lv aa];rfl
theorem JQ(w:World)(ν:aD):∀xs:List Int,b4 w ν 1 (dI xs) (xs.map (lM .i64))
 |[]=>by simp[dI,b4]
 |x::xs=>by simp only[dI,gZ,b4];exact⟨.int .i64 x,_,rfl,⟨by simp[aw],rfl,by intro c az;simp[mj]at az;subst az;rfl⟩,JQ w ν xs⟩
def kV(K:Nat)(xs:List Int):cZ:=⟨[],[(.obj K,⟨xs.length,3,1,some (dI xs)⟩)]⟩
theorem qj(S:aq->Prop)(xs:List Int):kinL S (dI xs):=by
 induction xs with
 |nil=>simp[dI,kinL]
 |cons x r a8=>simp only[dI,gZ,kinL,kin];exact⟨trivial,a8⟩
theorem Ca(K:Nat)(xs:List Int):ih (kV K xs):=by unfold kV;refine ih.of ⟨by intro m;simp[Pv.look],by intro m;simp[Pv.look]⟩ Ψ ?_;intro x ad ys bk;simp at ad;subst ad;simp at bk;subst bk;exact qj _ xs
def nK(xs:List Int):List Int:=xs.mergeSort fun x y=>decide (x<=y)
theorem L2(xs:List Int):(nK xs).length=xs.length:=List.length_mergeSort xs
theorem Qy(K:Nat)(xs:List Int)(aA:xs.length<=1000000):cS aS 213 [.row 1 (.obj K) xs.length] (kV K xs) fun r aj=>r= .tuple []/\aj=kV K (nK xs):=by
 refine cS.sem (Ca K xs).obj fun w ν vs _ fl hr=>?_;refine .inl ⟨⟨Tryz.f213,Tryz.func213,by kernel_rfl,by kernel_rfl⟩,?_⟩;have nv:=hr.slot 0;simp only[gW,Pv.get,if_true]at nv;have iY:Pv.look (.obj K) (kV K xs).e=some ⟨xs.length,3,1,some (dI xs)⟩:=by simp[kV,Pv.look]
 obtain⟨v,us,bJ,cj,de,du⟩:=hr.good.own (.obj K) _ iY;obtain⟨cy,kK,qq⟩:=du _ rfl;have mH:=Lv kK;subst mH;simp only[aw]at nv;obtain⟨⟨GI,Hw,C9⟩,_,n',u,ah,aE,bg⟩:=nv;rw[bJ]at ah;simp only[dv,hx]at ah;obtain⟨rfl,rfl⟩:=ah;have aL:=bg rfl;have Sk:vs= #[v]:=by
  have I:vs.size=1:=by simpa using fl
  apply Array.ext (by simpa using I);intro i aa ak;simp at ak;subst ak;rw[<-aL];simp[Array.getD,I]
 have b7:v≠ .slice none 0 0:=by rw[<-aL,C9];simp
 obtain⟨g,cap,rfl,_,kA,vK,Yq,Yr,QU⟩:=Lib.holds_of_ownsRow cj b7;have az:=Any.sort_Ints Tryz.lays191 g 0 cap xs w QU kA Ω;subst Sk;refine az.mono ?_;rintro e w' ⟨rfl,n,os,rfl⟩;have sQ:=L2 xs;have jo:=Lib.ownsRow_putRow (q:=n) (k:=xs.length) (ys:=nK xs) cj sQ (cE _);rw[List.take_of_length_le Ω]at jo;obtain⟨gy,gz,_⟩:=hr.setRowM (w':=Sort.putRow (lM .i64) (Sort.ahead w n) g 0 (nK xs).toArray) iY rfl bJ (bl:=g) rfl (v':= .slice (some ⟨g,0,none⟩) xs.length cap) rfl (xs':=dI (nK xs)) (us:=(nK xs).map (lM .i64)) (.inl ⟨by simp[dI,sQ],rfl⟩) rfl rfl rfl
  (fun j av=>by simp[Sort.putRow,Sort.mapBlock,Sort.ahead,Array.getElem?_modify,Ne.symm av]) (by simp[Sort.putRow,Sort.mapBlock,Sort.ahead]) (by simpa[dI,sQ]using jo) (JQ _ _ _)
 have mP:=gy.grown (w':=Sort.grow (Sort.putRow (lM .i64) (Sort.ahead w n) g 0 (nK xs).toArray) os) ⟨rfl,rfl,rfl,Ψ,fun k J _=>Sort.heap_grow_old _ _ J⟩;refine⟨_,_,_,_,.tuple [],kV K (nK xs),rfl,mP,by simp[aw,bP],by simp[kV,kF],?_,?_,?_,(Ca K _).obj,by simp[kin,kinL],rfl,rfl⟩
 ·simp[kV,kF,aG,Pv.look]
 ·intro k cs J;simp[kV,Pv.look]at J
 ·intro k o J;have hm:=sX J;simp[kV]at hm;obtain⟨rfl,rfl⟩:=hm;refine⟨by simp[kV,Pv.look,ck,dI,sQ],.inr (by simp[J]),fun ys bk=>?_⟩;simp at bk;subst bk;exact qj _ _
def lW(l:List Int):List ab:=kc (l.map fun x=>(x,.bool true))
theorem jS(S:aq->Prop)(l:List Int):kinL S (lW l):=by
 have:∀l:List Int,kinL S (flat (l.map fun x=>(x,.bool true))):=by
  intro l;induction l with
  |nil=>simp[flat,kinL]
  |cons x r a8=>simp[flat,kinL,a8,kin]
 simp[lW,kc,kinL,this,kin]
def n4(v:Int)(l:List Int):List Int:=if v∈l then l else l++[v]
theorem GF(k:Int):∀l:List Int,n7 k (.bool true) (l.map fun x=>(x,ab.bool true))=if k∈l then some (l.map fun x=>(x,ab.bool true))else none
 |[]=>rfl
 |i::r=>by
  by_cases h:k=i
  ·simp[n7,h]
  ·by_cases aa:k∈r<;>simp[n7,h,aa,GF k r]
@[simp]theorem Zm(k:Int)(l:List Int):oy .i (.int .i64 k) (.bool true) (lW l)=some (lW (n4 k l)):=by
 simp only[lW,Tt,r4,GF,n4];split<;>rename_i h
 ·split at h
  ·simp at h;subst h;simp[*]
  ·cases h
 ·split at h
  ·cases h
  ·simp[*]
@[simp]theorem W9:lW []=kc []:=rfl
@[simp]theorem ZE(l:List Int):fm (lW l)=false:=rfl
@[simp]theorem ZI(m:aq)(l:List Int):yL m (lW l)=some (b1 l.length [] m):=by simp[lW]
theorem Tf(f:aq->aV (List ab))(fW mk:aq)(n:Nat)(seen:List Nat)(b:Nat)(l:List Int)(x:Int)(aB:f fW=some (b1 n (seen++[b]) mk))(hm:f mk=some (lW l))(aR:n=l.length)(ad:l[b]? =some x):qn f (.ptr fW 0)=some (True,.tuple [.int .i64 x,.bool true]):=by rw[Th f fW mk n seen b _ aB hm (by simpa using aR)];simp[ad]
theorem Ox{st:aN}{d:Nat}{K:aN->Prop}{fW mk:aq}{n:Nat}{seen:List Nat}{l:List Int}(aB:Pv.look fW st.b=some (b1 n seen mk))(hm:Pv.look mk st.b=some (lW l))(aR:n=l.length)
  (I:(∀b,b<l.length->b∈seen)->K {st with t:=Pv.put d (.tuple [.bool false]) st.t}) (aa:∀b x,l[b]? =some x->b∉seen->K {st with t:=Pv.put d (.tuple [.bool true,.int .i64 x,.bool true]) st.t,b:=ck fW (b1 n (seen++[b]) mk) st.b}):
  tO st d (.ptr fW 0) K:=by
 refine Oy aB hm (by simpa using aR) (fun h=>I fun b af=>h b Ω) (fun b k v af ao=>?_);simp only[List.getElem?_map,lr]at af;obtain⟨x,ah,aE⟩:=af;simp only[hx]at aE;obtain⟨rfl,rfl⟩:=aE;exact aa b x ah ao
def _root_.Go.Pv.T.fold{α:Type}(f:Int->α->α):T->α->α
 | .var n,a=>f n a
 | .pair x y,a=>y.fold f (x.fold f a)
 |_,a=>a
theorem Qp{α:Type}(S:α->cZ)(fT:∀a,ih (S a))(kC:∀a b,Same (S a) (S b))(g:Nat)(cG:List ab)(az:∀a,kinL (aG (S a)) cG)(fe:bz cG=cG)(f:Int->α->α)(aH:∀v a,cS aS g (.int .i64 v::cG) (S a) fun r aj=>r= .tuple []/\aj=S (f v a))(t:T):
  ∀a,cS aS 79 [t.e,.func g cG] (S a) fun r aj=>r= .tuple []/\aj=S (t.fold f a):=by
 have aR:∀a m,Pv.look (.loc m) (S a).b=none:=fun a=>(fT a).obj.1;have hu:∀a m cs,ck (.loc m) cs (S a).b=(S a).b++[(.loc m,cs)]:=fun a m cs=>Mq (aR a m);have ag:∀a m,aq.loc m∉dG (S a):=fun a=>S7 (fT a).obj;induction t with
 |pair x y Sw Sx=>intro a;have ao:=fT a;refine cS.mk mixed oI CR EP Ψ ao.obj fun aQ c7=>?_;unfold zr;simp[hu,ag,pw,aR,fe];(with_reducible repeat' first|refine aI ?_|simp[hu,ag,pw,aR]);refine CallDo.ob (Sw a) ao aO aO (by simp[az]) ?_;rintro r aj ⟨rfl,rfl⟩;refine⟨kC _ _,?_⟩;simp[tv,zd,bs,aR];(with_reducible repeat' first|refine aI ?_|simp[hu,ag,pw,aR]);rw[fe];refine CallDo.ob (Sx (x.fold f a)) (fT (x.fold f a)) aO aO (by simp[az]) ?_;rintro r aj ⟨rfl,rfl⟩;refine⟨kC _ _,?_⟩;simp[tv,zd,bs,aR];refine ev.at (S (y.fold f (x.fold f a))) (.inr rfl) (fT _) (kC _ _) aO aO ?_;simp[ff,Bq,ba,bc,a1];simp[T.fold]
 |var n=>intro a;have ao:=fT a;refine cS.mk mixed oI CR EP Ψ ao.obj fun aQ c7=>?_;unfold zr;simp[hu,ag,pw,aR,fe];(with_reducible repeat' first|refine aI ?_|simp[hu,ag,pw,aR]);refine CallDo.ob (aH n a) ao aO aO (by simp[az]) ?_;rintro r aj ⟨rfl,rfl⟩;refine⟨kC _ _,?_⟩;simp[tv,zd,bs,aR,pw];refine ev.at (S (f n a)) (.inr rfl) (fT _) (kC _ _) aO aO ?_;simp[ff,Bq,ba,bc,a1];simp[T.fold]
 |_=>intro a;have ao:=fT a;refine cS.mk mixed oI CR EP Ψ ao.obj fun aQ c7=>?_;unfold zr;simp[hu,ag,pw,aR,fe];(with_reducible repeat' first|refine aI ?_|simp[hu,ag,pw,aR]);refine ev.at (S a) (.inr rfl) ao (Same.refl _) aO aO ?_;simp[ff,Bq,ba,bc,a1];simp[T.fold]
def eO(l:List Int):cZ:=⟨[(.obj 304,lW l),(.obj 305,[.gmap (.obj 304)])],[]⟩
theorem oS(l:List Int):ih (eO l):=by unfold eO;exact ih.of ⟨by intro m;simp[Pv.look],by intro m;simp[Pv.look]⟩ (by simp[jS,kinL,kin,aG,Pv.look]) Ψ
theorem r2(l fE:List Int):Same (eO l) (eO fE):=by refine⟨fun k=>?_,fun k=>rfl⟩;simp only[eO,Pv.look];split<;>rfl
def qI(l:List Int):cZ:=⟨[(.obj 304,lW l)],[]⟩
theorem Gw(l:List Int):ih (qI l):=by unfold qI;exact ih.of ⟨by intro m;simp[Pv.look],by intro m;simp[Pv.look]⟩ (by simp[jS,kinL,kin,aG,Pv.look]) Ψ
theorem Vr{a b:List Int}(h:a.Perm b):nK a=nK b:=by
 have au:∀a b c:Int,(decide (a<=b))=true->(decide (b<=c))=true->(decide (a<=c))=true:=by intro a b c;simp;omega
 have yd:∀a b:Int,(decide (a<=b)||decide (b<=a))=true:=by intro a b;simp;omega
 have I:=List.pairwise_mergeSort au yd a;have aa:=List.pairwise_mergeSort au yd b;refine aaA (le:=fun x y:Int=>(decide (x<=y))=true) (fun x y _ _ I aa=>by simp at I aa;omega) I aa ?_;exact(List.mergeSort_perm a _).trans (h.trans (List.mergeSort_perm b _).symm)
def SF(l:List Int)(k:Nat)(st:aN):Prop:=∃(seen:List Nat) (xs:List Int),seen.Nodup/\(∀b∈seen,b<l.length)/\k=l.length-seen.length/\xs=seen.filterMap (fun b=>l[b]?)/\xs.length=seen.length/\st=⟨[(3,.row 1 (.obj 306) xs.length),(7,.ptr (.loc 0) 0)],[(.obj 304,lW l),(.loc 0,b1 l.length seen (.obj 304))],[(.obj 306,⟨xs.length,3,1,some (dI xs)⟩)],1,[.obj 306,.obj 304]⟩
@[simp]theorem YI(xs:List Int):(dI xs).length=xs.length:=by simp[dI]
@[simp]theorem aai(xs:List Int):bz (dI xs)=dI xs:=by
 induction xs with
 |nil=>rfl
 |cons x r a8=>simp only[dI,gZ,bz,bC]at a8⊢;rw[a8]
@[simp]theorem YJ:dI []=[]:=rfl
theorem SD(xs:List Int)(x:Int):dI xs++[ab.int .i64 x]=dI (xs++[x]):=by simp[dI]
theorem Qz(l:List Int)(aA:l.length<=1000000):cS aS 160 [.gmap (.obj 304)] (qI l) fun r aj=>r= .slice 1 .no (dI (nK l))/\aj=qI l:=by
 have ao:=Gw l;unfold qI at ao⊢;refine cS.mk mixed oI PI TX Ψ ao.obj fun aQ c7=>?_;unfold G4;simp;refine zH (SF l) l.length _ ⟨by simp[fresh,kinL,kin,b1,aG,Pv.look,jS,qj],eR (by simp[fresh,kinL,kin,b1,aG,Pv.look,jS,qj]),eS (by simp[fresh,kinL,kin,ef,aG,Pv.look,jS,qj]),Ψ⟩ ⟨[],[],Ψ,Ψ,Ψ,Ψ,Ψ,rfl⟩ ?_;rintro k st ⟨seen,xs,aF,bU,J,gh,l5,rfl⟩ Ja c7;clear Ja c7;have hle:=LU aF bU;simp;refine Ox (mk:= .obj 304) (seen:=seen) (l:=l) Ψ Ψ rfl (fun jJ=>?_) (fun b x ad af=>?_)
 ·simp;have Jz:=Vf aF bU jJ;rw[<-gh]at Jz;refine CallDo.ob (Qy 306 xs Ω) (Ca 306 xs) (by unfold kV;exact aO) (by unfold kV;exact aO) (by simp[kV,aG,Pv.look]) ?_;rintro r aj ⟨rfl,rfl⟩;refine⟨⟨fun _=>rfl,fun k=>by simp only[kV,Pv.look];split<;>rfl⟩,?_⟩;unfold kV;simp[bs,L2];refine ev.at _ (.inl rfl) ao (Same.refl _) aO aO ?_;simp[ff,Lg,ba,bc,a1];rw[Vr Jz];simp[kin,qj]
 ·have RR:∀f:aq->aV (List ab),f (.loc 0)=some (b1 l.length (seen++[b]) (.obj 304))->f (.obj 304)=some (lW l)->qn f (.ptr (.loc 0) 0)=some (True,.tuple [.int .i64 x,.bool true]):=fun f I aa=>Tf f (.loc 0) (.obj 304) l.length seen b l x I aa rfl ad;have eE:b<l.length:=(fG.1 ad).1;have sQ:=Vg aF bU eE af;simp[RR,SD];refine⟨by unfold bX;omega,?_⟩;refine cF.next (l.length-(seen.length+1)) Ω ⟨seen++[b],xs++[x],TI aF af,(by simp;intro c az;rcases az with az|rfl;exact bU c az;exact eE),Ψ,by rw[List.filterMap_append,<-gh];simp[ad],by simp[l5],rfl⟩ ⟨by simp[fresh,kinL,kin,b1,aG,Pv.look,jS,qj],eR (by simp[fresh,kinL,kin,b1,aG,Pv.look,jS,qj]),eS (by simp[fresh,kinL,kin,ef,aG,Pv.look,jS,qj]),Ψ⟩
@[simp]theorem YU(S:aq->Prop)(xs:List Int):kinL S (dI xs)=True:=eq_true (qj S xs)
@[simp]theorem XF:cells .junk=[.junk]:=rfl
def gq(vs:List Int)(l:List Int):List Int:=vs.foldl (fun l v=>n4 v l) l
theorem zk(a b l:List Int):gq (a++b) l=gq b (gq a l):=List.foldl_append
theorem GA(vs:List Int):∀(l:List Int) (v:Int),v∈gq vs l↔v∈l\/v∈vs:=by
 induction vs with
 |nil=>intro l v;simp[gq]
 |cons x vs a8=>
  intro l v;show v∈gq vs (n4 x l)↔_;rw[a8,n4];split
  ·rename_i h;constructor
   ·rintro(b6|b6)
    ·exact .inl b6
    ·exact .inr (by simp[b6])
   ·rintro(b6|b6)
    ·exact .inl b6
    ·rcases gp.1 b6 with rfl|b6
     ·exact .inl h
     ·exact .inr b6
  ·simp[or_assoc]
theorem M5(vs:List Int):∀l:List Int,l.Nodup->(gq vs l).Nodup:=by
 induction vs with
 |nil=>intro l h;exact h
 |cons x vs a8=>
  intro l h;refine a8 _ ?_;show(n4 x l).Nodup;unfold n4;split
  ·exact h
  ·rename_i ad;rw[nU];exact⟨h,Ψ,fun a bL b af=>by simp at af;subst af;rintro rfl;exact ad bL⟩
theorem Qj(t:T):∀l:List Int,t.fold n4 l=gq t.tm.vs l:=by
 induction t with
 |pair a b rb re=>
  intro l;have:(T.pair a b).tm.vs=a.tm.vs++b.tm.vs:=by simp[T.tm,aU.vs,aU.vsL]
  rw[this,zk,<-rb,<-re];rfl
 |var n=>intro l;simp[T.tm,aU.vs,T.fold,gq]
 |_=>intro l;simp[T.tm,aU.vs,aU.vsL,T.fold,gq]
theorem MD(x:T)(h:x.ok=true):∀v∈x.tm.vs,0<=v/\v<=100000:=by
 induction x with
 |pair a b rb re=>
  intro v aL;simp only[T.ok,bA]at h;have:(T.pair a b).tm.vs=a.tm.vs++b.tm.vs:=by simp[T.tm,aU.vs,aU.vsL]
  rw[this,ha]at aL;rcases aL with aL|aL
  ·exact rb h.1 v aL
  ·exact re h.2 v aL
 |var n=>intro v aL;simp[T.tm,aU.vs]at aL;subst aL;simpa[T.ok]using h
 |_=>intro v aL;simp[T.tm,aU.vs,aU.vsL]at aL
theorem u0:∀l:List aU,aU.vsL l=l.flatMap aU.vs
 |[]=>rfl
 |x::l=>by simp[aU.vsL,u0 l]
theorem tW:∀l:List Gm,Gm.vsL l=l.flatMap Gm.vs
 |[]=>rfl
 |x::l=>by simp[Gm.vsL,tW l]
theorem C5(g:Gm):g.vs=aU.vsL g.ts++Gm.vsL g.gs:=by cases g;rfl
theorem uS{g:Gm}(h:g.shape=true):∀t∈g.ts,t.fits=true:=by rw[mR,bA]at h;exact fun t au=>kj.1 h.1 t au
theorem shape_gs{g:Gm}(h:g.shape=true):∀x∈g.gs,x.shape=true:=by
 rw[mR,bA]at h;obtain⟨_,h⟩:=h;intro x ad;have no:g.gs.isEmpty=false:=by
  cases aP:g.gs with
  |nil=>rw[aP]at ad;cases ad
  |cons=>rfl
 rw[no]at h;repeat' split at h
 all_goals simp at h
 ·exact h.2 x ad
 ·exact h.2 x ad
theorem IZ:∀(n:Nat) (g:Gm),g.sz<=n->g.shape=true->∀v∈g.vs,0<=v/\v<=100000:=by
 intro n;induction n with
 |zero=>intro g aP;have:=g.sz_pos;omega
 |succ n a8=>
  intro g aP ao v aL;rw[C5,u0,tW,ha,List.mem_flatMap,List.mem_flatMap]at aL;rcases aL with⟨t,au,aL⟩|⟨x,ad,aL⟩
  ·obtain⟨x,rfl,aa⟩:=aU.fits_ex (uS ao t au);exact MD x (CX aa) v aL
  ·exact a8 x (by have:=g.gs_lt ad;omega) (shape_gs ao x ad) v aL
theorem KL{l:List Int}(aR:l.Nodup)(h:∀v∈l,0<=v/\v<=100000):l.length<=100001:=by
 have I:(l.map Int.toNat).Nodup:=by refine WE _ (fun a b oj=>?_) (aaz (S:=fun a b=>a≠b/\(0<=a/\0<=b)) (fun bL af oj=>⟨oj,(h _ bL).1,(h _ af).1⟩) aR);intro e;apply oj.1;omega
 have aa:=WD I (l₂:=List.range 100001) fun x ad=>by obtain⟨v,aL,rfl⟩:=lO.1 ad;have:=h v aL;simp;omega
 simpa using aa
theorem Qs(v:Int)(l:List Int):cS aS 159 [.int .i64 v,.ptr (.obj 305) 0] (eO l) fun r aj=>r= .tuple []/\aj=eO (n4 v l):=by have ao:=oS l;have mG:=oS (n4 v l);have kC:=r2 l (n4 v l);unfold eO at ao mG kC⊢;refine cS.mk mixed kM PE TT Ψ ao.obj fun aQ c7=>?_;unfold G0;simp;refine ev.at _ (.inr rfl) mG kC aO aO ?_;simp[ff,Lf,ba,bc,a1]
theorem Qq{t:aU}(h:t.fits=true)(l:List Int):cS aS 79 [enc t,.func 159 [.ptr (.obj 305) 0]] (eO l) fun r aj=>r= .tuple []/\aj=eO (gq t.vs l):=by obtain⟨x,rfl,_⟩:=aU.fits_ex h;rw[qT,<-Qj];exact Qp eO oS r2 159 [.ptr (.obj 305) 0] (by intro a;simp[aG,eO,Pv.look,kinL,kin]) Ψ n4 Qs x l
theorem Wq{ts:List aU}{i:Nat}{t:aU}(h:ts[i]? =some t)(l:List Int):gq (aU.vsL (ts.take (i+1))) l=gq t.vs (gq (aU.vsL (ts.take i)) l):=by rw[lq,h,u0,u0,<-zk];simp
theorem QR{gs:List Gm}{i:Nat}{g:Gm}(h:gs[i]? =some g)(l:List Int):gq (Gm.vsL (gs.take (i+1))) l=gq g.vs (gq (Gm.vsL (gs.take i)) l):=by rw[lq,h,tW,tW,<-zk];simp
theorem Qr(g:Gm)(aH:∀t∈g.ts,t.fits=true)(l:List Int):cS aS 158 [g.e,.ptr (.obj 305) 0] (eO l) fun r aj=>r= .tuple []/\aj=eO (gq (aU.vsL g.ts) l):=by
 have ao:=oS l;have mG:=oS (gq (aU.vsL g.ts) l);have kC:=r2 l (gq (aU.vsL g.ts) l);unfold eO at ao;refine cS.mk mixed kM PD TS Ψ ao.obj fun aQ c7=>?_;unfold GZ;have hg:g.ts.length<=68719476736:=by rw[Gm.e_eq]at aQ;simp[jf,jE,jg,bX]at aQ;omega
 clear aQ c7;unfold eO;simp;(with_reducible repeat' first|refine aI ?_|simp);refine iA (fun i (_:Unit)=>⟨[(1,.ptr (.obj 305) 0),(6,.slice 4 .no (g.ts.map enc)),(7,.int .i64 g.ts.length),(8,.int .i64 i)],(eO (gq (aU.vsL (g.ts.take i)) l)).b,[],0,[.obj 304,.obj 305]⟩) g.ts.length (fun _ _=>True) () (by simp[eO,gq,aU.vsL];exact⟨by simp[fresh,kinL,kin,b1,aG,Pv.look,jS],eR (by simp[fresh,kinL,kin,b1,aG,Pv.look,jS]),eS (by simp[fresh,kinL,kin,ef,aG,Pv.look,jS]),Ψ⟩) trivial (fun _ _ _=>?_) (fun i _ aB _ _=>?_)
 ·simp only[kQ,eO]at mG kC⊢;simp;(with_reducible repeat' first|refine aI ?_|simp);all_goals refine ev.at _ (.inr rfl) mG kC aO aO ?_
  all_goals simp[ff,Le,ba,bc,a1]
 ·obtain⟨b,af,o9⟩:=hy aB;have uz:=Qq (aH b (gB af)) (gq (aU.vsL (g.ts.take i)) l);rw[<-Wq af]at uz;have cN:bm ((i:Int)+1):=by unfold bm;omega
  clear mG kC;simp only[eO];simp[aB,o9];(with_reducible repeat' first|refine aI ?_|simp[aB,o9]);refine CallDo.ob uz (oS _) (by unfold eO;exact aO) (by unfold eO;exact aO) (by simp[aG,eO,Pv.look]) ?_;rintro r aj ⟨rfl,rfl⟩;refine⟨r2 _ _,?_⟩;unfold eO;simp[bs];(with_reducible repeat' first|refine aI ?_|simp[cN]);all_goals refine cF.rng () aB trivial (by simp[eO];exact⟨by simp[fresh,kinL,kin,b1,aG,Pv.look,jS],eR (by simp[fresh,kinL,kin,b1,aG,Pv.look,jS]),eS (by simp[fresh,kinL,kin,ef,aG,Pv.look,jS]),Ψ⟩)
theorem LX{g:Gm}(h:g.shape=true):g.gs.length<=8/\g.ts.length<=4:=by
 rw[mR,bA]at h;obtain⟨_,h⟩:=h;have aR:jT g.kind<=2:=by unfold jT;(repeat' split)<;>omega
 split at h
 ·simp at h;obtain⟨⟨⟨_,I⟩,aa⟩,_⟩:=h;rw[I];simp;omega
 ·split at h
  ·simp at h;rw[h.1.2];simp;omega
  ·split at h
   ·simp at h;rw[h.1.1.2];simp;omega
   ·split at h
    ·simp at h;rw[h.1.1.2];have:=h.1.2;split at this
     ·rename_i x ad;rw[ad];simp
     ·cases this
    ·cases h
theorem Qo:∀(n:Nat) (g:Gm),g.sz<=n->g.shape=true->∀l:List Int,cS aS 157 [g.e,.func 158 [.ptr (.obj 305) 0]] (eO l) fun r aj=>r= .tuple []/\aj=eO (gq g.vs l):=by
 intro n;induction n with
 |zero=>intro g aP;have:=g.sz_pos;omega
 |succ n a8=>
 intro g aP fq l;have ao:=oS l;have mG:=oS (gq g.vs l);have kC:=r2 l (gq g.vs l);have uz:=Qr g (uS fq) l;have AF:∀x∈g.gs,∀l:List Int,cS aS 157 [x.e,.func 158 [.ptr (.obj 305) 0]] (eO l) fun r aj=>r= .tuple []/\aj=eO (gq x.vs l):=fun x ad l=>a8 x (by have:=g.gs_lt ad;omega) (shape_gs fq x ad) l;rw[C5,zk]at mG kC⊢;generalize hG:gq (aU.vsL g.ts) l=gP at uz mG kC⊢;have Ys:g.gs.length<=1000000:=by have:=(LX fq).1;omega
 unfold eO at ao;refine cS.mk mixed kM PB TQ Ψ ao.obj fun aQ c7=>?_;unfold GX;clear aQ c7;unfold eO;simp;refine CallDo.ob (uz) (oS _) (by unfold eO;exact aO) (by unfold eO;exact aO) (by simp[aG,eO,Pv.look]) ?_;rintro r aj ⟨rfl,rfl⟩;refine⟨r2 _ _,?_⟩;unfold eO;simp[bs];(with_reducible repeat' first|refine aI ?_|simp);refine iA (fun i (_:Unit)=>⟨[(1,.func 158 [.ptr (.obj 305) 0]),(10,.slice 4 .no (g.gs.map Gm.e)),(11,.int .i64 g.gs.length),(12,.int .i64 i)],(eO (gq (Gm.vsL (g.gs.take i)) gP)).b,[],0,[.obj 304,.obj 305]⟩) g.gs.length (fun _ _=>True) () (by simp[eO,gq,Gm.vsL];exact⟨by simp[fresh,kinL,kin,b1,aG,Pv.look,jS],eR (by simp[fresh,kinL,kin,b1,aG,Pv.look,jS]),eS (by simp[fresh,kinL,kin,ef,aG,Pv.look,jS]),Ψ⟩) trivial (fun _ _ _=>?_) (fun i _ aB _ _=>?_)
 ·simp only[kQ,eO]at mG kC⊢;simp;(with_reducible repeat' first|refine aI ?_|simp);all_goals refine ev.at _ (.inr rfl) mG kC aO aO ?_
  all_goals simp[ff,Lc,ba,bc,a1]
 ·obtain⟨b,af,o9⟩:=hy aB;have kb:=AF b (gB af) (gq (Gm.vsL (g.gs.take i)) gP);rw[<-QR af]at kb;have cN:bm ((i:Int)+1):=by unfold bm;omega
  clear mG kC;simp only[eO];simp[aB,o9];(with_reducible repeat' first|refine aI ?_|simp[aB,o9]);refine CallDo.ob (kb) (oS _) (by unfold eO;exact aO) (by unfold eO;exact aO) (by simp[aG,eO,Pv.look]) ?_;rintro r aj ⟨rfl,rfl⟩;refine⟨r2 _ _,?_⟩;unfold eO;simp[bs];(with_reducible repeat' first|refine aI ?_|simp[cN]);all_goals refine cF.rng () aB trivial (by simp[eO];exact⟨by simp[fresh,kinL,kin,b1,aG,Pv.look,jS],eR (by simp[fresh,kinL,kin,b1,aG,Pv.look,jS]),eS (by simp[fresh,kinL,kin,ef,aG,Pv.look,jS]),Ψ⟩)
def sk(g:Gm):List Int:=nK (gq g.vs [])
theorem V0(g:Gm)(h:g.shape=true):b5 aS 90 [g.e] (.slice 1 .no (dI (sk g))):=by
 have aA:(gq g.vs []).length<=1000000:=by have:=KL (M5 g.vs [] .nil) fun v aL=>IZ g.sz g (cE _) h v (by simpa[GA]using aL);omega
 have uz:=Qo g.sz g (cE _) h [];have bD:=Qz (gq g.vs []) aA;refine bT kM PC TR fun aQ=>?_;unfold GY;clear aQ;simp;(with_reducible repeat' first|refine aI ?_|simp);refine CallDo.ob (uz) (oS _) (by unfold eO;exact aO) (by unfold eO;exact aO) (by simp[aG,eO,Pv.look]) ?_;rintro r aj ⟨rfl,rfl⟩;refine⟨r2 _ _,?_⟩;unfold eO;simp[bs];refine CallDo.ob bD (Gw _) (by unfold qI;exact aO) (by unfold qI;exact aO) (by simp[aG,qI,Pv.look]) ?_;rintro r aj ⟨rfl,rfl⟩;refine⟨Same.refl _,?_⟩;unfold qI;simp[bs];simp[ca,Ld,ba,bc,a1];simp[sk]
theorem IB(g:Gm)(v:Int):v∈sk g↔v∈g.vs:=by unfold sk nK;rw[List.mem_mergeSort,GA];simp
end
end Go.Proofs.YtlnndmgfngfeiaaGreatDoor
namespace Go.Pv
section
open Go Go.RowKit
mutual
theorem Ej{S:aq->Prop}:∀p:ab,kin S p->∃l:List aq,(∀k∈l,S k)/\kin (fun k=>k∈l) p
 | .junk,_=>⟨[],Ψ,by simp[kin]⟩
 | .int _ _,_=>⟨[],Ψ,by simp[kin]⟩
 | .bool _,_=>⟨[],Ψ,by simp[kin]⟩
 | .str _,_=>⟨[],Ψ,by simp[kin]⟩
 | .slice sz tag xs,h=>by
  simp only[kin]at h;obtain⟨l,I,aa⟩:=vZ xs h.2;have hm:kinL (fun k=>k∈l) xs->∀k,kinL (fun j=>j∈k::l) xs:=fun bq k=>lF (fun _ h=>List.mem_cons_of_mem _ h) xs bq;cases tag with
  |no=>exact⟨l,I,by simp only[kin];exact⟨trivial,aa⟩⟩
  |nil=>exact⟨l,I,by simp only[kin];exact⟨trivial,aa⟩⟩
  |own k=>exact⟨k::l,by rintro j av;rcases gp.1 av with rfl|av;exact h.1;exact I _ av,by simp only[kin];exact⟨Ψ,hm aa k⟩⟩
  |tr k j=>exact⟨k::l,by rintro j av;rcases gp.1 av with rfl|av;exact h.1;exact I _ av,by simp only[kin];exact⟨Ψ,hm aa k⟩⟩
  |lo k=>exact⟨k::l,by rintro j av;rcases gp.1 av with rfl|av;exact h.1;exact I _ av,by simp only[kin];exact⟨Ψ,hm aa k⟩⟩
 | .agg cs,h=>by simp only[kin]at h⊢;exact vZ cs h
 | .ptr k _,h=>⟨[k],by simpa[kin]using h,by simp[kin]⟩
 | .eptr x,h=>by simp only[kin]at h⊢;exact Ej x h
 | .iface _ x,h=>by simp only[kin]at h⊢;exact Ej x h
 | .nilp,_=>⟨[],Ψ,by simp[kin]⟩
 | .tuple vs,h=>by simp only[kin]at h⊢;exact vZ vs h
 | .func _ cG,h=>by simp only[kin]at h⊢;exact vZ cG h
 | .gmap k,h=>⟨[k],by simpa[kin]using h,by simp[kin]⟩
 | .row _ k _,h=>⟨[k],by simpa[kin]using h,by simp[kin]⟩
 | .rptr _ k _ _ _,h=>⟨[k],by simpa[kin]using h,by simp[kin]⟩
 | .hdm _ _,_=>⟨[],Ψ,by simp[kin]⟩
 | .hdi _ _ _,_=>⟨[],Ψ,by simp[kin]⟩
 | .cst _,_=>⟨[],Ψ,by simp[kin]⟩
theorem vZ{S:aq->Prop}:∀aZ:List ab,kinL S aZ->∃l:List aq,(∀k∈l,S k)/\kinL (fun k=>k∈l) aZ
 |[],_=>⟨[],Ψ,by simp[kinL]⟩
 |p::aZ,h=>by simp only[kinL]at h;obtain⟨gP,I,aa⟩:=Ej p h.1;obtain⟨ir,ak,aK⟩:=vZ aZ h.2;exact⟨gP++ir,by intro k J;rcases ha.1 J with J|J;exact I k J;exact ak k J,by simp only[kinL];exact⟨l6 (fun _ h=>kk _ h) p aa,lF (fun _ h=>iz _ h) aZ aK⟩⟩
end
def tx(cA:List cr)(t:List (Nat×ab))(d:aV Nat)(K:aN->Prop)(e:Exit)(s:aN):Prop:=
 (e= .ret\/e= .normal)/\match ba s cA with
  |some (c,aZ)=>c/\K ⟨eD d (a1 aZ) t,s.b,s.e,s.n,s.o⟩
  |none=>cw
theorem U0{w:World}{ν:aD}:∀{aZ:List ab} {gV:List Value},bP w ν aZ gV->aw w ν (a1 aZ) (if h:gV.toArray.size=1 then gV.toArray[0]else .tuple gV.toArray)
 |[p],gV,h=>by simp only[bP]at h;obtain⟨u,a6,rfl,aE,rfl⟩:=h;simpa[a1]using aE
 |[],gV,h=>by simp only[bP]at h;subst h;simp[a1,aw,bP]
 |p::gz::aZ,gV,h=>by
  have aA:=rA h;match gV,h,aA with
  |v::v2::gV,h,_=>rw[dif_neg Ψ];simp only[a1,aw];exact⟨_,rfl,by simpa using h⟩
  |[],_,h=>simp at h
  |[_],_,h=>simp at h
theorem iQ.of{P:bp}(hm:P.follows .mixedOrders=true){aW:List (Nat×cm)}(au:dJ P aW=true){f:FuncId}{fn:Func}(aH:P.funcs[f]? =some fn){c:C}{cA:List cr}{n:Nat}(dM:c6 aW c cA n fn=true)
  {args:List ab} (aA:args.length<=n) {ob:List aq} {st:aN} {d:aV Nat} {K:aN->Prop} (t':List (Nat×ab)) (S:aq->Prop) (fT:∀k,S k->¬fresh st.n st.o k) (J:∀x∈t',get x.1 st.t=x.2/\kin S x.2)
  (he:∀pC,(∀k∈pC,S k\/k∈st.o\/k∈ob)->(∀k∈pC,¬fresh st.n st.o k)->(∀k∈st.o,k∈pC)->b3 P pC c (tx cA t' d K) ⟨gW 0 args,st.b,st.e,st.n,pC⟩):iQ P ob f args st d K:=by
 intro C a w ν vs z6 hr hC aF;subst z6;unfold c6 at dM;split at dM;rotate_left
 ·cases dM
 rename_i code af;simp only[bA,oO,fH]at dM;obtain⟨⟨⟨az,lD⟩,fL⟩,aR⟩:=dM;have q9:=rA hC;have fl:vs.size=args.length:=by simpa using q9
 obtain⟨gi,Jq,R1⟩:∃gi:List aq,(∀k∈gi,S k)/\∀x∈t',kin (fun k=>k∈gi) x.2:=by
  have k5:∀l:List (Nat×ab),(∀x∈l,kin S x.2)->kinL S (l.map (·.2)):=by
   intro l aA;induction l with
   |nil=>simp[kinL]
   |cons x r a8=>simp only[gZ,kinL];exact⟨aA x Ψ,a8 fun y bk=>aA y (by simp[bk])⟩
  obtain⟨gi,I,aa⟩:=vZ _ (k5 t' fun x ad=>(J x ad).2);refine⟨gi,I,fun x ad=>?_⟩;have:∀l:List ab,kinL (fun k=>k∈gi) l->∀p∈l,kin (fun k=>k∈gi) p:=by
   intro l aA;induction l with
   |nil=>simp
   |cons y r a8=>simp only[kinL]at aA;intro p aY;rcases gp.1 aY with rfl|aY;exact aA.1;exact a8 aA.2 p aY
  exact this _ aa _ (lO.2 ⟨x,ad,rfl⟩)
 let ob:List aq:=gi++(st.o++C.ob)
 have iF:∀k∈ob,¬fresh st.n st.o k:=by
  intro k J;rcases ha.1 J with J|J
  ·exact fT k (Jq k J)
  rcases ha.1 J with J|J
  ·exact fun h=>h.2 J
  ·exact hr.obk k J
 have hex:∀x∈(t'.map fun x=>(x.2,a.tmps.getD x.1 undef))++C.ex,aw w ν x.1 x.2/\kin (fun k=>k∈ob) x.1:=by
  intro x ad;rcases ha.1 ad with ad|ad
  ·obtain⟨y,bk,rfl⟩:=lO.1 ad;exact⟨by have:=hr.slot y.1;rw[(J y bk).1]at this;exact this,l6 (fun _ h=>kk _ h) _ (R1 y bk)⟩
  ·obtain⟨I,aa⟩:=hr.ext x ad;exact⟨I,l6 (fun _ h=>iz _ (iz _ h)) _ aa⟩
 let X:dh:=⟨C.w0,C.ν0,C.mt,fn.ntmps,ob,C.gl,(t'.map fun x=>(x.2,a.tmps.getD x.1 undef))++C.ex⟩
 have vM:∀m,.obj m∉st.o->fresh st.n st.o (.obj m):=fun m h=>⟨trivial,h⟩;have kz:mo X w ν:=⟨hr.fr.os,hr.fr.tape,hr.fr.output,hr.fr.size,hr.fr.block,hr.fr.keep,hr.fr.fresh,hr.fr.obj,fun m b h=>iz _ (iz _ (hr.fr.obn m b h)),hr.fr.row,fun m k u h=>iz _ (iz _ (hr.fr.obr m k u h)),hr.fr.trd,hr.fr.trb,hr.fr.trn,hr.fr.sh,hr.fr.nrow⟩;have k7:bH X ⟨gW 0 args,st.b,st.e,st.n,ob⟩ {tmps:=vs++nQ (fn.ntmps-vs.size) undef,defers:=[]} w ν:=by
  refine⟨hr.good,kz,rfl,?_,fun i=>?_,fun k J=>hr.new k (oh (cE _) (fun _ h=>iz _ (kk _ h)) J),hex,fun m hm aH=>aH.2 hm⟩
  ·show(vs++nQ (fn.ntmps-vs.size) undef).size=fn.ntmps;simp;omega
  ·rw[vA];by_cases aB:i<args.length
   ·rw[if_pos Ω];have l3:args[i]? =some args[i]:=eh aB;obtain⟨v,ah,aE⟩:=wJ i hC l3;have aL:(vs++nQ (fn.ntmps-vs.size) undef).getD i undef=v:=by
     have se:vs[i]? =some v:=by simpa using ah
     rw[mg,Array.getElem?_append_left Ω,se];rfl
    show aw w ν _ ((vs++nQ (fn.ntmps-vs.size) undef).getD i undef);rw[aL];simpa[List.getD,l3]using aE
   ·rw[be Ω];simp[aw]
 have yj:=lv hm au (X:=X) c code (tx cA t' d K) ⟨gW 0 args,st.b,st.e,st.n,ob⟩ az (he ob (fun k J=>(ha.1 J).imp (Jq k) fun h=>ha.1 h) iF fun k J=>iz _ (kk _ J)) _ w ν k7;refine .inl ⟨⟨fn,aH,by simp[af],fL⟩,?_⟩;refine calls_of_wp aH af (wp_mono yj fun e bE w' bq=>?_);obtain⟨st',ν',⟨iC,bj⟩,bG⟩:=bq;cases gf:ba st' cA with
 |none=>simp[gf]at bj
 |some x=>
  obtain⟨fY,aZ⟩:=x;simp only[gf]at bj;obtain⟨jj,cl⟩:=bj;obtain⟨gV,g1,g2⟩:=yS au bG cA fn.results.toList fY aZ lD gf jj;have jK:bE.defers=[]/\∃v,(results fn bE.tmps).run P w'= .ok v w'/\(fun(e:Ending) w'=> ∃v st' ν',e= .returned v/\K st'/\bH C st' (a.put d v) w' ν') (.returned v) w':=by
   refine⟨bG.defers,?_⟩;have fy:(results fn bE.tmps).run P w'= .ok (if h:gV.toArray.size=1 then gV.toArray[0]else .tuple gV.toArray) w':=by rw[Fl];simp only[ee,Array.mapM_eq_mapM_toList,Sem.run_map,g1,eg,eT]
   refine⟨_,fy,_,_,ν',rfl,cl,?_⟩;have mC:=bG.fr;have bN:bH C ⟨t',st'.b,st'.e,st'.n,st'.o⟩ a w' ν':=by
    refine⟨bG.good,⟨mC.os,mC.tape,mC.output,mC.size,mC.block,mC.keep,mC.fresh,mC.obj,hr.fr.obn,mC.row,hr.fr.obr,mC.trd,mC.trb,mC.trn,mC.sh,mC.nrow⟩,hr.defers,hr.size,fun i=>?_,bG.new,fun x ad=>⟨(bG.ext x (iz _ ad)).1,(hr.ext x ad).2⟩,fun m hm=>bG.obk m (iz _ (iz _ hm))⟩;rcases C1 i t' with av|av
    ·simp only;rw[av];simp[aw]
    ·exact(bG.ext _ (kk _ (lO.2 ⟨_,av,rfl⟩))).1
   exact bN.put aF (U0 g2)
  rcases iC with rfl|rfl<;>exact jK
end
end Go.Pv
namespace Go.Pv
open Go Go.RowKit
end Go.Pv
namespace Go.Proofs
open Go.Shelf Go.RowKit
variable {P:bp} {B2:Ren}
end Go.Proofs
namespace Go.Proofs
section
open Go.Shelf
def Tryz.laysM171_ren:Go.Shelf.Ren:=⟨fun|171=>136|243=>192|246=>229|283=>261|284=>262|285=>263|286=>264|129=>241|317=>278|318=>279|319=>280|320=>281|337=>296|338=>297|n=>n,fun|3=>3|9=>9|2=>2|4=>4|171=>284|0=>0|53=>267|37=>35|5=>5|173=>286|212=>302|51=>265|20=>20|213=>303|46=>209|232=>326|233=>327|n=>n,fun|17=>0|18=>3|19=>4|n=>n⟩
theorem Tryz.laysM171:Go.Proofs.LaysM.n171 aS Tryz.laysM171_ren:={
 mixed:=by kernel_rfl
 f129:=Tryz.func241.trans (dq some (by kernel_rfl))
 f171:=Tryz.func136.trans (dq some (by kernel_rfl))
 f243:=Tryz.func192.trans (dq some (by kernel_rfl))
 f246:=Tryz.func229.trans (dq some (by kernel_rfl))
 f283:=Tryz.func261.trans (dq some (by kernel_rfl))
 f284:=Tryz.func262.trans (dq some (by kernel_rfl))
 f285:=Tryz.func263.trans (dq some (by kernel_rfl))
 f286:=Tryz.func264.trans (dq some (by kernel_rfl))
 f317:=Tryz.func278.trans (dq some (by kernel_rfl))
 f318:=Tryz.func279.trans (dq some (by kernel_rfl))
 f319:=Tryz.func280.trans (dq some (by kernel_rfl))
 f320:=Tryz.func281.trans (dq some (by kernel_rfl))
 f337:=Tryz.func296.trans (dq some (by kernel_rfl))
 f338:=Tryz.func297.trans (dq some (by kernel_rfl))
 t0:=Tryz.underlying0
 a0:=Tryz.isAgg0
 z0:=Tryz.sizeOf0
 v0:=Tryz.zeroValue0
 t2:=Tryz.underlying2
 a2:=Tryz.isAgg2
 z2:=Tryz.sizeOf2
 v2:=Tryz.zeroValue2
 t3:=Tryz.underlying3
 a3:=Tryz.isAgg3
 z3:=Tryz.sizeOf3
 v3:=Tryz.zeroValue3
 t4:=Tryz.underlying4
 a4:=Tryz.isAgg4
 z4:=Tryz.sizeOf4
 v4:=Tryz.zeroValue4
 t5:=Tryz.underlying5
 a5:=Tryz.isAgg5
 z5:=Tryz.sizeOf5
 v5:=Tryz.zeroValue5
 t9:=Tryz.underlying9
 a9:=Tryz.isAgg9
 z9:=Tryz.sizeOf9
 v9:=Tryz.zeroValue9
 t20:=Tryz.underlying20
 a20:=Tryz.isAgg20
 z20:=Tryz.sizeOf20
 v20:=Tryz.zeroValue20
 t37:=Tryz.underlying35
 a37:=Tryz.isAgg35
 z37:=Tryz.sizeOf35
 v37:=Tryz.zeroValue35
 t46:=Tryz.underlying209
 a46:=Tryz.isAgg209
 z46:=Tryz.sizeOf209
 v46:=Tryz.zeroValue209
 t51:=Tryz.underlying265
 a51:=Tryz.isAgg265
 z51:=Tryz.sizeOf265
 v51:=Tryz.zeroValue265
 t53:=Tryz.underlying267
 a53:=Tryz.isAgg267
 z53:=Tryz.sizeOf267
 v53:=Tryz.zeroValue267
 t171:=Tryz.underlying284
 a171:=Tryz.isAgg284
 z171:=Tryz.sizeOf284
 v171:=Tryz.zeroValue284
 t173:=Tryz.underlying286
 a173:=Tryz.isAgg286
 z173:=Tryz.sizeOf286
 v173:=Tryz.zeroValue286
 t212:=Tryz.underlying302
 a212:=Tryz.isAgg302
 z212:=Tryz.sizeOf302
 v212:=Tryz.zeroValue302
 t213:=Tryz.underlying303
 a213:=Tryz.isAgg303
 z213:=Tryz.sizeOf303
 t232:=Tryz.underlying326
 a232:=Tryz.isAgg326
 z232:=Tryz.sizeOf326
 v232:=Tryz.zeroValue326
 t233:=Tryz.underlying327
 a233:=Tryz.isAgg327
 z233:=Tryz.sizeOf327
 v233:=Tryz.zeroValue327
 g17:=by kernel_rfl
 g18:=by kernel_rfl
 g19:=by kernel_rfl
 i0:=by kernel_rfl
 i2:=by kernel_rfl
 i3:=by kernel_rfl
 i4:=by kernel_rfl
 i5:=by kernel_rfl
 i9:=by kernel_rfl
 i20:=by kernel_rfl
 i37:=by kernel_rfl
 i46:=by kernel_rfl
 i51:=by kernel_rfl
 i53:=by kernel_rfl
 i171:=by kernel_rfl
 i173:=by kernel_rfl
 i212:=by kernel_rfl
 i232:=by kernel_rfl
 i233:=by kernel_rfl
 m17:=by kernel_rfl
 m18:=by kernel_rfl
 m19:=by kernel_rfl}
def Tryz.laysC172_ren:Go.Shelf.Ren:=⟨fun|172=>223|244=>257|245=>258|247=>273|279=>274|280=>275|281=>276|282=>277|287=>293|316=>294|171=>136|205=>295|321=>304|322=>305|243=>192|246=>229|283=>261|284=>262|285=>263|286=>264|129=>241|317=>278|318=>279|319=>280|320=>281|337=>296|338=>297|n=>n,fun|9=>9|3=>3|75=>108|76=>109|4=>4|5=>5|167=>295|37=>35|0=>0|85=>296|2=>2|168=>298|53=>267|175=>314|46=>209|210=>317|127=>181|145=>325|143=>323|21=>21|171=>284|173=>286|212=>302|51=>265|20=>20|213=>303|232=>326|233=>327|80=>112|n=>n,fun|15=>1|16=>2|17=>0|18=>3|19=>4|n=>n⟩
theorem Tryz.laysC172:Go.Proofs.LaysC.n172 aS Tryz.laysC172_ren:={
 mixed:=by kernel_rfl
 f129:=Tryz.func241.trans (dq some (by kernel_rfl))
 f171:=Tryz.func136.trans (dq some (by kernel_rfl))
 f172:=Tryz.func223.trans (dq some (by kernel_rfl))
 f205:=Tryz.func295.trans (dq some (by kernel_rfl))
 f243:=Tryz.func192.trans (dq some (by kernel_rfl))
 f244:=Tryz.func257.trans (dq some (by kernel_rfl))
 f245:=Tryz.func258.trans (dq some (by kernel_rfl))
 f246:=Tryz.func229.trans (dq some (by kernel_rfl))
 f247:=Tryz.func273.trans (dq some (by kernel_rfl))
 f279:=Tryz.func274.trans (dq some (by kernel_rfl))
 f280:=Tryz.func275.trans (dq some (by kernel_rfl))
 f281:=Tryz.func276.trans (dq some (by kernel_rfl))
 f282:=Tryz.func277.trans (dq some (by kernel_rfl))
 f283:=Tryz.func261.trans (dq some (by kernel_rfl))
 f284:=Tryz.func262.trans (dq some (by kernel_rfl))
 f285:=Tryz.func263.trans (dq some (by kernel_rfl))
 f286:=Tryz.func264.trans (dq some (by kernel_rfl))
 f287:=Tryz.func293.trans (dq some (by kernel_rfl))
 f316:=Tryz.func294.trans (dq some (by kernel_rfl))
 f317:=Tryz.func278.trans (dq some (by kernel_rfl))
 f318:=Tryz.func279.trans (dq some (by kernel_rfl))
 f319:=Tryz.func280.trans (dq some (by kernel_rfl))
 f320:=Tryz.func281.trans (dq some (by kernel_rfl))
 f321:=Tryz.func304.trans (dq some (by kernel_rfl))
 f322:=Tryz.func305.trans (dq some (by kernel_rfl))
 f337:=Tryz.func296.trans (dq some (by kernel_rfl))
 f338:=Tryz.func297.trans (dq some (by kernel_rfl))
 t0:=Tryz.underlying0
 a0:=Tryz.isAgg0
 z0:=Tryz.sizeOf0
 v0:=Tryz.zeroValue0
 t2:=Tryz.underlying2
 a2:=Tryz.isAgg2
 z2:=Tryz.sizeOf2
 v2:=Tryz.zeroValue2
 t3:=Tryz.underlying3
 a3:=Tryz.isAgg3
 z3:=Tryz.sizeOf3
 v3:=Tryz.zeroValue3
 t4:=Tryz.underlying4
 a4:=Tryz.isAgg4
 z4:=Tryz.sizeOf4
 v4:=Tryz.zeroValue4
 t5:=Tryz.underlying5
 a5:=Tryz.isAgg5
 z5:=Tryz.sizeOf5
 v5:=Tryz.zeroValue5
 t9:=Tryz.underlying9
 a9:=Tryz.isAgg9
 z9:=Tryz.sizeOf9
 v9:=Tryz.zeroValue9
 t20:=Tryz.underlying20
 a20:=Tryz.isAgg20
 z20:=Tryz.sizeOf20
 v20:=Tryz.zeroValue20
 t21:=Tryz.underlying21
 a21:=Tryz.isAgg21
 z21:=Tryz.sizeOf21
 v21:=Tryz.zeroValue21
 t37:=Tryz.underlying35
 a37:=Tryz.isAgg35
 z37:=Tryz.sizeOf35
 v37:=Tryz.zeroValue35
 t46:=Tryz.underlying209
 a46:=Tryz.isAgg209
 z46:=Tryz.sizeOf209
 v46:=Tryz.zeroValue209
 t51:=Tryz.underlying265
 a51:=Tryz.isAgg265
 z51:=Tryz.sizeOf265
 v51:=Tryz.zeroValue265
 t53:=Tryz.underlying267
 a53:=Tryz.isAgg267
 z53:=Tryz.sizeOf267
 v53:=Tryz.zeroValue267
 t75:=Tryz.underlying108
 a75:=Tryz.isAgg108
 z75:=Tryz.sizeOf108
 v75:=Tryz.zeroValue108
 t76:=Tryz.underlying109
 a76:=Tryz.isAgg109
 z76:=Tryz.sizeOf109
 v76:=Tryz.zeroValue109
 t85:=Tryz.underlying296
 a85:=Tryz.isAgg296
 z85:=Tryz.sizeOf296
 v85:=Tryz.zeroValue296
 t127:=Tryz.underlying181
 a127:=Tryz.isAgg181
 z127:=Tryz.sizeOf181
 v127:=Tryz.zeroValue181
 t143:=Tryz.underlying323
 a143:=Tryz.isAgg323
 z143:=Tryz.sizeOf323
 v143:=Tryz.zeroValue323
 t145:=Tryz.underlying325
 a145:=Tryz.isAgg325
 z145:=Tryz.sizeOf325
 v145:=Tryz.zeroValue325
 t167:=Tryz.underlying295
 a167:=Tryz.isAgg295
 z167:=Tryz.sizeOf295
 v167:=Tryz.zeroValue295
 t168:=Tryz.underlying298
 a168:=Tryz.isAgg298
 z168:=Tryz.sizeOf298
 v168:=Tryz.zeroValue298
 t171:=Tryz.underlying284
 a171:=Tryz.isAgg284
 z171:=Tryz.sizeOf284
 v171:=Tryz.zeroValue284
 t173:=Tryz.underlying286
 a173:=Tryz.isAgg286
 z173:=Tryz.sizeOf286
 v173:=Tryz.zeroValue286
 t175:=Tryz.underlying314
 a175:=Tryz.isAgg314
 z175:=Tryz.sizeOf314
 v175:=Tryz.zeroValue314
 t210:=Tryz.underlying317
 a210:=Tryz.isAgg317
 z210:=Tryz.sizeOf317
 v210:=Tryz.zeroValue317
 t212:=Tryz.underlying302
 a212:=Tryz.isAgg302
 z212:=Tryz.sizeOf302
 v212:=Tryz.zeroValue302
 t213:=Tryz.underlying303
 a213:=Tryz.isAgg303
 z213:=Tryz.sizeOf303
 t232:=Tryz.underlying326
 a232:=Tryz.isAgg326
 z232:=Tryz.sizeOf326
 v232:=Tryz.zeroValue326
 t233:=Tryz.underlying327
 a233:=Tryz.isAgg327
 z233:=Tryz.sizeOf327
 v233:=Tryz.zeroValue327
 g15:=by kernel_rfl
 g16:=by kernel_rfl
 g17:=by kernel_rfl
 g18:=by kernel_rfl
 g19:=by kernel_rfl
 t80:=Tryz.underlying112
 a80:=Tryz.isAgg112
 z80:=Tryz.sizeOf112
 v80:=Tryz.zeroValue112
 i0:=by kernel_rfl
 i2:=by kernel_rfl
 i3:=by kernel_rfl
 i4:=by kernel_rfl
 i5:=by kernel_rfl
 i9:=by kernel_rfl
 i20:=by kernel_rfl
 i21:=by kernel_rfl
 i37:=by kernel_rfl
 i46:=by kernel_rfl
 i51:=by kernel_rfl
 i53:=by kernel_rfl
 i75:=by kernel_rfl
 i76:=by kernel_rfl
 i80:=by kernel_rfl
 i85:=by kernel_rfl
 i127:=by kernel_rfl
 i143:=by kernel_rfl
 i145:=by kernel_rfl
 i167:=by kernel_rfl
 i168:=by kernel_rfl
 i171:=by kernel_rfl
 i173:=by kernel_rfl
 i175:=by kernel_rfl
 i210:=by kernel_rfl
 i212:=by kernel_rfl
 i232:=by kernel_rfl
 i233:=by kernel_rfl
 m15:=by kernel_rfl
 m16:=by kernel_rfl
 m17:=by kernel_rfl
 m18:=by kernel_rfl
 m19:=by kernel_rfl
 c0:=by kernel_rfl
 c2:=by kernel_rfl
 c3:=by kernel_rfl
 c4:=by kernel_rfl
 c5:=by kernel_rfl
 c9:=by kernel_rfl
 c20:=by kernel_rfl
 c21:=by kernel_rfl
 c37:=by kernel_rfl
 c46:=by kernel_rfl
 c51:=by kernel_rfl
 c53:=by kernel_rfl
 c75:=by kernel_rfl
 c76:=by kernel_rfl
 c80:=by kernel_rfl
 c85:=by kernel_rfl
 c127:=by kernel_rfl
 c143:=by kernel_rfl
 c145:=by kernel_rfl
 c167:=by kernel_rfl
 c168:=by kernel_rfl
 c171:=by kernel_rfl
 c173:=by kernel_rfl
 c175:=by kernel_rfl
 c210:=by kernel_rfl
 c212:=by kernel_rfl
 c213:=by kernel_rfl
 c232:=by kernel_rfl
 c233:=by kernel_rfl}
end
end Go.Proofs
namespace Go.Proofs.YtlnndmgfngfeiaaGreatDoor
section
open Go Go.Pv
def Cl:C:=(al [mY 2 1,bM 3 false] (.seq (al [ae 9 0,a7 10 (.slen (.t 9)),bd 11 .gtr 10 100000] (bf 11 (al [mY 2 1,bM 3 false] .ret) .skip)) (.seq (al [cK 4 0] (.block 0 (.loop (.seq (al [ae 12 4,ae 13 0,a7 14 (.slen (.t 13)),dm 15 .lss 12 14] (bf 15 .skip (.exit 0))) (.seq (.block 1 (al [ae 18 0,ae 19 4,a7 20 (.sidx (.t 18) (.t 19)),a7 21 (.bin .neq false (.t 20) (.c (.int .u8 10))),ae 22 21,b0 22 true 23 0,b0 22 true 24 4,aM 22 true (a7 25 (.sidx (.t 23) (.t 24))),aM 22 true (a7 26 (.bin .lss false (.t 25) (.c (.int .u8 32)))),b0 22 true 27 26,b0 27 false 28 0,b0 27 false 29 4,aM 27 false (a7 30 (.sidx (.t 28) (.t 29))),aM 27 false (a7 31 (.bin .gtr false (.t 30) (.c (.int .u8 126)))),aM 22 true (ds 32 27 31),e7 33 22 32] (bf 33 (al [mY 2 1,bM 3 false] .ret) .skip))) (.region [ae 16 4,bd 17 .add 16 1,ae 4 17])))))) (al [h9 34 1 9 [],ae 5 34] (.seq (al [cK 6 0] (.block 2 (.loop (.seq (al [ae 35 6,ae 36 0,a7 37 (.slen (.t 36)),dm 38 .lss 35 37] (bf 38 .skip (.exit 2))) (.block 3 (al [ae 39 0,ae 40 6,a7 41 (.sidx (.t 39) (.t 40)),ae 7 41] (.block 4 (al [ae 88 7,a7 89 (.bin .eql false (.t 88) (.c (.int .u8 32))),ae 90 89,b0 90 false 91 7,aM 90 false (a7 92 (.bin .eql false (.t 91) (.c (.int .u8 10)))),ds 93 90 92,ae 87 93] (bf 87 (.region [ae 94 6,bd 95 .add 94 1,ae 6 95]) (al [ae 97 7,a7 98 (.bin .eql false (.t 97) (.c (.int .u8 59))),ae 96 98] (bf 96 (.block 7 (.loop (.seq (al [ae 99 6,ae 100 0,a7 101 (.slen (.t 100)),dm 102 .lss 99 101,ae 103 102,b0 103 true 104 0,b0 103 true 105 6,aM 103 true (a7 106 (.sidx (.t 104) (.t 105))),aM 103 true (a7 107 (.bin .neq false (.t 106) (.c (.int .u8 10)))),e7 108 103 107] (bf 108 .skip (.exit 7))) (.block 8 (.region [ae 109 6,bd 110 .add 109 1,ae 6 110]))))) (al [ae 112 7,a7 113 (.bin .eql false (.t 112) (.c (.int .u8 40))),ae 114 113,b0 114 false 115 7,aM 114 false (a7 116 (.bin .eql false (.t 115) (.c (.int .u8 41)))),ds 117 114 116,ae 111 117] (bf 111 (al [ae 118 5,ae 119 0,ae 120 6,ae 121 6,bd 122 .add 121 1,a7 123 (.ssl (.t 119) (some (.t 120)) (some (.t 122))),h9 124 1 9 [.t 123],nP 125 1 9 118 124,ae 5 125] (.region [ae 126 6,bd 127 .add 126 1,ae 6 127])) (al [ae 42 6,ae 8 42] (.seq (.block 5 (.loop (.seq (al (ae 43 8::ae 44 0::a7 45 (.slen (.t 44))::dm 46 .lss 43 45::ae 47 46::b0 47 true 48 0::b0 47 true 49 8::aM 47 true (a7 50 (.sidx (.t 48) (.t 49)))::aM 47 true (a7 51 (.bin .neq false (.t 50) (.c (.int .u8 32))))::e7 52 47 51::ae 53 52::b0 53 true 54 0::b0 53 true 55 8::aM 53 true (a7 56 (.sidx (.t 54) (.t 55)))::aM 53 true (a7 57 (.bin .neq false (.t 56) (.c (.int .u8 10))))::e7 58 53 57::ae 59 58::b0 59 true 60 0::b0 59 true 61 8::aM 59 true (a7 62 (.sidx (.t 60) (.t 61)))::aM 59 true (a7 63 (.bin .neq false (.t 62) (.c (.int .u8 40))))::e7 64 59 63::ae 65 64::b0 65 true 66 0::b0 65 true 67 8::aM 65 true (a7 68 (.sidx (.t 66) (.t 67)))::aM 65 true (a7 69 (.bin .neq false (.t 68) (.c (.int .u8 41))))::e7 70 65 69::ae 71 70::b0 71 true 72 0::b0 71 true 73 8::aM 71 true (a7 74 (.sidx (.t 72) (.t 73)))::aM 71 true (a7 75 (.bin .neq false (.t 74) (.c (.int .u8 59))))::e7 76 71 75::[]) (bf 76 .skip (.exit 5))) (.block 6 (.region [ae 77 8,bd 78 .add 77 1,ae 8 78]))))) (al [ae 79 5,ae 80 0,ae 81 6,ae 82 8,a7 83 (.ssl (.t 80) (some (.t 81)) (some (.t 82))),h9 84 1 9 [.t 83],nP 85 1 9 79 84,ae 5 85] (.region [ae 86 8,ae 6 86]))))))))))))))))) (.seq (al [ae 128 5,dT 129 128,bd 130 .gtr 129 20000] (bf 130 (al [mY 2 1,bM 3 false] .ret) .skip)) (al [ae 131 5,ae 2 131,bM 3 true] .ret)))))))
@[simp] def wA:List cr:=[.tmp 2,.tmp 3]
def G9:C:=(al [hv 2 dE] (al [ae 3 0,kO 4 dE [(0,1,(cQ 1)),(1,1,(.t 3))],bO 4 2 4] .ret))
@[simp] def UJ:List cr:=[.cell 2 true 4]
def xk:C:=(al [cK 2 0,bM 3 false] (al [ae 7 0,dY 8 223 7,ae 6 8,ek 9 0 6,ek 10 1 6,ae 4 9,ae 5 10] (.seq (al [ae 11 5,a7 12 (.isn true (.t 11)),ae 13 12,b0 13 false 14 4,aM 13 false (dY 15 136 14),b0 13 false 16 0,aM 13 false (dm 17 .neq 15 16),ds 18 13 17] (bf 18 (al [cK 2 0,bM 3 false] .ret) .skip)) (al [ae 19 4,ae 2 19,bM 3 true] .ret))))
@[simp] def La:List cr:=[.tmp 2,.tmp 3]
def G5:C:=(al [hv 2 dE] (al [ae 3 0,kO 4 dE [(0,1,(cQ 2)),(2,1,(.t 3))],bO 4 2 4] .ret))
@[simp] def UE:List cr:=[.cell 2 true 4]
def G3:C:=(al [hv 2 dE] (al [ae 3 0,kO 4 dE [(0,1,(cQ 3)),(1,1,(.t 3))],bO 4 2 4] .ret))
@[simp] def UC:List cr:=[.cell 2 true 4]
def wU:List (Nat×cm):=[
 (3,⟨1,8,.int .i64,.int .i64 0⟩),
 (5,⟨1,1,.int .u8,.int .u8 0⟩),
 (9,⟨1,16,.str,.str []⟩),
 (35,⟨1,24,.slice 5,.slice 1 .nil []⟩),
 (38,⟨1,24,.slice 40,.slice 4 .nil []⟩),
 (40,⟨4,56,.struct [(0,3),(1,3),(2,9),(3,38)],.agg [.int .i64 0,.int .i64 0,.str [],.slice 4 .nil []]⟩),
 (70,⟨1,24,.slice 9,.slice 1 .nil []⟩),
 (104,⟨1,8,.other,.nilp⟩),
 (106,⟨2,32,.struct [(0,104),(1,35)],.agg [.nilp,.slice 1 .nil []]⟩),
 (108,⟨1,16,.iface,.junk⟩)]
theorem rN:dJ aS wU=true:=by kernel_rfl
theorem KQ:c6 wU Cl wA 1 Tryz.f82=true:=by kernel_rfl
theorem Ib:aS.funcs[(82:Nat)]? =some Tryz.f82:=Tryz.func82
theorem T2:c6 wU G9 UJ 1 Tryz.f86=true:=by kernel_rfl
theorem PN:aS.funcs[(86:Nat)]? =some Tryz.f86:=Tryz.func86
theorem Bd:c6 wU xk La 1 Tryz.f179=true:=by kernel_rfl
theorem zM:aS.funcs[(179:Nat)]? =some Tryz.f179:=Tryz.func179
theorem TY:c6 wU G5 UE 1 Tryz.f207=true:=by kernel_rfl
theorem PJ:aS.funcs[(207:Nat)]? =some Tryz.f207:=Tryz.func207
theorem TW:c6 wU G3 UC 1 Tryz.f208=true:=by kernel_rfl
theorem PH:aS.funcs[(208:Nat)]? =some Tryz.f208:=Tryz.func208
theorem uT:(aS.info? 106).map (·.size)=some 2:=by kernel_rfl
theorem b5.sem{f:FuncId}{fn:Func}(aH:aS.funcs[f]? =some fn)(af:fn.body.isSome=true)(aR:(fn.name== "runtime.NumGoroutine")=false){args:List ab}{r:ab}(hr:kin (fun _=>cw) r)
  (h:∀(w:World) (ν:aD) (vs:Array Value),lQ w ν->(∀b o,ν.A b o->b<w.heap.size)->bP w ν args vs.toList->Calls aS f vs w fun e w'=> ∃v,e= .returned v/\(∀ν',(∀b o,ν.A b o->ν'.A b o)->aw w' ν' r v)/\w.grownBy w' none):b5 aS f args r:=by
 refine cS.sem oz fun w ν vs gl fl k7=>?_;have hC:bP w ν args vs.toList:=by
  have eB:args.length=vs.toList.length:=by simpa using fl.symm
  have:∀(l:List ab) (us:List Value),l.length=us.length->(∀i p,l[i]? =some p->aw w ν p (us.getD i undef))->bP w ν l us:=by
   intro l;induction l with
   |nil=>intro us h _;cases us<;>simp at h⊢;simp[bP]
   |cons p l a8=>
    intro us h aB;cases us with
    |nil=>simp at h
    |cons u us=>simp only[bP];exact⟨u,us,rfl,by simpa using aB 0 p rfl,a8 us (by simpa using h) fun i q bj=>by simpa using aB (i+1) q (by simpa using bj)⟩
  refine this _ _ eB fun i p aY=>?_;have ao:=k7.slot i;have aB:=(fG.1 aY).1;rw[vA,if_pos Ω]at ao;have:args.getD i .junk=p:=by simp[List.getD,aY]
  simp only[Nat.sub_zero,this]at ao;simpa[mg]using ao
 refine .inl ⟨⟨fn,aH,af,aR⟩,(h w ν vs gl k7.good.alt hC).mono ?_⟩;rintro e w' ⟨v,rfl,aL,aP⟩;exact⟨v,_,_,ν,r,⟨[],[]⟩,rfl,k7.grown aP,aL ν fun _ _ h=>h,trivial,trivial,fun k cs J=>by simp[Pv.look]at J,fun k cs J=>by simp[Pv.look]at J,oz,l6 (fun _ h=>h.elim) _ hr,rfl,rfl⟩
theorem SK{n:Int}(h:bm n):(Lib.itoa n).length<=bX:=by unfold bm at h;have:=Lib.itoa_length_le n Ω Ω;unfold bX;omega
theorem QQ(w:World)(k:Nat)(os:Array Obj):w.grownBy (Sort.grow (w.drewN k) os) none:=⟨rfl,rfl,rfl,Ψ,fun j av _=>Sort.heap_grow_old _ _ av⟩
theorem C2{w w':World}(h:RowKit.Below w.heap.size w w'):w.grownBy w' none:=⟨h.os,h.tape,h.output,h.size,fun k J _=>h.block k J⟩
theorem IT(i:Nat)(aB:i<20):(0,i,20,fun v=>v=lM .u64 ((10 ^ i:Nat):Int))∈sp:=by unfold sp;exact kk _ (lO.2 ⟨i,List.mem_range.2 aB,rfl⟩)
theorem VC{w:World}{ν:aD}(h:lQ w ν):Lib.TabIs aS w "internal/strconv.uint64pow10" .u64 Lib.pow10Tab:=by
 have aP:aS.globalNamed "internal/strconv.uint64pow10" =some 0:=by kernel_rfl
 obtain⟨_,_,el,fq⟩:=h _ (IT 0 Ω);unfold Lib.TabIs;simp only[World.var?,aP,Option.bind_some];unfold Pv.shape at fq;simp only at fq;split at fq
 ·rename_i cur dQ fz hw;rw[hw];simp only[dv,hx]at fq;simp only[dv];apply Array.ext
  ·simp[fq.1,Lib.pow10Tab]
  ·intro i I aa;obtain⟨_,⟨v,aL,aY⟩,_⟩:=h _ (IT i Ω);simp only at aL aY;subst aY;have az:cur[i]? =some (lM .u64 ((10 ^ i:Nat):Int)):=by simpa[World.cell?,hw]using aL
   rw[mh I]at az;rw[iN az];simp[Lib.pow10Tab]
 ·cases fq
theorem VT(n:Int)(h:bm n):b5 aS 136 [.int .i64 n] (.str (Lib.itoa n)):=by
 refine b5.sem Tryz.func136 (by kernel_rfl) (by kernel_rfl) (by simp[kin]) fun w ν vs gl aT hC=>?_;simp only[bP,aw]at hC;obtain⟨v,us,bL,rfl,rfl⟩:=hC;have fl:vs= #[.int .i64 n]:=by rw[<-Array.toList_inj];simpa using bL
 subst fl;unfold bm at h;refine(Any.strconv_Itoa Tryz.laysM171 n Ω Ω w (VC gl)).mono ?_;rintro e w' ⟨rfl,k,os,rfl⟩;exact⟨_,rfl,fun ν' _=>by simp only[aw];exact⟨trivial,SK (by unfold bm;omega)⟩,QQ w k os⟩
def tC(s:List aC):ab:=match Lib.atoiAll s with
 | .ok v=>.tuple [.int .i64 v,.cst .nilIface]
 | .range=>.tuple [.int .i64 (Lib.atoiSat s),.iface (Tryz.laysC172_ren.t 168) .junk]
 |_=>.tuple [.int .i64 0,.iface (Tryz.laysC172_ren.t 168) .junk]
theorem VQ(s:List aC)(aA:s.length<=bX):b5 aS 223 [.str s] (tC s):=by
 have J:kin (fun _=>cw) (tC s):=by unfold tC;split<;>simp[kin,kinL]
 refine b5.sem Tryz.func223 (by kernel_rfl) (by kernel_rfl) J fun w ν vs gl aT hC=>?_;simp only[bP,aw]at hC;obtain⟨v,us,bL,⟨rfl,_⟩,rfl⟩:=hC;have fl:vs= #[.string ⟨s.toArray⟩]:=by rw[<-Array.toList_inj];simpa using bL
 subst fl;have eB:(⟨s.toArray⟩:ib).size=s.length:=by simp[Gj]
 unfold bX at aA;obtain⟨_,⟨ah,Dk,aak,ZC,rfl⟩,_⟩:=gl (1,0,1,fun v=> ∃t p,v= .iface t p) (by unfold sp;simp);obtain⟨_,⟨aE,Dl,aal,ZD,rfl⟩,_⟩:=gl (2,0,1,fun v=> ∃t p,v= .iface t p) (by unfold sp;simp);rcases h:Lib.atoiAll s with v|_|_
 ·refine(Any.strconv_Atoi_ok Tryz.laysC172 ⟨s.toArray⟩ Ω v (by simpa using h) w).mono ?_;rintro e w' ⟨rfl,hw⟩;refine⟨_,rfl,fun ν' _=>?_,?_⟩
  ·unfold tC;rw[h];simp only[aw,bP];exact⟨_,rfl,_,_,rfl,rfl,_,_,rfl,rfl,rfl⟩
  ·rcases hw with rfl|⟨t,rfl⟩
   ·exact⟨rfl,rfl,rfl,cE _,fun _ _ _=>rfl⟩
   ·exact C2 (Lib.bytesWorld_below _ _ _)
 ·refine(Any.strconv_Atoi_syntax Tryz.laysC172 ⟨s.toArray⟩ Ω (by simpa using h) _ w Dk (.inr ⟨_,_,rfl⟩)).mono ?_;rintro e w' ⟨N,rfl,_,_,af⟩;exact⟨_,rfl,fun ν' _=>by unfold tC;rw[h];simp only[aw,bP];exact⟨_,rfl,_,_,rfl,rfl,_,_,rfl,⟨_,rfl,trivial⟩,rfl⟩,C2 af⟩
 ·refine(Any.strconv_Atoi_range Tryz.laysC172 ⟨s.toArray⟩ Ω (by simpa using h) _ w Dl (.inr ⟨_,_,rfl⟩)).mono ?_;rintro e w' ⟨N,rfl,_,_,af⟩;exact⟨_,rfl,fun ν' _=>by unfold tC;rw[h];simp only[aw,bP];exact⟨_,rfl,_,_,rfl,rfl,_,_,rfl,⟨_,rfl,trivial⟩,rfl⟩,C2 af⟩
end
end Go.Proofs.YtlnndmgfngfeiaaGreatDoor
namespace Go.Pv
section
open Go Go.Lib
end
section
open Go
def T.ap(Gi:Int->T):T->T
 | .var n=>Gi n
 | .pair a b=>.pair (a.ap Gi) (b.ap Gi)
 |t=>t
def Vh(s:List ie)(v:Int):T:=(Nh s v).getD (.var v)
abbrev Gk(s:List ie):Prop:=s.Pairwise fun x y=>x.v<y.v
def one(v:Int)(x:T)(w:Int):T:=if w=v then x else .var w
structure MV where
 up:List (Int×Int)
 shape:List (Int×T)
 shaped:List (Int×Bool)
 color:List (Int×Int)
 size:List (Int×Int)
 full:List (Int×T)
end
section
open Go
section
variable {K0:Int->aV T} {B2:Int->Int} {r:Int->Nat}
end
section
variable {c:MV} {B2:Int->Int} {x y:Int}
end
end
section
open Go
def cut(n:Nat):Int:=if 5001<(n:Int)then 5001 else n
section
variable {V:List Int} {K0:Int->aV T} {B2:Int->Int} {r:Int->Nat}
end
end
section
open Go
section
variable {V:List Int} {K0:Int->aV T} {B2:Int->Int} {r:Int->Nat}
end
end
section
open Go
end
section
open Go Go.Lib
theorem Tz{s:List aC}(h:gU s=true):s.length<=12:=by obtain⟨c,r,rfl,_,_,ak⟩:=KJ h;simp;omega
structure Gl (s t:List ie):Prop where
 sa:Gk s
 sv:∀b∈s,4<=b.v/\b.v<8
 so:∀b∈s,b.t.ok=true/\b.t.size<=16/\∀w,b.t.occ w=true->0<=w/\w<4
 ta:Gk t
 tk:∃k:Int,∀b∈t,0<=b.v/\b.v<4/\k<=b.v/\∀w,b.t.occ w=true->0<=w/\w<k
 to:∀b∈t,b.t.ok=true/\b.t.size<=16
def Cd(t:List ie)(b:ie):ie:=⟨b.v,b.t.ap (Vh t)⟩
section
variable {s t:List ie} (h:Gl s t)
include h
end
section
variable {s t:List ie} (h:Gl s t)
include h
end
end
end Go.Pv
namespace Go.Proofs.YtlnndmgfngfeiaaGreatDoor
section
open Go Go.Pv
def dz(l:List (List aC)):List ab:=l.map ab.str
@[simp]theorem S1(S:aq->Prop)(l:List (List aC)):kinL S (dz l)=True:=by
 apply eq_true;induction l with
 |nil=>simp[dz,kinL]
 |cons x r a8=>simp only[dz,gZ,kinL,kin]at a8⊢;exact⟨trivial,a8⟩
@[simp]theorem aaf(l:List (List aC)):bz (dz l)=dz l:=by
 induction l with
 |nil=>rfl
 |cons x r a8=>simp only[dz,gZ,bz,bC]at a8⊢;rw[a8]
@[simp]theorem aaj(l:List (List aC)):(dz l).length=l.length:=by simp[dz]
theorem qw{l:List (List aC)}{i:Nat}(h:i<l.length):∀b6,(dz l)[i]'b6= .str l[i]:=fun _=>by simp[dz]
theorem dc(S:aq->Prop):∀a b:List ab,kinL S (a++b)=(kinL S a/\kinL S b)
 |[],b=>by simp[kinL]
 |x::a,b=>by simp only[eI,kinL,dc S a b,and_assoc]
mutual
def _root_.Go.Pv.Gm.w:Gm->Nat
 | .mk _ _ t g=>1+aU.szL t+p7 g
def p7:List Gm->Nat
 |[]=>0
 |x::xs=>x.w+p7 xs
end
theorem LY{g:Gm}(h:g.shape=true):g.name.length<=12:=by
 rw[mR,bA]at h;obtain⟨_,h⟩:=h;split at h
 ·simp at h;rw[h.1.1.1];simp
 ·split at h
  ·simp at h;have:=h.1.1;unfold iq at this;rw[bA]at this;exact Tz this.2
  ·split at h
   ·simp at h;rw[h.1.1.1];simp
   ·split at h
    ·simp at h;rw[h.1.1.1];simp
    ·cases h
theorem dD(S:aq->Prop)(l:List (List aC)):kinL S (l.map ab.str)=True:=S1 S l
mutual
def h8:ab->Nat
 | .int _ _=>1
 | .str _=>1
 | .slice _ _ xs=>kN xs
 | .agg cs=>kN cs
 |_=>0
def kN:List ab->Nat
 |[]=>0
 |x::xs=>h8 x+kN xs
end
mutual
theorem Tq(b9:Int->List aC):∀(p:ab) (k:Int),(cJ b9 p k).2=k+h8 p
 | .int _ _,k=>by simp[cJ,h8]
 | .str _,k=>by simp[cJ,h8]
 | .slice _ _ xs,k=>by simp only[cJ,h8];exact A2 b9 xs k
 | .agg cs,k=>by simp only[cJ,h8];exact A2 b9 cs k
 | .bool _,k=>by simp[cJ,h8]
 | .junk,k=>by simp[cJ,h8]
 | .ptr _ _,k=>by simp[cJ,h8]
 | .eptr _,k=>by simp[cJ,h8]
 | .iface _ _,k=>by simp[cJ,h8]
 | .nilp,k=>by simp[cJ,h8]
 | .tuple _,k=>by simp[cJ,h8]
 | .func _ _,k=>by simp[cJ,h8]
 | .gmap _,k=>by simp[cJ,h8]
 | .row _ _ _,k=>by simp[cJ,h8]
 | .rptr _ _ _ _ _,k=>by simp[cJ,h8]
 | .hdm _ _,k=>by simp[cJ,h8]
 | .hdi _ _ _,k=>by simp[cJ,h8]
 | .cst _,k=>by simp[cJ,h8]
theorem A2(b9:Int->List aC):∀(aZ:List ab) (k:Int),(bI b9 aZ k).2=k+kN aZ
 |[],k=>by simp[bI,kN]
 |x::xs,k=>by simp only[bI,kN];rw[A2 b9 xs,Tq b9 x];omega
end
mutual
theorem Wt:∀t:aU,h8 (enc t)=3*t.sz
 | .mk k n s a=>by simp only[enc,h8,kN,aU.sz,F8 a];omega
theorem F8:∀l:List aU,kN (j3 l)=3*aU.szL l
 |[]=>rfl
 |x::xs=>by simp only[j3,kN,aU.szL,Wt x,F8 xs];omega
end
mutual
theorem JS:∀t:aU,hP (enc t)
 | .mk k n s a=>by simp only[enc];exact .mk k n s (j3 a) fun y bk=>JT a y bk
theorem JT:∀(l:List aU),∀y∈j3 l,hP y
 |[],y,h=>by simp[j3]at h
 |x::xs,y,h=>by
  simp only[j3,gp]at h;rcases h with rfl|h
  ·exact JS x
  ·exact JT xs y h
end
theorem D4{l:List aU}:∀y∈l.map enc,hP y:=fun y bk=>by obtain⟨t,_,rfl⟩:=lO.1 bk;exact JS t
mutual
theorem SG:∀g:Gm,zh (nm g)
 | .mk k s t g=>by simp only[nm];exact .mk k s (t.map enc) (ks g) D4 fun y bk=>JR g y bk
theorem JR:∀(l:List Gm),∀y∈ks l,zh y
 |[],y,h=>by simp[ks]at h
 |x::xs,y,h=>by
  simp only[ks,gp]at h;rcases h with rfl|h
  ·exact SG x
  ·exact JR xs y h
end
mutual
theorem MI:∀g:Gm,h8 (nm g)<=3*g.w
 | .mk k s t g=>by have I:=MJ g;have aa:=F8 t;rw[vm]at aa;simp only[nm,h8,kN,Gm.w,aa];omega
theorem MJ:∀l:List Gm,kN (ks l)<=3*p7 l
 |[]=>by simp[ks,kN,p7]
 |x::xs=>by have I:=MI x;have aa:=MJ xs;simp only[ks,kN,p7];omega
end
theorem Qc{t:aU}(h:t.fits=true):t.sz<=5000:=by
 obtain⟨x,rfl,aa⟩:=aU.fits_ex h;have e:x.tm.sz=x.size:=by
  clear aa h;induction x with
  |pair a b rb re=>simp[T.tm,aU.sz,aU.szL,T.size,rb,re];omega
  |_=>rfl
 unfold T.fit at aa;simp only[bA,fH]at aa;omega
theorem L8:∀{l:List aU},(∀t∈l,t.fits=true)->aU.szL l<=5000*l.length
 |[],_=>by simp[aU.szL]
 |t::l,h=>by have I:=Qc (h t Ψ);have aa:=L8 (l:=l) fun x ad=>h x (by simp[ad]);simp only[aU.szL,lN];omega
theorem Vn{g:Gm}(h:g.shape=true):g.ts.length<=4:=by
 rw[mR,bA]at h;obtain⟨_,h⟩:=h;split at h
 ·simp at h;have aa:=h.1.2;unfold jT at aa;repeat' split at aa
  all_goals omega
 ·split at h
  ·simp at h;exact h.2
  ·split at h
   ·simp at h;rw[h.1.1.2];simp
   ·split at h
    ·simp at h;rw[h.1.1.2];simp
    ·simp at h
theorem TB{g:Gm}(h:g.shape=true)(aR:jb g.kind=false):g.gs=[]:=by
 rw[mR,bA]at h;obtain⟨_,h⟩:=h;simp[jb]at aR;split at h
 ·simp at h;exact h.1.1.2
 ·split at h
  ·simp at h;exact h.1.2
  ·split at h
   ·omega
   ·split at h
    ·omega
    ·simp at h
mutual
theorem LZ:∀g:Gm,g.shape=true->g.w<=20001*g.sz
 | .mk k s t gs,h=>by
  have I:=Vn h;have aa:=L8 (l:=t) (uS h);have ak:p7 gs<=20001*mz gs:=by
   by_cases aR:jb k=true
   ·exact L0 gs fun x ad=>_root_.Go.Pv.shape_gs h aR x ad
   ·have:gs=[]:=TB (g:= .mk k s t gs) h (Bool.eq_false_iff.2 aR);subst this;simp[p7]
  simp only[Gm.ts]at I;simp only[Gm.w,Gm.sz];omega
theorem L0:∀l:List Gm,(∀x∈l,x.shape=true)->p7 l<=20001*mz l
 |[],_=>by simp[p7]
 |x::xs,h=>by have I:=LZ x (h x Ψ);have aa:=L0 xs fun y bk=>h y (by simp[bk]);simp only[p7,mz];omega
end
theorem Qd{g:Gm}{n:Nat}(h:g.fits n=true):kN (g.ts.map enc)+kN (g.gs.map Gm.e)+2<=60003*n:=by unfold Gm.fits at h;simp only[bA,fH]at h;have I:=MI g;have aa:=LZ g h.1;have e:nm g=g.e:=rfl;rw[e,Gm.e_eq]at I;simp only[h8,kN]at I;omega
@[simp]theorem Ze(n:Nat):(aq.loc n=cV)=cw:=eq_false (nF n)
@[simp]theorem ZL(n:Nat):(cV=aq.loc n)=cw:=eq_false fun h=>nF n h.symm
@[simp]theorem Zf(m b n:Nat):(aq.loc m∈y5 b n)=cw:=eq_false fun h=>by obtain⟨_,e,_⟩:=Ky.1 h;cases e
theorem _root_.Go.Pv.CallDo.tree{P:bp}{n:Nat}{args:List ab}{st:aN}{d:aV Nat}{K:aN->Prop}{ε:Nat->Nat}{b:Nat}{p ma nJ:ab}(aF:cb p)(az:bZ ma=bZ p)
  (aH:cS P n args (e9 ε b p) fun cv aj=>cv=nJ/\aj=e9 ε b ma) (he:st.e=cR ε b p) (J:kinL (rng b (b+bZ p)) args) (h:K ⟨eD d nJ st.t,st.b,cR ε b ma,st.n,st.o++dG (e9 ε b ma)⟩):CallDo P n args st d K:=by
 refine CallDo.ob aH (qK aF) (fun k cs J=>by simp[Pv.look]at J) (fun k o J=>by rw[he];exact J) (lF (fun k J=>(xd k).2 J) _ J) ?_;rintro cv aj ⟨rfl,rfl⟩;refine⟨r3 az,?_⟩;rw[he,tv,wZ];simpa using h
mutual
theorem Ob:∀t:aU,cb (enc t)
 | .mk k n s a=>by simp only[enc,cb,Pv.dtL,true_and,and_true];exact⟨Ω,CD a⟩
theorem CD:∀l:List aU,Pv.dtL (j3 l)
 |[]=>trivial
 |x::xs=>⟨Ob x,CD xs⟩
end
@[simp]theorem XP(l:List aU):Pv.dtL (l.map enc)=True:=by rw[<-vm];exact eq_true (CD l)
def Bh(o:aV Int):ab:= .tuple [.int .i64 (o.getD 0),.bool o.isSome]
theorem Mv(s:List aC)(aA:s.length<=bX):b5 aS 179 [.str s] (Bh (gQ s)):=by
 have e1:=VQ s aA;unfold tC at e1;unfold gQ Bh;rcases h:Lib.atoiAll s with v|_|_
 ·rw[h]at e1;obtain⟨GI,bS⟩:=Lib.atoiAll_bounds h;have ec:=VT v (by unfold bm;omega);simp only at e1⊢;by_cases he:Lib.itoa v=s
  ·rw[if_pos he];rw[he]at ec;refine bT rN zM Bd fun aQ=>?_;unfold xk;exact cH
  ·rw[be he];refine bT rN zM Bd fun aQ=>?_;unfold xk;simp;((with_reducible repeat' first|refine aI ?_|refine bn e1 ?_|refine bo e1 ?_|refine bn ec ?_|refine bo ec ?_|simp[he]|((first|apply dy|apply dC|apply dB)<;>intro h<;>try simp at h))<;>(try exact ep));simp[ca,La,ba,bc,a1]
 ·rw[h]at e1;simp only at e1⊢;refine bT rN zM Bd fun aQ=>?_;unfold xk;exact cH
 ·rw[h]at e1;simp only at e1⊢;refine bT rN zM Bd fun aQ=>?_;unfold xk;exact cH
theorem tu(v:Int):b5 aS 86 [.int .i64 v] (T.var v).e:=by refine bT rN PN T2 fun aQ=>?_;unfold G9;exact cH
theorem MC(g:List aC):b5 aS 207 [.str g] (T.sym g).e:=by refine bT rN PJ TY fun aQ=>?_;unfold G5;exact cH
theorem B0(k:Int):b5 aS 208 [.int .i64 k] (T.num k).e:=by refine bT rN PH TW fun aQ=>?_;unfold G3;exact cH
def G7:C:=(al [bM 2 false] (.seq (.drawn true 13 [ae 3 0,kP 4 3,bB 5 1 1 4,bu 6 1 5,ae 7 0,kP 8 7,bB 9 0 1 8,bu 10 1 9,dT 11 10,dm 12 .eql 6 11,ae 2 12]) .ret))
@[simp] def Lh:List cr:=[.tmp 2]
def zt:C:=(al [hv 2 dE,bM 3 false] (al [ae 7 0,dY 8 152 7,ae 6 8,ek 9 0 6,ek 10 1 6,hv 4 dE,bO 4 4 9,ae 5 10] (.seq (al [ae 11 5,eQ 12 11,ae 13 12,aM 13 false (cP 14 4 4),aM 13 false (dY 15 77 14),aM 13 false (eQ 16 15),ds 17 13 16] (bf 17 (al [kO 18 dE [],bO 4 2 18,bM 3 false] .ret) .skip)) (al [cP 19 4 4,bO 4 2 19,bM 3 true] .ret))))
@[simp] def UH:List cr:=[.cell 2 true 4,.tmp 3]
def xl:C:=(al [bM 4 false] (.seq (.seq (.drawn false 28 [ae 5 0,dY 6 178 5,ae 7 1,dm 8 .eql 6 7,ae 9 8,b0 9 true 10 0,aM 9 true (kP 11 10),aM 9 true (bB 12 1 1 11),aM 9 true (a7 13 (.loadB false 1 (.t 12))),b0 9 true 14 0,aM 9 true (kP 15 14),aM 9 true (bB 16 0 1 15),aM 9 true (a7 17 (.loadB false 1 (.t 16))),aM 9 true (dT 18 17),aM 9 true (dm 19 .lss 13 18),e7 20 9 19]) (bf 20 (al [ae 21 0,kP 22 21,bB 23 1 1 22,bu 24 1 23,bd 25 .add 24 1,kP 26 21,bB 27 1 1 26,bO 1 27 25] (al [bM 4 true] .ret)) .skip)) (al [bM 4 false] .ret)))
@[simp] def yK:List cr:=[.tmp 4]
def G8:C:=(al [a7 2 (.mov (.c (.str [])))] (.seq (.seq (.drawn true 23 [ae 3 0,kP 4 3,bB 5 1 1 4,bu 6 1 5,ae 7 0,kP 8 7,bB 9 0 1 8,bu 10 1 9,dT 11 10,dm 12 .lss 6 11]) (bf 12 (.seq (.drawn true 23 [ae 13 0,kP 14 13,bB 15 0 1 14,bu 16 1 15,ae 17 0,kP 18 17,bB 19 1 1 18,bu 20 1 19,e8 21 1 16 20,bu 22 1 21,ae 2 22]) .ret) .skip)) (al [a7 2 (.mov (.c (.str [])))] .ret)))
@[simp] def E0:List cr:=[.tmp 2]
def za:List (Nat×cm):=[
 (3,⟨1,8,.int .i64,.int .i64 0⟩),
 (9,⟨1,16,.str,.str []⟩),
 (36,⟨1,24,.slice 120,.slice 5 .nil []⟩),
 (38,⟨1,24,.slice 40,.slice 4 .nil []⟩),
 (40,⟨4,56,.struct [(0,3),(1,3),(2,9),(3,38)],.agg [.int .i64 0,.int .i64 0,.str [],.slice 4 .nil []]⟩),
 (70,⟨1,24,.slice 9,.slice 1 .nil []⟩),
 (120,⟨5,64,.struct [(0,3),(1,40)],.agg [.int .i64 0,.int .i64 0,.int .i64 0,.str [],.slice 4 .nil []]⟩),
 (131,⟨2,32,.struct [(0,70),(1,3)],.agg [.slice 1 .nil [],.int .i64 0]⟩)]
theorem rO:dJ aS za=true:=by kernel_rfl
theorem T0:c6 za G7 Lh 1 Tryz.f83=true:=by kernel_rfl
theorem PL:aS.funcs[(83:Nat)]? =some Tryz.f83:=Tryz.func83
theorem ES:c6 za zt UH 1 Tryz.f84=true:=by kernel_rfl
theorem CT:aS.funcs[(84:Nat)]? =some Tryz.f84:=Tryz.func84
theorem Be:c6 za xl yK 2 Tryz.f177=true:=by kernel_rfl
theorem zN:aS.funcs[(177:Nat)]? =some Tryz.f177:=Tryz.func177
theorem T1:c6 za G8 E0 1 Tryz.f178=true:=by kernel_rfl
theorem PM:aS.funcs[(178:Nat)]? =some Tryz.f178:=Tryz.func178
theorem Er{α β:Type}(k:aq):∀{l:List (aq×α)} {fE:List (aq×β)},l.map (·.1)=fE.map (·.1)->(Pv.look k l).isSome=(Pv.look k fE).isSome
 |[],[],_=>rfl
 |[],_::_,h=>by simp at h
 |_::_,[],h=>by simp at h
 |(i,x)::r,(j,y)::cv,h=>by
  simp only[gZ,MR]at h;simp only[Pv.look];obtain⟨rfl,h⟩:=h;split
  ·rfl
  ·exact Er k h
theorem _root_.Go.Pv.Same.keys{s aj:cZ}(af:s.b.map (·.1)=aj.b.map (·.1))(he:s.e.map (·.1)=aj.e.map (·.1)):Same s aj:=⟨fun k=>Er k af,fun k=>Er k he⟩
end
section
open Go Go.Pv
variable {ky:Nat}
def aJ(ky:Nat):ab:= .ptr (.obj ky) 0
def ai(ky:Nat)(l:List (List aC))(i:Nat):cZ:=⟨[(.obj ky,[.slice 1 .no (dz l),.int .i64 i])],[]⟩
theorem br(l:List (List aC))(i:Nat):ih (ai ky l i):=by unfold ai;exact ih.of ⟨by intro m;simp[Pv.look],by intro m;simp[Pv.look]⟩ (by simp[kinL,kin]) Ψ
theorem cc(l fE:List (List aC))(i j:Nat):Same (ai ky l i) (ai ky fE j):=Same.keys (by simp[ai]) (by simp[ai])
section
variable (l:List (List aC)) (i:Nat)
theorem IC:cS aS 83 [aJ ky] (ai ky l i) fun r aj=>r= .bool ((i:Int)==l.length)/\aj=ai ky l i:=by have ao:=br (ky:=ky) l i;simp only[ai]at ao⊢;refine cS.mk mixed rO PL T0 Ψ ao.obj fun aQ c7=>?_;unfold G7;simp[aJ];refine ev.at (ai ky l i) Ψ (br _ _) (Same.refl _) (by simp only[ai];exact aO) (by simp only[ai];exact aO) ?_;simp[ff,Lh,ba,bc,a1,ai,aG,Pv.look,kin,kinL]
theorem CZ:cS aS 178 [aJ ky] (ai ky l i) fun r aj=>r= .str (l[i]?.getD [])/\aj=ai ky l i:=by
 have ao:=br (ky:=ky) l i;simp only[ai]at ao⊢;refine cS.mk mixed rO PM T1 Ψ ao.obj fun aQ c7=>?_;unfold G8;simp[aJ];by_cases h:i<l.length
 ·obtain⟨x,ad⟩:∃x,l[i]? =some x:=⟨_,eh h⟩;have Ay:∀h,(dz l)[i]'h= .str x:=fun b6=>by rw[qw h,eh h]at*;cases ad;rfl
  rw[ad];simp[h,Ay];refine ev.at (ai ky l i) Ψ (br _ _) (Same.refl _) (by simp only[ai];exact aO) (by simp only[ai];exact aO) ?_;simp[ff,E0,ba,bc,a1,ai,aG,Pv.look,kin,kinL]
 ·rw[List.getElem?_eq_none Ω];simp[h];refine ev.at (ai ky l i) Ψ (br _ _) (Same.refl _) (by simp only[ai];exact aO) (by simp only[ai];exact aO) ?_;simp[ff,E0,ba,bc,a1,ai,aG,Pv.look,kin,kinL]
theorem IF(aB:i<=1000000)(s:List aC):cS aS 177 [aJ ky,.str s] (ai ky l i) fun r aj=>r= .bool (decide (l[i]? =some s))/\aj=ai ky l (if l[i]? =some s then i+1 else i):=by
 have ao:=br (ky:=ky) l i;have mL:=CZ (ky:=ky) l i;have cN:bm ((i:Int)+1):=by unfold bm;omega
 by_cases h:i<l.length
 ·obtain⟨x,ad⟩:∃x,l[i]? =some x:=⟨_,eh h⟩;rw[ad]at mL⊢;simp only[Option.getD]at mL;by_cases gh:x=s
  ·subst gh;simp only[if_true,decide_true,ai]at ao⊢;refine cS.mk mixed rO zN Be Ψ ao.obj fun aQ c7=>?_;unfold xl;simp[aJ];(refine na.ob (mL) (by first|exact br _|exact br ‹_› _) (by first|exact br _|exact br ‹_› _) (Same.keys (by simp[ai]) (by simp[ai])) (by simp only[ai,eI,fx];exact aO) (by simp only[ai,eI,fx];exact aO) (by simp[aG,Pv.look,ai]) ?_;simp[bs,ai]);((with_reducible repeat' first|refine aI ?_|simp[h,cN]|((first|apply dy|apply dC|apply dB)<;>intro h<;>try simp at h))<;>(try exact ep));refine ev.at (ai ky l (i+1)) Ψ (br _ _) (cc _ _ _ _) (by simp only[ai];exact aO) (by simp only[ai];exact aO) ?_;simp[ff,yK,ba,bc,a1,ai,aG,Pv.look,kin,kinL]
  ·have b7:¬(some x=some s):=by simpa using gh
   simp only[b7,if_false,decide_false,ai]at ao⊢;refine cS.mk mixed rO zN Be Ψ ao.obj fun aQ c7=>?_;unfold xl;simp[aJ];(refine na.ob (mL) (by first|exact br _|exact br ‹_› _) (by first|exact br _|exact br ‹_› _) (Same.keys (by simp[ai]) (by simp[ai])) (by simp only[ai,eI,fx];exact aO) (by simp only[ai,eI,fx];exact aO) (by simp[aG,Pv.look,ai]) ?_;simp[bs,ai]);((with_reducible repeat' first|refine aI ?_|simp[gh]|((first|apply dy|apply dC|apply dB)<;>intro h<;>try simp at h))<;>(try exact ep));refine ev.at (ai ky l i) Ψ (br _ _) (cc _ _ _ _) (by simp only[ai];exact aO) (by simp only[ai];exact aO) ?_;simp[ff,yK,ba,bc,a1,ai,aG,Pv.look,kin,kinL]
 ·rw[List.getElem?_eq_none Ω]at mL⊢;simp only[Option.getD]at mL;have b7:¬((none:aV (List aC))=some s):=by simp
  simp only[b7,if_false,decide_false,ai]at ao⊢;cases s with
  |nil=>refine cS.mk mixed rO zN Be Ψ ao.obj fun aQ c7=>?_;unfold xl;simp[aJ];(refine na.ob (mL) (by first|exact br _|exact br ‹_› _) (by first|exact br _|exact br ‹_› _) (Same.keys (by simp[ai]) (by simp[ai])) (by simp only[ai,eI,fx];exact aO) (by simp only[ai,eI,fx];exact aO) (by simp[aG,Pv.look,ai]) ?_;simp[bs,ai]);((with_reducible repeat' first|refine aI ?_|simp[h]|((first|apply dy|apply dC|apply dB)<;>intro h<;>try simp at h))<;>(try exact ep));refine ev.at (ai ky l i) Ψ (br _ _) (cc _ _ _ _) (by simp only[ai];exact aO) (by simp only[ai];exact aO) ?_;simp[ff,yK,ba,bc,a1,ai,aG,Pv.look,kin,kinL]
  |cons c s=>refine cS.mk mixed rO zN Be Ψ ao.obj fun aQ c7=>?_;unfold xl;simp[aJ];(refine na.ob (mL) (by first|exact br _|exact br ‹_› _) (by first|exact br _|exact br ‹_› _) (Same.keys (by simp[ai]) (by simp[ai])) (by simp only[ai,eI,fx];exact aO) (by simp only[ai,eI,fx];exact aO) (by simp[aG,Pv.look,ai]) ?_;simp[bs,ai]);((with_reducible repeat' first|refine aI ?_|simp[h]|((first|apply dy|apply dC|apply dB)<;>intro h<;>try simp at h))<;>(try exact ep));refine ev.at (ai ky l i) Ψ (br _ _) (cc _ _ _ _) (by simp only[ai];exact aO) (by simp only[ai];exact aO) ?_;simp[ff,yK,ba,bc,a1,ai,aG,Pv.look,kin,kinL]
end
end
section
open Go Go.Pv
variable {ky:Nat}
theorem tL{l:List (List aC)}{i:Nat}{w:List aC}(h:l[i]? =some w):l.length-(l.drop (i+1)).length=i+1:=by have:=(fG.1 h).1;simp;omega
theorem od{l:List (List aC)}{i:Nat}(h:i<l.length):cS aS 83 [aJ ky] (ai ky l i) fun r aj=>r= .bool false/\aj=ai ky l i:=by have:=IC (ky:=ky) l i;rwa[show((i:Int)==l.length)=false by simp;omega]at this
theorem CB(l:List (List aC)):cS aS 83 [aJ ky] (ai ky l l.length) fun r aj=>r= .bool true/\aj=ai ky l l.length:=by have:=IC (ky:=ky) l l.length;rwa[beq_self_eq_true]at this
theorem lI{l:List (List aC)}{i:Nat}{w:List aC}(h:l[i]? =some w):cS aS 178 [aJ ky] (ai ky l i) fun r aj=>r= .str w/\aj=ai ky l i:=by have:=CZ (ky:=ky) l i;rwa[h]at this
end
section
open Go Go.Pv
variable {ky:Nat}
theorem qz{l:List (List aC)}{i:Nat}{s:List aC}(aB:i<=1000000)(h:l[i]? =some s):cS aS 177 [aJ ky,.str s] (ai ky l i) fun r aj=>r= .bool true/\aj=ai ky l (i+1):=by have:=IF (ky:=ky) l i aB s;rwa[if_pos h,decide_eq_true h]at this
theorem kg{l:List (List aC)}{i:Nat}{s:List aC}(aB:i<=1000000)(h:l[i]?≠some s):cS aS 177 [aJ ky,.str s] (ai ky l i) fun r aj=>r= .bool false/\aj=ai ky l i:=by have:=IF (ky:=ky) l i aB s;rwa[be h,decide_eq_false h]at this
theorem Us(l:List (List aC)):cS aS 178 [aJ ky] (ai ky l l.length) fun r aj=>r= .str []/\aj=ai ky l l.length:=by have:=CZ (ky:=ky) l l.length;rwa[List.getElem?_eq_none (cE _)]at this
theorem yT{l rest:List (List aC)}{j:Nat}(h:rest<:+l.drop j):rest=l.drop (l.length-rest.length)/\rest.length<=l.length-j:=by have I:rest<:+l:=h.trans (List.drop_suffix j l);exact⟨(Oa I).symm,by have:=h.length_le;simpa using this⟩
end
section
open Go Go.Pv
def qQ:C:=(al [hv 2 dE,bM 3 false] (.seq (al [ae 15 0,dY 16 83 15] (bf 16 (al [kO 17 dE [],bO 4 2 17,bM 3 false] .ret) .skip)) (al [ae 18 0,dY 19 178 18,ae 4 19] (.seq (al [ae 20 4,a7 21 (.bin .eql false (.t 20) (.c (.str [40])))] (bf 21 (al [ae 22 0,kP 23 22,bB 24 1 1 23,bu 25 1 24,bd 26 .add 25 1,kP 27 22,bB 28 1 1 27,bO 1 28 26] (al [h9 29 4 40 [],ae 5 29] (.block 0 (.loop (.block 1 (.seq (al [ae 30 0,⟨none,.call (some 31) (.c (.func 177 [])) [.t 30,(.c (.str [41]))]⟩] (bf 31 (al [ae 32 5,⟨none,.opn (some 33) (.c (.func 205 [])) [.t 32]⟩,bO 4 2 33,bM 3 true] .ret) .skip)) (.seq (al [ae 34 0,dY 35 178 34,a7 36 (.bin .eql false (.t 35) (.c (.str [46]))),ae 37 36,b0 37 true 38 0,aM 37 true (dY 39 83 38),aM 37 true (eQ 40 39),e7 41 37 40] (bf 41 (al [ae 42 0,kP 43 42,bB 44 1 1 43,bu 45 1 44,bd 46 .add 45 1,kP 47 42,bB 48 1 1 47,bO 1 48 46] (al [ae 50 0,dY 51 152 50,ae 49 51,ek 52 0 49,ek 53 1 49,hv 6 dE,bO 4 6 52,ae 7 53] (.seq (al [ae 54 7,eQ 55 54,ae 56 55,b0 56 false 57 5,aM 56 false (dT 58 57),aM 56 false (bd 59 .eql 58 0),ds 60 56 59,ae 61 60,b0 61 false 62 0,⟨(some (61,false)),.call (some 63) (.c (.func 177 [])) [.t 62,(.c (.str [41]))]⟩,aM 61 false (eQ 64 63),ds 65 61 64] (bf 65 (al [kO 66 dE [],bO 4 2 66,bM 3 false] .ret) .skip)) (.seq (al [ae 67 5,dT 68 67,bd 69 .sub 68 1,ae 8 69] (.block 2 (.loop (.seq (al [ae 70 8,bd 71 .geq 70 0] (bf 71 .skip (.exit 2))) (.seq (.block 3 (.drawnL true 132 [ae 74 5,ae 75 8,e8 76 4 74 75,cP 77 4 76,cP 78 4 6] [⟨none,.opn (some 79) (.c (.func 206 [])) [.t 77,.t 78]⟩,bO 4 6 79])) (.region [ae 72 8,bd 73 .sub 72 1,ae 8 73])))))) (al [cP 80 4 6,bO 4 2 80,bM 3 true] .ret))))) .skip)) (al [ae 82 0,dY 83 152 82,ae 81 83,ek 84 0 81,ek 85 1 81,hv 9 dE,bO 4 9 84,ae 10 85] (.seq (al [ae 86 10,eQ 87 86] (bf 87 (al [kO 88 dE [],bO 4 2 88,bM 3 false] .ret) .skip)) (.region [ae 89 5,cP 90 4 9,h9 91 4 40 [.t 90],nP 92 4 40 89 91,ae 5 92])))))))))) .skip)) (al [ae 93 0,kP 94 93,bB 95 1 1 94,bu 96 1 95,bd 97 .add 96 1,kP 98 93,bB 99 1 1 98,bO 1 99 97] (.seq (al [ae 100 4,a7 101 (.sidx (.t 100) (cQ 0)),a7 102 (.bin .eql false (.t 101) (.c (.int .u8 63)))] (bf 102 (al [ae 104 4,a7 105 (.ssl (.t 104) (some (cQ 1)) none),dY 106 179 105,ae 103 106,ek 107 0 103,ek 108 1 103,ae 11 107,ae 12 108] (al [ae 109 11,dY 110 86 109,ae 111 12,ae 112 111,b0 112 true 113 11,aM 112 true (bd 114 .geq 113 0),e7 115 112 114,ae 116 115,b0 116 true 117 11,aM 116 true (bd 118 .leq 117 100000),e7 119 116 118,bO 4 2 110,ae 3 119] .ret)) .skip)) (.seq (al [ae 120 4,dY 121 170 120] (bf 121 (al [ae 122 4,dY 123 207 122,bO 4 2 123,bM 3 true] .ret) .skip)) (al [ae 125 4,dY 126 179 125,ae 124 126,ek 127 0 124,ek 128 1 124,ae 13 127,ae 14 128] (al [ae 129 13,dY 130 208 129,ae 131 14,bO 4 2 130,ae 3 131] .ret)))))))))
@[simp] def UI:List cr:=[.cell 2 true 4,.tmp 3]
def G1:C:=(al [hv 2 dE] (al [kO 5 dE [],hv 3 dE,bO 4 3 5] (.seq (al [ae 6 0,dT 7 6,bd 8 .sub 7 1,ae 4 8] (.block 0 (.loop (.seq (al [ae 9 4,bd 10 .geq 9 0] (bf 10 .skip (.exit 0))) (.seq (.block 1 (.drawnL true 20 [ae 13 0,ae 14 4,e8 15 4 13 14,cP 16 4 15,cP 17 4 3] [⟨none,.opn (some 18) (.c (.func 206 [])) [.t 16,.t 17]⟩,bO 4 3 18])) (.region [ae 11 4,bd 12 .sub 11 1,ae 4 12])))))) (al [cP 19 4 3,bO 4 2 19] .ret))))
@[simp] def UB:List cr:=[.cell 2 true 4]
def FV:List (Nat×cm):=[
 (3,⟨1,8,.int .i64,.int .i64 0⟩),
 (9,⟨1,16,.str,.str []⟩),
 (38,⟨1,24,.slice 40,.slice 4 .nil []⟩),
 (40,⟨4,56,.struct [(0,3),(1,3),(2,9),(3,38)],.agg [.int .i64 0,.int .i64 0,.str [],.slice 4 .nil []]⟩),
 (131,⟨2,32,.struct [(0,70),(1,3)],.agg [.slice 1 .nil [],.int .i64 0]⟩)]
theorem rP:dJ aS FV=true:=by kernel_rfl
theorem s5:c6 FV qQ UI 1 Tryz.f152=true:=by kernel_rfl
theorem sg:aS.funcs[(152:Nat)]? =some Tryz.f152:=Tryz.func152
theorem TU:c6 FV G1 UB 1 Tryz.f205=true:=by kernel_rfl
theorem PF:aS.funcs[(205:Nat)]? =some Tryz.f205:=Tryz.func205
def _root_.Go.Pv.T.k(t:T)(κ:Nat):ab:= .agg [.int .i64 t.kind,.int .i64 t.int,.str t.name,.slice 4 (.tr (.loc κ) 0) (t.args.map T.e)]
end
end Go.Proofs.YtlnndmgfngfeiaaGreatDoor
namespace Go.Pv
section
open Go Go.RowKit
theorem CallDo.obK{P:bp}{n:Nat}{args:List ab}{st:aN}{d:aV Nat}{K:aN->Prop}{s:cZ}{Q:ab->cZ->Prop}(aH:FnK P n st.n args s Q)(ao:ih s)(af:∀k cs,look k s.b=some cs->look k st.b=some cs)(he:∀k o,look k s.e=some o->look k st.e=some o)
  (J:kinL (aG s) args) (pd: .loc st.n∉st.o) (h:∀r aj,Q r aj->Same s aj/\K ⟨eD d r st.t,bs s.b st.b++aj.b,bs s.e st.e++aj.e,st.n+1,st.o++dG aj⟩):CallDo P n args st d K:=by
 refine .inr ⟨s,Q,fun k cs az=>⟨af k cs az,.inl (by simp[az]),ao.kb k cs az⟩,fun k o ag=>⟨he k o ag,.inr (by simp[ag]),ao.ke k o ag⟩,ao.obj,J,pd,aH,fun r aj bj=>?_⟩;obtain⟨I,aa⟩:=h r aj bj;exact⟨⟨fun m hm=>.inl (by rw[I.b];exact hm),fun m hm=>.inl (by rw[I.e];exact hm)⟩,aa⟩
theorem dL.ob{cA:List cr}{κ:Nat}{s aj:cZ}{Q:ab->cZ->Prop}{e:Exit}{st:aN}(iC:e= .ret\/e= .normal)(ao:ih aj)(gT:aj.e=[])(eb:Same s aj)(af:∀k cs,look k aj.b=some cs->look k st.b=some cs)(h:match ba st cA with
  |some (c,aZ)=>c/\(cC st.e (a1 aZ)/\(b8 st.e (a1 aZ)).Nodup/\(bW (a1 aZ)).Nodup)/\Q (fold κ st.e 0 (a1 aZ)) aj
  |none=>cw):dL cA s κ Q e st:=by
 refine⟨iC,?_⟩;cases gf:ba st cA with
 |none=>simp[gf]at h
 |some x=>
  obtain⟨c,aZ⟩:=x;simp only[gf]at h⊢;have Aj:∀l:List (aq×List ab),(∀k x,(k,x)∈l->aG aj k)->kF aj l:=by
   intro l;induction l with
   |nil=>intro _;trivial
   |cons y l a8=>intro aA;obtain⟨k,x⟩:=y;exact⟨aA k x Ψ,a8 fun k x ad=>aA k x (by simp[ad])⟩
  refine⟨h.1,aj,gT,Aj _ fun k x ad=>?_,fun k cs az=>⟨af k cs az,.inl (by simp[az]),ao.kb k cs az⟩,ao.obj,h.2.1,h.2.2⟩;exact .inl (by rw[<-eb.b];exact sY ad)
theorem iQ.fd{P:bp}{ob:List aq}{f:FuncId}{args:List ab}{st:aN}{d:Nat}{K:aN->Prop}(h:iQ P ob f args st (some d) fun st'=>tT ob st' d/\K (si st' d)):iQ P ob f args st (some d) K:=by intro C a w ν vs z6 hr hC aF;refine(h C a w ν vs z6 hr hC aF).mono fun e w' bq=>?_;obtain⟨v,st',ν',he,⟨I,aa⟩,bG⟩:=bq;obtain⟨ν'',ak⟩:=Ii bG (s:=d) (by rw[z6];exact I);exact⟨v,_,ν'',he,aa,ak⟩
theorem iQ.fdK{P:bp}{ob:List aq}{f:FuncId}{args:List ab}{st:aN}{d:Nat}{K:aN->Prop}(h:∀K1:aN->Prop,(∀st',tT ob st' d->K (si st' d)->K1 st')->iQ P ob f args st (some d) K1):iQ P ob f args st (some d) K:=iQ.fd (h _ fun _ a b=>⟨a,b⟩)
theorem Cs(N:List aq):∀a b:List ab,ey N (a++b)=ey N a++ey N b
 |[],_=>rfl
 |x::a,b=>by simp[ey,Cs N a b]
theorem xq{α:Type}{N:List aq}{g:α->ab}(h:∀x,e4 N (g x)=g x):∀l:List α,ey N (l.map g)=l.map g
 |[]=>rfl
 |x::l=>by simp[ey,h x,xq h l]
theorem HB{α:Type}{N:List aq}{f:α->Nat->ab}(h:∀x n,aq.loc n∉N->e4 N (f x n)=f x n):∀l:List (α×Nat),(∀p∈l,aq.loc p.2∉N)->ey N (dt f l)=dt f l
 |[],_=>rfl
 |x::l,aA=>by have:=HB h l fun p aY=>aA p (by simp[aY]);unfold dt at this;simp[dt,ey,h x.1 x.2 (aA x Ψ),this]
end
end Go.Pv
namespace Go.Proofs.YtlnndmgfngfeiaaGreatDoor
section
open Go Go.Pv
variable {ky:Nat}
theorem sT:nc T.k T.e:=⟨fun x n=>rfl,fun x n=>⟨trivial,trivial,trivial,nF n,trivial⟩,fun x n=>by simp[T.k,bC],fun S x n h=>by simp[T.k,Pv.kin,Pv.kinL,h]⟩
@[simp]theorem XG(t:T)(n:Nat):cells (t.k n)=[.int .i64 t.kind,.int .i64 t.int,.str t.name,.slice 4 (.tr (.loc n) 0) (t.args.map T.e)]:=rfl
@[simp]theorem Z7(t:T)(n:Nat):dP (t.k n)=true:=rfl
def tl(t:T):aV Nat->ab
 |some n=>t.k n
 |none=>.agg dE
theorem FK(N:List aq)(t:T):e4 N t.e=t.e:=by
 induction t with
 |pair a b rb re=>simp only[T.e,e4,ey,rb,re]
 |_=>simp only[T.e,e4,ey]
@[simp]theorem VE(N:List aq)(t:T)(n:Nat):e4 N (t.k n)=if aq.loc n∈N then t.e else t.k n:=by
 have h:aq.loc n≠cV:=nF n;by_cases aR:aq.loc n∈N
 ·rw[if_pos aR];simp only[T.k,e4,ey,aR,true_or,if_true,xq (FK N)];rw[T.e_eq]
 ·rw[be aR];simp[T.k,e4,ey,aR,h]
@[simp]theorem XN(N:List aq)(l:List (List aC)):ey N (dz l)=dz l:=xq (fun _=>rfl) l
@[simp]theorem XM(N:List aq)(l:List T):ey N (l.map T.e)=l.map T.e:=xq (FK N) l
@[simp]theorem YO(t:T)(n:Nat):Pv.isAgg 4 (t.k n):=⟨_,rfl,rfl⟩
def js(acc:List (T×Nat))(m:Nat):List ab:=dt T.k (acc.take m)++(acc.drop m).map fun p=>p.1.e
@[simp]theorem YP(acc:List (T×Nat))(m:Nat):(js acc m).length=acc.length:=by simp[js];omega
theorem JU(acc:List (T×Nat)):js acc acc.length=dt T.k acc:=by simp[js]
theorem JV{acc:List (T×Nat)}{m:Nat}{y:T×Nat}(bk:acc[m]? =some y):(js acc (m+1))[m]? =some (y.1.k y.2):=by have hm:=(fG.1 bk).1;unfold js;rw[nS (by simp;omega)];simp[dt,bk]
theorem AK{S:aq->Prop}{acc:List (T×Nat)}{m:Nat}(h:∀p∈acc,S (.loc p.2)):Pv.kinL S (js acc m):=by
 have SZ:∀a b:List ab,Pv.kinL S a->Pv.kinL S b->Pv.kinL S (a++b):=fun a b bL af=>by
  induction a with
  |nil=>exact af
  |cons x a a8=>simp only[Pv.kinL]at bL;simp only[eI,Pv.kinL];exact⟨bL.1,a8 bL.2⟩
 refine SZ _ _ (sT.kiL _ fun p aY=>h p (List.mem_of_mem_take aY)) ?_;have:∀l:List (T×Nat),Pv.kinL S (l.map fun p=>p.1.e):=by
  intro l;induction l with
  |nil=>simp[Pv.kinL]
  |cons x l a8=>simp only[gZ,Pv.kinL];exact⟨l6 (S:=fun _=>cw) (fun _ h=>h.elim) _ Ψ,a8⟩
 exact this _
theorem D5{N:List aq}{n:Nat}{acc:List (T×Nat)}{m:Nat}{y:T×Nat}(h2:ls n acc)(bk:acc[m]? =some y)(j5:∀k,aq.loc k∈N->k=y.2\/n<=k)(Sq:aq.loc y.2∈N):ey N (js acc (m+1))=js acc m:=by
 obtain⟨hm,vS⟩:=fG.1 bk;have au:acc.take (m+1)=acc.take m++[y]:=by rw[List.take_succ_eq_append_getElem hm,vS]
 have aF:acc.drop m=y::acc.drop (m+1):=by rw[pR hm,vS]
 unfold js;rw[au,aF,Cs];have jP:dt T.k (acc.take m++[y])=dt T.k (acc.take m)++[y.1.k y.2]:=EF T.k _ y.1 y.2;rw[jP,Cs];have b7:∀p∈acc.take m,aq.loc p.2∉N:=by
  intro p aY QX;rcases j5 _ QX with e|e
  ·have um:=h2.nd;have R9:acc=acc.take m++y::acc.drop (m+1):=by rw[<-aF,List.take_append_drop]
   rw[R9,List.map_append,nU]at um;exact um.2.2 p.2 (lO.2 ⟨p,aY,rfl⟩) y.2 Ψ e
  ·have:=h2.lt p (List.mem_of_mem_take aY);omega
 rw[HB (fun x n aR=>by rw[VE,be aR]) _ b7];have ak:ey N ((acc.drop (m+1)).map fun p=>p.1.e)=(acc.drop (m+1)).map fun p=>p.1.e:=xq (fun x=>FK N x.1) _;rw[ak];simp[ey,Sq]
def r1(ky n:Nat)(l:List (List aC))(j:Nat)(ob:List aq)(acc:List (T×Nat))(x:Nat×aV Nat×Nat):aN:=
 ⟨[(0,.slice 4 (.own (.loc 1)) (js acc x.1)),(2,.ptr (.loc n) 0),(3,.ptr (.loc (n+1)) 0),(4,.int .i64 ((x.1:Int)-1))],
  [(.loc 0,dE),(.obj ky,[.slice 1 .no (dz l),.int .i64 j]),(.loc n,dE),(.loc (n+1),cells (tl (gv ((acc.drop x.1).map (·.1)) .nil) x.2.1))],
  [(.loc 1,⟨acc.length,40,4,none⟩)],x.2.2,ob⟩
theorem S3{n:Nat}(l:List (List aC))(j:Nat)(acc:List (T×Nat))(t:List (Nat×ab))(K:aN->Prop)(h2:ls n acc)(aa:∀p∈acc,2<=p.2)(aR:2<=n)(hlen:acc.length<=1000000)(Sg:get 2 t= .ptr (.loc 0) 0)(o:List aq)(ag:∀m,aq.loc m∉o)(R4:aq.obj ky∈o)
  (cl:∀(b:List (aq×List ab)) (e:List (aq×cq)) (o:List aq) (q:Nat),n<=q->K ⟨[(2,.ptr (.loc 0) 0),(33,(gv (acc.map (·.1)) .nil).k q)],(.loc 0,dE)::(.obj ky,[.slice 1 .no (dz l),.int .i64 j])::b,e,q+1,o⟩):
  iQ aS [.obj ky] 205 [.slice 4 (.own (.loc 1)) (dt T.k acc)] ⟨t,[(.loc 0,dE),(.obj ky,[.slice 1 .no (dz l),.int .i64 j])],[(.loc 1,⟨acc.length,40,4,none⟩)],n,o⟩ (some 33) K:=by
 refine iQ.fdK fun WG I3=>?_;refine iQ.of mixed rP PF TU Ψ [(2,.ptr (.loc 0) 0)] (fun k=>k= .loc 0) (by rintro k rfl;simp[fresh,ag];omega) (by simp[Sg,kin]) fun ob sK qe sL=>?_;obtain⟨n,rfl⟩:∃k,n=k+2:=⟨n-2,Ω⟩;have q6:∀m,0<m->aq.loc m∉ob:=fun m hm h=>by
  rcases sK _ h with e|e|e
  ·cases e;omega
  ·exact ag _ e
  ·simp at e
 have RG:bm ((acc.length:Int)-1):=by unfold bm;omega
 have q7:aq.obj ky∈ob:=sL _ R4;clear sK qe sL;have uo:¬n+1<=n:=Ω
 have fK:=sT.kin (h2.mono (show n+2<=n+4 by omega)) (cE _) ob;simp[fresh]at fK;unfold G1;simp[q6];(with_reducible repeat' first|refine aI ?_|simp[q6,RG]);refine jI (r1 ky (n+2) l j ob acc) (fun x=>x.1) (fun x=>x.1<=acc.length/\n+4<=x.2.2/\(x.2.1=none->x.1=acc.length)/\∀c,x.2.1=some c->n+2<=c/\c<x.2.2) (acc.length,none,n+4) (by simp[r1,JU,tl];exact⟨by simp[fresh,kinL,kin,b1,aG,Pv.look,dE,q7,uo,fK],eR (by simp[fresh,kinL,kin,b1,aG,Pv.look,dE,q7,uo,fK]),eS (by simp[fresh,kinL,kin,ef,aG,Pv.look,dE,q7,uo,fK]),Ψ⟩) ⟨cE _,cE _,fun _=>rfl,Ψ⟩ ?_;rintro⟨m,c,q⟩ ⟨hm,bj,qZ,p9⟩ _;simp only at hm bj qZ p9;cases m with
 |zero=>
  cases c with
  |none=>
   have:acc=[]:=List.length_eq_zero_iff.1 (qZ rfl).symm;subst this;simp[r1,tl,gv];(with_reducible repeat' first|refine aI ?_|simp);simp[tx,ba,bc,a1];refine I3 _ ?_ ?_
   ·simp[cC,dN,b8,dd,bW,db,q6 q Ω]
   ·simp[b8,dd,bW,db,fold,dV,dU,bz];exact cl _ _ _ q Ω
  |some c=>
   simp[r1,tl];(with_reducible repeat' first|refine aI ?_|simp);simp[tx,ba,bc,a1];have ak:=p9 c rfl;refine I3 _ ?_ ?_
   ·simp[cC,dN,b8,dd,bW,db,q6 q Ω,nF]
   ·simp[b8,dd,bW,db,fold,dV,dU,bz];exact cl _ _ _ q Ω
 |succ m=>
  have hH:m<acc.length:=hm;obtain⟨y,bk⟩:∃y,acc[m]? =some y:=⟨_,eh hH⟩;have gN:∀h,(js acc (m+1))[m]'h=y.1.k y.2:=fun h=>by have:=JV bk;rw[eh h]at this;exact iN this
  have pf:bm ((m:Int)-1):=by unfold bm;omega
  have Al:bm (m:Int):=by unfold bm;omega
  have ja:=aa y (gB bk);have Sr:=h2.lt y (gB bk);have b7:∀k,¬n=q+k:=fun k=>Ω
  have nu:∀k,¬q+k=n:=fun k=>Ω
  have Jk:Pv.kinL (fun k=> ¬fresh (q+20) ob k) (js acc (m+1)):=AK fun p aY h=>by have I:=h2.lt p aY;have ak:q+20<=p.2:=h.1;omega
  have im:gv ((acc.drop m).map (·.1)) .nil= .pair y.1 (gv ((acc.drop (m+1)).map (·.1)) .nil):=by obtain⟨fc,vS⟩:=fG.1 bk;rw[pR fc,vS];rfl
  have mE:Pv.kinL (fun k=> ¬fresh (q+20+1+1+1+1+1) ob k) (js acc m):=AK fun p aY h=>by have I:=h2.lt p aY;have ak:q+20+1+1+1+1+1<=p.2:=h.1;omega
  simp[fresh]at mE;have hG:¬q+20+1+1+1+1+1<=n+2:=Ω
  have gM:¬q+20+1+1+1+1+1<=n+2+1:=Ω
  cases c with
  |none=>
   have RK:acc.drop (m+1)=[]:=List.drop_eq_nil_of_le (by have:=qZ rfl;omega);have ub:=D5 (N:=[.loc y.2]) h2 bk Ψ Ψ;rw[RK,List.map_drop]at im;simp[r1,tl];(with_reducible repeat' first|refine aI ?_|simp[gN,hH,pf,Al]);refine iQ.fdK fun K1 xM=>?_;refine iQ.of mixed oI CS ER Ψ [(0,.slice 4 (.own (.loc 1)) (js acc (m+1))),(2,.ptr (.loc (n+2)) 0),(3,.ptr (.loc (n+2+1)) 0),(4,.int .i64 m)] (fun k=> ¬fresh (q+20) ob k) (fun k h=>h) (by simp[kin,Jk];simp[fresh];omega) fun pC sK qe sL=>?_;have pk:∀k,q+20<=k->aq.loc k∉pC:=fun k J h=>qe _ h ⟨J,q6 k Ω⟩;clear sK qe sL;unfold zs;simp[pk,b7,nu];(with_reducible repeat' first|refine aI ?_|simp[pk,b7,nu]);simp[tx,ba,bc,a1,b7,nu];refine xM _ ?_ ?_
   ·simp[cC,dN,dk,dW,b8,dd,bW,db,tn,tnL,nF,pk _ (show q+20<=q+20+1+1+1+1 by omega),q6 y.2 Ω]
   ·simp[b8,dd,bW,db,tn,tnL,fold,dV,dU,bz,bC,ub,nF,b7,nu];refine⟨pf,?_⟩;refine cF.whl (m,some (q+20+1+1+1+1),q+20+1+1+1+1+1) Ψ ⟨by simp;omega,by simp;omega,Ψ,fun c e=>by simp at e;subst e;simp;omega⟩ ?_;simp[r1,tl,im,T.kind,T.int,T.name,T.args,show gv [] T.nil=T.nil from rfl];exact⟨by simp[fresh,kinL,kin,b1,aG,Pv.look,q7,mE,hG,gM],eR (by simp[fresh,kinL,kin,b1,aG,Pv.look,q7,mE,hG,gM]),eS (by simp[fresh,kinL,kin,ef,aG,Pv.look,q7,mE,hG,gM]),Ψ⟩
  |some c=>
   obtain⟨Ad,Yl⟩:=p9 c rfl;have DZ:¬y.2=c:=Ω
   rw[List.map_drop,List.map_drop]at im;have ub:=D5 (N:=[.loc y.2,.loc c]) h2 bk (by simp;omega) Ψ;have Yk:¬fresh (q+20) ob (.loc c):=fun h=>by have:q+20<=c:=h.1;omega
   simp[r1,tl];(with_reducible repeat' first|refine aI ?_|simp[gN,hH,pf,Al]);refine iQ.fdK fun K1 xM=>?_;refine iQ.of mixed oI CS ER Ψ [(0,.slice 4 (.own (.loc 1)) (js acc (m+1))),(2,.ptr (.loc (n+2)) 0),(3,.ptr (.loc (n+2+1)) 0),(4,.int .i64 m)] (fun k=> ¬fresh (q+20) ob k) (fun k h=>h) (by simp[kin,Jk];simp[fresh];omega) fun pC sK qe sL=>?_;have pk:∀k,q+20<=k->aq.loc k∉pC:=fun k J h=>qe _ h ⟨J,q6 k Ω⟩;clear sK qe sL;unfold zs;simp[pk,b7,nu];(with_reducible repeat' first|refine aI ?_|simp[pk,b7,nu]);simp[tx,ba,bc,a1,b7,nu];refine xM _ ?_ ?_
   ·simp[cC,dN,dk,dW,b8,dd,bW,db,tn,tnL,nF,pk _ (show q+20<=q+20+1+1+1+1 by omega),q6 y.2 Ω,q6 c Ω,DZ]
   ·simp[b8,dd,bW,db,tn,tnL,fold,dV,dU,bz,bC,ub,nF,b7,nu];refine⟨pf,?_⟩;refine cF.whl (m,some (q+20+1+1+1+1),q+20+1+1+1+1+1) Ψ ⟨by simp;omega,by simp;omega,Ψ,fun c e=>by simp at e;subst e;simp;omega⟩ ?_;simp[r1,tl,im,T.kind,T.int,T.name,T.args,show gv [] T.nil=T.nil from rfl];exact⟨by simp[fresh,kinL,kin,b1,aG,Pv.look,q7,mE,hG,gM],eR (by simp[fresh,kinL,kin,b1,aG,Pv.look,q7,mE,hG,gM]),eS (by simp[fresh,kinL,kin,ef,aG,Pv.look,q7,mE,hG,gM]),Ψ⟩
end
section
open Go Go.Pv
variable {ky:Nat}
def tp(ky:Nat)(l:List (List aC))(o:aV (T×List (List aC)))(κ:Nat)(r:ab)(aj:cZ):Prop:=match o with
 |some (t,rest)=>r= .tuple [t.k κ,.bool true]/\aj=ai ky l (l.length-rest.length)
 |none=> ∃(x:T) (j:Nat),j<=l.length/\r= .tuple [x.k κ,.bool false]/\aj=ai ky l j
theorem oH{l:List (List aC)}{j κ:Nat}(h:j<=l.length)(x:T):tp ky l none κ (.tuple [x.k κ,.bool false]) (ai ky l j):=⟨x,j,h,rfl,rfl⟩
theorem wT{l:List (List aC)}{j κ:Nat}{t:T}{rest:List (List aC)}(h:l.length-rest.length=j):tp ky l (some (t,rest)) κ (.tuple [t.k κ,.bool true]) (ai ky l j):=⟨rfl,by rw[h]⟩
theorem dL.tm{l:List (List aC)}{i κ:Nat}{o:aV (T×List (List aC))}{st:aN}{e:Exit}(j:Nat)(x:T)(b:Bool)(iC:e= .ret\/e= .normal)(oi:tp ky l o κ (.tuple [x.k κ,.bool b]) (ai ky l j))(af:∀k cs,Pv.look k (ai ky l j).b=some cs->Pv.look k st.b=some cs)
  (h:match ba st [.cell 2 true 4,.tmp 3]with
   |some (c,aZ)=>c/\(cC st.e (a1 aZ)/\(b8 st.e (a1 aZ)).Nodup/\(bW (a1 aZ)).Nodup)/\fold κ st.e 0 (a1 aZ)= .tuple [x.k κ,.bool b]
   |none=>cw):dL [.cell 2 true 4,.tmp 3] (ai ky l i) κ (tp ky l o κ) e st:=by
 refine dL.ob iC (br l j) rfl (cc _ _ _ _) af ?_;split at h
 ·rename_i c aZ hr;(try rw[hr]);exact⟨h.1,h.2.1,by rw[h.2.2];exact oi⟩
 ·exact h.elim
theorem Ka(l:List (List aC))(κ:Nat):FnK aS 152 κ [aJ ky] (ai ky l l.length) (tp ky l none κ):=by have ao:=br (ky:=ky) l l.length;have dr:=CB (ky:=ky) l;simp only[ai]at ao;refine FnK.mk mixed rP sg s5 Ψ ao.obj rfl fun aQ c7=>?_;unfold qQ;clear aQ c7;simp[aJ,ai];(refine CallDo.ob (dr) (by first|exact br _|exact br ‹_› _) (by simp only[ai,aJ,eI,fx];exact aO) (by simp only[ai,aJ,eI,fx];exact aO) (by simp[aG,Pv.look,ai,aJ]) ?_;rintro r aj ⟨rfl,rfl⟩;refine⟨(Same.keys (by simp[ai,aJ]) (by simp[ai,aJ])),?_⟩;simp[bs,ai,aJ]);(with_reducible repeat' first|refine aI ?_|simp);refine dL.tm (l.length) (.nil) false Ψ (oH (cE _) _) (by simp only[ai];exact aO) ?_;simp[ba,bc,a1,cC,dN,b8,dd,bW,db,tnL,tn,dk,dW,fold,dV,dU,eJ,Pv.look,cV,bz,bC,T.k]
theorem tD{e:List (aq×cq)}{κ:Nat}{t:T}(h:t.args=[]):(cC e t.e/\(b8 e t.e).Nodup/\(bW t.e).Nodup)/\fold κ e 0 t.e= .agg [.int .i64 t.kind,.int .i64 t.int,.str t.name,.slice 4 (.tr (.loc κ) 0) []]:=by rw[T.e_eq,h];simp[cC,dN,b8,dd,bW,db,fold,dV,dU,bz]
theorem SQ(l:List (List aC))(aA:l.length<=100000){i:Nat}{w:List aC}(ad:l[i]? =some w)(hw:w≠[])(JJ:w.length<=bX)(aY:w≠[40])(κ:Nat):FnK aS 152 κ [aJ ky] (ai ky l i) (tp ky l ((fR w).map fun t=>(t,l.drop (i+1))) κ):=by
 have ao:=br (ky:=ky) l i;have aB:=(fG.1 ad).1;have aF:=tL ad;have cN:bm ((i:Int)+1):=by unfold bm;omega
 obtain⟨c,w',rfl⟩:∃c w',w=c::w':=List.exists_cons_of_ne_nil hw;by_cases az:c=63
 ·subst az;have Sn:w'.length<=bX:=by simp at JJ;omega
  have fs:=Mv w' Sn;unfold Bh at fs;simp only[fR];cases aR:gQ w' with
  |none=>rw[aR]at fs;simp only[Option.getD,Option.isSome]at fs;simp only[Option.map_none];simp only[ai]at ao;refine FnK.mk mixed rP sg s5 Ψ ao.obj rfl fun aQ c7=>?_;unfold qQ;clear aQ c7;simp[aJ,ai];(refine CallDo.ob (od aB) (by first|exact br _|exact br ‹_› _) (by simp only[ai,aJ,eI,fx];exact aO) (by simp only[ai,aJ,eI,fx];exact aO) (by simp[aG,Pv.look,ai,aJ]) ?_;rintro r aj ⟨rfl,rfl⟩;refine⟨(Same.keys (by simp[ai,aJ]) (by simp[ai,aJ])),?_⟩;simp[bs,ai,aJ]);(with_reducible repeat' first|refine aI ?_|simp);(refine CallDo.ob (lI ad) (by first|exact br _|exact br ‹_› _) (by simp only[ai,aJ,eI,fx];exact aO) (by simp only[ai,aJ,eI,fx];exact aO) (by simp[aG,Pv.look,ai,aJ]) ?_;rintro r aj ⟨rfl,rfl⟩;refine⟨(Same.keys (by simp[ai,aJ]) (by simp[ai,aJ])),?_⟩;simp[bs,ai,aJ]);(with_reducible repeat' first|refine aI ?_|refine bn fs ?_|refine bo fs ?_|refine bn (tu _) ?_|refine bo (tu _) ?_|simp[cN]);refine dL.tm (i+1) (.var 0) false Ψ (oH Ω _) (by simp only[ai];exact aO) ?_;simp[ba,bc,a1,cC,dN,b8,dd,bW,db,tnL,tn,dk,dW,fold,dV,dU,eJ,Pv.look,cV,bz,bC,T.k];exact tD rfl
  |some v=>
   rw[aR]at fs;simp only[Option.getD,Option.isSome]at fs;simp only;by_cases aL:0<=v/\v<=100000
   ·rw[if_pos aL];simp only[mZ];simp only[ai]at ao;refine FnK.mk mixed rP sg s5 Ψ ao.obj rfl fun aQ c7=>?_;unfold qQ;clear aQ c7;simp[aJ,ai];(refine CallDo.ob (od aB) (by first|exact br _|exact br ‹_› _) (by simp only[ai,aJ,eI,fx];exact aO) (by simp only[ai,aJ,eI,fx];exact aO) (by simp[aG,Pv.look,ai,aJ]) ?_;rintro r aj ⟨rfl,rfl⟩;refine⟨(Same.keys (by simp[ai,aJ]) (by simp[ai,aJ])),?_⟩;simp[bs,ai,aJ]);(with_reducible repeat' first|refine aI ?_|simp);(refine CallDo.ob (lI ad) (by first|exact br _|exact br ‹_› _) (by simp only[ai,aJ,eI,fx];exact aO) (by simp only[ai,aJ,eI,fx];exact aO) (by simp[aG,Pv.look,ai,aJ]) ?_;rintro r aj ⟨rfl,rfl⟩;refine⟨(Same.keys (by simp[ai,aJ]) (by simp[ai,aJ])),?_⟩;simp[bs,ai,aJ]);(with_reducible repeat' first|refine aI ?_|refine bn fs ?_|refine bo fs ?_|refine bn (tu _) ?_|refine bo (tu _) ?_|simp[cN,aL.1,aL.2]);refine dL.tm (i+1) (.var v) true Ψ (wT aF) (by simp only[ai];exact aO) ?_;simp[ba,bc,a1,cC,dN,b8,dd,bW,db,tnL,tn,dk,dW,fold,dV,dU,eJ,Pv.look,cV,bz,bC,T.k];exact tD rfl
   ·rw[be aL];simp only[Option.map_none];simp only[ai]at ao;refine FnK.mk mixed rP sg s5 Ψ ao.obj rfl fun aQ c7=>?_;unfold qQ;clear aQ c7;simp[aJ,ai];(refine CallDo.ob (od aB) (by first|exact br _|exact br ‹_› _) (by simp only[ai,aJ,eI,fx];exact aO) (by simp only[ai,aJ,eI,fx];exact aO) (by simp[aG,Pv.look,ai,aJ]) ?_;rintro r aj ⟨rfl,rfl⟩;refine⟨(Same.keys (by simp[ai,aJ]) (by simp[ai,aJ])),?_⟩;simp[bs,ai,aJ]);(with_reducible repeat' first|refine aI ?_|simp);(refine CallDo.ob (lI ad) (by first|exact br _|exact br ‹_› _) (by simp only[ai,aJ,eI,fx];exact aO) (by simp only[ai,aJ,eI,fx];exact aO) (by simp[aG,Pv.look,ai,aJ]) ?_;rintro r aj ⟨rfl,rfl⟩;refine⟨(Same.keys (by simp[ai,aJ]) (by simp[ai,aJ])),?_⟩;simp[bs,ai,aJ]);by_cases bN:0<=v
    ·have I:¬v<=100000:=fun h=>aL ⟨bN,h⟩;(with_reducible repeat' first|refine aI ?_|refine bn fs ?_|refine bo fs ?_|refine bn (tu _) ?_|refine bo (tu _) ?_|simp[cN,bN,I]);refine dL.tm (i+1) (.var v) false Ψ (oH Ω _) (by simp only[ai];exact aO) ?_;simp[ba,bc,a1,cC,dN,b8,dd,bW,db,tnL,tn,dk,dW,fold,dV,dU,eJ,Pv.look,cV,bz,bC,T.k];exact tD rfl
    ·(with_reducible repeat' first|refine aI ?_|refine bn fs ?_|refine bo fs ?_|refine bn (tu _) ?_|refine bo (tu _) ?_|simp[cN,bN]);refine dL.tm (i+1) (.var v) false Ψ (oH Ω _) (by simp only[ai];exact aO) ?_;simp[ba,bc,a1,cC,dN,b8,dd,bW,db,tnL,tn,dk,dW,fold,dV,dU,eJ,Pv.look,cV,bz,bC,T.k];exact tD rfl
 ·have bL:fR (c::w')=if gU (c::w')then some (.sym (c::w'))else(gQ (c::w')).map .num:=by
   unfold fR;split
   ·rename_i e;cases e;exact absurd rfl az
   ·rfl
  have Ad:¬c.toNat=63:=fun h=>az (UInt8.toNat_inj.1 (by simpa using h));have De:((c.toNat:Int)==63)=false:=beq_eq_false_iff_ne.2 Ω;have vO:(c==40&&w'.isEmpty)=false:=by
   rw[Bool.and_eq_false_iff];by_cases h:c=40
   ·right;cases w' with
    |nil=>exact absurd (by rw[h]) aY
    |cons=>rfl
   ·left;simpa using h
  have jc:=FY (c::w');rw[bL];by_cases uk:gU (c::w')=true
  ·rw[if_pos uk];rw[uk]at jc;simp only[mZ];simp only[ai]at ao;refine FnK.mk mixed rP sg s5 Ψ ao.obj rfl fun aQ c7=>?_;unfold qQ;clear aQ c7;simp[aJ,ai];(refine CallDo.ob (od aB) (by first|exact br _|exact br ‹_› _) (by simp only[ai,aJ,eI,fx];exact aO) (by simp only[ai,aJ,eI,fx];exact aO) (by simp[aG,Pv.look,ai,aJ]) ?_;rintro r aj ⟨rfl,rfl⟩;refine⟨(Same.keys (by simp[ai,aJ]) (by simp[ai,aJ])),?_⟩;simp[bs,ai,aJ]);(with_reducible repeat' first|refine aI ?_|simp);(refine CallDo.ob (lI ad) (by first|exact br _|exact br ‹_› _) (by simp only[ai,aJ,eI,fx];exact aO) (by simp only[ai,aJ,eI,fx];exact aO) (by simp[aG,Pv.look,ai,aJ]) ?_;rintro r aj ⟨rfl,rfl⟩;refine⟨(Same.keys (by simp[ai,aJ]) (by simp[ai,aJ])),?_⟩;simp[bs,ai,aJ]);(with_reducible repeat' first|refine aI ?_|refine bn jc ?_|refine bo jc ?_|refine bn (MC _) ?_|refine bo (MC _) ?_|simp[cN,De,vO]);refine dL.tm (i+1) (.sym (c::w')) true Ψ (wT aF) (by simp only[ai];exact aO) ?_;simp[ba,bc,a1,cC,dN,b8,dd,bW,db,tnL,tn,dk,dW,fold,dV,dU,eJ,Pv.look,cV,bz,bC,T.k];exact tD rfl
  ·rw[be uk];rw[Bool.not_eq_true]at uk;rw[uk]at jc;have fs:=Mv (c::w') JJ;unfold Bh at fs;cases aR:gQ (c::w')with
   |none=>rw[aR]at fs;simp only[Option.getD,Option.isSome]at fs;simp only[Option.map_none];simp only[ai]at ao;refine FnK.mk mixed rP sg s5 Ψ ao.obj rfl fun aQ c7=>?_;unfold qQ;clear aQ c7;simp[aJ,ai];(refine CallDo.ob (od aB) (by first|exact br _|exact br ‹_› _) (by simp only[ai,aJ,eI,fx];exact aO) (by simp only[ai,aJ,eI,fx];exact aO) (by simp[aG,Pv.look,ai,aJ]) ?_;rintro r aj ⟨rfl,rfl⟩;refine⟨(Same.keys (by simp[ai,aJ]) (by simp[ai,aJ])),?_⟩;simp[bs,ai,aJ]);(with_reducible repeat' first|refine aI ?_|simp);(refine CallDo.ob (lI ad) (by first|exact br _|exact br ‹_› _) (by simp only[ai,aJ,eI,fx];exact aO) (by simp only[ai,aJ,eI,fx];exact aO) (by simp[aG,Pv.look,ai,aJ]) ?_;rintro r aj ⟨rfl,rfl⟩;refine⟨(Same.keys (by simp[ai,aJ]) (by simp[ai,aJ])),?_⟩;simp[bs,ai,aJ]);(with_reducible repeat' first|refine aI ?_|refine bn jc ?_|refine bo jc ?_|refine bn fs ?_|refine bo fs ?_|refine bn (B0 _) ?_|refine bo (B0 _) ?_|simp[cN,De,vO]);refine dL.tm (i+1) (.num 0) false Ψ (oH Ω _) (by simp only[ai];exact aO) ?_;simp[ba,bc,a1,cC,dN,b8,dd,bW,db,tnL,tn,dk,dW,fold,dV,dU,eJ,Pv.look,cV,bz,bC,T.k];exact tD rfl
   |some v=>rw[aR]at fs;simp only[Option.getD,Option.isSome]at fs;simp only[mZ];simp only[ai]at ao;refine FnK.mk mixed rP sg s5 Ψ ao.obj rfl fun aQ c7=>?_;unfold qQ;clear aQ c7;simp[aJ,ai];(refine CallDo.ob (od aB) (by first|exact br _|exact br ‹_› _) (by simp only[ai,aJ,eI,fx];exact aO) (by simp only[ai,aJ,eI,fx];exact aO) (by simp[aG,Pv.look,ai,aJ]) ?_;rintro r aj ⟨rfl,rfl⟩;refine⟨(Same.keys (by simp[ai,aJ]) (by simp[ai,aJ])),?_⟩;simp[bs,ai,aJ]);(with_reducible repeat' first|refine aI ?_|simp);(refine CallDo.ob (lI ad) (by first|exact br _|exact br ‹_› _) (by simp only[ai,aJ,eI,fx];exact aO) (by simp only[ai,aJ,eI,fx];exact aO) (by simp[aG,Pv.look,ai,aJ]) ?_;rintro r aj ⟨rfl,rfl⟩;refine⟨(Same.keys (by simp[ai,aJ]) (by simp[ai,aJ])),?_⟩;simp[bs,ai,aJ]);(with_reducible repeat' first|refine aI ?_|refine bn jc ?_|refine bo jc ?_|refine bn fs ?_|refine bo fs ?_|refine bn (B0 _) ?_|refine bo (B0 _) ?_|simp[cN,De,vO]);refine dL.tm (i+1) (.num v) true Ψ (wT aF) (by simp only[ai];exact aO) ?_;simp[ba,bc,a1,cC,dN,b8,dd,bW,db,tnL,tn,dk,dW,fold,dV,dU,eJ,Pv.look,cV,bz,bC,T.k];exact tD rfl
end
section
open Go Go.Pv
variable {ky:Nat}
theorem _root_.Go.Pv.FnK.mono{P:bp}{f κ:Nat}{args:List ab}{s:cZ}{Q oQ:ab->cZ->Prop}(h:FnK P f κ args s Q)(bj:∀r aj,Q r aj->oQ r aj):FnK P f κ args s oQ:=fun w ν vs gl I aa ak=>(h w ν vs gl I aa ak).mono fun e w' bq=>by obtain⟨v,r,aj,ν',a,b,c⟩:=bq;exact⟨v,r,aj,ν',a,bj _ _ b,c⟩
def Gz(ky:Nat)(l:List (List aC))(i:Nat)(o:aV (T×List (List aC))):Prop:= ∀κ,FnK aS 152 κ [aJ ky] (ai ky l i) (tp ky l o κ)
theorem El{l:List (List aC)}{i p:Nat}{t:T}{rest:List (List aC)}(h:Gz ky l i (some (t,rest)))(aY:l.length-rest.length=p)(κ:Nat):FnK aS 152 κ [aJ ky] (ai ky l i) fun r aj=>r= .tuple [t.k κ,.bool true]/\aj=ai ky l p:=(h κ).mono fun r aj bj=>by rw[<-aY];exact bj
def oR(ky:Nat)(l:List (List aC))(x:List (T×Nat)×Nat×Nat×Nat):aN:=⟨[(0,.ptr (.obj ky) 0),(2,.ptr (.loc 0) 0),(5,.slice 4 (.own (.loc 1)) (dt T.k x.1))],[(.loc 0,dE),(.obj ky,[.slice 1 .no (dz l),.int .i64 x.2.1])],[(.loc 1,⟨x.1.length,40,4,none⟩)],x.2.2.2+2,[.obj ky]⟩
def w8(ky:Nat)(l:List (List aC))(acc:List (T×Nat))(t:T)(p q:Nat)(x:Nat×Nat×Nat):aN:=⟨[(2,.ptr (.loc 0) 0),(5,.slice 4 (.own (.loc 1)) (js acc x.1)),(6,.ptr (.loc (q+3)) 0),(8,.int .i64 ((x.1:Int)-1))],[(.loc 0,dE),(.loc (q+3),cells ((gv ((acc.drop x.1).map (·.1)) t).k x.2.1)),(.obj ky,[.slice 1 .no (dz l),.int .i64 (p+1:Nat)])],[(.loc 1,⟨acc.length,40,4,none⟩)],x.2.2,[.obj ky]⟩
theorem SY(l:List (List aC))(aA:l.length<=100000)(hw:∀w∈l,w≠[]/\w.length<=bX):∀n i:Nat,i<=l.length->2*(l.length-i)+1<=n->Gz ky l i (rd fR n (l.drop i)):=by
 intro n;induction n using Nat.strongRecOn with
 |_ n a8=>
 intro i k4 aR κ;obtain⟨n,rfl⟩:∃m,n=m+1:=⟨n-1,Ω⟩;rcases jB k4 with rfl|aB
 ·rw[ml];exact Ka l κ
 obtain⟨w,ad⟩:∃w,l[i]? =some w:=⟨_,eh aB⟩;have vR:=hw w (gB ad);rw[fZ ad];by_cases aY:w=[40];rotate_left
 ·have hr:rd fR (n+1) (w::l.drop (i+1))=(fR w).map fun t=>(t,l.drop (i+1)):=by
   simp only[rd,be aY];split
   ·rename_i h;rcases h with rfl|rfl<;>rfl
   ·rfl
  rw[hr];exact SQ l aA ad vR.1 vR.2 aY κ
 subst aY;have hr:rd fR (n+1) ([40]::l.drop (i+1))=bR fR n (l.drop (i+1)) []:=by simp[rd]
 rw[hr];have ao:=br (ky:=ky) l i;have cN:bm ((i:Int)+1):=by unfold bm;omega
 obtain⟨R,bF⟩:∃R,R=bR fR n (l.drop (i+1)) []:=⟨_,rfl⟩;rw[<-bF];simp only[ai]at ao;refine FnK.mk mixed rP sg s5 Ψ ao.obj rfl fun aQ c7=>?_;unfold qQ;clear aQ c7;simp[aJ,ai];(refine CallDo.ob (od aB) (by first|exact br _|exact br ‹_› _) (by simp only[ai,aJ,eI,fx];exact aO) (by simp only[ai,aJ,eI,fx];exact aO) (by simp[aG,Pv.look,ai,aJ]) ?_;rintro r aj ⟨rfl,rfl⟩;refine⟨(Same.keys (by simp[ai,aJ]) (by simp[ai,aJ])),?_⟩;simp[bs,ai,aJ]);(with_reducible repeat' first|refine aI ?_|simp);(refine CallDo.ob (lI ad) (by first|exact br _|exact br ‹_› _) (by simp only[ai,aJ,eI,fx];exact aO) (by simp only[ai,aJ,eI,fx];exact aO) (by simp[aG,Pv.look,ai,aJ]) ?_;rintro r aj ⟨rfl,rfl⟩;refine⟨(Same.keys (by simp[ai,aJ]) (by simp[ai,aJ])),?_⟩;simp[bs,ai,aJ]);(with_reducible repeat' first|refine aI ?_|simp[cN]);refine jI (oR ky l) (fun x=>l.length-x.2.1) (fun x=>x.2.1<=l.length/\2*(l.length-x.2.1)+2<=x.2.2.1/\x.2.2.1<=n/\bR fR x.2.2.1 (l.drop x.2.1) (x.1.map (·.1))=R/\x.1.length<=x.2.1/\ls (x.2.2.2+2) x.1/\∀p∈x.1,2<=p.2) ([],i+1,n,0) (by simp[oR];exact⟨by simp[fresh,kinL,kin,b1,aG,Pv.look,dE],eR (by simp[fresh,kinL,kin,b1,aG,Pv.look,dE]),eS (by simp[fresh,kinL,kin,ef,aG,Pv.look,dE]),Ψ⟩) ⟨aB,by simp;omega,cE _,bF.symm,Ψ,.nil _,Ψ⟩ ?_;rintro⟨acc,j,k,q⟩ ⟨av,J,uf,c1,h2,fL,oq⟩ _;simp only at av J uf c1 h2 fL oq;clear bF hr cN ad vR;subst c1;obtain⟨k,rfl⟩:∃m,k=m+1:=⟨k-1,Ω⟩;have pe:j<=1000000:=Ω
 rcases jB av with rfl|eV
 ·rw[ml];simp only[bR];have eC:=kg (ky:=ky) (l:=l) (i:=l.length) (s:=[41]) pe Ψ;have ke:=Ka (ky:=ky) l;simp[oR];refine CallDo.ob (eC) (br _ _) (by simp only[ai];exact aO) (by simp only[ai];exact aO) (by simp[aG,Pv.look,ai,aJ,kinL,kin]) ?_;rintro r aj ⟨rfl,rfl⟩;refine⟨cc _ _ _ _,?_⟩;simp[bs,ai,aJ];(with_reducible repeat' first|refine aI ?_|simp);refine CallDo.ob (Us l) (br _ _) (by simp only[ai];exact aO) (by simp only[ai];exact aO) (by simp[aG,Pv.look,ai,aJ,kinL,kin]) ?_;rintro r aj ⟨rfl,rfl⟩;refine⟨cc _ _ _ _,?_⟩;simp[bs,ai,aJ];(with_reducible repeat' first|refine aI ?_|simp);refine CallDo.obK (ke _) (br _ _) (by simp only[ai];exact aO) (by simp only[ai];exact aO) (by simp[aG,Pv.look,ai,aJ,kinL,kin]) Ψ ?_;rintro r aj ⟨x,gx,bj,rfl,rfl⟩;refine⟨cc _ _ _ _,?_⟩;simp[bs,ai,aJ];(with_reducible repeat' first|refine aI ?_|simp);refine dL.tm (gx) (.nil) false Ψ (oH bj _) (by simp only[ai];exact aO) ?_;simp[ba,bc,a1,cC,dN,b8,dd,bW,db,tnL,tn,dk,dW,fold,dV,dU,eJ,Pv.look,cV,bz,bC,T.k]
 obtain⟨v,aL⟩:∃v,l[j]? =some v:=⟨_,eh eV⟩;rw[fZ aL];have gH:bm ((j:Int)+1):=by unfold bm;omega
 by_cases gr:v=[41]
 ·subst gr;have ue:bR fR (k+1) ([41]::l.drop (j+1)) (acc.map (·.1))=some (gv (acc.map (·.1)) .nil,l.drop (j+1)):=by simp[bR]
  rw[ue];have eC:=qz (ky:=ky) pe aL;have aF:=tL aL;simp[oR];refine CallDo.ob (eC) (br _ _) (by simp only[ai];exact aO) (by simp only[ai];exact aO) (by simp[aG,Pv.look,ai,aJ,kinL,kin]) ?_;rintro r aj ⟨rfl,rfl⟩;refine⟨cc _ _ _ _,?_⟩;simp[bs,ai,aJ];(with_reducible repeat' first|refine aI ?_|simp);refine S3 l (j+1) acc _ _ fL oq Ω Ω (by simp[Pv.get]) _ Ψ Ψ fun b e o hh Yy=>?_;simp;(with_reducible repeat' first|refine aI ?_|simp);refine dL.tm (j+1) (gv (acc.map (·.1)) .nil) true Ψ (wT aF) (by simp only[ai];exact aO) ?_;simp[ba,bc,a1,cC,dN,b8,dd,bW,db,tnL,tn,dk,dW,fold,dV,dU,eJ,Pv.look,cV,bz,bC,T.k]
 have eC:=kg (ky:=ky) pe (show l[j]?≠some [41] by rw[aL];simpa using gr);by_cases mA:v=[46]
 ·subst mA;have dr:=od (ky:=ky) eV;have cU:=a8 k Ω (j+1) Ω Ω;cases dS:rd fR k (l.drop (j+1))with
  |none=>
   rw[dS]at cU;have he:bR fR (k+1) ([46]::l.drop (j+1)) (acc.map (·.1))=none:=by simp[bR,dS]
   rw[he];simp[oR];refine CallDo.ob (eC) (br _ _) (by simp only[ai];exact aO) (by simp only[ai];exact aO) (by simp[aG,Pv.look,ai,aJ,kinL,kin]) ?_;rintro r aj ⟨rfl,rfl⟩;refine⟨cc _ _ _ _,?_⟩;simp[bs,ai,aJ];(with_reducible repeat' first|refine aI ?_|simp);refine CallDo.ob (lI aL) (br _ _) (by simp only[ai];exact aO) (by simp only[ai];exact aO) (by simp[aG,Pv.look,ai,aJ,kinL,kin]) ?_;rintro r aj ⟨rfl,rfl⟩;refine⟨cc _ _ _ _,?_⟩;simp[bs,ai,aJ];(with_reducible repeat' first|refine aI ?_|simp);refine CallDo.ob (dr) (br _ _) (by simp only[ai];exact aO) (by simp only[ai];exact aO) (by simp[aG,Pv.look,ai,aJ,kinL,kin]) ?_;rintro r aj ⟨rfl,rfl⟩;refine⟨cc _ _ _ _,?_⟩;simp[bs,ai,aJ];(with_reducible repeat' first|refine aI ?_|simp[gH]);refine CallDo.obK (cU _) (br _ _) (by simp only[ai];exact aO) (by simp only[ai];exact aO) (by simp[aG,Pv.look,ai,aJ,kinL,kin]) Ψ ?_;rintro r aj ⟨x,gx,bj,rfl,rfl⟩;refine⟨cc _ _ _ _,?_⟩;simp[bs,ai,aJ];(with_reducible repeat' first|refine aI ?_|simp);refine dL.tm (gx) (.nil) false Ψ (oH bj _) (by simp only[ai];exact aO) ?_;simp[ba,bc,a1,cC,dN,b8,dd,bW,db,tnL,tn,dk,dW,fold,dV,dU,eJ,Pv.look,cV,bz,bC,T.k]
  |some tr=>
   obtain⟨t,rest⟩:=tr;rw[dS]at cU;obtain⟨gg,ot⟩:=yT (qt k _ _ _ dS).1;obtain⟨p,aY⟩:∃p,p=l.length-rest.length:=⟨_,rfl⟩;rw[<-aY]at gg;have rk:=El cU aY.symm;have hl:p<=l.length:=Ω
   by_cases bL:acc=[]
   ·subst bL;rw[show bR fR (k+1) ([46]::l.drop (j+1)) (([]:List (T×Nat)).map (·.1))=none by simp[bR]];simp[oR];refine CallDo.ob (eC) (br _ _) (by simp only[ai];exact aO) (by simp only[ai];exact aO) (by simp[aG,Pv.look,ai,aJ,kinL,kin]) ?_;rintro r aj ⟨rfl,rfl⟩;refine⟨cc _ _ _ _,?_⟩;simp[bs,ai,aJ];(with_reducible repeat' first|refine aI ?_|simp);refine CallDo.ob (lI aL) (br _ _) (by simp only[ai];exact aO) (by simp only[ai];exact aO) (by simp[aG,Pv.look,ai,aJ,kinL,kin]) ?_;rintro r aj ⟨rfl,rfl⟩;refine⟨cc _ _ _ _,?_⟩;simp[bs,ai,aJ];(with_reducible repeat' first|refine aI ?_|simp);refine CallDo.ob (dr) (br _ _) (by simp only[ai];exact aO) (by simp only[ai];exact aO) (by simp[aG,Pv.look,ai,aJ,kinL,kin]) ?_;rintro r aj ⟨rfl,rfl⟩;refine⟨cc _ _ _ _,?_⟩;simp[bs,ai,aJ];(with_reducible repeat' first|refine aI ?_|simp[gH]);refine CallDo.obK (rk _) (br _ _) (by simp only[ai];exact aO) (by simp only[ai];exact aO) (by simp[aG,Pv.look,ai,aJ,kinL,kin]) Ψ ?_;rintro r aj ⟨rfl,rfl⟩;refine⟨cc _ _ _ _,?_⟩;simp[bs,ai,aJ];(with_reducible repeat' first|refine aI ?_|simp);refine dL.tm (p) (.nil) false Ψ (oH hl _) (by simp only[ai];exact aO) ?_;simp[ba,bc,a1,cC,dN,b8,dd,bW,db,tnL,tn,dk,dW,fold,dV,dU,eJ,Pv.look,cV,bz,bC,T.k]
   ·have lx:0<acc.length:=nT.2 bL;have Yf:¬acc.length=0:=Ω
    have Yg:acc.length<=100000:=Ω
    have oj:((acc.length:Int)==0)=false:=beq_eq_false_iff_ne.2 Ω;by_cases xK:l[p]? =some [41]
    ·have AP:=qz (ky:=ky) (show p<=1000000 by omega) xK;have Aw:rest=[41]::l.drop (p+1):=by rw[gg];exact fZ xK
     rw[show bR fR (k+1) ([46]::l.drop (j+1)) (acc.map (·.1))=some (gv (acc.map (·.1)) t,l.drop (p+1)) by simp[bR,dS,Aw,bL]];have aF:=tL xK;have Ab:bm ((acc.length:Int)-1):=by unfold bm;omega
     have fK:=sT.kin (fL.mono (show q+2<=q+2+2 by omega)) (cE _) [.obj ky];simp[fresh]at fK;simp[oR];refine CallDo.ob (eC) (br _ _) (by simp only[ai];exact aO) (by simp only[ai];exact aO) (by simp[aG,Pv.look,ai,aJ,kinL,kin]) ?_;rintro r aj ⟨rfl,rfl⟩;refine⟨cc _ _ _ _,?_⟩;simp[bs,ai,aJ];(with_reducible repeat' first|refine aI ?_|simp);refine CallDo.ob (lI aL) (br _ _) (by simp only[ai];exact aO) (by simp only[ai];exact aO) (by simp[aG,Pv.look,ai,aJ,kinL,kin]) ?_;rintro r aj ⟨rfl,rfl⟩;refine⟨cc _ _ _ _,?_⟩;simp[bs,ai,aJ];(with_reducible repeat' first|refine aI ?_|simp);refine CallDo.ob (dr) (br _ _) (by simp only[ai];exact aO) (by simp only[ai];exact aO) (by simp[aG,Pv.look,ai,aJ,kinL,kin]) ?_;rintro r aj ⟨rfl,rfl⟩;refine⟨cc _ _ _ _,?_⟩;simp[bs,ai,aJ];(with_reducible repeat' first|refine aI ?_|simp[gH]);refine CallDo.obK (rk _) (br _ _) (by simp only[ai];exact aO) (by simp only[ai];exact aO) (by simp[aG,Pv.look,ai,aJ,kinL,kin]) Ψ ?_;rintro r aj ⟨rfl,rfl⟩;refine⟨cc _ _ _ _,?_⟩;simp[bs,ai,aJ];(with_reducible repeat' first|refine aI ?_|simp[oj]);refine CallDo.ob (AP) (br _ _) (by simp only[ai];exact aO) (by simp only[ai];exact aO) (by simp[aG,Pv.look,ai,aJ,kinL,kin]) ?_;rintro r aj ⟨rfl,rfl⟩;refine⟨cc _ _ _ _,?_⟩;simp[bs,ai,aJ];(with_reducible repeat' first|refine aI ?_|simp[Ab]);refine jI (w8 ky l acc t p q) (fun x=>x.1) (fun x=>x.1<=acc.length/\q+4<=x.2.2/\q+2<=x.2.1/\x.2.1<x.2.2) (acc.length,q+2,q+4) (by simp[w8,JU,gv,Ab];exact⟨by simp[fresh,kinL,kin,b1,aG,Pv.look,dE,fK],eR (by simp[fresh,kinL,kin,b1,aG,Pv.look,dE,fK]),eS (by simp[fresh,kinL,kin,ef,aG,Pv.look,dE,fK]),Ψ⟩) ⟨cE _,cE _,cE _,Ψ⟩ ?_;rintro⟨m,c,r⟩ ⟨hm,hr,p9,pa⟩ _;simp only at hm hr p9 pa;clear eC AP cU rk dr dS Aw gg fK;cases m with
     |zero=>simp[w8];(with_reducible repeat' first|refine aI ?_|simp);refine dL.tm (p+1) (gv (acc.map (·.1)) t) true Ψ (wT aF) (by simp only[ai];exact aO) ?_;simp[ba,bc,a1,cC,dN,b8,dd,bW,db,tnL,tn,dk,dW,fold,dV,dU,eJ,Pv.look,cV,bz,bC,T.k]
     |succ m=>
      have hH:m<acc.length:=hm;obtain⟨y,bk⟩:∃y,acc[m]? =some y:=⟨_,eh hH⟩;have gN:∀h,(js acc (m+1))[m]'h=y.1.k y.2:=fun h=>by have:=JV bk;rw[eh h]at this;exact iN this
      have pf:bm ((m:Int)-1):=by unfold bm;omega
      have Al:bm (m:Int):=by unfold bm;omega
      have ja:=oq y (gB bk);have Sr:=fL.lt y (gB bk);have b7:∀k,¬q=r+k:=fun k=>Ω
      have nu:∀k,¬r+k=q:=fun k=>Ω
      have RC:Pv.kinL (fun k=> ¬fresh (r+132) [.obj ky] k) (js acc (m+1)):=AK fun p aY h=>by have I:=fL.lt p aY;have ak:r+132<=p.2:=h.1;omega
      have im:gv ((acc.drop m).map (·.1)) t= .pair y.1 (gv ((acc.drop (m+1)).map (·.1)) t):=by obtain⟨fc,vS⟩:=fG.1 bk;rw[pR fc,vS];rfl
      rw[List.map_drop,List.map_drop]at im;have mE:Pv.kinL (fun k=> ¬fresh (r+132+1+1+1+1+1) [.obj ky] k) (js acc m):=AK fun p aY h=>by have I:=fL.lt p aY;have ak:r+132+1+1+1+1+1<=p.2:=h.1;omega
      simp[fresh]at mE;have hG:¬r+132+1+1+1+1+1<=q+3:=Ω
      have DZ:¬y.2=c:=Ω
      have ub:=D5 (N:=[.loc y.2,.loc c]) fL bk (by simp;omega) Ψ;simp[w8];(with_reducible repeat' first|refine aI ?_|simp[gN,hH,pf,Al]);refine iQ.fdK fun K1 xM=>?_;refine iQ.of mixed oI CS ER Ψ [(2,.ptr (.loc 0) 0),(5,.slice 4 (.own (.loc 1)) (js acc (m+1))),(6,.ptr (.loc (q+3)) 0),(8,.int .i64 m)] (fun k=> ¬fresh (r+132) [.obj ky] k) (fun k h=>h) (by simp[kin,RC];simp[fresh];omega) fun pC sK qe sL=>?_;have pk:∀k,r+132<=k->aq.loc k∉pC:=fun k J h=>qe _ h ⟨J,Ψ⟩;clear sK qe sL;unfold zs;simp[pk,b7,nu];(with_reducible repeat' first|refine aI ?_|simp[pk,b7,nu]);simp[tx,ba,bc,a1,b7,nu];refine xM _ ?_ ?_
      ·simp[cC,dN,dk,dW,b8,dd,bW,db,tn,tnL,nF,pk _ (show r+132<=r+132+1+1+1+1 by omega),DZ]
      ·simp[b8,dd,bW,db,tn,tnL,fold,dV,dU,bz,bC,ub,nF,b7,nu];refine⟨pf,?_⟩;refine cF.whl (m,r+132+1+1+1+1,r+132+1+1+1+1+1) Ψ ⟨by simp;omega,by simp;omega,by simp;omega,Ψ⟩ ?_;simp[w8,im,T.kind,T.int,T.name,T.args];exact⟨by simp[fresh,kinL,kin,b1,aG,Pv.look,mE,hG],eR (by simp[fresh,kinL,kin,b1,aG,Pv.look,mE,hG]),eS (by simp[fresh,kinL,kin,ef,aG,Pv.look,mE,hG]),Ψ⟩
    ·have AP:=kg (ky:=ky) (show p<=1000000 by omega) xK;have h3:bR fR (k+1) ([46]::l.drop (j+1)) (acc.map (·.1))=none:=by
      cases rest with
      |nil=>simp[bR,dS,bL]
      |cons v r=>
       have:l[p]? =some v:=by rw[<-List.head?_drop,<-gg];rfl
       have Sh:¬v=[41]:=by rintro rfl;exact xK this
       simp[bR,dS,bL,Sh]
     rw[h3];simp[oR];refine CallDo.ob (eC) (br _ _) (by simp only[ai];exact aO) (by simp only[ai];exact aO) (by simp[aG,Pv.look,ai,aJ,kinL,kin]) ?_;rintro r aj ⟨rfl,rfl⟩;refine⟨cc _ _ _ _,?_⟩;simp[bs,ai,aJ];(with_reducible repeat' first|refine aI ?_|simp);refine CallDo.ob (lI aL) (br _ _) (by simp only[ai];exact aO) (by simp only[ai];exact aO) (by simp[aG,Pv.look,ai,aJ,kinL,kin]) ?_;rintro r aj ⟨rfl,rfl⟩;refine⟨cc _ _ _ _,?_⟩;simp[bs,ai,aJ];(with_reducible repeat' first|refine aI ?_|simp);refine CallDo.ob (dr) (br _ _) (by simp only[ai];exact aO) (by simp only[ai];exact aO) (by simp[aG,Pv.look,ai,aJ,kinL,kin]) ?_;rintro r aj ⟨rfl,rfl⟩;refine⟨cc _ _ _ _,?_⟩;simp[bs,ai,aJ];(with_reducible repeat' first|refine aI ?_|simp[gH]);refine CallDo.obK (rk _) (br _ _) (by simp only[ai];exact aO) (by simp only[ai];exact aO) (by simp[aG,Pv.look,ai,aJ,kinL,kin]) Ψ ?_;rintro r aj ⟨rfl,rfl⟩;refine⟨cc _ _ _ _,?_⟩;simp[bs,ai,aJ];(with_reducible repeat' first|refine aI ?_|simp[oj]);refine CallDo.ob (AP) (br _ _) (by simp only[ai];exact aO) (by simp only[ai];exact aO) (by simp[aG,Pv.look,ai,aJ,kinL,kin]) ?_;rintro r aj ⟨rfl,rfl⟩;refine⟨cc _ _ _ _,?_⟩;simp[bs,ai,aJ];(with_reducible repeat' first|refine aI ?_|simp);refine dL.tm (p) (.nil) false Ψ (oH hl _) (by simp only[ai];exact aO) ?_;simp[ba,bc,a1,cC,dN,b8,dd,bW,db,tnL,tn,dk,dW,fold,dV,dU,eJ,Pv.look,cV,bz,bC,T.k]
 ·have cU:=a8 k Ω j av Ω;have h0:(v==[46])=false:=beq_eq_false_iff_ne.2 mA;rw[fZ aL]at cU;cases dS:rd fR k (v::l.drop (j+1))with
  |none=>rw[dS]at cU;rw[show bR fR (k+1) (v::l.drop (j+1)) (acc.map (·.1))=none by simp[bR,dS,gr,mA]];simp[oR];refine CallDo.ob (eC) (br _ _) (by simp only[ai];exact aO) (by simp only[ai];exact aO) (by simp[aG,Pv.look,ai,aJ,kinL,kin]) ?_;rintro r aj ⟨rfl,rfl⟩;refine⟨cc _ _ _ _,?_⟩;simp[bs,ai,aJ];(with_reducible repeat' first|refine aI ?_|simp);refine CallDo.ob (lI aL) (br _ _) (by simp only[ai];exact aO) (by simp only[ai];exact aO) (by simp[aG,Pv.look,ai,aJ,kinL,kin]) ?_;rintro r aj ⟨rfl,rfl⟩;refine⟨cc _ _ _ _,?_⟩;simp[bs,ai,aJ];(with_reducible repeat' first|refine aI ?_|simp[h0]);refine CallDo.obK (cU _) (br _ _) (by simp only[ai];exact aO) (by simp only[ai];exact aO) (by simp[aG,Pv.look,ai,aJ,kinL,kin]) Ψ ?_;rintro r aj ⟨x,gx,bj,rfl,rfl⟩;refine⟨cc _ _ _ _,?_⟩;simp[bs,ai,aJ];(with_reducible repeat' first|refine aI ?_|simp);refine dL.tm (gx) (.nil) false Ψ (oH bj _) (by simp only[ai];exact aO) ?_;simp[ba,bc,a1,cC,dN,b8,dd,bW,db,tnL,tn,dk,dW,fold,dV,dU,eJ,Pv.look,cV,bz,bC,T.k]
  |some tr=>
   obtain⟨t,rest⟩:=tr;rw[dS]at cU;obtain⟨sN,sO⟩:=qt k _ _ _ dS;rw[<-fZ aL]at sN sO;obtain⟨gg,ot⟩:=yT sN;obtain⟨p,aY⟩:∃p,p=l.length-rest.length:=⟨_,rfl⟩;rw[<-aY]at gg;have rk:=El cU aY.symm;have hl:p<=l.length:=Ω
   have JB:j<p:=by simp at sO;omega
   rw[show bR fR (k+1) (v::l.drop (j+1)) (acc.map (·.1))=bR fR k rest ((acc++[(t,q+2)]).map (·.1)) by simp[bR,dS,gr,mA]];have lx:acc.length+1<=bX:=by unfold bX;omega
   simp[oR];refine CallDo.ob (eC) (br _ _) (by simp only[ai];exact aO) (by simp only[ai];exact aO) (by simp[aG,Pv.look,ai,aJ,kinL,kin]) ?_;rintro r aj ⟨rfl,rfl⟩;refine⟨cc _ _ _ _,?_⟩;simp[bs,ai,aJ];(with_reducible repeat' first|refine aI ?_|simp);refine CallDo.ob (lI aL) (br _ _) (by simp only[ai];exact aO) (by simp only[ai];exact aO) (by simp[aG,Pv.look,ai,aJ,kinL,kin]) ?_;rintro r aj ⟨rfl,rfl⟩;refine⟨cc _ _ _ _,?_⟩;simp[bs,ai,aJ];(with_reducible repeat' first|refine aI ?_|simp[h0]);refine CallDo.obK (rk _) (br _ _) (by simp only[ai];exact aO) (by simp only[ai];exact aO) (by simp[aG,Pv.look,ai,aJ,kinL,kin]) Ψ ?_;rintro r aj ⟨rfl,rfl⟩;refine⟨cc _ _ _ _,?_⟩;simp[bs,ai,aJ];(with_reducible repeat' first|refine aI ?_|simp[lx]);have bb:=fL.snoc t (cE (q+2)) (show q+2<q+3+2 by omega);have fK:=sT.kin bb (cE _) [.obj ky];simp[fresh]at fK;refine cF.whl (acc++[(t,q+2)],p,k,q+3) (by simp;omega) ⟨hl,by simp;omega,by simp;omega,by simp[<-gg],by simp;omega,bb,fun aap aaq ad=>?_⟩ ?_
   ·rcases ha.1 ad with ad|ad
    ·exact oq _ ad
    ·simp at ad;omega
   simp[oR];exact⟨by simp[fresh,kinL,kin,b1,aG,Pv.look];exact⟨rfl,fK⟩,eR (by simp[fresh,kinL,kin,b1,aG,Pv.look]),eS (by simp[fresh,kinL,kin,b1,aG,Pv.look,ef]),Ψ⟩
end
section
open Go Go.Pv
theorem BL{α:Type}{p:α->Bool}{s:List α}{i k:Nat}(jm:i<=k)(J:k<=s.length)(jJ:∀c∈(s.drop i).take (k-i),p c=true)(hF:∀c,s[k]? =some c->p c=false):(s.drop i).takeWhile p=(s.drop i).take (k-i)/\(s.drop i).dropWhile p=s.drop k:=by
 have I:s.drop i=(s.drop i).take (k-i)++s.drop k:=by have:=(List.take_append_drop (k-i) (s.drop i)).symm;rwa[List.drop_drop,show i+(k-i)=k by omega]at this
 have aa:(s.drop k).takeWhile p=[]/\(s.drop k).dropWhile p=s.drop k:=by
  cases h:s.drop k with
  |nil=>simp
  |cons c r=>
   have:s[k]? =some c:=by rw[<-List.head?_drop,h];rfl
   have az:=hF c this;simp[az]
 constructor
 ·conv=>lhs;rw[I]
  rw[List.takeWhile_append_of_pos jJ,aa.1,List.append_nil]
 ·conv=>lhs;rw[I]
  rw[List.dropWhile_append_of_pos jJ,aa.2]
def kh(o:aV (List (List aC))):ab:=match o with
 |some l=>.tuple [.slice 1 .no (dz l),.bool true]
 |none=>.tuple [.slice 1 .no [],.bool false]
theorem KM(c:aC):pD c=true↔(c.toNat:Int)=10\/(32<=(c.toNat:Int)/\(c.toNat:Int)<=126):=by
 unfold pD;simp only[Bool.or_eq_true,df,bA,fH];have:c=10↔c.toNat=10:=by rw[<-UInt8.toNat_inj];rfl
 rw[this];omega
theorem mW{c d:aC}(h:c≠d):((c.toNat:Int)==(d.toNat:Int))=false:=beq_eq_false_iff_ne.2 fun e=>h (UInt8.toNat_inj.1 Ω)
theorem uZ{c d:aC}(h:c≠d):((c.toNat:Int) !=(d.toNat:Int))=true:=by simp only[bne,mW h];rfl
def zv:C:=(al [a7 2 (.mov (.c (.str [])))] (.seq (al [ae 4 0,bd 5 .lss 4 0] (bf 5 (.seq (al [ae 6 0,bd 7 .quo 6 10,bd 8 .eql 7 0] (bf 8 (al [ae 9 0,a7 10 (.bin .sub false (cQ 48) (.t 9)),a7 11 (.conv .u8 (.t 10)),h9 12 1 5 [.t 11],a7 13 (.b2s (.t 12)),a7 14 (.bin .add false (.c (.str [45])) (.t 13)),ae 2 14] .ret) .skip)) (.seq (.drawn true 44 [ae 15 0,bd 16 .quo 15 10,dY 17 57 16,ae 18 0,bd 19 .rem 18 10,a7 20 (.bin .sub false (cQ 48) (.t 19)),a7 21 (.conv .u8 (.t 20)),h9 22 1 5 [.t 21],a7 23 (.b2s (.t 22)),dm 24 .add 17 23,ae 2 24]) .ret)) .skip)) (al [a7 3 (.mov (.c (.str [])))] (.seq (.block 0 (.loop (.seq (al [ae 25 0,bd 26 .gtr 25 9] (bf 26 .skip (.exit 0))) (.block 1 (al [ae 27 0,bd 28 .rem 27 10,a7 29 (.bin .add false (cQ 48) (.t 28)),a7 30 (.conv .u8 (.t 29)),h9 31 1 5 [.t 30],a7 32 (.b2s (.t 31)),ae 33 3,dm 34 .add 32 33,ae 3 34] (.region [ae 35 0,bd 36 .quo 35 10,ae 0 36])))))) (al [ae 37 0,a7 38 (.bin .add false (cQ 48) (.t 37)),a7 39 (.conv .u8 (.t 38)),h9 40 1 5 [.t 39],a7 41 (.b2s (.t 40)),ae 42 3,dm 43 .add 41 42,ae 2 43] .ret)))))
@[simp] def Bs:List cr:=[.tmp 2]
def Hq:C:=(al [hW 2 0,mY 4 1] (.seq (al [bB 9 2 1 2,bu 10 1 9,dT 11 10,cK 12 0] (pN 13 12 11 (.seq (.block 1 (al [e8 14 4 10 12,cP 15 4 14,hv 6 dE,bO 4 6 15] (.region [cP 16 4 6,ae 17 1,gA 18 156 16 17,ae 1 18]))) (.region [bd 19 .add 12 1,ae 12 19])))) (.seq (al [bB 20 3 1 2,bu 21 1 20,dT 22 21,cK 23 0] (.block 2 (.loop (al [dm 24 .lss 23 22] (.seq (bf 24 .skip (.exit 2)) (.seq (.block 3 (al [e8 25 4 21 23,cP 26 4 25,eu (.alloc 8 none (.agg [.int .i64 0,.str [],.slice 4 .nil [],.slice 4 .nil []])),bO 4 8 26] (.region [cP 27 4 8,ae 28 1,gA 29 89 27 28,ae 1 29]))) (.region [bd 30 .add 23 1,ae 23 30]))))))) (al [ae 31 1,ae 4 31] .ret))))
@[simp] def UU:List cr:=[.tmp 4]
def Hg:C:=(al [bM 2 false] (.seq (al [eu (.bsl 5 1 9 [(.c (.str [116,114,117,101])),(.c (.str [102,97,105,108])),(.c (.str [115,121,109,98,111,108])),(.c (.str [110,117,109,98,101,114])),(.c (.str [97,98,115,101,110,116])),(.c (.str [97,110,100])),(.c (.str [111,114])),(.c (.str [110,111,116])),(.c (.str [100,101,102,105,110,101]))]),dT 6 5,cK 7 0] (pN 8 7 6 (.seq (.block 1 (al [e8 9 1 5 7,bu 10 1 9,ae 4 10] (al [ae 11 4,ae 12 0,dm 13 .eql 11 12] (bf 13 (al [bM 2 false] .ret) .skip)))) (.region [bd 14 .add 7 1,ae 7 14])))) (al [ae 15 0,dY 16 188 15,ae 2 16] .ret)))
@[simp] def UN:List cr:=[.tmp 2]
def Hr:C:=(al [mY 0 1] (al [eu (.bsl 1 1 9 [(.c (.str [116,114,117,101])),(.c (.str [102,97,105,108])),(.c (.str [61])),(.c (.str [47,61])),(.c (.str [115,121,109,98,111,108])),(.c (.str [110,117,109,98,101,114])),(.c (.str [97,98,115,101,110,116])),(.c (.str [97,110,100])),(.c (.str [111,114])),(.c (.str [])),(.c (.str [110,111,116]))]),ae 0 1] .ret))
@[simp] def UW:List cr:=[.tmp 0]
def Cp:C:=(al [hW 1 0,bM 2 false] (al [cP 3 4 1,mf 4 210 [.t 3,(cQ 80)],bd 5 .leq 4 80,ae 6 5,aM 6 true (cP 7 4 1),aM 6 true (dY 8 211 7),e7 9 6 8,ae 2 9] .ret))
@[simp] def E2:List cr:=[.tmp 2]
def Hp:C:=(al [hW 2 0,cK 4 0] (al [cK 5 1] (.seq (al [bB 8 3 1 2,bu 9 1 8,dT 10 9,cK 11 0] (pN 12 11 10 (.seq (.block 1 (al [e8 13 4 9 11,cP 14 4 13,eu (.alloc 7 none (.agg [.int .i64 0,.str [],.slice 4 .nil [],.slice 4 .nil []])),bO 4 7 14] (.seq (al [ae 15 5,ae 16 1,dm 17 .gtr 15 16] (bf 17 (al [ae 18 5,ae 4 18] .ret) .skip)) (.region [ae 19 5,cP 20 4 7,ae 21 1,ae 22 5,dm 23 .sub 21 22,gA 24 210 20 23,dm 25 .add 19 24,ae 5 25])))) (.region [bd 26 .add 11 1,ae 11 26])))) (al [ae 27 5,ae 4 27] .ret))))
@[simp] def UT:List cr:=[.tmp 4]
def oT:C:=(al [hW 1 0,bM 2 false] (.seq (al [bB 6 0 1 1,bu 7 1 6,mf 8 127 [.t 7,(cQ 0),(cQ 10)],eQ 9 8,ae 10 9,aM 10 false (bB 11 0 1 1),aM 10 false (bu 12 1 11),aM 10 false (bd 13 .neq 12 9),b0 10 false 14 13,aM 14 true (bB 15 1 1 1),aM 14 true (bu 16 1 15),lL 14 true 17 (.bin .neq false (.t 16) (.c (.str []))),aM 10 false (e7 18 14 17),ds 19 10 18,ae 20 19,aM 20 false (bB 21 2 1 1),aM 20 false (bu 22 1 21),aM 20 false (dY 23 253 22),aM 20 false (eQ 24 23),ds 25 20 24] (bf 25 (al [bM 2 false] .ret) .skip)) (al [bB 26 2 1 1,bu 27 1 26,dT 28 27,h9 29 1 3 [(cQ 0),(cQ 0),(cQ 2),(cQ 2),(cQ 1),(cQ 1),(cQ 2),(cQ 0),(cQ 0),.t 28,(cQ 0)],bB 30 0 1 1,bu 31 1 30,e8 32 1 29 31,bu 33 1 32,ae 3 33] (.seq (al [bB 34 2 1 1,bu 35 1 34,dT 36 35,ae 37 3,dm 38 .neq 36 37,ae 39 38,b0 39 false 40 3,aM 39 false (bd 41 .gtr 40 4),ds 42 39 41,ae 43 42,aM 43 false (bB 44 0 1 1),aM 43 false (bu 45 1 44),aM 43 false (bd 46 .lss 45 7),b0 43 false 47 46,aM 47 true (bB 48 3 1 1),aM 47 true (bu 49 1 48),aM 47 true (dT 50 49),aM 47 true (bd 51 .gtr 50 0),aM 43 false (e7 52 47 51),ds 53 43 52,ae 54 53,aM 54 false (bB 55 3 1 1),aM 54 false (bu 56 1 55),aM 54 false (dT 57 56),aM 54 false (bd 58 .gtr 57 8),ds 59 54 58] (bf 59 (al [bM 2 false] .ret) .skip)) (.seq (al [bB 60 3 1 1,bu 61 1 60,dT 62 61,cK 63 0] (pN 64 63 62 (.seq (.block 1 (al [e8 65 4 61 63,cP 66 4 65,eu (.alloc 5 none (.agg [.int .i64 0,.str [],.slice 4 .nil [],.slice 4 .nil []])),bO 4 5 66] (al [cP 67 4 5,dY 68 211 67,eQ 69 68] (bf 69 (al [bM 2 false] .ret) .skip)))) (.region [bd 70 .add 63 1,ae 63 70])))) (.seq (al [bB 71 0 1 1,bu 72 1 71] (.block 2 (al [bd 74 .eql 72 6,ae 73 74] (bf 73 (al [bB 75 2 1 1,bu 76 1 75,qE 77 4 76 0,bB 78 0 1 77,bu 79 1 78,bd 80 .eql 79 2,ae 2 80] .ret) (al [bd 82 .eql 72 9,ae 81 82] (bf 81 (al [bB 83 3 1 1,bu 84 1 83,dT 85 84,bd 86 .eql 85 0,ae 87 86,aM 87 true (bB 88 1 1 1),aM 87 true (bu 89 1 88),aM 87 true (dY 90 128 89),e7 91 87 90,ae 2 91] .ret) (al [bd 93 .eql 72 10,ae 92 93] (bf 92 (al [bB 94 3 1 1,bu 95 1 94,dT 96 95,bd 97 .eql 96 1,ae 98 97,aM 98 true (bB 99 3 1 1),aM 98 true (bu 100 1 99),aM 98 true (qE 101 4 100 0),aM 98 true (bB 102 0 1 101),aM 98 true (bu 103 1 102),aM 98 true (bd 104 .eql 103 9),e7 105 98 104,ae 2 105] .ret) .skip)))))))) (al [bM 2 true] .ret)))))))
@[simp] def wD:List cr:=[.tmp 2]
def Hj:C:=(al [bM 2 false] (.seq (al [ae 5 0,dT 6 5,cK 7 0] (pN 8 7 6 (.seq (.block 1 (al [e8 9 4 5 7,cP 10 4 9,hv 4 dE,bO 4 4 10] (al [cP 11 4 4,dY 12 271 11,eQ 13 12] (bf 13 (al [bM 2 false] .ret) .skip)))) (.region [bd 14 .add 7 1,ae 7 14])))) (al [bM 2 true] .ret)))
@[simp] def UQ:List cr:=[.tmp 2]
def rL:List (Nat×cm):=[
 (3,⟨1,8,.int .i64,.int .i64 0⟩),
 (5,⟨1,1,.int .u8,.int .u8 0⟩),
 (9,⟨1,16,.str,.str []⟩),
 (35,⟨1,24,.slice 5,.slice 1 .nil []⟩),
 (38,⟨1,24,.slice 40,.slice 4 .nil []⟩),
 (40,⟨4,56,.struct [(0,3),(1,3),(2,9),(3,38)],.agg [.int .i64 0,.int .i64 0,.str [],.slice 4 .nil []]⟩),
 (63,⟨1,24,.slice 65,.slice 4 .nil []⟩),
 (65,⟨4,72,.struct [(0,3),(1,9),(2,38),(3,63)],.agg [.int .i64 0,.str [],.slice 4 .nil [],.slice 4 .nil []]⟩),
 (70,⟨1,24,.slice 9,.slice 1 .nil []⟩),
 (136,⟨1,24,.slice 3,.slice 1 .nil []⟩)]
theorem jX:dJ aS rL=true:=by kernel_rfl
theorem EU:c6 rL zv Bs 1 Tryz.f57=true:=by kernel_rfl
theorem CV:aS.funcs[(57:Nat)]? =some Tryz.f57:=Tryz.func57
theorem Uj:c6 rL Hq UU 2 Tryz.f89=true:=by kernel_rfl
theorem P5:aS.funcs[(89:Nat)]? =some Tryz.f89:=Tryz.func89
theorem T9:c6 rL Hg UN 1 Tryz.f128=true:=by kernel_rfl
theorem PV:aS.funcs[(128:Nat)]? =some Tryz.f128:=Tryz.func128
theorem Uk:c6 rL Hr UW 0 Tryz.f131=true:=by kernel_rfl
theorem P6:aS.funcs[(131:Nat)]? =some Tryz.f131:=Tryz.func131
theorem KU:c6 rL Cp E2 1 Tryz.f155=true:=by kernel_rfl
theorem Ig:aS.funcs[(155:Nat)]? =some Tryz.f155:=Tryz.func155
theorem Ui:c6 rL Hp UT 2 Tryz.f210=true:=by kernel_rfl
theorem P4:aS.funcs[(210:Nat)]? =some Tryz.f210:=Tryz.func210
theorem qp:c6 rL oT wD 1 Tryz.f211=true:=by kernel_rfl
theorem p1:aS.funcs[(211:Nat)]? =some Tryz.f211:=Tryz.func211
theorem Uc:c6 rL Hj UQ 1 Tryz.f253=true:=by kernel_rfl
theorem PY:aS.funcs[(253:Nat)]? =some Tryz.f253:=Tryz.func253
theorem B1(d:Nat)(h:d<10):IntKind.u8.wrap (48+(d:Int))=((48+d:Nat):Int):=by rcases(by omega:d=0\/d=1\/d=2\/d=3\/d=4\/d=5\/d=6\/d=7\/d=8\/d=9)with rfl|rfl|rfl|rfl|rfl|rfl|rfl|rfl|rfl|rfl<;>rfl
theorem HS(d:Nat):lP (48+(d:Int)).toNat=48+lP d:=by rw[show(48+(d:Int)).toNat=48+d by omega];simp
theorem HR(d:Nat)(h:d<10):lP (IntKind.u8.wrap (48+(d:Int))).toNat=48+lP d:=by rw[B1 d h,Int.toNat_natCast];simp
theorem HQ(m:Nat)(h:m<18446744073709551616):(Lib.decDigits m).length<=25:=by
 have:∀(k:Nat) (m:Nat),m<10 ^ (k+1)->(Lib.decDigits m).length<=k+1:=by
  intro k;induction k with
  |zero=>intro m hm;rw[pZ (by simpa using hm)];simp
  |succ k a8=>
   intro m hm;by_cases h:m<10
   ·rw[pZ h];simp
   ·rw[sb Ω,jA];have:=a8 (m/10) (by rw[Nat.pow_succ]at hm;omega);simp;omega
 exact this 24 m Ω
theorem Vc(m:Nat)(h:m<=9223372036854775807):b5 aS 57 [.int .i64 m] (.str (Lib.decDigits m)):=by
 have bN:¬(m:Int)<0:=Ω
 have np:=HQ m Ω;generalize bF:Lib.decDigits m=R at np;refine bT jX CV EU fun aQ=>?_;unfold zv;clear aQ;simp;(with_reducible repeat' first|refine aI ?_|simp[bN]);refine jI (fun(x:Nat×List aC)=>⟨[(0,.int .i64 x.1),(3,.str x.2)],[],[],0,[]⟩) (fun x=>x.1) (fun x=>x.1<=9223372036854775807/\Lib.decDigits x.1++x.2=R) (m,[]) (by simp;exact dp) ⟨h,by simp[bF]⟩ ?_;rintro⟨j,o⟩ ⟨I,aa⟩ _;simp only at I aa;have As:o.length<=25:=by rw[<-aa]at np;simp at np;omega
 have hG:1+o.length<=bX:=by unfold bX;omega
 have gM:o.length+1<=bX:=by unfold bX;omega
 by_cases av:9<j
 ·have aF:(j:Int).tdiv 10=(j/10:Nat):=by rw[Int.tdiv_eq_ediv_of_nonneg Ω];omega
  have hm:(j:Int).tmod 10=(j%10:Nat):=by rw[Int.tmod_eq_emod_of_nonneg Ω];omega
  have ur:=B1 (j%10) Ω;have k0:bm (48+((j%10:Nat):Int)):=by unfold bm;omega
  have hw:jY.wrap ((j/10:Nat):Int)=((j/10:Nat):Int):=ll _ Ω;have DX:jY.wrap ((j%10:Nat):Int)=((j%10:Nat):Int):=ll _ Ω;have yg:jY.wrap ((j:Int)/10)=(j:Int)/10:=ll _ Ω;have yh:lP (IntKind.u8.wrap (48+(j:Int)%10)).toNat=48+lP (j%10):=by have:=HR (j%10) Ω;rwa[Int.natCast_emod]at this
  have jM:(9:Int)<j:=Ω
  rw[sb Ω]at aa;simp[jM,av];(with_reducible repeat' first|refine aI ?_|simp[aF,hm,ur,k0,hw,DX,hG,gM]);refine cF.whl (j/10,lP (48+j%10)::o) (by simp;omega) ⟨by simp;omega,by rw[<-aa];simp⟩ ⟨by simp[fresh,kinL,kin,b1,aG,Pv.look,yg,yh],eR (by simp[fresh,kinL,kin,b1,aG,Pv.look,yg,yh]),eS (by simp[fresh,kinL,kin,ef,aG,Pv.look,yg,yh]),Ψ⟩
 ·have jM:¬(9:Int)<j:=Ω
  have ur:=B1 j Ω;have k0:bm (48+(j:Int)):=by unfold bm;omega
  rw[pZ Ω]at aa;subst aa;simp[jM,av];(with_reducible repeat' first|refine aI ?_|simp[ur,k0,hG,gM]);simp[ca,Bs,ba,bc,a1];exact HS j
theorem Vb:∀m:Nat,1<=m->m<=9223372036854775808->b5 aS 57 [.int .i64 (-(m:Int))] (.str (45::Lib.decDigits m)):=by
 intro m;induction m using Nat.strongRecOn with
 |_ m a8=>
 intro I aa;have bN:0<m:=Ω
 have np:=HQ m Ω;have aF:(-(m:Int)).tdiv 10= -((m/10:Nat):Int):=by rw[Int.neg_tdiv,Int.tdiv_eq_ediv_of_nonneg Ω];omega
 have hm:(-(m:Int)).tmod 10= -((m%10:Nat):Int):=by rw[Int.neg_tmod,Int.tmod_eq_emod_of_nonneg Ω];omega
 have hw:jY.wrap (-((m/10:Nat):Int))= -((m/10:Nat):Int):=ll _ Ω;have DX:jY.wrap (-((m%10:Nat):Int))= -((m%10:Nat):Int):=ll _ Ω;by_cases ao:m<10
 ·have eB:m/10=0:=Ω
  have ur:=B1 m ao;have k0:bm (48+(m:Int)):=by unfold bm;omega
  have q2:(-(m:Int)).tdiv 10=0:=by rw[aF,eB];rfl
  have Sl:jY.wrap 0=0:=rfl;have DP:(48:Int)- -(m:Int)=48+m:=Ω
  rw[pZ ao];refine bT jX CV EU fun aQ=>?_;unfold zv;clear aQ;simp;(with_reducible repeat' first|refine aI ?_|simp[bN,q2,Sl,DP,ur,k0]);simp[ca,Bs,ba,bc,a1];exact HS m
 ·have aT:(-(m:Int)).tdiv 10= -((m:Int)/10):=by rw[aF];simp
  have hB:(-(m:Int)).tmod 10= -((m:Int)%10):=by rw[hm];simp
  have yg:jY.wrap (-((m:Int)/10))= -((m:Int)/10):=ll _ Ω;have yh:jY.wrap (-((m:Int)%10))= -((m:Int)%10):=ll _ Ω;have RX:((-((m:Int)/10))==0)=false:=beq_eq_false_iff_ne.2 Ω;have cU:=a8 (m/10) Ω Ω Ω;rw[Int.natCast_ediv]at cU;have ur:lP (IntKind.u8.wrap (48+(m:Int)%10)).toNat=48+lP (m%10):=by have:=HR (m%10) Ω;rwa[Int.natCast_emod]at this
  have k0:bm (48+(m:Int)%10):=by unfold bm;omega
  have DP:(48:Int)- -((m:Int)%10)=48+(m:Int)%10:=Ω
  rw[sb Ω]at np⊢;simp at np;have hG:(Lib.decDigits (m/10)).length+1+1<=bX:=by unfold bX;omega
  clear aF hm hw DX a8 np;refine bT jX CV EU fun aQ=>?_;unfold zv;clear aQ;simp;(with_reducible repeat' first|refine aI ?_|refine bn cU ?_|refine bo cU ?_|simp[bN,aT,hB,yg,yh,RX,DP,ur,k0,hG]);simp[ca,Bs,ba,bc,a1]
theorem MA(n:Int)(h:bm n):b5 aS 57 [.int .i64 n] (.str (Lib.itoa n)):=by
 unfold bm at h;unfold Lib.itoa;by_cases bN:n<0
 ·rw[if_pos bN];have:=Vb n.natAbs Ω Ω;rwa[show-(n.natAbs:Int)=n by omega]at this
 ·rw[be bN];have:=Vc n.toNat Ω;rwa[show(n.toNat:Int)=n by omega]at this
def Hi:C:=(al [bM 6 false] (al [ae 7 0,ae 8 1,dm 9 .geq 7 8,ae 10 9,b0 10 true 11 0,b0 10 true 12 2,aM 10 true (dm 13 .leq 11 12),e7 14 10 13,ae 6 14] .ret))
@[simp] def Ln:List cr:=[.tmp 6]
def vh:C:=(al [hW 2 0,mY 4 1] (.seq (al [bB 7 0 1 2,bu 8 1 7,bd 9 .eql 8 1] (bf 9 (al [ae 10 1,bB 11 1 1 2,bu 12 1 11,gA 13 212 10 12,ae 4 13] .ret) .skip)) (.seq (al [bB 14 3 1 2,bu 15 1 14,dT 16 15,cK 17 0] (pN 18 17 16 (.seq (.block 1 (al [e8 19 4 15 17,cP 20 4 19,hv 6 dE,bO 4 6 20] (.region [cP 21 4 6,ae 22 1,gA 23 156 21 22,ae 1 23]))) (.region [bd 24 .add 17 1,ae 17 24])))) (al [ae 25 1,ae 4 25] .ret))))
@[simp] def wC:List cr:=[.tmp 4]
def Hf:C:=(al [bM 2 false] (.seq (al [cK 3 0] (.block 0 (.loop (.seq (al [ae 5 3,ae 6 0,a7 7 (.slen (.t 6)),dm 8 .lss 5 7] (bf 8 .skip (.exit 0))) (.seq (.block 1 (al [ae 11 0,ae 12 3,a7 13 (.sidx (.t 11) (.t 12)),a7 14 (.bin .geq false (.t 13) (.c (.int .u8 97))),ae 15 14,b0 15 true 16 0,b0 15 true 17 3,aM 15 true (a7 18 (.sidx (.t 16) (.t 17))),aM 15 true (a7 19 (.bin .leq false (.t 18) (.c (.int .u8 122)))),e7 20 15 19,ae 4 20] (al [ae 21 4,eQ 22 21,ae 23 22,b0 23 true 24 3,aM 23 true (bd 25 .eql 24 0),b0 23 true 26 25,b0 26 false 27 0,b0 26 false 28 3,aM 26 false (a7 29 (.sidx (.t 27) (.t 28))),aM 26 false (a7 30 (.bin .neq false (.t 29) (.c (.int .u8 45)))),b0 26 false 31 30,b0 31 true 32 0,b0 31 true 33 3,aM 31 true (a7 34 (.sidx (.t 32) (.t 33))),aM 31 true (a7 35 (.conv .i64 (.t 34))),aM 31 true (mf 36 127 [.t 35,(cQ 48),(cQ 57)]),aM 31 true (eQ 37 36),aM 26 false (e7 38 31 37),aM 23 true (ds 39 26 38),e7 40 23 39] (bf 40 (al [bM 2 false] .ret) .skip)))) (.region [ae 9 3,bd 10 .add 9 1,ae 3 10])))))) (al [ae 41 0,a7 42 (.slen (.t 41)),mf 43 127 [.t 42,(cQ 1),(cQ 12)],ae 2 43] .ret)))
@[simp] def wB:List cr:=[.tmp 2]
def Hl:C:=(al [mY 4 1] (al [ae 7 0,dT 8 7,ae 5 8] (.seq (.block 0 (.loop (.seq (al [ae 9 5,bd 10 .gtr 9 0,ae 11 10,b0 11 true 12 0,b0 11 true 13 5,aM 11 true (bd 14 .sub 13 1),aM 11 true (e8 15 1 12 14),aM 11 true (bu 16 1 15),b0 11 true 17 1,aM 11 true (dm 18 .geq 16 17),e7 19 11 18] (bf 19 .skip (.exit 0))) (.block 1 (.region [ae 20 5,bd 21 .sub 20 1,ae 5 21]))))) (.seq (al [ae 22 5,ae 23 0,dT 24 23,dm 25 .lss 22 24,ae 26 25,b0 26 true 27 0,b0 26 true 28 5,aM 26 true (e8 29 1 27 28),aM 26 true (bu 30 1 29),b0 26 true 31 1,aM 26 true (dm 32 .eql 30 31),e7 33 26 32] (bf 33 (al [ae 34 0,ae 4 34] .ret) .skip)) (al [h9 35 1 3 [],ae 36 0,ae 37 5,a7 38 (.lsl 1 (.t 36) none (some (.t 37))),nP 39 1 3 35 38,ae 6 39] (al [ae 40 6,ae 41 1,h9 42 1 3 [.t 41],nP 43 1 3 40 42,ae 6 43] (al [ae 44 6,ae 45 0,ae 46 5,a7 47 (.lsl 1 (.t 45) (some (.t 46)) none),nP 48 1 3 44 47,ae 4 48] .ret)))))))
@[simp] def uJ:List cr:=[.tmp 4]
def j1:C:=(al [hW 1 0,bM 2 false] (.seq (al (bB 3 0 1 1::bu 4 1 3::bd 5 .neq 4 1::ae 6 5::aM 6 true (bB 7 0 1 1)::aM 6 true (bu 8 1 7)::aM 6 true (bd 9 .neq 8 3)::e7 10 6 9::ae 11 10::aM 11 true (bB 12 1 1 1)::aM 11 true (bu 13 1 12)::aM 11 true (bd 14 .neq 13 0)::e7 15 11 14::ae 16 15::aM 16 false (bB 17 0 1 1)::aM 16 false (bu 18 1 17)::aM 16 false (bd 19 .neq 18 2)::b0 16 false 20 19::aM 20 true (bB 21 2 1 1)::aM 20 true (bu 22 1 21)::lL 20 true 23 (.bin .neq false (.t 22) (.c (.str [])))::aM 16 false (e7 24 20 23)::ds 25 16 24::ae 26 25::aM 26 false (bB 27 0 1 1)::aM 26 false (bu 28 1 27)::aM 26 false (bd 29 .neq 28 4)::b0 26 false 30 29::aM 30 true (bB 31 3 1 1)::aM 30 true (bu 32 1 31)::aM 30 true (dT 33 32)::aM 30 true (bd 34 .gtr 33 0)::aM 26 false (e7 35 30 34)::ds 36 26 35::[]) (bf 36 (al [bM 2 false] .ret) .skip)) (.seq (al [bB 37 0 1 1,bu 38 1 37] (.block 0 (al [bd 40 .eql 38 0,ae 39 40] (bf 39 (al [bM 2 true] .ret) (al [bd 42 .eql 38 1,ae 41 42] (bf 41 (al [bB 43 1 1 1,bu 44 1 43,mf 45 127 [.t 44,(cQ 0),(cQ 100000)],ae 2 45] .ret) (al [bd 47 .eql 38 2,ae 46 47] (bf 46 (al [bB 48 2 1 1,bu 49 1 48,dY 50 188 49,ae 2 50] .ret) (al [bd 52 .eql 38 3,ae 51 52] (bf 51 (al [bB 53 1 1 1,bu 54 1 53,mf 55 127 [.t 54,(cQ (-1000000000)),(cQ 1000000000)],ae 2 55] .ret) (al [bd 57 .eql 38 4,ae 56 57] (bf 56 (al [bB 58 3 1 1,bu 59 1 58,dT 60 59,bd 61 .eql 60 2,ae 62 61,aM 62 true (bB 63 3 1 1),aM 62 true (bu 64 1 63),aM 62 true (qE 65 4 64 0),aM 62 true (cP 66 4 65),aM 62 true (dY 67 270 66),e7 68 62 67,ae 69 68,aM 69 true (bB 70 3 1 1),aM 69 true (bu 71 1 70),aM 69 true (qE 72 4 71 1),aM 69 true (cP 73 4 72),aM 69 true (dY 74 270 73),e7 75 69 74,ae 2 75] .ret) .skip)))))))))))) (al [bM 2 false] .ret))))
@[simp] def jU:List cr:=[.tmp 2]
def Hh:C:=(al [hW 1 0,bM 2 false] (al [cP 3 4 1,mf 4 283 [.t 3,(cQ 5000)],bd 5 .leq 4 5000,ae 6 5,aM 6 true (cP 7 4 1),aM 6 true (dY 8 270 7),e7 9 6 8,ae 2 9] .ret))
@[simp] def UO:List cr:=[.tmp 2]
def Hk:C:=(al [hW 2 0,cK 4 0] (al [cK 5 1] (.seq (al [bB 8 3 1 2,bu 9 1 8,dT 10 9,cK 11 0] (pN 12 11 10 (.seq (.block 1 (al [e8 13 4 9 11,cP 14 4 13,hv 7 dE,bO 4 7 14] (.seq (al [ae 15 5,ae 16 1,dm 17 .gtr 15 16] (bf 17 (al [ae 18 5,ae 4 18] .ret) .skip)) (.region [ae 19 5,cP 20 4 7,ae 21 1,ae 22 5,dm 23 .sub 21 22,gA 24 283 20 23,dm 25 .add 19 24,ae 5 25])))) (.region [bd 26 .add 11 1,ae 11 26])))) (al [ae 27 5,ae 4 27] .ret))))
@[simp] def E4:List cr:=[.tmp 4]
def tq:List (Nat×cm):=[
 (3,⟨1,8,.int .i64,.int .i64 0⟩),
 (5,⟨1,1,.int .u8,.int .u8 0⟩),
 (9,⟨1,16,.str,.str []⟩),
 (38,⟨1,24,.slice 40,.slice 4 .nil []⟩),
 (40,⟨4,56,.struct [(0,3),(1,3),(2,9),(3,38)],.agg [.int .i64 0,.int .i64 0,.str [],.slice 4 .nil []]⟩),
 (136,⟨1,24,.slice 3,.slice 1 .nil []⟩)]
theorem hM:dJ aS tq=true:=by kernel_rfl
theorem Ub:c6 tq Hi Ln 3 Tryz.f127=true:=by kernel_rfl
theorem PX:aS.funcs[(127:Nat)]? =some Tryz.f127:=Tryz.func127
theorem yz:c6 tq vh wC 2 Tryz.f156=true:=by kernel_rfl
theorem xA:aS.funcs[(156:Nat)]? =some Tryz.f156:=Tryz.func156
theorem T8:c6 tq Hf wB 1 Tryz.f188=true:=by kernel_rfl
theorem PU:aS.funcs[(188:Nat)]? =some Tryz.f188:=Tryz.func188
theorem Ue:c6 tq Hl uJ 2 Tryz.f212=true:=by kernel_rfl
theorem P0:aS.funcs[(212:Nat)]? =some Tryz.f212:=Tryz.func212
theorem kJ:c6 tq j1 jU 1 Tryz.f270=true:=by kernel_rfl
theorem kr:aS.funcs[(270:Nat)]? =some Tryz.f270:=Tryz.func270
theorem Ua:c6 tq Hh UO 1 Tryz.f271=true:=by kernel_rfl
theorem PW:aS.funcs[(271:Nat)]? =some Tryz.f271:=Tryz.func271
theorem Ud:c6 tq Hk E4 2 Tryz.f283=true:=by kernel_rfl
theorem PZ:aS.funcs[(283:Nat)]? =some Tryz.f283:=Tryz.func283
mutual
def j2:aU->Int->Int
 | .mk _ _ _ args,m=>cntLS args 1 m
def cntLS:List aU->Int->Int->Int
 |[],n,_=>n
 |x::xs,n,m=>if m<n then n else cntLS xs (n+j2 x (m-n)) m
end
mutual
theorem Cx:∀(t:aU) (m:Int),0<=m->1<=j2 t m/\j2 t m<=m+1
 | .mk _ _ _ args,m,h=>by simp only[j2];exact HH args 1 m h Ω Ω
theorem HH:∀(l:List aU) (n m:Int),0<=m->1<=n->n<=m+1->1<=cntLS l n m/\cntLS l n m<=m+1
 |[],n,m,_,I,aa=>by simp only[cntLS];exact⟨I,aa⟩
 |x::xs,n,m,bN,I,aa=>by
  simp only[cntLS];split
  ·exact⟨I,aa⟩
  ·have:=Cx x (m-n) Ω;exact HH xs _ m bN Ω Ω
end
theorem Cw:∀(t:T) (m:Int),0<=m->(j2 t.tm m<=m↔(t.size:Int)<=m)/\((t.size:Int)<=m->j2 t.tm m=t.size)
 | .pair a b,m,h=>by
  have bL:=T.size_pos a;have af:=T.size_pos b;simp only[T.tm,j2,cntLS,T.size];by_cases I:m<1
  ·rw[if_pos I];exact⟨Ω,fun h=>Ω⟩
  ·rw[be I];obtain⟨bt,a2⟩:=Cw a (m-1) Ω;have a3:=Cx a.tm (m-1) Ω;by_cases aa:(a.size:Int)<=m-1
   ·have e:=a2 aa;rw[e];by_cases ak:m<1+(a.size:Int)
    ·omega
    ·rw[be ak];obtain⟨bS,bY⟩:=Cw b (m-(1+a.size)) Ω;refine⟨Ω,fun h=>?_⟩;rw[bY Ω];omega
   ·have:¬j2 a.tm (m-1)<=m-1:=fun h=>aa (bt.1 h);rw[if_pos Ω];exact⟨Ω,fun h=>Ω⟩
 | .nil,m,h=>by simp[T.tm,j2,cntLS,T.size]
 | .var _,m,h=>by simp[T.tm,j2,cntLS,T.size]
 | .sym _,m,h=>by simp[T.tm,j2,cntLS,T.size]
 | .num _,m,h=>by simp[T.tm,j2,cntLS,T.size]
theorem N6(t:aU)(m:Int):j2 t m=cntLS t.args 1 m:=by cases t;rfl
theorem V2(t:aU):∀m:Int,0<=m->m<=1000000->b5 aS 283 [enc t,.int .i64 m] (.int .i64 (j2 t m)):=by
 suffices H:∀(k:Nat) (t:aU),t.sz<=k->∀m:Int,0<=m->m<=1000000->b5 aS 283 [enc t,.int .i64 m] (.int .i64 (j2 t m))from H _ t (cE _)
 intro k;induction k with
 |zero=>intro t au;cases t;simp[aU.sz]at au
 |succ k a8=>
  intro t au m bN I;refine bT hM PZ Ud fun aQ=>?_;unfold Hk;have hg:t.args.length<=68719476736:=by rw[vn]at aQ;simp[jf,jE,jg,bX]at aQ;omega
  simp;refine vp [1,9,10] (fun i (n:Int)=>[(5,.int .i64 n),(11,.int .i64 i)]) t.args.length (fun i n=>(1<=n/\n<=m+1)/\cntLS (t.args.drop i) n m=j2 t m) 1 dp ⟨Ω,by simp[N6]⟩ (fun n av _=>?_) (fun i n aB av _=>?_)
  ·simp;(with_reducible repeat' first|refine aI ?_|simp);simp[ca,E4,ba,bc,a1];have:=av.2;simp[cntLS]at this;exact this
  ·obtain⟨⟨x0,oq⟩,av⟩:=av;obtain⟨x,ad,lE⟩:=hy aB;have aF:t.args.drop i=x::t.args.drop (i+1):=by rw[pR aB,lE]
   have cO:x.sz<=k:=by have:=Mb (gB ad);omega
   rw[aF]at av;simp only[cntLS]at av;simp[aB,lE];by_cases af:m<n
   ·rw[if_pos af]at av;(with_reducible repeat' first|refine aI ?_|simp[af]);simp[ca,E4,ba,bc,a1];exact av
   ·rw[be af]at av;have az:=Cx x (m-n) Ω;((with_reducible repeat' first|refine aI ?_|refine bn (a8 x cO (m-n) Ω Ω) ?_|refine bo (a8 x cO (m-n) Ω Ω) ?_|simp[af]|((first|apply dy|apply dC|apply dB)<;>intro h<;>try simp at h))<;>(try exact ep));exact cF.rng (n+j2 x (m-n)) aB ⟨Ω,av⟩ dp
end
end Go.Proofs.YtlnndmgfngfeiaaGreatDoor
