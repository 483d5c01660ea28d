/- Contracts: Differ, EntailsEqual. -/
import Derived.Test.YtohaalphocaebaaGreatProg
import Derived.Test.YtohaalphocaebaaGreatX4
set_option linter.all false
set_option maxHeartbeats 4000000
open Bool renaming and_eq_true→cx,eq_iff_iff→qt,false_eq_true→gC,not_eq_true'→rk,or_eq_true→lY
open Go renaming Program→cA,TypeId→gL
open Go.Extern.ReflectliteSwapper renaming swap→Es
open Go.Extern.Rtype renaming kind→YE
open Go.Op renaming bytesLess→hB
open Go.Proofs.Tryz renaming prog→az
open Go.Result renaming andThen_ok→fQ
open Go.Sem renaming run_bind→fI,run_pure→gq
open Int renaming natCast_nonneg→rn
open List renaming all_eq_true→ig,cons_append→bR,drop_eq_getElem_cons→k9,getElem?_eq_getElem→cb,getElem?_eq_none→qu,getElem?_eq_some_iff→fU,getElem_of_mem→nG,length_append→pJ,length_cons→oa,length_drop→sC,map_cons→gP,map_nil→mO,mem_append→iH,mem_cons→fA,mem_cons_of_mem→lA,mem_filter→ha,mem_map→hJ,mem_of_getElem?→fR,mem_singleton→qv,nil_append→bY,pairwise_iff_getElem→pK,take→oZ,take_length→nH,take_of_length_le→hb
open List.Nodup renaming length_le_of_subset→Iq
open List.Pairwise renaming filter→vv
open List.cons renaming injEq→y7
open Nat renaming le_refl→ff,le_trans→jR,strongRecOn→qw
open Option renaming bind_eq_some_iff→h6,bind_none→pM,bind_some→e6,getD_none→jq,getD_some→jr,isSome_iff_exists→fB,isSome_none→ja,isSome_some→nI,map_eq_some_iff→gr,map_some→kN
open Option.some renaming inj→e3,injEq→dw
open _root_ renaming False→ep,UInt8→cQ,beq_iff_eq→dK,congrArg→eU,decide_eq_false→lB,decide_eq_false_iff_not→hK,decide_eq_true→kp,decide_eq_true_eq→fo
namespace Go.Proofs.YtohaalphocaebaaGreat
open Go Go.RowKit Go.Lib Go.Pv Go.Proofs
theorem Zz(n:Nat)(h:n<1099511627776):Lib.bitLen n≤1000:=by
 have:∀f x,bitLenAux f x≤f:=by
  intro f;induction f with
  |zero=>intro x;simp[bitLenAux]
  |succ f bP=>
   intro x;rw[bitLenAux];split
   ·omega
   ·have:=bP (x/2);omega
 have:=this 64 n;unfold Lib.bitLen;omega
theorem ajL{α:Type}[Inhabited α]{lt:α→α→Bool}{l:List α}{ca:Array α}(h:Sort.PermIn 0 l.length l.toArray ca)(af:Sort.SortedIn lt 0 l.length ca):ca.toList.Perm l∧ca.toList.Pairwise fun x y=>lt y x=false:=by
 obtain⟨k7,_,z3⟩:=h;have et:ca.size=l.length:=by simpa using k7
 have ai:ca.extract 0 l.length=ca:=by rw[←et];simp
 have ax:l.toArray.extract 0 l.length=l.toArray:=by simp
 rw[ai,ax]at z3;refine⟨by simpa using z3,?_⟩;rw[pK];intro i j hi ag l8;have J:=af i j (by omega) l8 (by simpa[et]using ag);have s8:i<ca.size:=by simpa using hi
 have ju:j<ca.size:=by simpa using ag
 rw[getElem!_pos ca i s8,getElem!_pos ca j ju]at J;simpa using J
section
variable {α:Type} {e:α→ah} (he:∀S x,aH S (e x)) {K B el sz:Nat}
include he
theorem R9[Inhabited α](Sy:K≠901∧K≠902)(Sw:B≠901∧B≠902)(t:gL)(i ei:TypeInfo)(hi:az.info? t=some i)(aE:i.desc= .slice el)(CO:az.packed t=false)(s9:az.info? el=some ei)(ke:Nat)(uI:∀w,(YE el).run az w= .ok ke w)(sW:∀n,2≤n→swapperK n ei ke=9)
  (g:Nat) (lt:α→α→Bool) (bm:Sort.SWO lt) (l:List α) (aq:l.length≤68719476736)
  (xZ:∀l':List α,l'.length=l.length→∀(i j:Nat) x y,l'[i]? =some x→l'[j]? =some y→bC az g [.int .i64 i,.int .i64 j,.ptr (.obj B) 0] (dO e K B el sz l') fun r s'=>r= .bool (lt x y)∧s'=dO e K B el sz l')
  (Ad:∀l':List α,l'.length=l.length→∀i j:Nat,i<l.length→j<l.length→bC az 257 [.int .i64 i,.int .i64 j,.row sz (.obj K) l.length,.cst (typeHandle az el)] (dO e K B el sz l') fun r s'=>r= .tuple []∧s'=dO e K B el sz (hn l' i j)):
  bC az 126 [.iface t (.row sz (.obj K) l.length),.func g [.ptr (.obj B) 0]] (dO e K B el sz l) fun r s'=>r= .tuple []∧∃l',s'=dO e K B el sz l'∧l'.Perm l∧l'.Pairwise fun x y=>lt y x=false:=by
 have Cy:az.funcs.findIdx? (·.name== "internal/reflectlite" ++ ".Swapper$" ++toString 1)=some 249:=by kernel_rfl
 have uE:az.funcs.findIdx? (·.name== "internal/reflectlite" ++ ".Swapper$" ++toString 2)=some 250:=by kernel_rfl
 have Ku:az.funcs.findIdx? (·.name== "internal/reflectlite" ++ ".Swapper$" ++toString 9)=some 257:=by kernel_rfl
 have x6:sc (dO e K B el sz) 901:=fun l=>⟨by simp[dO,Pv.look,Sw.1],by simp[dO,Pv.look,Sy.1]⟩;have x7:sc (dO e K B el sz) 902:=fun l=>⟨by simp[dO,Pv.look,Sw.2],by simp[dO,Pv.look,Sy.2]⟩;have fD:=Zz l.length (by omega);have KZ:∃f b1,az.funcs.findIdx? (·.name== "internal/reflectlite" ++ ".Swapper$" ++toString (swapperK l.length ei ke))=some f∧(b1=(if swapperK l.length ei ke≤2 then []else [ah.row sz (.obj K) l.length,.cst (typeHandle az el)]))∧
   bC az 210 [eY g f [.ptr (.obj B) 0] b1,.int .i64 0,.int .i64 l.length,.int .i64 (Lib.bitLen l.length)] (dO e K B el sz l) fun r s'=>r= .tuple []∧∃l',s'=dO e K B el sz l'∧l'.Perm l∧l'.Pairwise fun x y=>lt y x=false:=by
  have dT:=fun l'=>xl (K:=K) (B:=B) (el:=el) (sz:=sz) he l';have key:∀{b5:Nat} {b1:List ah},e7 (dO e K B el sz) l.length g b5 [.ptr (.obj B) 0] b1 lt→bC az 210 [eY g b5 [.ptr (.obj B) 0] b1,.int .i64 0,.int .i64 l.length,.int .i64 (Lib.bitLen l.length)] (dO e K B el sz l) fun r s'=>r= .tuple []∧∃l',s'=dO e K B el sz l'∧l'.Perm l∧l'.Pairwise fun x y=>lt y x=false:=by intro b5 b1 H;have:=adE H x6 x7 bm l.length l.toArray (by simp) 0 l.length (Lib.bitLen l.length) (by omega) (by omega) (ff _) (by omega) (.inl rfl);simp only[Int.ofNat_zero,Int.natCast_zero,Int.cast_ofNat_Int]at this;refine bC.mono this ?_;rintro r s' ⟨aV,ca,bf,bI,cN⟩;obtain⟨cC,da⟩:=ajL bI cN;exact⟨aV,ca.toList,bf,cC,da⟩
  rcases(by omega:l.length=0∨l.length=1∨2≤l.length)with bD|J|U
  ·refine⟨249,[],by rw[bD];exact Cy,by rw[bD];rfl,key ⟨dT,fun jY gX _ _=>xm jY gX,fun l' _=>by simp[aN,aH,inObs,dO,Pv.look],fun l' _=>by simp[aN],by simp[dU,di],rfl,aq,fun l' h=>xZ l' h,fun l' _ U i j hi=>by omega⟩⟩
  ·refine⟨250,[],by rw[J];exact uE,by rw[J];rfl,key ⟨dT,fun jY gX _ _=>xm jY gX,fun l' _=>by simp[aN,aH,inObs,dO,Pv.look],fun l' _=>by simp[aN],by simp[dU,di],rfl,aq,fun l' h=>xZ l' h,fun l' _ U i j hi ag=>by omega⟩⟩
  ·refine⟨257,_,by rw[sW _ U];exact Ku,rfl,?_⟩;rw[sW _ U];simp only[show¬((9:Nat)≤2)from by decide,if_false];exact key ⟨dT,fun jY gX _ _=>xm jY gX,fun l' _=>by simp[aN,aH,inObs,dO,Pv.look],fun l' _=>by simp[aN,aH,inObs,dO,Pv.look],by simp[dU,di],by simp[dU,di],aq,fun l' h=>xZ l' h,fun l' h _ i j hi ag=>Ad l' h i j hi ag⟩
 obtain⟨f,b1,aO,KV,c8⟩:=KZ;intro w ν a7 aR ab aK;have oF:=cX.start (xl he l).obj aR ab aK;have KQ:=aK;simp only[cK,a6]at aK;obtain⟨v0,vs1,hv0,⟨u,rfl,⟨b,cap,rfl⟩,gV,n',fc,ai,ax,bn⟩,v1,vs2,hv1,⟨q3,rfl,qT⟩,rfl⟩:=aK;have kC:a7= #[.iface t (.slice (some ⟨b,0,none⟩) l.length cap),.func (.func g) #[] q3]:=by apply Array.ext';rw[hv0,hv1]
 subst kC;have qP:∃fn,az.funcs[(126:Nat)]? =some fn∧fn.body.isSome=true∧(fn.name== "runtime.NumGoroutine")=false:=⟨_,Tryz.func126,by kernel_rfl,by kernel_rfl⟩;refine .inl ⟨qP,?_⟩;obtain⟨dS,kg⟩:∃dS,dS=sliceWorld az Tryz.lays6_ren t (some ⟨b,0,none⟩) l.length cap w:=⟨_,rfl⟩;have jU:w.grownBy dS none:=by rw[kg];unfold sliceWorld;exact Ss _ _ _
 have KR:=oF.grown jU;have kW:lD w ν dS ν:=⟨fun b o ba=>⟨ba,E9 jU (aR.alt b o ba)⟩,fun _ _ _ h=>h,fun _ n u _ h=>⟨n,u,h,.inl ⟨rfl,rfl⟩⟩,fun b o ba=>w1 (jU.block b (aR.alt b o ba) (by simp)),fun _ _ _ _ h=>h⟩;have oA:Pv.Good (fl ν (dO e K B el sz l)) dS ν (dO e K B el sz l).b (dO e K B el sz l).e:=KR.good.prMono fun bl _ h=>h;have lp:=HB kW KQ;simp only[cK]at lp;obtain⟨a0,Zp,sX,CQ,bt,Zq,ll,afy,rfl⟩:=lp;simp at sX;obtain⟨rfl,rfl⟩:=sX;simp at ll;subst ll;have KU:a6 dS ν (.row sz (.obj K) l.length) (.slice (some ⟨b,0,none⟩) l.length cap):=by simp only[a6]at CQ;obtain⟨u,hu,h⟩:=CQ;simp at hu;obtain⟨_,rfl⟩:=hu;simp only[a6];exact h
 have qV:cK dS ν b1 (sliceBound az el ei ke (some ⟨b,0,none⟩) l.length cap).toList:=by
  unfold sliceBound;rw[KV];split
  ·simp[cK]
  ·simp only[cK];exact⟨_,_,rfl,KU,_,_,rfl,by simp[a6],rfl⟩
 have uz:cK dS ν [eY g f [.ptr (.obj B) 0] b1,.int .i64 0,.int .i64 l.length,.int .i64 (Lib.bitLen l.length)] (#[.agg #[.func (.func g) #[] q3,.func (.func f) #[] (sliceBound az el ei ke (some ⟨b,0,none⟩) l.length cap)],.int .i64 0,.int .i64 l.length,.int .i64 (Lib.bitLen l.length)]:Array Value).toList:=by simp only[cK,eY];refine⟨_,_,rfl,?_,_,_,rfl,by simp[a6],_,_,rfl,by simp[a6],_,_,rfl,by simp[a6],rfl⟩;simp only[a6,dg];exact⟨_,rfl,_,_,rfl,⟨⟨q3,rfl,HB kW qT⟩,rfl⟩,_,_,rfl,⟨⟨_,rfl,qV⟩,rfl⟩,rfl⟩
 have Kr:=c8 dS ν _ oA ab uz;have Fi:∀args w,(callFunc 210 args).run az w= .ok (.enter 210 args) w:=enters_of Tryz.func210 (by kernel_rfl) rfl;rcases Kr with⟨_,ar⟩|⟨v,w',ar,_⟩
 ·have KF:=Any.sort_Slice_of_pdq Tryz.lays6 t el i ei hi aE CO s9 ke uI (some ⟨b,0,none⟩) l.length cap (by omega) f aO (.func g) #[] q3 w
   (fun w'=> ∃s' bg,(∃l',s'=dO e K B el sz l'∧l'.Perm l∧l'.Pairwise fun x y=>lt y x=false)∧Pv.Good (fun bl=>fl ν (dO e K B el sz l) bl∨dS.heap.size≤bl) w' bg s'.b s'.e∧ov bg s'∧iE s'∧pN ⟨dS,ν,fl ν (dO e K B el sz l),0,cZ (dO e K B el sz l)⟩ w' bg) (by
    rw[←kg];refine ar.mono ?_;rintro e w' ⟨v,r,s',bg,rfl,⟨rfl,bu⟩,wh,a1,b2,dc,dX⟩;simp only[a6,cK]at wh;obtain⟨us,rfl,qZ⟩:=wh;have:us= #[]:=by apply Array.ext';simpa using qZ
    subst this;exact⟨rfl,s',bg,bu,a1,b2,dc,dX⟩)
  refine KF.mono ?_;rintro e w' ⟨rfl,s',bg,⟨l',rfl,F9,Ac⟩,a1,b2,dc,dX⟩;refine⟨.tuple #[],.tuple [],_,bg,rfl,⟨rfl,l',rfl,F9,Ac⟩,by simp[a6,cK],a1.prMono fun bl h _=>?_,b2,dc,⟨dX.os.trans jU.os,dX.tape.trans jU.tape,dX.output.trans jU.output,jR jU.size dX.size,fun k ad hm=>?_,fun b o ba=>?_,fun b o ba=>?_,dX.obj,dX.obn,dX.row,dX.obr,dX.trd,fun k j b ae=>⟨(dX.trb k j b ae).1.imp id (fun h=>jR jU.size h),(dX.trb k j b ae).2⟩,dX.trn,fun b o ba=>(dX.sh b o ba).trans (kW.sh b o ba)⟩⟩
  ·rcases h with h|h
   ·exact .inl h
   ·exact .inr (jR jU.size h)
  ·rw[dX.block k (Nat.lt_of_lt_of_le ad jU.size) hm];exact jU.block k ad (by simp)
  ·obtain⟨aS,bc⟩:=dX.keep b o ba;exact⟨aS,bc.trans (kW.A b o ba).2⟩
  ·rcases dX.fresh b o ba with h|h|h
   ·exact .inl h
   ·exact .inr (.inl h)
   ·exact .inr (.inr (jR jU.size h))
 ·rw[Fi]at ar;cases ar
end
end Go.Proofs.YtohaalphocaebaaGreat
namespace Go.Proofs.YtohaalphocaebaaGreat
open Go Go.Pv Go.Lib
abbrev xk(l:List bd):cI:=dO bd.e 814 815 106 2 l
theorem Vb:∀(S:aJ→Prop) (x:bd),aH S x.e:=fun S x=>by simp
theorem Iy(l:List bd):dL (xk l):=xl Vb l
theorem ag6:Sort.SWO (hR e5):=by
 refine⟨fun x=>?_,fun x y z J U=>?_,fun x y z J U=>?_⟩
 ·simp only[hR,hK];have:=k0.refl x;omega
 ·simp only[hR,fo]at*;exact k0.ltr J (by omega)
 ·simp only[hR,hK]at*;have ai:=k0.neg x y;have ax:=k0.neg y z;have bn:=k0.neg x z;have:=k0.tr z y x (by omega) (by omega);omega
theorem adf(l:List bd)(i j:Nat)(x y:bd)(aq:l.length≤68719476736)(hi:l[i]? =some x)(ag:l[j]? =some y):bC az 131 [.int .i64 i,.int .i64 j,.ptr (.obj 815) 0] (xk l) fun r s'=>r= .bool (hR e5 x y)∧s'=xk l:=by have af:=Iy l;obtain⟨l7,hG⟩:=fU.1 hi;obtain⟨ec,oB⟩:=fU.1 ag;unfold xk dO at af⊢;refine bC.mk mixed j2 aa5 ahQ (by simp) af.obj fun aP cF=>?_;unfold O6;simp[l7,ec,hG,oB];(with_reducible repeat' first|refine aj ?_|refine aB (Bz _ _) ?_|refine aC (Bz _ _) ?_|simp[l7,ec,hG,oB]);refine cJ.at _ (.inl rfl) af (Same.refl _) aG aG ?_;simp[cP,VY,aT,aW,aQ]
noncomputable def Tryz.maT:TypeInfo:=(az.info? 26).get (by kernel_rfl)
noncomputable def Tryz.maE:TypeInfo:=(az.info? 106).get (by kernel_rfl)
theorem Tryz.maK(n:Nat)(U:2≤n):Lib.swapperK n Tryz.maE 25=9:=by
 have a:Tryz.maE.hasPointers=true:=by kernel_rfl
 have b:Tryz.maE.bytes=24:=by kernel_rfl
 have c:(n==0)=false:=by simp;omega
 have d:(n==1)=false:=by simp;omega
 simp[Lib.swapperK,a,b,c,d]
theorem UL{α β:Type}(f:α→β)(l:List α)(i j:Nat):(hn l i j).map f=hn (l.map f) i j:=by
 unfold hn;simp only[List.getElem?_map];cases l[i]? with
 |none=>simp
 |some x=>
  cases l[j]? with
  |none=>simp
  |some y=>simp[List.map_set]
theorem adQ(l:List bd)(aq:l.length≤68719476736):bC az 126 [.iface 26 (.row 2 (.obj 814) l.length),.func 131 [.ptr (.obj 815) 0]] (xk l) fun r s'=>r= .tuple []∧s'=xk (n1 e5 l):=by
 refine(R9 Vb (K:=814) (B:=815) (sz:=2) (by decide) (by decide) 26 Tryz.maT Tryz.maE (by kernel_rfl) (by kernel_rfl) (by kernel_rfl) (by kernel_rfl) 25 (fun _=>by kernel_rfl) Tryz.maK 131 (hR e5) ag6 l aq (fun l' h i j x y hi ag=>adf l' i j x y (by omega) hi ag) (fun l' h i j hi ag=>?_)).mono ?_
 ·have:=Sk (P:=az) false 257 (fun args W=>run_callFunc_extern Tryz.func257 (by kernel_rfl) (by kernel_rfl) (by kernel_rfl) (e:=Es false) (by kernel_rfl) args W)
   106 Tryz.maE (by kernel_rfl) (fun _=>by kernel_rfl) (Iy l') (K:=814) (n:=l.length) (el:=106) (sz:=2) (by kernel_rfl) (xs:=l'.map bd.e) (by simp[dO,Pv.look,h]) i j hi ag
  refine this.mono ?_;rintro r s' ⟨rfl,rfl⟩;refine⟨rfl,?_⟩;simp[dO,cu,UL,h]
 ·rintro r s' ⟨rfl,l',rfl,J,U⟩;exact⟨rfl,by rw[Xq k0 J U]⟩
def nS(l:List bd):List ah:= .hdm l.length (List.range l.length)::l.flatMap fun m=>[m.e,.bool true]
def lb(m:bd)(l:List bd):List bd:=if m∈l then l else l++[m]
theorem agH(a b:bd):tq (.a [false,true]) a.e b.e=some (decide (a=b)):=by simp only[bd.e,tq,j8,if_true,kN];congr 1;rw[qt];cases a;cases b;simp
theorem agI(a:bd):uR (.a [false,true]) a.e=true:=by simp[bd.e,uR,j8,-IJ]
theorem Vf(m:bd):∀l:List bd,u4 (.a [false,true]) m.e (.bool true) (l.flatMap fun m=>[m.e,.bool true])=some (if m∈l then some (l.flatMap fun m=>[m.e,.bool true])else none)
 |[]=>rfl
 |a::l=>by
  simp only[List.flatMap_cons,bR,bY,u4,agH];by_cases h:m=a
  ·subst h;simp
  ·have cr:decide (m=a)=false:=by simp[h]
   rw[cr];simp only[Vf m l];by_cases hm:m∈l
   ·simp[hm]
   ·simp[hm,h]
@[simp] theorem aqb(m:bd)(l:List bd):oO (.a [false,true]) m.e (.bool true) (nS l)=some (nS (lb m l)):=by
 simp only[nS,oO,agI,Bool.true_eq_false,reduceCtorEq,if_false,Vf,lb];by_cases h:m∈l
 ·simp[h]
 ·simp[h,List.range_succ]
end Go.Proofs.YtohaalphocaebaaGreat
namespace Go.Proofs.YtohaalphocaebaaGreat
open Go Go.Pv
@[simp] theorem AA(S:aJ→Prop)(l:List bd):aN S (nS l)=True:=by
 refine eq_true ?_;unfold nS;have:∀l:List bd,aN S (l.flatMap fun m=>[m.e,ah.bool true]):=fun l=>by
  induction l with
  |nil=>simp[aN]
  |cons x r bP=>simp only[List.flatMap_cons,bR,bY,aN,agM,aH,true_and];exact bP
 simp only[aN,aH,true_and];exact this l
@[simp] theorem apT:[ah.hdm 0 []]=nS []:=rfl
def og(tag:List cQ)(l:List bd):cI:=⟨[(.obj 811,[.str tag]),(.obj 812,nS l),(.obj 813,[.gmap (.obj 812)])],[]⟩
theorem EB(tag:List cQ)(l:List bd):dL (og tag l):=by unfold og;refine dL.of ⟨by intro m;simp[Pv.look],by intro m;simp[Pv.look]⟩ (by simp[aN,aH,inObs,Pv.look]) (by simp)
theorem Iz(tag:List cQ)(l l':List bd):Same (og tag l) (og tag l'):=Same.keys (by simp[og]) (by simp[og])
theorem ade(tag:List cQ)(v:Int)(l:List bd):bC az 130 [.int .i64 v,.ptr (.obj 813) 0,.ptr (.obj 811) 0] (og tag l) fun r s'=>r= .tuple []∧s'=og tag (lb ⟨v,tag⟩ l):=by have af:=EB tag l;have fM:=EB tag (lb ⟨v,tag⟩ l);have eF:=Iz tag l (lb ⟨v,tag⟩ l);unfold og at af fM eF⊢;refine bC.mk mixed j2 aa4 ahP (by simp) af.obj fun aP cF=>?_;unfold O5;simp;refine cJ.at _ (.inr rfl) fM eF aG aG ?_;simp[cP,VX,aT,aW,aQ]
end Go.Proofs.YtohaalphocaebaaGreat
namespace Go.Proofs.YtohaalphocaebaaGreat
open Go Go.Pv Go.Lib
abbrev vx(l:List bX):cI:=dO bX.e 803 804 104 2 l
theorem Ug:∀(S:aJ→Prop) (x:bX),aH S x.e:=fun S x=>by simp
theorem Ez(l:List bX):dL (vx l):=xl Ug l
def wF(x y:bX):Bool:=decide (x.v<y.v)
theorem ag5:Sort.SWO wF:=⟨fun x=>by simp[wF],fun x y z J U=>by simp[wF]at*;omega,fun x y z J U=>by simp[wF]at*;omega⟩
theorem adg(l:List bX)(i j:Nat)(x y:bX)(aq:l.length≤68719476736)(hi:l[i]? =some x)(ag:l[j]? =some y):bC az 127 [.int .i64 i,.int .i64 j,.ptr (.obj 804) 0] (vx l) fun r s'=>r= .bool (wF x y)∧s'=vx l:=by have af:=Ez l;obtain⟨l7,hG⟩:=fU.1 hi;obtain⟨ec,oB⟩:=fU.1 ag;unfold vx dO at af⊢;refine bC.mk mixed j2 aa6 ahR (by simp) af.obj fun aP cF=>?_;unfold O7;simp[l7,ec,hG,oB];(with_reducible repeat' first|refine aj ?_|simp);refine cJ.at _ (.inl rfl) af (Same.refl _) aG aG ?_;simp[cP,VZ,aT,aW,aQ,wF]
noncomputable def Tryz.vkT:TypeInfo:=(az.info? 25).get (by kernel_rfl)
noncomputable def Tryz.vkE:TypeInfo:=(az.info? 104).get (by kernel_rfl)
theorem Tryz.vkK(n:Nat)(U:2≤n):Lib.swapperK n Tryz.vkE 25=9:=by
 have a:Tryz.vkE.hasPointers=false:=by kernel_rfl
 have b:Tryz.vkE.bytes=16:=by kernel_rfl
 have c:(n==0)=false:=by simp;omega
 have d:(n==1)=false:=by simp;omega
 simp[Lib.swapperK,a,b,c,d]
theorem ag4{α β:Type}(f:α→β)(l:List α)(i j:Nat):(hn l i j).map f=hn (l.map f) i j:=by
 unfold hn;simp only[List.getElem?_map];cases l[i]? with
 |none=>simp
 |some x=>
  cases l[j]? with
  |none=>simp
  |some y=>simp[List.map_set]
theorem Sj(l:List bX)(aq:l.length≤68719476736):bC az 126 [.iface 25 (.row 2 (.obj 803) l.length),.func 127 [.ptr (.obj 804) 0]] (vx l) fun r s'=>r= .tuple []∧∃l',s'=vx l'∧l'.Perm l∧l'.Pairwise fun x y=>wF y x=false:=by
 refine(R9 Ug (K:=803) (B:=804) (sz:=2) (by decide) (by decide) 25 Tryz.vkT Tryz.vkE (by kernel_rfl) (by kernel_rfl) (by kernel_rfl) (by kernel_rfl) 25 (fun _=>by kernel_rfl) Tryz.vkK 127 wF ag5 l aq (fun l' h i j x y hi ag=>adg l' i j x y (by omega) hi ag) (fun l' h i j hi ag=>?_));have:=Sk (P:=az) false 257 (fun args W=>run_callFunc_extern Tryz.func257 (by kernel_rfl) (by kernel_rfl) (by kernel_rfl) (e:=Es false) (by kernel_rfl) args W)
  104 Tryz.vkE (by kernel_rfl) (fun _=>by kernel_rfl) (Ez l') (K:=803) (n:=l.length) (el:=104) (sz:=2) (by kernel_rfl) (xs:=l'.map bX.e) (by simp[dO,Pv.look,h]) i j hi ag
 refine this.mono ?_;rintro r s' ⟨rfl,rfl⟩;refine⟨rfl,?_⟩;simp[dO,cu,ag4,h]
end Go.Proofs.YtohaalphocaebaaGreat
namespace Go.Proofs.YtohaalphocaebaaGreat
open Go Go.Pv
def fO(o:Option (List bX)):ah:= .tuple [.slice 2 .no ((o.getD []).map bX.e),.bool o.isSome]
@[simp] theorem apC(S:aJ→Prop)(o:Option (List bX)):aH S (fO o)=True:=by simp[fO]
theorem XO{l:List bX}(h:jh l):bS az 56 [.slice 2 .no (l.map bX.e)] (.bool true):=by have:=XN l;simpa only[h,decide_true]using this
theorem y1{t:T}(h:t.fit=true):bS az 117 [t.e] (.bool true):=by have:=al7 t;rwa[h]at this
set_option maxRecDepth 4000 in
theorem XI{s:List ak}(af:dn s){l:List bX}(aq:jh l)(t:T)(aL:t.fit=true)(k:Int):
  bS az 52 [.slice 5 .no (s.map ak.e),.slice 2 .no (l.map bX.e),t.e,.int .i64 k] (fO (if(k=2∨k=3)∧(t.ap (bF s)).size≤5000 then gS l (t.ap (bF s)) k else none)):=by
 have x1:=oN aq;have dt:=oV af;have dE:=y1 aL;have c9:=XO aq;have fq:=Ii s t af.len af.sol.asc af.fit;generalize ab:t.ap (bF s)=x at fq⊢;generalize dh:(if(k=2∨k=3)∧x.size≤5000 then gS l x k else none)=O;by_cases ad:k=2∨k=3;rotate_left
 ·have gz:(k !=2)=true:=by simp;omega
  have ka:(k !=3)=true:=by simp;omega
  rw[if_neg (fun h=>ad h.1)]at dh;rw[←dh];refine bq j2 rD sd fun aP=>?_;unfold qF;simp;(with_reducible repeat' first|refine aj ?_|refine aB dt ?_|refine aC dt ?_|refine aB dE ?_|refine aC dE ?_|refine aB c9 ?_|refine aC c9 ?_|simp[gz,ka]);simp[bp,j1,aT,aW,aQ];simp[fO]
 by_cases aY:x.size≤5000;rotate_left
 ·rw[if_neg (fun h=>aY h.2)]at dh;rw[←dh];rw[if_neg aY,lB aY]at fq;refine bq j2 rD sd fun aP=>?_;unfold qF;simp;rcases ad with rfl|rfl;all_goals(with_reducible repeat' first|refine aj ?_|refine aB dt ?_|refine aC dt ?_|refine aB dE ?_|refine aC dE ?_|refine aB c9 ?_|refine aC c9 ?_|refine aB fq ?_|refine aC fq ?_|simp)
  all_goals simp[bp,j1,aT,aW,aQ]
  all_goals simp[fO]
 rw[if_pos ⟨ad,aY⟩]at dh;rw[if_pos aY,kp aY]at fq;have v8:(k !=2)=true→(k !=3)=false:=fun h=>by simp at h⊢;omega
 have uH:((k !=2)=false)∨((k !=2)=true∧(k !=3)=false):=by
  rcases ad with rfl|rfl
  ·left;rfl
  ·right;exact⟨rfl,rfl⟩
 clear v8;cases x with
 |var n=>
  have dP:O=match ki l n with|some k'=>if k'=k then some l else none|none=>some (kX ⟨n,k⟩ l):=by rw[←dh];rfl
  refine bq j2 rD sd fun aP=>?_;unfold qF;simp;rcases uH with bu|⟨bu,ky⟩
  ·(with_reducible repeat' first|refine aj ?_|refine aB dt ?_|refine aC dt ?_|refine aB dE ?_|refine aC dE ?_|refine aB c9 ?_|refine aC c9 ?_|refine aB fq ?_|refine aC fq ?_|simp[bu]);refine eC [3,10,12,55,56] (fun i (_:Unit)=>[(57,.int .i64 i)]) l.length (fun i _=> ∀j y,j<i→l[j]? =some y→y.v≠n) () b3 (fun j y ag=>by omega) (fun _ ag _=>?_) (fun i _ hi ag _=>?_)
   ·have aR:ki l n=none:=yh.2 fun y aD=>by obtain⟨m,hm,e⟩:=nG aD;exact ag m y hm (by rw[cb hm,e])
    rw[aR]at dP;simp only at dP;simp;(with_reducible repeat' first|refine aj ?_|simp);all_goals first|(refine⟨by unfold lim;omega,?_⟩)|skip
    have key:=Sj (l++[⟨n,k⟩]) (by simp;omega);have dT:=Ez (l++[⟨n,k⟩]);have hlen:(l++[(⟨n,k⟩:bX)]).length=l.length+1:=by simp
    unfold vx dO at key dT;rw[hlen,List.map_append,gP,mO]at key dT;refine cM.ob key dT aG aG (by simp[inObs,Pv.look]) ?_;rintro r s' ⟨rfl,l',rfl,J,U⟩;have tb:l'=kX ⟨n,k⟩ l:=Uh (J.trans ((List.perm_append_comm (l₁:=l) (l₂:=[⟨n,k⟩])).trans (Li ⟨n,k⟩ l).symm)) (Gh aq.asc (yh.1 aR)) U;subst tb;refine⟨Same.keys (by simp) (by simp),?_⟩;rw[dP];simp[b0];(with_reducible repeat' first|refine aj ?_|simp);simp[bp,j1,aT,aW,aQ];simp[fO]
   ·obtain⟨b,ae,cz⟩:=eZ hi;by_cases nl:b.v=n
    ·have aR:ki l n=some b.k:=by rw[←nl];exact Ax aq.asc (fR ae)
     rw[aR]at dP;simp only at dP;by_cases nk:b.k=k
     ·rw[if_pos nk]at dP;rw[dP];have xO:(b.k !=k)=false:=by simp[nk]
      have rN:(b.v==n)=true:=by simp[nl]
      simp[hi,cz];(with_reducible repeat' first|refine aj ?_|simp[cz,hi,xO,rN,nk,nl]);simp[bp,j1,aT,aW,aQ];simp[fO]
     ·rw[if_neg nk]at dP;rw[dP];have xO:(b.k !=k)=true:=by simp[nk]
      have rN:(b.v==n)=true:=by simp[nl]
      simp[hi,cz];(with_reducible repeat' first|refine aj ?_|simp[cz,hi,xO,rN,nk,nl]);simp[bp,j1,aT,aW,aQ];simp[fO]
    ·have rN:(b.v==n)=false:=by simp[nl]
     simp[hi,cz];(with_reducible repeat' first|refine aj ?_|simp[cz,hi,rN,nl]);exact bN.rng () hi (fun j y ju aD=>by
      rcases(by omega:j<i∨j=i)with h|rfl
      ·exact ag j y h aD
      ·rw[ae]at aD;cases aD;exact nl) b3
  ·(with_reducible repeat' first|refine aj ?_|refine aB dt ?_|refine aC dt ?_|refine aB dE ?_|refine aC dE ?_|refine aB c9 ?_|refine aC c9 ?_|refine aB fq ?_|refine aC fq ?_|simp[bu,ky]);refine eC [3,10,12,55,56] (fun i (_:Unit)=>[(57,.int .i64 i)]) l.length (fun i _=> ∀j y,j<i→l[j]? =some y→y.v≠n) () b3 (fun j y ag=>by omega) (fun _ ag _=>?_) (fun i _ hi ag _=>?_)
   ·have aR:ki l n=none:=yh.2 fun y aD=>by obtain⟨m,hm,e⟩:=nG aD;exact ag m y hm (by rw[cb hm,e])
    rw[aR]at dP;simp only at dP;simp;(with_reducible repeat' first|refine aj ?_|simp);all_goals first|(refine⟨by unfold lim;omega,?_⟩)|skip
    have key:=Sj (l++[⟨n,k⟩]) (by simp;omega);have dT:=Ez (l++[⟨n,k⟩]);have hlen:(l++[(⟨n,k⟩:bX)]).length=l.length+1:=by simp
    unfold vx dO at key dT;rw[hlen,List.map_append,gP,mO]at key dT;refine cM.ob key dT aG aG (by simp[inObs,Pv.look]) ?_;rintro r s' ⟨rfl,l',rfl,J,U⟩;have tb:l'=kX ⟨n,k⟩ l:=Uh (J.trans ((List.perm_append_comm (l₁:=l) (l₂:=[⟨n,k⟩])).trans (Li ⟨n,k⟩ l).symm)) (Gh aq.asc (yh.1 aR)) U;subst tb;refine⟨Same.keys (by simp) (by simp),?_⟩;rw[dP];simp[b0];(with_reducible repeat' first|refine aj ?_|simp);simp[bp,j1,aT,aW,aQ];simp[fO]
   ·obtain⟨b,ae,cz⟩:=eZ hi;by_cases nl:b.v=n
    ·have aR:ki l n=some b.k:=by rw[←nl];exact Ax aq.asc (fR ae)
     rw[aR]at dP;simp only at dP;by_cases nk:b.k=k
     ·rw[if_pos nk]at dP;rw[dP];have xO:(b.k !=k)=false:=by simp[nk]
      have rN:(b.v==n)=true:=by simp[nl]
      simp[hi,cz];(with_reducible repeat' first|refine aj ?_|simp[cz,hi,xO,rN,nk,nl]);simp[bp,j1,aT,aW,aQ];simp[fO]
     ·rw[if_neg nk]at dP;rw[dP];have xO:(b.k !=k)=true:=by simp[nk]
      have rN:(b.v==n)=true:=by simp[nl]
      simp[hi,cz];(with_reducible repeat' first|refine aj ?_|simp[cz,hi,xO,rN,nk,nl]);simp[bp,j1,aT,aW,aQ];simp[fO]
    ·have rN:(b.v==n)=false:=by simp[nl]
     simp[hi,cz];(with_reducible repeat' first|refine aj ?_|simp[cz,hi,rN,nl]);exact bN.rng () hi (fun j y ju aD=>by
      rcases(by omega:j<i∨j=i)with h|rfl
      ·exact ag j y h aD
      ·rw[ae]at aD;cases aD;exact nl) b3
 |nil=>
  have dP:O=if T.nil.kind=k then some l else none:=by rw[←dh];rfl
  by_cases hy:T.nil.kind=k
  ·rw[if_pos hy]at dP;rw[dP];refine bq j2 rD sd fun aP=>?_;unfold qF;simp;simp at hy;rcases uH with bu|⟨bu,ky⟩
   ·((with_reducible repeat' first|refine aj ?_|refine aB dt ?_|refine aC dt ?_|refine aB dE ?_|refine aC dE ?_|refine aB c9 ?_|refine aC c9 ?_|refine aB fq ?_|refine aC fq ?_|simp[bu,hy]|((first|apply bG|apply bL|apply bK)<;>intro h<;>try simp at h))<;>(try exact cg));all_goals simp[bp,j1,aT,aW,aQ]
    all_goals simp[fO]
   ·((with_reducible repeat' first|refine aj ?_|refine aB dt ?_|refine aC dt ?_|refine aB dE ?_|refine aC dE ?_|refine aB c9 ?_|refine aC c9 ?_|refine aB fq ?_|refine aC fq ?_|simp[bu,ky,hy]|((first|apply bG|apply bL|apply bK)<;>intro h<;>try simp at h))<;>(try exact cg));all_goals simp[bp,j1,aT,aW,aQ]
    all_goals simp[fO]
  ·rw[if_neg hy]at dP;rw[dP];refine bq j2 rD sd fun aP=>?_;unfold qF;simp;simp at hy;rcases uH with bu|⟨bu,ky⟩
   ·((with_reducible repeat' first|refine aj ?_|refine aB dt ?_|refine aC dt ?_|refine aB dE ?_|refine aC dE ?_|refine aB c9 ?_|refine aC c9 ?_|refine aB fq ?_|refine aC fq ?_|simp[bu,hy]|((first|apply bG|apply bL|apply bK)<;>intro h<;>try simp at h))<;>(try exact cg));all_goals simp[bp,j1,aT,aW,aQ]
    all_goals simp[fO]
   ·((with_reducible repeat' first|refine aj ?_|refine aB dt ?_|refine aC dt ?_|refine aB dE ?_|refine aC dE ?_|refine aB c9 ?_|refine aC c9 ?_|refine aB fq ?_|refine aC fq ?_|simp[bu,ky,hy]|((first|apply bG|apply bL|apply bK)<;>intro h<;>try simp at h))<;>(try exact cg));all_goals simp[bp,j1,aT,aW,aQ]
    all_goals simp[fO]
 |sym a=>
  have dP:O=if(T.sym a).kind=k then some l else none:=by rw[←dh];rfl
  by_cases hy:(T.sym a).kind=k
  ·rw[if_pos hy]at dP;rw[dP];refine bq j2 rD sd fun aP=>?_;unfold qF;simp;simp at hy;rcases uH with bu|⟨bu,ky⟩
   ·((with_reducible repeat' first|refine aj ?_|refine aB dt ?_|refine aC dt ?_|refine aB dE ?_|refine aC dE ?_|refine aB c9 ?_|refine aC c9 ?_|refine aB fq ?_|refine aC fq ?_|simp[bu,hy]|((first|apply bG|apply bL|apply bK)<;>intro h<;>try simp at h))<;>(try exact cg));all_goals simp[bp,j1,aT,aW,aQ]
    all_goals simp[fO]
   ·((with_reducible repeat' first|refine aj ?_|refine aB dt ?_|refine aC dt ?_|refine aB dE ?_|refine aC dE ?_|refine aB c9 ?_|refine aC c9 ?_|refine aB fq ?_|refine aC fq ?_|simp[bu,ky,hy]|((first|apply bG|apply bL|apply bK)<;>intro h<;>try simp at h))<;>(try exact cg));all_goals simp[bp,j1,aT,aW,aQ]
    all_goals simp[fO]
  ·rw[if_neg hy]at dP;rw[dP];refine bq j2 rD sd fun aP=>?_;unfold qF;simp;simp at hy;rcases uH with bu|⟨bu,ky⟩
   ·((with_reducible repeat' first|refine aj ?_|refine aB dt ?_|refine aC dt ?_|refine aB dE ?_|refine aC dE ?_|refine aB c9 ?_|refine aC c9 ?_|refine aB fq ?_|refine aC fq ?_|simp[bu,hy]|((first|apply bG|apply bL|apply bK)<;>intro h<;>try simp at h))<;>(try exact cg));all_goals simp[bp,j1,aT,aW,aQ]
    all_goals simp[fO]
   ·((with_reducible repeat' first|refine aj ?_|refine aB dt ?_|refine aC dt ?_|refine aB dE ?_|refine aC dE ?_|refine aB c9 ?_|refine aC c9 ?_|refine aB fq ?_|refine aC fq ?_|simp[bu,ky,hy]|((first|apply bG|apply bL|apply bK)<;>intro h<;>try simp at h))<;>(try exact cg));all_goals simp[bp,j1,aT,aW,aQ]
    all_goals simp[fO]
 |num a=>
  have dP:O=if(T.num a).kind=k then some l else none:=by rw[←dh];rfl
  by_cases hy:(T.num a).kind=k
  ·rw[if_pos hy]at dP;rw[dP];refine bq j2 rD sd fun aP=>?_;unfold qF;simp;simp at hy;rcases uH with bu|⟨bu,ky⟩
   ·((with_reducible repeat' first|refine aj ?_|refine aB dt ?_|refine aC dt ?_|refine aB dE ?_|refine aC dE ?_|refine aB c9 ?_|refine aC c9 ?_|refine aB fq ?_|refine aC fq ?_|simp[bu,hy]|((first|apply bG|apply bL|apply bK)<;>intro h<;>try simp at h))<;>(try exact cg));all_goals simp[bp,j1,aT,aW,aQ]
    all_goals simp[fO]
   ·((with_reducible repeat' first|refine aj ?_|refine aB dt ?_|refine aC dt ?_|refine aB dE ?_|refine aC dE ?_|refine aB c9 ?_|refine aC c9 ?_|refine aB fq ?_|refine aC fq ?_|simp[bu,ky,hy]|((first|apply bG|apply bL|apply bK)<;>intro h<;>try simp at h))<;>(try exact cg));all_goals simp[bp,j1,aT,aW,aQ]
    all_goals simp[fO]
  ·rw[if_neg hy]at dP;rw[dP];refine bq j2 rD sd fun aP=>?_;unfold qF;simp;simp at hy;rcases uH with bu|⟨bu,ky⟩
   ·((with_reducible repeat' first|refine aj ?_|refine aB dt ?_|refine aC dt ?_|refine aB dE ?_|refine aC dE ?_|refine aB c9 ?_|refine aC c9 ?_|refine aB fq ?_|refine aC fq ?_|simp[bu,hy]|((first|apply bG|apply bL|apply bK)<;>intro h<;>try simp at h))<;>(try exact cg));all_goals simp[bp,j1,aT,aW,aQ]
    all_goals simp[fO]
   ·((with_reducible repeat' first|refine aj ?_|refine aB dt ?_|refine aC dt ?_|refine aB dE ?_|refine aC dE ?_|refine aB c9 ?_|refine aC c9 ?_|refine aB fq ?_|refine aC fq ?_|simp[bu,ky,hy]|((first|apply bG|apply bL|apply bK)<;>intro h<;>try simp at h))<;>(try exact cg));all_goals simp[bp,j1,aT,aW,aQ]
    all_goals simp[fO]
 |pair a b=>
  have dP:O=if(T.pair a b).kind=k then some l else none:=by rw[←dh];rfl
  by_cases hy:(T.pair a b).kind=k
  ·rw[if_pos hy]at dP;rw[dP];refine bq j2 rD sd fun aP=>?_;unfold qF;simp;simp at hy;rcases uH with bu|⟨bu,ky⟩
   ·((with_reducible repeat' first|refine aj ?_|refine aB dt ?_|refine aC dt ?_|refine aB dE ?_|refine aC dE ?_|refine aB c9 ?_|refine aC c9 ?_|refine aB fq ?_|refine aC fq ?_|simp[bu,hy]|((first|apply bG|apply bL|apply bK)<;>intro h<;>try simp at h))<;>(try exact cg));all_goals simp[bp,j1,aT,aW,aQ]
    all_goals simp[fO]
   ·((with_reducible repeat' first|refine aj ?_|refine aB dt ?_|refine aC dt ?_|refine aB dE ?_|refine aC dE ?_|refine aB c9 ?_|refine aC c9 ?_|refine aB fq ?_|refine aC fq ?_|simp[bu,ky,hy]|((first|apply bG|apply bL|apply bK)<;>intro h<;>try simp at h))<;>(try exact cg));all_goals simp[bp,j1,aT,aW,aQ]
    all_goals simp[fO]
  ·rw[if_neg hy]at dP;rw[dP];refine bq j2 rD sd fun aP=>?_;unfold qF;simp;simp at hy;rcases uH with bu|⟨bu,ky⟩
   ·((with_reducible repeat' first|refine aj ?_|refine aB dt ?_|refine aC dt ?_|refine aB dE ?_|refine aC dE ?_|refine aB c9 ?_|refine aC c9 ?_|refine aB fq ?_|refine aC fq ?_|simp[bu,hy]|((first|apply bG|apply bL|apply bK)<;>intro h<;>try simp at h))<;>(try exact cg));all_goals simp[bp,j1,aT,aW,aQ]
    all_goals simp[fO]
   ·((with_reducible repeat' first|refine aj ?_|refine aB dt ?_|refine aC dt ?_|refine aB dE ?_|refine aC dE ?_|refine aB c9 ?_|refine aC c9 ?_|refine aB fq ?_|refine aC fq ?_|simp[bu,ky,hy]|((first|apply bG|apply bL|apply bK)<;>intro h<;>try simp at h))<;>(try exact cg));all_goals simp[bp,j1,aT,aW,aQ]
    all_goals simp[fO]
def h3(o:Option (List bd)):ah:= .tuple [.slice 2 .no ((o.getD []).map bd.e),.bool o.isSome]
@[simp] theorem apE(S:aJ→Prop)(o:Option (List bd)):aH S (h3 o)=True:=by simp[h3]
theorem XR{l:List bd}(h:jj l):bS az 57 [.slice 2 .no (l.map bd.e)] (.bool true):=by have:=XQ l;simpa only[h,decide_true]using this
theorem alY{s:List cQ}(h:ib s=true):bS az 128 [.str s] (.bool true):=by have:=tP s;rwa[h]at this
def Dg(l:List bd):List ah:=l.flatMap fun m=>[m.e,.bool true]
theorem UO(l:List bd):nS l= .hdm l.length (List.range l.length)::Dg l:=rfl
theorem LN(b:Nat):∀(n:Nat) (l:List bd),mJ b (List.range' n l.length) (Dg l)=(if n≤b then(l[b-n]?).map fun x=>.tuple [x.e,.bool true]else none)
 |n,[]=>by simp[mJ,Dg]
 |n,x::r=>by
  have e:Dg (x::r)=x.e:: .bool true::Dg r:=rfl;simp only[oa,List.range'_succ,e,mJ];by_cases h:n=b
  ·subst h;simp
  ·rw[if_neg h,LN b (n+1) r];by_cases U:n≤b
   ·rw[if_pos U,if_pos (by omega)];have:b-n=(b-(n+1))+1:=by omega
    rw[this];simp
   ·rw[if_neg U,if_neg (by omega)]
@[simp] theorem aqo(l:List bd):h2 (nS l)=false:=rfl
@[simp] theorem aq7(m:aJ)(l:List bd):wW m (nS l)=some (cn l.length [] m):=rfl
theorem ahh(f:aJ→Option (List ah))(fp mk:aJ)(n:Nat)(seen:List Nat)(b:Nat)(l:List bd)(x:bd)(hi:f fp=some (cn n (seen++[b]) mk))(hm:f mk=some (nS l))(au:n=l.length)(ab:l[b]? =some x):pz f (.ptr fp 0)=some (True,.tuple [x.e,.bool true]):=by subst au;simp only[UZ,hi,hm,cn,UO,List.getLast?_append,List.getLast?_singleton,Option.some_or,List.range_eq_range',LN,Nat.zero_le,if_true,Nat.sub_zero,Option.map_map];simp[ab]
theorem aae{st:bh}{d:Nat}{K:bh→Prop}{fp mk:aJ}{n:Nat}{seen:List Nat}{l:List bd}(hi:Pv.look fp st.b=some (cn n seen mk))(hm:Pv.look mk st.b=some (nS l))(au:n=l.length)
  (J:(∀b,b<l.length→b∈seen)→K {st with t:=Pv.put d (.tuple [.bool false]) st.t}) (U:∀b x,l[b]? =some x→b∉seen→K {st with t:=Pv.put d (.tuple [.bool true,x.e,.bool true]) st.t,b:=cu fp (cn n (seen++[b]) mk) st.b}):
  sT st d (.ptr fp 0) K:=by
 subst au;simp only[sT,hi,cn,hm,UO,L1,and_self,true_and];refine⟨fun h=>J fun b ae=>h b (by simpa using ae),fun b k v x4 ae=>?_⟩;rw[List.range_eq_range',LN]at x4;simp only[Nat.zero_le,if_true,Nat.sub_zero,gr,ah.tuple.injEq,y7,and_true]at x4;obtain⟨x,ai,ax,bn⟩:=x4;subst ax bn;exact U b x ai ae
theorem ahb{m x:bd}{l:List bd}:x∈lb m l↔x=m∨x∈l:=by
 unfold lb;split
 ·constructor
  ·exact .inr
  ·rintro(rfl|h)<;>assumption
 ·simp[or_comm]
theorem Zc{m:bd}{l:List bd}(h:l.Nodup):(lb m l).Nodup:=by
 unfold lb;split
 ·exact h
 ·rw[List.nodup_append];exact⟨h,by simp,fun a bk b ae=>by simp at ae;subst ae;intro e;subst e;contradiction⟩
theorem Zb(m:bd)(l:List bd):(lb m l).length≤l.length+1:=by unfold lb;split<;>simp
theorem ac4(s:List cQ)(t:T):∀l:List bd,(t.fold (fun v l=>lb ⟨v,s⟩ l) l).length≤l.length+t.size:=by
 induction t with
 |var n=>intro l;simp only[T.fold,T.size];exact Zb _ _
 |pair a b dQ dR=>intro l;simp only[T.fold,T.size];have:=dQ l;have:=dR (a.fold (fun v l=>lb ⟨v,s⟩ l) l);omega
 |_=>intro l;simp[T.fold,T.size]
theorem ac5(s:List cQ)(t:T):∀{l:List bd},l.Nodup→(t.fold (fun v l=>lb ⟨v,s⟩ l) l).Nodup:=by
 induction t with
 |var n=>intro l h;exact Zc h
 |pair a b dQ dR=>intro l h;exact dR (dQ h)
 |_=>intro l h;exact h
theorem ahc(s:List cQ)(t:T)(x:bd):∀{l:List bd},x∈t.fold (fun v l=>lb ⟨v,s⟩ l) l↔x∈l∨(x.s=s∧t.occ x.v=true):=by
 induction t with
 |var n=>
  intro l;simp only[T.fold,ahb,T.occ,dK];constructor
  ·rintro(rfl|h)
   ·exact .inr ⟨rfl,rfl⟩
   ·exact .inl h
  ·rintro(h|⟨J,U⟩)
   ·exact .inr h
   ·left;cases x;simp at J U;subst J U;rfl
 |pair a b dQ dR=>
  intro l;simp only[T.fold,dR,dQ,T.occ,lY];constructor
  ·rintro((h|h)|h)
   ·exact .inl h
   ·exact .inr ⟨h.1,.inl h.2⟩
   ·exact .inr ⟨h.1,.inr h.2⟩
  ·rintro(h|⟨J,U|U⟩)
   ·exact .inl (.inl h)
   ·exact .inl (.inr ⟨J,U⟩)
   ·exact .inr ⟨J,U⟩
 |_=>intro l;simp[T.fold,T.occ]
def ago(M:List bd)(k:Nat)(st:bh):Prop:=∃(seen:List Nat) (xs:List bd),seen.Nodup∧(∀b∈seen,b<M.length)∧k=M.length-seen.length∧xs=seen.filterMap (fun b=>M[b]?)∧xs.length=seen.length∧st=⟨[(15,.ptr (.obj 815) 0),(63,.ptr (.loc 2) 0)],[(.obj 812,nS M),(.loc 2,cn M.length seen (.obj 812)),(.obj 815,[.row 2 (.obj 814) xs.length])],[(.obj 814,⟨xs.length,106,2,some (xs.map bd.e)⟩)],3,[.obj 815,.obj 814,.obj 813,.obj 812,.obj 811]⟩
set_option maxRecDepth 4000 in
theorem XH{s:List ak}(af:dn s){l:List bd}(aq:jj l)(x1:l.length≤68719470000)(t:T)(aL:t.fit=true){g:List cQ}(aR:ib g=true):
  bS az 54 [.slice 5 .no (s.map ak.e),.slice 2 .no (l.map bd.e),t.e,.str g] (h3 (if(t.ap (bF s)).size≤5000 then gm l (t.ap (bF s)) g else none)):=by
 have dt:=oV af;have dE:=y1 aL;have dY:=XR aq;have h0:=alY aR;have fq:=Ii s t af.len af.sol.asc af.fit;generalize ab:t.ap (bF s)=x at fq⊢;generalize dh:(if x.size≤5000 then gm l x g else none)=O;by_cases aY:x.size≤5000;rotate_left
 ·rw[if_neg aY]at dh;rw[←dh];rw[if_neg aY,lB aY]at fq;refine bq j2 JH L7 fun aP=>?_;unfold ER;simp;(with_reducible repeat' first|refine aj ?_|refine aB dt ?_|refine aC dt ?_|refine aB dE ?_|refine aC dE ?_|refine aB dY ?_|refine aC dY ?_|refine aB h0 ?_|refine aC h0 ?_|refine aB fq ?_|refine aC fq ?_|simp);simp[bp,G9,aT,aW,aQ];simp[h3]
 rw[if_pos aY]at dh;rw[if_pos aY,kp aY]at fq;have Ay:=amd g x;cases cU:x.has g;rotate_left
 ·rw[cU]at Ay;have dP:O=none:=by rw[←dh];unfold gm;rw[cU];rfl
  rw[dP];refine bq j2 JH L7 fun aP=>?_;unfold ER;simp;(with_reducible repeat' first|refine aj ?_|refine aB dt ?_|refine aC dt ?_|refine aB dE ?_|refine aC dE ?_|refine aB dY ?_|refine aC dY ?_|refine aB h0 ?_|refine aC h0 ?_|refine aB fq ?_|refine aC fq ?_|refine aB Ay ?_|refine aC Ay ?_|simp);simp[bp,G9,aT,aW,aQ];simp[h3]
 rw[cU]at Ay;refine bq j2 JH L7 fun aP=>?_;unfold ER;simp;(with_reducible repeat' first|refine aj ?_|refine aB dt ?_|refine aC dt ?_|refine aB dE ?_|refine aC dE ?_|refine aB dY ?_|refine aC dY ?_|refine aB h0 ?_|refine aC h0 ?_|refine aB fq ?_|refine aC fq ?_|refine aB Ay ?_|refine aC Ay ?_|simp);have CJ:l.Nodup:=gR.nodup k0 aq.asc;have hj:∀xs:List bd,xs.Perm (x.fold (fun v l=>lb ⟨v,g⟩ l) l)→O=some (n1 e5 xs):=fun xs bB=>by
  rw[←dh];refine IF cU ?_ fun y=>?_
  ·have J:=Nw k0 xs;have U:(n1 e5 xs).Nodup:=(((w3 e5 xs).trans bB).nodup_iff).2 (ac5 g x CJ);exact(J.and U).imp fun{a b} h=>by have:=mt (k0.zero a b).1 h.2;omega
  ·rw[((w3 e5 xs).trans bB).mem_iff,ahc]
 have hlen:(x.fold (fun v l=>lb ⟨v,g⟩ l) l).length≤68719475000:=by have:=ac4 g x l;omega
 rw[show jL []=nS []from rfl];refine iN (fun i (_:Unit)=>⟨[(7,.ptr (.obj 811) 0),(10,.ptr (.loc 1) 0),(12,.ptr (.obj 813) 0),(49,.slice 2 .no (l.map bd.e)),(50,.int .i64 l.length),(51,.int .i64 i)],[(.obj 811,[.str g]),(.loc 1,[.int .i64 x.kind,.int .i64 x.int,.str x.name,.slice 4 .no (x.args.map T.e)]),(.obj 812,nS (l.take i)),(.obj 813,[.gmap (.obj 812)])],[],2,[.obj 813,.obj 812,.obj 811]⟩) l.length (fun _ _=>True) () b3 trivial (fun _ _ _=>?_) (fun i _ hi _ _=>?_)
 ·rw[nH];simp;(with_reducible repeat' first|refine aj ?_|simp);have key:=Sa (og g) (EB g) (Iz g) 130 [.ptr (.obj 813) 0,.ptr (.obj 811) 0] (by intro a;simp[inObs,og,Pv.look,aN,aH]) (by simp) (fun v l=>lb ⟨v,g⟩ l) (fun v a=>ade g v a) x l;refine cM.ob key (EB g l) (by unfold og;exact aG) (by unfold og;exact aG) (by simp[inObs,og,Pv.look]) ?_;rintro r s' ⟨rfl,rfl⟩;refine⟨Iz g _ _,?_⟩;unfold og;generalize ga:x.fold (fun v l=>lb ⟨v,g⟩ l) l=M at hj hlen⊢;simp[b0];(with_reducible repeat' first|refine aj ?_|simp);refine mX (ago M) M.length _ ⟨by simp[fresh,aN,aH,cn,inObs,Pv.look,AA],eM (by simp[fresh,aN,aH,cn,inObs,Pv.look,AA]),eN (by simp[fresh,aN,aH,ej,inObs,Pv.look,AA]),by simp⟩ ⟨[],[],by simp,by simp,by simp,by simp,by simp,rfl⟩ ?_;rintro k st ⟨seen,xs,aE,bm,ad,Ak,pq,rfl⟩ je cF;clear je cF;have hle:=HN aE bm;simp;refine aae (mk:= .obj 812) (seen:=seen) (l:=M) (by simp) (by simp) rfl (fun lJ=>?_) (fun b y aD ae=>?_)
  ·have we:=Nl aE bm lJ;rw[←Ak]at we;have dz:=hj xs we;simp;(with_reducible repeat' first|refine aj ?_|simp);have key:=adQ xs (by omega);have dT:=Iy xs;unfold xk dO at key dT;refine cM.ob key dT aG aG (by simp[inObs,Pv.look]) ?_;rintro r s' ⟨rfl,rfl⟩;refine⟨Same.keys (by simp) (by simp),?_⟩;rw[dz];simp[b0];(with_reducible repeat' first|refine aj ?_|simp);simp[bp,G9,aT,aW,aQ];simp[h3]
  ·have zX:∀f:aJ→Option (List ah),f (.loc 2)=some (cn M.length (seen++[b]) (.obj 812))→f (.obj 812)=some (nS M)→pz f (.ptr (.loc 2) 0)=some (True,.tuple [y.e,.bool true]):=fun f J U=>ahh f (.loc 2) (.obj 812) M.length seen b M y J U rfl aD;have fD:b<M.length:=(fU.1 aD).1;have p0:=Nn aE bm fD ae;simp[zX];(with_reducible repeat' first|refine aj ?_|simp[zX]);all_goals first|(refine⟨by unfold lim;omega,?_⟩)|skip
   have xX:∀S:aJ→Prop,aN S (xs.map bd.e++[y.e])=True:=fun S=>by
    have e:xs.map bd.e++[y.e]=(xs++[y]).map bd.e:=by simp
    rw[e];simp[-List.map_append]
   refine bN.next (M.length-(seen.length+1)) (by omega) ⟨seen++[b],xs++[y],L5 aE ae,(by simp;intro c ar;rcases ar with ar|rfl;exact bm c ar;exact fD),by simp,by rw[List.filterMap_append,←Ak];simp[aD],by simp[pq],rfl⟩ ⟨by simp[fresh,aN,aH,cn,inObs,Pv.look,AA,xX],eM (by simp[fresh,aN,aH,cn,inObs,Pv.look,AA,xX]),eN (by simp[fresh,aN,aH,ej,inObs,Pv.look,AA,xX]),by simp⟩
 ·obtain⟨b,ae,cz⟩:=eZ hi;have iT:lb b (l.take i)=l.take (i+1):=by
   have J:b∉l.take i:=fun h=>by
    obtain⟨j,ag,e⟩:=nG h;have ju:j<i:=by simp at ag;omega
    rw[List.getElem_take]at e;have:=(List.nodup_iff_pairwise_ne.1 CJ);exact(pK.1 this j i (by omega) hi ju) (by rw[e,cz])
   rw[List.take_succ,ae];simp[lb,J]
  exact jl
def Pm:C:=(aa [bj 4 false] (.seq (aa [I 7 0,cv 8 7,cc 9 0] (fe 10 9 8 (.seq (.block 1 (aa [cw 11 5 7 9,aX 12 5 11,cS 6 kj,bz 5 6 12] (aa [aF 13 0 1 6,aw 14 1 13,I 15 1,br 16 .geq 14 15,I 17 16,al 17 false (iv 18 1 4 6),al 17 false (aX 19 4 18),ys 17 false (.bsl 20 4 32 [.t 19]),al 17 false (cL 21 116 20),bZ 17 false 22 1,al 17 false (br 23 .gtr 21 22),cW 24 17 23] (aZ 24 (aa [bj 4 false] .ret) .skip)))) (.region [aU 25 .add 9 1,I 9 25])))) (aa [bj 4 true] .ret)))
@[simp] def akc:List bA:=[.tmp 4]
def Pl:C:=(aa [cc 2 0] (.seq (aa [I 6 0,cL 7 68 6,ct 8 7] (aZ 8 (aa [cc 2 (-1)] .ret) .skip)) (aa [c0 (.alloc 3 (some 831) (.int .i64 0)),c0 (.store 1 (.t 3) (dN 0))] (.seq (aa [I 9 0,cv 10 9,cc 11 0] (fe 12 11 10 (.seq (.block 1 (aa [cw 13 4 9 11,aX 14 4 13,cS 5 du,bz 4 5 14] (.region [aX 15 4 5,bW 16 (.mkf 193 [.t 3]),ck 17 129 15 16]))) (.region [aU 18 .add 11 1,I 11 18])))) (aa [aw 19 1 3,I 2 19] .ret)))))
@[simp] def aka:List bA:=[.tmp 2]
def Pf:C:=(aa [eJ 4 2,bj 5 false] (.seq (aa [I 11 0,cL 12 55 11,ct 13 12,I 14 13,bZ 14 false 15 1,al 14 false (cL 16 56 15),al 14 false (ct 17 16),cW 18 14 17] (aZ 18 (aa [eJ 4 2,bj 5 false] .ret) .skip)) (aa [eb 19 2 104 [],I 6 19] (.seq (.seq (.fg false 6 (.region [I 20 1,cv 21 20,cc 22 0])) (fe 23 22 21 (.seq (.block 1 (aa [cw 24 2 20 22,aX 25 2 24,c0 (.alloc 8 none (.agg [.int .i64 0,.int .i64 0])),bz 2 8 25] (.seq (.drawn true 42 [I 27 0,I 28 6,aF 29 0 1 8,aw 30 1 29,cL 31 96 30,aF 32 1 1 8,aw 33 1 32,cT 34 52 [.t 27,.t 28,.t 31,.t 33],I 26 34,cd 35 0 26,cd 36 1 26,I 9 35,I 10 36]) (.seq (aa [I 37 10,ct 38 37] (aZ 38 (aa [eJ 4 2,bj 5 false] .ret) .skip)) (.region [I 39 9,I 6 39]))))) (.region [aU 40 .add 22 1,I 22 40])))) (aa [I 41 6,I 4 41,bj 5 true] .ret)))))
@[simp] def Mz:List bA:=[.tmp 4,.tmp 5]
def Pg:C:=(aa [eJ 4 2,bj 5 false] (.seq (aa [I 11 0,cL 12 55 11,ct 13 12,I 14 13,bZ 14 false 15 1,al 14 false (cL 16 57 15),al 14 false (ct 17 16),cW 18 14 17] (aZ 18 (aa [eJ 4 2,bj 5 false] .ret) .skip)) (aa [eb 19 2 106 [],I 6 19] (.seq (.seq (.fg false 6 (.region [I 20 1,cv 21 20,cc 22 0])) (fe 23 22 21 (.seq (.block 1 (aa [cw 24 2 20 22,aX 25 2 24,c0 (.alloc 8 none (.agg [.int .i64 0,.str []])),bz 2 8 25] (.seq (.drawn true 42 [I 27 0,I 28 6,aF 29 0 1 8,aw 30 1 29,cL 31 96 30,aF 32 1 1 8,aw 33 1 32,cT 34 54 [.t 27,.t 28,.t 31,.t 33],I 26 34,cd 35 0 26,cd 36 1 26,I 9 35,I 10 36]) (.seq (aa [I 37 10,ct 38 37] (aZ 38 (aa [eJ 4 2,bj 5 false] .ret) .skip)) (.region [I 39 9,I 6 39]))))) (.region [aU 40 .add 22 1,I 22 40])))) (aa [I 41 6,I 4 41,bj 5 true] .ret)))))
@[simp] def MA:List bA:=[.tmp 4,.tmp 5]
def Pc:C:=(aa [eJ 2 1] (.seq (aa [I 12 0,cv 13 12,cc 14 0] (fe 15 14 13 (.seq (.block 1 (aa [cw 16 1 12 14,aw 17 1 16,I 4 17] (aa [I 18 4,cL 19 55 18,ct 20 19] (aZ 20 (aa [eJ 2 1] .ret) .skip)))) (.region [aU 21 .add 14 1,I 14 21])))) (aa [c0 (.bslm 22 (some 821) 1 23 []),I 23 0,c0 (.appm 24 none 1 23 (.t 22) (.t 23)),c0 (.alloc 5 (some 822) (.slice 1 .nil [])),bz 1 5 24] (aa [aw 25 1 5,bW 26 (.mkif 24 (.t 25)),bW 27 (.mkf 203 [.t 5]),ck 28 202 26 27] (aa [eb 29 1 23 [],I 6 29] (.seq (aa [aw 30 1 5,cv 31 30,cc 32 0] (.block 2 (.loop (aa [br 33 .lss 32 31] (.seq (aZ 33 .skip (.exit 2)) (.seq (.block 3 (aa [I 34 32,cw 35 1 30 32,aw 36 1 35,I 7 34,I 8 36] (.seq (aa [I 37 7,aU 38 .gtr 37 0,I 39 38,al 39 true (aw 40 1 5),bZ 39 true 41 7,al 39 true (aU 42 .sub 41 1),al 39 true (cw 43 1 40 42),al 39 true (aw 44 1 43),bZ 39 true 45 8,al 39 true (ck 46 204 44 45),al 39 true (aU 47 .eql 46 0),dv 48 39 47] (aZ 48 (.exit 3) .skip)) (aa [bj 9 true] (.seq (aa [aw 49 1 5,cv 50 49,cc 51 0] (.block 4 (.loop (aa [br 52 .lss 51 50] (.seq (aZ 52 .skip (.exit 4)) (.seq (.block 5 (aa [cw 53 1 49 51,aw 54 1 53,I 11 54] (aa [I 55 11,I 56 8,ck 57 204 55 56,aU 58 .neq 57 0,I 59 58,bZ 59 true 60 11,bZ 59 true 61 8,al 59 true (ck 62 205 60 61),dv 63 59 62] (aZ 63 (.region [bj 9 false]) .skip)))) (.region [aU 64 .add 51 1,I 51 64]))))))) (aa [I 65 9] (aZ 65 (.region [I 66 6,I 67 8,cL 68 119 67,eb 69 1 23 [.t 68],gO 70 1 23 66 69,I 6 70]) .skip))))))) (.region [aU 71 .add 32 1,I 32 71]))))))) (aa [I 72 6,I 2 72] .ret)))))))
@[simp] def aj5:List bA:=[.tmp 2]
def I1:C:=(.region [aw 3 1 1,I 4 0,aU 5 .add 4 1,bW 6 (.max2 (.t 3) (.t 5)),bz 1 1 6])
@[simp] def MC:List bA:=[]
def Pd:C:=(aa [bj 5 false] (.seq (.drawn true 16 [aw 6 1 2,I 7 0,cw 8 1 6 7,aw 9 1 8,aw 10 1 2,I 11 1,cw 12 1 10 11,aw 13 1 12,ck 14 204 9 13,aU 15 .lss 14 0,I 5 15]) .ret))
@[simp] def V3:List bA:=[.tmp 5]
def w8:List (Nat×dx):=[
 (3,⟨1,8,.int .i64,.int .i64 0⟩),
 (9,⟨1,16,.str,.str []⟩),
 (23,⟨1,24,.slice 61,.slice 5 .nil []⟩),
 (24,⟨1,24,.slice 23,.slice 1 .nil []⟩),
 (25,⟨1,24,.slice 104,.slice 2 .nil []⟩),
 (26,⟨1,24,.slice 106,.slice 2 .nil []⟩),
 (30,⟨1,24,.slice 32,.slice 4 .nil []⟩),
 (32,⟨4,56,.struct [(0,3),(1,3),(2,9),(3,30)],.agg [.int .i64 0,.int .i64 0,.str [],.slice 4 .nil []]⟩),
 (61,⟨5,64,.struct [(0,3),(1,32)],.agg [.int .i64 0,.int .i64 0,.int .i64 0,.str [],.slice 4 .nil []]⟩),
 (104,⟨2,16,.struct [(0,3),(1,3)],.agg [.int .i64 0,.int .i64 0]⟩),
 (106,⟨2,24,.struct [(0,3),(1,9)],.agg [.int .i64 0,.str []]⟩)]
theorem xa:fP az w8=true:=by kernel_rfl
theorem ah5:b4 w8 Pm akc 2 Tryz.f58=true:=by kernel_rfl
theorem abk:az.funcs[(58:Nat)]? =some Tryz.f58:=Tryz.func58
theorem ah4:b4 w8 Pl aka 1 Tryz.f116=true:=by kernel_rfl
theorem abj:az.funcs[(116:Nat)]? =some Tryz.f116:=Tryz.func116
theorem ahZ:b4 w8 Pf Mz 2 Tryz.f120=true:=by kernel_rfl
theorem abe:az.funcs[(120:Nat)]? =some Tryz.f120:=Tryz.func120
theorem ah0:b4 w8 Pg MA 2 Tryz.f121=true:=by kernel_rfl
theorem abf:az.funcs[(121:Nat)]? =some Tryz.f121:=Tryz.func121
theorem ahW:b4 w8 Pc aj5 1 Tryz.f124=true:=by kernel_rfl
theorem abb:az.funcs[(124:Nat)]? =some Tryz.f124:=Tryz.func124
theorem Vq:b4 w8 I1 MC 2 Tryz.f193=true:=by kernel_rfl
theorem RD:az.funcs[(193:Nat)]? =some Tryz.f193:=Tryz.func193
theorem ahX:b4 w8 Pd V3 3 Tryz.f203=true:=by kernel_rfl
theorem abc:az.funcs[(203:Nat)]? =some Tryz.f203:=Tryz.func203
def T4(s:List ak)(l:List bX)(i:Nat)(a:List bX):Prop:=jh a∧eT s (l.drop i) a=eT s l []
theorem XT{s:List ak}(af:dn s){l:List bX}(aq:jh l):bS az 120 [.slice 5 .no (s.map ak.e),.slice 2 .no (l.map bX.e)] (fO (eT s l [])):=by
 have x1:=oN aq;have dt:=oV af;have c9:=XO aq;refine bq xa abe ahZ fun aP=>?_;unfold Pf;simp;(with_reducible repeat' first|refine aj ?_|refine aB dt ?_|refine aC dt ?_|refine aB c9 ?_|refine aC c9 ?_|simp);refine eC [0,20,21] (fun i (a:List bX)=>[(6,.slice 2 .no (a.map bX.e)),(22,.int .i64 i)]) l.length (T4 s l) [] b3 ⟨⟨by simp,by simp⟩,rfl⟩ (fun a ag _=>?_) (fun i a hi ag _=>?_)
 ·obtain⟨_,ag⟩:=ag;rw[List.drop_length]at ag;simp only[eT]at ag;rw[←ag];simp;(with_reducible repeat' first|refine aj ?_|simp);simp[bp,Mz,aT,aW,aQ];simp[fO]
 ·obtain⟨bk,ag⟩:=ag;obtain⟨b,ae,cz⟩:=eZ hi;have oy:=aq.at' b (fR ae);rw[k9 hi,cz]at ag;simp only[eT]at ag;have eR:=XI af bk (.var b.v) (by simp[T.fit,T.ok,T.size,oy.1]) b.k;have aY:((T.var b.v).ap (bF s)).size≤5000:=D3 af b.v;rw[if_pos ⟨oy.2,aY⟩,show(T.var b.v).ap (bF s)=bF s b.v from rfl]at eR;simp[hi,cz];cases dP:gS a (bF s b.v) b.k with
  |none=>rw[dP]at ag eR;simp only at ag;rw[←ag];simp only[fO]at eR;(with_reducible repeat' first|refine aj ?_|refine aB (k6 _) ?_|refine aC (k6 _) ?_|refine aB eR ?_|refine aC eR ?_|simp[cz,hi]);simp[bp,Mz,aT,aW,aQ];simp[fO]
  |some be=>rw[dP]at ag eR;simp only[fO]at eR;(with_reducible repeat' first|refine aj ?_|refine aB (k6 _) ?_|refine aC (k6 _) ?_|refine aB eR ?_|refine aC eR ?_|simp[cz,hi]);exact bN.rng be hi ⟨EI bk (Bn af oy.1) oy.2 dP,ag⟩ b3
def T5(s:List ak)(G:List (List cQ))(l:List bd)(i:Nat)(a:List bd):Prop:=jj a∧lx G a∧eK s (l.drop i) a=eK s l []
theorem XU{s:List ak}(af:dn s){l:List bd}(aq:jj l){G:List (List cQ)}(hf:G.length≤687000)(aR:lx G l):bS az 121 [.slice 5 .no (s.map ak.e),.slice 2 .no (l.map bd.e)] (h3 (eK s l [])):=by
 have hlen:∀{a:List bd},jj a→lx G a→a.length≤68719470000:=fun J U=>by have:=Di J U;omega
 have x1:=hlen aq aR;have dt:=oV af;have c9:=XR aq;refine bq xa abf ah0 fun aP=>?_;unfold Pg;simp;(with_reducible repeat' first|refine aj ?_|refine aB dt ?_|refine aC dt ?_|refine aB c9 ?_|refine aC c9 ?_|simp);refine eC [0,20,21] (fun i (a:List bd)=>[(6,.slice 2 .no (a.map bd.e)),(22,.int .i64 i)]) l.length (T5 s G l) [] b3 ⟨⟨by simp,by simp[gR]⟩,fun x ab=>by simp at ab,rfl⟩ (fun a ag _=>?_) (fun i a hi ag _=>?_)
 ·obtain⟨_,_,ag⟩:=ag;rw[List.drop_length]at ag;simp only[eK]at ag;rw[←ag];simp;(with_reducible repeat' first|refine aj ?_|simp);simp[bp,MA,aT,aW,aQ];simp[h3]
 ·obtain⟨bk,CU,ag⟩:=ag;obtain⟨b,ae,cz⟩:=eZ hi;have oy:=aq.at' b (fR ae);have Ko:=aR b (fR ae);rw[k9 hi,cz]at ag;simp only[eK]at ag;have eR:=XH af bk (hlen bk CU) (.var b.v) (by simp[T.fit,T.ok,T.size,oy.1]) oy.2;have aY:((T.var b.v).ap (bF s)).size≤5000:=D3 af b.v;rw[if_pos aY,show(T.var b.v).ap (bF s)=bF s b.v from rfl]at eR;simp[hi,cz];cases dP:gm a (bF s b.v) b.s with
  |none=>rw[dP]at ag eR;simp only at ag;rw[←ag];simp only[h3]at eR;(with_reducible repeat' first|refine aj ?_|refine aB (k6 _) ?_|refine aC (k6 _) ?_|refine aB eR ?_|refine aC eR ?_|simp[cz,hi]);simp[bp,MA,aT,aW,aQ];simp[h3]
  |some be=>rw[dP]at ag eR;simp only[h3]at eR;(with_reducible repeat' first|refine aj ?_|refine aB (k6 _) ?_|refine aC (k6 _) ?_|refine aB eR ?_|refine aC eR ?_|simp[cz,hi]);exact bN.rng be hi ⟨EJ bk (Bn af oy.1) oy.2 dP,BR CU Ko dP,ag⟩ b3
end Go.Proofs.YtohaalphocaebaaGreat
namespace Go.Proofs.YtohaalphocaebaaGreat
open Go Go.Pv Go.Lib
def cy(d:List ak):ah:= .slice 5 .no (d.map ak.e)
@[simp] theorem apv(S:aJ→Prop)(d:List ak):aH S (cy d)=True:=by simp[cy]
@[simp] theorem anM(d:List ak):cells (cy d)=[cy d]:=rfl
@[simp] theorem arn(d:List ak):eL (cy d)=true:=rfl
@[simp] theorem arJ(d:List ak):dU (cy d)=cy d:=by simp[cy]
theorem Rb:∀(S:aJ→Prop) (x:List ak),aH S (cy x):=fun S x=>by simp
theorem Lw(S:aJ→Prop):∀l:List (List ak),aN S (l.map cy)
 |[]=>by simp[aN]
 |x::xs=>by simp[aN,Lw S xs]
@[simp] theorem Uw(S:aJ→Prop)(l:List (List ak)):aN S (l.map cy)=True:=eq_true (Lw S l)
@[simp] theorem NC:∀l:List (List ak),di (l.map cy)=l.map cy
 |[]=>rfl
 |x::xs=>by simp[di,NC xs]
def lH(d:List dV):ah:= .slice 5 .no (d.map dV.e)
@[simp] theorem anN(d:List dV):cells (lH d)=[lH d]:=rfl
@[simp] theorem aro(d:List dV):eL (lH d)=true:=rfl
theorem Jt(d:List ak):lH (d.map ak.b)=cy d:=by simp only[lH,cy,yp]
theorem Ju(l:List (List ak)):(l.map fun d=>d.map ak.b).map lH=l.map cy:=by rw[List.map_map];exact List.map_congr_left fun d _=>Jt d
@[simp] theorem apw(S:aJ→Prop)(d:List dV):aH S (lH d)=True:=by simp[lH]
@[simp] theorem arK(d:List dV):dU (lH d)=lH d:=by simp[lH]
theorem Ux(S:aJ→Prop):∀l:List (List dV),aN S (l.map lH)
 |[]=>by simp[aN]
 |x::xs=>by simp[aN,Ux S xs]
@[simp] theorem apr(S:aJ→Prop)(l:List (List dV)):aN S (l.map lH)=True:=eq_true (Ux S l)
abbrev uc(l:List (List ak)):cI:=dO cy 821 822 23 1 l
theorem Iv(l:List (List ak)):dL (uc l):=xl Rb l
theorem adh(l:List (List ak))(aq:l.length≤68719476736)(i j:Nat)(x y:List ak)(hi:l[i]? =some x)(ag:l[j]? =some y):bC az 203 [.int .i64 i,.int .i64 j,.ptr (.obj 822) 0] (uc l) fun r s'=>r= .bool (hR en x y)∧s'=uc l:=by have af:=Iv l;obtain⟨l7,hG⟩:=fU.1 hi;obtain⟨ec,oB⟩:=fU.1 ag;have aS:bS az 204 [cy x,cy y] (.int .i64 (en x y)):=Ig x y;unfold uc dO at af⊢;refine bC.mk mixed xa abc ahX (by simp) af.obj fun aP cF=>?_;unfold Pd;simp[l7,ec,hG,oB];(with_reducible repeat' first|refine aj ?_|refine aB aS ?_|refine aC aS ?_|simp[l7,ec,hG,oB]);refine cJ.at _ (.inl rfl) af (Same.refl _) aG aG ?_;simp[cP,V3,aT,aW,aQ,hR]
noncomputable def Tryz.dsT:TypeInfo:=(az.info? 24).get (by kernel_rfl)
noncomputable def Tryz.dsE:TypeInfo:=(az.info? 23).get (by kernel_rfl)
theorem Tryz.dsK(n:Nat)(U:2≤n):Lib.swapperK n Tryz.dsE 23=9:=by
 have a:Tryz.dsE.hasPointers=true:=by kernel_rfl
 have b:Tryz.dsE.bytes=24:=by kernel_rfl
 have c:(n==0)=false:=by simp;omega
 have d:(n==1)=false:=by simp;omega
 simp[Lib.swapperK,a,b,c,d]
theorem adO(l:List (List ak))(aq:l.length≤68719476736):bC az 202 [.iface 24 (.row 1 (.obj 821) l.length),.func 203 [.ptr (.obj 822) 0]] (uc l) fun r s'=>r= .tuple []∧s'=uc (n1 en l):=by
 refine(adk Rb (K:=821) (B:=822) (sz:=1) 24 Tryz.dsT Tryz.dsE (by kernel_rfl) (by kernel_rfl) (by kernel_rfl) (by kernel_rfl) 23 (fun _=>by kernel_rfl) Tryz.dsK 203 (hR en) kH.ltOk l aq (fun l' h i j x y hi ag=>adh l' (by omega) i j x y hi ag) (fun l' h i j hi ag=>?_)).mono ?_
 ·have:=Sl (P:=az) false 257 (fun args W=>run_callFunc_extern Tryz.func257 (by kernel_rfl) (by kernel_rfl) (by kernel_rfl) (e:=Es false) (by kernel_rfl) args W)
   23 Tryz.dsE (by kernel_rfl) (.inr ⟨by kernel_rfl,fun _=>by kernel_rfl⟩) (Iv l') (K:=821) (n:=l.length) (el:=23) (sz:=1) (by kernel_rfl) (xs:=l'.map cy) (by simp[dO,Pv.look,h]) i j hi ag
  refine this.mono ?_;rintro r s' ⟨rfl,rfl⟩;refine⟨rfl,?_⟩;simp[dO,cu,UL,h]
 ·rintro r s' ⟨rfl,l',rfl,J,U⟩;exact⟨rfl,by rw[Xq kH J U]⟩
end Go.Proofs.YtohaalphocaebaaGreat
namespace Go.Proofs.YtohaalphocaebaaGreat
open Go Go.Pv
theorem AG{α:Type}{s:List α}{i:Nat}{t:α}(h:s[i]? =some t):s.drop i=t::s.drop (i+1):=by obtain⟨hi,e⟩:=fU.1 h;rw[k9 hi,e]
def qd(L:List (List ak))(a:List (List ak))(e:List ak):List (List ak):=if ie L e=true then kh en e a else a
theorem LX{L:List (List ak)}:∀(xs:List (List ak)) {a:List (List ak)},gR en a→gR en (xs.foldl (qd L) a)
 |[],_,h=>h
 |x::xs,a,h=>LX xs (a:=qd L a x) (by unfold qd;split<;>first|exact Lf kH h|exact h)
theorem U7{L:List (List ak)}{x:List ak}:∀(xs:List (List ak)) {a:List (List ak)},x∈xs.foldl (qd L) a↔x∈a∨(x∈xs∧ie L x=true)
 |[],a=>by simp
 |y::xs,a=>by
  rw[List.foldl_cons,U7 xs,fA];unfold qd;by_cases ad:ie L y=true
  ·rw[if_pos ad,GL kH];constructor
   ·rintro((rfl|h)|h)
    ·exact .inr ⟨.inl rfl,ad⟩
    ·exact .inl h
    ·exact .inr ⟨.inr h.1,h.2⟩
   ·rintro(h|⟨rfl|J,U⟩)
    ·exact .inl (.inr h)
    ·exact .inl (.inl rfl)
    ·exact .inr ⟨J,U⟩
  ·rw[if_neg ad];constructor
   ·rintro(h|h)
    ·exact .inl h
    ·exact .inr ⟨.inr h.1,h.2⟩
   ·rintro(h|⟨rfl|J,U⟩)
    ·exact .inl h
    ·exact absurd U ad
    ·exact .inr ⟨J,U⟩
theorem U6{L:List (List ak)}:∀(xs a:List (List ak)),(xs.foldl (qd L) a).length≤a.length+xs.length
 |[],a=>by simp
 |y::xs,a=>by
  have J:=U6 (L:=L) xs (qd L a y);have U:(qd L a y).length≤a.length+1:=by
   unfold qd;split
   ·exact Lh _ _
   ·omega
  simp only[List.foldl_cons,oa];omega
theorem ahv(L:List (List ak)):fV L=L.foldl (qd L) []:=U4 (LX L (by simp[gR])) fun x=>by rw[U7];simp
def yf(L:List (List ak))(i:Nat)(a:List (List ak)):Prop:=a=(L.take i).foldl (qd L) []
theorem yf.step{L:List (List ak)}{i:Nat}{a:List (List ak)}(h:yf L i a){e:List ak}(he:L[i]? =some e):yf L (i+1) (qd L a e):=by rw[yf,oT he,List.foldl_append,h];rfl
def wB(e d:List ak):Bool:=decide (d=e)|| !hS d e
def p2(L:List (List ak))(e:List ak)(j:Nat)(k:Bool):Prop:=k=(L.take j).all (wB e)
theorem p2.step{L:List (List ak)}{e:List ak}{j:Nat}{k:Bool}(h:p2 L e j k){d:List ak}(aE:L[j]? =some d):p2 L e (j+1) (k&&wB e d):=by rw[p2,oT aE,List.all_append,h];simp
def Gm(a:List (List ak))(e:List ak)(k:Nat):Prop:=k≤a.length∧∀c,a[k]? =some c→0≤en c e
theorem Gm.fin{a:List (List ak)}{e:List ak}{k:Nat}(h:Gm a e k)(bk:gR en a)(ar:∀d,0<k→a[k-1]? =some d→en d e<0):kh en e a=if(match a[k]? with|some y=>decide (en y e=0)|none=>false)=true then a else a.take k++e::a.drop k:=
 (Lg kH e a k (fun i c hi iQ=>by
  have ad:=h.1;obtain⟨d,aE⟩:∃d,a[k-1]? =some d:=⟨_,cb (by omega)⟩;have J:=ar d (by omega) aE;rcases Nat.lt_or_ge i (k-1)with U|U
  ·have s8:=(fU.1 iQ);have ln:=(fU.1 aE);have:=pK.1 bk i (k-1) s8.1 ln.1 U;rw[s8.2,ln.2]at this;exact kH.ltr this (by omega)
  ·have:i=k-1:=by omega
   subst this;rw[aE]at iQ;cases iQ;exact J) h.2 h.1).trans (by cases a[k]?<;>rfl)
theorem Ui(L:List (List ak))(e:List ak):ie L e=L.all (wB e):=rfl
theorem Xp{l:List (List ak)}{x:List ak}:x∈n1 en l↔x∈l:=(w3 en l).mem_iff
theorem ahu(l:List (List ak)):fV l=(cE none (n1 en l)).filter (ie (n1 en l)):=by have h:ie l=ie (n1 en l):=funext fun e=>agG (fun x=>Xp.symm) e;rw[fV,h];rfl
def mF(s:List (List ak))(i:Nat)(acc:List (List ak)):Prop:=acc++(cE (if i=0 then none else s[i-1]?) (s.drop i)).filter (ie s)=(cE none s).filter (ie s)
def fy:bE:=⟨0,[],[],[],[]⟩
noncomputable def sn(s:bE):bE:=match eT s.b s.k []with
 |none=>fy
 |some k=>match eK s.b s.m []with
  |none=>fy
  |some m=>match dm s.b k (m.filter (ek k)) s.d with
   |none=>fy
   |some L=>⟨s.n,s.b,fV L,k,m.filter (ek k)⟩
theorem HO{s s':bE}(h:dM s=some s'):sn s=s':=by
 unfold dM at h;unfold sn;cases J:eT s.b s.k []with
 |none=>rw[J]at h;cases h
 |some k=>
  rw[J]at h;simp only at h⊢;cases U:eK s.b s.m []with
  |none=>rw[U]at h;cases h
  |some m=>
   rw[U]at h;simp only at h⊢;cases ao:dm s.b k (m.filter (ek k)) s.d with
   |none=>rw[ao]at h;cases h
   |some L=>
    rw[ao]at h;simp only at h⊢;split at h
    ·cases h;rfl
    ·cases h
theorem Y6{k:List bX}(ad:jh k)(v:Int):(gS k (.var v) 2).isSome=(ki k v !=some 3):=by
 unfold gS;simp only;cases h:ki k v with
 |none=>simp
 |some x=>have:=(ad.at' _ (Aw h)).2;simp only at this;rcases this with rfl|rfl<;>simp
theorem Zg{k:List bX}(bk:k.Pairwise fun x y=>x.v<y.v)(v:Int):(k.any fun x=>x.v==v&&x.k==3)=(ki k v==some 3):=by
 rw[qt,List.any_eq_true,dK];constructor
 ·rintro⟨x,ab,h⟩;simp only[cx,dK]at h;have:=Ax bk ab;rw[h.1,h.2]at this;exact this
 ·intro h;exact⟨_,Aw h,by simp⟩
theorem GB{b:List ak}{k:List bX}{m:List bd}{d:List ak}{r:List (List ak)}(h:mgu b (eB d)=none):dm b k m (d::r)=dm b k m r:=by rw[dm,h]
theorem GA{b:List ak}{k:List bX}{m:List bd}{d x:List ak}{r:List (List ak)}(h:mgu b (eB d)=some x)(ad:eT x k []=none∨eK x m []=none):dm b k m (d::r)=dm b k m r:=by rw[dm,h];simp only[if_pos ad]
theorem Lz{b:List ak}{k:List bX}{m:List bd}{d x:List ak}{r:List (List ak)}(h:mgu b (eB d)=some x)(ad:¬(eT x k []=none∨eK x m []=none))(au:cR b x=[]):dm b k m (d::r)=none:=by rw[dm,h];simp only[if_neg ad,if_pos au]
theorem GC{b:List ak}{k:List bX}{m:List bd}{d x:List ak}{r:List (List ak)}(h:mgu b (eB d)=some x)(ad:¬(eT x k []=none∨eK x m []=none))(au:cR b x≠[]):dm b k m (d::r)=(dm b k m r).map (cR b x:: ·):=by rw[dm,h];simp only[if_neg ad,if_neg au]
def p3(b:List ak)(k:List bX)(m:List bd)(D:List (List ak))(i:Nat)(a:List (List ak)):Prop:=a.length≤i∧(∀x∈a,dn x)∧(dm b k m (D.drop i)).map (a++ ·)=dm b k m D
def dG(n:Int):T→Bool
 | .var v=>decide (v<n)
 | .pair a b=>dG n a&&dG n b
 |_=>true
theorem xu{n:Int}:∀{t:T},dG n t=true↔xt t n
 | .var v=>by simp[dG,xt,T.occ]
 | .pair a b=>by simp only[dG,cx,xu (t:=a),xu (t:=b),xt,T.occ,lY];exact⟨fun h v aI=>aI.elim (h.1 v) (h.2 v),fun h=>⟨fun v aI=>h v (.inl aI),fun v aI=>h v (.inr aI)⟩⟩
 | .nil=>by simp[dG,xt,T.occ]
 | .sym _=>by simp[dG,xt,T.occ]
 | .num _=>by simp[dG,xt,T.occ]
def kS(n:Int)(b:ak):Bool:=decide (b.v<n)&&dG n b.t
theorem vC{n:Int}{s:List ak}:s.all (kS n)=true↔o5 s n:=by simp[ig,kS,o5,xu]
def rj(v m:Int):Int:=if m<v+1 then v+1 else m
theorem Il{n:Int}:∀(t:T) (m:Int),t.fold rj m≤n↔m≤n∧dG n t=true
 | .var v,m=>by simp only[T.fold,rj,dG,fo];split<;>omega
 | .pair a b,m=>by simp only[T.fold,Il b,Il a,dG,cx,and_assoc]
 | .nil,m=>by simp[T.fold,dG]
 | .sym _,m=>by simp[T.fold,dG]
 | .num _,m=>by simp[T.fold,dG]
def Ek(v m:Int):Option Int:=if 0≤v∧v≤100000 then some (rj v m)else none
theorem N2:∀(t:T) (m:Int),t.ok=true→t.foldO Ek m=some (t.fold rj m)
 | .var v,m,h=>by
  have:0≤v∧v≤100000:=by simpa[T.ok]using h
  simp[T.foldO,T.fold,Ek,this]
 | .pair a b,m,h=>by
  have J:a.ok=true∧b.ok=true:=by simpa[T.ok]using h
  simp[T.foldO,T.fold,N2 a m J.1,N2 b _ J.2]
 | .nil,m,_=>rfl
 | .sym _,m,_=>rfl
 | .num _,m,_=>rfl
theorem mF.fst{s:List (List ak)}{t:List ak}{acc:List (List ak)}(h:mF s 0 acc)(aL:s[0]? =some t):mF s 1 (if ie s t=true then acc++[t]else acc):=by
 unfold mF at*;rw[AG aL]at h;have e:(if(1:Nat)=0 then none else s[1-1]?)=some t:=by simpa using aL
 have cr:acc++(t::cE (some t) (s.drop 1)).filter (ie s)=(cE none s).filter (ie s):=by rw[←h];simp[cE]
 rw[e,←cr];by_cases ad:ie s t=true<;>simp[ad]
theorem mF.eq{s:List (List ak)}{i:Nat}{t:List ak}{acc:List (List ak)}(h:mF s i acc)(hi:i≠0)(bB:s[i-1]? =some t)(aL:s[i]? =some t):mF s (i+1) acc:=by
 unfold mF at*;rw[if_neg hi,bB,AG aL]at h;have e:(if i+1=0 then none else s[i+1-1]?)=some t:=by rw[if_neg (by omega)];exact aL
 rw[e,←h];simp[cE]
theorem mF.ne{s:List (List ak)}{i:Nat}{p t:List ak}{acc:List (List ak)}(h:mF s i acc)(hi:i≠0)(bB:s[i-1]? =some p)(aL:s[i]? =some t)(au:¬p=t):mF s (i+1) (if ie s t=true then acc++[t]else acc):=by
 unfold mF at*;rw[if_neg hi,bB,AG aL]at h;have e:(if i+1=0 then none else s[i+1-1]?)=some t:=by rw[if_neg (by omega)];exact aL
 have aE:cE (some p) (t::s.drop (i+1))=t::cE (some t) (s.drop (i+1)):=by simp[cE,au]
 rw[aE]at h;rw[e,←h];by_cases ad:ie s t=true<;>simp[ad]
theorem alw(l:List (List ak)):(n1 en l).length=l.length:=(w3 en l).length_eq
theorem yi(S:aJ→Prop)(l:List (List ak))(d:List ak):aN S (l.map cy++[cy d])=True:=by have:=Lw S (l++[d]);rw[List.map_append]at this;exact eq_true this
set_option maxRecDepth 4000 in
theorem al3(l:List (List ak))(hg:∀d∈l,dn d):bS az 124 [.slice 1 .no (l.map cy)] (.slice 1 .no ((fV l).map cy)):=by
 generalize bH:fV l=R;rw[ahu]at bH;refine bq xa abb ahW fun aP=>?_;unfold Pc;have gV:l.length≤68719476736:=by simp[gD,fY,gx,lim]at aP;omega
 simp;refine eC [0,12,13] (fun i (_:Unit)=>[(14,.int .i64 i)]) l.length (fun _ _=>True) () b3 trivial (fun _ _ _=>?_) (fun i _ hi _ _=>?_);rotate_left
 ·obtain⟨e,he,Ks⟩:=eZ hi;have dt:bS az 55 [cy e] (.bool true):=oV (hg e (fR he));exact jl
 simp;(with_reducible repeat' first|refine aj ?_|simp);all_goals first|(refine⟨by unfold lim;omega,?_⟩)|skip
 all_goals(with_reducible repeat' first|refine aj ?_|simp)
 refine cM.ob (adO l gV) (Iv l) (by unfold uc dO;exact aG) (by unfold uc dO;exact aG) (by simp[inObs,dO,Pv.look]) ?_;rintro r s' ⟨rfl,rfl⟩;refine⟨xm _ _,?_⟩;obtain⟨s,CT⟩:∃s,s=n1 en l:=⟨_,rfl⟩;have p0:s.length=l.length:=by rw[CT];exact alw l
 have af:∀d∈s,dn d:=fun d aE=>hg d (by rw[CT,Xp]at aE;exact aE);rw[←CT]at bH;rw[←CT];clear CT;simp[uc,dO,b0];refine iN (fun i (acc:List (List ak))=>⟨[(5,.ptr (.obj 822) 0),(6,.slice 1 (.own (.loc 0)) (acc.map cy)),(30,.row 1 (.obj 821) s.length),(31,.int .i64 s.length),(32,.int .i64 i)],[(.obj 822,[.row 1 (.obj 821) s.length])],[(.loc 0,⟨acc.length,23,1,none⟩),(.obj 821,⟨s.length,23,1,some (s.map cy)⟩)],1,[.obj 821,.obj 822]⟩) s.length (fun i acc=>acc.length≤i∧mF s i acc) [] b3 ⟨by simp,by simp[mF]⟩ (fun acc ag _=>?_) (fun i acc hi ag _=>?_)
 ·have ag:=ag.2;rw[mF,List.drop_length]at ag;have:acc=R:=by rw[←bH];simpa[cE]using ag
  subst this;exact cB
 ·obtain⟨aoA,ag⟩:=ag;have pX:acc.length≤68719476735:=by omega
  obtain⟨t,qX,aL⟩:=eZ hi;have c8:=af t (fR qX);have iD:bS az 119 [cy t] (cy t):=Ee t c8.len;have jJ:(if ie s t=true then acc++[t]else acc).length≤acc.length+1:=by split<;>simp
  rcases Nat.eq_zero_or_pos i with rfl|fE
  ·have Tn:=ag.fst qX;have ft:(if ie s t=true then acc++[t]else acc).length≤0+1∧mF s (0+1) (if ie s t=true then acc++[t]else acc):=⟨jR jJ (by omega),Tn⟩;clear ag Tn qX;simp[hi,aL];(with_reducible repeat' first|refine aj ?_|simp[hi,aL]);refine eC [5,6,8,30,31,32,49,50] (fun j (b:Bool)=>[(9,.bool b),(51,.int .i64 j)]) s.length (p2 s t) true b3 (by simp[p2]) (fun keep ag _=>?_) (fun j keep ec ag _=>?_)
   ·rw[p2,nH,←Ui]at ag;rw[←ag]at ft;clear ag;cases keep with
    |false=>simp only[gC,if_false]at ft;simp;((with_reducible repeat' first|refine aj ?_|simp|((first|apply bG|apply bL|apply bK)<;>intro h<;>try simp at h))<;>(try exact cg));all_goals exact bN.rng acc hi ft b3
    |true=>
     simp only[if_true]at ft;clear jJ;simp;((with_reducible repeat' first|refine aj ?_|refine aB iD ?_|refine aC iD ?_|simp|((first|apply bG|apply bL|apply bK)<;>intro h<;>try simp at h))<;>(try exact cg));all_goals first|(refine⟨by unfold lim;omega,?_⟩)|skip
     all_goals(with_reducible repeat' first|refine aj ?_|simp)
     all_goals exact bN.rng (acc++[t]) hi ft ⟨by simp[fresh,aN,aH,cn,inObs,Pv.look,yi],eM (by simp[fresh,aN,aH,cn,inObs,Pv.look,yi]),eN (by simp[fresh,aN,aH,ej,inObs,Pv.look,yi]),by simp⟩
   ·obtain⟨d,aE,hdi⟩:=eZ ec;have au:=ag.step aE;have kB:=af d (fR aE);have dY:bS az 205 [cy d,cy t] (.bool (hS d t)):=Yi d kB.len c8;have oM:bS az 204 [cy d,cy t] (.int .i64 (en d t)):=Ig d t;clear ag aE ft;by_cases q:en d t=0
    ·rw[wB,kp ((kH.zero _ _).1 q),Bool.true_or,Bool.and_true]at au;rw[q]at oM;simp[ec,hdi];((with_reducible repeat' first|refine aj ?_|refine aB oM ?_|refine aC oM ?_|simp[ec,hdi]|((first|apply bG|apply bL|apply bK)<;>intro h<;>try simp at h))<;>(try exact cg));all_goals exact bN.rng keep ec au b3
    ·rw[wB,lB (fun h=>q ((kH.zero _ _).2 h)),Bool.false_or]at au;have gA:(en d t !=0)=true:=by simp[q]
     cases aR:hS d t
     ·rw[aR]at au dY;simp only[Bool.not_false,Bool.and_true]at au;simp[ec,hdi];((with_reducible repeat' first|refine aj ?_|refine aB oM ?_|refine aC oM ?_|refine aB dY ?_|refine aC dY ?_|simp[ec,hdi,q,gA]|((first|apply bG|apply bL|apply bK)<;>intro h<;>try simp at h))<;>(try exact cg));all_goals exact bN.rng keep ec au b3
     ·rw[aR]at au dY;simp only[Bool.not_true,Bool.and_false]at au;simp[ec,hdi];((with_reducible repeat' first|refine aj ?_|refine aB oM ?_|refine aC oM ?_|refine aB dY ?_|refine aC dY ?_|simp[ec,hdi,q,gA]|((first|apply bG|apply bL|apply bK)<;>intro h<;>try simp at h))<;>(try exact cg));all_goals exact bN.rng false ec au b3
  ·obtain⟨p,z7⟩:∃p,s[i-1]? =some p:=⟨_,cb (by omega)⟩;have ai:((i:Int)-1).toNat=i-1:=by omega
   have ax:∀h,(s[i-1]'h)=p:=fun h=>by rw[cb h]at z7;exact e3 z7
   have bn:¬i=0:=by omega
   have dp:i-1<s.length:=by omega
   have iV:(0:Int)<i:=by omega
   have jh:bS az 204 [cy p,cy t] (.int .i64 (en p t)):=Ig p t;by_cases F4:p=t
   ·have ft:acc.length≤i+1∧mF s (i+1) acc:=⟨by omega,ag.eq bn (by rw[z7,F4]) qX⟩;rw[(kH.zero _ _).2 F4]at jh;clear ag qX z7;simp[hi,aL,ai,ax,dp,iV];((with_reducible repeat' first|refine aj ?_|refine aB jh ?_|refine aC jh ?_|simp[hi,aL,ai,ax,dp,fE,iV]|((first|apply bG|apply bL|apply bK)<;>intro h<;>try simp at h))<;>(try exact cg));all_goals exact bN.rng acc hi ft b3
   ·have ft:(if ie s t=true then acc++[t]else acc).length≤i+1∧mF s (i+1) (if ie s t=true then acc++[t]else acc):=⟨jR jJ (by omega),ag.ne bn z7 qX F4⟩;have oQ:¬en p t=0:=fun h=>F4 ((kH.zero _ _).1 h);have VW:(en p t==0)=false:=by simp[oQ]
    clear ag qX z7;simp[hi,aL,ai,ax,dp,iV];((with_reducible repeat' first|refine aj ?_|refine aB jh ?_|refine aC jh ?_|simp[hi,aL,ai,ax,dp,fE,iV,oQ,VW]|((first|apply bG|apply bL|apply bK)<;>intro h<;>try simp at h))<;>(try exact cg));refine eC [5,6,8,30,31,32,49,50] (fun j (b:Bool)=>[(9,.bool b),(51,.int .i64 j)]) s.length (p2 s t) true b3 (by simp[p2]) (fun keep ag _=>?_) (fun j keep ec ag _=>?_)
    ·rw[p2,nH,←Ui]at ag;rw[←ag]at ft;clear ag;cases keep with
     |false=>simp only[gC,if_false]at ft;simp;((with_reducible repeat' first|refine aj ?_|simp|((first|apply bG|apply bL|apply bK)<;>intro h<;>try simp at h))<;>(try exact cg));all_goals exact bN.rng acc hi ft b3
     |true=>
      simp only[if_true]at ft;clear jJ;simp;(with_reducible repeat' first|refine aj ?_|refine aB iD ?_|refine aC iD ?_|simp);all_goals first|(refine⟨by unfold lim;omega,?_⟩)|skip
      all_goals(with_reducible repeat' first|refine aj ?_|simp)
      all_goals exact bN.rng (acc++[t]) hi ft ⟨by simp[fresh,aN,aH,cn,inObs,Pv.look,yi],eM (by simp[fresh,aN,aH,cn,inObs,Pv.look,yi]),eN (by simp[fresh,aN,aH,ej,inObs,Pv.look,yi]),by simp⟩
    ·obtain⟨d,aE,hdi⟩:=eZ ec;have au:=ag.step aE;have kB:=af d (fR aE);have dY:bS az 205 [cy d,cy t] (.bool (hS d t)):=Yi d kB.len c8;have oM:bS az 204 [cy d,cy t] (.int .i64 (en d t)):=Ig d t;clear ag aE ft;by_cases q:en d t=0
     ·rw[wB,kp ((kH.zero _ _).1 q),Bool.true_or,Bool.and_true]at au;rw[q]at oM;simp[ec,hdi];((with_reducible repeat' first|refine aj ?_|refine aB oM ?_|refine aC oM ?_|simp[ec,hdi]|((first|apply bG|apply bL|apply bK)<;>intro h<;>try simp at h))<;>(try exact cg));all_goals exact bN.rng keep ec au b3
     ·rw[wB,lB (fun h=>q ((kH.zero _ _).2 h)),Bool.false_or]at au;have gA:(en d t !=0)=true:=by simp[q]
      cases aR:hS d t
      ·rw[aR]at au dY;simp only[Bool.not_false,Bool.and_true]at au;simp[ec,hdi];((with_reducible repeat' first|refine aj ?_|refine aB oM ?_|refine aC oM ?_|refine aB dY ?_|refine aC dY ?_|simp[ec,hdi,q,gA]|((first|apply bG|apply bL|apply bK)<;>intro h<;>try simp at h))<;>(try exact cg));all_goals exact bN.rng keep ec au b3
      ·rw[aR]at au dY;simp only[Bool.not_true,Bool.and_false]at au;simp[ec,hdi];((with_reducible repeat' first|refine aj ?_|refine aB oM ?_|refine aC oM ?_|refine aB dY ?_|refine aC dY ?_|simp[ec,hdi,q,gA]|((first|apply bG|apply bL|apply bK)<;>intro h<;>try simp at h))<;>(try exact cg));all_goals exact bN.rng false ec au b3
theorem amO(l:List T)(h:∀t∈l,t.fit=true):bS az 68 [.slice 4 .no (l.map T.e)] (.bool true):=by
 refine bq fH RI Vv fun aP=>?_;unfold I6;have gV:l.length≤68719476736:=by simp[gD,fY,gx,lim]at aP;omega
 simp;refine eC [5,6] (fun i (_:Unit)=>[(7,.int .i64 i)]) l.length (fun _ _=>True) () b3 trivial (fun _ _ _=>?_) (fun i _ hi _ _=>?_)
 ·exact cB
 ·obtain⟨t,aL,qX⟩:=eZ hi;have dE:=y1 (h t (fR aL));clear aL;exact jl
def iJ(m:Int):cI:=⟨[(.obj 831,[.int .i64 m])],[]⟩
theorem vz(m:Int):dL (iJ m):=by unfold iJ;exact dL.of ⟨by intro m;simp[Pv.look],by intro m;simp[Pv.look]⟩ (by simp) (by simp)
theorem YV(a b:Int):Same (iJ a) (iJ b):=Same.keys (by simp[iJ]) (by simp[iJ])
theorem adm(v m m':Int)(h:Ek v m=some m'):bC az 193 [.int .i64 v,.ptr (.obj 831) 0] (iJ m) fun r s'=>r= .tuple []∧s'=iJ m':=by
 unfold Ek at h;split at h;rotate_left
 ·cases h
 rename_i aI;cases h;have af:=vz m;simp only[iJ]at af⊢;by_cases hm:m<v+1
 ·rw[rj,if_pos hm];refine bC.mk mixed xa RD Vq (by simp) af.obj fun aP cF=>?_;unfold I1;simp;(with_reducible repeat' first|refine aj ?_|simp[hm]);(refine cJ.at (iJ (v+1)) (by simp) (by first|exact vz _|exact vz ‹_› _) (Same.keys (by simp[iJ]) (by simp[iJ])) (by simp only[iJ,bR,bY];exact aG) (by simp only[iJ,bR,bY];exact aG) ?_;simp[cP,MC,aT,aW,aQ,inObs,Pv.look,iJ])
 ·rw[rj,if_neg hm];refine bC.mk mixed xa RD Vq (by simp) af.obj fun aP cF=>?_;unfold I1;simp;(with_reducible repeat' first|refine aj ?_|simp[hm]);(refine cJ.at (iJ m) (by simp) (by first|exact vz _|exact vz ‹_› _) (Same.keys (by simp[iJ]) (by simp[iJ])) (by simp only[iJ,bR,bY];exact aG) (by simp only[iJ,bR,bY];exact aG) ?_;simp[cP,MC,aT,aW,aQ,inObs,Pv.look,iJ])
def xd(l:List T):Int:=l.foldl (fun m t=>t.fold rj m) 0
def Gn(l:List T)(i:Nat)(m:Int):Prop:=m=xd (l.take i)
theorem XW(l:List T)(h:∀t∈l,t.fit=true):bS az 116 [.slice 4 .no (l.map T.e)] (.int .i64 (xd l)):=by
 have dE:=amO l h;generalize bH:xd l=R;refine bq xa abj ah4 fun aP=>?_;unfold Pl;have gV:l.length≤68719476736:=by simp[gD,fY,gx,lim]at aP;omega
 simp;(with_reducible repeat' first|refine aj ?_|refine aB dE ?_|refine aC dE ?_|simp);refine iN (fun i (m:Int)=>⟨[(3,.ptr (.obj 831) 0),(9,.slice 4 .no (l.map T.e)),(10,.int .i64 l.length),(11,.int .i64 i)],[(.obj 831,[.int .i64 m])],[],0,[.obj 831]⟩) l.length (Gn l) 0 b3 rfl (fun m ag _=>?_) (fun i m hi ag _=>?_)
 ·rw[Gn,nH,bH]at ag;subst ag;exact cB
 ·obtain⟨t,aL,qX⟩:=eZ hi;have aeJ:t.ok=true:=by have:=h t (fR aL);simp only[T.fit,cx]at this;exact this.1
  have au:Gn l (i+1) (t.fold rj m):=by rw[Gn,oT aL,xd,List.foldl_append,ag];rfl
  have key:=J5 iJ vz YV 193 [.ptr (.obj 831) 0] (fun a=>by simp[iJ,inObs,Pv.look]) (by simp) Ek (fun v a be h=>adm v a be h) t m _ (N2 t m aeJ);clear ag aL;simp[hi,qX];(with_reducible repeat' first|refine aj ?_|simp[qX,hi]);(refine cM.ob (key) (by first|exact vz _|exact vz ‹_› _) (by simp only[iJ,bR,bY];exact aG) (by simp only[iJ,bR,bY];exact aG) (by simp[inObs,Pv.look,iJ]) ?_;rintro r s' ⟨rfl,rfl⟩;refine⟨(Same.keys (by simp[iJ]) (by simp[iJ])),?_⟩;simp[b0,iJ]);(with_reducible repeat' first|refine aj ?_|simp);refine bN.rng (t.fold rj m) hi au ?_;exact b3
theorem XX{s:List ak}(af:dn s){n:Int}(au:0≤n):bS az 58 [.slice 5 .no (s.map ak.e),.int .i64 n] (.bool (s.all (kS n))):=by
 have p0:=af.len;generalize bH:s.all (kS n)=R;refine bq xa abk ah5 fun aP=>?_;unfold Pm;simp;refine eC [1,7,8] (fun i (_:Unit)=>[(9,.int .i64 i)]) s.length (pw (kS n) s) () b3 (fun k b ad=>by omega) (fun _ ag _=>?_) (fun i _ hi ag _=>?_)
 ·have:R=true:=by rw[←bH,ig];intro b ae;obtain⟨k,ad,e⟩:=nG ae;exact ag k b ad (by rw[cb ad,e])
  rw[this];exact cB
 ·obtain⟨b,aI,gj⟩:=eZ hi;have gF:kS n b=false→R=false:=fun h=>by rw[←bH,Bool.eq_false_iff];intro cr;rw[ig]at cr;rw[cr b (fR aI)]at h;cases h
  have ic:=XW [b.t] (fun t aL=>by simp at aL;subst aL;exact af.fit b (fR aI));have hle:=Il (n:=n) b.t 0;rw[show xd [b.t]=b.t.fold rj 0 from rfl]at ic;simp only[gP,mO]at ic;generalize b.t.fold rj 0=m at ic hle;by_cases J:b.v<n
  ·have nP:¬n≤b.v:=by omega
   cases U:dG n b.t
   ·have ao:n<m:=by rw[U]at hle;simp at hle;omega
    rw[gF (by simp[kS,U])];clear ag aI hle;exact cB
   ·have ao:¬n<m:=by rw[U]at hle;simp[au]at hle;omega
    have iU:=ag.step aI (by simp[kS,J,U]);clear ag aI hle;exact jl
  ·have nP:n≤b.v:=by omega
   rw[gF (by simp[kS,J])];clear ag aI hle;exact cB
def vD:C:=(aa [cO 1 0,bj 2 false] (.seq (aa [aF 11 0 1 1,aw 12 1 11,aU 13 .lss 12 0,I 14 13,al 14 false (aF 15 0 1 1),al 14 false (aw 16 1 15),al 14 false (aU 17 .gtr 16 100000),cW 18 14 17,I 19 18,al 19 false (aF 20 1 1 1),al 19 false (aw 21 1 20),al 19 false (cL 22 55 21),al 19 false (ct 23 22),cW 24 19 23,I 25 24,al 25 false (aF 26 3 1 1),al 25 false (aw 27 1 26),al 25 false (cL 28 56 27),al 25 false (ct 29 28),cW 30 25 29,I 31 30,al 31 false (aF 32 4 1 1),al 31 false (aw 33 1 32),al 31 false (cL 34 57 33),al 31 false (ct 35 34),cW 36 31 35,I 37 36,al 37 false (aF 38 1 1 1),al 37 false (aw 39 1 38),al 37 false (aF 40 0 1 1),al 37 false (aw 41 1 40),al 37 false (ck 42 58 39 41),al 37 false (ct 43 42),cW 44 37 43] (aZ 44 (aa [bj 2 false] .ret) .skip)) (.seq (aa [aF 45 2 1 1,aw 46 1 45,cv 47 46,cc 48 0] (fe 49 48 47 (.seq (.block 1 (aa [cw 50 1 46 48,aw 51 1 50,I 4 51] (aa [I 52 4,cL 53 55 52,ct 54 53,I 55 54,bZ 55 false 56 4,al 55 false (aF 57 0 1 1),al 55 false (aw 58 1 57),al 55 false (ck 59 58 56 58),al 55 false (ct 60 59),cW 61 55 60] (aZ 61 (aa [bj 2 false] .ret) .skip)))) (.region [aU 62 .add 48 1,I 48 62])))) (.seq (aa [aF 63 3 1 1,aw 64 1 63,cv 65 64,cc 66 0] (.block 2 (.loop (aa [br 67 .lss 66 65] (.seq (aZ 67 .skip (.exit 2)) (.seq (.block 3 (aa [cw 68 2 64 66,aX 69 2 68,c0 (.alloc 6 none (.agg [.int .i64 0,.int .i64 0])),bz 2 6 69] (aa [aF 70 0 1 6,aw 71 1 70,aF 72 0 1 1,aw 73 1 72,br 74 .geq 71 73] (aZ 74 (aa [bj 2 false] .ret) .skip)))) (.region [aU 75 .add 66 1,I 66 75]))))))) (.seq (aa [aF 76 4 1 1,aw 77 1 76,cv 78 77,cc 79 0] (.block 4 (.loop (aa [br 80 .lss 79 78] (.seq (aZ 80 .skip (.exit 4)) (.seq (.block 5 (aa [cw 81 2 77 79,aX 82 2 81,c0 (.alloc 8 none (.agg [.int .i64 0,.str []])),bz 2 8 82] (aa [aF 83 0 1 8,aw 84 1 83,aF 85 0 1 1,aw 86 1 85,br 87 .geq 84 86] (aZ 87 (aa [bj 2 false] .ret) .skip)))) (.region [aU 88 .add 79 1,I 79 88]))))))) (aa [aX 90 5 1,cL 91 50 90,I 89 91,cd 92 0 89,cd 93 1 89,cS 9 e1,bz 5 9 92,I 10 93] (aa [I 94 10,I 95 94,al 95 true (aX 96 5 9),al 95 true (aX 97 5 1),al 95 true (ck 98 59 96 97),dv 99 95 98,I 2 99] .ret)))))))
@[simp] def aj7:List bA:=[.tmp 2]
def E1:C:=(aa [cO 1 0,cS 2 e1,bj 3 false] (aa [aF 26 1 1 1,aw 27 1 26,aF 28 3 1 1,aw 29 1 28,ck 30 120 27 29,I 25 30,cd 31 0 25,cd 32 1 25,I 4 31,I 5 32] (aa [aF 34 1 1 1,aw 35 1 34,aF 36 4 1 1,aw 37 1 36,ck 38 121 35 37,I 33 38,cd 39 0 33,cd 40 1 33,I 6 39,I 7 40] (.seq (aa [I 41 5,ct 42 41,I 43 42,bZ 43 false 44 7,al 43 false (ct 45 44),cW 46 43 45] (aZ 46 (aa [gJ 47 e1 [],bz 5 2 47,bj 3 false] .ret) .skip)) (aa [c0 (.mkmap 48 none),I 8 48] (.seq (aa [I 49 4,cv 50 49,cc 51 0] (fe 52 51 50 (.seq (.block 1 (aa [cw 53 2 49 51,aX 54 2 53,c0 (.alloc 10 none (.agg [.int .i64 0,.int .i64 0])),bz 2 10 54] (aa [aF 55 1 1 10,aw 56 1 55,aU 57 .eql 56 3] (aZ 57 (.region [I 58 8,aF 59 0 1 10,aw 60 1 59,c0 (.mput .i (.t 58) (.t 60) (.c (.bool true)))]) .skip)))) (.region [aU 61 .add 51 1,I 51 61])))) (aa [eb 62 2 106 [],I 11 62] (.seq (aa [I 63 6,cv 64 63,cc 65 0] (.block 2 (.loop (aa [br 66 .lss 65 64] (.seq (aZ 66 .skip (.exit 2)) (.seq (.block 3 (aa [cw 67 2 63 65,aX 68 2 67,c0 (.alloc 13 none (.agg [.int .i64 0,.str []])),bz 2 13 68] (aa [I 69 8,aF 70 0 1 13,aw 71 1 70,bW 72 (.mget .i (.bool false) false (.t 69) (.t 71)),ct 73 72] (aZ 73 (.region [I 74 11,aX 75 2 13,eb 76 2 106 [.t 75],gO 77 2 106 74 76,I 11 77]) .skip)))) (.region [aU 78 .add 65 1,I 65 78]))))))) (aa [eb 79 1 23 [],I 14 79] (.seq (aa [aF 80 2 1 1,aw 81 1 80,cv 82 81,cc 83 0] (.block 4 (.loop (aa [br 84 .lss 83 82] (.seq (aZ 84 .skip (.exit 4)) (.seq (.block 5 (aa [cw 85 1 81 83,aw 86 1 85,I 16 86] (aa [aF 88 1 1 1,aw 89 1 88,I 90 16,ck 91 122 89 90,I 87 91,cd 92 0 87,cd 93 1 87,I 17 92,I 18 93] (.seq (aa [I 94 18,ct 95 94] (aZ 95 (.exit 5) .skip)) (aa [I 97 17,I 98 4,ck 99 120 97 98,I 96 99,cd 100 0 96,cd 101 1 96,I 19 100,I 20 101] (aa [I 103 17,I 104 11,ck 105 121 103 104,I 102 105,cd 106 0 102,cd 107 1 102,I 21 106,I 22 107] (.seq (aa [I 108 20,ct 109 108,I 110 109,bZ 110 false 111 22,al 110 false (ct 112 111),cW 113 110 112] (aZ 113 (.exit 5) .skip)) (aa [aF 114 1 1 1,aw 115 1 114,I 116 17,ck 117 123 115 116,I 23 117] (.seq (aa [I 118 23,cv 119 118,aU 120 .eql 119 0] (aZ 120 (aa [gJ 121 e1 [],bz 5 2 121,bj 3 false] .ret) .skip)) (.region [I 122 14,I 123 23,eb 124 1 23 [.t 123],gO 125 1 23 122 124,I 14 125])))))))))) (.region [aU 126 .add 83 1,I 83 126]))))))) (aa [I 127 14,cL 128 124 127,I 24 128] (.seq (aa [I 129 24,cv 130 129,aU 131 .gtr 130 30] (aZ 131 (aa [gJ 132 e1 [],bz 5 2 132,bj 3 false] .ret) .skip)) (.seq (.drawn true 142 [aF 133 0 1 1,aw 134 1 133,aF 135 1 1 1,aw 136 1 135,cL 137 119 136,I 138 24,I 139 4,I 140 11,gJ 141 e1 [(0,1,(.t 134)),(1,1,(.t 137)),(2,1,(.t 138)),(3,1,(.t 139)),(4,1,(.t 140))],bz 5 2 141,bj 3 true]) .ret)))))))))))))
@[simp] def A8:List bA:=[.cell 2 true 5,.tmp 3]
def xy:C:=(aa [cO 2 0,cO 3 1,bj 4 false] (.seq (aa [aF 8 0 1 2,aw 9 1 8,aF 10 0 1 3,aw 11 1 10,br 12 .neq 9 11,I 13 12,al 13 false (aF 14 1 1 2),al 13 false (aw 15 1 14),al 13 false (aF 16 1 1 3),al 13 false (aw 17 1 16),al 13 false (ck 18 135 15 17),al 13 false (ct 19 18),cW 20 13 19,I 21 20,al 21 false (aF 22 2 1 2),al 21 false (aw 23 1 22),al 21 false (cv 24 23),al 21 false (aF 25 2 1 3),al 21 false (aw 26 1 25),al 21 false (cv 27 26),al 21 false (br 28 .neq 24 27),cW 29 21 28,I 30 29,al 30 false (aF 31 3 1 2),al 30 false (aw 32 1 31),al 30 false (cv 33 32),al 30 false (aF 34 3 1 3),al 30 false (aw 35 1 34),al 30 false (cv 36 35),al 30 false (br 37 .neq 33 36),cW 38 30 37,I 39 38,al 39 false (aF 40 4 1 2),al 39 false (aw 41 1 40),al 39 false (cv 42 41),al 39 false (aF 43 4 1 3),al 39 false (aw 44 1 43),al 39 false (cv 45 44),al 39 false (br 46 .neq 42 45),cW 47 39 46] (aZ 47 (aa [bj 4 false] .ret) .skip)) (.seq (aa [aF 48 2 1 2,aw 49 1 48,cv 50 49,cc 51 0] (fe 52 51 50 (.seq (.block 1 (aa [I 53 51,I 5 53] (.seq (.drawn true 103 [aF 54 2 1 2,aw 55 1 54,I 56 5,cw 57 1 55 56,aw 58 1 57,aF 59 2 1 3,aw 60 1 59,I 61 5,cw 62 1 60 61,aw 63 1 62,ck 64 135 58 63,ct 65 64]) (aZ 65 (aa [bj 4 false] .ret) .skip)))) (.region [aU 66 .add 51 1,I 51 66])))) (.seq (aa [aF 67 3 1 2,aw 68 1 67,cv 69 68,cc 70 0] (.block 2 (.loop (aa [br 71 .lss 70 69] (.seq (aZ 71 .skip (.exit 2)) (.seq (.block 3 (aa [I 72 70,I 6 72] (.seq (.drawn true 103 [aF 73 3 1 2,aw 74 1 73,I 75 6,cw 76 2 74 75,aX 77 2 76,aF 78 3 1 3,aw 79 1 78,I 80 6,cw 81 2 79 80,aX 82 2 81,bW 83 (.beq true (some [false,false]) (.t 77) (.t 82))]) (aZ 83 (aa [bj 4 false] .ret) .skip)))) (.region [aU 84 .add 70 1,I 70 84]))))))) (.seq (aa [aF 85 4 1 2,aw 86 1 85,cv 87 86,cc 88 0] (.block 4 (.loop (aa [br 89 .lss 88 87] (.seq (aZ 89 .skip (.exit 4)) (.seq (.block 5 (aa [I 90 88,I 7 90] (.seq (.drawn true 103 [aF 91 4 1 2,aw 92 1 91,I 93 7,cw 94 2 92 93,aX 95 2 94,aF 96 4 1 3,aw 97 1 96,I 98 7,cw 99 2 97 98,aX 100 2 99,bW 101 (.beq true (some [false,true]) (.t 95) (.t 100))]) (aZ 101 (aa [bj 4 false] .ret) .skip)))) (.region [aU 102 .add 88 1,I 88 102]))))))) (aa [bj 4 true] .ret))))))
@[simp] def Hi:List bA:=[.tmp 4]
def H5:List (Nat×dx):=[
 (3,⟨1,8,.int .i64,.int .i64 0⟩),
 (4,⟨1,1,.bool,.bool false⟩),
 (9,⟨1,16,.str,.str []⟩),
 (23,⟨1,24,.slice 61,.slice 5 .nil []⟩),
 (24,⟨1,24,.slice 23,.slice 1 .nil []⟩),
 (25,⟨1,24,.slice 104,.slice 2 .nil []⟩),
 (26,⟨1,24,.slice 106,.slice 2 .nil []⟩),
 (28,⟨5,104,.struct [(0,3),(1,23),(2,24),(3,25),(4,26)],.agg [.int .i64 0,.slice 5 .nil [],.slice 1 .nil [],.slice 2 .nil [],.slice 2 .nil []]⟩),
 (104,⟨2,16,.struct [(0,3),(1,3)],.agg [.int .i64 0,.int .i64 0]⟩),
 (106,⟨2,24,.struct [(0,3),(1,9)],.agg [.int .i64 0,.str []]⟩),
 (154,⟨1,8,.map 3 4,.junk⟩)]
theorem n4:fP az H5=true:=by kernel_rfl
theorem yx:b4 H5 vD aj7 1 Tryz.f18=true:=by kernel_rfl
theorem xB:az.funcs[(18:Nat)]? =some Tryz.f18:=Tryz.func18
theorem Mh:b4 H5 E1 A8 1 Tryz.f50=true:=by kernel_rfl
theorem JR:az.funcs[(50:Nat)]? =some Tryz.f50:=Tryz.func50
theorem AX:b4 H5 xy Hi 2 Tryz.f59=true:=by kernel_rfl
theorem zz:az.funcs[(59:Nat)]? =some Tryz.f59:=Tryz.func59
def bE.e(s:bE):ah:= .agg [.int .i64 s.n,.slice 5 .no (s.b.map ak.e),.slice 1 .no (s.d.map cy),.slice 2 .no (s.k.map bX.e),.slice 2 .no (s.m.map bd.e)]
@[simp] theorem apH(S:aJ→Prop)(s:bE):aH S s.e=True:=by simp[bE.e,aH,aN]
def hI(o:Option bE):ah:= .tuple [(o.getD fy).e,.bool o.isSome]
@[simp] theorem apF(S:aJ→Prop)(o:Option bE):aH S (hI o)=True:=by simp[hI,aH,aN]
def uP(k:List bX)(i:Nat)(l:List (Int×Bool)):Prop:= ∀v,(tg v l).getD false=(k.take i).any fun x=>x.v==v&&x.k==3
theorem uP.put{k:List bX}{i:Nat}{l:List (Int×Bool)}(h:uP k i l){x:bX}(ab:k[i]? =some x)(ao:x.k=3):uP k (i+1) (eX x.v true l):=fun v=>by
 rw[nB,oT ab,List.any_append,←h v];by_cases e:v=x.v
 ·rw[if_pos e];simp[e,ao]
 ·rw[if_neg e];have:(x.v==v)=false:=by simp;exact fun h=>e h.symm
  simp[this]
theorem uP.skip{k:List bX}{i:Nat}{l:List (Int×Bool)}(h:uP k i l){x:bX}(ab:k[i]? =some x)(ao:¬x.k=3):uP k (i+1) l:=fun v=>by
 rw[oT ab,List.any_append,←h v];have:(x.k==3)=false:=by simp[ao]
 simp[this]
theorem uP.fin{k:List bX}{l:List (Int×Bool)}(h:uP k k.length l)(ad:jh k)(x:bd):(tg x.v l).getD false= !ek k x:=by rw[h x.v,nH,Zg ad.asc,ek,bne,Bool.not_not]
def tn(k:List bX)(m:List bd)(i:Nat)(a:List bd):Prop:=a=(m.take i).filter (ek k)
theorem tn.step{k:List bX}{m:List bd}{i:Nat}{a:List bd}(h:tn k m i a){x:bd}(ab:m[i]? =some x):tn k m (i+1) (if ek k x=true then a++[x]else a):=by
 rw[tn,oT ab,List.filter_append,←h];by_cases e:ek k x=true
 ·rw[if_pos e];simp[e]
 ·rw[if_neg e];simp[e]
theorem Az(S:aJ→Prop)(l:List bd)(d:bd):aN S (l.map bd.e++[d.e])=True:=by have:=Lv S (l++[d]);rw[List.map_append]at this;exact eq_true this
theorem UP{k:List bX}{m:List bd}(h:jj m):jj (m.filter (ek k)):=⟨fun x ab=>h.at' x (ha.1 ab).1,vv _ h.asc⟩
theorem HZ{G:List (List cQ)}{k:List bX}{m:List bd}(h:lx G m):lx G (m.filter (ek k)):=fun x ab=>h x (ha.1 ab).1
theorem p3.skip{b:List ak}{k:List bX}{m:List bd}{D:List (List ak)}{i:Nat}{a:List (List ak)}(h:p3 b k m D i a){d:List ak}(aE:D[i]? =some d)(he:∀r,dm b k m (d::r)=dm b k m r):p3 b k m D (i+1) a:=⟨by have:=h.1;omega,h.2.1,by rw[←h.2.2,AG aE,he]⟩
theorem p3.snoc{b:List ak}{k:List bX}{m:List bd}{D:List (List ak)}{i:Nat}{a:List (List ak)}(h:p3 b k m D i a){d x:List ak}(aE:D[i]? =some d)(ab:dn x)(he:∀r,dm b k m (d::r)=(dm b k m r).map (x:: ·)):p3 b k m D (i+1) (a++[x]):=
 ⟨by have:=h.1;simp;omega,fun y aD=>by
  rcases iH.1 aD with aD|aD
  ·exact h.2.1 y aD
  ·simp at aD;subst aD;exact ab,by
  rw[←h.2.2,AG aE,he,Option.map_map];congr 1;funext r;simp⟩
theorem p3.stop{b:List ak}{k:List bX}{m:List bd}{D:List (List ak)}{i:Nat}{a:List (List ak)}(h:p3 b k m D i a){d:List ak}(aE:D[i]? =some d)(he:∀r,dm b k m (d::r)=none):dm b k m D=none:=by rw[←h.2.2,AG aE,he];rfl
theorem p3.fin{b:List ak}{k:List bX}{m:List bd}{D:List (List ak)}{a:List (List ak)}(h:p3 b k m D D.length a):dm b k m D=some a:=by rw[←h.2.2,List.drop_length];simp[dm]
theorem ts(S:aJ→Prop)(l:List (List ak))(d:List ak):aN S (l.map cy++[.slice 5 .no (d.map ak.e)])=True:=yi S l d
theorem B7{d:List ak}(aE:dn d):∀e∈eB d,e.1.ok=true∧e.2.ok=true:=fun e he=>by obtain⟨c,ar,rfl⟩:=hJ.1 he;have:=aE.ok c ar;exact⟨by simpa[T.ok]using this.1,this.2⟩
set_option maxRecDepth 4000 in
theorem BE{s:bE}(h:h5 s){G:List (List cQ)}(hf:G.length≤687000)(aR:lx G s.m):bS az 50 [s.e] (hI (dM s)):=by
 generalize dh:dM s=O;have kD:=XT h.b h.k;have kE:=XU h.b h.m hf aR;have jw:=fun k=>yI (acc:=[]) (a:=k) h.b h.k.at' ⟨by simp,by simp⟩;have qe:=fun m=>DN (acc:=[]) (a:=m) h.b h.m.at' ⟨by simp,by simp[gR]⟩;have na:=fun m=>DO (acc:=[]) (a:=m) (s:=s.b) aR (fun x ab=>by simp at ab);have ae:=h.b;have aE:=h.d;clear h aR;unfold dM at dh;obtain⟨n,b,d,gW,m0⟩:=s;simp only at kD kE jw qe na ae aE dh;have fD:=ae.len;simp only[bE.e];generalize eT b gW []=ok at kD dh jw;generalize eK b m0 []=om at kE dh qe na;cases ok with
 |none=>
  simp only at dh;subst dh;simp only[fO]at kD;simp only[h3]at kE;clear jw qe na;refine bq n4 JR Mh fun aP=>?_;unfold E1;simp;(with_reducible repeat' first|refine aj ?_|refine aB kD ?_|refine aC kD ?_|refine aB kE ?_|refine aC kE ?_|simp);all_goals simp[bp,A8,aT,aW,aQ]
  all_goals simp[hI,fy,bE.e]
 |some k=>
  simp only at dh;cases om with
  |none=>
   simp only at dh;subst dh;simp only[fO]at kD;simp only[h3]at kE;clear jw qe na;refine bq n4 JR Mh fun aP=>?_;unfold E1;simp;(with_reducible repeat' first|refine aj ?_|refine aB kD ?_|refine aC kD ?_|refine aB kE ?_|refine aC kE ?_|simp);all_goals simp[bp,A8,aT,aW,aQ]
   all_goals simp[hI,fy,bE.e]
  |some m=>
   simp only at dh;have v7:=jw k rfl;have x3:=qe m rfl;have xT:=na m rfl;have iC:=oN v7;have mA:m.length≤68719470000:=by have:=Di x3 xT;omega
   have zW:=UP (k:=k) x3;have zQ:=HZ (k:=k) xT;have afa:(m.filter (ek k)).length≤68719470000:=jR (List.length_filter_le _ _) mA;simp only[fO,jr,nI]at kD;simp only[h3,jr,nI]at kE;clear jw qe na;refine bq n4 JR Mh fun aP=>?_;unfold E1;have Kq:d.length≤68719476736:=by simp[gD,fY,gx,lim]at aP;omega
   simp;(with_reducible repeat' first|refine aj ?_|refine aB kD ?_|refine aC kD ?_|refine aB kE ?_|refine aC kE ?_|simp);refine iN (fun i (l:List (Int×Bool))=>⟨[(1,.ptr (.loc 0) 0),(2,.ptr (.loc 1) 0),(4,.slice 2 .no (k.map bX.e)),(6,.slice 2 .no (m.map bd.e)),(8,.gmap (.loc 2)),(49,.slice 2 .no (k.map bX.e)),(50,.int .i64 k.length),(51,.int .i64 i)],[(.loc 0,[.int .i64 n,.slice 5 .no (b.map ak.e),.slice 1 .no (d.map cy),.slice 2 .no (gW.map bX.e),.slice 2 .no (m0.map bd.e)]),(.loc 1,[.int .i64 0,.slice 5 .nil [],.slice 1 .nil [],.slice 2 .nil [],.slice 2 .nil []]),(.loc 2,qa l)],[],3,[]⟩) k.length (uP k) [] ⟨by simp[fresh,aN,aH,cn,inObs,Pv.look,LG],eM (by simp[fresh,aN,aH,cn,inObs,Pv.look,LG]),eN (by simp[fresh,aN,aH,ej,inObs,Pv.look,LG]),by simp⟩ (fun v=>by simp[tg]) (fun l ag _=>?_) (fun i l hi ag _=>?_);rotate_left
   ·obtain⟨x,ab,c2⟩:=eZ hi;by_cases ao:x.k=3
    ·have au:=ag.put ab ao;clear ag ab;exact jl
    ·have au:=ag.skip ab ao;have sV:(x.k==3)=false:=by simp[ao]
     clear ag ab;exact jl
   have hints:=ag.fin v7;clear ag;simp;(with_reducible repeat' first|refine aj ?_|simp);refine iN (fun i (a:List bd)=>⟨[(1,.ptr (.loc 0) 0),(2,.ptr (.loc 1) 0),(4,.slice 2 .no (k.map bX.e)),(8,.gmap (.loc 2)),(11,.slice 2 (.own (.loc 3)) (a.map bd.e)),(63,.slice 2 .no (m.map bd.e)),(64,.int .i64 m.length),(65,.int .i64 i)],[(.loc 0,[.int .i64 n,.slice 5 .no (b.map ak.e),.slice 1 .no (d.map cy),.slice 2 .no (gW.map bX.e),.slice 2 .no (m0.map bd.e)]),(.loc 1,[.int .i64 0,.slice 5 .nil [],.slice 1 .nil [],.slice 2 .nil [],.slice 2 .nil []]),(.loc 2,qa l)],[(.loc 3,⟨a.length,106,2,none⟩)],4,[]⟩) m.length (tn k m) [] b3 (by simp[tn]) (fun a ag _=>?_) (fun i a hi ag _=>?_);rotate_left
   ·obtain⟨x,ab,c2⟩:=eZ hi;have pX:a.length≤68719470000:=by
     have:a.length≤(m.take i).length:=by rw[ag];exact List.length_filter_le _ _
     simp at this;omega
    have au:=ag.step ab;have bu:=hints x;cases aO:ek k x
    ·rw[aO]at au bu;simp only[gC,if_false,Bool.not_false]at au bu;clear ag ab aO;simp[hi,c2];((with_reducible repeat' first|refine aj ?_|simp[hi,c2,bu]|((first|apply bG|apply bL|apply bK)<;>intro h<;>try simp at h))<;>(try exact cg));all_goals exact bN.rng a hi au b3
    ·rw[aO]at au bu;simp only[if_true,Bool.not_true]at au bu;clear ag ab aO;simp[hi,c2];((with_reducible repeat' first|refine aj ?_|simp[hi,c2,bu]|((first|apply bG|apply bL|apply bK)<;>intro h<;>try simp at h))<;>(try exact cg));all_goals first|(refine⟨by unfold lim;omega,?_⟩)|skip
     all_goals(with_reducible repeat' first|refine aj ?_|simp)
     all_goals exact bN.rng (a++[x]) hi au ⟨by simp[fresh,aN,aH,cn,inObs,Pv.look,Az],eM (by simp[fresh,aN,aH,cn,inObs,Pv.look,Az]),eN (by simp[fresh,aN,aH,ej,inObs,Pv.look,Az]),by simp⟩
   rw[tn,nH]at ag;rw[←ag]at zW zQ afa dh;clear ag hints iC x3 xT;simp;(with_reducible repeat' first|refine aj ?_|simp);refine iN (fun i (L:List (List ak))=>⟨[(1,.ptr (.loc 0) 0),(2,.ptr (.loc 1) 0),(4,.slice 2 .no (k.map bX.e)),(11,.slice 2 (.own (.loc 3)) (a.map bd.e)),(14,.slice 1 (.own (.loc 4)) (L.map cy)),(81,.slice 1 .no (d.map cy)),(82,.int .i64 d.length),(83,.int .i64 i)],[(.loc 0,[.int .i64 n,.slice 5 .no (b.map ak.e),.slice 1 .no (d.map cy),.slice 2 .no (gW.map bX.e),.slice 2 .no (m0.map bd.e)]),(.loc 1,[.int .i64 0,.slice 5 .nil [],.slice 1 .nil [],.slice 2 .nil [],.slice 2 .nil []])],[(.loc 3,⟨a.length,106,2,none⟩),(.loc 4,⟨L.length,23,1,none⟩)],5,[]⟩) d.length (p3 b k a d) [] b3 ⟨by simp,by simp,by simp⟩ (fun L ag _=>?_) (fun i L hi ag _=>?_)
   ·have hg:=ag.fin;have vT:=ag.2.1;rw[hg]at dh;simp only at dh;have jK:=al3 L vT;have iD:bS az 119 [.slice 5 .no (b.map ak.e)] (.slice 5 .no (b.map ak.e)):=Ee b fD;clear ag hg vT;generalize fV L=M at jK dh;by_cases lI:M.length≤30
    ·have ox:¬(30:Int)<M.length:=by omega
     rw[if_pos lI]at dh;subst dh;simp;(with_reducible repeat' first|refine aj ?_|refine aB jK ?_|refine aC jK ?_|refine aB iD ?_|refine aC iD ?_|simp[lI,ox]);all_goals simp[bp,A8,aT,aW,aQ]
     all_goals simp[hI,bE.e]
    ·have ox:(30:Int)<M.length:=by omega
     rw[if_neg lI]at dh;subst dh;simp;(with_reducible repeat' first|refine aj ?_|refine aB jK ?_|refine aC jK ?_|refine aB iD ?_|refine aC iD ?_|simp[lI,ox]);all_goals simp[bp,A8,aT,aW,aQ]
     all_goals simp[hI,fy,bE.e]
   ·obtain⟨x,ab,c2⟩:=eZ hi;have hj:=aE x (fR ab);have SA:=ag.1;have hZ:bS az 122 [.slice 5 .no (b.map ak.e),cy x] (fb (mgu b (eB x))):=alZ ae hj;simp only[fb]at hZ;cases hu:mgu b (eB x)with
    |none=>have au:=ag.skip ab fun r=>GB hu;rw[hu]at hZ;simp only[jq,ja]at hZ;clear ag ab dh;exact jl
    |some y=>
     have ir:=ae.mgu (B7 hj) hu;rw[hu]at hZ;simp only[jr,nI]at hZ;have c9:=XT ir v7;have dY:=XU ir zW hf zQ;have h0:=XS ae ir;simp only[fO]at c9;simp only[h3]at dY;by_cases jG:eT y k []=none∨eK y a []=none
     ·have au:=ag.skip ab fun r=>GA hu jG;clear ag ab dh hu;rcases jG with e|e
      ·rw[e]at c9;simp only[jq,ja]at c9;exact jl
      ·rw[e]at dY;simp only[jq,ja]at dY;cases (eT y k []).isSome
       ·simp[hi,c2];((with_reducible repeat' first|refine aj ?_|refine aB hZ ?_|refine aC hZ ?_|refine aB c9 ?_|refine aC c9 ?_|refine aB dY ?_|refine aC dY ?_|simp[hi,c2]|((first|apply bG|apply bL|apply bK)<;>intro h<;>try simp at h))<;>(try exact cg));all_goals exact bN.rng L hi au b3
       ·simp[hi,c2];((with_reducible repeat' first|refine aj ?_|refine aB hZ ?_|refine aC hZ ?_|refine aB c9 ?_|refine aC c9 ?_|refine aB dY ?_|refine aC dY ?_|simp[hi,c2]|((first|apply bG|apply bL|apply bK)<;>intro h<;>try simp at h))<;>(try exact cg));all_goals exact bN.rng L hi au b3
     ·have ai:(eT y k []).isSome=true:=by cases e:eT y k []with|none=>exact absurd (.inl e) jG|some _=>rfl
      have ax:(eK y a []).isSome=true:=by cases e:eK y a []with|none=>exact absurd (.inr e) jG|some _=>rfl
      rw[ai]at c9;rw[ax]at dY;by_cases cD:cR b y=[]
      ·have af:=ag.stop ab fun r=>Lz hu jG cD;rw[af]at dh;simp only at dh;subst dh;rw[cD]at h0;simp only[mO]at h0;clear ag ab hu jG;simp[hi,c2];((with_reducible repeat' first|refine aj ?_|refine aB hZ ?_|refine aC hZ ?_|refine aB c9 ?_|refine aC c9 ?_|refine aB dY ?_|refine aC dY ?_|refine aB h0 ?_|refine aC h0 ?_|simp[hi,c2]|((first|apply bG|apply bL|apply bK)<;>intro h<;>try simp at h))<;>(try exact cg));all_goals simp[bp,A8,aT,aW,aQ]
       all_goals simp[hI,fy,bE.e]
      ·have au:=ag.snoc ab (AQ (b:=b) ir) fun r=>GC hu jG cD;have wa:¬((cR b y).length:Int)=0:=by have:(cR b y).length≠0:=fun h=>cD (List.length_eq_zero_iff.1 h);omega
       have wb:(((cR b y).length:Int)==0)=false:=by simp[cD]
       have Gs:bS az 123 [.slice 5 .no (b.map ak.e),.slice 5 .no (y.map ak.e)] (cy (cR b y)):=h0;clear ag ab hu jG dh h0;generalize cR b y=z at Gs au wa wb cD;simp only[cy]at Gs;simp[hi,c2];(with_reducible repeat' first|refine aj ?_|refine aB hZ ?_|refine aC hZ ?_|refine aB c9 ?_|refine aC c9 ?_|refine aB dY ?_|refine aC dY ?_|refine aB Gs ?_|refine aC Gs ?_|simp[hi,c2,wa,wb,cD]);all_goals first|(refine⟨by unfold lim;omega,?_⟩)|skip
       all_goals(with_reducible repeat' first|refine aj ?_|simp)
       all_goals exact bN.rng (L++[z]) hi au ⟨by simp[fresh,aN,aH,cn,inObs,Pv.look,ts,cy],eM (by simp[fresh,aN,aH,cn,inObs,Pv.look,ts,cy]),eN (by simp[fresh,aN,aH,ej,inObs,Pv.look,ts,cy]),by simp⟩
structure l0 where
 n:Int
 b:List dV
 d:List (List dV)
 k:List bX
 m:List bd
def bE.r(s:bE):l0:=⟨s.n,s.b.map ak.b,s.d.map fun x=>x.map ak.b,s.k,s.m⟩
def pH(r:l0):Prop:= ∃s:bE,r=s.r∧k2 s
def j9(n:Int)(x:List dV):Prop:= ∃s:List ak,x=s.map ak.b∧dn s∧o5 s n
structure MY (r:l0):Prop where
 n:0≤r.n∧r.n≤100000
 b:j9 r.n r.b
 d:∀x∈r.d,j9 r.n x
 k:jh r.k
 m:jj r.m
 kb:∀x∈r.k,x.v<r.n
 mb:∀x∈r.m,x.v<r.n
theorem pH.raw{r:l0}(h:pH r):MY r:=by obtain⟨s,rfl,J,_⟩:=h;exact⟨J.n,⟨s.b,rfl,J.b,J.bb⟩,fun x ab=>by obtain⟨y,aD,rfl⟩:=hJ.1 ab;exact⟨y,rfl,J.d y aD,J.db y aD⟩,J.k,J.m,J.kb,J.mb⟩
theorem vB:∀{a b:List ak},a.map ak.b=b.map ak.b→a=b
 |[],b,h=>by cases b<;>simp at h⊢
 |x::a,[],h=>by simp at h
 |x::a,y::b,h=>by simp only[gP,y7,ak.b,dV.mk.injEq]at h;rw[vB h.2];have:=NJ h.1.2;obtain⟨⟨J,_⟩,_⟩:=h;cases x;cases y;simp_all
theorem OQ:∀{a b:List (List ak)},(a.map fun x=>x.map ak.b)=(b.map fun x=>x.map ak.b)→a=b
 |[],b,h=>by cases b<;>simp at h⊢
 |x::a,[],h=>by simp at h
 |x::a,y::b,h=>by rw[gP,gP,y7]at h;rw[OQ h.2,vB h.1]
theorem bE.r_inj{s t:bE}(h:s.r=t.r):s=t:=by obtain⟨n,b,d,k,m⟩:=s;obtain⟨n',bV,ca,k',m'⟩:=t;simp only[bE.r,l0.mk.injEq]at h;obtain⟨J,U,ao,a1,b2⟩:=h;rw[J,vB U,OQ ao,a1,b2]
theorem Ra{n:Int}:∀{d:List (List dV)},(∀x∈d,j9 n x)→∃D:List (List ak),d=(D.map fun x=>x.map ak.b)∧(∀x∈D,dn x)∧∀x∈D,o5 x n
 |[],_=>⟨[],rfl,by simp,by simp⟩
 |x::d,h=>by
  obtain⟨D,J,U,ao⟩:=Ra (d:=d) fun y aD=>h y (by simp[aD]);obtain⟨s,ai,ax,bn⟩:=h x (by simp);refine⟨s::D,by rw[J,ai];rfl,fun y aD=>?_,fun y aD=>?_⟩
  ·rcases fA.1 aD with rfl|aD
   ·exact ax
   ·exact U y aD
  ·rcases fA.1 aD with rfl|aD
   ·exact bn
   ·exact ao y aD
theorem Xr{s:bE}(h:h5 s):pH s.r↔dM s=some s:=by
 constructor
 ·rintro⟨t,e,_,U⟩;rw[bE.r_inj e];exact U
 ·intro U;exact⟨s,rfl,h,U⟩
theorem w5{l:List dV}:IB l↔∃s:List ak,l=s.map ak.b∧dn s:=⟨fun⟨s,J,U,ao,a1⟩=>⟨s,J,U,ao,a1⟩,fun⟨s,J,U⟩=>⟨s,J,U.ok,U.sol,U.fits⟩⟩
def rA{α:Type}(a b:List α)(i:Nat)(_:Unit):Prop:= ∀k,k<i→a[k]? =b[k]?
theorem rA.fin{α:Type}{a b:List α}(h:rA a b b.length ())(aq:a.length=b.length):a=b:=by
 apply List.ext_getElem?;intro k;by_cases ad:k<b.length
 ·exact h k ad
 ·rw[qu (by omega),qu (by omega)]
theorem rA.step{α:Type}{a b:List α}{i:Nat}(h:rA a b i ()){x:α}(bk:a[i]? =some x)(ae:b[i]? =some x):rA a b (i+1) ():=fun k ad=>by
 rcases(by omega:k<i∨k=i)with J|rfl
 ·exact h k J
 ·rw[bk,ae]
def r7{α:Type}(p:α→Prop)(s:List α)(i:Nat)(_:Unit):Prop:= ∀k b,k<i→s[k]? =some b→p b
theorem r7.step{α:Type}{p:α→Prop}{s:List α}{i:Nat}(h:r7 p s i ()){b:α}(ae:s[i]? =some b)(bB:p b):r7 p s (i+1) ():=fun k c ad ar=>by
 rcases(by omega:k<i∨k=i)with J|rfl
 ·exact h k c J ar
 ·rw[ae]at ar;cases ar;exact bB
theorem r7.fin{α:Type}{p:α→Prop}{s:List α}(h:r7 p s s.length ()):∀b∈s,p b:=fun b ae=>by obtain⟨k,ad,e⟩:=nG ae;exact h k b ad (by rw[cb ad,e])
@[simp] theorem ank(neg:Bool)(x y:bX):hN neg (some [false,false]) x.e y.e=some (True,.bool (if neg then !decide (x=y)else decide (x=y))):=by
 have h:(x.v==y.v&&(x.k==y.k&&true))=decide (x=y):=by rw[qt];simp only[Bool.and_true,cx,dK,fo];cases x;cases y;simp
 rw[←h];rfl
@[simp] theorem anl(neg:Bool)(x y:bd):hN neg (some [false,true]) x.e y.e=some (True,.bool (if neg then !decide (x=y)else decide (x=y))):=by
 have h:(x.v==y.v&&(x.s==y.s&&true))=decide (x=y):=by rw[qt];simp only[Bool.and_true,cx,dK,fo];cases x;cases y;simp
 rw[←h];rfl
theorem amb(x y:List ak)(h:x.length≤1000000):bS az 135 [cy x,cy y] (.bool (decide (x=y))):=NS x y h
set_option maxRecDepth 4000 in
theorem amM(a c:bE)(ng:a.b.length≤1000000)(Cs:∀x∈a.d,x.length≤1000000):bS az 59 [a.e,c.e] (.bool (decide (a=c))):=by
 obtain⟨n,b,d,k,m⟩:=a;obtain⟨n',bV,ca,k',m'⟩:=c;simp only at ng Cs;generalize bH:decide ((⟨n,b,d,k,m⟩:bE)=⟨n',bV,ca,k',m'⟩)=R;simp only[bE.mk.injEq,bE.e]at bH⊢;by_cases aV:n=n';rotate_left
 ·have gb:R=false:=by rw[←bH];simp[aV]
  have tH:(n !=n')=true:=by simp[aV]
  rw[gb];clear bH gb;refine bq n4 zz AX fun aP=>?_;unfold xy;exact cB
 subst aV;have fG:=NS b bV ng;by_cases bf:b=bV;rotate_left
 ·have gb:R=false:=by rw[←bH];simp[bf]
  rw[lB bf]at fG;rw[gb];clear bH gb;refine bq n4 zz AX fun aP=>?_;unfold xy;exact cB
 subst bf;rw[kp rfl]at fG;by_cases bI:d.length=ca.length;rotate_left
 ·have gb:R=false:=by rw[←bH];simp only[hK];rintro⟨_,_,rfl,_⟩;exact bI rfl
  have si:((d.length:Int) !=ca.length)=true:=by simp;omega
  rw[gb];clear bH gb;refine bq n4 zz AX fun aP=>?_;unfold xy;exact cB
 by_cases cN:k.length=k'.length;rotate_left
 ·have gb:R=false:=by rw[←bH];simp only[hK];rintro⟨_,_,_,rfl,_⟩;exact cN rfl
  have ajY:((k.length:Int) !=k'.length)=true:=by simp;omega
  rw[gb];clear bH gb;refine bq n4 zz AX fun aP=>?_;unfold xy;exact cB
 by_cases c6:m.length=m'.length;rotate_left
 ·have gb:R=false:=by rw[←bH];simp only[hK];rintro⟨_,_,_,_,rfl⟩;exact c6 rfl
  have ajZ:((m.length:Int) !=m'.length)=true:=by simp;omega
  rw[gb];clear bH gb;refine bq n4 zz AX fun aP=>?_;unfold xy;exact cB
 have x6:d≠ca→R=false:=fun h=>by rw[←bH];simp[h]
 have x7:k≠k'→R=false:=fun h=>by rw[←bH];simp[h]
 have KK:m≠m'→R=false:=fun h=>by rw[←bH];simp[h]
 refine bq n4 zz AX fun aP=>?_;unfold xy;have ae1:ca.length≤68719476736:=by simp[gD,fY,gx,lim]at aP;omega
 have ae2:k'.length≤68719476736:=by simp[gD,fY,gx,lim]at aP;omega
 have ae3:m'.length≤68719476736:=by simp[gD,fY,gx,lim]at aP;omega
 clear aP;simp;(with_reducible repeat' first|refine aj ?_|refine aB fG ?_|refine aC fG ?_|simp[bI,cN,c6]);have dd:=x6;refine eC [2,3,50] (fun i (_:Unit)=>[(51,.int .i64 i)]) ca.length (rA d ca) () b3 (fun k ad=>by omega) (fun _ ag _=>?_) (fun i _ hi ag _=>?_);rotate_left
 ·obtain⟨x,ab⟩:∃x,d[i]? =some x:=⟨_,cb (by omega)⟩;obtain⟨y,aD⟩:∃y,ca[i]? =some y:=⟨_,cb hi⟩;have gn:i<d.length:=by omega
  have c2:∀h,(d[i]'h)=x:=fun h=>by rw[cb gn]at ab;exact e3 ab
  have eQ:∀h,(ca[i]'h)=y:=fun h=>by rw[cb hi]at aD;exact e3 aD
  have fG:=amb x y (Cs x (fR ab));by_cases q:x=y
  ·subst q;have au:=ag.step ab aD;rw[kp rfl]at fG;clear ag ab aD;simp[hi,gn,c2,eQ,-hN];(with_reducible repeat' first|refine aj ?_|refine aB fG ?_|refine aC fG ?_|simp[c2,eQ,hi,gn,-hN]);all_goals exact bN.rng () hi au b3
  ·rw[dd (fun h=>q (by rw[h]at ab;rw[ab]at aD;exact e3 aD))];rw[lB q]at fG;clear ag ab aD;simp[hi,gn,c2,eQ,-hN];(with_reducible repeat' first|refine aj ?_|refine aB fG ?_|refine aC fG ?_|simp[c2,eQ,hi,gn,q,-hN]);all_goals simp[bp,Hi,aT,aW,aQ]
 have dk:=ag.fin bI;subst dk;clear ag dd x6 bI;simp;(with_reducible repeat' first|refine aj ?_|simp[cN]);have dd:=x7;refine eC [2,3,69] (fun i (_:Unit)=>[(70,.int .i64 i)]) k'.length (rA k k') () b3 (fun k ad=>by omega) (fun _ ag _=>?_) (fun i _ hi ag _=>?_);rotate_left
 ·obtain⟨x,ab⟩:∃x,k[i]? =some x:=⟨_,cb (by omega)⟩;obtain⟨y,aD⟩:∃y,k'[i]? =some y:=⟨_,cb hi⟩;have gn:i<k.length:=by omega
  have c2:∀h,(k[i]'h)=x:=fun h=>by rw[cb gn]at ab;exact e3 ab
  have eQ:∀h,(k'[i]'h)=y:=fun h=>by rw[cb hi]at aD;exact e3 aD
  have fG:=True.intro;by_cases q:x=y
  ·subst q;have au:=ag.step ab aD;skip;clear ag ab aD;simp[hi,gn,c2,eQ,-hN];(with_reducible repeat' first|refine aj ?_|refine aB fG ?_|refine aC fG ?_|simp[c2,eQ,hi,gn,-hN]);all_goals exact bN.rng () hi au b3
  ·rw[dd (fun h=>q (by rw[h]at ab;rw[ab]at aD;exact e3 aD))];skip;clear ag ab aD;simp[hi,gn,c2,eQ,-hN];(with_reducible repeat' first|refine aj ?_|refine aB fG ?_|refine aC fG ?_|simp[c2,eQ,hi,gn,q,-hN]);all_goals simp[bp,Hi,aT,aW,aQ]
 have dk:=ag.fin cN;subst dk;clear ag dd x7 cN;simp;(with_reducible repeat' first|refine aj ?_|simp[c6]);have dd:=KK;refine eC [2,3,87] (fun i (_:Unit)=>[(88,.int .i64 i)]) m'.length (rA m m') () b3 (fun k ad=>by omega) (fun _ ag _=>?_) (fun i _ hi ag _=>?_);rotate_left
 ·obtain⟨x,ab⟩:∃x,m[i]? =some x:=⟨_,cb (by omega)⟩;obtain⟨y,aD⟩:∃y,m'[i]? =some y:=⟨_,cb hi⟩;have gn:i<m.length:=by omega
  have c2:∀h,(m[i]'h)=x:=fun h=>by rw[cb gn]at ab;exact e3 ab
  have eQ:∀h,(m'[i]'h)=y:=fun h=>by rw[cb hi]at aD;exact e3 aD
  have fG:=True.intro;by_cases q:x=y
  ·subst q;have au:=ag.step ab aD;skip;clear ag ab aD;simp[hi,gn,c2,eQ,-hN];(with_reducible repeat' first|refine aj ?_|refine aB fG ?_|refine aC fG ?_|simp[c2,eQ,hi,gn,-hN]);all_goals exact bN.rng () hi au b3
  ·rw[dd (fun h=>q (by rw[h]at ab;rw[ab]at aD;exact e3 aD))];skip;clear ag ab aD;simp[hi,gn,c2,eQ,-hN];(with_reducible repeat' first|refine aj ?_|refine aB fG ?_|refine aC fG ?_|simp[c2,eQ,hi,gn,q,-hN]);all_goals simp[bp,Hi,aT,aW,aQ]
 have dk:=ag.fin c6;subst dk;have gb:R=true:=by rw[←bH];simp
 rw[gb];exact cB
def l0.e(r:l0):ah:= .agg [.int .i64 r.n,.slice 5 .no (r.b.map dV.e),.slice 1 .no (r.d.map lH),.slice 2 .no (r.k.map bX.e),.slice 2 .no (r.m.map bd.e)]
theorem Ny(s:bE):s.r.e=s.e:=by simp only[bE.r,l0.e,bE.e,yp,Ju]
@[simp] theorem apG(S:aJ→Prop)(r:l0):aH S r.e=True:=by simp[l0.e,aH,aN]
theorem al6(x:List dV):bS az 55 [lH x] (.bool (gB x)):=NQ x
open Classical in
set_option maxRecDepth 4000 in
theorem al5(r:l0)(ga:jj r.m→kK r.m):bS az 18 [r.e] (.bool (decide (pH r))):=by
 generalize bH:decide (pH r)=R;have dd:¬MY r→R=false:=fun h=>by rw[←bH,hK];exact fun cr=>h cr.raw
 obtain⟨n,b,d,k,m⟩:=r;simp only[l0.e]at ga⊢;by_cases g1:n<0
 ·rw[dd fun h=>by have:=h.n.1;simp only at this;omega];refine bq n4 xB yx fun aP=>?_;unfold vD;exact cB
 by_cases g2:100000<n
 ·rw[dd fun h=>by have:=h.n.2;simp only at this;omega];refine bq n4 xB yx fun aP=>?_;unfold vD;exact cB
 have ic:bS az 55 [.slice 5 .no (b.map dV.e)] (.bool (gB b)):=NQ b;cases g3:gB b
 ·rw[dd fun h=>by obtain⟨s,ai,ax,_⟩:=h.b;have:=rf.2 (w5.2 ⟨s,ai,ax⟩);simp only at this;rw[g3]at this;cases this]
  rw[g3]at ic;refine bq n4 xB yx fun aP=>?_;unfold vD;exact cB
 rw[g3]at ic;obtain⟨s,rfl,af⟩:=w5.1 (rf.1 g3);clear g3;rw[yp]at ic⊢;have c9:=XN k;by_cases g4:jh k;rotate_left
 ·rw[dd fun h=>g4 h.k];rw[lB g4]at c9;refine bq n4 xB yx fun aP=>?_;unfold vD;exact cB
 rw[kp g4]at c9;have dY:=XQ m;by_cases g5:jj m;rotate_left
 ·rw[dd fun h=>g5 h.m];rw[lB g5]at dY;refine bq n4 xB yx fun aP=>?_;unfold vD;exact cB
 rw[kp g5]at dY;have lq:=XX af (n:=n) (by omega);cases g6:s.all (kS n)
 ·rw[dd fun h=>by obtain⟨s',ai,_,bn⟩:=h.b;have dp:=vB ai;subst dp;rw[vC.2 bn]at g6;cases g6]
  rw[g6]at lq;refine bq n4 xB yx fun aP=>?_;unfold vD;exact cB
 rw[g6]at lq;have cF:=vC.1 g6;clear g6;have CI:=ga g5;have mA:=CI.len g5;refine bq n4 xB yx fun aP=>?_;unfold vD;have Kq:d.length≤68719476736:=by simp[gD,fY,gx,lim]at aP;omega
 have iC:=oN g4;clear aP ga;simp;(with_reducible repeat' first|refine aj ?_|refine aB ic ?_|refine aC ic ?_|refine aB c9 ?_|refine aC c9 ?_|refine aB dY ?_|refine aC dY ?_|refine aB lq ?_|refine aC lq ?_|simp[g1,g2]);refine eC [1,46,47] (fun i (_:Unit)=>[(48,.int .i64 i)]) d.length (r7 (j9 n) d) () b3 (fun k b ad=>by omega) (fun _ ag _=>?_) (fun i _ hi ag _=>?_);rotate_left
 ·obtain⟨x,ab,c2⟩:=eZ hi;have CY:=fR ab;have dt:=al6 x;cases lg:gB x
  ·rw[dd fun h=>by obtain⟨s',ai,ax,_⟩:=h.d x CY;rw[rf.2 (w5.2 ⟨s',ai,ax⟩)]at lg;cases lg]
   rw[lg]at dt;clear ag ab CY;exact cB
  ·rw[lg]at dt;obtain⟨y,rfl,aD⟩:=w5.1 (rf.1 lg);clear lg;rw[Jt]at dt;have kF:bS az 58 [cy y,.int .i64 n] (.bool (y.all (kS n))):=XX aD (n:=n) (by omega);have aoT:∀h,lH (d[i]'h)=cy y:=fun h=>by rw[c2 h,Jt]
   cases pe:y.all (kS n)
   ·rw[dd fun h=>by obtain⟨s',ai,_,bn⟩:=h.d _ CY;have dp:=vB ai;subst dp;rw[vC.2 bn]at pe;cases pe]
    rw[pe]at kF;clear ag ab CY c2;exact cB
   ·rw[pe]at kF;have au:=ag.step ab ⟨y,rfl,aD,vC.1 pe⟩;clear ag ab CY c2;exact jl
 obtain⟨D,rfl,lh,Kg⟩:=Ra ag.fin;clear ag;simp only[Ju];simp;(with_reducible repeat' first|refine aj ?_|simp);refine eC [1,64,65] (fun i (_:Unit)=>[(66,.int .i64 i)]) k.length (r7 (fun x=>x.v<n) k) () b3 (fun k b ad=>by omega) (fun _ ag _=>?_) (fun i _ hi ag _=>?_);rotate_left
 ·obtain⟨x,ab,c2⟩:=eZ hi;by_cases lg:x.v<n
  ·have xL:¬n≤x.v:=by omega
   have au:=ag.step ab lg;clear ag ab;exact jl
  ·have xL:n≤x.v:=by omega
   rw[dd fun h=>lg (h.kb x (fR ab))];clear ag ab;exact cB
 have xU:=ag.fin;clear ag;simp;(with_reducible repeat' first|refine aj ?_|simp);have xV:=xU;refine eC [1,77,78] (fun i (_:Unit)=>[(79,.int .i64 i)]) m.length (r7 (fun x=>x.v<n) m) () b3 (fun k b ad=>by omega) (fun _ ag _=>?_) (fun i _ hi ag _=>?_);rotate_left
 ·obtain⟨x,ab,c2⟩:=eZ hi;by_cases lg:x.v<n
  ·have xL:¬n≤x.v:=by omega
   have au:=ag.step ab lg;clear ag ab;exact jl
  ·have xL:n≤x.v:=by omega
   rw[dd fun h=>lg (h.mb x (fR ab))];clear ag ab;exact cB
 have xU:=ag.fin;clear ag;simp;(with_reducible repeat' first|refine aj ?_|simp);have tc:=xU;have c8:h5 ⟨n,s,D,k,m⟩:=⟨by simp only;omega,af,lh,g4,g5,cF,Kg,xV,tc⟩;have uG:=Xr c8;obtain⟨G,hf,aR⟩:=CI;have dE:=BE c8 hf aR;have lp:pH ⟨n,s.map ak.b,D.map fun x=>x.map ak.b,k,m⟩↔dM ⟨n,s,D,k,m⟩=some ⟨n,s,D,k,m⟩:=uG;clear uG dd;simp only[hI]at dE;cases lP:dM ⟨n,s,D,k,m⟩with
 |none=>
  rw[lP]at dE lp;have gb:R=false:=by rw[←bH,hK,lp];simp
  rw[gb];simp only[jq,ja,bE.e]at dE;clear bH gb lp;exact cB
 |some t=>
  have Af:=wZ c8 lP;rw[lP]at dE lp;have wx:=amM t ⟨n,s,D,k,m⟩ Af.1.1.b.len (fun x ab=>(Af.1.1.d x ab).len);have gb:R=decide (t=⟨n,s,D,k,m⟩):=by rw[←bH,decide_eq_decide,lp];simp
  rw[gb];simp only[jr,nI]at dE;simp only[bE.e]at dE wx;clear bH gb lp Af;generalize decide (t=(⟨n,s,D,k,m⟩:bE))=Q at wx⊢;obtain⟨ql,qi,qj,qk,tm⟩:=t;simp only at dE wx;exact cB
theorem amL(t:T):bS az 28 [t.e,t.e] (.bool true):=by have:=amK t t;rwa[kp rfl]at this
theorem XY(l:List ak):bS az 61 [.slice 5 .no (l.map ak.e),.slice 5 .no (l.map ak.e)] (.bool true):=by
 refine bq Bv abN aiy fun aP=>?_;unfold PQ;have gV:l.length≤68719476736:=by simp[gD,fY,gx,lim]at aP;omega
 clear aP;simp;(with_reducible repeat' first|refine aj ?_|simp);refine eC [1,12,13] (fun i (_:Unit)=>[(14,.int .i64 i)]) l.length (fun _ _=>True) () b3 trivial (fun _ _ _=>?_) (fun i _ hi _ _=>?_)
 ·exact cB
 ·obtain⟨b,ae,cz⟩:=eZ hi;have dt:=amL b.t;simp[hi,cz];((with_reducible repeat' first|refine aj ?_|refine aB dt ?_|refine aC dt ?_|simp[hi,cz]|((first|apply bG|apply bL|apply bK)<;>intro h<;>try simp at h))<;>(try exact cg));exact bN.rng () hi trivial b3
theorem al9(x:List ak):bS az 61 [cy x,cy x] (.bool true):=XY x
theorem ama(l:List (List ak)):bS az 62 [.slice 1 .no (l.map cy),.slice 1 .no (l.map cy)] (.bool true):=by
 refine bq Bv abO aiz fun aP=>?_;unfold PR;have gV:l.length≤68719476736:=by simp[gD,fY,gx,lim]at aP;omega
 clear aP;simp;(with_reducible repeat' first|refine aj ?_|simp);refine eC [1,12,13] (fun i (_:Unit)=>[(14,.int .i64 i)]) l.length (fun _ _=>True) () b3 trivial (fun _ _ _=>?_) (fun i _ hi _ _=>?_)
 ·exact cB
 ·obtain⟨b,ae,cz⟩:=eZ hi;have dt:=al9 b;simp[hi,cz];((with_reducible repeat' first|refine aj ?_|refine aB dt ?_|refine aC dt ?_|simp[hi,cz]|((first|apply bG|apply bL|apply bK)<;>intro h<;>try simp at h))<;>(try exact cg));exact bN.rng () hi trivial b3
theorem Yo(s:bE):bS az 20 [s.e,s.e] (.bool true):=by
 obtain⟨n,b,d,k,m⟩:=s;have ic:=XY b;have jK:=ama d;simp only[bE.e];refine bq Bv abQ aiB fun aP=>?_;unfold PT;have gV:k.length≤68719476736∧m.length≤68719476736:=by simp[gD,fY,gx,lim]at aP;omega
 clear aP;obtain⟨gp,qU⟩:=gV;simp;(with_reducible repeat' first|refine aj ?_|refine aB ic ?_|refine aC ic ?_|refine aB jK ?_|refine aC jK ?_|simp);refine eC [2,3,49,50] (fun i (_:Unit)=>[(51,.int .i64 i)]) k.length (fun _ _=>True) () b3 trivial (fun _ _ _=>?_) (fun i _ hi _ _=>?_);rotate_left
 ·obtain⟨b,ae,cz⟩:=eZ hi;simp[hi,cz,-hN];((with_reducible repeat' first|refine aj ?_|simp[hi,cz,-hN]|((first|apply bG|apply bL|apply bK)<;>intro h<;>try simp at h))<;>(try exact cg));exact bN.rng () hi trivial b3
 simp;((with_reducible repeat' first|refine aj ?_|simp|((first|apply bG|apply bL|apply bK)<;>intro h<;>try simp at h))<;>(try exact cg));refine eC [3,65,66] (fun i (_:Unit)=>[(67,.int .i64 i)]) m.length (fun _ _=>True) () b3 trivial (fun _ _ _=>?_) (fun i _ hi _ _=>?_)
 ·exact cB
 ·obtain⟨b,ae,cz⟩:=eZ hi;simp[hi,cz,-hN];((with_reducible repeat' first|refine aj ?_|simp[hi,cz,-hN]|((first|apply bG|apply bL|apply bK)<;>intro h<;>try simp at h))<;>(try exact cg));exact bN.rng () hi trivial b3
def zo:C:=(aa [cO 2 0,bj 4 false] (.seq (aa [aF 7 3 1 2,aw 8 1 7,cv 9 8,cc 10 0] (fe 11 10 9 (.seq (.block 1 (aa [cw 12 4 8 10,aX 13 4 12,cS 6 du,bz 4 6 13] (aa [aX 14 4 6,I 15 1,ck 16 77 14 15] (aZ 16 (aa [bj 4 true] .ret) .skip)))) (.region [aU 17 .add 10 1,I 10 17])))) (aa [aF 18 0 1 2,aw 19 1 18,aU 20 .eql 19 2,I 21 20,al 21 true (aF 22 2 1 2),al 21 true (aw 23 1 22),bZ 21 true 24 1,al 21 true (br 25 .eql 23 24),dv 26 21 25,I 4 26] .ret)))
@[simp] def wT:List bA:=[.tmp 4]
def Qh:C:=(aa [bj 2 false] (.seq (aa [I 5 0,cv 6 5,cc 7 0] (fe 8 7 6 (.seq (.block 1 (aa [I 9 7,cw 10 2 5 7,aX 11 2 10,c0 (.alloc 4 none (.agg [.int .i64 0,.int .i64 0])),I 3 9,bz 2 4 11] (.seq (.drawn true 42 [I 12 3,aU 13 .gtr 12 0,I 14 13,bZ 14 true 15 0,bZ 14 true 16 3,al 14 true (aU 17 .sub 16 1),al 14 true (cw 18 2 15 17),al 14 true (aF 19 0 1 18),al 14 true (aw 20 1 19),al 14 true (aF 21 0 1 4),al 14 true (aw 22 1 21),al 14 true (br 23 .geq 20 22),dv 24 14 23,I 25 24,al 25 false (aF 26 0 1 4),al 25 false (aw 27 1 26),al 25 false (cT 28 141 [.t 27,(dN 0),(dN 100000)]),al 25 false (ct 29 28),cW 30 25 29,I 31 30,al 31 false (aF 32 1 1 4),al 31 false (aw 33 1 32),al 31 false (aU 34 .neq 33 2),bZ 31 false 35 34,al 35 true (aF 36 1 1 4),al 35 true (aw 37 1 36),al 35 true (aU 38 .neq 37 3),al 31 false (dv 39 35 38),cW 40 31 39]) (aZ 40 (aa [bj 2 false] .ret) .skip)))) (.region [aU 41 .add 7 1,I 7 41])))) (aa [bj 2 true] .ret)))
@[simp] def DL:List bA:=[.tmp 2]
def Qk:C:=(aa [bj 2 false] (.seq (aa [I 5 0,cv 6 5,cc 7 0] (fe 8 7 6 (.seq (.block 1 (aa [I 9 7,cw 10 2 5 7,aX 11 2 10,c0 (.alloc 4 none (.agg [.int .i64 0,.str []])),I 3 9,bz 2 4 11] (.seq (.drawn true 37 [I 12 3,aU 13 .gtr 12 0,I 14 13,bZ 14 true 15 0,bZ 14 true 16 3,al 14 true (aU 17 .sub 16 1),al 14 true (cw 18 2 15 17),al 14 true (aX 19 2 18),al 14 true (aX 20 2 4),al 14 true (ck 21 215 19 20),al 14 true (ct 22 21),dv 23 14 22,I 24 23,al 24 false (aF 25 0 1 4),al 24 false (aw 26 1 25),al 24 false (cT 27 141 [.t 26,(dN 0),(dN 100000)]),al 24 false (ct 28 27),cW 29 24 28,I 30 29,al 30 false (aF 31 1 1 4),al 30 false (aw 32 1 31),al 30 false (cL 33 216 32),al 30 false (ct 34 33),cW 35 30 34]) (aZ 35 (aa [bj 2 false] .ret) .skip)))) (.region [aU 36 .add 7 1,I 7 36])))) (aa [bj 2 true] .ret)))
@[simp] def Bb:List bA:=[.tmp 2]
def zp:C:=(aa [cO 4 1,eJ 6 2,bj 7 false] (.seq (aa [aF 10 0 1 4,aw 11 1 10,aU 12 .neq 11 1] (aZ 12 (.seq (.drawn true 73 [I 13 0,aF 14 0 1 4,aw 15 1 14,I 16 2,br 17 .eql 15 16,I 6 13,I 7 17]) .ret) .skip)) (aa [cc 8 0] (.seq (.block 0 (.loop (.seq (.seq (.drawn true 73 [I 18 8,I 19 0,cv 20 19,br 21 .lss 18 20,I 22 21,bZ 22 true 23 0,bZ 22 true 24 8,al 22 true (cw 25 2 23 24),al 22 true (aF 26 0 1 25),al 22 true (aw 27 1 26),al 22 true (aF 28 1 1 4),al 22 true (aw 29 1 28),al 22 true (br 30 .lss 27 29),dv 31 22 30]) (aZ 31 .skip (.exit 0))) (.block 1 (.region [I 32 8,aU 33 .add 32 1,I 8 33]))))) (.seq (.seq (.drawn true 73 [I 34 8,I 35 0,cv 36 35,br 37 .lss 34 36,I 38 37,bZ 38 true 39 0,bZ 38 true 40 8,al 38 true (cw 41 2 39 40),al 38 true (aF 42 0 1 41),al 38 true (aw 43 1 42),al 38 true (aF 44 1 1 4),al 38 true (aw 45 1 44),al 38 true (br 46 .eql 43 45),dv 47 38 46]) (aZ 47 (.seq (.drawn true 73 [I 48 0,I 49 0,I 50 8,cw 51 2 49 50,aF 52 1 1 51,aw 53 1 52,I 54 2,br 55 .eql 53 54,I 6 48,I 7 55]) .ret) .skip)) (aa [eb 56 2 104 [],I 57 0,I 58 8,bW 59 (.lsl 2 (.t 57) none (some (.t 58))),gO 60 2 104 56 59,I 9 60] (aa [I 61 9,aF 62 1 1 4,aw 63 1 62,I 64 2,bW 65 (.build [.int .i64 0,.int .i64 0] [(0,1,(.t 63)),(1,1,(.t 64))]),eb 66 2 104 [.t 65],gO 67 2 104 61 66,I 9 67] (aa [I 68 9,I 69 0,I 70 8,bW 71 (.lsl 2 (.t 69) (some (.t 70)) none),gO 72 2 104 68 71,I 6 72,bj 7 true] .ret))))))))
@[simp] def wU:List bA:=[.tmp 6,.tmp 7]
def Jh:C:=(aa [cO 4 1,eJ 6 2,bj 7 false] (.seq (aa [aX 13 4 4,I 14 2,ck 15 77 13 14] (aZ 15 (aa [eJ 6 2,bj 7 false] .ret) .skip)) (.seq (aa [aX 16 4 4,cT 17 165 [.t 16,(.c (.slice 1 .nil []))],cv 18 17,cc 19 0] (fe 20 19 18 (.seq (.block 1 (aa [cw 21 1 17 19,aw 22 1 21,I 9 22] (aa [I 23 9,I 24 2,bW 25 (.build [.int .i64 0,.str []] [(0,1,(.t 23)),(1,1,(.t 24))]),c0 (.alloc 10 none (.agg [.int .i64 0,.str []])),bz 2 10 25] (aa [cc 11 0] (.seq (.block 2 (.loop (.seq (.seq (.drawn true 68 [I 26 11,I 27 0,cv 28 27,br 29 .lss 26 28,I 30 29,bZ 30 true 31 0,bZ 30 true 32 11,al 30 true (cw 33 2 31 32),al 30 true (aX 34 2 33),al 30 true (aX 35 2 10),al 30 true (ck 36 215 34 35),dv 37 30 36]) (aZ 37 .skip (.exit 2))) (.block 3 (.region [I 38 11,aU 39 .add 38 1,I 11 39]))))) (.seq (.drawn true 68 [I 40 11,I 41 0,cv 42 41,br 43 .eql 40 42,I 44 43,al 44 false (aX 45 2 10),bZ 44 false 46 0,bZ 44 false 47 11,al 44 false (cw 48 2 46 47),al 44 false (aX 49 2 48),al 44 false (ck 50 215 45 49),cW 51 44 50]) (aZ 51 (aa [eb 52 2 106 [],I 53 0,I 54 11,bW 55 (.lsl 2 (.t 53) none (some (.t 54))),gO 56 2 106 52 55,I 12 56] (aa [I 57 12,aX 58 2 10,eb 59 2 106 [.t 58],gO 60 2 106 57 59,I 12 60] (.region [I 61 12,I 62 0,I 63 11,bW 64 (.lsl 2 (.t 62) (some (.t 63)) none),gO 65 2 106 61 64,I 0 65]))) .skip))))))) (.fg false 0 (.region [aU 66 .add 19 1,I 19 66]))))) (aa [I 67 0,I 6 67,bj 7 true] .ret))))
@[simp] def MV:List bA:=[.tmp 6,.tmp 7]
def E7:C:=(aa [cO 2 0,cO 3 1,bj 4 false] (aa [aF 5 0 1 2,aw 6 1 5,aF 7 0 1 3,aw 8 1 7,br 9 .lss 6 8,I 10 9,al 10 false (aF 11 0 1 2),al 10 false (aw 12 1 11),al 10 false (aF 13 0 1 3),al 10 false (aw 14 1 13),al 10 false (br 15 .eql 12 14),bZ 10 false 16 15,al 16 true (aF 17 1 1 2),al 16 true (aw 18 1 17),al 16 true (aF 19 1 1 3),al 16 true (aw 20 1 19),al 16 true (br 21 .lss 18 20),al 10 false (dv 22 16 21),cW 23 10 22,I 4 23] .ret))
@[simp] def akE:List bA:=[.tmp 4]
def QO:C:=(aa [eJ 4 2,bj 5 false] (aa [eb 10 2 104 [],I 6 10] (aa [bj 7 true] (.seq (.seq (.fg false 6 (.region [I 11 1,cv 12 11,cc 13 0])) (fe 14 13 12 (.seq (.block 1 (aa [cw 15 2 11 13,aX 16 2 15,c0 (.alloc 9 none (.agg [.int .i64 0,.int .i64 0])),bz 2 9 16] (.seq (.drawn true 33 [I 18 6,I 19 0,aF 20 0 1 9,aw 21 1 20,cL 22 91 21,ck 23 236 19 22,aF 24 1 1 9,aw 25 1 24,cT 26 178 [.t 18,.t 23,.t 25],I 17 26,cd 27 0 17,cd 28 1 17,I 6 27,I 7 28]) (aa [I 29 7,ct 30 29] (aZ 30 (aa [eJ 4 2,bj 5 false] .ret) .skip))))) (.region [aU 31 .add 13 1,I 13 31])))) (aa [I 32 6,I 4 32,bj 5 true] .ret)))))
@[simp] def MU:List bA:=[.tmp 4,.tmp 5]
def QP:C:=(aa [eJ 4 2,bj 5 false] (aa [eb 10 2 106 [],I 6 10] (aa [bj 7 true] (.seq (.seq (.fg false 6 (.region [I 11 1,cv 12 11,cc 13 0])) (fe 14 13 12 (.seq (.block 1 (aa [cw 15 2 11 13,aX 16 2 15,c0 (.alloc 9 none (.agg [.int .i64 0,.str []])),bz 2 9 16] (.seq (.drawn true 33 [I 18 6,I 19 0,aF 20 0 1 9,aw 21 1 20,cL 22 91 21,ck 23 236 19 22,aF 24 1 1 9,aw 25 1 24,cT 26 179 [.t 18,.t 23,.t 25],I 17 26,cd 27 0 17,cd 28 1 17,I 6 27,I 7 28]) (aa [I 29 7,ct 30 29] (aZ 30 (aa [eJ 4 2,bj 5 false] .ret) .skip))))) (.region [aU 31 .add 13 1,I 13 31])))) (aa [I 32 6,I 4 32,bj 5 true] .ret)))))
@[simp] def MW:List bA:=[.tmp 4,.tmp 5]
def vq:List (Nat×dx):=[
 (3,⟨1,8,.int .i64,.int .i64 0⟩),
 (9,⟨1,16,.str,.str []⟩),
 (25,⟨1,24,.slice 104,.slice 2 .nil []⟩),
 (26,⟨1,24,.slice 106,.slice 2 .nil []⟩),
 (30,⟨1,24,.slice 32,.slice 4 .nil []⟩),
 (32,⟨4,56,.struct [(0,3),(1,3),(2,9),(3,30)],.agg [.int .i64 0,.int .i64 0,.str [],.slice 4 .nil []]⟩),
 (104,⟨2,16,.struct [(0,3),(1,3)],.agg [.int .i64 0,.int .i64 0]⟩),
 (106,⟨2,24,.struct [(0,3),(1,9)],.agg [.int .i64 0,.str []]⟩),
 (112,⟨1,24,.slice 3,.slice 1 .nil []⟩)]
theorem mi:fP az vq=true:=by kernel_rfl
theorem Dw:b4 vq zo wT 2 Tryz.f77=true:=by kernel_rfl
theorem Cc:az.funcs[(77:Nat)]? =some Tryz.f77:=Tryz.func77
theorem aiZ:b4 vq Qh DL 1 Tryz.f144=true:=by kernel_rfl
theorem acf:az.funcs[(144:Nat)]? =some Tryz.f144:=Tryz.func144
theorem ai2:b4 vq Qk Bb 1 Tryz.f145=true:=by kernel_rfl
theorem aci:az.funcs[(145:Nat)]? =some Tryz.f145:=Tryz.func145
theorem Dx:b4 vq zp wU 3 Tryz.f178=true:=by kernel_rfl
theorem Cd:az.funcs[(178:Nat)]? =some Tryz.f178:=Tryz.func178
theorem VB:b4 vq Jh MV 3 Tryz.f179=true:=by kernel_rfl
theorem RO:az.funcs[(179:Nat)]? =some Tryz.f179:=Tryz.func179
theorem Ml:b4 vq E7 akE 2 Tryz.f215=true:=by kernel_rfl
theorem JV:az.funcs[(215:Nat)]? =some Tryz.f215:=Tryz.func215
theorem ajw:b4 vq QO MU 2 Tryz.f217=true:=by kernel_rfl
theorem acO:az.funcs[(217:Nat)]? =some Tryz.f217:=Tryz.func217
theorem ajx:b4 vq QP MW 2 Tryz.f218=true:=by kernel_rfl
theorem acP:az.funcs[(218:Nat)]? =some Tryz.f218:=Tryz.func218
open Classical in
theorem amH(l:List bX):bS az 144 [.slice 2 .no (l.map bX.e)] (.bool (decide (jh l))):=by
 generalize bH:decide (jh l)=R;refine bq mi acf aiZ fun aP=>?_;unfold Qh;have gV:l.length≤68719476736:=by simp[gD,fY,gx,lim]at aP;omega
 simp;refine eC [0,5,6] (fun i (_:Unit)=>[(7,.int .i64 i)]) l.length (fun i _=> ∀j,j<i→ik me np l j) () b3 (fun k ad=>by omega) (fun _ ag _=>?_) (fun i _ hi ag _=>?_)
 ·have:R=true:=by rw[←bH,fo,Gt];exact ag
  rw[this];exact cB
 ·obtain⟨b,ae⟩:∃b,l[i]? =some b:=⟨_,cb hi⟩;obtain⟨c,ar⟩:∃c,l[i-1]? =some c:=⟨_,cb (by omega)⟩;have cz:∀h,(l[i]'h)=b:=fun h=>by rw[cb hi]at ae;exact e3 ae
  have dd:¬ik me np l i→R=false:=fun h=>by rw[←bH,hK];exact fun cr=>h (Gt.1 cr i hi)
  have c8:ik me np l i→∀j,j<i+1→ik me np l j:=fun h j ju=>by
   by_cases e:j=i
   ·rw[e];exact h
   ·exact ag j (by omega)
  have pf:ik me np l i→me b:=fun h=>(h b ae).1;have bm:ik me np l i→0<i→c.v<b.v:=fun h bD=>(h b ae).2 c bD ar;have dT:me b→(0<i→c.v<b.v)→ik me np l i:=fun J U bV gd=>by rw[ae]at gd;cases gd;exact⟨J,fun cf bD hh=>by rw[ar]at hh;cases hh;exact U bD⟩
  unfold me at pf dT;by_cases g0:0<i∧¬c.v<b.v
  ·rw[dd (fun h=>g0.2 (bm h g0.1))];have aov:=g0.1;have vQ:b.v≤c.v:=by omega
   exact cB
  have aE:(decide (0<i)&&decide (b.v≤c.v))=false:=by simp;intro h;by_cases cU:c.v<b.v;exact cU;exact absurd ⟨h,cU⟩ g0
  by_cases g1:0≤b.v∧b.v≤100000;rotate_left
  ·rw[dd (fun h=>g1 (pf h).1)];have lf:decide (0≤b.v∧b.v≤100000)=false:=by simp only[hK];exact g1
   by_cases bD:0<i
   ·have vQ:¬b.v≤c.v:=by simp[bD]at aE;omega
    simp[hi,cz,ar];(with_reducible repeat' first|refine aj ?_|refine aB (dr _ _ _) ?_|refine aC (dr _ _ _) ?_|simp[cz,ar,hi,bD,vQ,lf,g1]);all_goals simp[bp,DL,aT,aW,aQ]
   ·obtain rfl:i=0:=by omega
    simp[hi,cz,ar];(with_reducible repeat' first|refine aj ?_|refine aB (dr _ _ _) ?_|refine aC (dr _ _ _) ?_|simp[cz,ar,hi,lf,g1]);all_goals simp[bp,DL,aT,aW,aQ]
  have lf:decide (0≤b.v∧b.v≤100000)=true:=by simp only[fo];exact g1
  by_cases g2:b.k=2∨b.k=3;rotate_left
  ·rw[dd (fun h=>g2 (pf h).2)];have g21:(b.k !=2)=true:=by simp;omega
   have g22:(b.k !=3)=true:=by simp;omega
   by_cases bD:0<i
   ·have vQ:¬b.v≤c.v:=by simp[bD]at aE;omega
    simp[hi,cz,ar];(with_reducible repeat' first|refine aj ?_|refine aB (dr _ _ _) ?_|refine aC (dr _ _ _) ?_|simp[cz,ar,hi,bD,vQ,lf,g1,g21,g22]);all_goals simp[bp,DL,aT,aW,aQ]
   ·obtain rfl:i=0:=by omega
    simp[hi,cz,ar];(with_reducible repeat' first|refine aj ?_|refine aB (dr _ _ _) ?_|refine aC (dr _ _ _) ?_|simp[cz,ar,hi,lf,g1,g21,g22]);all_goals simp[bp,DL,aT,aW,aQ]
  have dz:=c8 (dT ⟨g1,g2⟩ fun bD=>by simp[bD]at aE;omega);have adb:((b.k !=2)=false)∨((b.k !=2)=true∧(b.k !=3)=false):=by
   rcases g2 with h|h
   ·left;simp[h]
   ·right;simp[h]
  rcases adb with g21|⟨g21,g22⟩
  ·by_cases bD:0<i
   ·have vQ:¬b.v≤c.v:=by simp[bD]at aE;omega
    simp[hi,cz,ar];(with_reducible repeat' first|refine aj ?_|refine aB (dr _ _ _) ?_|refine aC (dr _ _ _) ?_|simp[cz,ar,hi,bD,vQ,lf,g1,g21]);all_goals exact bN.rng () hi dz b3
   ·obtain rfl:i=0:=by omega
    simp[hi,cz,ar];(with_reducible repeat' first|refine aj ?_|refine aB (dr _ _ _) ?_|refine aC (dr _ _ _) ?_|simp[cz,ar,hi,lf,g1,g21]);all_goals exact bN.rng () hi dz b3
  ·by_cases bD:0<i
   ·have vQ:¬b.v≤c.v:=by simp[bD]at aE;omega
    simp[hi,cz,ar];(with_reducible repeat' first|refine aj ?_|refine aB (dr _ _ _) ?_|refine aC (dr _ _ _) ?_|simp[cz,ar,hi,bD,vQ,lf,g1,g21,g22]);all_goals exact bN.rng () hi dz b3
   ·obtain rfl:i=0:=by omega
    simp[hi,cz,ar];(with_reducible repeat' first|refine aj ?_|refine aB (dr _ _ _) ?_|refine aC (dr _ _ _) ?_|simp[cz,ar,hi,lf,g1,g21,g22]);all_goals exact bN.rng () hi dz b3
theorem lW(a b:bd):bS az 215 [a.e,b.e] (.bool (hR e5 a b)):=by
 rw[←Vc];have bH:tC a b=(decide (a.v<b.v)||(a.v==b.v&&hB a.s b.s)):=rfl;rcases Int.lt_trichotomy a.v b.v with h|h|h
 ·have:tC a b=true:=by rw[bH];simp[h]
  rw[this];refine bq mi JV Ml fun aP=>?_;unfold E7;exact cB
 ·have J:¬a.v<b.v:=by omega
  have U:(a.v==b.v)=true:=by simp[h]
  have:tC a b=hB a.s b.s:=by rw[bH];simp[h]
  rw[this];refine bq mi JV Ml fun aP=>?_;unfold E7;exact cB
 ·have J:¬a.v<b.v:=by omega
  have U:¬a.v=b.v:=by omega
  have ao:(a.v==b.v)=false:=by simp[U]
  have:tC a b=false:=by rw[bH];simp[J,U]
  rw[this];refine bq mi JV Ml fun aP=>?_;unfold E7;exact cB
def agA(s:List cQ)(a b:T)(i:Nat)(_:Unit):Prop:=(1≤i→a.has s=false)∧(2≤i→b.has s=false)
theorem NW(s:List cQ):∀t:T,bS az 77 [t.e,.str s] (.bool (t.has s))
 | .pair a b=>by
  have dQ:=NW s a;have dR:=NW s b;refine bq mi Cc Dw fun aP=>?_;unfold zo;simp;refine eC [1,2,8,9] (fun i (_:Unit)=>[(10,.int .i64 i)]) 2 (agA s a b) () b3 ⟨fun h=>by omega,fun h=>by omega⟩ (fun _ ag _=>?_) (fun i _ hi ag _=>?_)
  ·simp;(with_reducible repeat' first|refine aj ?_|simp);simp[bp,wT,aT,aW,aQ];simp[T.has,ag.1,ag.2]
  ·rcases(by omega:i=0∨i=1)with rfl|rfl
   ·cases bk:a.has s
    ·rw[bk]at dQ;simp;((with_reducible repeat' first|refine aj ?_|refine aB dQ ?_|refine aC dQ ?_|simp|((first|apply bG|apply bL|apply bK)<;>intro h<;>try simp at h))<;>(try exact cg));exact bN.rng () hi ⟨fun _=>bk,fun h=>by omega⟩ b3
    ·rw[bk]at dQ;simp;((with_reducible repeat' first|refine aj ?_|refine aB dQ ?_|refine aC dQ ?_|simp|((first|apply bG|apply bL|apply bK)<;>intro h<;>try simp at h))<;>(try exact cg));simp[bp,wT,aT,aW,aQ];simp[T.has,bk]
   ·cases ae:b.has s
    ·rw[ae]at dR;simp;((with_reducible repeat' first|refine aj ?_|refine aB dR ?_|refine aC dR ?_|simp|((first|apply bG|apply bL|apply bK)<;>intro h<;>try simp at h))<;>(try exact cg));exact bN.rng () hi ⟨fun _=>ag.1 (by omega),fun _=>ae⟩ b3
    ·rw[ae]at dR;simp;((with_reducible repeat' first|refine aj ?_|refine aB dR ?_|refine aC dR ?_|simp|((first|apply bG|apply bL|apply bK)<;>intro h<;>try simp at h))<;>(try exact cg));simp[bp,wT,aT,aW,aQ];simp[T.has,ae]
 | .sym n=>by
  refine bq mi Cc Dw fun aP=>?_;unfold zo;simp;refine eC [1,2,8,9] (fun i (_:Unit)=>[(10,.int .i64 i)]) 0 (fun i _=>True) () b3 trivial (fun _ ag _=>?_) (fun i _ hi ag _=>by omega);simp;(with_reducible repeat' first|refine aj ?_|simp);all_goals simp[bp,wT,aT,aW,aQ]
  all_goals simp[T.has]
 | .num n=>by
  refine bq mi Cc Dw fun aP=>?_;unfold zo;simp;refine eC [1,2,8,9] (fun i (_:Unit)=>[(10,.int .i64 i)]) 0 (fun i _=>True) () b3 trivial (fun _ ag _=>?_) (fun i _ hi ag _=>by omega);simp;(with_reducible repeat' first|refine aj ?_|simp);all_goals simp[bp,wT,aT,aW,aQ]
  all_goals simp[T.has]
 | .var n=>by
  refine bq mi Cc Dw fun aP=>?_;unfold zo;simp;refine eC [1,2,8,9] (fun i (_:Unit)=>[(10,.int .i64 i)]) 0 (fun i _=>True) () b3 trivial (fun _ ag _=>?_) (fun i _ hi ag _=>by omega);simp;(with_reducible repeat' first|refine aj ?_|simp);all_goals simp[bp,wT,aT,aW,aQ]
  all_goals simp[T.has]
 | .nil=>by
  refine bq mi Cc Dw fun aP=>?_;unfold zo;simp;refine eC [1,2,8,9] (fun i (_:Unit)=>[(10,.int .i64 i)]) 0 (fun i _=>True) () b3 trivial (fun _ ag _=>?_) (fun i _ hi ag _=>by omega);simp;(with_reducible repeat' first|refine aj ?_|simp);all_goals simp[bp,wT,aT,aW,aQ]
  all_goals simp[T.has]
def ny(l:List bX)(o:Option (List bX)):ah:= .tuple [.slice 2 .no ((o.getD l).map bX.e),.bool o.isSome]
@[simp] theorem apD(S:aJ→Prop)(l:List bX)(o:Option (List bX)):aH S (ny l o)=True:=by simp[ny]
def wv(l:List bX)(n:Int)(i:Nat):Prop:=i≤l.length∧∀j y,j<i→l[j]? =some y→y.v<n
theorem wv.none{l:List bX}{n:Int}{i:Nat}(h:wv l n i)(bk:l.Pairwise fun x y=>x.v<y.v)(ar:∀c,l[i]? =some c→n<c.v):ki l n=none:=yh.2 fun x ab=>by
 obtain⟨j,ec,rfl⟩:=nG ab;have e:=cb ec;rcases Nat.lt_or_ge j i with J|J
 ·have:=h.2 j _ J e;omega
 ·have FP:i<l.length:=by omega
  have ax:=cb FP;have ao:=ar _ ax;rcases Nat.lt_or_ge i j with U|U
  ·have:=pK.1 bk i j FP ec U;omega
  ·obtain rfl:i=j:=by omega
   omega
theorem wv.ins{l:List bX}{n k:Int}{i:Nat}(h:wv l n i)(ar:∀c,l[i]? =some c→n<c.v):kX ⟨n,k⟩ l=l.take i++⟨n,k⟩::l.drop i:=T1 ⟨n,k⟩ l i (fun j y J U=>h.2 j y J U) (fun y aD=>by have:=ar y aD;simp;omega) h.1
theorem wv.step{l:List bX}{n:Int}{i:Nat}{b:bX}(h:wv l n i)(ae:l[i]? =some b)(au:b.v<n):wv l n (i+1):=⟨(fU.1 ae).1,fun j y J U=>by
 rcases(by omega:j<i∨j=i)with ao|rfl
 ·exact h.2 j y ao U
 ·rw[ae]at U;cases U;exact au⟩
theorem amt(l:List bX)(aq:l.length≤1000000)(bk:l.Pairwise fun x y=>x.v<y.v)(n k:Int):bS az 178 [.slice 2 .no (l.map bX.e),(T.var n).e,.int .i64 k] (ny l (gS l (.var n) k)):=by
 generalize dh:gS l (.var n) k=O;have dP:(match ki l n with|some k'=>if k'=k then some l else none|none=>some (kX ⟨n,k⟩ l))=O:=by rw[←dh];rfl
 clear dh;refine bq mi Cd Dx fun aP=>?_;unfold zp;simp;refine vM [0,2,4] (fun(i:Nat)=>[(8,.int .i64 i)]) (fun i=>l.length-i) (wv l n) 0 b3 ⟨by omega,fun j y h=>by omega⟩ (fun i ag _=>?_);have ad:=ag.1;by_cases hi:i<l.length
 ·obtain⟨b,ae,cz⟩:=eZ hi;rcases Int.lt_trichotomy b.v n with h|h|h
  ·have af:=ag.step ae h;clear dP ag ae bk;simp[hi,cz,h];((with_reducible repeat' first|refine aj ?_|simp[hi,cz,h]|((first|apply bG|apply bL|apply bK)<;>intro h<;>try simp at h))<;>(try exact cg));exact bN.whl (i+1) (by omega) af b3
  ·have aR:ki l n=some b.k:=by rw[←h];exact Ax bk (fR ae)
   have J:¬b.v<n:=by omega
   have U:(b.v==n)=true:=by simp[h]
   rw[aR]at dP;simp only at dP;subst dP;clear ag ae bk aR;simp[hi,cz,J,U];(with_reducible repeat' first|refine aj ?_|simp[hi,cz,J,U]);all_goals simp[bp,wU,aT,aW,aQ]
   all_goals(by_cases e:b.k=k<;>simp[ny,e])
  ·have J:¬b.v<n:=by omega
   have U:(b.v==n)=false:=by simp;omega
   have ar:∀c,l[i]? =some c→n<c.v:=fun c ar=>by rw[ae]at ar;cases ar;exact h
   rw[ag.none bk ar]at dP;simp only[ag.ins ar]at dP;subst dP;clear ag ae bk ar;simp[hi,cz,J,U];(with_reducible repeat' first|refine aj ?_|simp[hi,cz,J,U]);all_goals simp[bp,wU,aT,aW,aQ]
   all_goals simp[ny]
   rw[hb (by simp:(l.map bX.e).length≤l.length),←List.map_take,←List.map_drop,←gP,←List.map_append];exact NA _
 ·have ar:∀c,l[i]? =some c→n<c.v:=fun c ar=>by rw[qu (by omega)]at ar;cases ar
  rw[ag.none bk ar]at dP;simp only[ag.ins ar]at dP;have FP:i=l.length:=by omega
  clear ag bk ar;subst dP;subst FP;simp;(with_reducible repeat' first|refine aj ?_|simp);all_goals simp[bp,wU,aT,aW,aQ]
  all_goals simp[ny]
  rw[hb (by simp:(l.map bX.e).length≤l.length),show [(⟨n,k⟩:bX).e]=[(⟨n,k⟩:bX)].map bX.e from rfl,←List.map_append];exact NA _
theorem NX(l:List bX)(aq:l.length≤1000000)(bk:l.Pairwise fun x y=>x.v<y.v)(t:T)(k:Int):bS az 178 [.slice 2 .no (l.map bX.e),t.e,.int .i64 k] (ny l (gS l t k)):=by
 cases t with
 |var n=>exact amt l aq bk n k
 |nil=>
  refine bq mi Cd Dx fun aP=>?_;unfold zp;simp;(with_reducible repeat' first|refine aj ?_|simp);all_goals simp[bp,wU,aT,aW,aQ]
  all_goals(by_cases e:0=k<;>simp[ny,gS,e])
 |sym n=>
  refine bq mi Cd Dx fun aP=>?_;unfold zp;simp;(with_reducible repeat' first|refine aj ?_|simp);all_goals simp[bp,wU,aT,aW,aQ]
  all_goals(by_cases e:2=k<;>simp[ny,gS,e])
 |num n=>
  refine bq mi Cd Dx fun aP=>?_;unfold zp;simp;(with_reducible repeat' first|refine aj ?_|simp);all_goals simp[bp,wU,aT,aW,aQ]
  all_goals(by_cases e:3=k<;>simp[ny,gS,e])
 |pair a b=>
  refine bq mi Cd Dx fun aP=>?_;unfold zp;simp;(with_reducible repeat' first|refine aj ?_|simp);all_goals simp[bp,wU,aT,aW,aQ]
  all_goals(by_cases e:4=k<;>simp[ny,gS,e])
theorem Yt(s:List ak)(v:Int):hs s (.var v)=bF s v:=rfl
theorem NY{s:List ak}(af:dn s){l:List bX}(aq:jh l):bS az 217 [.slice 5 .no (s.map ak.e),.slice 2 .no (l.map bX.e)] (fO (eT s l [])):=by
 have x1:=oN aq;refine bq mi acO ajw fun aP=>?_;unfold QO;simp;refine eC [0,11,12] (fun i (a:List bX)=>[(6,.slice 2 .no (a.map bX.e)),(13,.int .i64 i)]) l.length (T4 s l) [] b3 ⟨⟨by simp,by simp⟩,rfl⟩ (fun a ag _=>?_) (fun i a hi ag _=>?_)
 ·obtain⟨_,ag⟩:=ag;rw[List.drop_length]at ag;simp only[eT]at ag;rw[←ag];simp;(with_reducible repeat' first|refine aj ?_|simp);simp[bp,MU,aT,aW,aQ];simp[fO]
 ·obtain⟨bk,ag⟩:=ag;obtain⟨b,ae,cz⟩:=eZ hi;have oy:=aq.at' b (fR ae);rw[k9 hi,cz]at ag;simp only[eT]at ag;have lq:=If s af.len (.var b.v);rw[Yt]at lq;have eR:=NX a (by have:=oN bk;omega) bk.asc (bF s b.v) b.k;simp[hi,cz];cases dP:gS a (bF s b.v) b.k with
  |none=>rw[dP]at ag eR;simp only at ag;rw[←ag];simp only[ny]at eR;(with_reducible repeat' first|refine aj ?_|refine aB (ko _) ?_|refine aC (ko _) ?_|refine aB lq ?_|refine aC lq ?_|refine aB eR ?_|refine aC eR ?_|simp[cz,hi]);simp[bp,MU,aT,aW,aQ];simp[fO]
  |some be=>rw[dP]at ag eR;simp only[ny]at eR;(with_reducible repeat' first|refine aj ?_|refine aB (ko _) ?_|refine aC (ko _) ?_|refine aB lq ?_|refine aC lq ?_|refine aB eR ?_|refine aC eR ?_|simp[cz,hi]);exact bN.rng be hi ⟨EI bk (Bn af oy.1) oy.2 dP,ag⟩ b3
open Classical in
theorem amI(l:List bd):bS az 145 [.slice 2 .no (l.map bd.e)] (.bool (decide (jj l))):=by
 generalize bH:decide (jj l)=R;refine bq mi aci ai2 fun aP=>?_;unfold Qk;have gV:l.length≤68719476736:=by simp[gD,fY,gx,lim]at aP;omega
 simp;refine eC [0,5,6] (fun i (_:Unit)=>[(7,.int .i64 i)]) l.length (fun i _=> ∀j,j<i→ik kk kG l j) () b3 (fun k ad=>by omega) (fun _ ag _=>?_) (fun i _ hi ag _=>?_)
 ·have:R=true:=by rw[←bH,fo,GI];exact ag
  rw[this];exact cB
 ·obtain⟨b,ae⟩:∃b,l[i]? =some b:=⟨_,cb hi⟩;obtain⟨c,ar⟩:∃c,l[i-1]? =some c:=⟨_,cb (by omega)⟩;have cz:∀h,(l[i]'h)=b:=fun h=>by rw[cb hi]at ae;exact e3 ae
  have dd:¬ik kk kG l i→R=false:=fun h=>by rw[←bH,hK];exact fun cr=>h (GI.1 cr i hi)
  have c8:ik kk kG l i→∀j,j<i+1→ik kk kG l j:=fun h j ju=>by
   by_cases e:j=i
   ·rw[e];exact h
   ·exact ag j (by omega)
  have gF:∀p:Prop,(p→ep)→(ik kk kG l i→p)→R=false:=fun p J U=>dd fun h=>J (U h);have pf:ik kk kG l i→kk b:=fun h=>(h b ae).1;have bm:ik kk kG l i→0<i→hR e5 c b=true:=fun h bD=>by simpa[hR,kG]using(h b ae).2 c bD ar
  have dT:kk b→(0<i→hR e5 c b=true)→ik kk kG l i:=fun J U bV gd=>by rw[ae]at gd;cases gd;exact⟨J,fun cf bD hh=>by rw[ar]at hh;cases hh;simpa[hR,kG]using U bD⟩
  unfold kk at pf dT;by_cases g4:0<i
  ·cases g5:hR e5 c b
   ·rw[gF _ (fun h=>by rw[h]at g5;cases g5) (fun h=>bm h g4)];simp[hi,cz,ar];(with_reducible repeat' first|refine aj ?_|refine aB (lW _ _) ?_|refine aC (lW _ _) ?_|simp[cz,ar,hi,g4,g5]);all_goals simp[bp,Bb,aT,aW,aQ]
   ·by_cases g1:0≤b.v∧b.v≤100000;rotate_left
    ·rw[gF _ (fun h=>g1 h) (fun h=>(pf h).1)];have lf:decide (0≤b.v∧b.v≤100000)=false:=by simp only[hK];exact g1
     simp[hi,cz,ar];(with_reducible repeat' first|refine aj ?_|refine aB (lW _ _) ?_|refine aC (lW _ _) ?_|refine aB (dr _ _ _) ?_|refine aC (dr _ _ _) ?_|simp[cz,ar,hi,g4,g5,lf,g1]);all_goals simp[bp,Bb,aT,aW,aQ]
    have lf:decide (0≤b.v∧b.v≤100000)=true:=by simp only[fo];exact g1
    cases g3:ib b.s
    ·rw[gF _ (fun h=>by rw[h]at g3;cases g3) (fun h=>(pf h).2)];have b7:=gY b.s;rw[g3]at b7;simp[hi,cz,ar];(with_reducible repeat' first|refine aj ?_|refine aB (lW _ _) ?_|refine aC (lW _ _) ?_|refine aB (dr _ _ _) ?_|refine aC (dr _ _ _) ?_|refine aB b7 ?_|refine aC b7 ?_|simp[cz,ar,hi,g4,g5,lf,g1]);all_goals simp[bp,Bb,aT,aW,aQ]
    have b7:=gY b.s;rw[g3]at b7;have dz:=c8 (dT ⟨g1,g3⟩ fun _=>g5);simp[hi,cz,ar];(with_reducible repeat' first|refine aj ?_|refine aB (lW _ _) ?_|refine aC (lW _ _) ?_|refine aB (dr _ _ _) ?_|refine aC (dr _ _ _) ?_|refine aB b7 ?_|refine aC b7 ?_|simp[cz,ar,hi,g4,g5,lf,g1]);all_goals exact bN.rng () hi dz b3
  ·obtain rfl:i=0:=by omega
   by_cases g1:0≤b.v∧b.v≤100000;rotate_left
   ·rw[gF _ (fun h=>g1 h) (fun h=>(pf h).1)];have lf:decide (0≤b.v∧b.v≤100000)=false:=by simp only[hK];exact g1
    simp[hi,cz,ar];(with_reducible repeat' first|refine aj ?_|refine aB (lW _ _) ?_|refine aC (lW _ _) ?_|refine aB (dr _ _ _) ?_|refine aC (dr _ _ _) ?_|simp[cz,ar,hi,g4,lf,g1]);all_goals simp[bp,Bb,aT,aW,aQ]
   have lf:decide (0≤b.v∧b.v≤100000)=true:=by simp only[fo];exact g1
   cases g3:ib b.s
   ·rw[gF _ (fun h=>by rw[h]at g3;cases g3) (fun h=>(pf h).2)];have b7:=gY b.s;rw[g3]at b7;simp[hi,cz,ar];(with_reducible repeat' first|refine aj ?_|refine aB (lW _ _) ?_|refine aC (lW _ _) ?_|refine aB (dr _ _ _) ?_|refine aC (dr _ _ _) ?_|refine aB b7 ?_|refine aC b7 ?_|simp[cz,ar,hi,g4,lf,g1]);all_goals simp[bp,Bb,aT,aW,aQ]
   have b7:=gY b.s;rw[g3]at b7;have dz:=c8 (dT ⟨g1,g3⟩ fun h=>absurd h g4);simp[hi,cz,ar];(with_reducible repeat' first|refine aj ?_|refine aB (lW _ _) ?_|refine aC (lW _ _) ?_|refine aB (dr _ _ _) ?_|refine aC (dr _ _ _) ?_|refine aB b7 ?_|refine aC b7 ?_|simp[cz,ar,hi,g4,lf,g1]);all_goals exact bN.rng () hi dz b3
def pc(s:List cQ)(a7:List Int)(l:List bd):List bd:=a7.foldl (fun a v=>kh e5 ⟨v,s⟩ a) l
theorem J0(s:List cQ):∀(a7:List Int) {l:List bd},gR e5 l→gR e5 (pc s a7 l)
 |[],_,h=>h
 |v::a7,_,h=>J0 s a7 (Lf k0 h)
theorem UX(s:List cQ){x:bd}:∀(a7:List Int) {l:List bd},x∈pc s a7 l↔x∈l∨(x.s=s∧x.v∈a7)
 |[],l=>by simp[pc]
 |v::a7,l=>by
  have:=UX s (x:=x) a7 (l:=kh e5 ⟨v,s⟩ l);rw[show pc s (v::a7) l=pc s a7 (kh e5 ⟨v,s⟩ l)from rfl,this,GL k0,fA];constructor
  ·rintro((rfl|h)|⟨J,U⟩)
   ·exact .inr ⟨rfl,.inl rfl⟩
   ·exact .inl h
   ·exact .inr ⟨J,.inr U⟩
  ·rintro(h|⟨J,U|U⟩)
   ·exact .inl (.inr h)
   ·refine .inl (.inl ?_);cases x;simp_all
   ·exact .inr ⟨J,U⟩
theorem RZ(s:List cQ):∀(a7:List Int) (l:List bd),(pc s a7 l).length≤l.length+a7.length
 |[],l=>by simp[pc]
 |v::a7,l=>by have J:=RZ s a7 (kh e5 ⟨v,s⟩ l);have U:=Lh (c:=e5) (⟨v,s⟩:bd) l;rw[show pc s (v::a7) l=pc s a7 (kh e5 ⟨v,s⟩ l)from rfl];simp only[oa];omega
theorem ac3{t:T}{s:List cQ}(cU:t.has s=false){l:List bd}(bk:gR e5 l):gm l t s=some (pc s (iF t []) l):=IF cU (J0 s _ bk) fun x=>by rw[UX,GM];simp
def C5(l:List bd)(a7:List Int)(s:List cQ)(i:Nat)(a:List bd):Prop:=a=pc s (a7.take i) l
def Aq(a:List bd)(m:bd)(k:Nat):Prop:=k≤a.length∧∀j y,j<k→a[j]? =some y→e5 y m<0
theorem Aq.step{a:List bd}{m:bd}{k:Nat}{b:bd}(h:Aq a m k)(ae:a[k]? =some b)(au:e5 b m<0):Aq a m (k+1):=⟨(fU.1 ae).1,fun j y J U=>by
 rcases(by omega:j<k∨j=k)with ao|rfl
 ·exact h.2 j y ao U
 ·rw[ae]at U;cases U;exact au⟩
theorem Aq.fin{a:List bd}{m:bd}{k:Nat}(h:Aq a m k)(ar:∀y,a[k]? =some y→0≤e5 y m):kh e5 m a=if(match a[k]? with|some y=>decide (e5 y m=0)|none=>false)=true then a else a.take k++m::a.drop k:=(Lg k0 m a k (fun j y J U=>h.2 j y J U) ar h.1).trans (by cases a[k]?<;>rfl)
theorem Va(a:List bd)(k:Nat)(m:bd):oZ k (a.map bd.e)++m.e::List.drop k (a.map bd.e)=(a.take k++m::a.drop k).map bd.e:=by simp
theorem AN(a:List bd)(k:Nat)(m:bd):di (oZ k (a.map bd.e)++m.e::List.drop k (a.map bd.e))=oZ k (a.map bd.e)++m.e::List.drop k (a.map bd.e):=by rw[Va,NB]
theorem AM(S:aJ→Prop)(a:List bd)(k:Nat)(m:bd):aN S (oZ k (a.map bd.e)++m.e::List.drop k (a.map bd.e))=True:=by rw[Va,Uv]
theorem U9(a:List bd)(m:bd):a.map bd.e++[m.e]=(a++[m]).map bd.e:=by simp
theorem AL(a:List bd)(m:bd):di (a.map bd.e++[m.e])=a.map bd.e++[m.e]:=by rw[U9,NB]
theorem AK(S:aJ→Prop)(a:List bd)(m:bd):aN S (a.map bd.e++[m.e])=True:=by rw[U9,Uv]
theorem Ye(l:List bd)(aq:l.length≤68719470000)(t:T)(aL:t.size≤5000)(s:List cQ)(bk:gR e5 l):bS az 179 [.slice 2 .no (l.map bd.e),t.e,.str s] (h3 (gm l t s)):=by
 have iD:=NW s t;cases cU:t.has s;rotate_left
 ·have bD:gm l t s=none:=by simp[gm,cU]
  rw[bD];rw[cU]at iD;refine bq mi RO VB fun aP=>?_;unfold Jh;simp;(with_reducible repeat' first|refine aj ?_|refine aB iD ?_|refine aC iD ?_|simp);all_goals simp[bp,MV,aT,aW,aQ]
  all_goals simp[h3]
 ·rw[cU]at iD;have dP:=ac3 cU bk;have oJ:=Ei t [];have p6:=Ie t [] (by simp;omega) (by simp[tV]);have Kk:eu []=[]:=rfl;rw[Kk]at p6;rw[dP];clear dP cU;generalize iF t []=a7 at p6 oJ⊢;have kC:a7.length≤5000:=by simp at oJ;omega
  generalize fs:pc s a7 l=F;refine bq mi RO VB fun aP=>?_;unfold Jh;simp;(with_reducible repeat' first|refine aj ?_|refine aB iD ?_|refine aC iD ?_|refine aB p6 ?_|refine aC p6 ?_|simp[e4]);refine eC [2,17,18] (fun i (a:List bd)=>[(0,.slice 2 .no (a.map bd.e)),(19,.int .i64 i)]) a7.length (C5 l a7 s) l ⟨by simp[fresh,aN,aH,cn,inObs,Pv.look,e4],eM (by simp[fresh,aN,aH,cn,inObs,Pv.look,e4]),eN (by simp[fresh,aN,aH,ej,inObs,Pv.look,e4]),by simp⟩ (by simp[C5,pc]) (fun a ag _=>?_) (fun i a hi ag _=>?_)
  ·rw[C5,nH,fs]at ag;subst ag;simp[e4];(with_reducible repeat' first|refine aj ?_|simp[e4]);all_goals simp[bp,MV,aT,aW,aQ]
   all_goals simp[h3]
  ·obtain⟨v,aI⟩:∃v,a7[i]? =some v:=⟨_,cb hi⟩;have q0:∀h,((eu a7)[i]'h)= .int .i64 v:=fun cr=>by have:=C1 a7 i;rw[aI,cb cr]at this;exact e3 this
   have rK:gR e5 a:=by rw[ag];exact J0 s _ bk
   have pX:a.length≤68719475000:=by have:=RZ s (a7.take i) l;rw[ag];simp at this⊢;omega
   have ft:C5 l a7 s (i+1) (kh e5 ⟨v,s⟩ a):=by rw[C5,List.take_succ,aI,ag];simp[pc]
   generalize hm:(⟨v,s⟩:bd)=m at ft;have afc:m.v=v:=by rw[←hm]
   have uK:m.s=s:=by rw[←hm]
   subst afc;subst uK;clear ag fs;simp[hi,q0,e4];(with_reducible repeat' first|refine aj ?_|simp[hi,q0,e4]);refine vM [0,2,10,17,18,19] (fun(k:Nat)=>[(11,.int .i64 k)]) (fun k=>a.length-k) (Aq a m) 0 ⟨by simp[fresh,aN,aH,cn,inObs,Pv.look,e4],eM (by simp[fresh,aN,aH,cn,inObs,Pv.look,e4]),eN (by simp[fresh,aN,aH,ej,inObs,Pv.look,e4]),by simp⟩ ⟨by omega,fun j y h=>by omega⟩ (fun k ag _=>?_);have ad:=ag.1;by_cases hx:k<a.length
   ·obtain⟨b,ae,cz⟩:=eZ hx;cases bm:hR e5 b m
    ·have vY:0≤e5 b m:=by simpa[hR]using bm
     have dz:=ag.fin (fun y aD=>by rw[ae]at aD;cases aD;exact vY);rw[ae]at dz;cases FO:hR e5 m b
     ·have hle:0≤e5 m b:=by simpa[hR]using FO
      have bD:e5 b m=0:=by have:=k0.neg b m;omega
      rw[if_pos (by simp[bD])]at dz;rw[dz]at ft;clear ag ae dz pX rK;simp[hx,cz];((with_reducible repeat' first|refine aj ?_|refine aB (lW _ _) ?_|refine aC (lW _ _) ?_|simp[hx,cz,bm,FO]|((first|apply bG|apply bL|apply bK)<;>intro h<;>try simp at h))<;>(try exact cg));all_goals exact bN.rng a hi ft ⟨by simp[fresh,aN,aH,cn,inObs,Pv.look,e4],eM (by simp[fresh,aN,aH,cn,inObs,Pv.look,e4]),eN (by simp[fresh,aN,aH,ej,inObs,Pv.look,e4]),by simp⟩
     ·have hle:e5 m b<0:=by simpa[hR]using FO
      have bD:¬e5 b m=0:=by have:=k0.neg b m;omega
      rw[if_neg (by simp[bD])]at dz;rw[dz]at ft;clear ag ae dz rK;simp[hx,cz];((with_reducible repeat' first|refine aj ?_|refine aB (lW _ _) ?_|refine aC (lW _ _) ?_|simp[hx,cz,bm,FO]|((first|apply bG|apply bL|apply bK)<;>intro h<;>try simp at h))<;>(try exact cg));all_goals first|(refine⟨by unfold lim;omega,?_⟩)|skip
      all_goals(with_reducible repeat' first|refine aj ?_|simp)
      all_goals first|(refine⟨by unfold lim;omega,?_⟩)|skip
      all_goals((with_reducible repeat' first|refine aj ?_|simp|((first|apply bG|apply bL|apply bK)<;>intro h<;>try simp at h))<;>(try exact cg))
      all_goals exact bN.rng _ hi ft ⟨by simp[fresh,aN,aH,cn,inObs,Pv.look,e4,hb,AN,AM,AL,AK],eM (by simp[fresh,aN,aH,cn,inObs,Pv.look,e4,hb,AN,AM,AL,AK]),eN (by simp[fresh,aN,aH,ej,inObs,Pv.look,e4,hb,AN,AM,AL,AK]),by simp⟩
    ·have wc:e5 b m<0:=by simpa[hR]using bm
     have af:=ag.step ae wc;clear ag ae rK ft;simp[hx,cz];((with_reducible repeat' first|refine aj ?_|refine aB (lW _ _) ?_|refine aC (lW _ _) ?_|simp[hx,cz,bm]|((first|apply bG|apply bL|apply bK)<;>intro h<;>try simp at h))<;>(try exact cg));all_goals exact bN.whl (k+1) (by omega) af ⟨by simp[fresh,aN,aH,cn,inObs,Pv.look,e4],eM (by simp[fresh,aN,aH,cn,inObs,Pv.look,e4]),eN (by simp[fresh,aN,aH,ej,inObs,Pv.look,e4]),by simp⟩
   ·have dz:=ag.fin (fun y aD=>by rw[qu (by omega)]at aD;cases aD);rw[qu (by omega)]at dz;simp only[gC,if_false]at dz;rw[dz]at ft;have iC:k=a.length:=by omega
    clear ag dz rK;subst iC;simp;(with_reducible repeat' first|refine aj ?_|simp);all_goals first|(refine⟨by unfold lim;omega,?_⟩)|skip
    all_goals(with_reducible repeat' first|refine aj ?_|simp)
    all_goals first|(refine⟨by unfold lim;omega,?_⟩)|skip
    all_goals(with_reducible repeat' first|refine aj ?_|simp)
    all_goals exact bN.rng _ hi ft ⟨by simp[fresh,aN,aH,cn,inObs,Pv.look,e4,hb,AN,AM,AL,AK],eM (by simp[fresh,aN,aH,cn,inObs,Pv.look,e4,hb,AN,AM,AL,AK]),eN (by simp[fresh,aN,aH,ej,inObs,Pv.look,e4,hb,AN,AM,AL,AK]),by simp⟩
theorem NZ{s:List ak}(af:dn s){l:List bd}(aq:jj l){G:List (List cQ)}(hf:G.length≤687000)(aR:lx G l):bS az 218 [.slice 5 .no (s.map ak.e),.slice 2 .no (l.map bd.e)] (h3 (eK s l [])):=by
 have hlen:∀{a:List bd},jj a→lx G a→a.length≤68719470000:=fun J U=>by have:=Di J U;omega
 have x1:=hlen aq aR;refine bq mi acP ajx fun aP=>?_;unfold QP;simp;refine eC [0,11,12] (fun i (a:List bd)=>[(6,.slice 2 .no (a.map bd.e)),(13,.int .i64 i)]) l.length (T5 s G l) [] b3 ⟨⟨by simp,by simp[gR]⟩,fun x ab=>by simp at ab,rfl⟩ (fun a ag _=>?_) (fun i a hi ag _=>?_)
 ·obtain⟨_,_,ag⟩:=ag;rw[List.drop_length]at ag;simp only[eK]at ag;rw[←ag];simp;(with_reducible repeat' first|refine aj ?_|simp);simp[bp,MW,aT,aW,aQ];simp[h3]
 ·obtain⟨bk,CU,ag⟩:=ag;obtain⟨b,ae,cz⟩:=eZ hi;have oy:=aq.at' b (fR ae);have Ko:=aR b (fR ae);rw[k9 hi,cz]at ag;simp only[eK]at ag;have lq:=If s af.len (.var b.v);rw[Yt]at lq;have eR:=Ye a (hlen bk CU) (bF s b.v) (D3 af b.v) b.s bk.asc;simp[hi,cz];cases dP:gm a (bF s b.v) b.s with
  |none=>rw[dP]at ag eR;simp only at ag;rw[←ag];simp only[h3]at eR;(with_reducible repeat' first|refine aj ?_|refine aB (ko _) ?_|refine aC (ko _) ?_|refine aB lq ?_|refine aC lq ?_|refine aB eR ?_|refine aC eR ?_|simp[cz,hi]);simp[bp,MW,aT,aW,aQ];simp[h3]
  |some be=>rw[dP]at ag eR;simp only[h3]at eR;(with_reducible repeat' first|refine aj ?_|refine aB (ko _) ?_|refine aC (ko _) ?_|refine aB lq ?_|refine aC lq ?_|refine aB eR ?_|refine aC eR ?_|simp[cz,hi]);exact bN.rng be hi ⟨EJ bk (Bn af oy.1) oy.2 dP,BR CU Ko dP,ag⟩ b3
theorem alF{s:List ak}(av:pC s)(bk:hL s)(aO:gu s):gB (s.map ak.b)=s.all (mo s):=by
 rw[qt,ig,rf,←Xm bk];constructor
 ·rintro⟨s',J,U,ao,a1⟩;rw[vB J];exact ao
 ·intro ao;exact⟨s,rfl,av,ao,aO⟩
theorem Zw{s:List ak}(bk:hL s)(b:ak):mo s b=true↔(∀v∈iF b.t [],cV s v=none)∧(b.t.kind==1&&decide (b.v≤b.t.int))=false:=by unfold mo;rw[cx,R0 bk];simp only[true_and,rk,GM,List.not_mem_nil,or_false]
def C4(s:List ak)(a7:List Int)(i:Nat)(_:Unit):Prop:= ∀v∈a7.take i,cV s v=none
theorem C4.step{s:List ak}{a7:List Int}{i:Nat}(h:C4 s a7 i ()){v:Int}(aI:a7[i]? =some v)(au:cV s v=none):C4 s a7 (i+1) ():=fun w hw=>by
 rw[List.take_succ,aI]at hw;simp only[iH,Option.toList_some,qv]at hw;rcases hw with hw|rfl
 ·exact h w hw
 ·exact au
theorem N0(l:List dV):bS az 142 [.slice 5 .no (l.map dV.e)] (.bool (gB l)):=by
 have aI:=amj l;by_cases h:zd l;rotate_left
 ·have bD:gB l=false:=by unfold gB;simp only[hK];rintro⟨s,J,U,ao,a1⟩;exact h (Ik.2 ⟨s,J,U,ao.asc,a1⟩)
  rw[bD];refine bq eH RL Vy fun aP=>?_;unfold Je;exact cB
 ·obtain⟨s,rfl,av,bk,aO⟩:=Ik.1 h;have aq:s.length≤1000000:=by have:=aO.1;omega
  rw[alF av bk aO];rw[yp]at aI⊢;simp only[h,decide_true]at aI;clear h;generalize bH:s.all (mo s)=R;refine bq eH RL Vy fun aP=>?_;unfold Je;simp;(with_reducible repeat' first|refine aj ?_|refine aB aI ?_|refine aC aI ?_|simp);refine eC [0,12,13] (fun i (_:Unit)=>[(14,.int .i64 i)]) s.length (pw (mo s) s) () b3 (fun k b ad=>by omega) (fun _ ag _=>?_) (fun i _ hi ag _=>?_)
  ·have:R=true:=by rw[←bH,ig];intro b ae;obtain⟨k,ad,e⟩:=nG ae;exact ag k b ad (by rw[cb ad,e])
   rw[this];exact cB
  ·obtain⟨b,ae,cz⟩:=eZ hi;have gF:¬mo s b=true→R=false:=fun h=>by rw[←bH,Bool.eq_false_iff];intro cr;rw[ig]at cr;exact h (cr b (fR ae))
   have rQ:mo s b=true→pw (mo s) s (i+1) ():=fun h=>ag.step ae h;have uG:=Zw bk b;have et:=aO.2 b (fR ae);have oJ:=Ei b.t [];have p6:=Ie b.t [] (by simp;omega) (by simp[tV]);have Kk:eu []=[]:=rfl;rw[Kk]at p6;generalize iF b.t []=a7 at p6 oJ uG;have kC:a7.length≤5000:=by simp at oJ;omega
   rw[uG]at gF rQ;clear uG ag oJ ae;simp[hi,cz];cases ad:(b.t.kind==1&&decide (b.v≤b.t.int));rotate_left
   ·rw[gF (by rw[ad];simp)];rw[cx]at ad;have gz:=ad.1;have ka:b.v≤b.t.int:=of_decide_eq_true ad.2;exact cB
   ·rw[ad]at gF rQ;simp only[and_true]at gF rQ;cases gz:(b.t.kind==1)
    ·clear ad;(with_reducible repeat' first|refine aj ?_|refine aB p6 ?_|refine aC p6 ?_|simp[cz,hi,e4,gz]);refine eC [0,12,13,14,32,33] (fun j (_:Unit)=>[(34,.int .i64 j)]) a7.length (C4 s a7) () ⟨by simp[fresh,aN,aH,cn,inObs,Pv.look,e4],eM (by simp[fresh,aN,aH,cn,inObs,Pv.look,e4]),eN (by simp[fresh,aN,aH,ej,inObs,Pv.look,e4]),by simp⟩ (fun v aI=>by simp at aI) (fun _ ag _=>?_) (fun j _ ec ag _=>?_)
     ·have aR:=rQ (fun v aI=>ag v (by rwa[nH]));simp[e4];(with_reducible repeat' first|refine aj ?_|simp[e4]);exact bN.rng () hi aR ⟨by simp[fresh,aN,aH,cn,inObs,Pv.look,e4],eM (by simp[fresh,aN,aH,cn,inObs,Pv.look,e4]),eN (by simp[fresh,aN,aH,ej,inObs,Pv.look,e4]),by simp⟩
     ·obtain⟨v,aI⟩:∃v,a7[j]? =some v:=⟨_,cb ec⟩;have q0:∀h,((eu a7)[j]'h)= .int .i64 v:=fun cr=>by have:=C1 a7 j;rw[aI,cb cr]at this;exact e3 this
      have iu:=vr s v aq;cases hQ:cV s v with
      |none=>have au:=ag.step aI hQ;rw[hQ]at iu;simp only[jq,ja]at iu;clear ag rQ gF hQ;simp[ec,q0,e4];(with_reducible repeat' first|refine aj ?_|refine aB iu ?_|refine aC iu ?_|simp[ec,q0,e4]);exact bN.rng () ec au ⟨by simp[fresh,aN,aH,cn,inObs,Pv.look,e4],eM (by simp[fresh,aN,aH,cn,inObs,Pv.look,e4]),eN (by simp[fresh,aN,aH,ej,inObs,Pv.look,e4]),by simp⟩
      |some x=>rw[gF (fun h=>by have:=h v (fR aI);rw[hQ]at this;cases this)];rw[hQ]at iu;simp only[jr,nI]at iu;clear ag rQ gF hQ;simp[ec,q0,e4];(with_reducible repeat' first|refine aj ?_|refine aB iu ?_|refine aC iu ?_|simp[ec,q0,e4]);simp[bp,ML,aT,aW,aQ]
    ·have ka:¬b.v≤b.t.int:=by rw[gz]at ad;simpa using ad
     clear ad;(with_reducible repeat' first|refine aj ?_|refine aB p6 ?_|refine aC p6 ?_|simp[cz,hi,e4,gz,ka]);refine eC [0,12,13,14,32,33] (fun j (_:Unit)=>[(34,.int .i64 j)]) a7.length (C4 s a7) () ⟨by simp[fresh,aN,aH,cn,inObs,Pv.look,e4],eM (by simp[fresh,aN,aH,cn,inObs,Pv.look,e4]),eN (by simp[fresh,aN,aH,ej,inObs,Pv.look,e4]),by simp⟩ (fun v aI=>by simp at aI) (fun _ ag _=>?_) (fun j _ ec ag _=>?_)
     ·have aR:=rQ (fun v aI=>ag v (by rwa[nH]));simp[e4];(with_reducible repeat' first|refine aj ?_|simp[e4]);exact bN.rng () hi aR ⟨by simp[fresh,aN,aH,cn,inObs,Pv.look,e4],eM (by simp[fresh,aN,aH,cn,inObs,Pv.look,e4]),eN (by simp[fresh,aN,aH,ej,inObs,Pv.look,e4]),by simp⟩
     ·obtain⟨v,aI⟩:∃v,a7[j]? =some v:=⟨_,cb ec⟩;have q0:∀h,((eu a7)[j]'h)= .int .i64 v:=fun cr=>by have:=C1 a7 j;rw[aI,cb cr]at this;exact e3 this
      have iu:=vr s v aq;cases hQ:cV s v with
      |none=>have au:=ag.step aI hQ;rw[hQ]at iu;simp only[jq,ja]at iu;clear ag rQ gF hQ;simp[ec,q0,e4];(with_reducible repeat' first|refine aj ?_|refine aB iu ?_|refine aC iu ?_|simp[ec,q0,e4]);exact bN.rng () ec au ⟨by simp[fresh,aN,aH,cn,inObs,Pv.look,e4],eM (by simp[fresh,aN,aH,cn,inObs,Pv.look,e4]),eN (by simp[fresh,aN,aH,ej,inObs,Pv.look,e4]),by simp⟩
      |some x=>rw[gF (fun h=>by have:=h v (fR aI);rw[hQ]at this;cases this)];rw[hQ]at iu;simp only[jr,nI]at iu;clear ag rQ gF hQ;simp[ec,q0,e4];(with_reducible repeat' first|refine aj ?_|refine aB iu ?_|refine aC iu ?_|simp[ec,q0,e4]);simp[bp,ML,aT,aW,aQ]
theorem Yl{s:List ak}(h:dn s):bS az 142 [.slice 5 .no (s.map ak.e)] (.bool true):=by have:=N0 (s.map ak.b);rw[yp,rf.2 ⟨s,rfl,h.ok,h.sol,h.fits⟩]at this;exact this
def zq:C:=(aa [cO 2 0,bj 4 false] (.seq (aa [aF 7 3 1 2,aw 8 1 7,cv 9 8,cc 10 0] (fe 11 10 9 (.seq (.block 1 (aa [cw 12 4 8 10,aX 13 4 12,cS 6 du,bz 4 6 13] (aa [aX 14 4 6,I 15 1,ck 16 136 14 15,ct 17 16] (aZ 17 (aa [bj 4 false] .ret) .skip)))) (.region [aU 18 .add 10 1,I 10 18])))) (aa [aF 19 0 1 2,aw 20 1 19,aU 21 .neq 20 1,I 22 21,al 22 false (aF 23 1 1 2),al 22 false (aw 24 1 23),bZ 22 false 25 1,al 22 false (br 26 .lss 24 25),cW 27 22 26,I 4 27] .ret)))
@[simp] def wV:List bA:=[.tmp 4]
def QK:C:=(aa [bj 2 false] (.seq (aa [I 5 0,cv 6 5,cc 7 0] (fe 8 7 6 (.seq (.block 1 (aa [cw 9 1 5 7,aw 10 1 9,I 4 10] (aa [I 11 4,cL 12 142 11,ct 13 12] (aZ 13 (aa [bj 2 false] .ret) .skip)))) (.region [aU 14 .add 7 1,I 7 14])))) (aa [bj 2 true] .ret)))
@[simp] def akB:List bA:=[.tmp 2]
def QS:C:=(aa [bj 4 false] (.seq (aa [I 7 0,cv 8 7,cc 9 0] (fe 10 9 8 (.seq (.block 1 (aa [cw 11 5 7 9,aX 12 5 11,cS 6 kj,bz 5 6 12] (aa [aF 13 0 1 6,aw 14 1 13,I 15 1,br 16 .geq 14 15,I 17 16,al 17 false (iv 18 1 4 6),al 17 false (aX 19 4 18),bZ 17 false 20 1,al 17 false (ck 21 136 19 20),al 17 false (ct 22 21),cW 23 17 22] (aZ 23 (aa [bj 4 false] .ret) .skip)))) (.region [aU 24 .add 9 1,I 9 24])))) (aa [bj 4 true] .ret)))
@[simp] def akH:List bA:=[.tmp 4]
def QJ:C:=(aa [eJ 4 5] (aa [eb 10 5 61 [],I 5 10] (.seq (aa [I 11 1,cv 12 11,cc 13 0] (fe 14 13 12 (.seq (.block 1 (aa [cw 15 5 11 13,aX 16 5 15,cS 7 kj,bz 5 7 16] (aa [I 18 0,aF 19 0 1 7,aw 20 1 19,ck 21 161 18 20,I 17 21,cd 22 0 17,cd 23 1 17,cS 8 du,bz 4 8 22,I 9 23] (aa [I 24 9,ct 25 24] (aZ 25 (.region [I 26 5,aX 27 5 7,eb 28 5 61 [.t 27],gO 29 5 61 26 28,I 5 29]) .skip))))) (.region [aU 30 .add 13 1,I 13 30])))) (aa [I 31 5,I 4 31] .ret))))
@[simp] def akA:List bA:=[.tmp 4]
def QL:C:=(aa [cc 4 0] (.seq (aa [cc 5 0] (.block 0 (.loop (.seq (aa [I 7 5,I 8 0,cv 9 8,br 10 .lss 7 9,I 11 10,bZ 11 true 12 5,bZ 11 true 13 1,al 11 true (cv 14 13),al 11 true (br 15 .lss 12 14),dv 16 11 15] (aZ 16 .skip (.exit 0))) (.seq (.block 1 (.seq (.seq (.drawn true 67 [I 19 0,I 20 5,cw 21 5 19 20,aF 22 0 1 21,aw 23 1 22,I 24 1,I 25 5,cw 26 5 24 25,aF 27 0 1 26,aw 28 1 27,br 29 .neq 23 28]) (aZ 29 (.seq (.drawn true 67 [I 30 0,I 31 5,cw 32 5 30 31,aF 33 0 1 32,aw 34 1 33,I 35 1,I 36 5,cw 37 5 35 36,aF 38 0 1 37,aw 39 1 38,br 40 .lss 34 39,cL 41 238 40,I 4 41]) .ret) .skip)) (.seq (.drawn true 67 [I 42 0,I 43 5,cw 44 5 42 43,iv 45 1 4 44,aX 46 4 45,I 47 1,I 48 5,cw 49 5 47 48,iv 50 1 4 49,aX 51 4 50,ck 52 229 46 51,I 6 52]) (aa [I 53 6,aU 54 .neq 53 0] (aZ 54 (aa [I 55 6,I 4 55] .ret) .skip))))) (.region [I 17 5,aU 18 .add 17 1,I 5 18])))))) (.seq (aa [I 56 0,cv 57 56,I 58 1,cv 59 58,br 60 .neq 57 59] (aZ 60 (aa [I 61 0,cv 62 61,I 63 1,cv 64 63,br 65 .lss 62 64,cL 66 238 65,I 4 66] .ret) .skip)) (aa [cc 4 0] .ret))))
@[simp] def DM:List bA:=[.tmp 4]
def QN:C:=(aa [eJ 2 1] (aa [eb 11 1 23 [],I 3 11] (.seq (.seq (.fg false 3 (.region [I 12 0,cv 13 12,cc 14 0])) (fe 15 14 13 (.seq (.block 1 (aa [cw 16 1 12 14,aw 17 1 16,I 5 17] (aa [bj 6 true] (.seq (aa [I 18 0,cv 19 18,cc 20 0] (.block 2 (.loop (aa [br 21 .lss 20 19] (.seq (aZ 21 .skip (.exit 2)) (.seq (.block 3 (aa [cw 22 1 18 20,aw 23 1 22,I 8 23] (.region [I 24 6,I 25 24,bZ 25 true 26 8,bZ 25 true 27 5,al 25 true (ck 28 180 26 27),al 25 true (aU 29 .eql 28 0),bZ 25 true 30 29,bZ 30 false 31 8,bZ 30 false 32 5,al 30 false (ck 33 269 31 32),al 30 false (ct 34 33),al 25 true (cW 35 30 34),dv 36 25 35,I 6 36]))) (.region [aU 37 .add 20 1,I 20 37]))))))) (aa [I 38 3,cv 39 38,I 9 39] (.seq (.block 4 (.loop (.seq (aa [I 40 9,aU 41 .gtr 40 0,I 42 41,bZ 42 true 43 3,bZ 42 true 44 9,al 42 true (aU 45 .sub 44 1),al 42 true (cw 46 1 43 45),al 42 true (aw 47 1 46),bZ 42 true 48 5,al 42 true (ck 49 180 47 48),al 42 true (aU 50 .geq 49 0),dv 51 42 50] (aZ 51 .skip (.exit 4))) (.block 5 (.region [I 52 9,aU 53 .sub 52 1,I 9 53]))))) (aa [I 54 6,I 55 54,bZ 55 true 56 9,bZ 55 true 57 3,al 55 true (cv 58 57),al 55 true (br 59 .eql 56 58),bZ 55 true 60 59,bZ 60 false 61 3,bZ 60 false 62 9,al 60 false (cw 63 1 61 62),al 60 false (aw 64 1 63),bZ 60 false 65 5,al 60 false (ck 66 180 64 65),al 60 false (aU 67 .neq 66 0),al 55 true (cW 68 60 67),dv 69 55 68] (aZ 69 (aa [eb 70 1 23 [],I 71 3,I 72 9,bW 73 (.lsl 1 (.t 71) none (some (.t 72))),gO 74 1 23 70 73,I 10 74] (aa [I 75 10,I 76 5,eb 77 1 23 [.t 76],gO 78 1 23 75 77,I 10 78] (.region [I 79 10,I 80 3,I 81 9,bW 82 (.lsl 1 (.t 80) (some (.t 81)) none),gO 83 1 23 79 82,I 3 83]))) .skip)))))))) (.fg false 3 (.region [aU 84 .add 14 1,I 14 84]))))) (aa [I 85 3,I 2 85] .ret))))
@[simp] def akD:List bA:=[.tmp 2]
def Ql:C:=(aa [bj 4 false] (.seq (aa [I 11 0,cL 12 142 11,ct 13 12,I 14 13,bZ 14 false 15 1,al 14 false (cL 16 142 15),al 14 false (ct 17 16),cW 18 14 17] (aZ 18 (aa [bj 4 false] .ret) .skip)) (.seq (aa [I 19 0,cv 20 19,cc 21 0] (fe 22 21 20 (.seq (.block 1 (aa [cw 23 5 19 21,aX 24 5 23,cS 6 kj,bz 5 6 24] (aa [I 26 1,aF 27 0 1 6,aw 28 1 27,cL 29 91 28,ck 30 166 26 29,I 25 30,cd 31 0 25,cd 32 1 25,cS 7 du,bz 4 7 31,I 8 32] (aa [I 34 1,iv 35 1 4 6,aX 36 4 35,ck 37 166 34 36,I 33 37,cd 38 0 33,cd 39 1 33,cS 9 du,bz 4 9 38,I 10 39] (aa [I 40 8,ct 41 40,I 42 41,bZ 42 false 43 10,al 42 false (ct 44 43),cW 45 42 44,I 46 45,al 46 false (aX 47 4 7),al 46 false (aX 48 4 9),al 46 false (ck 49 167 47 48),al 46 false (ct 50 49),cW 51 46 50] (aZ 51 (aa [bj 4 false] .ret) .skip)))))) (.region [aU 52 .add 21 1,I 21 52])))) (aa [bj 4 true] .ret))))
@[simp] def MK:List bA:=[.tmp 4]
def w9:List (Nat×dx):=[
 (3,⟨1,8,.int .i64,.int .i64 0⟩),
 (23,⟨1,24,.slice 61,.slice 5 .nil []⟩),
 (24,⟨1,24,.slice 23,.slice 1 .nil []⟩),
 (30,⟨1,24,.slice 32,.slice 4 .nil []⟩),
 (32,⟨4,56,.struct [(0,3),(1,3),(2,9),(3,30)],.agg [.int .i64 0,.int .i64 0,.str [],.slice 4 .nil []]⟩),
 (61,⟨5,64,.struct [(0,3),(1,32)],.agg [.int .i64 0,.int .i64 0,.int .i64 0,.str [],.slice 4 .nil []]⟩)]
theorem sv:fP az w9=true:=by kernel_rfl
theorem Dy:b4 w9 zq wV 2 Tryz.f136=true:=by kernel_rfl
theorem Ce:az.funcs[(136:Nat)]? =some Tryz.f136:=Tryz.func136
theorem ajs:b4 w9 QK akB 1 Tryz.f143=true:=by kernel_rfl
theorem acK:az.funcs[(143:Nat)]? =some Tryz.f143:=Tryz.func143
theorem ajA:b4 w9 QS akH 2 Tryz.f146=true:=by kernel_rfl
theorem acS:az.funcs[(146:Nat)]? =some Tryz.f146:=Tryz.func146
theorem ajr:b4 w9 QJ akA 2 Tryz.f177=true:=by kernel_rfl
theorem acJ:az.funcs[(177:Nat)]? =some Tryz.f177:=Tryz.func177
theorem ajt:b4 w9 QL DM 2 Tryz.f180=true:=by kernel_rfl
theorem acL:az.funcs[(180:Nat)]? =some Tryz.f180:=Tryz.func180
theorem ajv:b4 w9 QN akD 1 Tryz.f220=true:=by kernel_rfl
theorem acN:az.funcs[(220:Nat)]? =some Tryz.f220:=Tryz.func220
theorem ai3:b4 w9 Ql MK 2 Tryz.f269=true:=by kernel_rfl
theorem acj:az.funcs[(269:Nat)]? =some Tryz.f269:=Tryz.func269
theorem amn{s t:List ak}(af:dn s)(aL:dn t):bS az 177 [.slice 5 .no (s.map ak.e),.slice 5 .no (t.map ak.e)] (.slice 5 .no ((cR s t).map ak.e)):=by
 have afL:=aL.len;generalize bH:cR s t=R;refine bq sv acJ ajr fun aP=>?_;unfold QJ;simp;refine iN (α:=List ak) (fun i out=>⟨[(0,.slice 5 .no (s.map ak.e)),(11,.slice 5 .no (t.map ak.e)),(12,.int .i64 t.length),(5,.slice 5 (.own (.loc 0)) (out.map ak.e)),(13,.int .i64 i)],[],[(.loc 0,⟨out.length,61,5,none⟩)],1,[]⟩) t.length (q1 s t) [] b3 (by simp[q1,cR]) (fun out ag _=>?_) (fun i out hi ag _=>?_)
 ·rw[q1,hb (ff _),bH]at ag;rw[←ag];exact cB
 ·obtain⟨b,aI,gj⟩:=eZ hi;have zZ:out.length≤1000000:=by
   have:out.length≤(t.take i).length:=by rw[ag];exact List.length_filter_le _ _
   simp at this;omega
  have iu:=vr s b.v af.len;cases ae:cV s b.v with
  |none=>
   have au:q1 s t (i+1) (out++[b]):=by rw[q1,oT aI,cR,List.filter_append,ag];simp[cR,ae]
   rw[ae]at iu;simp only[jq,ja]at iu;clear ag aI ae;simp[hi,gj];(with_reducible repeat' first|refine aj ?_|refine aB iu ?_|refine aC iu ?_|simp[gj,hi]);all_goals first|(refine⟨by unfold lim;omega,?_⟩)|skip
   (with_reducible repeat' first|refine aj ?_|simp);refine bN.rng (out++[b]) hi au ?_;simp;exact⟨by simp[fresh,aN,aH,cn,inObs,Pv.look,ji],eM (by simp[fresh,aN,aH,cn,inObs,Pv.look,ji]),eN (by simp[fresh,aN,aH,ej,inObs,Pv.look,ji]),by simp⟩
  |some x=>
   have au:q1 s t (i+1) out:=by rw[q1,oT aI,cR,List.filter_append,ag];simp[cR,ae]
   rw[ae]at iu;simp only[jr,nI]at iu;clear ag aI ae;simp[hi,gj];(with_reducible repeat' first|refine aj ?_|refine aB iu ?_|refine aC iu ?_|simp[gj,hi]);refine bN.rng out hi au ?_;exact b3
theorem al4{s t:List ak}(af:dn s)(aL:dn t):bS az 269 [.slice 5 .no (s.map ak.e),.slice 5 .no (t.map ak.e)] (.bool (hS s t)):=by
 have p0:=af.len;generalize bH:hS s t=R;have dt:=Yl af;have dE:=Yl aL;refine bq sv acj ai3 fun aP=>?_;unfold Ql;simp;(with_reducible repeat' first|refine aj ?_|refine aB dt ?_|refine aC dt ?_|refine aB dE ?_|refine aC dE ?_|simp);refine eC [1,19,20] (fun i (_:Unit)=>[(21,.int .i64 i)]) s.length (pw (qc t) s) () b3 (fun k b ad=>by omega) (fun _ ag _=>?_) (fun i _ hi ag _=>?_)
 ·have:R=true:=by rw[←bH,hS,ig];intro b ae;obtain⟨k,ad,e⟩:=nG ae;exact ag k b ad (by rw[cb ad,e])
  rw[this];exact cB
 ·obtain⟨b,aI,gj⟩:=eZ hi;have gF:qc t b=false→R=false:=fun h=>by rw[←bH,Bool.eq_false_iff];intro cr;rw[hS,ig]at cr;rw[cr b (fR aI)]at h;cases h
  have aS:=Ef t aL.len (.var b.v);have bc:=Ef t aL.len b.t;have yb:=D3 aL b.v;have Ge:((T.var b.v).ap (bF t)).size≤5000:=yb;rw[kp Ge]at aS;rw[show(T.var b.v).ap (bF t)=bF t b.v from rfl]at aS;by_cases aY:(b.t.ap (bF t)).size≤5000
  ·rw[kp aY]at bc;by_cases he:bF t b.v=b.t.ap (bF t)
   ·have au:=ag.step aI (by simp[qc,he]);have fG:=X7 (bF t b.v) (b.t.ap (bF t));rw[kp he]at fG;clear ag aI;simp[hi,gj];(with_reducible repeat' first|refine aj ?_|refine aB (ko _) ?_|refine aC (ko _) ?_|refine aB aS ?_|refine aC aS ?_|refine aB bc ?_|refine aC bc ?_|refine aB fG ?_|refine aC fG ?_|simp[gj,hi]);exact bN.rng () hi au b3
   ·rw[gF (by simp[qc,he])];have fG:=X7 (bF t b.v) (b.t.ap (bF t));rw[lB he]at fG;clear ag aI;simp[hi,gj];(with_reducible repeat' first|refine aj ?_|refine aB (ko _) ?_|refine aC (ko _) ?_|refine aB aS ?_|refine aC aS ?_|refine aB bc ?_|refine aC bc ?_|refine aB fG ?_|refine aC fG ?_|simp[gj,hi]);simp[bp,MK,aT,aW,aQ]
  ·rw[lB aY]at bc;rw[gF (by simp only[qc,hK];intro e;rw[←e]at aY;exact aY yb)];clear ag aI;simp[hi,gj];(with_reducible repeat' first|refine aj ?_|refine aB (ko _) ?_|refine aC (ko _) ?_|refine aB aS ?_|refine aC aS ?_|refine aB bc ?_|refine aC bc ?_|simp[gj,hi]);simp[bp,MK,aT,aW,aQ]
theorem NV(d e:List ak):bS az 180 [.slice 5 .no (d.map ak.e),.slice 5 .no (e.map ak.e)] (.int .i64 (en d e)):=by
 generalize bH:en d e=R;refine bq sv acL ajt fun aP=>?_;unfold QL;have aE:d.length≤68719476736:=by simp[gD,fY,gx,lim]at aP;omega
 have he:e.length≤68719476736:=by simp[gD,fY,gx,lim]at aP;omega
 simp;refine vM [0,1] (fun(i:Nat)=>[(5,.int .i64 i)]) (fun i=>d.length-i) (Lk d e) 0 b3 ⟨by omega,by omega,by simp⟩ (fun i ag _=>?_);obtain⟨J,U,ao⟩:=ag;rw[bH]at ao;by_cases hi:i<d.length
 ·by_cases hG:i<e.length
  ·obtain⟨x,ab⟩:∃x,d[i]? =some x:=⟨_,cb hi⟩;obtain⟨y,aD⟩:∃y,e[i]? =some y:=⟨_,cb hG⟩;have c2:∀h,(d[i]'h)=x:=fun h=>by rw[cb hi]at ab;exact e3 ab
   have eQ:∀h,(e[i]'h)=y:=fun h=>by rw[cb hG]at aD;exact e3 aD
   have vV:d.drop i=x::d.drop (i+1):=by rw[k9 hi,c2]
   have zP:e.drop i=y::e.drop (i+1):=by rw[k9 hG,eQ]
   rw[vV,zP]at ao;rw[VJ]at ao;by_cases aV:x.v=y.v
   ·have oQ:ez x.v y.v=0:=(km.zero _ _).2 aV;have tH:(x.v !=y.v)=false:=by simp[aV]
    rw[if_pos oQ]at ao;by_cases bf:eo x.t y.t=0
    ·rw[if_pos bf]at ao;have au:Lk d e (i+1):=⟨by omega,by omega,by rw[bH];exact ao⟩;have iD:=Ib x.t y.t;rw[bf]at iD;clear vV zP ab aD ao oQ;simp[hi,hG,c2,eQ];((with_reducible repeat' first|refine aj ?_|refine aB iD ?_|refine aC iD ?_|simp[c2,eQ,hi,hG,aV,tH]|((first|apply bG|apply bL|apply bK)<;>intro h<;>try simp at h))<;>(try exact cg));all_goals exact bN.whl (i+1) (by omega) au b3
    ·rw[if_neg bf]at ao;have iD:=Ib x.t y.t;have yD:(eo x.t y.t !=0)=true:=by simp[bf]
     clear vV zP ab aD oQ;simp[hi,hG,c2,eQ];(with_reducible repeat' first|refine aj ?_|refine aB iD ?_|refine aC iD ?_|simp[c2,eQ,hi,hG,aV,tH,bf,yD]);all_goals simp[bp,DM,aT,aW,aQ]
     all_goals exact ao
   ·have oQ:¬ez x.v y.v=0:=fun h=>aV ((km.zero _ _).1 h);have tH:(x.v !=y.v)=true:=by simp[aV]
    rw[if_neg oQ]at ao;have c4:R=if decide (x.v<y.v)=true then-1 else 1:=by rw[←ao];unfold ez;simp only[fo];(repeat' split)<;>omega
    clear vV zP ab aD ao oQ;rw[c4];simp[hi,hG,c2,eQ];(with_reducible repeat' first|refine aj ?_|refine aB (ri _) ?_|refine aC (ri _) ?_|simp[c2,eQ,hi,hG,aV,tH]);all_goals simp[bp,DM,aT,aW,aQ]
  ·have hle:e.length<d.length:=by omega
   have:(1:Int)=R:=by rw[←ao,en,Dc _ _ _ (.inr (List.drop_eq_nil_of_le (by omega)))];simp only[sC];unfold ez;(repeat' split)<;>omega
   have cD:¬(d.length:Int)=e.length:=by omega
   have KJ:((d.length:Int) !=e.length)=true:=by simp;omega
   have jI:¬(d.length:Int)<e.length:=by omega
   have CK:¬d.length<e.length:=by omega
   have afg:¬d.length=e.length:=by omega
   clear ao;rw[←this];simp[hi,hG];(with_reducible repeat' first|refine aj ?_|refine aB (ri _) ?_|refine aC (ri _) ?_|simp[hi,hG,cD,KJ,jI,CK,afg]);all_goals simp[bp,DM,aT,aW,aQ]
   all_goals(try simp[CK])
 ·have e0:i=d.length:=by omega
  by_cases aq:d.length=e.length
  ·have:(0:Int)=R:=by rw[←ao,en,Dc _ _ _ (.inl (List.drop_eq_nil_of_le (by omega)))];simp only[sC];unfold ez;(repeat' split)<;>omega
   clear ao;rw[←this];exact cB
  ·have:(-1:Int)=R:=by rw[←ao,en,Dc _ _ _ (.inl (List.drop_eq_nil_of_le (by omega)))];simp only[sC];unfold ez;(repeat' split)<;>omega
   have cD:¬(d.length:Int)=e.length:=by omega
   have KJ:((d.length:Int) !=e.length)=true:=by simp;omega
   have jI:(d.length:Int)<e.length:=by omega
   have CK:d.length<e.length:=by omega
   clear ao;rw[←this];simp[hi];(with_reducible repeat' first|refine aj ?_|refine aB (ri _) ?_|refine aC (ri _) ?_|simp[hi,cD,KJ,jI,CK,aq]);all_goals simp[bp,DM,aT,aW,aQ]
   all_goals(try simp[CK])
def agz(n:Int)(a b:T)(i:Nat)(_:Unit):Prop:=(1≤i→dG n a=true)∧(2≤i→dG n b=true)
theorem Eg(n:Int):∀t:T,bS az 136 [t.e,.int .i64 n] (.bool (dG n t))
 | .pair a b=>by
  have dQ:=Eg n a;have dR:=Eg n b;refine bq sv Ce Dy fun aP=>?_;unfold zq;simp;refine eC [1,2,8,9] (fun i (_:Unit)=>[(10,.int .i64 i)]) 2 (agz n a b) () b3 ⟨fun h=>by omega,fun h=>by omega⟩ (fun _ ag _=>?_) (fun i _ hi ag _=>?_)
  ·simp;(with_reducible repeat' first|refine aj ?_|simp);simp[bp,wV,aT,aW,aQ];simp[dG,ag.1,ag.2]
  ·rcases(by omega:i=0∨i=1)with rfl|rfl
   ·cases bk:dG n a
    ·rw[bk]at dQ;simp;(with_reducible repeat' first|refine aj ?_|refine aB dQ ?_|refine aC dQ ?_|simp);simp[bp,wV,aT,aW,aQ];simp[dG,bk]
    ·rw[bk]at dQ;simp;((with_reducible repeat' first|refine aj ?_|refine aB dQ ?_|refine aC dQ ?_|simp|((first|apply bG|apply bL|apply bK)<;>intro h<;>try simp at h))<;>(try exact cg));exact bN.rng () hi ⟨fun _=>bk,fun h=>by omega⟩ b3
   ·cases ae:dG n b
    ·rw[ae]at dR;simp;((with_reducible repeat' first|refine aj ?_|refine aB dR ?_|refine aC dR ?_|simp|((first|apply bG|apply bL|apply bK)<;>intro h<;>try simp at h))<;>(try exact cg));simp[bp,wV,aT,aW,aQ];simp[dG,ae]
    ·rw[ae]at dR;simp;((with_reducible repeat' first|refine aj ?_|refine aB dR ?_|refine aC dR ?_|simp|((first|apply bG|apply bL|apply bK)<;>intro h<;>try simp at h))<;>(try exact cg));exact bN.rng () hi ⟨fun _=>ag.1 (by omega),fun _=>ae⟩ b3
 | .sym v=>by
  refine bq sv Ce Dy fun aP=>?_;unfold zq;simp;refine eC [1,2,8,9] (fun i (_:Unit)=>[(10,.int .i64 i)]) 0 (fun i _=>True) () b3 trivial (fun _ ag _=>?_) (fun i _ hi ag _=>by omega);simp;((with_reducible repeat' first|refine aj ?_|simp|((first|apply bG|apply bL|apply bK)<;>intro h<;>try simp at h))<;>(try exact cg));all_goals simp[bp,wV,aT,aW,aQ]
  all_goals simp[dG]
 | .num v=>by
  refine bq sv Ce Dy fun aP=>?_;unfold zq;simp;refine eC [1,2,8,9] (fun i (_:Unit)=>[(10,.int .i64 i)]) 0 (fun i _=>True) () b3 trivial (fun _ ag _=>?_) (fun i _ hi ag _=>by omega);simp;(with_reducible repeat' first|refine aj ?_|simp);all_goals simp[bp,wV,aT,aW,aQ]
  all_goals simp[dG]
 | .var v=>by
  refine bq sv Ce Dy fun aP=>?_;unfold zq;simp;refine eC [1,2,8,9] (fun i (_:Unit)=>[(10,.int .i64 i)]) 0 (fun i _=>True) () b3 trivial (fun _ ag _=>?_) (fun i _ hi ag _=>by omega);simp;(with_reducible repeat' first|refine aj ?_|simp);all_goals simp[bp,wV,aT,aW,aQ]
  all_goals simp[dG]
 | .nil=>by
  refine bq sv Ce Dy fun aP=>?_;unfold zq;simp;refine eC [1,2,8,9] (fun i (_:Unit)=>[(10,.int .i64 i)]) 0 (fun i _=>True) () b3 trivial (fun _ ag _=>?_) (fun i _ hi ag _=>by omega);simp;(with_reducible repeat' first|refine aj ?_|simp);all_goals simp[bp,wV,aT,aW,aQ]
  all_goals simp[dG]
theorem Yh(s:List ak)(n:Int):bS az 146 [.slice 5 .no (s.map ak.e),.int .i64 n] (.bool (s.all (kS n))):=by
 generalize bH:s.all (kS n)=R;refine bq sv acS ajA fun aP=>?_;unfold QS;have gV:s.length≤68719476736:=by simp[gD,fY,gx,lim]at aP;omega
 simp;refine eC [1,7,8] (fun i (_:Unit)=>[(9,.int .i64 i)]) s.length (pw (kS n) s) () b3 (fun k b ad=>by omega) (fun _ ag _=>?_) (fun i _ hi ag _=>?_)
 ·have:R=true:=by rw[←bH,ig];intro b ae;obtain⟨k,ad,e⟩:=nG ae;exact ag k b ad (by rw[cb ad,e])
  rw[this];exact cB
 ·obtain⟨b,aI,gj⟩:=eZ hi;have gF:kS n b=false→R=false:=fun h=>by rw[←bH,Bool.eq_false_iff];intro cr;rw[ig]at cr;rw[cr b (fR aI)]at h;cases h
  have ic:=Eg n b.t;by_cases J:b.v<n
  ·have nP:¬n≤b.v:=by omega
   cases U:dG n b.t
   ·rw[gF (by simp[kS,U])];rw[U]at ic;clear ag aI;exact cB
   ·have au:=ag.step aI (by simp[kS,J,U]);rw[U]at ic;clear ag aI;exact jl
  ·have nP:n≤b.v:=by omega
   rw[gF (by simp[kS,J])];clear ag aI;exact cB
theorem amp(l:List (List dV)):bS az 143 [.slice 1 .no (l.map lH)] (.bool (l.all gB)):=by
 generalize bH:l.all gB=R;refine bq sv acK ajs fun aP=>?_;unfold QK;have gV:l.length≤68719476736:=by simp[gD,fY,gx,lim]at aP;omega
 simp;refine eC [5,6] (fun i (_:Unit)=>[(7,.int .i64 i)]) l.length (pw gB l) () b3 (fun k b ad=>by omega) (fun _ ag _=>?_) (fun i _ hi ag _=>?_)
 ·have:R=true:=by rw[←bH,ig];intro b ae;obtain⟨k,ad,e⟩:=nG ae;exact ag k b ad (by rw[cb ad,e])
  rw[this];exact cB
 ·obtain⟨b,aI,gj⟩:=eZ hi;have dt:bS az 142 [lH b] (.bool (gB b)):=N0 b;cases ae:gB b
  ·have:R=false:=by rw[←bH,Bool.eq_false_iff];intro cr;rw[ig]at cr;rw[cr b (fR aI)]at ae;cases ae
   rw[this];rw[ae]at dt;clear ag aI;exact cB
  ·have au:=ag.step aI ae;rw[ae]at dt;clear ag aI;exact jl
theorem Q9(a:List (List ak))(k:Nat)(m:List ak):oZ k (a.map cy)++cy m::List.drop k (a.map cy)=(a.take k++m::a.drop k).map cy:=by simp
theorem qJ(a:List (List ak))(k:Nat)(m:List ak):di (oZ k (a.map cy)++cy m::List.drop k (a.map cy))=oZ k (a.map cy)++cy m::List.drop k (a.map cy):=by rw[Q9,NC]
theorem qI(S:aJ→Prop)(a:List (List ak))(k:Nat)(m:List ak):aN S (oZ k (a.map cy)++cy m::List.drop k (a.map cy))=True:=by rw[Q9,Uw]
theorem Fe(a:List (List ak))(m:List ak):a.map cy++[cy m]=(a++[m]).map cy:=by simp
theorem o7(a:List (List ak))(m:List ak):di (a.map cy++[cy m])=a.map cy++[cy m]:=by rw[Fe,NC]
theorem qH(S:aJ→Prop)(a:List (List ak))(m:List ak):aN S (a.map cy++[cy m])=True:=by rw[Fe,Uw]
theorem Yd(L:List (List ak))(hg:∀d∈L,dn d):bS az 220 [.slice 1 .no (L.map cy)] (.slice 1 .no ((fV L).map cy)):=by
 generalize bH:fV L=R;rw[ahv]at bH;refine bq sv acN ajv fun aP=>?_;unfold QN;have gV:L.length≤68719476736:=by simp[gD,fY,gx,lim]at aP;omega
 simp;refine eC [0,12,13] (fun i (a:List (List ak))=>[(3,.slice 1 .no (a.map cy)),(14,.int .i64 i)]) L.length (yf L) [] b3 (by simp[yf]) (fun a ag _=>?_) (fun i a hi ag _=>?_)
 ·rw[yf,nH,bH]at ag;subst ag;exact cB
 ·obtain⟨e,he,Ks⟩:=eZ hi;have rK:gR en a:=by rw[ag];exact LX _ (by simp[gR])
  have pX:a.length≤i:=by have:=U6 (L:=L) (L.take i) [];rw[ag];simp at this⊢;omega
  have ft:=ag.step he;have lP:=hg e (fR he);have bc:∀d,bS az 180 [cy d,cy e] (.int .i64 (en d e)):=fun d=>NV d e;clear ag he;simp[hi,Ks];(with_reducible repeat' first|refine aj ?_|simp[hi,Ks]);refine eC [0,3,5,12,13,14,18,19] (fun j (b:Bool)=>[(6,.bool b),(20,.int .i64 j)]) L.length (p2 L e) true b3 (by simp[p2]) (fun keep ag _=>?_) (fun j keep ec ag _=>?_)
  ·rw[p2,nH]at ag;have Tb:keep=ie L e:=ag;rw[qd,←Tb]at ft;clear ag Tb;simp;(with_reducible repeat' first|refine aj ?_|simp);refine vM [0,3,5,6,12,13,14] (fun(k:Nat)=>[(9,.int .i64 k)]) (fun k=>k) (Gm a e) a.length b3 ⟨by omega,fun c h=>by simp at h⟩ (fun k ag _=>?_);have ad:=ag.1;rcases Nat.eq_zero_or_pos k with bD|fE
   ·have aY:decide ((0:Int)<k)=false:=by simp;omega
    have r2:¬(0:Int)<k:=by omega
    have dz:=ag.fin rK fun d h=>by omega
    clear ag rK;cases keep with
    |false=>simp only[gC,if_false]at ft;clear dz;exact jl
    |true=>
     simp only[if_true]at ft;by_cases hx:k<a.length
     ·obtain⟨c,ar,iQ⟩:=eZ hx;rw[ar]at dz;by_cases q:en c e=0
      ·rw[if_pos (by simp[q])]at dz;rw[dz]at ft;clear dz ar;simp[hx,iQ,aY,r2];((with_reducible repeat' first|refine aj ?_|refine aB (bc _) ?_|refine aC (bc _) ?_|simp[hx,iQ,q,aY,r2]|((first|apply bG|apply bL|apply bK)<;>intro h<;>try simp at h))<;>(try exact cg));all_goals exact bN.rng a hi ft b3
      ·rw[if_neg (by simp[q])]at dz;have gA:(en c e !=0)=true:=by simp[q]
       rw[dz]at ft;clear dz ar;simp[hx,iQ,aY,r2];((with_reducible repeat' first|refine aj ?_|refine aB (bc _) ?_|refine aC (bc _) ?_|simp[hx,iQ,q,gA,aY,r2]|((first|apply bG|apply bL|apply bK)<;>intro h<;>try simp at h))<;>(try exact cg));all_goals first|(refine⟨by unfold lim;omega,?_⟩)|skip
       all_goals(with_reducible repeat' first|refine aj ?_|simp)
       all_goals first|(refine⟨by unfold lim;omega,?_⟩)|skip
       all_goals((with_reducible repeat' first|refine aj ?_|simp|((first|apply bG|apply bL|apply bK)<;>intro h<;>try simp at h))<;>(try exact cg))
       all_goals exact bN.rng _ hi ft ⟨by simp[fresh,aN,aH,cn,inObs,Pv.look,hb,qJ,qI,o7,qH],eM (by simp[fresh,aN,aH,cn,inObs,Pv.look,hb,qJ,qI,o7,qH]),eN (by simp[fresh,aN,aH,ej,inObs,Pv.look,hb,qJ,qI,o7,qH]),by simp⟩
     ·rw[qu (by omega)]at dz;simp only[gC,if_false]at dz;rw[dz]at ft;have iC:k=a.length:=by omega
      have s7:a.take k++e::a.drop k=a++[e]:=by rw[iC];simp
      rw[s7]at ft;clear dz s7;simp[hx,aY,r2];((with_reducible repeat' first|refine aj ?_|refine aB (bc _) ?_|refine aC (bc _) ?_|simp[hx,iC,aY,r2]|((first|apply bG|apply bL|apply bK)<;>intro h<;>try simp at h))<;>(try exact cg));all_goals first|(refine⟨by unfold lim;omega,?_⟩)|skip
      all_goals(with_reducible repeat' first|refine aj ?_|simp)
      all_goals first|(refine⟨by unfold lim;omega,?_⟩)|skip
      all_goals((with_reducible repeat' first|refine aj ?_|simp|((first|apply bG|apply bL|apply bK)<;>intro h<;>try simp at h))<;>(try exact cg))
      all_goals exact bN.rng _ hi ft ⟨by simp[fresh,aN,aH,cn,inObs,Pv.look,hb,qJ,qI,o7,qH],eM (by simp[fresh,aN,aH,cn,inObs,Pv.look,hb,qJ,qI,o7,qH]),eN (by simp[fresh,aN,aH,ej,inObs,Pv.look,hb,qJ,qI,o7,qH]),by simp⟩
   ·obtain⟨d,aE⟩:∃d,a[k-1]? =some d:=⟨_,cb (by omega)⟩;have ai:((k:Int)-1).toNat=k-1:=by omega
    have ax:∀h,(a[k-1]'h)=d:=fun h=>by rw[cb h]at aE;exact e3 aE
    have iV:(0:Int)<k:=by omega
    have l9:k-1<a.length:=by omega
    by_cases ae:0≤en d e
    ·have af:Gm a e (k-1):=⟨by omega,fun c ar=>by rw[aE]at ar;cases ar;exact ae⟩;clear ag rK ft aE;simp[fE,iV,ai,ax,ae,l9];((with_reducible repeat' first|refine aj ?_|refine aB (bc _) ?_|refine aC (bc _) ?_|simp[fE,iV,ai,ax,ae,l9]|((first|apply bG|apply bL|apply bK)<;>intro h<;>try simp at h))<;>(try exact cg));refine bN.whl (k-1) (by omega) af ?_;have bn:((k-1:Nat):Int)=(k:Int)-1:=by omega
     simp[bn];exact b3
    ·have dz:=ag.fin rK fun ca _ ln=>by rw[aE]at ln;cases ln;omega
     clear ag rK aE;cases keep with
     |false=>simp only[gC,if_false]at ft;clear dz;simp[fE,iV,ai,ax,ae,l9];(with_reducible repeat' first|refine aj ?_|refine aB (bc _) ?_|refine aC (bc _) ?_|simp[fE,iV,ai,ax,ae,l9]);all_goals exact bN.rng a hi ft b3
     |true=>
      simp only[if_true]at ft;by_cases hx:k<a.length
      ·obtain⟨c,ar,iQ⟩:=eZ hx;rw[ar]at dz;by_cases q:en c e=0
       ·rw[if_pos (by simp[q])]at dz;rw[dz]at ft;clear dz ar;simp[hx,iQ,fE,iV,ai,ax,ae,l9];((with_reducible repeat' first|refine aj ?_|refine aB (bc _) ?_|refine aC (bc _) ?_|simp[hx,iQ,q,fE,iV,ai,ax,ae,l9]|((first|apply bG|apply bL|apply bK)<;>intro h<;>try simp at h))<;>(try exact cg));all_goals exact bN.rng a hi ft b3
       ·rw[if_neg (by simp[q])]at dz;have gA:(en c e !=0)=true:=by simp[q]
        rw[dz]at ft;clear dz ar;simp[hx,iQ,fE,iV,ai,ax,ae,l9];((with_reducible repeat' first|refine aj ?_|refine aB (bc _) ?_|refine aC (bc _) ?_|simp[hx,iQ,q,gA,fE,iV,ai,ax,ae,l9]|((first|apply bG|apply bL|apply bK)<;>intro h<;>try simp at h))<;>(try exact cg));all_goals first|(refine⟨by unfold lim;omega,?_⟩)|skip
        all_goals(with_reducible repeat' first|refine aj ?_|simp)
        all_goals first|(refine⟨by unfold lim;omega,?_⟩)|skip
        all_goals((with_reducible repeat' first|refine aj ?_|simp|((first|apply bG|apply bL|apply bK)<;>intro h<;>try simp at h))<;>(try exact cg))
        all_goals exact bN.rng _ hi ft ⟨by simp[fresh,aN,aH,cn,inObs,Pv.look,hb,qJ,qI,o7,qH],eM (by simp[fresh,aN,aH,cn,inObs,Pv.look,hb,qJ,qI,o7,qH]),eN (by simp[fresh,aN,aH,ej,inObs,Pv.look,hb,qJ,qI,o7,qH]),by simp⟩
      ·rw[qu (by omega)]at dz;simp only[gC,if_false]at dz;rw[dz]at ft;have iC:k=a.length:=by omega
       have s7:a.take k++e::a.drop k=a++[e]:=by rw[iC];simp
       rw[s7]at ft;clear dz s7;simp[hx,fE,iV,ai,ax,ae,l9];((with_reducible repeat' first|refine aj ?_|refine aB (bc _) ?_|refine aC (bc _) ?_|simp[hx,iC,fE,iV,ai,ax,ae,l9]|((first|apply bG|apply bL|apply bK)<;>intro h<;>try simp at h))<;>(try exact cg));all_goals first|(refine⟨by unfold lim;omega,?_⟩)|skip
       all_goals(with_reducible repeat' first|refine aj ?_|simp)
       all_goals first|(refine⟨by unfold lim;omega,?_⟩)|skip
       all_goals(with_reducible repeat' first|refine aj ?_|simp)
       all_goals exact bN.rng _ hi ft ⟨by simp[fresh,aN,aH,cn,inObs,Pv.look,hb,qJ,qI,o7,qH],eM (by simp[fresh,aN,aH,cn,inObs,Pv.look,hb,qJ,qI,o7,qH]),eN (by simp[fresh,aN,aH,ej,inObs,Pv.look,hb,qJ,qI,o7,qH]),by simp⟩
  ·obtain⟨d,aE,hdi⟩:=eZ ec;have au:=ag.step aE;have kB:=hg d (fR aE);have dY:bS az 269 [cy d,cy e] (.bool (hS d e)):=al4 kB lP;clear ag aE ft rK;cases keep with
   |false=>simp only[Bool.false_and]at au;exact jl
   |true=>
    simp only[Bool.true_and,wB]at au;by_cases q:en d e=0
    ·rw[kp ((kH.zero _ _).1 q),Bool.true_or]at au;simp[ec,hdi];(with_reducible repeat' first|refine aj ?_|refine aB (bc _) ?_|refine aC (bc _) ?_|simp[ec,hdi,q]);all_goals exact bN.rng true ec au b3
    ·rw[lB (fun h=>q ((kH.zero _ _).2 h)),Bool.false_or]at au;have gA:(en d e==0)=false:=by simp[q]
     cases aR:hS d e
     ·rw[aR]at au dY;simp[ec,hdi];(with_reducible repeat' first|refine aj ?_|refine aB (bc _) ?_|refine aC (bc _) ?_|refine aB dY ?_|refine aC dY ?_|simp[ec,hdi,q,gA]);all_goals exact bN.rng true ec au b3
     ·rw[aR]at au dY;simp[ec,hdi];(with_reducible repeat' first|refine aj ?_|refine aB (bc _) ?_|refine aC (bc _) ?_|refine aB dY ?_|refine aC dY ?_|simp[ec,hdi,q,gA]);all_goals exact bN.rng false ec au b3
def vG:C:=(aa [cO 1 0,bj 2 false] (.seq (aa [aF 11 0 1 1,aw 12 1 11,cT 13 141 [.t 12,(dN 0),(dN 100000)],ct 14 13,I 15 14,al 15 false (aF 16 1 1 1),al 15 false (aw 17 1 16),al 15 false (cL 18 142 17),al 15 false (ct 19 18),cW 20 15 19,I 21 20,al 21 false (aF 22 2 1 1),al 21 false (aw 23 1 22),al 21 false (cL 24 143 23),al 21 false (ct 25 24),cW 26 21 25,I 27 26,al 27 false (aF 28 3 1 1),al 27 false (aw 29 1 28),al 27 false (cL 30 144 29),al 27 false (ct 31 30),cW 32 27 31,I 33 32,al 33 false (aF 34 4 1 1),al 33 false (aw 35 1 34),al 33 false (cL 36 145 35),al 33 false (ct 37 36),cW 38 33 37,I 39 38,al 39 false (aF 40 1 1 1),al 39 false (aw 41 1 40),al 39 false (aF 42 0 1 1),al 39 false (aw 43 1 42),al 39 false (ck 44 146 41 43),al 39 false (ct 45 44),cW 46 39 45] (aZ 46 (aa [bj 2 false] .ret) .skip)) (.seq (aa [aF 47 2 1 1,aw 48 1 47,cv 49 48,cc 50 0] (fe 51 50 49 (.seq (.block 1 (aa [cw 52 1 48 50,aw 53 1 52,I 4 53] (aa [I 54 4,aF 55 0 1 1,aw 56 1 55,ck 57 146 54 56,ct 58 57] (aZ 58 (aa [bj 2 false] .ret) .skip)))) (.region [aU 59 .add 50 1,I 50 59])))) (.seq (aa [aF 60 3 1 1,aw 61 1 60,cv 62 61,cc 63 0] (.block 2 (.loop (aa [br 64 .lss 63 62] (.seq (aZ 64 .skip (.exit 2)) (.seq (.block 3 (aa [cw 65 2 61 63,aX 66 2 65,c0 (.alloc 6 none (.agg [.int .i64 0,.int .i64 0])),bz 2 6 66] (aa [aF 67 0 1 6,aw 68 1 67,aF 69 0 1 1,aw 70 1 69,br 71 .geq 68 70] (aZ 71 (aa [bj 2 false] .ret) .skip)))) (.region [aU 72 .add 63 1,I 63 72]))))))) (.seq (aa [aF 73 4 1 1,aw 74 1 73,cv 75 74,cc 76 0] (.block 4 (.loop (aa [br 77 .lss 76 75] (.seq (aZ 77 .skip (.exit 4)) (.seq (.block 5 (aa [cw 78 2 74 76,aX 79 2 78,c0 (.alloc 8 none (.agg [.int .i64 0,.str []])),bz 2 8 79] (aa [aF 80 0 1 8,aw 81 1 80,aF 82 0 1 1,aw 83 1 82,br 84 .geq 81 83] (aZ 84 (aa [bj 2 false] .ret) .skip)))) (.region [aU 85 .add 76 1,I 76 85]))))))) (aa [aX 87 5 1,cL 88 147 87,I 86 88,cd 89 0 86,cd 90 1 86,cS 9 e1,bz 5 9 89,I 10 90] (aa [I 91 10,I 92 91,al 92 true (aX 93 5 9),al 92 true (aX 94 5 1),al 92 true (ck 95 94 93 94),dv 96 92 95,I 2 96] .ret)))))))
@[simp] def akw:List bA:=[.tmp 2]
def xz:C:=(aa [cO 2 0,cO 3 1,bj 4 false] (.seq (aa [aF 11 0 1 2,aw 12 1 11,aF 13 0 1 3,aw 14 1 13,br 15 .neq 12 14,I 16 15,al 16 false (aF 17 1 1 2),al 16 false (aw 18 1 17),al 16 false (aF 19 1 1 3),al 16 false (aw 20 1 19),al 16 false (ck 21 180 18 20),al 16 false (aU 22 .neq 21 0),cW 23 16 22,I 24 23,al 24 false (aF 25 2 1 2),al 24 false (aw 26 1 25),al 24 false (cv 27 26),al 24 false (aF 28 2 1 3),al 24 false (aw 29 1 28),al 24 false (cv 30 29),al 24 false (br 31 .neq 27 30),cW 32 24 31,I 33 32,al 33 false (aF 34 3 1 2),al 33 false (aw 35 1 34),al 33 false (cv 36 35),al 33 false (aF 37 3 1 3),al 33 false (aw 38 1 37),al 33 false (cv 39 38),al 33 false (br 40 .neq 36 39),cW 41 33 40,I 42 41,al 42 false (aF 43 4 1 2),al 42 false (aw 44 1 43),al 42 false (cv 45 44),al 42 false (aF 46 4 1 3),al 42 false (aw 47 1 46),al 42 false (cv 48 47),al 42 false (br 49 .neq 45 48),cW 50 42 49] (aZ 50 (aa [bj 4 false] .ret) .skip)) (.seq (aa [aF 51 2 1 2,aw 52 1 51,cv 53 52,cc 54 0] (fe 55 54 53 (.seq (.block 1 (aa [I 56 54,cw 57 1 52 54,aw 58 1 57,I 5 56,I 6 58] (aa [I 59 6,aF 60 2 1 3,aw 61 1 60,I 62 5,cw 63 1 61 62,aw 64 1 63,ck 65 180 59 64,aU 66 .neq 65 0] (aZ 66 (aa [bj 4 false] .ret) .skip)))) (.region [aU 67 .add 54 1,I 54 67])))) (.seq (aa [aF 68 3 1 2,aw 69 1 68,cv 70 69,cc 71 0] (.block 2 (.loop (aa [br 72 .lss 71 70] (.seq (aZ 72 .skip (.exit 2)) (.seq (.block 3 (aa [I 73 71,cw 74 2 69 71,aX 75 2 74,c0 (.alloc 8 none (.agg [.int .i64 0,.int .i64 0])),I 7 73,bz 2 8 75] (.seq (.drawn true 100 [aX 76 2 8,aF 77 3 1 3,aw 78 1 77,I 79 7,cw 80 2 78 79,aX 81 2 80,bW 82 (.beq true (some [false,false]) (.t 76) (.t 81))]) (aZ 82 (aa [bj 4 false] .ret) .skip)))) (.region [aU 83 .add 71 1,I 71 83]))))))) (.seq (aa [aF 84 4 1 2,aw 85 1 84,cv 86 85,cc 87 0] (.block 4 (.loop (aa [br 88 .lss 87 86] (.seq (aZ 88 .skip (.exit 4)) (.seq (.block 5 (aa [I 89 87,cw 90 2 85 87,aX 91 2 90,c0 (.alloc 10 none (.agg [.int .i64 0,.str []])),I 9 89,bz 2 10 91] (.seq (.drawn true 100 [aX 92 2 10,aF 93 4 1 3,aw 94 1 93,I 95 9,cw 96 2 94 95,aX 97 2 96,bW 98 (.beq true (some [false,true]) (.t 92) (.t 97))]) (aZ 98 (aa [bj 4 false] .ret) .skip)))) (.region [aU 99 .add 87 1,I 87 99]))))))) (aa [bj 4 true] .ret))))))
@[simp] def Hp:List bA:=[.tmp 4]
def E8:C:=(aa [cO 1 0,cS 2 e1,bj 3 false] (aa [aF 20 1 1 1,aw 21 1 20,aF 22 3 1 1,aw 23 1 22,ck 24 217 21 23,I 19 24,cd 25 0 19,cd 26 1 19,I 4 25,I 5 26] (aa [aF 28 1 1 1,aw 29 1 28,aF 30 4 1 1,aw 31 1 30,ck 32 218 29 31,I 27 32,cd 33 0 27,cd 34 1 27,I 6 33,I 7 34] (.seq (aa [I 35 5,ct 36 35,I 37 36,bZ 37 false 38 7,al 37 false (ct 39 38),cW 40 37 39] (aZ 40 (aa [gJ 41 e1 [],bz 5 2 41,bj 3 false] .ret) .skip)) (aa [aF 42 0 1 1,aw 43 1 42,aF 44 1 1 1,aw 45 1 44,I 46 4,gJ 47 e1 [(0,1,(.t 43)),(1,1,(.t 45)),(3,1,(.t 46))],cS 8 e1,bz 5 8 47] (.seq (aa [I 48 6,cv 49 48,cc 50 0] (fe 51 50 49 (.seq (.block 1 (aa [cw 52 2 48 50,aX 53 2 52,c0 (.alloc 10 none (.agg [.int .i64 0,.str []])),bz 2 10 53] (aa [I 55 4,aF 56 0 1 10,aw 57 1 56,cL 58 91 57,cT 59 178 [.t 55,.t 58,(dN 2)],I 54 59,cd 60 0 54,cd 61 1 54,I 11 60,I 12 61] (aa [I 62 12] (aZ 62 (.region [aF 63 4 1 8,aw 64 1 63,aX 65 2 10,eb 66 2 106 [.t 65],gO 67 2 106 64 66,aF 68 4 1 8,bz 1 68 67]) .skip))))) (.region [aU 69 .add 50 1,I 50 69])))) (aa [eb 70 1 23 [],I 13 70] (.seq (aa [aF 71 2 1 1,aw 72 1 71,cv 73 72,cc 74 0] (.block 2 (.loop (aa [br 75 .lss 74 73] (.seq (aZ 75 .skip (.exit 2)) (.seq (.block 3 (aa [cw 76 1 72 74,aw 77 1 76,I 15 77] (aa [aF 79 1 1 1,aw 80 1 79,I 81 15,ck 82 219 80 81,I 78 82,cd 83 0 78,cd 84 1 78,I 16 83,I 17 84] (.seq (aa [I 85 17] (aZ 85 (aa [I 87 16,aF 88 3 1 8,aw 89 1 88,ck 90 217 87 89,I 86 90,cd 91 0 86,cd 92 1 86,I 5 92] (.region [I 94 16,aF 95 4 1 8,aw 96 1 95,ck 97 218 94 96,I 93 97,cd 98 0 93,cd 99 1 93,I 7 99])) .skip)) (.seq (aa [I 100 17,ct 101 100,I 102 101,bZ 102 false 103 5,al 102 false (ct 104 103),cW 105 102 104,I 106 105,bZ 106 false 107 7,al 106 false (ct 108 107),cW 109 106 108] (aZ 109 (aa [bj 5 true] (aa [bj 7 true] (.exit 3))) .skip)) (aa [aF 110 1 1 1,aw 111 1 110,I 112 16,ck 113 177 111 112,I 18 113] (.seq (aa [I 114 18,cv 115 114,aU 116 .eql 115 0] (aZ 116 (aa [gJ 117 e1 [],bz 5 2 117,bj 3 false] .ret) .skip)) (.region [I 118 13,I 119 18,eb 120 1 23 [.t 119],gO 121 1 23 118 120,I 13 121])))))))) (.region [aU 122 .add 74 1,I 74 122]))))))) (aa [I 123 13,cL 124 220 123,aF 125 2 1 8,bz 1 125 124] (.seq (.fz true 8 (.drawn true 131 [bW 126 (.loadZ true 5 (.t 8)),aF 127 2 1 8,bW 128 (.loadZ false 1 (.t 127)),cv 129 128,aU 130 .leq 129 30,bz 5 2 126,I 3 130])) .ret))))))))))
@[simp] def vd:List bA:=[.cell 2 true 5,.tmp 3]
def H6:List (Nat×dx):=[
 (3,⟨1,8,.int .i64,.int .i64 0⟩),
 (9,⟨1,16,.str,.str []⟩),
 (23,⟨1,24,.slice 61,.slice 5 .nil []⟩),
 (24,⟨1,24,.slice 23,.slice 1 .nil []⟩),
 (25,⟨1,24,.slice 104,.slice 2 .nil []⟩),
 (26,⟨1,24,.slice 106,.slice 2 .nil []⟩),
 (28,⟨5,104,.struct [(0,3),(1,23),(2,24),(3,25),(4,26)],.agg [.int .i64 0,.slice 5 .nil [],.slice 1 .nil [],.slice 2 .nil [],.slice 2 .nil []]⟩),
 (104,⟨2,16,.struct [(0,3),(1,3)],.agg [.int .i64 0,.int .i64 0]⟩),
 (106,⟨2,24,.struct [(0,3),(1,9)],.agg [.int .i64 0,.str []]⟩)]
theorem n5:fP az H6=true:=by kernel_rfl
theorem yA:b4 H6 vG akw 1 Tryz.f65=true:=by kernel_rfl
theorem xE:az.funcs[(65:Nat)]? =some Tryz.f65:=Tryz.func65
theorem AY:b4 H6 xz Hp 2 Tryz.f94=true:=by kernel_rfl
theorem zA:az.funcs[(94:Nat)]? =some Tryz.f94:=Tryz.func94
theorem Mm:b4 H6 E8 vd 1 Tryz.f147=true:=by kernel_rfl
theorem JW:az.funcs[(147:Nat)]? =some Tryz.f147:=Tryz.func147
noncomputable def nY(s:bE):ah:= .tuple [(sn s).e,.bool (dM s).isSome]
@[simp] theorem apB(S:aJ→Prop)(s:bE):aH S (nY s)=True:=by simp[nY,aH,aN]
theorem ams{k:List bX}(ad:jh k)(v:Int):bS az 178 [.slice 2 .no (k.map bX.e),(T.var v).e,.int .i64 2] (ny k (gS k (.var v) 2)):=NX k (by have:=oN ad;omega) ad.asc (.var v) 2
theorem NT{b y:List ak}(ae:dn b)(aD:dn y):bS az 177 [.slice 5 .no (b.map ak.e),.slice 5 .no (y.map ak.e)] (cy (cR b y)):=amn ae aD
theorem Yc{b x:List ak}(ae:dn b)(ab:dn x):bS az 219 [.slice 5 .no (b.map ak.e),cy x] (fb (mgu b (eB x))):=amm b x ae.sol ae.fits ab.len
def LJ(a:List bd):ah:=match a with
 |[]=>.slice 2 .nil []
 |_::_=>.slice 2 (.own (.loc 5)) (a.map bd.e)
def LI(a:List bd):List (aJ×fL):=match a with
 |[]=>[]
 |_::_=>[(.loc 5,⟨a.length,106,2,none⟩)]
def LH(a:List bd):Nat:=match a with
 |[]=>3
 |_::_=>6
@[simp] theorem apZ:LJ []= .slice 2 .nil []:=rfl
@[simp] theorem apY(x:bd)(a:List bd):LJ (x::a)= .slice 2 (.own (.loc 5)) (x.e::a.map bd.e):=rfl
@[simp] theorem apX:LI []=[]:=rfl
@[simp] theorem apW(x:bd)(a:List bd):LI (x::a)=[(.loc 5,⟨a.length+1,106,2,none⟩)]:=rfl
@[simp] theorem apV:LH []=3:=rfl
@[simp] theorem apU(x:bd)(a:List bd):LH (x::a)=6:=rfl
set_option maxRecDepth 4000 in
theorem BC{s:bE}(h:h5 s){G:List (List cQ)}(hf:G.length≤687000)(aR:lx G s.m):bS az 147 [s.e] (nY s):=by
 unfold nY;generalize dh:dM s=O;generalize c4:sn s=SS;have kD:=NY h.b h.k;have kE:=NZ h.b h.m hf aR;have jw:=fun k=>yI (acc:=[]) (a:=k) h.b h.k.at' ⟨by simp,by simp⟩;have qe:=fun m=>DN (acc:=[]) (a:=m) h.b h.m.at' ⟨by simp,by simp[gR]⟩;have na:=fun m=>DO (acc:=[]) (a:=m) (s:=s.b) aR (fun x ab=>by simp at ab);have ae:=h.b;have aE:=h.d;clear h aR;unfold dM at dh;unfold sn at c4;obtain⟨n,b,d,gW,m0⟩:=s;simp only at kD kE jw qe na ae aE dh c4;have fD:=ae.len;simp only[bE.e];generalize eT b gW []=ok at kD dh c4 jw;generalize eK b m0 []=om at kE dh c4 qe na;cases ok with
 |none=>
  simp only at dh c4;subst dh;subst c4;simp only[fO]at kD;simp only[h3]at kE;clear jw qe na;refine bq n5 JW Mm fun aP=>?_;unfold E8;simp;(with_reducible repeat' first|refine aj ?_|refine aB kD ?_|refine aC kD ?_|refine aB kE ?_|refine aC kE ?_|simp);all_goals simp[bp,vd,aT,aW,aQ]
  all_goals simp[fy,bE.e]
 |some k=>
  simp only at dh c4;cases om with
  |none=>
   simp only at dh c4;subst dh;subst c4;simp only[fO]at kD;simp only[h3]at kE;clear jw qe na;refine bq n5 JW Mm fun aP=>?_;unfold E8;simp;(with_reducible repeat' first|refine aj ?_|refine aB kD ?_|refine aC kD ?_|refine aB kE ?_|refine aC kE ?_|simp);all_goals simp[bp,vd,aT,aW,aQ]
   all_goals simp[fy,bE.e]
  |some m=>
   simp only at dh c4;have v7:=jw k rfl;have x3:=qe m rfl;have xT:=na m rfl;have mA:m.length≤68719470000:=by have:=Di x3 xT;omega
   have zW:=UP (k:=k) x3;have zQ:=HZ (k:=k) xT;simp only[fO,jr,nI]at kD;simp only[h3,jr,nI]at kE;clear jw qe na;refine bq n5 JW Mm fun aP=>?_;unfold E8;have Kq:d.length≤68719476736:=by simp[gD,fY,gx,lim]at aP;omega
   clear aP;simp;(with_reducible repeat' first|refine aj ?_|refine aB kD ?_|refine aC kD ?_|refine aB kE ?_|refine aC kE ?_|simp);refine iN (fun i (a:List bd)=>⟨[(1,.ptr (.loc 0) 0),(2,.ptr (.loc 1) 0),(4,.slice 2 .no (k.map bX.e)),(8,.ptr (.loc 2) 0),(48,.slice 2 .no (m.map bd.e)),(49,.int .i64 m.length),(50,.int .i64 i)],[(.loc 0,[.int .i64 n,.slice 5 .no (b.map ak.e),.slice 1 .no (d.map cy),.slice 2 .no (gW.map bX.e),.slice 2 .no (m0.map bd.e)]),(.loc 1,[.int .i64 0,.slice 5 .nil [],.slice 1 .nil [],.slice 2 .nil [],.slice 2 .nil []]),(.loc 2,[.int .i64 n,.slice 5 .no (b.map ak.e),.slice 1 .nil [],.slice 2 .no (k.map bX.e),LJ a])],LI a,LH a,[]⟩) m.length (tn k m) [] b3 (by simp[tn]) (fun a ag _=>?_) (fun i a hi ag _=>?_);rotate_left
   ·obtain⟨x,ab,c2⟩:=eZ hi;have pX:a.length≤68719470000:=by
     have:a.length≤(m.take i).length:=by rw[ag];exact List.length_filter_le _ _
     simp at this;omega
    have au:=ag.step ab;have kF:=ams v7 x.v;have bu:(gS k (.var x.v) 2).isSome=ek k x:=Y6 v7 x.v;simp only[ny,bu]at kF;clear bu;generalize (gS k (.var x.v) 2).getD k=kz at kF;cases aO:ek k x
    ·rw[aO]at au kF;simp only[gC,if_false]at au;clear ag ab aO;cases a with
     |nil=>simp[hi,c2];(with_reducible repeat' first|refine aj ?_|refine aB (ko _) ?_|refine aC (ko _) ?_|refine aB kF ?_|refine aC kF ?_|simp[hi,c2]);all_goals exact bN.rng [] hi au b3
     |cons y ys=>simp[hi,c2];(with_reducible repeat' first|refine aj ?_|refine aB (ko _) ?_|refine aC (ko _) ?_|refine aB kF ?_|refine aC kF ?_|simp[hi,c2]);all_goals exact bN.rng (y::ys) hi au b3
    ·rw[aO]at au kF;simp only[if_true]at au;clear ag ab aO;cases a with
     |nil=>
      simp[hi,c2];(with_reducible repeat' first|refine aj ?_|refine aB (ko _) ?_|refine aC (ko _) ?_|refine aB kF ?_|refine aC kF ?_|simp[hi,c2]);all_goals first|(refine⟨by unfold lim;omega,?_⟩)|skip
      all_goals(with_reducible repeat' first|refine aj ?_|simp)
      all_goals exact bN.rng [x] hi au b3
     |cons y ys=>
      simp only[oa]at pX;simp[hi,c2];(with_reducible repeat' first|refine aj ?_|refine aB (ko _) ?_|refine aC (ko _) ?_|refine aB kF ?_|refine aC kF ?_|simp[hi,c2]);all_goals first|(refine⟨by unfold lim;omega,?_⟩)|skip
      all_goals(with_reducible repeat' first|refine aj ?_|simp)
      all_goals exact bN.rng (y::ys++[x]) hi au ⟨by simp[fresh,aN,aH,cn,inObs,Pv.look,Az],eM (by simp[fresh,aN,aH,cn,inObs,Pv.look,Az]),eN (by simp[fresh,aN,aH,ej,inObs,Pv.look,Az]),by simp⟩
   rw[tn,nH]at ag;rw[←ag]at zW zQ dh c4;clear ag x3 xT;cases a with
   |nil=>
    simp;(with_reducible repeat' first|refine aj ?_|simp);refine iN (fun i (L:List (List ak))=>⟨[(1,.ptr (.loc 0) 0),(2,.ptr (.loc 1) 0),(8,.ptr (.loc 2) 0),(13,.slice 1 (.own (.loc 3)) (L.map cy)),(72,.slice 1 .no (d.map cy)),(73,.int .i64 d.length),(74,.int .i64 i)],[(.loc 0,[.int .i64 n,.slice 5 .no (b.map ak.e),.slice 1 .no (d.map cy),.slice 2 .no (gW.map bX.e),.slice 2 .no (m0.map bd.e)]),(.loc 1,[.int .i64 0,.slice 5 .nil [],.slice 1 .nil [],.slice 2 .nil [],.slice 2 .nil []]),(.loc 2,[.int .i64 n,.slice 5 .no (b.map ak.e),.slice 1 .nil [],.slice 2 .no (k.map bX.e),.slice 2 .nil []])],[(.loc 3,⟨L.length,23,1,none⟩)],3+1,[]⟩) d.length (p3 b k [] d) [] b3 ⟨by simp,by simp,by simp⟩ (fun L ag _=>?_) (fun i L hi ag _=>?_)
    ·have hg:=ag.fin;have vT:=ag.2.1;rw[hg]at dh c4;simp only at dh c4;have jK:=Yd L vT;clear ag hg vT;generalize fV L=M at jK dh c4;subst c4;by_cases lI:M.length≤30
     ·have ox:(M.length:Int)≤30:=by omega
      rw[if_pos lI]at dh;subst dh;simp;(with_reducible repeat' first|refine aj ?_|refine aB jK ?_|refine aC jK ?_|simp[lI,ox]);all_goals simp[bp,vd,aT,aW,aQ]
      all_goals try simp[bE.e,lI,ox]
      all_goals first|exact⟨_,rfl,rfl⟩|skip
     ·have ox:¬(M.length:Int)≤30:=by omega
      rw[if_neg lI]at dh;subst dh;simp;(with_reducible repeat' first|refine aj ?_|refine aB jK ?_|refine aC jK ?_|simp[lI,ox]);all_goals simp[bp,vd,aT,aW,aQ]
      all_goals try simp[bE.e,lI,ox]
      all_goals first|exact⟨_,rfl,rfl⟩|skip
    ·obtain⟨x,ab,c2⟩:=eZ hi;have hj:=aE x (fR ab);have SA:=ag.1;have hZ:=Yc ae hj;simp only[fb]at hZ;cases hu:mgu b (eB x)with
     |none=>have au:=ag.skip ab fun r=>GB hu;rw[hu]at hZ;simp only[jq,ja]at hZ;clear ag ab dh c4;exact jl
     |some y=>
      have ir:=ae.mgu (B7 hj) hu;rw[hu]at hZ;simp only[jr,nI]at hZ;have c9:=NY ir v7;have dY:=NZ ir zW hf zQ;have h0:=NT ae ir;simp only[fO]at c9;simp only[h3,mO,gP]at dY;by_cases jG:eT y k []=none∨eK y [] []=none
      ·have au:=ag.skip ab fun r=>GA hu jG;clear ag ab dh c4 hu h0;rcases jG with e|e
       ·rw[e]at c9;simp only[jq,ja]at c9;exact jl
       ·rw[e]at dY;simp only[jq,ja]at dY;generalize (eT y k []).isSome=aV at c9;cases aV
        ·exact jl
        ·exact jl
      ·have ai:(eT y k []).isSome=true:=by cases e:eT y k []with|none=>exact absurd (.inl e) jG|some _=>rfl
       have ax:(eK y [] []).isSome=true:=by cases e:eK y [] []with|none=>exact absurd (.inr e) jG|some _=>rfl
       rw[ai]at c9;rw[ax]at dY;by_cases cD:cR b y=[]
       ·have af:=ag.stop ab fun r=>Lz hu jG cD;rw[af]at dh c4;simp only at dh c4;subst dh;subst c4;rw[cD]at h0;simp only[cy,mO]at h0;clear ag ab hu jG;simp[hi,c2];(with_reducible repeat' first|refine aj ?_|refine aB hZ ?_|refine aC hZ ?_|refine aB c9 ?_|refine aC c9 ?_|refine aB dY ?_|refine aC dY ?_|refine aB h0 ?_|refine aC h0 ?_|simp[hi,c2]);all_goals simp[bp,vd,aT,aW,aQ]
        all_goals try simp[fy,bE.e]
       ·have au:=ag.snoc ab (AQ (b:=b) ir) fun r=>GC hu jG cD;have wa:¬((cR b y).length:Int)=0:=by have:(cR b y).length≠0:=fun h=>cD (List.length_eq_zero_iff.1 h);omega
        have wb:(((cR b y).length:Int)==0)=false:=by simp[cD]
        clear ag ab hu jG dh c4;generalize cR b y=z at h0 au wa wb cD;simp only[cy]at h0;simp[hi,c2];(with_reducible repeat' first|refine aj ?_|refine aB hZ ?_|refine aC hZ ?_|refine aB c9 ?_|refine aC c9 ?_|refine aB dY ?_|refine aC dY ?_|refine aB h0 ?_|refine aC h0 ?_|simp[hi,c2,wa,wb,cD]);all_goals first|(refine⟨by unfold lim;omega,?_⟩)|skip
        all_goals(with_reducible repeat' first|refine aj ?_|simp)
        all_goals exact bN.rng (L++[z]) hi au ⟨by simp[fresh,aN,aH,cn,inObs,Pv.look,ts,cy],eM (by simp[fresh,aN,aH,cn,inObs,Pv.look,ts,cy]),eN (by simp[fresh,aN,aH,ej,inObs,Pv.look,ts,cy]),by simp⟩
   |cons Eo Ep=>
    simp;(with_reducible repeat' first|refine aj ?_|simp);refine iN (fun i (L:List (List ak))=>⟨[(1,.ptr (.loc 0) 0),(2,.ptr (.loc 1) 0),(8,.ptr (.loc 2) 0),(13,.slice 1 (.own (.loc 6)) (L.map cy)),(72,.slice 1 .no (d.map cy)),(73,.int .i64 d.length),(74,.int .i64 i)],[(.loc 0,[.int .i64 n,.slice 5 .no (b.map ak.e),.slice 1 .no (d.map cy),.slice 2 .no (gW.map bX.e),.slice 2 .no (m0.map bd.e)]),(.loc 1,[.int .i64 0,.slice 5 .nil [],.slice 1 .nil [],.slice 2 .nil [],.slice 2 .nil []]),(.loc 2,[.int .i64 n,.slice 5 .no (b.map ak.e),.slice 1 .nil [],.slice 2 .no (k.map bX.e),.slice 2 (.own (.loc 5)) (Eo.e::Ep.map bd.e)])],[(.loc 6,⟨L.length,23,1,none⟩)],6+1,[]⟩) d.length (p3 b k (Eo::Ep) d) [] b3 ⟨by simp,by simp,by simp⟩ (fun L ag _=>?_) (fun i L hi ag _=>?_)
    ·have hg:=ag.fin;have vT:=ag.2.1;rw[hg]at dh c4;simp only at dh c4;have jK:=Yd L vT;clear ag hg vT;generalize fV L=M at jK dh c4;subst c4;by_cases lI:M.length≤30
     ·have ox:(M.length:Int)≤30:=by omega
      rw[if_pos lI]at dh;subst dh;simp;(with_reducible repeat' first|refine aj ?_|refine aB jK ?_|refine aC jK ?_|simp[lI,ox]);all_goals simp[bp,vd,aT,aW,aQ]
      all_goals try simp[bE.e,lI,ox]
      all_goals first|exact⟨_,rfl,rfl⟩|skip
     ·have ox:¬(M.length:Int)≤30:=by omega
      rw[if_neg lI]at dh;subst dh;simp;(with_reducible repeat' first|refine aj ?_|refine aB jK ?_|refine aC jK ?_|simp[lI,ox]);all_goals simp[bp,vd,aT,aW,aQ]
      all_goals try simp[bE.e,lI,ox]
      all_goals first|exact⟨_,rfl,rfl⟩|skip
    ·obtain⟨x,ab,c2⟩:=eZ hi;have hj:=aE x (fR ab);have SA:=ag.1;have hZ:=Yc ae hj;simp only[fb]at hZ;cases hu:mgu b (eB x)with
     |none=>have au:=ag.skip ab fun r=>GB hu;rw[hu]at hZ;simp only[jq,ja]at hZ;clear ag ab dh c4;exact jl
     |some y=>
      have ir:=ae.mgu (B7 hj) hu;rw[hu]at hZ;simp only[jr,nI]at hZ;have c9:=NY ir v7;have dY:=NZ ir zW hf zQ;have h0:=NT ae ir;simp only[fO]at c9;simp only[h3,mO,gP]at dY;by_cases jG:eT y k []=none∨eK y (Eo::Ep) []=none
      ·have au:=ag.skip ab fun r=>GA hu jG;clear ag ab dh c4 hu h0;rcases jG with e|e
       ·rw[e]at c9;simp only[jq,ja]at c9;exact jl
       ·rw[e]at dY;simp only[jq,ja]at dY;generalize (eT y k []).isSome=aV at c9;cases aV
        ·exact jl
        ·exact jl
      ·have ai:(eT y k []).isSome=true:=by cases e:eT y k []with|none=>exact absurd (.inl e) jG|some _=>rfl
       have ax:(eK y (Eo::Ep) []).isSome=true:=by cases e:eK y (Eo::Ep) []with|none=>exact absurd (.inr e) jG|some _=>rfl
       rw[ai]at c9;rw[ax]at dY;by_cases cD:cR b y=[]
       ·have af:=ag.stop ab fun r=>Lz hu jG cD;rw[af]at dh c4;simp only at dh c4;subst dh;subst c4;rw[cD]at h0;simp only[cy,mO]at h0;clear ag ab hu jG;simp[hi,c2];(with_reducible repeat' first|refine aj ?_|refine aB hZ ?_|refine aC hZ ?_|refine aB c9 ?_|refine aC c9 ?_|refine aB dY ?_|refine aC dY ?_|refine aB h0 ?_|refine aC h0 ?_|simp[hi,c2]);all_goals simp[bp,vd,aT,aW,aQ]
        all_goals try simp[fy,bE.e]
       ·have au:=ag.snoc ab (AQ (b:=b) ir) fun r=>GC hu jG cD;have wa:¬((cR b y).length:Int)=0:=by have:(cR b y).length≠0:=fun h=>cD (List.length_eq_zero_iff.1 h);omega
        have wb:(((cR b y).length:Int)==0)=false:=by simp[cD]
        clear ag ab hu jG dh c4;generalize cR b y=z at h0 au wa wb cD;simp only[cy]at h0;simp[hi,c2];(with_reducible repeat' first|refine aj ?_|refine aB hZ ?_|refine aC hZ ?_|refine aB c9 ?_|refine aC c9 ?_|refine aB dY ?_|refine aC dY ?_|refine aB h0 ?_|refine aC h0 ?_|simp[hi,c2,wa,wb,cD]);all_goals first|(refine⟨by unfold lim;omega,?_⟩)|skip
        all_goals(with_reducible repeat' first|refine aj ?_|simp)
        all_goals exact bN.rng (L++[z]) hi au ⟨by simp[fresh,aN,aH,cn,inObs,Pv.look,ts,cy],eM (by simp[fresh,aN,aH,cn,inObs,Pv.look,ts,cy]),eN (by simp[fresh,aN,aH,ej,inObs,Pv.look,ts,cy]),by simp⟩
theorem amq(x y:List ak):bS az 180 [cy x,cy y] (.int .i64 (en x y)):=NV x y
theorem amB{x y:List ak}(h:¬x=y):(en x y !=0)=true:=by have:¬en x y=0:=fun e=>h ((kH.zero _ _).1 e);simp[this]
set_option maxRecDepth 4000 in
theorem amy(a c:bE):bS az 94 [a.e,c.e] (.bool (decide (a=c))):=by
 obtain⟨n,b,d,k,m⟩:=a;obtain⟨n',bV,ca,k',m'⟩:=c;generalize bH:decide ((⟨n,b,d,k,m⟩:bE)=⟨n',bV,ca,k',m'⟩)=R;simp only[bE.mk.injEq,bE.e]at bH⊢;by_cases aV:n=n';rotate_left
 ·have gb:R=false:=by rw[←bH];simp[aV]
  have tH:(n !=n')=true:=by simp[aV]
  rw[gb];clear bH gb;refine bq n5 zA AY fun aP=>?_;unfold xz;exact cB
 subst aV;have fG:=NV b bV;by_cases bf:b=bV;rotate_left
 ·have gb:R=false:=by rw[←bH];simp[bf]
  have oQ:¬en b bV=0:=fun h=>bf ((kH.zero _ _).1 h);have VW:(en b bV !=0)=true:=by simp[oQ]
  rw[gb];clear bH gb;refine bq n5 zA AY fun aP=>?_;unfold xz;exact cB
 subst bf;rw[(kH.zero b b).2 rfl]at fG;by_cases bI:d.length=ca.length;rotate_left
 ·have gb:R=false:=by rw[←bH];simp only[hK];rintro⟨_,_,rfl,_⟩;exact bI rfl
  have si:((d.length:Int) !=ca.length)=true:=by simp;omega
  rw[gb];clear bH gb;refine bq n5 zA AY fun aP=>?_;unfold xz;exact cB
 by_cases cN:k.length=k'.length;rotate_left
 ·have gb:R=false:=by rw[←bH];simp only[hK];rintro⟨_,_,_,rfl,_⟩;exact cN rfl
  have ajY:((k.length:Int) !=k'.length)=true:=by simp;omega
  rw[gb];clear bH gb;refine bq n5 zA AY fun aP=>?_;unfold xz;exact cB
 by_cases c6:m.length=m'.length;rotate_left
 ·have gb:R=false:=by rw[←bH];simp only[hK];rintro⟨_,_,_,_,rfl⟩;exact c6 rfl
  have ajZ:((m.length:Int) !=m'.length)=true:=by simp;omega
  rw[gb];clear bH gb;refine bq n5 zA AY fun aP=>?_;unfold xz;exact cB
 have x6:d≠ca→R=false:=fun h=>by rw[←bH];simp[h]
 have x7:k≠k'→R=false:=fun h=>by rw[←bH];simp[h]
 have KK:m≠m'→R=false:=fun h=>by rw[←bH];simp[h]
 refine bq n5 zA AY fun aP=>?_;unfold xz;have ae1:ca.length≤68719476736:=by simp[gD,fY,gx,lim]at aP;omega
 have ae2:k'.length≤68719476736:=by simp[gD,fY,gx,lim]at aP;omega
 have ae3:m'.length≤68719476736:=by simp[gD,fY,gx,lim]at aP;omega
 clear aP;simp;(with_reducible repeat' first|refine aj ?_|refine aB fG ?_|refine aC fG ?_|simp[bI,cN,c6]);have dd:=x6;refine eC [2,3,52,53] (fun i (_:Unit)=>[(54,.int .i64 i)]) ca.length (rA d ca) () b3 (fun k ad=>by omega) (fun _ ag _=>?_) (fun i _ hi ag _=>?_);rotate_left
 ·obtain⟨x,ab⟩:∃x,d[i]? =some x:=⟨_,cb (by omega)⟩;obtain⟨y,aD⟩:∃y,ca[i]? =some y:=⟨_,cb hi⟩;have gn:i<d.length:=by omega
  have c2:∀h,(d[i]'h)=x:=fun h=>by rw[cb gn]at ab;exact e3 ab
  have eQ:∀h,(ca[i]'h)=y:=fun h=>by rw[cb hi]at aD;exact e3 aD
  have fG:=amq x y;by_cases q:x=y
  ·subst q;have au:=ag.step ab aD;rw[(kH.zero _ _).2 rfl]at fG;clear ag ab aD;simp[hi,gn,c2,eQ,-hN];(with_reducible repeat' first|refine aj ?_|refine aB fG ?_|refine aC fG ?_|simp[c2,eQ,hi,gn,-hN]);all_goals exact bN.rng () hi au b3
  ·rw[dd (fun h=>q (by rw[h]at ab;rw[ab]at aD;exact e3 aD))];have oQ:=amB q;clear ag ab aD;simp[hi,gn,c2,eQ,-hN];(with_reducible repeat' first|refine aj ?_|refine aB fG ?_|refine aC fG ?_|simp[c2,eQ,hi,gn,q,oQ,-hN]);all_goals simp[bp,Hp,aT,aW,aQ]
 have dk:=ag.fin bI;subst dk;clear ag dd x6 bI;simp;(with_reducible repeat' first|refine aj ?_|simp[cN]);have dd:=x7;refine eC [2,3,69,70] (fun i (_:Unit)=>[(71,.int .i64 i)]) k'.length (rA k k') () b3 (fun k ad=>by omega) (fun _ ag _=>?_) (fun i _ hi ag _=>?_);rotate_left
 ·obtain⟨x,ab⟩:∃x,k[i]? =some x:=⟨_,cb (by omega)⟩;obtain⟨y,aD⟩:∃y,k'[i]? =some y:=⟨_,cb hi⟩;have gn:i<k.length:=by omega
  have c2:∀h,(k[i]'h)=x:=fun h=>by rw[cb gn]at ab;exact e3 ab
  have eQ:∀h,(k'[i]'h)=y:=fun h=>by rw[cb hi]at aD;exact e3 aD
  have fG:=True.intro;by_cases q:x=y
  ·subst q;have au:=ag.step ab aD;skip;clear ag ab aD;simp[hi,gn,c2,eQ,-hN];(with_reducible repeat' first|refine aj ?_|refine aB fG ?_|refine aC fG ?_|simp[c2,eQ,hi,gn,-hN]);all_goals exact bN.rng () hi au b3
  ·rw[dd (fun h=>q (by rw[h]at ab;rw[ab]at aD;exact e3 aD))];skip;clear ag ab aD;simp[hi,gn,c2,eQ,-hN];(with_reducible repeat' first|refine aj ?_|refine aB fG ?_|refine aC fG ?_|simp[c2,eQ,hi,gn,q,q,-hN]);all_goals simp[bp,Hp,aT,aW,aQ]
 have dk:=ag.fin cN;subst dk;clear ag dd x7 cN;simp;(with_reducible repeat' first|refine aj ?_|simp[c6]);have dd:=KK;refine eC [3,85,86] (fun i (_:Unit)=>[(87,.int .i64 i)]) m'.length (rA m m') () b3 (fun k ad=>by omega) (fun _ ag _=>?_) (fun i _ hi ag _=>?_);rotate_left
 ·obtain⟨x,ab⟩:∃x,m[i]? =some x:=⟨_,cb (by omega)⟩;obtain⟨y,aD⟩:∃y,m'[i]? =some y:=⟨_,cb hi⟩;have gn:i<m.length:=by omega
  have c2:∀h,(m[i]'h)=x:=fun h=>by rw[cb gn]at ab;exact e3 ab
  have eQ:∀h,(m'[i]'h)=y:=fun h=>by rw[cb hi]at aD;exact e3 aD
  have fG:=True.intro;by_cases q:x=y
  ·subst q;have au:=ag.step ab aD;skip;clear ag ab aD;simp[hi,gn,c2,eQ,-hN];(with_reducible repeat' first|refine aj ?_|refine aB fG ?_|refine aC fG ?_|simp[c2,eQ,hi,gn,-hN]);all_goals exact bN.rng () hi au b3
  ·rw[dd (fun h=>q (by rw[h]at ab;rw[ab]at aD;exact e3 aD))];skip;clear ag ab aD;simp[hi,gn,c2,eQ,-hN];(with_reducible repeat' first|refine aj ?_|refine aB fG ?_|refine aC fG ?_|simp[c2,eQ,hi,gn,q,q,-hN]);all_goals simp[bp,Hp,aT,aW,aQ]
 have dk:=ag.fin c6;subst dk;have gb:R=true:=by rw[←bH];simp
 rw[gb];exact cB
@[simp] theorem alE:∀l:List (List dV),di (l.map lH)=l.map lH
 |[]=>rfl
 |x::xs=>by simp[di,alE xs]
theorem Xv:∀{d:List (List dV)},d.all gB=true→∃D:List (List ak),d=(D.map fun x=>x.map ak.b)∧∀x∈D,dn x
 |[],_=>⟨[],rfl,by simp⟩
 |x::d,h=>by
  rw[List.all_cons,cx]at h;obtain⟨D,J,U⟩:=Xv h.2;obtain⟨s,ai,ax⟩:=w5.1 (rf.1 h.1);refine⟨s::D,by rw[J,ai];rfl,fun y aD=>?_⟩;rcases fA.1 aD with rfl|aD
  ·exact ax
  ·exact U y aD
open Classical in
set_option maxRecDepth 4000 in
theorem amJ(r:l0)(ga:jj r.m→kK r.m):bS az 65 [r.e] (.bool (decide (pH r))):=by
 generalize bH:decide (pH r)=R;have dd:¬MY r→R=false:=fun h=>by rw[←bH,hK];exact fun cr=>h cr.raw
 obtain⟨n,b,d,k,m⟩:=r;simp only[l0.e]at ga⊢;have Gr:=dr n 0 100000;by_cases g1:0≤n∧n≤100000;rotate_left
 ·rw[dd fun h=>g1 h.n];rw[lB g1]at Gr;refine bq n5 xE yA fun aP=>?_;unfold vG;exact cB
 rw[kp g1]at Gr;have ic:bS az 142 [.slice 5 .no (b.map dV.e)] (.bool (gB b)):=N0 b;cases g3:gB b
 ·rw[dd fun h=>by obtain⟨s,ai,ax,_⟩:=h.b;have:=rf.2 (w5.2 ⟨s,ai,ax⟩);simp only at this;rw[g3]at this;cases this]
  rw[g3]at ic;refine bq n5 xE yA fun aP=>?_;unfold vG;exact cB
 rw[g3]at ic;obtain⟨s,rfl,af⟩:=w5.1 (rf.1 g3);clear g3;rw[yp]at ic⊢;have eR:=amp d;cases vR:d.all gB
 ·rw[dd fun h=>by
   have:d.all gB=true:=by rw[ig];intro x ab;obtain⟨s,ai,ax,_⟩:=h.d x ab;exact rf.2 (w5.2 ⟨s,ai,ax⟩)
   rw[vR]at this;cases this]
  rw[vR]at eR;refine bq n5 xE yA fun aP=>?_;unfold vG;exact cB
 rw[vR]at eR;obtain⟨D,rfl,lh⟩:=Xv vR;clear vR;rw[Ju]at eR⊢;have c9:=amH k;by_cases g4:jh k;rotate_left
 ·rw[dd fun h=>g4 h.k];rw[lB g4]at c9;refine bq n5 xE yA fun aP=>?_;unfold vG;exact cB
 rw[kp g4]at c9;have dY:=amI m;by_cases g5:jj m;rotate_left
 ·rw[dd fun h=>g5 h.m];rw[lB g5]at dY;refine bq n5 xE yA fun aP=>?_;unfold vG;exact cB
 rw[kp g5]at dY;have lq:=Yh s n;cases g6:s.all (kS n)
 ·rw[dd fun h=>by obtain⟨s',ai,_,bn⟩:=h.b;have dp:=vB ai;subst dp;rw[vC.2 bn]at g6;cases g6]
  rw[g6]at lq;refine bq n5 xE yA fun aP=>?_;unfold vG;exact cB
 rw[g6]at lq;have cF:=vC.1 g6;clear g6;have CI:=ga g5;have mA:=CI.len g5;refine bq n5 xE yA fun aP=>?_;unfold vG;have Kq:D.length≤68719476736:=by simp[gD,fY,gx,lim]at aP;omega
 have iC:=oN g4;clear aP ga;simp;(with_reducible repeat' first|refine aj ?_|refine aB Gr ?_|refine aC Gr ?_|refine aB ic ?_|refine aC ic ?_|refine aB eR ?_|refine aC eR ?_|refine aB c9 ?_|refine aC c9 ?_|refine aB dY ?_|refine aC dY ?_|refine aB lq ?_|refine aC lq ?_|simp);refine eC [1,48,49] (fun i (_:Unit)=>[(50,.int .i64 i)]) D.length (r7 (fun x=>o5 x n) D) () b3 (fun k b ad=>by omega) (fun _ ag _=>?_) (fun i _ hi ag _=>?_);rotate_left
 ·obtain⟨y,aD,eQ⟩:=eZ hi;have K7:=fR aD;have kF:bS az 146 [cy y,.int .i64 n] (.bool (y.all (kS n))):=Yh y n;cases pe:y.all (kS n)
  ·rw[dd fun h=>by obtain⟨s',ai,_,bn⟩:=h.d _ (List.mem_map_of_mem K7);have dp:=vB ai;subst dp;rw[vC.2 bn]at pe;cases pe]
   rw[pe]at kF;clear ag aD K7;exact cB
  ·rw[pe]at kF;have au:=ag.step aD (vC.1 pe);clear ag aD K7;exact jl
 have Kg:=ag.fin;clear ag;simp;(with_reducible repeat' first|refine aj ?_|simp);refine eC [1,61,62] (fun i (_:Unit)=>[(63,.int .i64 i)]) k.length (r7 (fun x=>x.v<n) k) () b3 (fun k b ad=>by omega) (fun _ ag _=>?_) (fun i _ hi ag _=>?_);rotate_left
 ·obtain⟨x,ab,c2⟩:=eZ hi;by_cases lg:x.v<n
  ·have xL:¬n≤x.v:=by omega
   have au:=ag.step ab lg;clear ag ab;exact jl
  ·have xL:n≤x.v:=by omega
   rw[dd fun h=>lg (h.kb x (fR ab))];clear ag ab;exact cB
 have xU:=ag.fin;clear ag;simp;(with_reducible repeat' first|refine aj ?_|simp);have xV:=xU;refine eC [1,74,75] (fun i (_:Unit)=>[(76,.int .i64 i)]) m.length (r7 (fun x=>x.v<n) m) () b3 (fun k b ad=>by omega) (fun _ ag _=>?_) (fun i _ hi ag _=>?_);rotate_left
 ·obtain⟨x,ab,c2⟩:=eZ hi;by_cases lg:x.v<n
  ·have xL:¬n≤x.v:=by omega
   have au:=ag.step ab lg;clear ag ab;exact jl
  ·have xL:n≤x.v:=by omega
   rw[dd fun h=>lg (h.mb x (fR ab))];clear ag ab;exact cB
 have xU:=ag.fin;clear ag;simp;(with_reducible repeat' first|refine aj ?_|simp);have tc:=xU;have c8:h5 ⟨n,s,D,k,m⟩:=⟨g1,af,lh,g4,g5,cF,Kg,xV,tc⟩;have uG:=Xr c8;obtain⟨G,hf,aR⟩:=CI;have dE:=BC c8 hf aR;have lp:pH ⟨n,s.map ak.b,D.map fun x=>x.map ak.b,k,m⟩↔dM ⟨n,s,D,k,m⟩=some ⟨n,s,D,k,m⟩:=uG;clear uG dd;simp only[nY]at dE;generalize Kj:sn ⟨n,s,D,k,m⟩=t at dE;have wx:=amy t ⟨n,s,D,k,m⟩;cases lP:dM ⟨n,s,D,k,m⟩with
 |none=>
  rw[lP]at dE lp;have gb:R=false:=by rw[←bH,hK,lp];simp
  rw[gb];obtain⟨ql,qi,qj,qk,tm⟩:=t;simp only[ja,bE.e]at dE;clear bH gb lp Kj wx;exact cB
 |some dF=>
  have ai:=HO lP;rw[Kj]at ai;subst ai;rw[lP]at dE lp;have gb:R=decide (t=⟨n,s,D,k,m⟩):=by rw[←bH,decide_eq_decide,lp];simp
  rw[gb];simp only[nI]at dE;simp only[bE.e]at dE wx;clear bH gb lp lP;generalize decide (t=(⟨n,s,D,k,m⟩:bE))=Q at wx⊢;clear Kj;obtain⟨ql,qi,qj,qk,tm⟩:=t;simp only at dE wx;exact cB
def JY(n:Int)(l:List bU):Prop:= ∃x:List T,l=x.map T.tm∧(∀t∈x,t.fit=true)∧∀t∈x,dG n t=true
theorem alN{x y:List T}(h:x.map T.tm=y.map T.tm):x=y:=(List.map_inj_right fun _ _=>NJ).1 h
theorem Z6(l:List T):(l.map T.tm).map enc=l.map T.e:=by rw[List.map_map];exact List.map_congr_left fun t _=>pR t
theorem RR:∀{l:List bU},l.all bU.fits=true→∃x:List T,l=x.map T.tm∧∀t∈x,t.fit=true
 |[],_=>⟨[],rfl,by simp⟩
 |t::l,h=>by rw[List.all_cons,cx]at h;obtain⟨x,rfl,U⟩:=RR h.2;obtain⟨y,rfl,a1⟩:=bU.fits_ex h.1;exact⟨y::x,rfl,fun z aY=>(fA.1 aY).elim (fun e=>by rw[e];exact a1) (U z)⟩
theorem acY{n:Int}{x y:T}(ab:x.fit=true)(aD:y.fit=true)(J:dG n x=true)(U:dG n y=true):JY n [x.tm,y.tm]:=⟨[x,y],rfl,by simp[ab,aD],by simp[J,U]⟩
theorem Yp{n:Int}:∀(l:List T) (m:Int),l.foldl (fun m t=>t.fold rj m) m≤n↔m≤n∧∀t∈l,dG n t=true
 |[],m=>by simp
 |t::l,m=>by rw[List.foldl_cons,Yp l,Il];simp[and_assoc]
theorem pw.fin{α:Type}{p:α→Bool}{s:List α}(h:pw p s s.length ()):∀b∈s,p b=true:=fun b ae=>by obtain⟨i,hi⟩:=List.mem_iff_getElem?.1 ae;exact h i b (by have:=(fU.1 hi).1;omega) hi
theorem amN(l:List bU):bS az 68 [.slice 4 .no (l.map enc)] (.bool (l.all bU.fits)):=by
 generalize bH:l.all bU.fits=R;refine bq fH RI Vv fun aP=>?_;unfold I6;have gV:l.length≤68719476736:=by simp[gD,fY,gx,lim]at aP;omega
 simp;refine eC [5,6] (fun i (_:Unit)=>[(7,.int .i64 i)]) l.length (pw bU.fits l) () b3 (fun k b ad=>by omega) (fun _ ag _=>?_) (fun i _ hi ag _=>?_)
 ·have:R=true:=by rw[←bH,ig];exact ag.fin
  subst this;clear ag bH;exact cB
 ·obtain⟨t,aL,qX⟩:=eZ hi;have dE:=Ia t;cases g:t.fits
  ·rw[g]at dE;have:R=false:=by rw[←bH,List.all_eq_false];exact⟨t,fR aL,by rw[g];simp⟩
   subst this;clear aL ag bH;exact cB
  ·rw[g]at dE;have au:=ag.step aL g;clear aL ag bH;exact jl
open Classical in
theorem X0(r:l0)(ga:jj r.m→kK r.m)(l:List bU):bS az 47 [r.e,.slice 4 .no (l.map enc)] (.bool (decide (pH r∧JY r.n l))):=by
 generalize bH:decide (pH r∧JY r.n l)=R;have dt:=al5 r ga;have dE:=amN l;have au:=fun h:pH r=>(pH.raw h).n;by_cases g1:pH r;rotate_left
 ·rw[lB g1]at dt;have:R=false:=by rw[←bH];exact lB fun h=>g1 h.1
  subst this;obtain⟨n,b,d,k,m⟩:=r;simp only[l0.e]at dt⊢;clear bH au ga g1;refine bq gN JN Md fun aP=>?_;unfold EX;exact cB
 rw[kp g1]at dt;cases g2:l.all bU.fits
 ·rw[g2]at dE;have:R=false:=by rw[←bH];refine lB fun h=>?_;obtain⟨x,rfl,U,_⟩:=h.2;rw[List.all_eq_false]at g2;obtain⟨t,aL,aO⟩:=g2;obtain⟨y,aD,rfl⟩:=hJ.1 aL;rw[bU.fits_T]at aO;exact aO (U y aD)
  subst this;obtain⟨n,b,d,k,m⟩:=r;simp only[l0.e]at dt⊢;clear bH au ga g1 g2;refine bq gN JN Md fun aP=>?_;unfold EX;exact cB
 rw[g2]at dE;obtain⟨x,rfl,ab⟩:=RR g2;rw[Z6]at dE⊢;have p6:=XW x ab;have aI:decide (xd x≤r.n)=R:=by rw[←bH,xd];refine decide_eq_decide.2 ?_;rw[Yp];refine⟨fun h=>⟨g1,x,rfl,ab,h.2⟩,fun h=>⟨(au g1).1,?_⟩⟩;obtain⟨y,e,_,U⟩:=h.2;rw[alN e];exact U
 generalize xd x=q at p6 aI;obtain⟨n,b,d,k,m⟩:=r;simp only[l0.e]at dt aI⊢;clear bH au ga g1 g2 ab;subst aI;refine bq gN JN Md fun aP=>?_;unfold EX;exact cB
noncomputable def hv(s:bE)(x y:T):Option bE:=(mgu s.b [(x,y)]).bind fun b=>dM {s with b:=b}
theorem XV{b:List ak}(ae:dn b){x y:T}(ab:x.fit=true)(aD:y.fit=true):bS az 48 [.slice 5 .no (b.map ak.e),x.e,y.e] (fb (mgu b [(x,y)])):=by have dt:=oV ae;have aS:=y1 ab;have bc:=y1 aD;have key:=Yn b [x] [y] rfl ae.sol ae.fits ae.ok (by simp) (by simp only[T.fit,cx]at ab;simpa using ab.1) (by simp only[T.fit,cx]at aD;simpa using aD.1);simp only[gP,mO,List.zip_cons_cons,List.zip_nil_left]at key;unfold fb at key⊢;generalize mgu b [(x,y)]=O at key;refine bq gN abh ah2 fun aP=>?_;unfold Pj;exact cB
theorem uS(S:aJ→Prop)(l:List (List ak))(d:List ak):aN S (l.map cy++[cy d])=True:=ts S l d
theorem XZ{x:List ak}(h:x.length≤1000000):bS az 119 [cy x] (cy x):=Ee x h
theorem NR(s:bE)(ae:s.b.length≤1000000)(aE:∀x∈s.d,x.length≤1000000)(ad:s.k.length≤1000000)(hm:s.m.length≤68719470000):bS az 49 [s.e] s.e:=by
 obtain⟨n,b,d,k,m⟩:=s;simp only[bE.e]at ae aE ad hm⊢;have ic:=Ee b ae;refine bq gN RF Vs fun aP=>?_;unfold I3;have gV:d.length≤68719476736:=by simp[gD,fY,gx,lim]at aP;omega
 clear aP;simp;(with_reducible repeat' first|refine aj ?_|refine aB ic ?_|refine aC ic ?_|simp);refine iN (fun i (L:List (List ak))=>⟨[(1,.ptr (.loc 0) 0),(2,.ptr (.loc 1) 0),(3,.ptr (.loc 5) 0),(14,.slice 1 .no (d.map cy)),(15,.int .i64 d.length),(16,.int .i64 i)],[(.loc 0,[.int .i64 n,.slice 5 .no (b.map ak.e),.slice 1 .no (d.map cy),.slice 2 .no (k.map bX.e),.slice 2 .no (m.map bd.e)]),(.loc 1,[.int .i64 0,.slice 5 .nil [],.slice 1 .nil [],.slice 2 .nil [],.slice 2 .nil []]),(.loc 5,[.int .i64 n,.slice 5 .no (b.map ak.e),.slice 1 (.own (.loc 13)) (L.map cy),.slice 2 .nil [],.slice 2 .nil []])],[(.loc 13,⟨L.length,23,1,none⟩)],41,[]⟩) d.length (fun i L=>L=d.take i) [] b3 (by simp) (fun L ag _=>?_) (fun i L hi ag _=>?_)
 ·rw[nH]at ag;subst ag;simp;(with_reducible repeat' first|refine aj ?_|simp);all_goals first|(refine⟨by unfold lim;omega,?_⟩)|skip
  exact cB
 ·obtain⟨x,ab,c2⟩:=eZ hi;have p7:=XZ (aE x (fR ab));have aq:L.length≤i:=by rw[ag];simp;omega
  simp[hi,c2];(with_reducible repeat' first|refine aj ?_|refine aB p7 ?_|refine aC p7 ?_|simp[c2,hi]);all_goals first|(refine⟨by unfold lim;omega,?_⟩)|skip
  (with_reducible repeat' first|refine aj ?_|simp);refine bN.rng (L++[x]) hi (by rw[oT ab,ag]) ?_;simp;exact⟨by simp[fresh,aN,aH,cn,inObs,Pv.look,uS],eM (by simp[fresh,aN,aH,cn,inObs,Pv.look,uS]),eN (by simp[fresh,aN,aH,ej,inObs,Pv.look,uS]),by simp⟩
theorem T.fit_ok{x:T}(h:x.fit=true):x.ok=true:=by simp only[T.fit,cx]at h;exact h.1
theorem h5.bind{s:bE}(h:h5 s){x y:T}(ab:x.fit=true)(aD:y.fit=true)(bx:dG s.n x=true)(gh:dG s.n y=true){b:List ak}(hm:mgu s.b [(x,y)]=some b):h5 {s with b:=b}:=⟨h.n,h.b.mgu (by simp[T.fit_ok ab,T.fit_ok aD]) hm,h.d,h.k,h.m,U3 (fun v=>v<s.n) h.b.sol h.b.fits h.bb (fun e he=>by simp only[qv]at he;subst he;exact⟨xu.1 bx,xu.1 gh⟩) hm,h.db,h.kb,h.mb⟩
open Classical in
theorem X1{s:bE}(h:k2 s)(hm:kK s.m){x y:T}(ab:x.fit=true)(aD:y.fit=true)(bx:dG s.n x=true)(gh:dG s.n y=true):bS az 47 [s.e,.slice 4 .no [x.e,y.e]] (.bool true):=by have:=X0 s.r (fun _=>hm) [x.tm,y.tm];rw[kp ⟨⟨s,rfl,h⟩,acY ab aD bx gh⟩,Ny]at this;simpa[pR]using this
theorem XK{s:bE}(h:k2 s)(hm:kK s.m){x y:T}(ab:x.fit=true)(aD:y.fit=true)(bx:dG s.n x=true)(gh:dG s.n y=true):bS az 12 [s.e,x.e,y.e] (hI (hv s x y)):=by
 have aS:=X1 h hm ab aD bx gh;have bc:=XV h.1.b ab aD;have bT:=NR s h.1.b.len (fun z aY=>(h.1.d z aY).len) (by have:=oN h.1.k;omega) (hm.len h.1.m);unfold hv;cases hu:mgu s.b [(x,y)]with
 |none=>rw[hu]at bc;clear h hu bT;obtain⟨n,b,d,k,m⟩:=s;simp only[bE.e,fb,hI,pM,jq,ja,fy]at aS bc⊢;refine bq gN RA Vn fun aP=>?_;unfold IY;simp;((with_reducible repeat' first|refine aj ?_|refine aB aS ?_|refine aC aS ?_|refine aB bc ?_|refine aC bc ?_|simp|((first|apply bG|apply bL|apply bK)<;>intro h<;>try simp at h))<;>(try exact cg));all_goals simp[bp,Mx,aT,aW,aQ]
 |some bV=>rw[hu]at bc;obtain⟨G,hf,aR⟩:=hm;have dI:=BE (h.1.bind ab aD bx gh hu) hf aR;rw[e6];generalize dM {s with b:=bV}=O at dI;clear h hu;obtain⟨n,b,d,k,m⟩:=s;simp only[bE.e,fb,hI]at aS bc bT dI⊢;refine bq gN RA Vn fun aP=>?_;unfold IY;simp;(with_reducible repeat' first|refine aj ?_|refine aB aS ?_|refine aC aS ?_|refine aB bc ?_|refine aC bc ?_|refine aB bT ?_|refine aC bT ?_|refine aB dI ?_|refine aC dI ?_|simp);all_goals simp[bp,Mx,aT,aW,aQ]
noncomputable def HE(s:bE)(x y:T):ah:=match mgu s.b [(x,y)]with
 |none=>.tuple [fy.e,.bool false]
 |some b=>nY {s with b:=b}
theorem W7(s:bE)(x y:T):∃t:bE,∃q:Bool,HE s x y= .tuple [t.e,.bool q]∧(q=true→hv s x y=some t)∧(q=false→hv s x y=none):=by
 unfold HE hv;cases mgu s.b [(x,y)]with
 |none=>exact⟨fy,false,rfl,(fun h=>by cases h),fun _=>rfl⟩
 |some b=>
  refine⟨_,_,rfl,(fun h=>?_),fun h=>?_⟩
  ·obtain⟨t,aL⟩:=fB.1 h;rw[HO aL];exact aL
  ·rw[e6];cases e:dM {s with b:=b}with
   |none=>rfl
   |some t=>rw[e]at h;cases h
theorem Yf{s:bE}(h:h5 s)(hm:kK s.m){x y:T}(ab:x.fit=true)(aD:y.fit=true)(bx:dG s.n x=true)(gh:dG s.n y=true)(jw:Int)(tag:List cQ):bS az 93 [s.e,.int .i64 0,x.e,y.e,.int .i64 jw,.str tag] (HE s x y):=by
 have aS:=NU s.b x y h.b.sol h.b.fits;unfold HE;cases hu:mgu s.b [(x,y)]with
 |none=>rw[hu]at aS;clear h hu;obtain⟨n,b,d,k,m⟩:=s;simp only[bE.e,fb,fy]at aS⊢;refine bq gN rE se fun aP=>?_;unfold qG;exact cB
 |some bV=>rw[hu]at aS;obtain⟨G,hf,aR⟩:=hm;have bc:=BC (h.bind ab aD bx gh hu) hf aR;simp only[nY]at bc⊢;generalize sn {s with b:=bV}=t at bc;generalize (dM {s with b:=bV}).isSome=q at bc;clear h hu;obtain⟨n,b,d,k,m⟩:=s;obtain⟨ql,qi,qj,qk,tm⟩:=t;simp only[bE.e,fb]at aS bc⊢;refine bq gN rE se fun aP=>?_;unfold qG;exact cB
theorem amg{x:List ak}(h:x.length≤1000000):bS az 190 [cy x] (cy x):=Ya x h
theorem amr(t:List (List ak))(aL:∀x∈t,x.length≤1000000):bS az 191 [.slice 1 .no (t.map cy)] (.slice 1 .no (t.map cy)):=by
 refine bq gN acM aju fun aP=>?_;unfold QM;have gV:t.length≤68719476736:=by simp[gD,fY,gx,lim]at aP;omega
 clear aP;have c9:=fun x ab=>amg (aL x ab);simp;(with_reducible repeat' first|refine aj ?_|simp);refine iN (fun i (L:List (List ak))=>⟨[(7,.slice 1 .no (t.map cy)),(8,.int .i64 t.length),(3,.slice 1 (.own (.loc 0)) (L.map cy)),(9,.int .i64 i)],[],[(.loc 0,⟨L.length,23,1,none⟩)],1,[]⟩) t.length (fun i L=>L=t.take i) [] b3 (by simp) (fun L ag _=>?_) (fun i L hi ag _=>?_)
 ·rw[nH]at ag;subst ag;exact cB
 ·obtain⟨x,ab,c2⟩:=eZ hi;have p7:=c9 x (fR ab);have aq:L.length≤i:=by rw[ag];simp;omega
  clear c9;simp[hi,c2];(with_reducible repeat' first|refine aj ?_|refine aB p7 ?_|refine aC p7 ?_|simp[c2,hi]);all_goals first|(refine⟨by unfold lim;omega,?_⟩)|skip
  all_goals(with_reducible repeat' first|refine aj ?_|simp)
  all_goals refine bN.rng (L++[x]) hi (by rw[oT ab,ag]) ?_
  all_goals simp
  all_goals exact⟨by simp[fresh,aN,aH,cn,inObs,Pv.look,uS],eM (by simp[fresh,aN,aH,cn,inObs,Pv.look,uS]),eN (by simp[fresh,aN,aH,ej,inObs,Pv.look,uS]),by simp⟩
theorem Yg(s:bE)(ae:s.b.length≤1000000)(aE:∀x∈s.d,x.length≤1000000)(ad:s.k.length≤1000000)(hm:s.m.length≤68719470000):bS az 112 [s.e] s.e:=by
 have aS:=Ya s.b ae;have bc:=amr s.d aE;obtain⟨n,b,d,k,m⟩:=s;simp only[bE.e]at aS bc ad hm⊢;refine bq gN acQ ajy fun aP=>?_;unfold QQ;simp;(with_reducible repeat' first|refine aj ?_|refine aB aS ?_|refine aC aS ?_|refine aB bc ?_|refine aC bc ?_|simp);all_goals first|(refine⟨by unfold lim;omega,?_⟩)|skip
 exact cB
theorem JD{s t:bE}(h:h5 s){x y:T}(ab:x.fit=true)(aD:y.fit=true)(bx:dG s.n x=true)(gh:dG s.n y=true)(he:hv s x y=some t):k2 t:=by unfold hv at he;obtain⟨b,J,U⟩:=h6.1 he;exact(wZ (h.bind ab aD bx gh J) U).1
theorem ak7{s t:bE}(hm:kK s.m)(he:dM s=some t):kK t.m:=by
 obtain⟨G,hf,aR⟩:=hm;refine⟨G,hf,?_⟩;have:=HO he;unfold dM at he;split at he
 ·cases he
 ·split at he
  ·cases he
  ·rename_i m e;split at he
   ·cases he
   ·split at he
    ·have U:=DO aR (fun x ab=>by simp at ab) e;have ao:=e3 he;rw[←ao];exact HZ U
    ·cases he
theorem Z9{s t:bE}(hm:kK s.m){x y:T}(he:hv s x y=some t):kK t.m:=by unfold hv at he;obtain⟨b,J,U⟩:=h6.1 he;exact ak7 (s:={s with b:=b}) hm U
open Classical in
theorem amA{s:bE}(h:k2 s)(hm:kK s.m){x y:T}(ab:x.fit=true)(aD:y.fit=true)(bx:dG s.n x=true)(gh:dG s.n y=true){kd jw:Int}{tag:List cQ}{F:Option bE}{t:bE}{q:Bool}
  (cY:bS az 93 [s.e,.int .i64 kd,x.e,y.e,.int .i64 jw,.str tag] (.tuple [t.e,.bool q])) (ax:q=true→F=some t) (bn:q=false→F=none) (fs:F=some t→k2 t∧kK t.m):bS az 60 [s.e,.int .i64 kd,x.e,y.e,.int .i64 jw,.str tag] (hI F):=by
 have dt:=amJ s.r fun _=>hm;rw[kp ⟨s,rfl,h⟩,Ny]at dt;have aS:=Ij x.tm;have bc:=Ij y.tm;rw[bU.fits_T,ab,pR]at aS;rw[bU.fits_T,aD,pR]at bc;have bT:=Eg s.n x;have dI:=Eg s.n y;rw[bx]at bT;rw[gh]at dI;cases q
 ·rw[bn rfl];clear h hm ab aD bx gh ax bn fs;obtain⟨n,b,d,k,m⟩:=s;obtain⟨ql,qi,qj,qk,tm⟩:=t;simp only[bE.e,hI,fy,jq,ja]at dt bT dI cY⊢;refine bq gN RP VC fun aP=>?_;unfold Ji;exact cB
 ·have ax:=ax rfl;obtain⟨aL,aR⟩:=fs ax;rw[ax];have p5:=Yg t aL.1.b.len (fun z aY=>(aL.1.d z aY).len) (by have:=oN aL.1.k;omega) (aR.len aL.1.m);clear h hm ab aD bx gh ax bn aL fs aR;obtain⟨n,b,d,k,m⟩:=s;obtain⟨ql,qi,qj,qk,tm⟩:=t;simp only[bE.e,hI,jr,nI]at dt bT dI cY p5⊢;refine bq gN RP VC fun aP=>?_;unfold Ji;exact cB
theorem amz{s:bE}(h:k2 s)(hm:kK s.m){x y:T}(ab:x.fit=true)(aD:y.fit=true)(bx:dG s.n x=true)(gh:dG s.n y=true):bS az 60 [s.e,.int .i64 0,x.e,y.e,.int .i64 0,.str []] (hI (hv s x y)):=by have cY:=Yf h.1 hm ab aD bx gh 0 [];obtain⟨t,q,ai,ax,bn⟩:=W7 s x y;rw[ai]at cY;exact amA h hm ab aD bx gh cY ax bn fun e=>⟨JD h.1 ab aD bx gh e,Z9 hm e⟩
theorem amG{s:bE}(h:k2 s)(hm:kK s.m){x y:T}(ab:x.fit=true)(aD:y.fit=true)(bx:dG s.n x=true)(gh:dG s.n y=true):bS az 19 [s.e,x.e,y.e] (hI (hv s x y)):=by have aS:=amz h hm ab aD bx gh;generalize hv s x y=O at aS⊢;obtain⟨n,bV,d,k,m⟩:=s;simp only[hI,bE.e,l0.e]at aS⊢;refine bq gN acd aiX fun aP=>?_;unfold Qf;exact cB
def AP(s:List ak):Option (List ak)→List ak
 |none=>[]
 |some b=>cR s b
open Classical in
noncomputable def vJ(s:List ak):Option (List ak)→Int
 |none=>1
 |some b=>if cR s b=[]then 2 else 0
noncomputable def hd(s:bE)(x y:T):Option bE:=match mgu s.b [(x,y)]with
 |none=>dM s
 |some b=>if cR s.b b=[]then none else dM {s with d:=s.d++[cR s.b b]}
theorem yt{s b:List ak}(af:dn s){E:List (T×T)}(hm:mgu s E=some b):cR s b=[]↔s=b:=by
 constructor
 ·intro h;have J:=tA af.sol af.fits hm;rw[h,show eB []=[]from rfl,Dl af.sol af.fits]at J;exact e3 J
 ·rintro rfl;unfold cR;rw[List.filter_eq_nil_iff];intro c ar;rw[qE af.sol.asc ar];simp
theorem h5.dif{s:bE}(h:h5 s){x y:T}(ab:x.fit=true)(aD:y.fit=true)(bx:dG s.n x=true)(gh:dG s.n y=true){b:List ak}(hm:mgu s.b [(x,y)]=some b):h5 {s with d:=s.d++[cR s.b b]}:=by
 have ae:=h.bind ab aD bx gh hm;refine⟨h.n,h.b,fun z aY=>?_,h.k,h.m,h.bb,fun z aY=>?_,h.kb,h.mb⟩
 ·rcases iH.1 aY with aY|aY
  ·exact h.d z aY
  ·rw[qv.1 aY];exact AQ ae.b
 ·rcases iH.1 aY with aY|aY
  ·exact h.db z aY
  ·rw[qv.1 aY];exact fun c ar=>ae.bb c (ha.1 ar).1
theorem ZP{s t:bE}(h:h5 s){x y:T}(ab:x.fit=true)(aD:y.fit=true)(bx:dG s.n x=true)(gh:dG s.n y=true)(he:hd s x y=some t):k2 t:=by
 unfold hd at he;cases hm:mgu s.b [(x,y)]with
 |none=>rw[hm]at he;exact(wZ h he).1
 |some b=>
  rw[hm]at he;simp only at he;split at he
  ·cases he
  ·exact(wZ (h.dif ab aD bx gh hm) he).1
theorem Xg{s t:bE}(he:dM s=some t):t.d.length≤30:=by
 unfold dM at he;split at he
 ·cases he
 split at he
 ·cases he
 split at he
 ·cases he
 split at he
 ·rename_i h;have:=e3 he;rw[←this];exact h
 ·cases he
open Classical in
noncomputable def jx(s:bE)(t:T)(k:Int):Option bE:=if(k=2∨k=3)∧(t.ap (bF s.b)).size≤5000 then(gS s.k (t.ap (bF s.b)) k).bind fun l=>dM {s with k:=l}else none
open Classical in
noncomputable def jy(s:bE)(t:T)(g:List cQ):Option bE:=if(t.ap (bF s.b)).size≤5000 then(gm s.m (t.ap (bF s.b)) g).bind fun l=>dM {s with m:=l}else none
def yY(m:List bd):Prop:= ∃G:List (List cQ),G.length≤686999∧lx G m
theorem yY.w{m:List bd}(h:yY m):kK m:=by obtain⟨G,J,U⟩:=h;exact⟨G,by omega,U⟩
theorem h5.apb{s:bE}(h:h5 s){t:T}(uj:dG s.n t=true){w:Int}(hw:(t.ap (bF s.b)).occ w=true):w<s.n:=by obtain⟨v,J,U⟩:=yv.1 hw;exact Lp h.b h.bb (xu.1 uj v J) U
theorem h5.apo{s:bE}(h:h5 s){t:T}(aL:t.fit=true):(t.ap (bF s.b)).ok=true:=D2 h.b.ok (T.fit_ok aL)
theorem h5.knd{s:bE}(h:h5 s){t:T}(aL:t.fit=true)(uj:dG s.n t=true){k:Int}(ad:k=2∨k=3){l:List bX}(he:gS s.k (t.ap (bF s.b)) k=some l):h5 {s with k:=l}:=⟨h.n,h.b,h.d,EI h.k (h.apo aL) ad he,h.m,h.bb,h.db,fun x ab=>(EH he x ab).elim (h.kb x) fun e=>h.apb uj (by rw[e];simp[T.occ]),h.mb⟩
theorem h5.mrk{s:bE}(h:h5 s){t:T}(aL:t.fit=true)(uj:dG s.n t=true){g:List cQ}(aR:ib g=true){l:List bd}(he:gm s.m (t.ap (bF s.b)) g=some l):h5 {s with m:=l}:=⟨h.n,h.b,h.d,h.k,EJ h.m (h.apo aL) aR he,h.bb,h.db,h.kb,fun x ab=>((q4 he x).1 ab).elim (h.mb x) fun e=>h.apb uj e.2⟩
theorem yY.mrk{m l:List bd}(h:yY m){t:T}{g:List cQ}(he:gm m t g=some l):kK l:=by obtain⟨G,J,U⟩:=h;exact⟨g::G,by simp only[oa];omega,BR (fun x ab=>lA _ (U x ab)) (by simp) he⟩
theorem agT{s u:bE}(h:h5 s){t:T}(aL:t.fit=true)(uj:dG s.n t=true){k:Int}(he:jx s t k=some u):k2 u:=by
 unfold jx at he;split at he
 ·rename_i g;obtain⟨l,J,U⟩:=h6.1 he;exact(wZ (h.knd aL uj g.1 J) U).1
 ·cases he
theorem ahC{s u:bE}(h:h5 s){t:T}(aL:t.fit=true)(uj:dG s.n t=true){g:List cQ}(aR:ib g=true)(he:jy s t g=some u):k2 u:=by
 unfold jy at he;split at he
 ·obtain⟨l,J,U⟩:=h6.1 he;exact(wZ (h.mrk aL uj aR J) U).1
 ·cases he
structure ak5 (s:bE):Prop where
 k:eT s.b s.k []=some s.k
 m:eK s.b s.m []=some s.m
 f:s.m.filter (ek s.k)=s.m
 l:dm s.b s.k s.m s.d=some s.d
 st:∀d∈s.d,yU s.b s.k s.m d
 n:fV s.d=s.d
 c:s.d.length≤30
theorem k2.self{s:bE}(h:k2 s):ak5 s:=by
 have ar:=Xg h.2;have J:=h.2;unfold dM at J;split at J
 ·cases J
 rename_i k ad;split at J
 ·cases J
 rename_i m hm;split at J
 ·cases J
 rename_i L hg;split at J;rotate_left
 ·cases J
 have J:=e3 J;have mz:k=s.k:=eU bE.k J;have KE:m.filter (ek k)=s.m:=eU bE.m J;have ln:fV L=s.d:=eU bE.d J;subst mz;have m1:=DN h.1.b h.1.m.at' ⟨by simp,by simp[gR]⟩ hm;have ax:eK s.b (m.filter (ek s.k)) []=some (m.filter (ek s.k)):=Ht (acc:=[]) (vv _ m1.asc) fun x ab=>Bf h.1.b.sol (by simp) hm x (ha.1 ab).1;rw[KE]at ax hg;have FW:m=s.m:=by rw[hm]at ax;exact e3 ax
 rw[FW]at KE;have c8:=Db h.1.b hg;have af:∀d∈s.d,yU s.b s.k s.m d:=fun d aE=>c8 d (nr.1 (by rw[ln];exact aE)).1;exact⟨ad,ax,KE,LA af,af,by rw[←ln,U5],ar⟩
theorem ym{b:List ak}{k:List bX}{m:List bd}:∀{l L:List (List ak)},dm b k m l=some L→L.length≤l.length
 |[],L,h=>by simp only[dm,dw]at h;rw[←h];simp
 |d::l,L,h=>by
  simp only[dm]at h;split at h
  ·have:=ym h;simp only[oa];omega
  ·split at h
   ·have:=ym h;simp only[oa];omega
   ·split at h
    ·cases h
    ·rw[gr]at h;obtain⟨sE,J,rfl⟩:=h;have:=ym J;simp only[oa];omega
theorem AD{b:List ak}{k:List bX}{m:List bd}{d:List ak}{r:Option (List (List ak))}(aE:dm b k m [d]=r):∀{l L:List (List ak)},dm b k m l=some L→dm b k m (l++[d])=r.map (L++ ·)
 |[],L,h=>by simp only[dm,dw]at h;rw[←h,bY,aE];simp
 |e::l,L,h=>by
  simp only[bR];unfold dm at h⊢;split at h
  ·exact AD aE h
  ·split at h
   ·rename_i ad;rw[if_pos ad];exact AD aE h
   ·rename_i ad;rw[if_neg ad];split at h
    ·cases h
    ·rename_i au;rw[if_neg au];rw[gr]at h;obtain⟨sE,J,rfl⟩:=h;rw[AD aE J,Option.map_map];rfl
theorem ahB{b x y d:List ak}{E:List (T×T)}(ae:dn b)(ab:mgu b E=some x)(aE:mgu b (eB d)=some y)(aD:cR b y=d)(af:∀θ,dD x θ→iz (eB d) θ):hS d (cR b x)=true:=by
 have hj:=(q5 ae.sol ae.fits ab).1;have ir:=(q5 ae.sol ae.fits aE).1;have ZS:∀{v},cV x v=none→cV b v=none:=fun h=>Dn ae.sol hj (fun θ fF=>((kl ae.sol ae.fits ab θ).1 fF).1) h;have ZT:∀{v},cV y v=none→cV b v=none:=fun h=>Dn ae.sol ir (fun θ fF=>((kl ae.sol ae.fits aE θ).1 fF).1) h;have TL:hL (cR b x):=vv _ hj.asc;generalize hw:cR b x=w at TL⊢;have TO:∀c∈w,c∈x∧cV b c.v=none:=fun c ar=>by rw[←hw]at ar;have:=ha.1 ar;exact⟨this.1,by simpa using this.2⟩
 let θ:Int→T:=fun v=>(bF b v).ap (bF w)
 have qQ:∀{v},cV b v=none→θ v=bF w v:=fun{v} h=>by
  show(bF b v).ap (bF w)=bF w v;have:bF b v= .var v:=by unfold bF;rw[h];rfl
  rw[this];rfl
 have J:dD b θ:=fun c ar=>by
  have ai:bF b c.v=c.t:=by unfold bF;rw[qE ae.sol.asc ar];rfl
  have ax:c.t=c.t.ap (bF b):=by have:=vn ae.sol c ar;rw[ai]at this;exact this
  show(bF b c.v).ap (bF w)=c.t.ap fun v=>(bF b v).ap (bF w);rw[ai,←xq,←ax]
 have U:iz (eB w) θ:=fun e he=>by
  obtain⟨c,ar,rfl⟩:=hJ.1 he;obtain⟨kU,SN⟩:=TO c ar;have ai:bF w c.v=c.t:=by unfold bF;rw[qE TL ar];rfl
  show θ c.v=c.t.ap θ;rw[qQ SN,ai];have ax:c.t.ap θ=c.t.ap T.var:=pP fun u hu=>by have oH:=hj.free c kU u hu;rw[qQ (ZS oH)];have:cV w u=none:=sL.2 fun z aY=>sL.1 oH z (TO z aY).1;unfold bF;rw[this];rfl
  rw[ax,OI]
 have ao:dD x θ:=(kl ae.sol ae.fits (by rw[←hw];exact tA ae.sol ae.fits ab) θ).2 ⟨J,U⟩;have a1:=af θ ao;rw[hS,ig];intro c ar;have SU:=ar;rw[←aD]at SU;obtain⟨bQ,cp⟩:=ha.1 SU;have cp:cV b c.v=none:=by simpa using cp
 have b2:θ c.v=c.t.ap θ:=a1 (.var c.v,c.t) (hJ.2 ⟨c,ar,rfl⟩);rw[qQ cp]at b2;rw[qc,fo,b2];exact pP fun u hu=>qQ (ZT (ir.free c bQ u hu))
def afo(v:List ak)(b:ak):Bool:=decide ((b.t.ap (bF v)).size≤5000)&& !decide (bF v b.v=b.t.ap (bF v))
def ZO(v:List ak)(d:List ak):Bool:=d.any (afo v)
def ahO(v:List ak)(b:ak):Bool:=decide ((b.t.ap (bF v)).size≤5000)&&decide (b.t.ap (bF v)=bF v b.v)
structure alu (s:bE) (v:List ak):Prop where
 b:s.b.all (ahO v)=true
 d:s.d.all (ZO v)=true
 k:s.k.all (fun k=>decide ((bF v k.v).kind=k.k))=true
 m:s.m.all (fun m=> !(bF v m.v).has m.s)=true
theorem AJ{s:List ak}(af:ey s)(aO:gu s)(E mm:List (T×T)):mgu s (E++mm)=(mgu s E).bind fun s1=>mgu s1 mm:=by
 have J:=tB af aO E;cases h:mgu s E with
 |none=>rw[h]at J;exact nU (EG mm J)
 |some s1=>rw[h]at J;exact nU (ID J (tB J.1.1 J.1.2 mm))
def tx:T→Nat
 | .pair a b=>tx a+tx b
 |_=>1
theorem OG{θ:Int→T}{t:T}(h:t.kind≠1):(t.ap θ).kind=t.kind:=by cases t<;>simp_all[T.ap,T.kind]
def mQ(θ:Int→T)(l:List bX):Prop:= ∀k∈l,(θ k.v).kind=k.k
def mR(θ:Int→T)(l:List bd):Prop:= ∀m∈l,(θ m.v).has m.s=false
theorem Y5{θ:Int→T}{acc a:List bX}{t:T}{k:Int}(he:gS acc t k=some a):mQ θ a↔mQ θ acc∧(t.ap θ).kind=k:=by
 unfold gS at he;split at he
 ·rename_i n;split at he
  ·rename_i k' ad;split at he
   ·rename_i e;cases he;subst e;exact⟨fun h=>⟨h,h _ (Aw ad)⟩,fun h=>h.1⟩
   ·cases he
  ·cases he;constructor
   ·exact fun h=>⟨fun x ab=>h x (wG.2 (.inr ab)),h ⟨n,k⟩ (wG.2 (.inl rfl))⟩
   ·rintro⟨J,U⟩ x ab;rcases wG.1 ab with rfl|ab
    ·exact U
    ·exact J x ab
 ·rename_i aL;split at he
  ·rename_i e;cases he;refine⟨fun h=>⟨h,?_⟩,fun h=>h.1⟩;rw[OG fun J=>?_,e];cases t<;>simp_all[T.kind]
  ·cases he
theorem Y4{θ:Int→T}{acc:List bX}{t:T}{k:Int}(he:gS acc t k=none):¬(mQ θ acc∧(t.ap θ).kind=k):=by
 rintro⟨J,U⟩;unfold gS at he;split at he
 ·split at he
  ·rename_i k' ad;split at he
   ·cases he
   ·rename_i e;exact e ((J _ (Aw ad)).symm.trans U)
  ·cases he
 ·rename_i aL;split at he
  ·cases he
  ·rename_i e;rw[OG fun J=>by cases t<;>simp_all[T.kind]]at U;exact e U
theorem HP{b:List ak}{θ:Int→T}(bk:hL b)(h:dD b θ)(v:Int):(bF b v).ap θ=θ v:=((Xl bk).1 h v).symm
theorem Hs{b:List ak}{θ:Int→T}(bk:hL b)(h:dD b θ):∀{l acc:List bX},match eT b l acc with|some a=>mQ θ a↔mQ θ acc∧mQ θ l|none=> ¬(mQ θ acc∧mQ θ l)
 |[],acc=>by simp[eT,mQ]
 |x::l,acc=>by
  simp only[eT];have ab:mQ θ (x::l)↔(θ x.v).kind=x.k∧mQ θ l:=by simp[mQ]
  rw[←HP bk h x.v]at ab;cases e:gS acc (bF b x.v) x.k with
  |none=>simp only;rw[ab];exact fun h=>Y4 e ⟨h.1,h.2.1⟩
  |some a=>
   have J:=Y5 (θ:=θ) e;have U:=Hs bk h (l:=l) (acc:=a);simp only;rw[ab];split
   ·rename_i q eq;rw[eq]at U;simp only at U;rw[U,J,and_assoc]
   ·rename_i eq;rw[eq]at U;simp only at U;rw[J,and_assoc]at U;exact U
theorem FH{θ:Int→T}{s:List cQ}:∀{t:T},(t.ap θ).has s=false↔t.has s=false∧∀u,t.occ u=true→(θ u).has s=false
 | .var n=>by simp[T.ap,T.has,T.occ]
 | .pair a b=>by simp only[T.ap,T.has,T.occ,Bool.or_eq_false_iff,lY,FH (t:=a),FH (t:=b)];exact⟨fun h=>⟨⟨h.1.1,h.2.1⟩,fun u hu=>hu.elim (h.1.2 u) (h.2.2 u)⟩,fun h=>⟨⟨h.1.1,fun u hu=>h.2 u (.inl hu)⟩,⟨h.1.2,fun u hu=>h.2 u (.inr hu)⟩⟩⟩
 | .nil=>by simp[T.ap,T.has,T.occ]
 | .sym _=>by simp[T.ap,T.occ]
 | .num _=>by simp[T.ap,T.has,T.occ]
theorem Y8{θ:Int→T}{acc a:List bd}{t:T}{s:List cQ}(he:gm acc t s=some a):mR θ a↔mR θ acc∧(t.ap θ).has s=false:=by
 have hm:=q4 he;have aL:t.has s=false:=by
  unfold gm at he;split at he
  ·cases he
  ·rename_i h;simpa using h
 rw[FH];constructor
 ·intro h;exact⟨fun x ab=>h x ((hm x).2 (.inl ab)),aL,fun u hu=>h ⟨u,s⟩ ((hm _).2 (.inr ⟨rfl,hu⟩))⟩
 ·rintro⟨J,_,U⟩ x ab;rcases(hm x).1 ab with ao|⟨ao,a1⟩
  ·exact J x ao
  ·rw[ao];exact U _ a1
theorem Y7{θ:Int→T}{acc:List bd}{t:T}{s:List cQ}(he:gm acc t s=none):¬(t.ap θ).has s=false:=by
 rw[FH];unfold gm at he;split at he
 ·rename_i h;rw[h];simp
 ·cases he
theorem Hu{b:List ak}{θ:Int→T}(bk:hL b)(h:dD b θ):∀{l acc:List bd},match eK b l acc with|some a=>mR θ a↔mR θ acc∧mR θ l|none=> ¬(mR θ acc∧mR θ l)
 |[],acc=>by simp[eK,mR]
 |x::l,acc=>by
  simp only[eK];have ab:mR θ (x::l)↔(θ x.v).has x.s=false∧mR θ l:=by simp[mR]
  rw[←HP bk h x.v]at ab;cases e:gm acc (bF b x.v) x.s with
  |none=>simp only;rw[ab];exact fun h=>Y7 e h.2.1
  |some a=>
   have J:=Y8 (θ:=θ) e;have U:=Hu bk h (l:=l) (acc:=a);simp only;rw[ab];split
   ·rename_i q eq;rw[eq]at U;simp only at U;rw[U,J,and_assoc]
   ·rename_i eq;rw[eq]at U;simp only at U;rw[J,and_assoc]at U;exact U
theorem qf{d e:List ak}(he:ey e):hS d e=true↔∀θ,dD e θ→dD d θ:=by
 constructor
 ·intro h θ fF c ar;have J:=of_decide_eq_true (ig.1 h c ar);rw[←HP he.asc fF c.v,J,xq];exact pP fun u _=>HP he.asc fF u
 ·intro h;rw[hS,ig];intro c ar;rw[qc,fo];exact h (bF e) (vn he) c ar
theorem ac2{α:Type}{V:List α}(iP:V.Nodup){p q:α→Bool}(jV:∀w,p w=true→q w=true){u:α}(hu:u∈V)(bu:q u=true)(bB:p u=false):(V.filter p).length+1≤(V.filter q).length:=by
 have J:(u::V.filter p).Nodup:=List.nodup_cons.2 ⟨fun h=>(by rw[(ha.1 h).2]at bB;cases bB),iP.filter p⟩;refine Iq J fun w hw=>?_;rcases fA.1 hw with rfl|hw
 ·exact ha.2 ⟨hu,bu⟩
 ·exact ha.2 ⟨(ha.1 hw).1,jV w (ha.1 hw).2⟩
theorem GO{L:List (List ak)}(af:∀d∈L,ey d):∀(n:Nat) (e:List ak),e∈L→((asc en L).filter fun d=>hS d e&& !decide (d=e)).length=n→∃d∈fV L,hS d e=true:=fun n=>by
 induction n using qw with
 |ind n bP=>
  intro e he au;by_cases ad:ie L e=true
  ·exact⟨e,nr.2 ⟨he,ad⟩,(qf (af e he)).2 fun _ h=>h⟩
  obtain⟨d,aE,J⟩:∃d∈L,(decide (d=e)|| !hS d e)=false:=by simpa[ie]using ad
  rw[Bool.or_eq_false_iff]at J;have cD:d≠e:=of_decide_eq_false J.1;have aR:hS d e=true:=by simpa using J.2
  have uC:=(qf (af e he)).1 aR;have bm:=ac2 (V:=asc en L) ((BU kH L).nodup kH) (p:=fun z=>hS z d&& !decide (z=d)) (q:=fun z=>hS z e&& !decide (z=e)) (u:=d) (fun z aY=>by simp only[cx,rk,hK]at aY⊢;have Am:=(qf (af d aE)).1 aY.1;refine⟨(qf (af e he)).2 fun θ h=>Am θ (uC θ h),fun af4=>cD ?_⟩;subst af4;exact HW (af d aE) (af z he) fun θ=>⟨Am θ,uC θ⟩) ((LO _ _).2 aE) (by simp[aR,cD]) (by simp)
  obtain⟨z,aY,Am⟩:=bP _ (by omega) d aE rfl;have La:=(nr.1 aY).1;exact⟨z,aY,(qf (af e he)).2 fun θ h=>(qf (af d aE)).1 Am θ (uC θ h)⟩
theorem UR{θ:Int→T}{k:List bX}{m:List bd}(ad:mQ θ k):mR θ (m.filter (ek k))↔mR θ m:=by
 constructor
 ·intro h x ab;by_cases aO:ek k x=true
  ·exact h x (ha.2 ⟨ab,aO⟩)
  ·have ao:ki k x.v=some 3:=by simpa[ek]using aO
   have a1:=ad _ (Aw ao);simp only at a1;cases e:θ x.v<;>simp_all[T.kind,T.has]
 ·exact fun h x ab=>h x (ha.1 ab).1
theorem w2:ey []:=⟨by simp,by simp,by simp⟩
theorem vN:gu []:=by simp[gu]
def wL:T→Bool
 | .sym s=>s.head? !=some 119
 | .pair a b=>wL a&&wL b
 |_=>true
structure eqP (V:List Int) (L:Nat) (e:T×T):Prop where
 l:tx e.1≤L∧tx e.2≤L
 v:∀v,(e.1.occ v=true∨e.2.occ v=true)→v∈V
 w:wL e.1=true∧wL e.2=true
structure qg (V:List Int) (L:Nat) (E:List (T×T)) (s:bE):Prop where
 e:∀e∈E,eqP V L e
 b:mgu [] E=some s.b
 d:∀d∈s.d,∃e x,eqP V L e∧mgu [] (E++[e])=some x∧d=cR s.b x
theorem UC{b:List ak}{k:List bX}{m:List bd}:∀{l L:List (List ak)},dm b k m l=some L→∀w∈L,∃d∈l,∃z,mgu b (eB d)=some z∧w=cR b z
 |[],L,h=>by simp only[dm,dw]at h;rw[←h];simp
 |d::l,L,h=>by
  have go:∀{L},dm b k m l=some L→∀w∈L,∃e∈d::l,∃z,mgu b (eB e)=some z∧w=cR b z:=fun h w hw=>by obtain⟨e,J,U⟩:=UC h w hw;exact⟨e,lA _ J,U⟩
  simp only[dm]at h;split at h
  ·exact go h
  ·rename_i x ab;split at h
   ·exact go h
   ·split at h
    ·cases h
    ·rw[gr]at h;obtain⟨sE,J,rfl⟩:=h;intro w hw;rcases fA.1 hw with rfl|hw
     ·exact⟨d,by simp,x,ab,rfl⟩
     ·exact go J w hw
theorem yR{s t:bE}(he:dM s=some t):t.b=s.b∧∀w∈t.d,∃d∈s.d,∃z,mgu s.b (eB d)=some z∧w=cR s.b z:=by
 unfold dM at he;split at he
 ·cases he
 split at he
 ·cases he
 split at he
 ·cases he
 rename_i L hg;split at he
 ·cases he;exact⟨rfl,fun w hw=>UC hg w (nr.1 hw).1⟩
 ·cases he
theorem DF{V:List Int}{L:Nat}{E mm:List (T×T)}{s t:bE}{rv:List ak}(ad7:∀e∈mm,eqP V L e)(rM:mgu [] E=some rv)(ae:mgu [] mm=some s.b)(jW:∀θ,dD s.b θ→dD rv θ)(aE:∀d∈s.d,∃e x,eqP V L e∧mgu [] (E++[e])=some x∧d=cR rv x)(he:dM s=some t):qg V L mm t:=by obtain⟨ai,ax⟩:=yR he;obtain⟨s0,f0⟩:=q5 w2 vN rM;obtain⟨s1,f1⟩:=q5 w2 vN ae;refine⟨ad7,by rw[ai];exact ae,fun w hw=>?_⟩;obtain⟨d,fm,z,aY,rfl⟩:=ax w hw;obtain⟨e,x,vX,ab,rfl⟩:=aE d fm;refine⟨e,z,vX,?_,by rw[ai]⟩;rw[AJ w2 vN,rM,e6]at ab;rw[AJ w2 vN,ae,e6,←aY];refine nU (vA (fun θ=>and_congr_right fun J=>?_) (tB s1 f1 (eB (cR rv x))));have aV:=kl s0 f0 ab θ;have bf:=kl s0 f0 (tA s0 f0 ab) θ;have bD:=jW θ J;exact⟨fun h=>(aV.1 (bf.2 ⟨bD,h⟩)).2,fun h=>(bf.1 (aV.2 ⟨bD,h⟩)).2⟩
theorem ajP(V:List Int)(L:Nat)(n:Int):qg V L [] ⟨n,[],[],[],[]⟩:=⟨by simp,Dl w2 vN,by simp⟩
theorem ajQ{V:List Int}{L:Nat}{E:List (T×T)}{s t:bE}(h:qg V L E s){x y:T}(ab:eqP V L (x,y))(he:hv s x y=some t):qg V L (E++[(x,y)]) t:=by
 unfold hv at he;obtain⟨b,J,U⟩:=h6.1 he;obtain⟨s0,f0⟩:=q5 w2 vN h.b;refine DF (s:={s with b:=b}) (fun e he=>?_) h.b ?_ (fun θ fF=>((kl s0 f0 J θ).1 fF).1) h.d U
 ·rcases iH.1 he with he|he
  ·exact h.e e he
  ·rw[qv.1 he];exact ab
 ·rw[AJ w2 vN,h.b,e6];exact J
theorem ajO{V:List Int}{L:Nat}{E:List (T×T)}{s t:bE}(h:qg V L E s){x y:T}(ab:eqP V L (x,y))(he:hd s x y=some t):qg V L E t:=by
 unfold hd at he;cases hu:mgu s.b [(x,y)]with
 |none=>rw[hu]at he;exact DF h.e h.b h.b (fun _ h=>h) h.d he
 |some b=>
  rw[hu]at he;simp only at he;split at he
  ·cases he
  ·refine DF (s:={s with d:=s.d++[cR s.b b]}) h.e h.b h.b (fun _ h=>h) (fun d aE=>?_) he;rcases iH.1 aE with aE|aE
   ·exact h.d d aE
   ·exact⟨(x,y),b,ab,by rw[AJ w2 vN,h.b,e6];exact hu,qv.1 aE⟩
theorem ajR{V:List Int}{L:Nat}{E:List (T×T)}{s t:bE}(h:qg V L E s){x:T}{k:Int}(he:jx s x k=some t):qg V L E t:=by
 unfold jx at he;split at he
 ·obtain⟨l,J,U⟩:=h6.1 he;exact DF (s:={s with k:=l}) h.e h.b h.b (fun _ h=>h) h.d U
 ·cases he
theorem ajS{V:List Int}{L:Nat}{E:List (T×T)}{s t:bE}(h:qg V L E s){x:T}{g:List cQ}(he:jy s x g=some t):qg V L E t:=by
 unfold jy at he;split at he
 ·obtain⟨l,J,U⟩:=h6.1 he;exact DF (s:={s with m:=l}) h.e h.b h.b (fun _ h=>h) h.d U
 ·cases he
structure sS (n:Int) (s:bE):Prop where
 ok:k2 s
 n:s.n=n
 t:lx [[97],[98]] s.m
theorem sS.tg{n:Int}{s:bE}(h:sS n s):yY s.m:=⟨_,by simp,h.t⟩
theorem D1{G:List (List cQ)}{s t:bE}(hm:lx G s.m)(he:dM s=some t):lx G t.m:=by
 unfold dM at he;split at he
 ·cases he
 ·split at he
  ·cases he
  ·rename_i m e;split at he
   ·cases he
   ·split at he
    ·have U:=DO hm (fun x ab=>by simp at ab) e;have ao:=e3 he;rw[←ao];exact HZ U
    ·cases he
theorem D0{s t:bE}(h:h5 s)(he:dM s=some t):t.n=s.n:=(wZ h he).2.1
noncomputable def oi(s:bE)(kd:Int)(x y:T)(k:Int)(g:List cQ):Option bE:=if kd=0 then hv s x y else if kd=1 then hd s x y else if kd=2 then jx s x k else jy s x g
theorem BS{n:Int}{s t:bE}(h:sS n s){kd:Int}{x y:T}{k:Int}{g:List cQ}(ab:x.fit=true)(aD:y.fit=true)(bx:dG n x=true)(gh:dG n y=true)(aR:g∈([[97],[98]]:List (List cQ)))(he:oi s kd x y k g=some t):sS n t:=by
 obtain⟨J,U,ao⟩:=h;subst U;have S4:ib g=true:=by simp only[fA,List.mem_nil_iff,or_false]at aR;rcases aR with rfl|rfl<;>decide
 unfold oi at he;split at he
 ·refine⟨JD J.1 ab aD bx gh he,?_,?_⟩
  ·unfold hv at he;obtain⟨b,ai,ax⟩:=h6.1 he;exact D0 (s:={s with b:=b}) (J.1.bind ab aD bx gh ai) ax
  ·unfold hv at he;obtain⟨b,ai,ax⟩:=h6.1 he;exact D1 (s:={s with b:=b}) ao ax
 split at he
 ·refine⟨ZP J.1 ab aD bx gh he,?_,?_⟩;all_goals unfold hd at he
  all_goals
   cases hm:mgu s.b [(x,y)]with
   |none=>
    rw[hm]at he
    first|exact D0 J.1 he|exact D1 ao he
   |some b=>
    rw[hm]at he
    simp only at he
    split at he
    ·cases he
    ·first|exact D0 (s:={s with d:=s.d++[cR s.b b]}) (J.1.dif ab aD bx gh hm) he|exact D1 (s:={s with d:=s.d++[cR s.b b]}) ao he
 split at he
 ·refine⟨agT J.1 ab bx he,?_,?_⟩;all_goals unfold jx at he
  all_goals split at he
  any_goals (cases he;done)
  all_goals rename_i g0
  all_goals obtain⟨l,ai,ax⟩:=h6.1 he
  ·exact D0 (s:={s with k:=l}) (J.1.knd ab bx g0.1 ai) ax
  ·exact D1 (s:={s with k:=l}) ao ax
 ·refine⟨ahC J.1 ab bx S4 he,?_,?_⟩;all_goals unfold jy at he
  all_goals split at he
  any_goals (cases he;done)
  all_goals obtain⟨l,ai,ax⟩:=h6.1 he
  ·exact D0 (s:={s with m:=l}) (J.1.mrk ab bx S4 ai) ax
  ·exact D1 (s:={s with m:=l}) (BR ao aR ai) ax
theorem Z5{n:Int}(bD:0≤n)(J:n≤100000):k2 ⟨n,[],[],[],[]⟩:=by
 refine⟨⟨⟨bD,J⟩,⟨by simp[pC],⟨by simp,by simp,by simp⟩,by simp[gu]⟩,by simp,⟨by simp,by simp⟩,⟨by simp,by simp[gR]⟩,by simp[o5],by simp,by simp,by simp⟩,?_⟩;have:fV []=[]:=List.eq_nil_iff_forall_not_mem.2 fun x ab=>by simp[nr]at ab
 simp[dM,eT,eK,dm,this]
def Gi(n:Nat):List Int:=(List.range n).map Int.ofNat
def w7(i:Int):List cQ:=if i=0 then [97]else [98]
theorem alJ(i:Int):w7 i∈([[97],[98]]:List (List cQ)):=by unfold w7;split<;>simp
noncomputable def yV(n:Int)(s:bE)(c:dJ):bE×dJ:=
 ((oi s ((dW 3 n c).2.below 4) (dW 3 n c).1 (dW 5 n ((dW 3 n c).2.belowC 4)).1 (2+(dW 5 n ((dW 3 n c).2.belowC 4)).2.below 2) (w7 (((dW 5 n ((dW 3 n c).2.belowC 4)).2.belowC 2).below 2))).getD s,
  ((dW 5 n ((dW 3 n c).2.belowC 4)).2.belowC 2).belowC 2)
noncomputable def o9(n:Int):Nat→bE→dJ→bE×dJ
 |0,s,c=>(s,c)
 |k+1,s,c=>o9 n k (yV n s c).1 (yV n s c).2
theorem OO(k:Int):tx (rs k)=1:=by
 unfold rs;split
 ·rfl
 ·split<;>rfl
theorem ZV(vars:Int){n:Nat}(au:n≤2)(c:dJ):tx (dW n vars c).1=1:=by
 rw[dW,if_neg (by omega)];split
 ·rfl
 ·exact OO _
theorem ZW(vars:Int){n:Nat}(au:n≤5)(c:dJ):tx (dW n vars c).1≤2:=by
 rw[dW];split
 ·simp only[tx,ZV vars (show n/2≤2 by omega)];omega
 ·split
  ·simp[tx]
  ·rw[OO];omega
structure vK (n:Int) (t:T):Prop where
 f:t.fit=true
 b:dG n t=true
 l:tx t≤2
 o:∀v,t.occ v=true→0≤v∧v<n
 w:wL t=true
theorem Zu(k:Int):wL (rs k)=true:=by
 unfold rs;split
 ·rfl
 ·split
  ·generalize (k-2).toNat=j;rcases j with _|_|_|j<;>rfl
  ·rfl
theorem ZX(vars:Int)(n:Nat):∀c:dJ,wL (dW n vars c).1=true:=by
 induction n using qw with
 |ind n bP=>
  intro c;rw[dW];split
  ·simp only[wL,cx];exact⟨bP _ (by omega) _,bP _ (by omega) _⟩
  ·split
   ·rfl
   ·exact Zu _
theorem vL{n:Int}(au:n≤100001){z:Nat}(aY:z≤5)(c:dJ):vK n (dW z n c).1:=by obtain⟨J,U,ao⟩:=ZU n au z c;refine⟨by simp only[T.fit,cx,fo];exact⟨J,by split at ao<;>omega⟩,xu.2 fun v aI=>(U v aI).2,ZW n aY c,U,ZX n z c⟩
theorem ahd{n:Nat}{v:Int}:v∈Gi n↔0≤v∧v<n:=by
 simp only[Gi,hJ,List.mem_range];constructor
 ·rintro⟨a,h,rfl⟩;exact⟨rn a,by simpa using h⟩
 ·intro h;exact⟨v.toNat,by omega,by simp;omega⟩
structure oq (n:Nat) (K:Nat) (S:bE):Prop where
 s:sS n S
 k:S.d.length≤K
 p:∃E,qg (Gi n) 2 E S
theorem DZ{s t:bE}(he:dM s=some t):t.d.length≤s.d.length:=by
 unfold dM at he;split at he
 ·cases he
 split at he
 ·cases he
 split at he
 ·cases he
 rename_i L hg;split at he
 ·have:=ym hg;have:=Dm L;rw[←e3 he];simp only at*;omega
 ·cases he
theorem Zd{s t:bE}{kd:Int}{x y:T}{k:Int}{g:List cQ}(he:oi s kd x y k g=some t):t.d.length≤s.d.length+1:=by
 unfold oi at he;split at he
 ·unfold hv at he;obtain⟨b,ai,ax⟩:=h6.1 he;have:=DZ ax;simp only at this;omega
 split at he
 ·unfold hd at he;split at he
  ·have:=DZ he;omega
  ·split at he
   ·cases he
   ·have:=DZ he;simp only[pJ,List.length_singleton]at this;omega
 split at he
 ·unfold jx at he;split at he
  ·obtain⟨b,ai,ax⟩:=h6.1 he;have:=DZ ax;simp only at this;omega
  ·cases he
 ·unfold jy at he;split at he
  ·obtain⟨b,ai,ax⟩:=h6.1 he;have:=DZ ax;simp only at this;omega
  ·cases he
theorem Ze{V:List Int}{L:Nat}{E:List (T×T)}{s t:bE}(h:qg V L E s){kd:Int}{x y:T}{k:Int}{g:List cQ}(ab:eqP V L (x,y))(he:oi s kd x y k g=some t):∃mm,qg V L mm t:=by
 unfold oi at he;split at he
 ·exact⟨_,ajQ h ab he⟩
 split at he
 ·exact⟨_,ajO h ab he⟩
 split at he
 ·exact⟨_,ajR h he⟩
 ·exact⟨_,ajS h he⟩
theorem vK.eqP{n:Nat}{x y:T}(ab:vK n x)(aD:vK n y):eqP (Gi n) 2 (x,y):=⟨⟨ab.l,aD.l⟩,fun v aI=>ahd.2 (aI.elim (ab.o v) (aD.o v)),ab.w,aD.w⟩
theorem oq.add{n k:Nat}{s t:bE}(h:oq n k s){kd:Int}{x y:T}{jw:Int}{g:List cQ}(ab:vK n x)(aD:vK n y)(aR:g∈([[97],[98]]:List (List cQ)))(he:oi s kd x y jw g=some t):oq n (k+1) t:=by obtain⟨E,dk⟩:=h.p;exact⟨BS h.s ab.f aD.f ab.b aD.b aR he,by have:=Zd he;have:=h.k;omega,Ze dk (ab.eqP aD) he⟩
theorem oq.more{n k:Nat}{s:bE}(h:oq n k s):oq n (k+1) s:=⟨h.s,by have:=h.k;omega,h.p⟩
theorem aly{n:Nat}(au:n≤100000){k:Nat}{s:bE}(h:oq n k s)(c:dJ):oq n (k+1) (yV n s c).1:=by
 unfold yV;simp only;generalize he:oi _ _ _ _ _ _=o;cases o with
 |none=>exact h.more
 |some t=>exact h.add (vL (by omega) (by omega) _) (vL (by omega) (by omega) _) (alJ _) he
theorem alz(n:Int){s:bE}{c:dJ}(h:c.ok):(yV n s c).2.ok:=(((B3 5 n _ ((B3 3 n c h).below 4)).below 2).below 2)
theorem Js{n:Nat}(au:n≤100000):∀(j:Nat) {k:Nat} {s:bE} (_:oq n k s) (c:dJ),oq n (k+j) (o9 n j s c).1
 |0,k,s,h,c=>h
 |j+1,k,s,h,c=>by rw[show k+(j+1)=(k+1)+j by omega];exact Js au j (aly au h c) _
theorem Rg(n:Nat)(au:n≤100000):oq n 0 ⟨n,[],[],[],[]⟩:=⟨⟨Z5 (by omega) (by omega),rfl,by simp[lx]⟩,by simp,[],ajP _ _ _⟩
theorem oq.le{n k k':Nat}{s:bE}(h:oq n k s)(ad:k≤k'):oq n k' s:=⟨h.s,by have:=h.k;omega,h.p⟩
noncomputable def Dh(d:List Int)(p:Nat)(n:Nat):bE:=(o9 n ((jF d p).below 6).toNat ⟨n,[],[],[],[]⟩ ((jF d p).belowC 6)).1
theorem ag8(d:List Int)(p:Nat){n:Nat}(au:n≤100000):oq n 5 (Dh d p n):=by have:=(jF d p).below_le 6 (by omega);have h:=Js au ((jF d p).below 6).toNat (Rg n au) ((jF d p).belowC 6);exact h.le (by omega)
theorem HF(s:bE):∃t:bE,∃q:Bool,nY s= .tuple [t.e,.bool q]∧(q=true→dM s=some t)∧(q=false→dM s=none):=by
 refine⟨_,_,rfl,(fun h=>?_),fun h=>?_⟩
 ·obtain⟨t,aL⟩:=fB.1 h;rw[HO aL];exact aL
 ·cases e:dM s with
  |none=>rfl
  |some t=>rw[e]at h;cases h
open Classical in
noncomputable def HD(s:bE)(x y:T):ah:=match mgu s.b [(x,y)]with
 |none=>nY s
 |some b=>if cR s.b b=[]then .tuple [fy.e,.bool false]else nY {s with d:=s.d++[cR s.b b]}
theorem akK(s:bE)(x y:T):∃t:bE,∃q:Bool,HD s x y= .tuple [t.e,.bool q]∧(q=true→hd s x y=some t)∧(q=false→hd s x y=none):=by
 unfold HD hd;cases mgu s.b [(x,y)]with
 |none=>exact HF s
 |some b=>
  by_cases h:cR s.b b=[]
  ·simp only[if_pos h];exact⟨fy,false,rfl,(fun h=>by cases h),fun _=>trivial⟩
  ·simp only[if_neg h];exact HF _
theorem amu{s:bE}(h:h5 s)(aE:s.d.length≤30)(hm:kK s.m){x y:T}(ab:x.fit=true)(aD:y.fit=true)(bx:dG s.n x=true)(gh:dG s.n y=true)(jw:Int)(tag:List cQ):bS az 93 [s.e,.int .i64 1,x.e,y.e,.int .i64 jw,.str tag] (HD s x y):=by
 have aS:=NU s.b x y h.b.sol h.b.fits;obtain⟨G,hf,aR⟩:=hm;unfold HD;cases hu:mgu s.b [(x,y)]with
 |none=>rw[hu]at aS;have bc:=BC h hf aR;simp only[nY]at bc⊢;generalize sn s=t at bc;generalize (dM s).isSome=q at bc;clear h hu;obtain⟨n,b,d,k,m⟩:=s;obtain⟨ql,qi,qj,qk,tm⟩:=t;simp only[bE.e,fb]at aS bc⊢;refine bq gN rE se fun aP=>?_;unfold qG;simp;((with_reducible repeat' first|refine aj ?_|refine aB aS ?_|refine aC aS ?_|refine aB bc ?_|refine aC bc ?_|simp|((first|apply bG|apply bL|apply bK)<;>intro h<;>try simp at h))<;>(try exact cg));all_goals simp[bp,Ho,aT,aW,aQ]
 |some bV=>
  rw[hu]at aS;have bT:=NT h.b (h.bind ab aD bx gh hu).b;simp only at bT;by_cases au:cR s.b bV=[]
  ·simp only[if_pos au];rw[au]at bT;clear h hu;obtain⟨n,b,d,k,m⟩:=s;simp only[bE.e,fb,fy,cy,mO]at aS bT⊢;refine bq gN rE se fun aP=>?_;unfold qG;simp only at aE;simp;((with_reducible repeat' first|refine aj ?_|refine aB aS ?_|refine aC aS ?_|refine aB bT ?_|refine aC bT ?_|simp|((first|apply bG|apply bL|apply bK)<;>intro h<;>try simp at h))<;>(try exact cg));all_goals simp[bp,Ho,aT,aW,aQ]
   all_goals(unfold lim;omega)
  ·simp only[if_neg au];have bc:=BC (h.dif ab aD bx gh hu) hf aR;have aq:0<(cR s.b bV).length:=List.length_pos_iff.2 au;generalize cR s.b bV=w at bc bT aq au⊢;simp only[nY]at bc⊢;generalize sn {s with d:=s.d++[w]}=t at bc;generalize (dM {s with d:=s.d++[w]}).isSome=q at bc;clear h hu;obtain⟨n,b,d,k,m⟩:=s;obtain⟨ql,qi,qj,qk,tm⟩:=t;simp only[bE.e,fb]at aS bc bT⊢;generalize lh:d++[w]=D at bc;simp only[cy]at bT;have hw:cy w= .slice 5 .no (w.map ak.e):=rfl;refine bq gN rE se fun aP=>?_;unfold qG;simp only at aE;simp;((with_reducible repeat' first|refine aj ?_|refine aB aS ?_|refine aC aS ?_|refine aB bT ?_|refine aC bT ?_|simp[aq]|((first|apply bG|apply bL|apply bK)<;>intro h<;>try simp at h))<;>(try exact cg));all_goals first|(refine⟨by unfold lim;omega,?_⟩)|skip
   rw[←hw];rw[o7,Fe,lh];((with_reducible repeat' first|refine aj ?_|refine aB bc ?_|refine aC bc ?_|simp|((first|apply bG|apply bL|apply bK)<;>intro h<;>try simp at h))<;>(try exact cg));all_goals simp[bp,Ho,aT,aW,aQ]
noncomputable def HH(s:bE)(x:T)(k:Int):ah:=if(x.ap (bF s.b)).size≤5000 then(match gS s.k (x.ap (bF s.b)) k with
 |none=>.tuple [fy.e,.bool false]
 |some l=>nY {s with k:=l})else .tuple [fy.e,.bool false]
theorem akL(s:bE)(x:T){k:Int}(ad:k=2∨k=3):∃t:bE,∃q:Bool,HH s x k= .tuple [t.e,.bool q]∧(q=true→jx s x k=some t)∧(q=false→jx s x k=none):=by
 unfold HH jx;by_cases g:(x.ap (bF s.b)).size≤5000
 ·rw[if_pos g,if_pos ⟨ad,g⟩];cases gS s.k (x.ap (bF s.b)) k with
  |none=>exact⟨fy,false,rfl,(fun h=>by cases h),fun _=>rfl⟩
  |some l=>exact HF _
 ·rw[if_neg g,if_neg fun h=>g h.2];exact⟨fy,false,rfl,(fun h=>by cases h),fun _=>rfl⟩
noncomputable def HI(s:bE)(x:T)(g:List cQ):ah:=if(x.ap (bF s.b)).size≤5000 then(match gm s.m (x.ap (bF s.b)) g with
 |none=>.tuple [fy.e,.bool false]
 |some l=>nY {s with m:=l})else .tuple [fy.e,.bool false]
theorem akM(s:bE)(x:T)(g:List cQ):∃t:bE,∃q:Bool,HI s x g= .tuple [t.e,.bool q]∧(q=true→jy s x g=some t)∧(q=false→jy s x g=none):=by
 unfold HI jy;by_cases g1:(x.ap (bF s.b)).size≤5000
 ·rw[if_pos g1,if_pos g1];cases gm s.m (x.ap (bF s.b)) g with
  |none=>exact⟨fy,false,rfl,(fun h=>by cases h),fun _=>rfl⟩
  |some l=>exact HF _
 ·rw[if_neg g1,if_neg g1];exact⟨fy,false,rfl,(fun h=>by cases h),fun _=>rfl⟩
theorem amv{s:bE}(h:h5 s)(hm:kK s.m){x:T}(ab:x.fit=true)(bx:dG s.n x=true){k:Int}(ad:k=2∨k=3)(y:T)(tag:List cQ):bS az 93 [s.e,.int .i64 2,x.e,y.e,.int .i64 k,.str tag] (HH s x k):=by
 have aS:=Ef s.b h.b.len x;have bc:=NX s.k (by have:=oN h.k;omega) h.k.asc (x.ap (bF s.b)) k;unfold HH;by_cases g:(x.ap (bF s.b)).size≤5000
 ·rw[kp g]at aS;rw[if_pos g];cases hu:gS s.k (x.ap (bF s.b)) k with
  |none=>rw[hu]at bc;generalize x.ap (bF s.b)=y at aS bc;clear h hu g;obtain⟨n,b,d,k',m⟩:=s;simp only[bE.e,ny,fy,jq,ja]at aS bc⊢;refine bq gN rE se fun aP=>?_;unfold qG;exact cB
  |some l=>rw[hu]at bc;obtain⟨G,hf,aR⟩:=hm;have bT:=BC (h.knd ab bx ad hu) hf aR;generalize x.ap (bF s.b)=y at aS bc;simp only[nY]at bT⊢;generalize sn {s with k:=l}=t at bT;generalize (dM {s with k:=l}).isSome=q at bT;clear h hu g;obtain⟨n,b,d,k',m⟩:=s;obtain⟨ql,qi,qj,qk,tm⟩:=t;simp only[bE.e,ny,jr,nI]at aS bc bT⊢;refine bq gN rE se fun aP=>?_;unfold qG;exact cB
 ·rw[lB g]at aS;rw[if_neg g];generalize x.ap (bF s.b)=y at aS bc;clear bc;clear h g;obtain⟨n,b,d,k',m⟩:=s;simp only[bE.e,fy]at aS⊢;refine bq gN rE se fun aP=>?_;unfold qG;exact cB
theorem amw{s:bE}(h:h5 s)(hm:yY s.m){x:T}(ab:x.fit=true)(bx:dG s.n x=true){g:List cQ}(aR:ib g=true)(y:T)(jw:Int):bS az 93 [s.e,.int .i64 3,x.e,y.e,.int .i64 jw,.str g] (HI s x g):=by
 have aS:=Ef s.b h.b.len x;have bc:=fun aY=>Ye s.m (hm.w.len h.m) (x.ap (bF s.b)) aY g h.m.asc;unfold HI;by_cases g1:(x.ap (bF s.b)).size≤5000
 ·have bc:=bc g1;rw[kp g1]at aS;rw[if_pos g1];cases hu:gm s.m (x.ap (bF s.b)) g with
  |none=>rw[hu]at bc;generalize x.ap (bF s.b)=y at aS bc;clear h hu g1;obtain⟨n,b,d,k',m⟩:=s;simp only[bE.e,h3,fy,jq,ja]at aS bc⊢;refine bq gN rE se fun aP=>?_;unfold qG;exact cB
  |some l=>rw[hu]at bc;obtain⟨G,hf,oA⟩:=hm.mrk hu;have bT:=BC (h.mrk ab bx aR hu) hf oA;generalize x.ap (bF s.b)=y at aS bc;simp only[nY]at bT⊢;generalize sn {s with m:=l}=t at bT;generalize (dM {s with m:=l}).isSome=q at bT;clear h hu g1;obtain⟨n,b,d,k',m⟩:=s;obtain⟨ql,qi,qj,qk,tm⟩:=t;simp only[bE.e,h3,jr,nI]at aS bc bT⊢;refine bq gN rE se fun aP=>?_;unfold qG;exact cB
 ·rw[lB g1]at aS;rw[if_neg g1];generalize x.ap (bF s.b)=y at aS bc;clear bc;clear h g1;obtain⟨n,b,d,k',m⟩:=s;simp only[bE.e,fy]at aS⊢;refine bq gN rE se fun aP=>?_;unfold qG;exact cB
theorem adu(c:dJ)(ar:c.ok):bC az 111 [.ptr (.obj 401) 0,.slice 1 .no [.str [97],.str [98]]] (bJ c) fun r s'=>r= .str (w7 (c.below 2))∧s'=bJ (c.belowC 2):=by
 have af:=dZ c;have ae:=c.below_le 2 (by omega);refine bC.mk mixed qn acp ai8 (by simp) af.obj fun aP cF=>?_;unfold Qq;unfold bJ;simp;(refine cM.ob (xJ c ar 2) (dZ _) (by unfold bJ;exact aG) (by unfold bJ;exact aG) (by simp[inObs,bJ,Pv.look]) ?_;rintro r s' ⟨rfl,rfl⟩;refine⟨gl _ _,?_⟩;unfold bJ;simp[b0]);generalize ad:c.below 2=k at ae⊢;rcases(by omega:k=0∨k=1)with rfl|rfl;all_goals(with_reducible repeat' first|refine aj ?_|simp)
 all_goals(refine cJ.at (bJ (c.belowC 2)) (.inl rfl) (dZ _) (gl _ _) (by unfold bJ;exact aG) (by unfold bJ;exact aG) ?_;simp[cP,WA,aT,aW,aQ,bJ])
 all_goals simp[w7]
theorem amx{n:Int}{s:bE}(h:sS n s)(aE:s.d.length≤30){kd:Int}(ad:kd=0∨kd=1∨kd=2∨kd=3){x y:T}(ab:vK n x)(aD:vK n y){k:Int}(ka:k=2∨k=3){g:List cQ}(aR:ib g=true):
  ∃t:bE,∃q:Bool,bS az 93 [s.e,.int .i64 kd,x.e,y.e,.int .i64 k,.str g] (.tuple [t.e,.bool q])∧(q=true→oi s kd x y k g=some t)∧(q=false→oi s kd x y k g=none):=by
 have bx:=ab.b;have gh:=aD.b;rw[←h.n]at bx gh;rcases ad with rfl|rfl|rfl|rfl
 ·obtain⟨t,q,ai,ax,bn⟩:=W7 s x y;refine⟨t,q,?_,ax,bn⟩;rw[←ai];exact Yf h.ok.1 h.tg.w ab.f aD.f bx gh k g
 ·obtain⟨t,q,ai,ax,bn⟩:=akK s x y;refine⟨t,q,?_,ax,bn⟩;rw[←ai];exact amu h.ok.1 aE h.tg.w ab.f aD.f bx gh k g
 ·obtain⟨t,q,ai,ax,bn⟩:=akL s x ka;refine⟨t,q,?_,ax,bn⟩;rw[←ai];exact amv h.ok.1 h.tg.w ab.f bx ka y g
 ·obtain⟨t,q,ai,ax,bn⟩:=akM s x g;refine⟨t,q,?_,ax,bn⟩;rw[←ai];exact amw h.ok.1 h.tg ab.f bx aR y k
theorem alK(i:Int):ib (w7 i)=true:=by unfold w7;split<;>decide
theorem Ri(n:Int):∀(i:Nat) (s:bE) (c:dJ),o9 n (i+1) s c=yV n (o9 n i s c).1 (o9 n i s c).2
 |0,_,_=>rfl
 |i+1,s,c=>by rw[o9,Ri n i];rfl
theorem Rh(n:Int):∀(i:Nat) {s:bE} {c:dJ},c.ok→(o9 n i s c).2.ok
 |0,_,_,h=>h
 |i+1,_,_,h=>Rh n i (alz n h)
def nN(s:bE):List ah:=[.int .i64 s.n,.slice 5 .no (s.b.map ak.e),.slice 1 .no (s.d.map cy),.slice 2 .no (s.k.map bX.e),.slice 2 .no (s.m.map bd.e)]
def kR(n:Int)(q:Bool)(s:bE):List ah:=if q then [.int .i64 n,.slice 5 .nil [],.slice 1 .nil [],.slice 2 .nil [],.slice 2 .nil []]else nN s
set_option maxRecDepth 4000 in
theorem adw(n:Nat)(au:n≤100000)(c:dJ)(ar:c.ok):bC az 44 [.ptr (.obj 401) 0,.int .i64 n,.int .i64 5] (bJ c) fun r s'=>r=(o9 n (c.below 6).toNat ⟨n,[],[],[],[]⟩ (c.belowC 6)).1.e∧s'=bJ (o9 n (c.below 6).toNat ⟨n,[],[],[],[]⟩ (c.belowC 6)).2:=by
 have af:=dZ c;have ae:=c.below_le 6 (by omega);obtain⟨K,c3⟩:∃K:Nat,K=(c.below 6).toNat:=⟨_,rfl⟩;have aee:c.below 6=(K:Int):=by omega
 have Cw:=ar.below 6;rw[←c3];clear c3;refine bC.mk mixed qn acR ajz (by simp) af.obj fun aP cF=>?_;unfold QR;unfold bJ;simp;(with_reducible repeat' first|refine aj ?_|simp);(refine cM.ob (xJ c ar 6) (dZ _) (by unfold bJ;exact aG) (by unfold bJ;exact aG) (by simp[inObs,bJ,Pv.look]) ?_;rintro r s' ⟨rfl,rfl⟩;refine⟨gl _ _,?_⟩;unfold bJ;simp[b0]);rw[aee];generalize c.belowC 6=bQ at Cw⊢;have lL:=fun i=>Js au i (Rg n au) bQ;have dT:=fun i=>Rh n i (s:=⟨n,[],[],[],[]⟩) Cw;have pj:=fun i=>Ri n i ⟨n,[],[],[],[]⟩ bQ;generalize fs:(fun i=>o9 n i ⟨n,[],[],[],[]⟩ bQ)=F;have Sx:∀i,o9 n i ⟨n,[],[],[],[]⟩ bQ=F i:=fun i=>by rw[←fs]
 have qO:F 0=(⟨n,[],[],[],[]⟩,bQ):=by rw[←fs];rfl
 simp only[Sx]at lL dT pj⊢;clear fs Sx;refine iN (fun i (q:Bool)=>⟨[(0,.ptr (.obj 401) 0),(1,.int .i64 n),(6,.ptr (.loc 0) 0),(7,.ptr (.loc 1) 0),(8,.int .i64 (K-i))],[(.obj 401,(F i).2.e),(.loc 0,[.int .i64 0,.slice 5 .nil [],.slice 1 .nil [],.slice 2 .nil [],.slice 2 .nil []]),(.loc 1,kR n q (F i).1)],[],2,[.obj 401]⟩) K (fun i q=>q=true→(F i).1=⟨n,[],[],[],[]⟩) true ⟨by simp[fresh,aN,aH,cn,inObs,Pv.look,lr,qO,kR],eM (by simp[fresh,aN,aH,cn,inObs,Pv.look,lr,qO,kR]),eN (by simp[fresh,aN,aH,ej,inObs,Pv.look,lr,qO,kR]),by simp⟩ (fun _=>by rw[qO]) (fun q ag _=>?_) (fun i q hi ag _=>?_)
 ·have FK:=lL K;have SM:=dT K;generalize F K=fK at ag FK SM⊢;obtain⟨s,ks⟩:=fK;simp only at ag FK SM⊢;have aL:=FK.s;have iD:=Yg s aL.ok.1.b.len (fun z aY=>(aL.ok.1.d z aY).len) (by have:=oN aL.ok.1.k;omega) (aL.tg.w.len aL.ok.1.m);clear lL dT pj FK;obtain⟨sr,b,d,k,m⟩:=s;have afE:sr=n:=aL.n;subst afE;simp only[bE.e]at iD⊢;clear aL;cases q
  ·simp only[kR,gC,if_false,nN];clear ag;simp;(with_reducible repeat' first|refine aj ?_|refine aB iD ?_|refine aC iD ?_|simp);(refine cJ.at (bJ (ks)) (.inl rfl) (dZ _) (gl _ _) (by unfold bJ;exact aG) (by unfold bJ;exact aG) ?_;simp[cP,MX,aT,aW,aQ,bJ])
  ·have ag:=ag rfl;simp only[bE.mk.injEq,true_and]at ag;obtain⟨rfl,rfl,rfl,rfl⟩:=ag;simp only[kR,if_true,mO]at iD⊢;simp;(with_reducible repeat' first|refine aj ?_|refine aB iD ?_|refine aC iD ?_|simp);(refine cJ.at (bJ (ks)) (.inl rfl) (dZ _) (gl _ _) (by unfold bJ;exact aG) (by unfold bJ;exact aG) ?_;simp[cP,MX,aT,aW,aQ,bJ])
 ·have hdi:=lL i;have iQ:=dT i;have iU:=pj i;have hle:i≤4:=by omega
  generalize F i=zC at ag hdi iQ iU⊢;obtain⟨s,ks⟩:=zC;simp only at ag hdi iQ iU⊢;have uB:=B3 3 n _ iQ;have ab:=vL (n:=n) (by omega) (z:=3) (by omega) ks;have sY:=uB.below 4;have aoC:=(dW 3 n ks).2.below_le 4 (by omega);have aD:=vL (n:=n) (by omega) (z:=5) (by omega) ((dW 3 n ks).2.belowC 4);have SJ:=B3 5 n _ sY;have SK:=SJ.below 2;have nj:=(dW 5 n ((dW 3 n ks).2.belowC 4)).2.below_le 2 (by omega);have aoF:=SK.below 2;have eR:=amx hdi.s (by have:=hdi.k;omega) (kd:=(dW 3 n ks).2.below 4) (by omega) ab aD (k:=2+(dW 5 n ((dW 3 n ks).2.belowC 4)).2.below 2) (by omega) (alK (((dW 5 n ((dW 3 n ks).2.belowC 4)).2.belowC 2).below 2));obtain⟨t,gA,eR,ax,bn⟩:=eR;have p7:=J6 n (by omega) 3 (by omega) ks iQ;have ic:=xJ (dW 3 n ks).2 uB 4;have kF:=J6 n (by omega) 5 (by omega) _ sY;have c9:=xJ _ SJ 2;have iu:=adu _ SK;unfold yV at iU;clear lL dT pj hdi ab aD;generalize dW 3 n ks=ev at*;obtain⟨x,cp⟩:=ev;simp only at*;generalize cp.below 4=kd at*;generalize cp.belowC 4=ds at*;generalize dW 5 n ds=e2 at*;obtain⟨y,j7⟩:=e2;simp only at*;generalize j7.below 2=bc at*;generalize j7.belowC 2=kT at*;generalize w7 (kT.below 2)=g at*;generalize kT.belowC 2=oj at*;have hW:(K:Int)-i-1=K-(i+1):=by omega
  have jf:oK (2+bc):=by unfold oK;omega
  have uJ:(0:Int)<(K:Int)-i:=by omega
  cases gA with
  |false=>
   rw[bn rfl,jq]at iU;clear ax bn;cases q
   ·simp only[kR,gC,if_false,nN];clear ag;obtain⟨sr,b,d,k,m⟩:=s;obtain⟨ql,qi,qj,qk,tm⟩:=t;simp only[bE.e]at eR⊢;simp[hi];(with_reducible repeat' first|refine aj ?_|simp[hi]);(refine cM.ob (p7) (dZ _) (by unfold bJ;exact aG) (by unfold bJ;exact aG) (by simp[inObs,bJ,Pv.look]) ?_;rintro r s' ⟨rfl,rfl⟩;refine⟨gl _ _,?_⟩;unfold bJ;simp[b0]);(with_reducible repeat' first|refine aj ?_|simp);(refine fJ.ob (ic) (dZ _) (dZ _) (gl _ _) (by unfold bJ;exact aG) (by unfold bJ;exact aG) (by simp[inObs,bJ,Pv.look]) ?_;unfold bJ;simp[b0]);(with_reducible repeat' first|refine aj ?_|simp);(refine fJ.ob (kF) (dZ _) (dZ _) (gl _ _) (by unfold bJ;exact aG) (by unfold bJ;exact aG) (by simp[inObs,bJ,Pv.look]) ?_;unfold bJ;simp[b0]);(with_reducible repeat' first|refine aj ?_|simp);(refine fJ.ob (c9) (dZ _) (dZ _) (gl _ _) (by unfold bJ;exact aG) (by unfold bJ;exact aG) (by simp[inObs,bJ,Pv.look]) ?_;unfold bJ;simp[b0]);(with_reducible repeat' first|refine aj ?_|simp);(refine fJ.ob (iu) (dZ _) (dZ _) (gl _ _) (by unfold bJ;exact aG) (by unfold bJ;exact aG) (by simp[inObs,bJ,Pv.look]) ?_;unfold bJ;simp[b0]);(with_reducible repeat' first|refine aj ?_|refine aB eR ?_|refine aC eR ?_|simp[hW]);all_goals refine bN.rng (n:=K) false hi (fun h=>by cases h) ⟨by simp[fresh,aN,aH,cn,inObs,Pv.look,lr,iU,hW,kR,nN],eM (by simp[fresh,aN,aH,cn,inObs,Pv.look,lr,iU,hW,kR,nN]),eN (by simp[fresh,aN,aH,ej,inObs,Pv.look,lr,iU,hW,kR,nN]),by simp⟩
   ·have ag:=ag rfl;have oB:(F (i+1)).1=⟨n,[],[],[],[]⟩:=by rw[iU];exact ag
    subst ag;obtain⟨ql,qi,qj,qk,tm⟩:=t;simp only[bE.e,mO]at eR⊢;simp only[kR,if_true];simp[hi];(with_reducible repeat' first|refine aj ?_|simp[hi]);(refine cM.ob (p7) (dZ _) (by unfold bJ;exact aG) (by unfold bJ;exact aG) (by simp[inObs,bJ,Pv.look]) ?_;rintro r s' ⟨rfl,rfl⟩;refine⟨gl _ _,?_⟩;unfold bJ;simp[b0]);(with_reducible repeat' first|refine aj ?_|simp);(refine fJ.ob (ic) (dZ _) (dZ _) (gl _ _) (by unfold bJ;exact aG) (by unfold bJ;exact aG) (by simp[inObs,bJ,Pv.look]) ?_;unfold bJ;simp[b0]);(with_reducible repeat' first|refine aj ?_|simp);(refine fJ.ob (kF) (dZ _) (dZ _) (gl _ _) (by unfold bJ;exact aG) (by unfold bJ;exact aG) (by simp[inObs,bJ,Pv.look]) ?_;unfold bJ;simp[b0]);(with_reducible repeat' first|refine aj ?_|simp);(refine fJ.ob (c9) (dZ _) (dZ _) (gl _ _) (by unfold bJ;exact aG) (by unfold bJ;exact aG) (by simp[inObs,bJ,Pv.look]) ?_;unfold bJ;simp[b0]);(with_reducible repeat' first|refine aj ?_|simp);(refine fJ.ob (iu) (dZ _) (dZ _) (gl _ _) (by unfold bJ;exact aG) (by unfold bJ;exact aG) (by simp[inObs,bJ,Pv.look]) ?_;unfold bJ;simp[b0]);(with_reducible repeat' first|refine aj ?_|refine aB eR ?_|refine aC eR ?_|simp[hW]);all_goals refine bN.rng (n:=K) true hi (fun _=>oB) ⟨by simp[fresh,aN,aH,cn,inObs,Pv.look,lr,iU,hW,kR,nN],eM (by simp[fresh,aN,aH,cn,inObs,Pv.look,lr,iU,hW,kR,nN]),eN (by simp[fresh,aN,aH,ej,inObs,Pv.look,lr,iU,hW,kR,nN]),by simp⟩
  |true=>
   rw[ax rfl,jr]at iU;clear ax bn;cases q
   ·simp only[kR,gC,if_false,nN];clear ag;obtain⟨sr,b,d,k,m⟩:=s;obtain⟨ql,qi,qj,qk,tm⟩:=t;simp only[bE.e]at eR⊢;simp[hi];(with_reducible repeat' first|refine aj ?_|simp[hi]);(refine cM.ob (p7) (dZ _) (by unfold bJ;exact aG) (by unfold bJ;exact aG) (by simp[inObs,bJ,Pv.look]) ?_;rintro r s' ⟨rfl,rfl⟩;refine⟨gl _ _,?_⟩;unfold bJ;simp[b0]);(with_reducible repeat' first|refine aj ?_|simp);(refine fJ.ob (ic) (dZ _) (dZ _) (gl _ _) (by unfold bJ;exact aG) (by unfold bJ;exact aG) (by simp[inObs,bJ,Pv.look]) ?_;unfold bJ;simp[b0]);(with_reducible repeat' first|refine aj ?_|simp);(refine fJ.ob (kF) (dZ _) (dZ _) (gl _ _) (by unfold bJ;exact aG) (by unfold bJ;exact aG) (by simp[inObs,bJ,Pv.look]) ?_;unfold bJ;simp[b0]);(with_reducible repeat' first|refine aj ?_|simp);(refine fJ.ob (c9) (dZ _) (dZ _) (gl _ _) (by unfold bJ;exact aG) (by unfold bJ;exact aG) (by simp[inObs,bJ,Pv.look]) ?_;unfold bJ;simp[b0]);(with_reducible repeat' first|refine aj ?_|simp);(refine fJ.ob (iu) (dZ _) (dZ _) (gl _ _) (by unfold bJ;exact aG) (by unfold bJ;exact aG) (by simp[inObs,bJ,Pv.look]) ?_;unfold bJ;simp[b0]);(with_reducible repeat' first|refine aj ?_|refine aB eR ?_|refine aC eR ?_|simp[hW]);all_goals refine bN.rng (n:=K) false hi (fun h=>by cases h) ⟨by simp[fresh,aN,aH,cn,inObs,Pv.look,lr,iU,hW,kR,nN],eM (by simp[fresh,aN,aH,cn,inObs,Pv.look,lr,iU,hW,kR,nN]),eN (by simp[fresh,aN,aH,ej,inObs,Pv.look,lr,iU,hW,kR,nN]),by simp⟩
   ·have ag:=ag rfl;subst ag;obtain⟨ql,qi,qj,qk,tm⟩:=t;simp only[bE.e,mO]at eR⊢;simp only[kR,if_true];simp[hi];(with_reducible repeat' first|refine aj ?_|simp[hi]);(refine cM.ob (p7) (dZ _) (by unfold bJ;exact aG) (by unfold bJ;exact aG) (by simp[inObs,bJ,Pv.look]) ?_;rintro r s' ⟨rfl,rfl⟩;refine⟨gl _ _,?_⟩;unfold bJ;simp[b0]);(with_reducible repeat' first|refine aj ?_|simp);(refine fJ.ob (ic) (dZ _) (dZ _) (gl _ _) (by unfold bJ;exact aG) (by unfold bJ;exact aG) (by simp[inObs,bJ,Pv.look]) ?_;unfold bJ;simp[b0]);(with_reducible repeat' first|refine aj ?_|simp);(refine fJ.ob (kF) (dZ _) (dZ _) (gl _ _) (by unfold bJ;exact aG) (by unfold bJ;exact aG) (by simp[inObs,bJ,Pv.look]) ?_;unfold bJ;simp[b0]);(with_reducible repeat' first|refine aj ?_|simp);(refine fJ.ob (c9) (dZ _) (dZ _) (gl _ _) (by unfold bJ;exact aG) (by unfold bJ;exact aG) (by simp[inObs,bJ,Pv.look]) ?_;unfold bJ;simp[b0]);(with_reducible repeat' first|refine aj ?_|simp);(refine fJ.ob (iu) (dZ _) (dZ _) (gl _ _) (by unfold bJ;exact aG) (by unfold bJ;exact aG) (by simp[inObs,bJ,Pv.look]) ?_;unfold bJ;simp[b0]);(with_reducible repeat' first|refine aj ?_|refine aB eR ?_|refine aC eR ?_|simp[hW]);all_goals refine bN.rng (n:=K) false hi (fun h=>by cases h) ⟨by simp[fresh,aN,aH,cn,inObs,Pv.look,lr,iU,hW,kR,nN],eM (by simp[fresh,aN,aH,cn,inObs,Pv.look,lr,iU,hW,kR,nN]),eN (by simp[fresh,aN,aH,ej,inObs,Pv.look,lr,iU,hW,kR,nN]),by simp⟩
theorem al2(d:List Int)(aE:sM d)(aq:d.length≤10000000)(p:Nat)(bB:p≤1000000)(n:Nat)(au:n≤100000):bS az 10 [.slice 1 .no (hO d),.int .i64 p,.int .i64 n] (Dh d p n).e:=by have jK:=adw n au (jF d p) (Q3 aE aq p);have ga:(o9 n ((jF d p).below 6).toNat ⟨n,[],[],[],[]⟩ ((jF d p).belowC 6)).1=Dh d p n:=rfl;rw[ga]at jK;generalize Dh d p n=s at jK⊢;generalize (o9 n ((jF d p).below 6).toNat ⟨n,[],[],[],[]⟩ ((jF d p).belowC 6)).2=cf at jK;clear ga;obtain⟨sr,b,e,k,m⟩:=s;simp only[bE.e]at jK⊢;refine bq qn acg ai0 fun aP=>?_;unfold Qi;simp;refine cM.new (Sg d aE aq p bB) ((dL.of ⟨by intro m;simp[Pv.look],by intro m;simp[Pv.look]⟩ (by simp[aN,aH,inObs,Pv.look]) (by simp[aN,aH,inObs,Pv.look]))) aG aG (by simp) ?_;rintro r s' ⟨rfl,rfl⟩;refine⟨fun m _=>.inr (by simp),?_⟩;unfold bJ;simp[b0];(refine cM.ob (jK) (dZ _) (by unfold bJ;exact aG) (by unfold bJ;exact aG) (by simp[inObs,bJ,Pv.look]) ?_;rintro r s' ⟨rfl,rfl⟩;refine⟨gl _ _,?_⟩;unfold bJ;simp[b0]);exact cB
end Go.Proofs.YtohaalphocaebaaGreat
namespace Go.Pv
open Go Go.RowKit
mutual
def kJ(k:aJ)(m:Nat):ah→ah
 | .slice sz tag xs=>.slice sz (if tag= .own k then .own (.obj m)else .no) (di xs)
 | .agg cs=>.agg (tI k m cs)
 | .tuple cs=>.tuple (tI k m cs)
 |p=>dU p
def tI(k:aJ)(m:Nat):List ah→List ah
 |[]=>[]
 |c::cs=>kJ k m c::tI k m cs
end
section
variable {w:World} {ν μ:a8} {k:aJ} {m:Nat} (av:od (fun _=>ep) w ν w μ) (ad:∀n v,ν.ow k=some (n,v)→μ.ow (.obj m)=some (n,v))
include av ad
mutual
theorem M5:∀(p:ah) (v:Value),aH (fun _=>ep) (dU p)→a6 w ν p v→a6 w μ (kJ k m p) v
 | .slice sz tag xs,v,au,h=>by
  have U:=kn av _ _ au (k1 _ _ h);simp only[kJ];split
  ·rename_i e;simp only[a6,dU]at h U⊢;refine⟨U.1,(fun e=>by cases e),fun g Jw=>?_,(fun _ _ e=>by cases e),fun _ e=>by cases e⟩;cases Jw;obtain⟨n',u,ai,ax,bn⟩:=h.2.2.1 k e;exact⟨n',u,ad _ _ ai,by rw[ss];exact ax,by rw[ss];exact bn⟩
  ·exact U
 | .agg cs,v,au,h=>by simp only[a6,aH,kJ,dU]at h au⊢;obtain⟨us,J,U⟩:=h;exact⟨us,J,WT cs us.toList au U⟩
 | .tuple cs,v,au,h=>by simp only[a6,aH,kJ,dU]at h au⊢;obtain⟨us,J,U⟩:=h;exact⟨us,J,WU cs us.toList au U⟩
 | .junk,_,_,_=>by simp[kJ,dU,a6]
 | .int k n,v,au,h=>by have:=kn av _ _ au (k1 _ _ h);simpa only[kJ]using this
 | .bool b,v,au,h=>by have:=kn av _ _ au (k1 _ _ h);simpa only[kJ]using this
 | .str s,v,au,h=>by have:=kn av _ _ au (k1 _ _ h);simpa only[kJ]using this
 | .ptr a b,v,au,h=>by have:=kn av _ _ au (k1 _ _ h);simpa only[kJ]using this
 | .eptr x,v,au,h=>by have:=kn av _ _ au (k1 _ _ h);simpa only[kJ]using this
 | .iface t x,v,au,h=>by have:=kn av _ _ au (k1 _ _ h);simpa only[kJ]using this
 | .nilp,v,au,h=>by have:=kn av _ _ au (k1 _ _ h);simpa only[kJ]using this
 | .func f c,v,au,h=>by have:=kn av _ _ au (k1 _ _ h);simpa only[kJ]using this
 | .gmap x,v,au,h=>by have:=kn av _ _ au (k1 _ _ h);simpa only[kJ]using this
 | .row a b c,v,au,h=>by have:=kn av _ _ au (k1 _ _ h);simpa only[kJ]using this
 | .rptr a b c d e,v,au,h=>by have:=kn av _ _ au (k1 _ _ h);simpa only[kJ]using this
 | .hdm a b,v,au,h=>by have:=kn av _ _ au (k1 _ _ h);simpa only[kJ]using this
 | .hdi a b c,v,au,h=>by have:=kn av _ _ au (k1 _ _ h);simpa only[kJ]using this
 | .cst a,v,au,h=>by have:=kn av _ _ au (k1 _ _ h);simpa only[kJ]using this
theorem WT:∀(cs:List ah) (us:List Value),aN (fun _=>ep) (di cs)→dg w ν cs us→dg w μ (tI k m cs) us
 |[],us,_,h=>by simpa only[tI,dg]using h
 |c::cs,us,au,h=>by simp only[dg,di,aN,tI]at h au⊢;obtain⟨u,b8,J,⟨U,ao⟩,a1⟩:=h;exact⟨u,b8,J,⟨M5 c u au.1 U,ao⟩,WT cs b8 au.2 a1⟩
theorem WU:∀(cs:List ah) (us:List Value),aN (fun _=>ep) (di cs)→cK w ν cs us→cK w μ (tI k m cs) us
 |[],us,_,h=>by simpa only[tI,cK]using h
 |c::cs,us,au,h=>by simp only[cK,di,aN,tI]at h au⊢;obtain⟨u,b8,J,U,a1⟩:=h;exact⟨u,b8,J,M5 c u au.1 U,WU cs b8 au.2 a1⟩
end
end
def On(eG:List bA)(k:aJ)(m:Nat)(Q:ah→fL→Prop)(e:Exit)(st:bh):Prop:=
 (e= .ret∨e= .normal)∧match aT st eG with
  |some (c,cq)=>c∧∃o,look k st.e=some o∧o.xs=none∧aH (fun _=>ep) (dU (aQ cq))∧Q (kJ k m (aQ cq)) o
  |none=>ep
theorem bC.ofN{P:cA}(hm:P.follows .mixedOrders=true){bs:List (Nat×dx)}(aL:fP P bs=true){f:FuncId}{fn:Func}(aO:P.funcs[f]? =some fn){c:C}{eG:List bA}{n:Nat}(dT:b4 bs c eG n fn=true)
  {args:List ah} (aq:args.length≤n) (k:aJ) (m:Nat) {Q:ah→fL→Prop} (he:gD args→c1 P [] c (On eG k m Q) ⟨jP 0 args,[],[],0,[]⟩):bC P f args ⟨[],[]⟩ fun r s'=> ∃o,Q r o∧s'=⟨[],[(.obj m,o)]⟩:=by
 unfold b4 at dT;split at dT;rotate_left
 ·cases dT
 rename_i code ae;simp only[cx,rk,fo]at dT;obtain⟨⟨⟨ar,Ab⟩,zY⟩,a1⟩:=dT;replace aq:=jR aq a1;intro w ν a7 aR ab aK;refine .inl ⟨⟨fn,aO,by simp[ae],by assumption⟩,?_⟩;have oJ:=yL aK;have kC:a7.size=args.length:=by simpa using oJ
 let X:fh:=⟨w,ν,fl ν ⟨[],[]⟩,fn.ntmps,[]⟩
 have Gb:∀k,ν.bx k=none:=fun k=>(ab k).1 rfl;have po:∀k,ν.ow k=none:=fun k=>(ab k).2.1 rfl;have Gc:∀k j b,¬ν.tr k j b:=fun k=>(ab k).2.2;have oF:cX X ⟨jP 0 args,[],[],0,[]⟩ {tmps:=a7++Array.replicate (fn.ntmps-a7.size) undef,defers:=[]} w ν:=by
  refine⟨⟨aR.alt,fun k cs ad=>(by simp[look]at ad),aR.inj,fun g o eD=>(by simp[look]at eD),aR.oinj,aR.obx,aR.one,aR.otr⟩,⟨rfl,rfl,rfl,ff _,fun _ _ _=>rfl,fun b o h=>⟨h,rfl⟩,fun b o h=>.inl h,fun n b h=>h,fun n b h=>(by rw[Gb]at h;cases h),fun m n u h=>⟨n,u,h,.inl ⟨rfl,rfl⟩⟩,fun m n u h=>(by rw[po]at h;cases h),fun k j _ _ b h=>absurd h (Gc k j b),fun k j b h=>absurd h (Gc k j b),fun k j b h=>absurd h (Gc k j b),fun _ _ _=>rfl⟩,rfl,?_,fun i=>?_,fun k _=>⟨Gb k,po k,Gc k⟩⟩
  ·show(a7++Array.replicate (fn.ntmps-a7.size) undef).size=fn.ntmps;simp;omega
  ·rw[Fy];by_cases hi:i<args.length
   ·rw[if_pos (by omega)];have qS:args[i]? =some args[i]:=cb hi;obtain⟨v,ai,ax⟩:=DT i aK qS;have aI:(a7++Array.replicate (fn.ntmps-a7.size) undef).getD i undef=v:=by
     have B4:a7[i]? =some v:=by simpa using ai
     rw[Array.getD_eq_getD_getElem?,Array.getElem?_append_left (by omega),B4];rfl
    show a6 w ν _ ((a7++Array.replicate (fn.ntmps-a7.size) undef).getD i undef);rw[aI];simpa[List.getD,qS]using ax
   ·rw[if_neg (by omega)];simp[a6]
 have K5:=qM hm aL (X:=X) c code (On eG k m Q) _ ar (he (M9 aK)) _ w ν oF;refine calls_of_wp aO ae (wp_mono K5 fun e be w' cU=>?_);obtain⟨st',bg,⟨rP,bu⟩,c7⟩:=cU;cases rV:aT st' eG with
 |none=>simp[rV]at bu
 |some x=>
  obtain⟨cf,cq⟩:=x;simp only[rV]at bu;obtain⟨hh,o,aeY,hj,cN,c6⟩:=bu;obtain⟨nz,g1,g2⟩:=HG aL c7 eG fn.results.toList cf cq (by assumption) rV hh;have KS:=yL g2;obtain⟨v,us,fv,gH,oP,aqh⟩:=c7.good.own k o aeY;let μ:a8:={A:=bg.A,bx:=fun _=>none,ow:=fun j=>if j= .obj m then bg.ow k else none,tr:=fun _ _ _=>ep}
  have af6:μ.ow (.obj m)=some (o.n,v):=by simp[μ,fv]
  have dz:be.defers=[]∧∃v,(results fn be.tmps).run P w'= .ok v w'∧(fun(e:Ending) w'=> ∃v r s' bg,e= .returned v∧(∃o,Q r o∧s'=⟨[],[(.obj m,o)]⟩)∧a6 w' bg r v∧Good (fun bl=>fl ν ⟨[],[]⟩ bl∨w.heap.size≤bl) w' bg s'.b s'.e∧ov bg s'∧iE s'∧pN ⟨w,ν,fl ν ⟨[],[]⟩,0,cZ ⟨[],[]⟩⟩ w' bg) (.returned v) w':=by
   refine⟨c7.defers,?_⟩;have im:(results fn be.tmps).run P w'= .ok (if h:nz.toArray.size=1 then nz.toArray[0]else .tuple nz.toArray) w':=by rw[W8];simp only[fI,Array.mapM_eq_mapM_toList,Sem.run_map,g1,fQ,gq]
   refine⟨_,im,_,kJ k m (aQ cq),⟨[],[(.obj m,o)]⟩,μ,rfl,⟨o,c6,rfl⟩,?_,?_,?_,?_,?_⟩
   ·have lO:a6 w' bg (aQ cq) (if h:nz.toArray.size=1 then nz.toArray[0]else .tuple nz.toArray):=by
     match cq,nz,g2,KS with
     |[p],[v],g2,_=>simp only[cK]at g2;obtain⟨u,b8,ai,ax,_⟩:=g2;cases ai;simpa[aQ]using ax
     |[],[],g2,_=>simp[aQ,a6,cK]
     |p::da::cq,v::v2::nz,g2,_=>rw[dif_neg (by simp)];simp only[aQ,a6];exact⟨_,rfl,by simpa using g2⟩
     |[_],[],_,h=>simp at h
     |[],_::_,_,h=>simp at h
     |[_],_::_::_,_,h=>simp at h
     |_::_::_,[],_,h=>simp at h
     |_::_::_,[_],_,h=>simp at h
    refine M5 (ν:=bg) (μ:=μ) (k:=k) (m:=m) ⟨fun b o h=>⟨h,rfl⟩,fun _ _ h=>h.elim,fun _ _ _ h=>h.elim,fun _ _ _=>rfl,fun _ _ _ h=>h.elim⟩ (fun n v h=>?_) _ _ cN lO;simp[μ,h]
   ·have gp:∀g x,look g [(aJ.obj m,o)]=some x→g= .obj m∧x=o:=fun g x h=>by
     simp only[look]at h;split at h
     ·rename_i e;exact⟨e.symm,(e3 h).symm⟩
     ·cases h
    have Te:∀g,(look g [(aJ.obj m,o)]).isSome→g= .obj m:=fun g h=>by obtain⟨x,ab⟩:=fB.1 h;exact(gp g x ab).1
    refine⟨c7.good.alt,fun k cs ad=>(by simp[look]at ad),fun k k' bl J=>(by simp[look]at J),fun g x aeN=>?_,fun g e9 n n' v v' bl J U _ _ _ _=>(by rw[Te g J,Te e9 U]),fun g k n v bl J U=>(by simp[look]at U),fun _=>.inl rfl,fun _ _ _ _ h=>h⟩;obtain⟨rfl,rfl⟩:=gp g x aeN;exact⟨v,us,af6,gH,oP,fun xs h=>by rw[hj]at h;cases h⟩
   ·intro j;refine⟨fun _=>rfl,fun h=>?_,fun _ _ h=>h⟩;have:j≠ .obj m:=fun e=>by subst e;simp[look]at h
    simp[μ,this]
   ·exact⟨fun _=>rfl,fun _=>by simp[look]⟩
   ·exact⟨c7.fr.os,c7.fr.tape,c7.fr.output,c7.fr.size,c7.fr.block,c7.fr.keep,c7.fr.fresh,fun n b h=>(by rw[Gb]at h;cases h),fun n b h=>(by rw[Gb]at h;cases h),fun m n u h=>(by rw[po]at h;cases h),fun m n u h=>(by rw[po]at h;cases h),fun _ _ _ _ _ h=>h.elim,fun _ _ _ h=>h.elim,fun _ _ _ h=>h.elim,c7.fr.sh⟩
  rcases rP with rfl|rfl<;>exact dz
end Go.Pv
namespace Go.Proofs.YtohaalphocaebaaGreat
open Go Go.Pv
open Classical in
theorem amE{s b:List ak}(af:dn s)(ae:dn b){E:List (T×T)}(hm:mgu s E=some b):bS az 125 [.slice 5 .no (s.map ak.e),.slice 5 .no (b.map ak.e),.bool true] (.tuple [.slice 5 .no ((cR s b).map ak.e),.int .i64 (vJ s (some b))]):=by
 have aS:=NS s b af.len;have bc:=XS af ae;have au:=yt af hm;simp only[vJ];by_cases g:s=b
 ·rw[kp g]at aS;rw[if_pos (au.2 g),au.2 g];clear bc af ae hm au g;refine bq gN JQ Mg fun aP=>?_;unfold E0;exact cB
 ·rw[lB g]at aS;rw[if_neg fun h=>g (au.1 h)];generalize cR s b=w at bc;clear af ae hm au g;refine bq gN JQ Mg fun aP=>?_;unfold E0;exact cB
theorem amF(s:List ak):bS az 125 [.slice 5 .no (s.map ak.e),.slice 5 .no [],.bool false] (.tuple [.slice 5 .no [],.int .i64 1]):=by refine bq gN JQ Mg fun aP=>?_;unfold E0;exact cB
open Classical in
theorem alX{s:List ak}(af:dn s){x y:T}(ab:x.fit=true)(aD:y.fit=true):bS az 51 [.slice 5 .no (s.map ak.e),x.e,y.e] (.tuple [.slice 5 .no ((AP s (mgu s [(x,y)])).map ak.e),.int .i64 (vJ s (mgu s [(x,y)]))]):=by
 have dt:=oV af;have aS:=y1 ab;have bc:=y1 aD;have bT:=XV af ab aD;cases hm:mgu s [(x,y)]with
 |none=>rw[hm]at bT;have dI:=amF s;clear af ab aD hm;simp only[fb,jq,ja,mO,AP,vJ]at bT⊢;refine bq gN Rz Vm fun aP=>?_;unfold IX;exact cB
 |some b=>rw[hm]at bT;have dI:=amE af (af.mgu (by simp[T.fit_ok ab,T.fit_ok aD]) hm) hm;simp only[AP];generalize vJ s (some b)=c at dI;generalize cR s b=w at dI;clear af ab aD hm;simp only[fb,jr,nI]at bT⊢;refine bq gN Rz Vm fun aP=>?_;unfold IX;exact cB
def A0(s:bE):ah:= .agg [.int .i64 s.n,.slice 5 .no (s.b.map ak.e),.slice 1 (.own (.obj 841)) (s.d.map cy),.slice 2 .no (s.k.map bX.e),.slice 2 .no (s.m.map bd.e)]
theorem adp(s:bE)(ae:s.b.length≤1000000)(aE:∀x∈s.d,x.length≤1000000)(ad:s.k.length≤1000000)(hm:s.m.length≤68719470000):bC az 49 [s.e] ⟨[],[]⟩ fun r s'=> ∃o,(r=A0 s∧o=⟨s.d.length,23,1,none⟩)∧s'=⟨[],[(.obj 841,o)]⟩:=by
 obtain⟨n,b,d,k,m⟩:=s;simp only[bE.e,A0]at ae aE ad hm⊢;have ic:=Ee b ae;refine bC.ofN mixed gN RF Vs (by simp) (.loc 13) 841 fun aP=>?_;unfold I3;have gV:d.length≤68719476736:=by simp[gD,fY,gx,lim]at aP;omega
 clear aP;simp;(with_reducible repeat' first|refine aj ?_|refine aB ic ?_|refine aC ic ?_|simp);refine iN (fun i (L:List (List ak))=>⟨[(1,.ptr (.loc 0) 0),(2,.ptr (.loc 1) 0),(3,.ptr (.loc 5) 0),(14,.slice 1 .no (d.map cy)),(15,.int .i64 d.length),(16,.int .i64 i)],[(.loc 0,[.int .i64 n,.slice 5 .no (b.map ak.e),.slice 1 .no (d.map cy),.slice 2 .no (k.map bX.e),.slice 2 .no (m.map bd.e)]),(.loc 1,[.int .i64 0,.slice 5 .nil [],.slice 1 .nil [],.slice 2 .nil [],.slice 2 .nil []]),(.loc 5,[.int .i64 n,.slice 5 .no (b.map ak.e),.slice 1 (.own (.loc 13)) (L.map cy),.slice 2 .nil [],.slice 2 .nil []])],[(.loc 13,⟨L.length,23,1,none⟩)],41,[]⟩) d.length (fun i L=>L=d.take i) [] b3 (by simp) (fun L ag _=>?_) (fun i L hi ag _=>?_)
 ·rw[nH]at ag;subst ag;simp;(with_reducible repeat' first|refine aj ?_|simp);all_goals first|(refine⟨by unfold lim;omega,?_⟩)|skip
  (with_reducible repeat' first|refine aj ?_|simp);all_goals refine⟨.inl rfl,?_⟩
  all_goals simp[Wc,aT,aW,aQ,kJ,tI,Pv.look,aH,aN]
 ·obtain⟨x,ab,c2⟩:=eZ hi;have p7:=XZ (aE x (fR ab));have aq:L.length≤i:=by rw[ag];simp;omega
  simp[hi,c2];(with_reducible repeat' first|refine aj ?_|refine aB p7 ?_|refine aC p7 ?_|simp[c2,hi]);all_goals first|(refine⟨by unfold lim;omega,?_⟩)|skip
  (with_reducible repeat' first|refine aj ?_|simp);refine bN.rng (L++[x]) hi (by rw[oT ab,ag]) ?_;simp;exact⟨by simp[fresh,aN,aH,cn,inObs,Pv.look,uS],eM (by simp[fresh,aN,aH,cn,inObs,Pv.look,uS]),eN (by simp[fresh,aN,aH,ej,inObs,Pv.look,uS]),by simp⟩
open Classical in
theorem XJ{s:bE}(h:k2 s)(hm:kK s.m){x y:T}(ab:x.fit=true)(aD:y.fit=true)(bx:dG s.n x=true)(gh:dG s.n y=true):bS az 13 [s.e,x.e,y.e] (hI (hd s x y)):=by
 have aS:=X1 h hm ab aD bx gh;have bc:=alX h.1.b ab aD;have bT:=adp s h.1.b.len (fun z aY=>(h.1.d z aY).len) (by have:=oN h.1.k;omega) (hm.len h.1.m);obtain⟨G,hf,aR⟩:=hm;have aE:=Xg h.2;unfold hd;cases hu:mgu s.b [(x,y)]with
 |none=>rw[hu]at bc;have dI:=BE h.1 hf aR;simp only;generalize dM s=O at dI;clear h hu;obtain⟨n,b,d,k,m⟩:=s;simp only[bE.e,A0,AP,vJ,hI,mO]at aS bc bT dI⊢;refine bq gN JI L8 fun aP=>?_;unfold ES;clear aP;simp;(with_reducible repeat' first|refine aj ?_|refine aB aS ?_|refine aC aS ?_|refine aB bc ?_|refine aC bc ?_|simp);refine cM.new bT (dL.of u5 (by simp) (by simp)) aG aG (by simp) ?_;rintro r s' ⟨o,⟨rfl,rfl⟩,rfl⟩;refine⟨fun m hm=>.inr (by simp),?_⟩;simp[A0,b0];exact cB
 |some bV=>
  rw[hu]at bc;by_cases au:cR s.b bV=[]
  ·simp only[if_pos au];simp only[AP,vJ,if_pos au,au,mO]at bc;clear h hu bT au;obtain⟨n,b,d,k,m⟩:=s;simp only[bE.e,hI,jq,ja,fy]at aS bc⊢;refine bq gN JI L8 fun aP=>?_;unfold ES;exact cB
  ·simp only[if_neg au];simp only[AP,vJ,if_neg au]at bc;have dI:=BE (h.1.dif ab aD bx gh hu) hf aR;generalize cR s.b bV=w at bc dI;generalize dM {s with d:=s.d++[w]}=O at dI;clear h hu;obtain⟨n,b,d,k,m⟩:=s;simp only[bE.e,A0,hI]at aS bc bT dI⊢;generalize lh:d++[w]=D at dI;have hw:cy w= .slice 5 .no (w.map ak.e):=rfl;refine bq gN JI L8 fun aP=>?_;unfold ES;clear aP;simp only at aE;simp;(with_reducible repeat' first|refine aj ?_|refine aB aS ?_|refine aC aS ?_|refine aB bc ?_|refine aC bc ?_|simp);refine cM.new bT (dL.of u5 (by simp) (by simp)) aG aG (by simp) ?_;rintro r s' ⟨o,⟨rfl,rfl⟩,rfl⟩;refine⟨fun m hm=>.inr (by simp),?_⟩;simp[A0,b0];(with_reducible repeat' first|refine aj ?_|simp);all_goals first|(refine⟨by unfold lim;omega,?_⟩)|skip
   rw[←hw,o7,Fe,lh];((with_reducible repeat' first|refine aj ?_|refine aB dI ?_|refine aC dI ?_|simp|((first|apply bG|apply bL|apply bK)<;>intro h<;>try simp at h))<;>(try exact cg));all_goals simp[bp,V0,aT,aW,aQ]
end Go.Proofs.YtohaalphocaebaaGreat
