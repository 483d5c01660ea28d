/- Lists of bindings that no other one implies; what is left of disequalities; states settled. -/
import Derived.Shelf.Sort.Plain
import Derived.Ground.NamesProg
import Derived.Test.YtfeencekjcjalaaGreatDoorProg
import Derived.Sort.OwnSortedInts
import Derived.Lib.OwnBridge
import Derived.Test.YtfeencekjcjalaaGreatDoorQ5
set_option linter.all false
set_option maxHeartbeats 4000000
set_option maxRecDepth 4000
open Bool renaming and_eq_true->cD,eq_iff_iff->ry,false_eq_true->hz,or_eq_true->nL
open Go renaming Program->cz
open Go.Proofs.Tryz renaming prog->ar
open Go.Value renaming cells->nM,int->pf
open List renaming all_eq_true->jL,cons_append->bX,drop->oB,drop_eq_getElem_cons->mh,getElem?_append_left->rB,getElem?_eq_getElem->cl,getElem?_eq_none->rC,getElem?_eq_some_iff->fy,getElem_of_mem->oC,length_append->hq,length_drop->sq,map_cons->fA,mem_append->kr,mem_cons->gp,mem_filter->nN,mem_map->iL,mem_of_getElem?->eQ,nil_append->b3,pairwise_iff_getElem->qN,take_of_length_le->gC
open List.Nodup renaming length_le_of_subset->Qb
open List.Pairwise renaming imp_of_mem->arS
open List.Perm renaming eq_of_pairwise->Qc
open List.cons renaming injEq->rA
open Nat renaming le_refl->eR
open Ne renaming symm->k8
open Option renaming bind_eq_some_iff->nP,getD_none->oD,getD_some->mi,map_eq_some_iff->gD
open Option.some renaming inj->fK,injEq->dv
open Prod.mk renaming injEq->hN
open _root_ renaming Option->aW,UInt8->bV,beq_iff_eq->dS,congrArg->eu,decide_eq_false->pj,decide_eq_false_iff_not->iq,decide_eq_true->oE,decide_eq_true_eq->e8
namespace Go.Proofs
section
open Go.Shelf
def Tryz.lays191_ren:Go.Shelf.Ren:=⟨fun|191=>242|189=>254|125=>207|257=>257|128=>233|129=>227|294=>258|295=>259|296=>260|297=>261|298=>262|299=>263|216=>264|300=>265|301=>266|328=>267|329=>268|330=>269|331=>270|332=>271|215=>272|343=>273|n=>n,fun|28=>128|0=>0|3=>3|46=>178|51=>231|53=>211|4=>4|183=>256|182=>255|131=>222|5=>5|9=>9|218=>261|222=>246|228=>264|229=>251|n=>n,fun|n=>n⟩
theorem Tryz.lays191:Go.Proofs.Lays.n191 ar Tryz.lays191_ren:={
 mixed:=an
 f125:=Tryz.func207.trans (eu some an)
 f128:=Tryz.func233.trans (eu some an)
 f129:=Tryz.func227.trans (eu some an)
 f189:=Tryz.func254.trans (eu some an)
 f191:=Tryz.func242.trans (eu some an)
 f215:=Tryz.func272.trans (eu some an)
 f216:=Tryz.func264.trans (eu some an)
 f257:=Tryz.func257.trans (eu some an)
 f294:=Tryz.func258.trans (eu some an)
 f295:=Tryz.func259.trans (eu some an)
 f296:=Tryz.func260.trans (eu some an)
 f297:=Tryz.func261.trans (eu some an)
 f298:=Tryz.func262.trans (eu some an)
 f299:=Tryz.func263.trans (eu some an)
 f300:=Tryz.func265.trans (eu some an)
 f301:=Tryz.func266.trans (eu some an)
 f328:=Tryz.func267.trans (eu some an)
 f329:=Tryz.func268.trans (eu some an)
 f330:=Tryz.func269.trans (eu some an)
 f331:=Tryz.func270.trans (eu some an)
 f332:=Tryz.func271.trans (eu some an)
 f343:=Tryz.func273.trans (eu some an)
 t0:=Tryz.underlying0
 a0:=Tryz.isAgg0
 z0:=Tryz.sizeOf0
 v0:=Tryz.zeroValue0
 t3:=Tryz.underlying3
 a3:=Tryz.isAgg3
 z3:=Tryz.sizeOf3
 v3:=Tryz.zeroValue3
 t4:=Tryz.underlying4
 a4:=Tryz.isAgg4
 z4:=Tryz.sizeOf4
 v4:=Tryz.zeroValue4
 t5:=Tryz.underlying5
 a5:=Tryz.isAgg5
 z5:=Tryz.sizeOf5
 v5:=Tryz.zeroValue5
 t9:=Tryz.underlying9
 a9:=Tryz.isAgg9
 z9:=Tryz.sizeOf9
 v9:=Tryz.zeroValue9
 t28:=Tryz.underlying128
 a28:=Tryz.isAgg128
 z28:=Tryz.sizeOf128
 v28:=Tryz.zeroValue128
 t46:=Tryz.underlying178
 a46:=Tryz.isAgg178
 z46:=Tryz.sizeOf178
 v46:=Tryz.zeroValue178
 t51:=Tryz.underlying231
 a51:=Tryz.isAgg231
 z51:=Tryz.sizeOf231
 v51:=Tryz.zeroValue231
 t53:=Tryz.underlying211
 a53:=Tryz.isAgg211
 z53:=Tryz.sizeOf211
 v53:=Tryz.zeroValue211
 t131:=Tryz.underlying222
 a131:=Tryz.isAgg222
 z131:=Tryz.sizeOf222
 v131:=Tryz.zeroValue222
 t182:=Tryz.underlying255
 a182:=Tryz.isAgg255
 z182:=Tryz.sizeOf255
 v182:=Tryz.zeroValue255
 t183:=Tryz.underlying256
 a183:=Tryz.isAgg256
 z183:=Tryz.sizeOf256
 v183:=Tryz.zeroValue256
 t218:=Tryz.underlying261
 a218:=Tryz.isAgg261
 z218:=Tryz.sizeOf261
 v218:=Tryz.zeroValue261
 t222:=Tryz.underlying246
 a222:=Tryz.isAgg246
 z222:=Tryz.sizeOf246
 v222:=Tryz.zeroValue246
 t228:=Tryz.underlying264
 a228:=Tryz.isAgg264
 z228:=Tryz.sizeOf264
 v228:=Tryz.zeroValue264
 t229:=Tryz.underlying251
 a229:=Tryz.isAgg251
 z229:=Tryz.sizeOf251
 v229:=Tryz.zeroValue251}
end
end Go.Proofs

namespace Go.Proofs.YtfeencekjcjalaaGreatDoor
section
open Go Go.Pv
def eS(xs:List Int):List ah:=xs.map (ah.int .i64)
theorem Zq{w:World}{Z:aZ}:∀{xs:List Int} {us:List Value},di w Z 1 (eS xs) us->us=xs.map (pf .i64)
 |[],us,h=>by simpa[eS,di]using h
 |x::xs,us,h=>by simp only[eS,fA,di]at h;obtain⟨u,a,rfl,⟨J,_,_⟩,U⟩:=h;simp only[aS]at J;subst J;rw[Zq U];rfl
theorem Wj(w:World)(Z:aZ):∀xs:List Int,di w Z 1 (eS xs) (xs.map (pf .i64))
 |[]=>by simp[eS,di]
 |x::xs=>by simp only[eS,fA,di];exact⟨.int .i64 x,_,rfl,⟨by simp[aS],rfl,by intro c ax;simp[nM]at ax;subst ax;rfl⟩,Wj w Z xs⟩
def nT(K:Nat)(xs:List Int):cM:=⟨[],[(.obj K,⟨xs.length,3,1,some (eS xs)⟩)]⟩
theorem uD(S:aB->Prop)(xs:List Int):aA S (eS xs):=by
 induction xs with
 |nil=>simp[eS,aA]
 |cons x r a=>simp only[eS,fA,aA,av];exact⟨trivial,a⟩
theorem J2(K:Nat)(xs:List Int):ek (nT K xs):=by unfold nT;refine ek.of ⟨by intro m;simp[Pv.look],by intro m;simp[Pv.look]⟩ Ψ ?_;intro x a ys b;simp at a;subst a;simp at b;subst b;exact uD _ xs
def se(xs:List Int):List Int:=xs.mergeSort fun x y=>decide (x<=y)
theorem ZN(xs:List Int):(se xs).length=xs.length:=List.length_mergeSort xs
theorem ahv(K:Nat)(xs:List Int)(aq:xs.length<=1000000):bK ar 242 [.row 1 (.obj K) xs.length] (nT K xs) fun r N=>r= .tuple []/\N=nT K (se xs):=by
 refine bK.sem (J2 K xs).obj fun w Z ba _ E f=>?_;refine .inl ⟨⟨Tryz.f242,Tryz.func242,by kernel_rfl,by kernel_rfl⟩,?_⟩;have c:=f.slot 0;simp only[j5,Pv.get,if_true]at c;have h:Pv.look (.obj K) (nT K xs).e=some ⟨xs.length,3,1,some (eS xs)⟩:=by simp[nT,Pv.look]
 obtain⟨v,us,x,m,Y,G⟩:=f.good.own (.obj K) _ h;obtain⟨X,D,V⟩:=G _ rfl;have B:=Zq D;subst B;simp only[aS]at c;obtain⟨⟨Q,KO,y⟩,_,n',u,d,aC,M⟩:=c;rw[x]at d;simp only[dv,hN]at d;obtain⟨rfl,rfl⟩:=d;have t:=M rfl;have z:ba= #[v]:=by
  have J:ba.size=1:=by simpa using E
  apply Array.ext (by simpa using J);intro i U p;simp at p;subst p;rw[<-t];simp[Array.getD,J]
 have H:v≠ .slice none 0 0:=by rw[<-t,y];simp
 obtain⟨g,cap,rfl,_,A,S,O,DY,R⟩:=Lib.holds_of_ownsRow m H;have ax:=Any.sort_Ints Tryz.lays191 g 0 cap xs w R A Ω;subst z;refine ax.mono ?_;rintro e w' ⟨rfl,n,os,rfl⟩;have b:=ZN xs;have l:=Lib.ownsRow_putRow (q:=n) (k:=xs.length) (ys:=se xs) m b (eR _);rw[gC Ω]at l;obtain⟨L,W,_⟩:=f.setRowM (w':=Sort.putRow (pf .i64) (Sort.ahead w n) g 0 (se xs).toArray) h rfl x (bl:=g) rfl (v':= .slice (some ⟨g,0,none⟩) xs.length cap) rfl (xs':=eS (se xs)) (us:=(se xs).map (pf .i64)) (.inl ⟨by simp[eS,b],rfl⟩) rfl rfl rfl
  (fun j P=>by simp[Sort.putRow,Sort.mapBlock,Sort.ahead,Array.getElem?_modify,k8 P]) (by simp[Sort.putRow,Sort.mapBlock,Sort.ahead]) (by simpa[eS,b]using l) (Wj _ _ _)
 have F:=L.grown (w':=Sort.grow (Sort.putRow (pf .i64) (Sort.ahead w n) g 0 (se xs).toArray) os) ⟨rfl,rfl,rfl,Ψ,fun k a _=>Sort.heap_grow_old _ _ a⟩;refine⟨_,_,_,_,.tuple [],nT K (se xs),rfl,F,by simp[aS,cH],by simp[nT,hb],?_,?_,?_,(J2 K _).obj,by simp[av,aA],rfl,rfl⟩
 ·simp[nT,hb,inObs,Pv.look]
 ·intro k cs a;simp[nT,Pv.look]at a
 ·intro k o a;have hm:=uF a;simp[nT]at hm;obtain⟨rfl,rfl⟩:=hm;refine⟨by simp[nT,Pv.look,cB,eS,b],.inr (by simp[a]),fun ys s=>?_⟩;simp at s;subst s;exact uD _ _
def pw(l:List Int):List ah:=k1 (l.map fun x=>(x,.bool true))
theorem nB(S:aB->Prop)(l:List Int):aA S (pw l):=by
 have:∀l:List Int,aA S (ld (l.map fun x=>(x,.bool true))):=by
  intro l;induction l with
  |nil=>simp[ld,aA]
  |cons x r a=>simp[ld,aA,a,av]
 simp[pw,k1,aA,this,av]
def Ke(v:Int)(l:List Int):List Int:=if v∈l then l else l++[v]
theorem QD(k:Int):∀l:List Int,qd k (.bool true) (l.map fun x=>(x,ah.bool true))=if k∈l then some (l.map fun x=>(x,ah.bool true))else none
 |[]=>rfl
 |i::r=>by
  by_cases h:k=i
  ·simp[qd,h]
  ·by_cases U:k∈r<;>simp[qd,h,U,QD k r]
@[simp]theorem auN(k:Int)(l:List Int):pR .i (.int .i64 k) (.bool true) (pw l)=some (pw (Ke k l)):=by
 simp only[pw,XI,Gl,QD,Ke];split<;>rename_i h
 ·split at h
  ·simp at h;subst h;simp[*]
  ·cases h
 ·split at h
  ·cases h
  ·simp[*]
@[simp]theorem ar6:pw []=k1 []:=rfl
@[simp]theorem auY(l:List Int):ik (pw l)=false:=rfl
@[simp]theorem au6(m:aB)(l:List Int):zS m (pw l)=some (b0 l.length [] m):=by simp[pw]
theorem akC(f:aB->aW (List ah))(fS mk:aB)(n:Nat)(seen:List Nat)(b:Nat)(l:List Int)(x:Int)(hi:f fS=some (b0 n (seen++[b]) mk))(hm:f mk=some (pw l))(a:n=l.length)(c:l[b]? =some x):qz f (.ptr fS 0)=some (True,.tuple [.int .i64 x,.bool true]):=by rw[Xv f fS mk n seen b _ hi hm (by simpa using a)];simp[c]
theorem adA{st:bh}{d:Nat}{K:bh->Prop}{fS mk:aB}{n:Nat}{seen:List Nat}{l:List Int}(hi:Pv.look fS st.b=some (b0 n seen mk))(hm:Pv.look mk st.b=some (pw l))(c:n=l.length)
  (J:(∀b,b<l.length->b∈seen)->K {st with t:=Pv.put d (.tuple [.bool false]) st.t}) (U:∀b x,l[b]? =some x->b∉seen->K {st with t:=Pv.put d (.tuple [.bool true,.int .i64 x,.bool true]) st.t,b:=cB fS (b0 n (seen++[b]) mk) st.b}):
  tZ st d (.ptr fS 0) K:=by
 refine TN hi hm (by simpa using c) (fun h=>J fun b ae=>h b Ω) (fun b k v ae f=>?_);simp only[List.getElem?_map,gD]at ae;obtain⟨x,e,a⟩:=ae;simp only[hN]at a;obtain⟨rfl,rfl⟩:=a;exact U b x e f
def _root_.Go.Pv.T.fold{α:Type}(f:Int->α->α):T->α->α
 | .var n,a=>f n a
 | .pair x y,a=>y.fold f (x.fold f a)
 |_,a=>a
theorem Uw{α:Type}(S:α->cM)(dC:∀a,ek (S a))(fE:∀a b,Same (S a) (S b))(g:Nat)(cZ:List ah)(ax:∀a,aA (inObs (S a)) cZ)(dr:cK cZ=cZ)(f:Int->α->α)(l:∀v a,bK ar g (.int .i64 v::cZ) (S a) fun r e=>r= .tuple []/\e=S (f v a))(t:T):
  ∀a,bK ar 131 [t.e,.func g cZ] (S a) fun r e=>r= .tuple []/\e=S (t.fold f a):=by
 have c:∀a m,Pv.look (.loc m) (S a).b=none:=fun a=>(dC a).obj.1;have hu:∀a m cs,cB (.loc m) cs (S a).b=(S a).b++[(.loc m,cs)]:=fun a m cs=>kL (c a m);have ak:∀a m,aB.loc m∉dh (S a):=fun a=>kD (dC a).obj;induction t with
 |pair x y k j=>intro a;have d:=dC a;refine bK.mk mixed gR Tryz.func131 B6 Ψ d.obj fun i h=>?_;unfold yA;simp[hu,ak,cV,c,dr];(with_reducible repeat' first|refine al ?_|simp[hu,ak,cV,c]);refine cC.ob (k a) d aL aL (by simp[ax]) ?_;rintro r e ⟨rfl,rfl⟩;refine⟨fE _ _,?_⟩;simp[hy,js,bZ,c];(with_reducible repeat' first|refine al ?_|simp[hu,ak,cV,c]);rw[dr];refine cC.ob (j (x.fold f a)) (dC (x.fold f a)) aL aL (by simp[ax]) ?_;rintro r e ⟨rfl,rfl⟩;refine⟨fE _ _,?_⟩;simp[hy,js,bZ,c];refine cO.at (S (y.fold f (x.fold f a))) (.inr rfl) (dC _) (fE _ _) aL aL ?_;simp[cT,aX,a1,aV];simp[T.fold]
 |var n=>intro a;have d:=dC a;refine bK.mk mixed gR Tryz.func131 B6 Ψ d.obj fun i h=>?_;unfold yA;simp[hu,ak,cV,c,dr];(with_reducible repeat' first|refine al ?_|simp[hu,ak,cV,c]);refine cC.ob (l n a) d aL aL (by simp[ax]) ?_;rintro r e ⟨rfl,rfl⟩;refine⟨fE _ _,?_⟩;simp[hy,js,bZ,c,cV];refine cO.at (S (f n a)) (.inr rfl) (dC _) (fE _ _) aL aL ?_;simp[cT,aX,a1,aV];simp[T.fold]
 |_=>intro a;have d:=dC a;refine bK.mk mixed gR Tryz.func131 B6 Ψ d.obj fun i h=>?_;unfold yA;simp[hu,ak,cV,c,dr];(with_reducible repeat' first|refine al ?_|simp[hu,ak,cV,c]);refine cO.at (S a) (.inr rfl) d (Same.refl _) aL aL ?_;simp[cT,aX,a1,aV];simp[T.fold]
def ve(l:List Int):cM:=⟨[(.obj 304,pw l)],[]⟩
theorem Qm(l:List Int):ek (ve l):=by unfold ve;exact ek.of ⟨by intro m;simp[Pv.look],by intro m;simp[Pv.look]⟩ (by simp[nB,aA,av,inObs,Pv.look]) Ψ
def Ry:C:=(aa [fk 2 4,fk 3 4] (aa [eD 8 4 71 [],I 4 8] (aa [eD 9 4 71 [],I 5 9] (.seq (aa [I 10 0,cp 11 10,b1 12 0] (fR 13 12 11 (.seq (.block 1 (aa [cx 14 5 10 12,bg 15 5 14,eg 7 ko,b7 5 7 15] (aa [I 16 4,aH 17 0 1 7,aw 18 1 17,cG 19 50 18,eD 20 4 71 [.t 19],hW 21 4 71 16 20,I 4 21] (.region [I 22 5,h9 23 1 4 7,bg 24 4 23,eD 25 4 71 [.t 24],hW 26 4 71 22 25,I 5 26])))) (.region [aT 27 .add 12 1,I 12 27])))) (aa [I 28 4,I 29 5,I 2 28,I 3 29] .ret)))))
def Ks:C:=(aa [dc 1 0,bt 2 false] (.seq (.seq (.fz false 1 (.region [aw 6 1 1,cG 7 130 6,cJ 8 7])) (aU 8 (aa [bt 2 false] .ret) .skip)) (.seq (aa [aw 9 1 1,cp 10 9,b1 11 0] (fR 12 11 10 (.seq (.block 1 (aa [cx 13 5 9 11,bg 14 5 13,eg 4 ko,b7 5 4 14] (aa [c8 (.alloc 5 (some 731) (.bool false)),c8 (.store 1 (.t 5) (.c (.bool true)))] (aa [h9 15 1 4 4,bg 16 4 15,bG 17 (.mkf 132 [.t 1,.t 5]),cq 18 131 16 17] (aa [aw 19 1 5,cJ 20 19,I 21 20,ay 21 false (h9 22 1 4 4),ay 21 false (aH 23 0 1 22),ay 21 false (aw 24 1 23),ay 21 false (aT 25 .eql 24 1),cg 21 false 26 25,ay 26 true (h9 27 1 4 4),ay 26 true (aH 28 1 1 27),ay 26 true (aw 29 1 28),ay 26 true (aH 30 0 1 4),ay 26 true (aw 31 1 30),ay 26 true (bp 32 .geq 29 31),ay 21 false (ef 33 26 32),dy 34 21 33] (aU 34 (aa [bt 2 false] .ret) .skip)))))) (.region [aT 35 .add 11 1,I 11 35])))) (aa [bt 2 true] .ret))))
def Kt:C:=(aa [aw 4 1 1,I 5 0,cq 6 55 4 5,aT 7 .geq 6 0] (aU 7 (.region [c8 (.store 1 (.t 2) (.c (.bool false)))]) .skip))
def Ra:C:=(aa [fk 4 5,bt 5 false] (.seq (aa [I 8 0,cG 9 82 8,cJ 10 9,I 11 10,cg 11 false 12 1,ay 11 false (cG 13 82 12),ay 11 false (cJ 14 13),dy 15 11 14] (aU 15 (aa [fk 4 5,bt 5 false] .ret) .skip)) (aa [I 17 1,cG 18 48 17,I 16 18,dn 19 0 16,dn 20 1 16,I 6 19,I 7 20] (aa [I 21 0,I 22 6,I 23 7,dU 24 169 [.t 21,.t 22,.t 23],dn 25 0 24,dn 26 1 24,I 4 25,I 5 26] .ret))))
def Rg:C:=(aa [fk 4 5] (.seq (aa [I 8 0,cG 9 82 8,cJ 10 9,I 11 10,cg 11 false 12 1,ay 11 false (cG 13 82 12),ay 11 false (cJ 14 13),dy 15 11 14] (aU 15 (aa [fk 4 5] .ret) .skip)) (aa [eD 16 5 74 [],I 5 16] (.seq (aa [I 17 1,cp 18 17,b1 19 0] (fR 20 19 18 (.seq (.block 1 (aa [cx 21 5 17 19,bg 22 5 21,eg 7 ko,b7 5 7 22] (aa [I 23 0,aH 24 0 1 7,aw 25 1 24,cq 26 55 23 25,aT 27 .lss 26 0] (aU 27 (.drawn true 39 [I 28 5,aH 29 0 1 7,aw 30 1 29,h9 31 1 4 7,bg 32 4 31,cG 33 170 32,mf 34 ko [(0,1,(.t 30)),(1,4,(.t 33))],eD 35 5 74 [.t 34],hW 36 5 74 28 35,I 5 36]) .skip)))) (.region [aT 37 .add 19 1,I 19 37])))) (aa [I 38 5,I 4 38] .ret)))))
def Rw:C:=(aa [fk 2 5] (aa [eD 6 5 74 [],I 3 6] (.seq (aa [I 7 0,cp 8 7,b1 9 0] (fR 10 9 8 (.seq (.block 1 (aa [cx 11 5 7 9,bg 12 5 11,eg 5 ko,b7 5 5 12] (.drawn true 24 [I 13 3,aH 14 0 1 5,aw 15 1 14,h9 16 1 4 5,bg 17 4 16,cG 18 170 17,mf 19 ko [(0,1,(.t 15)),(1,4,(.t 18))],eD 20 5 74 [.t 19],hW 21 5 74 13 20,I 3 21]))) (.region [aT 22 .add 9 1,I 9 22])))) (aa [I 23 3,I 2 23] .ret))))
def Kx:C:=(aa [bt 4 false] (.seq (aa [I 6 0,cp 7 6,I 8 1,cp 9 8,bp 10 .neq 7 9] (aU 10 (aa [bt 4 false] .ret) .skip)) (.seq (aa [I 11 0,cp 12 11,b1 13 0] (fR 14 13 12 (.seq (.block 1 (aa [I 15 13,I 5 15] (.seq (.drawn true 42 [I 16 0,I 17 5,cx 18 5 16 17,aH 19 0 1 18,aw 20 1 19,I 21 1,I 22 5,cx 23 5 21 22,aH 24 0 1 23,aw 25 1 24,bp 26 .neq 20 25,I 27 26,cg 27 false 28 0,cg 27 false 29 5,ay 27 false (cx 30 5 28 29),ay 27 false (h9 31 1 4 30),ay 27 false (bg 32 4 31),cg 27 false 33 1,cg 27 false 34 5,ay 27 false (cx 35 5 33 34),ay 27 false (h9 36 1 4 35),ay 27 false (bg 37 4 36),ay 27 false (cq 38 145 32 37),ay 27 false (cJ 39 38),dy 40 27 39]) (aU 40 (aa [bt 4 false] .ret) .skip)))) (.region [aT 41 .add 13 1,I 13 41])))) (aa [bt 4 true] .ret))))
def RF:C:=(aa [b1 4 0] (.seq (aa [b1 5 0] (.block 0 (.loop (.seq (aa [I 8 5,I 9 0,cp 10 9,bp 11 .lss 8 10,I 12 11,cg 12 true 13 5,cg 12 true 14 1,ay 12 true (cp 15 14),ay 12 true (bp 16 .lss 13 15),ef 17 12 16] (aU 17 .skip (.exit 0))) (.seq (.block 1 (.seq (.seq (.drawn true 53 [I 20 0,I 21 5,cx 22 5 20 21,aH 23 0 1 22,aw 24 1 23,I 25 1,I 26 5,cx 27 5 25 26,aH 28 0 1 27,aw 29 1 28,cq 30 199 24 29,I 6 30]) (aa [I 31 6,aT 32 .neq 31 0] (aU 32 (aa [I 33 6,I 4 33] .ret) .skip))) (.seq (.drawn true 53 [I 34 0,I 35 5,cx 36 5 34 35,h9 37 1 4 36,bg 38 4 37,I 39 1,I 40 5,cx 41 5 39 40,h9 42 1 4 41,bg 43 4 42,cq 44 178 38 43,I 7 44]) (aa [I 45 7,aT 46 .neq 45 0] (aU 46 (aa [I 47 7,I 4 47] .ret) .skip))))) (.region [I 18 5,aT 19 .add 18 1,I 5 19])))))) (aa [I 48 0,cp 49 48,I 50 1,cp 51 50,cq 52 199 49 51,I 4 52] .ret)))
def RC:C:=(aa [bt 4 false] (.seq (aa [I 11 0,cp 12 11,b1 13 0] (fR 14 13 12 (.seq (.block 1 (aa [cx 15 5 11 13,bg 16 5 15,eg 6 ko,b7 5 6 16] (aa [I 18 1,aH 19 0 1 6,aw 20 1 19,cG 21 50 20,cq 22 59 18 21,I 17 22,dn 23 0 17,dn 24 1 17,eg 7 eI,b7 4 7 23,I 8 24] (aa [I 26 1,h9 27 1 4 6,bg 28 4 27,cq 29 59 26 28,I 25 29,dn 30 0 25,dn 31 1 25,eg 9 eI,b7 4 9 30,I 10 31] (aa [I 32 8,cJ 33 32,I 34 33,cg 34 false 35 10,ay 34 false (cJ 36 35),dy 37 34 36,I 38 37,ay 38 false (bg 39 4 7),ay 38 false (bg 40 4 9),ay 38 false (cq 41 145 39 40),ay 38 false (cJ 42 41),dy 43 38 42] (aU 43 (aa [bt 4 false] .ret) .skip)))))) (.region [aT 44 .add 13 1,I 13 44])))) (aa [bt 4 true] .ret)))
def u0:List (Nat×dE):=[
 (3,⟨1,8,.int .i64,.int .i64 0⟩),
 (4,⟨1,1,.bool,.bool false⟩),
 (30,⟨1,24,.slice 74,.slice 5 .nil []⟩),
 (44,⟨1,24,.slice 71,.slice 4 .nil []⟩),
 (71,⟨4,56,.struct [(0,3),(1,3),(2,9),(3,44)],.agg [.int .i64 0,.int .i64 0,.str [],.slice 4 .nil []]⟩),
 (74,⟨5,64,.struct [(0,3),(1,71)],.agg [.int .i64 0,.int .i64 0,.int .i64 0,.str [],.slice 4 .nil []]⟩)]
theorem sk:e6 ar u0=true:=an
theorem alO:b4 u0 Ry [.tmp 2,.tmp 3] 1 Tryz.f48=true:=an
theorem XW:b4 u0 Ks [.tmp 2] 1 Tryz.f82=true:=an
theorem XX:b4 u0 Kt [] 3 Tryz.f132=true:=an
theorem alq:b4 u0 Ra [.tmp 4,.tmp 5] 2 Tryz.f138=true:=an
theorem alw:b4 u0 Rg [.tmp 4] 2 Tryz.f139=true:=an
theorem alM:b4 u0 Rw [.tmp 2] 1 Tryz.f141=true:=an
theorem X1:b4 u0 Kx [.tmp 4] 2 Tryz.f142=true:=an
theorem alV:b4 u0 RF [.tmp 4] 2 Tryz.f173=true:=an
theorem alS:b4 u0 RC [.tmp 4] 2 Tryz.f174=true:=an
def RQ:C:=(aa [eg 2 eI] (aa [I 3 0,mf 4 eI [(0,1,(gi 1)),(1,1,(.t 3))],b7 4 2 4] .ret))
def RD:C:=(aa [bG 0 (.mov (.c (.nilp)))] (aa [c8 (.mkmap 1 (some 702)),c8 (.mkmap 2 (some 703)),c8 (.mkmap 3 (some 704)),c8 (.mkmap 4 (some 705)),c8 (.mkmap 5 (some 706)),c8 (.mkmap 6 (some 707)),bG 7 (.build [.junk,.junk,.junk,.junk,.junk,.junk] [(0,1,(.t 1)),(1,1,(.t 2)),(2,1,(.t 3)),(3,1,(.t 4)),(4,1,(.t 5)),(5,1,(.t 6))]),dc 8 7,I 0 8] (.fz true 0 .ret)))
def Rs:C:=(aa [b1 4 0] (.seq (aa [I 8 0,fQ 9 8,aH 10 0 1 9,aw 11 1 10,I 12 1,bG 13 (.mget .i (.int .i64 0) true (.t 11) (.t 12)),I 7 13,dn 14 0 7,dn 15 1 7,I 5 14,I 6 15] (aa [I 16 6,cJ 17 16] (aU 17 (.region [I 18 0,fQ 19 18,aH 20 0 1 19,aw 21 1 20,I 22 1,I 23 1,c8 (.mput .i (.t 21) (.t 22) (.t 23))]) .skip))) (.seq (.block 0 (.loop (.seq (aa [I 24 0,fQ 25 24,aH 26 0 1 25,aw 27 1 26,I 28 1,bG 29 (.mget .i (.int .i64 0) false (.t 27) (.t 28)),I 30 1,bp 31 .neq 29 30] (aU 31 .skip (.exit 0))) (.block 1 (.seq (.drawn true 55 [I 32 0,fQ 33 32,aH 34 0 1 33,aw 35 1 34,I 36 1,I 37 0,fQ 38 37,aH 39 0 1 38,aw 40 1 39,I 41 0,fQ 42 41,aH 43 0 1 42,aw 44 1 43,I 45 1,bG 46 (.mget .i (.int .i64 0) false (.t 44) (.t 45)),bG 47 (.mget .i (.int .i64 0) false (.t 40) (.t 46)),c8 (.mput .i (.t 35) (.t 36) (.t 47))]) (.region [I 48 0,fQ 49 48,aH 50 0 1 49,aw 51 1 50,I 52 1,bG 53 (.mget .i (.int .i64 0) false (.t 51) (.t 52)),I 1 53])))))) (aa [I 54 1,I 4 54] .ret))))
def Ro:C:=(aa [dc 2 0,dc 3 1] (.fz false 2 (.region [bg 4 4 3,bG 5 (.mkf 209 [.t 2]),cq 6 131 4 5])))
def wZ:C:=(aa [dc 4 1,dc 5 2,bt 6 false] (.seq (.block 0 (aa [aH 12 0 1 4,aw 13 1 12,aT 14 .eql 13 1,I 15 14,ay 15 true (aH 16 0 1 5),ay 15 true (aw 17 1 16),ay 15 true (aT 18 .eql 17 1),ef 19 15 18,I 11 19] (aU 11 (aa [I 20 0,aH 21 1 1 4,aw 22 1 21,cq 23 191 20 22,I 7 23] (aa [I 24 0,aH 25 1 1 5,aw 26 1 25,cq 27 191 24 26,I 8 27] (.seq (aa [I 28 7,I 29 8,bp 30 .eql 28 29] (aU 30 (aa [bt 6 true] .ret) .skip)) (.seq (aa [I 31 8,I 32 7,bp 33 .lss 31 32] (aU 33 (.region [I 34 8,I 35 7,I 7 34,I 8 35]) .skip)) (aa [I 36 0,fQ 37 36,aH 38 0 1 37,aw 39 1 38,I 40 8,I 41 7,c8 (.mput .i (.t 39) (.t 40) (.t 41))] (.seq (aa [I 42 0,fQ 43 42,aH 44 2 1 43,aw 45 1 44,I 46 8,bG 47 (.mget .i (.bool false) false (.t 45) (.t 46)),cJ 48 47] (aU 48 (aa [I 49 0,fQ 50 49,aH 51 2 1 50,aw 52 1 51,I 53 7,bG 54 (.mget .i (.bool false) false (.t 52) (.t 53)),cJ 55 54,I 56 55,cg 56 false 57 0,cg 56 false 58 0,ay 56 false (fQ 59 58),ay 56 false (aH 60 1 1 59),ay 56 false (aw 61 1 60),cg 56 false 62 7,yj 56 false 63 (.mget .i (.agg eI) false (.t 61) (.t 62)),cg 56 false 64 7,ys 56 false (.mkmap 65 (some 715)),ay 56 false (dU 66 210 [.t 57,.t 63,.t 64,.t 65]),ay 56 false (cJ 67 66),dy 68 56 67,I 6 68] .ret) .skip)) (aa [I 69 0,fQ 70 69,aH 71 1 1 70,aw 72 1 71,I 73 8,bG 74 (.mget .i (.agg eI) false (.t 72) (.t 73)),eg 9 eI,b7 4 9 74] (.seq (aa [I 75 0,fQ 76 75,aH 77 2 1 76,aw 78 1 77,I 79 7,bG 80 (.mget .i (.bool false) false (.t 78) (.t 79)),cJ 81 80] (aU 81 (aa [I 82 0,I 83 7,bg 84 4 9,dU 85 211 [.t 82,.t 83,.t 84],I 6 85] .ret) .skip)) (.seq (.drawnW [715,716] 198 [I 86 0,bg 87 4 9,I 88 7,c8 (.mkmap 89 (some 715)),dU 90 210 [.t 86,.t 87,.t 88,.t 89],cJ 91 90,I 92 91,cg 92 true 93 0,cg 92 true 94 0,ay 92 true (fQ 95 94),ay 92 true (aH 96 1 1 95),ay 92 true (aw 97 1 96),cg 92 true 98 7,yj 92 true 99 (.mgetB .i (.agg eI) false (.t 97) (.t 98)),cg 92 true 100 7,ys 92 true (.mkmap 101 (some 716)),ay 92 true (dU 102 210 [.t 93,.t 99,.t 100,.t 101]),ay 92 true (cJ 103 102),ef 104 92 103,I 105 104,cg 105 true 106 0,cg 105 true 107 0,ay 105 true (fQ 108 107),ay 105 true (aH 109 1 1 108),ay 105 true (aw 110 1 109),cg 105 true 111 7,yj 105 true 112 (.mgetB .i (.agg eI) false (.t 110) (.t 111)),ay 105 true (bg 113 4 9),ay 105 true (dU 114 193 [.t 106,.t 112,.t 113]),ef 115 105 114,I 6 115]) .ret))))))))) (aa [aH 117 0 1 4,aw 118 1 117,aT 119 .eql 118 1,I 116 119] (aU 116 (aa [I 120 0,aH 121 1 1 4,aw 122 1 121,cq 123 191 120 122,I 10 123] (.seq (aa [I 124 0,fQ 125 124,aH 126 2 1 125,aw 127 1 126,I 128 10,bG 129 (.mget .i (.bool false) false (.t 127) (.t 128)),cJ 130 129] (aU 130 (aa [I 131 0,I 132 10,bg 133 4 5,dU 134 211 [.t 131,.t 132,.t 133],I 6 134] .ret) .skip)) (.seq (.drawn false 198 [I 135 0,I 136 0,fQ 137 136,aH 138 1 1 137,aw 139 1 138,I 140 10,bG 141 (.mgetB .i (.agg eI) false (.t 139) (.t 140)),bg 142 4 5,dU 143 193 [.t 135,.t 141,.t 142],I 6 143]) .ret))) (aa [aH 145 0 1 5,aw 146 1 145,aT 147 .eql 146 1,I 144 147] (aU 144 (aa [I 148 0,bg 149 4 5,bg 150 4 4,dU 151 193 [.t 148,.t 149,.t 150],I 6 151] .ret) (aa [aH 153 0 1 4,aw 154 1 153,aH 155 0 1 5,aw 156 1 155,bp 157 .neq 154 156,I 158 157,ay 158 false (aH 159 1 1 4),ay 158 false (aw 160 1 159),ay 158 false (aH 161 1 1 5),ay 158 false (aw 162 1 161),ay 158 false (bp 163 .neq 160 162),dy 164 158 163,I 165 164,ay 165 false (aH 166 2 1 4),ay 165 false (aw 167 1 166),ay 165 false (aH 168 2 1 5),ay 165 false (aw 169 1 168),ay 165 false (bp 170 .neq 167 169),dy 171 165 170,I 152 171] (aU 152 (aa [bt 6 false] .ret) (aa [aH 173 0 1 4,aw 174 1 173,aT 175 .eql 174 4,I 172 175] (aU 172 (.seq (.drawn false 198 [I 176 0,aH 177 3 1 4,aw 178 1 177,im 179 4 178 0,bg 180 4 179,aH 181 3 1 5,aw 182 1 181,im 183 4 182 0,bg 184 4 183,dU 185 193 [.t 176,.t 180,.t 184],I 186 185,cg 186 true 187 0,ay 186 true (aH 188 3 1 4),ay 186 true (aw 189 1 188),ay 186 true (im 190 4 189 1),ay 186 true (bg 191 4 190),ay 186 true (aH 192 3 1 5),ay 186 true (aw 193 1 192),ay 186 true (im 194 4 193 1),ay 186 true (bg 195 4 194),ay 186 true (dU 196 193 [.t 187,.t 191,.t 195]),ef 197 186 196,I 6 197]) .ret) .skip))))))))))) (aa [bt 6 true] .ret)))
def Rp:C:=(.region [aw 3 1 1,I 4 0,cq 5 191 3 4])
def Rq:C:=(aa [dc 4 0,dc 5 1,dc 6 2,dc 7 3,bt 8 false] (aa [c8 (.alloc 9 (some 712) (.bool false)),c8 (.store 1 (.t 9) (.c (.bool false)))] (.seq (.fz false 7 (.fz false 6 (.fz false 4 (.region [bg 10 4 5,bG 11 (.mkf 241 [.t 4,.t 9,.t 6,.t 7]),cq 12 131 10 11])))) (aa [aw 13 1 9,I 8 13] .ret))))
def Rn:C:=(aa [dc 5 2,bt 6 false] (.seq (.drawn true 24 [I 7 0,fQ 8 7,aH 9 1 1 8,aw 10 1 9,I 11 1,bg 12 4 5,c8 (.mput .i (.t 10) (.t 11) (.t 12))]) (aa [I 13 0,fQ 14 13,aH 15 2 1 14,aw 16 1 15,I 17 1,c8 (.mput .i (.t 16) (.t 17) (.c (.bool true)))] (aa [I 18 0,bg 19 4 5,I 20 1,c8 (.mkmap 21 (some 715)),dU 22 210 [.t 18,.t 19,.t 20,.t 21],cJ 23 22,I 6 23] .ret))))
def AI:C:=(aa [dc 2 0,bt 4 false] (.seq (.seq (.fz false 2 (.region [aw 6 1 2,fQ 7 6,aH 8 3 1 7,aw 9 1 8,I 10 1,bG 11 (.mget .i (.int .i64 0) false (.t 9) (.t 10)),aT 12 .eql 11 2])) (aU 12 (aa [bt 4 true] .ret) .skip)) (.seq (aa [aw 13 1 2,fQ 14 13,aH 15 3 1 14,aw 16 1 15,I 17 1,bG 18 (.mget .i (.int .i64 0) false (.t 16) (.t 17)),aT 19 .eql 18 1] (aU 19 (aa [bt 4 false] .ret) .skip)) (aa [aw 20 1 2,fQ 21 20,aH 22 3 1 21,aw 23 1 22,I 24 1,c8 (.mput .i (.t 23) (.t 24) (gi 1))] (aa [aw 25 1 2,fQ 26 25,aH 27 4 1 26,aw 28 1 27,I 29 1,c8 (.mput .i (.t 28) (.t 29) (gi 1))] (.seq (aa [aw 30 1 2,fQ 31 30,aH 32 2 1 31,aw 33 1 32,I 34 1,bG 35 (.mget .i (.bool false) false (.t 33) (.t 34))] (aU 35 (aa [c8 (.alloc 5 (some 712) (.bool false)),c8 (.store 1 (.t 5) (.c (.bool true)))] (aa [aw 36 1 2,fQ 37 36,aH 38 1 1 37,aw 39 1 38,I 40 1,bG 41 (.mget .i (.agg eI) false (.t 39) (.t 40)),bG 42 (.mkf 243 [.t 5,.t 2]),cq 43 131 41 42] (.seq (aa [aw 44 1 5,cJ 45 44] (aU 45 (aa [bt 4 false] .ret) .skip)) (.drawn false 64 [aw 46 1 2,fQ 47 46,aH 48 4 1 47,aw 49 1 48,I 50 1,aw 51 1 2,fQ 52 51,aH 53 1 1 52,aw 54 1 53,I 55 1,bG 56 (.mgetB .i (.agg eI) false (.t 54) (.t 55)),bG 57 (.mkf 244 [.t 2]),cq 58 158 56 57,c8 (.mput .i (.t 49) (.t 50) (.t 58))])))) .skip)) (aa [aw 59 1 2,fQ 60 59,aH 61 3 1 60,aw 62 1 61,I 63 1,c8 (.mput .i (.t 62) (.t 63) (gi 2))] (aa [bt 4 true] .ret))))))))
def Gu:C:=(aa [dc 2 0,eg 4 eI] (.seq (.seq (.fz false 2 (.region [aw 9 1 2,fQ 10 9,aH 11 5 1 10,aw 12 1 11,I 13 1,bG 14 (.mget .i (.agg eI) true (.t 12) (.t 13)),I 8 14,dn 15 0 8,dn 16 1 8,eg 5 eI,b7 4 5 15,I 6 16])) (aa [I 17 6] (aU 17 (aa [bg 18 4 5,b7 4 4 18] .ret) .skip))) (aa [I 19 1,cG 20 50 19,eg 7 eI,b7 4 7 20] (.seq (aa [aw 21 1 2,fQ 22 21,aH 23 2 1 22,aw 24 1 23,I 25 1,bG 26 (.mget .i (.bool false) false (.t 24) (.t 25))] (aU 26 (.region [aw 27 1 2,fQ 28 27,aH 29 1 1 28,aw 30 1 29,I 31 1,bG 32 (.mget .i (.agg eI) false (.t 30) (.t 31)),bG 33 (.mkf 245 [.t 2]),cq 34 146 32 33,b7 4 7 34]) .skip)) (.seq (.drawn true 42 [aw 35 1 2,fQ 36 35,aH 37 5 1 36,aw 38 1 37,I 39 1,bg 40 4 7,c8 (.mput .i (.t 38) (.t 39) (.t 40))]) (aa [bg 41 4 7,b7 4 4 41] .ret))))))
def Rr:C:=(aa [aw 7 1 1,I 8 0,cq 9 191 7 8,I 6 9] (.seq (aa [aw 10 1 2,I 11 10,cg 11 false 12 6,ay 11 false (aw 13 1 3),ay 11 false (bp 14 .eql 12 13),dy 15 11 14] (aU 15 (aa [c8 (.store 1 (.t 2) (.c (.bool true)))] .ret) .skip)) (aa [aw 16 1 4,I 17 6,bG 18 (.mget .i (.bool false) false (.t 16) (.t 17)),cJ 19 18,I 20 19,ay 20 true (aw 21 1 1),ay 20 true (fQ 22 21),ay 20 true (aH 23 2 1 22),ay 20 true (aw 24 1 23),cg 20 true 25 6,ay 20 true (bG 26 (.mget .i (.bool false) false (.t 24) (.t 25))),ef 27 20 26] (aU 27 (aa [aw 28 1 4,I 29 6,c8 (.mput .i (.t 28) (.t 29) (.c (.bool true)))] (.drawn false 40 [aw 30 1 1,aw 31 1 1,fQ 32 31,aH 33 1 1 32,aw 34 1 33,I 35 6,bG 36 (.mgetB .i (.agg eI) false (.t 34) (.t 35)),aw 37 1 3,aw 38 1 4,dU 39 210 [.t 30,.t 36,.t 37,.t 38],b7 1 2 39])) .skip))))
def Kv:C:=(.seq (.drawn false 13 [bG 4 (.loadB false 1 (.t 1)),I 5 4,ay 5 true (aw 6 1 2),ay 5 true (aw 7 1 2),cg 5 true 8 0,ay 5 true (cq 9 191 7 8),ay 5 true (cq 10 213 6 9),ay 5 true (cJ 11 10),ef 12 5 11]) (aU 12 (.region [c8 (.store 1 (.t 1) (.c (.bool false)))]) .skip))
def Rv:C:=(aa [b1 3 0] (.seq (.drawn false 12 [aw 4 1 1,fQ 5 4,aH 6 4 1 5,aw 7 1 6,aw 8 1 1,I 9 0,cq 10 191 8 9,bG 11 (.mgetB .i (.int .i64 0) false (.t 7) (.t 10)),I 3 11]) .ret))
def Ru:C:=(aa [eg 3 eI,bt 4 false] (.seq (.drawn false 10 [aw 5 1 1,aw 6 1 1,I 7 0,cq 8 191 6 7,cq 9 214 5 8,b7 4 3 9,bt 4 true]) .ret))
def pZ:List (Nat×dE):=[
 (3,⟨1,8,.int .i64,.int .i64 0⟩),
 (4,⟨1,1,.bool,.bool false⟩),
 (9,⟨1,16,.str,.str []⟩),
 (44,⟨1,24,.slice 71,.slice 4 .nil []⟩),
 (71,⟨4,56,.struct [(0,3),(1,3),(2,9),(3,44)],.agg [.int .i64 0,.int .i64 0,.str [],.slice 4 .nil []]⟩),
 (91,⟨1,8,.map 3 4,.junk⟩),
 (93,⟨1,8,.map 3 3,.junk⟩),
 (194,⟨1,8,.other,.nilp⟩),
 (219,⟨1,8,.map 3 71,.junk⟩),
 (221,⟨6,48,.struct [(0,93),(1,219),(2,91),(3,93),(4,93),(5,219)],.agg [.junk,.junk,.junk,.junk,.junk,.junk]⟩)]
theorem j6:e6 ar pZ=true:=an
theorem al6:b4 pZ RQ [.cell 2 true 4] 1 Tryz.f50=true:=an
theorem alT:b4 pZ RD [.tmp 0] 0 Tryz.f190=true:=an
theorem alI:b4 pZ Rs [.tmp 4] 2 Tryz.f191=true:=an
theorem alE:b4 pZ Ro [] 2 Tryz.f192=true:=an
theorem zK:b4 pZ wZ [.tmp 6] 3 Tryz.f193=true:=an
theorem alF:b4 pZ Rp [] 2 Tryz.f209=true:=an
theorem alG:b4 pZ Rq [.tmp 8] 4 Tryz.f210=true:=an
theorem alD:b4 pZ Rn [.tmp 6] 3 Tryz.f211=true:=an
theorem E4:b4 pZ AI [.tmp 4] 2 Tryz.f213=true:=an
theorem NX:b4 pZ Gu [.cell 4 true 4] 2 Tryz.f214=true:=an
theorem alH:b4 pZ Rr [] 5 Tryz.f241=true:=an
theorem XZ:b4 pZ Kv [] 3 Tryz.f243=true:=an
theorem alL:b4 pZ Rv [.tmp 3] 2 Tryz.f244=true:=an
theorem alK:b4 pZ Ru [.cell 3 true 4,.tmp 4] 2 Tryz.f245=true:=an
end
section
open Go Go.Pv
section
variable {α:Type} (S:α->cM) (dC:∀a,ek (S a)) (fE:∀a b,Same (S a) (S b)) (g:Nat) (cZ:List ah) (ax:∀a,aA (inObs (S a)) cZ) (dr:cK cZ=cZ)
include dC fE ax dr in
theorem Ux(e:α->Prop)(f:Int->α->aW α)(o:∀v a bo,e a->f v a=some bo->e bo/\bK ar g (.int .i64 v::cZ) (S a) fun r d=>r= .tuple []/\d=S bo)(t:T):
  ∀a bo,e a->t.foldO f a=some bo->e bo/\bK ar 131 [t.e,.func g cZ] (S a) fun r d=>r= .tuple []/\d=S bo:=by
 have b:∀a m,Pv.look (.loc m) (S a).b=none:=fun a=>(dC a).obj.1;have hu:∀a m cs,cB (.loc m) cs (S a).b=(S a).b++[(.loc m,cs)]:=fun a m cs=>kL (b a m);have ak:∀a m,aB.loc m∉dh (S a):=fun a=>kD (dC a).obj;induction t with
 |pair x y l k=>intro a bo hi he;have c:=dC a;simp only[T.foldO,nP]at he;obtain⟨h,J,U⟩:=he;obtain⟨i1,g1⟩:=l a h hi J;obtain⟨i2,g2⟩:=k h bo i1 U;refine⟨i2,?_⟩;refine bK.mk mixed gR Tryz.func131 B6 Ψ c.obj fun j i=>?_;unfold yA;simp[hu,ak,cV,b,dr];(with_reducible repeat' first|refine al ?_|simp[hu,ak,cV,b]);refine cC.ob g1 c aL aL (by simp[ax]) ?_;rintro r d ⟨rfl,rfl⟩;refine⟨fE _ _,?_⟩;simp[hy,js,bZ,b];(with_reducible repeat' first|refine al ?_|simp[hu,ak,cV,b]);rw[dr];refine cC.ob g2 (dC h) aL aL (by simp[ax]) ?_;rintro r d ⟨rfl,rfl⟩;refine⟨fE _ _,?_⟩;simp[hy,js,bZ,b];refine cO.at (S bo) (.inr rfl) (dC _) (fE _ _) aL aL ?_;simp[cT,aX,a1,aV]
 |var n=>intro a bo hi he;have c:=dC a;simp only[T.foldO]at he;obtain⟨i1,g1⟩:=o n a bo hi he;refine⟨i1,?_⟩;refine bK.mk mixed gR Tryz.func131 B6 Ψ c.obj fun j i=>?_;unfold yA;simp[hu,ak,cV,b,dr];(with_reducible repeat' first|refine al ?_|simp[hu,ak,cV,b]);refine cC.ob g1 c aL aL (by simp[ax]) ?_;rintro r d ⟨rfl,rfl⟩;refine⟨fE _ _,?_⟩;simp[hy,js,bZ,b,cV];refine cO.at (S bo) (.inr rfl) (dC _) (fE _ _) aL aL ?_;simp[cT,aX,a1,aV]
 |_=>intro a bo hi he;have c:=dC a;simp only[T.foldO,dv]at he;subst he;refine⟨hi,?_⟩;refine bK.mk mixed gR Tryz.func131 B6 Ψ c.obj fun j i=>?_;unfold yA;simp[hu,ak,cV,b,dr];(with_reducible repeat' first|refine al ?_|simp[hu,ak,cV,b]);refine cO.at (S a) (.inr rfl) c (Same.refl _) aL aL ?_;simp[cT,aX,a1,aV]
include dC fE ax dr in
theorem Lz(f:Int->α->aW α)(c:∀v a bo,f v a=some bo->bK ar g (.int .i64 v::cZ) (S a) fun r b=>r= .tuple []/\b=S bo)(t:T)(a bo:α)(h:t.foldO f a=some bo):bK ar 131 [t.e,.func g cZ] (S a) fun r b=>r= .tuple []/\b=S bo:=(Ux S dC fE g cZ ax dr (fun _=>True) f (fun v a bo _ h=>⟨trivial,c v a bo h⟩) t a bo trivial h).2
include dC fE ax dr in
theorem ahe(f:Int->α->aW (T×α))(s:∀v a p,f v a=some p->bK ar g (.int .i64 v::cZ) (S a) fun r h=>r= .tuple [p.1.e,.bool true]/\h=S p.2)(t:T):
  ∀a p,t.mapO f a=some p->bK ar 146 [t.e,.func g cZ] (S a) fun r h=>r=p.1.e/\h=S p.2:=by
 have b:∀a m,Pv.look (.loc m) (S a).b=none:=fun a=>(dC a).obj.1;have j:∀a m,Pv.look (.loc m) (S a).e=none:=fun a=>(dC a).obj.2;have hu:∀a m cs,cB (.loc m) cs (S a).b=(S a).b++[(.loc m,cs)]:=fun a m cs=>kL (b a m);have ak:∀a m,aB.loc m∉dh (S a):=fun a=>kD (dC a).obj;have c:∀a m p r,cB (.loc m) p ((S a).b++r)=(S a).b++cB (.loc m) p r:=fun a m p r=>CH (b a m);induction t with
 |pair x y q o=>intro a p he;have d:=dC a;simp only[T.mapO,nP,gD]at he;obtain⟨e,J,i,U,rfl⟩:=he;refine bK.mk mixed gR Tryz.func146 B7 Ψ d.obj fun l k=>?_;unfold yB;simp[hu,ak,cV,b,j,dr,c];(with_reducible repeat' first|refine al ?_|simp[hu,ak,cV,b,j,c]);refine iN.ob (q a e J) d (dC e.2) (fE _ _) aL aL (by simp[ax]) ?_;simp[hy,js,bZ,b,dr];(with_reducible repeat' first|refine al ?_|simp[hu,ak,cV,b,j,c]);refine iN.ob (o e.2 i U) (dC e.2) (dC i.2) (fE _ _) aL aL (by simp[ax,dr]) ?_;simp[hy,js,bZ,b,dr];(with_reducible repeat' first|refine al ?_|refine aI (JO _ _) ?_|refine aJ (JO _ _) ?_|simp[cV,b,c]);refine cO.at (S i.2) (.inl rfl) (dC _) (fE _ _) aL aL ?_;simp[cT,aX,a1,aV,cV,b]
 |var n=>
  intro a p he;have d:=dC a;simp only[T.mapO]at he;refine bK.mk mixed gR Tryz.func146 B7 Ψ d.obj fun l k=>?_;unfold yB;simp[hu,ak,cV,b,dr,c];(with_reducible repeat' first|refine al ?_|simp[hu,ak,cV,b,c]);refine cC.ob (s n a p he) d aL aL (by simp[ax]) ?_;rintro r h ⟨rfl,rfl⟩;refine⟨fE _ _,?_⟩;simp[hy,js,bZ,b,hu,ak,cV];(with_reducible repeat' first|refine al ?_|refine aI (u3 _) ?_|refine aJ (u3 _) ?_|simp[hu,ak,cV,b,c]);all_goals refine cO.at (S p.2) (.inl rfl) (dC _) (fE _ _) aL aL ?_
  all_goals simp[cT,aX,a1,aV,cV,b]
 |_=>intro a p he;have d:=dC a;simp only[T.mapO,dv]at he;subst he;refine bK.mk mixed gR Tryz.func146 B7 Ψ d.obj fun l k=>?_;unfold yB;simp[hu,ak,cV,b,dr,c];(with_reducible repeat' first|refine al ?_|simp[hu,ak,cV,b,c]);refine cO.at (S a) (.inl rfl) d (Same.refl _) aL aL ?_;simp[cT,aX,a1,aV,cV,b]
include dC fE ax dr in
theorem ahr(i:α->Prop)(f:Int->α->aW (Int×α))(s:∀v a p,i a->f v a=some p->i p.2/\0<=p.1/\p.1<=1000000)(z:∀v a p,i a->f v a=some p->bK ar g (.int .i64 v::cZ) (S a) fun r e=>r= .int .i64 p.1/\e=S p.2)(t:T):
  ∀a p,i a->t.sizeO f a=some p->i p.2/\(0<=p.1/\p.1<=5001)/\bK ar 158 [t.e,.func g cZ] (S a) fun r e=>r= .int .i64 p.1/\e=S p.2:=by
 have b:∀a m,Pv.look (.loc m) (S a).b=none:=fun a=>(dC a).obj.1;have hu:∀a m cs,cB (.loc m) cs (S a).b=(S a).b++[(.loc m,cs)]:=fun a m cs=>kL (b a m);have ak:∀a m,aB.loc m∉dh (S a):=fun a=>kD (dC a).obj;induction t with
 |pair x y u q=>
  intro a p hi he;have c:=dC a;simp only[T.sizeO,nP]at he;obtain⟨d,J,U⟩:=he;obtain⟨i1,w,g1⟩:=u a d hi J;by_cases o:5000<d.1
  ·rw[if_pos o]at U;cases U;refine⟨i1,w,?_⟩;refine bK.mk mixed gR Tryz.func158 zL Ψ c.obj fun k j=>?_;unfold w1;simp[hu,ak,cV,b,dr];(with_reducible repeat' first|refine al ?_|simp[hu,ak,cV,b]);refine cC.ob g1 c aL aL (by simp[ax]) ?_;rintro r e ⟨rfl,rfl⟩;refine⟨fE _ _,?_⟩;simp[hy,js,bZ,b];((with_reducible repeat' first|((first|apply bQ|apply bT|apply bS)<;>intro h<;>try simp at h)|refine al ?_|simp[hu,ak,cV,b])<;>(try contradiction));all_goals first|omega|(refine cO.at (S p.2) (.inl rfl) (dC _) (fE _ _) aL aL ?_;simp[cT,aX,a1,aV])
  ·rw[if_neg o,gD]at U;obtain⟨l,U,rfl⟩:=U;obtain⟨i2,A,g2⟩:=q d.2 l i1 U;refine⟨i2,by simp only;split<;>omega,?_⟩;refine bK.mk mixed gR Tryz.func158 zL Ψ c.obj fun k j=>?_;unfold w1;simp[hu,ak,cV,b,dr];(with_reducible repeat' first|((first|apply bQ|apply bT|apply bS)<;>intro h<;>try simp at h)|refine al ?_|simp[hu,ak,cV,b]);refine cC.ob g1 c aL aL (by simp[ax]) ?_;rintro r e ⟨rfl,rfl⟩;refine⟨fE _ _,?_⟩;simp[hy,js,bZ,b];((with_reducible repeat' first|refine al ?_|simp[hu,ak,cV,b]|((first|apply bQ|apply bT|apply bS)<;>intro h<;>try simp at h))<;>(try exact cv));all_goals first|omega|skip
   rw[dr];refine cC.ob g2 (dC d.2) aL aL (by simp[ax]) ?_;rintro r s2 ⟨rfl,rfl⟩;refine⟨fE _ _,?_⟩;simp[hy,js,bZ,b];(with_reducible repeat' first|refine al ?_|simp[hu,ak,cV,b]);refine cO.at (S l.2) (.inl rfl) (dC _) (fE _ _) aL aL ?_;simp[cT,aX,a1,aV]
 |var n=>intro a p hi he;have c:=dC a;simp only[T.sizeO,gD]at he;obtain⟨d,J,rfl⟩:=he;have ae:=s n a d hi J;refine⟨ae.1,by simp only;split<;>omega,?_⟩;refine bK.mk mixed gR Tryz.func158 zL Ψ c.obj fun k j=>?_;unfold w1;simp[hu,ak,cV,b,dr];(with_reducible repeat' first|refine al ?_|simp[hu,ak,cV,b]);refine cC.ob (z n a d hi J) c aL aL (by simp[ax]) ?_;rintro r e ⟨rfl,rfl⟩;refine⟨fE _ _,?_⟩;simp[hy,js,bZ,b];refine cO.at (S d.2) (.inl rfl) (dC _) (fE _ _) aL aL ?_;simp[cT,aX,a1,aV]
 |_=>intro a p hi he;have c:=dC a;simp only[T.sizeO,dv]at he;subst he;refine⟨hi,Ψ,?_⟩;refine bK.mk mixed gR Tryz.func158 zL Ψ c.obj fun k j=>?_;unfold w1;simp[hu,ak,cV,b,dr];(with_reducible repeat' first|refine al ?_|simp[hu,ak,cV,b]);refine cO.at (S a) (.inl rfl) c (Same.refl _) aL aL ?_;simp[cT,aX,a1,aV]
end
end
end Go.Proofs.YtfeencekjcjalaaGreatDoor
namespace Go.Pv
section
open Go Go.RowKit
section
variable {P:cz} {ob:List aB} {st:bh} {Q:Exit->bh->Prop} {c:C} {α:Type}
theorem eG(b:List Nat)(cs:Nat->α->List (Nat×ah))(n:Nat)(d:Nat->α->Prop)(a0:α)(hw:jx ob st (qA st b (cs 0 a0)))(g:d 0 a0)(e:∀a,d n a->(∀i,eK (get i (qA st b (cs n a)).t))->dd P ob c (bO ob (Au (fun i a=>qA st b (cs i a)) n d) 0 Q) (qA st b (cs n a)))
  (f:∀i a,i<n->d i a->(∀j,eK (get j (qA st b (cs i a)).t))->dd P ob c (bO ob (Au (fun i a=>qA st b (cs i a)) n d) (n-i) Q) (qA st b (cs i a))):dd P ob (.loop c) Q st:=
 hk (fun i a=>qA st b (cs i a)) n d a0 hw g e f
theorem w7(b:List Nat)(cs:α->List (Nat×ah))(μ:α->Nat)(d:α->Prop)(a0:α)(hw:jx ob st (qA st b (cs a0)))(f:d a0)
  (e:∀a,d a->(∀j,eK (get j (qA st b (cs a)).t))->dd P ob c (bO ob (CS (fun a=>qA st b (cs a)) μ d) (μ a) Q) (qA st b (cs a))):dd P ob (.loop c) Q st:=
 mM (fun a=>qA st b (cs a)) μ d a0 hw f e
end
attribute [simp] akX
end
end Go.Pv
namespace Go.Proofs.YtfeencekjcjalaaGreatDoor
section
open Go Go.Pv
theorem Nh{α β:Type}(k:aB):∀{l:List (aB×α)} {a:List (aB×β)},l.map (·.1)=a.map (·.1)->(Pv.look k l).isSome=(Pv.look k a).isSome
 |[],[],_=>rfl
 |[],_::_,h=>by simp at h
 |_::_,[],h=>by simp at h
 |(i,x)::r,(j,y)::b,h=>by
  simp only[fA,rA]at h;simp only[Pv.look];obtain⟨rfl,h⟩:=h;split
  ·rfl
  ·exact Nh k h
theorem _root_.Go.Pv.Same.keys{s a:cM}(ae:s.b.map (·.1)=a.b.map (·.1))(he:s.e.map (·.1)=a.e.map (·.1)):Same s a:=⟨fun k=>Nh k ae,fun k=>Nh k he⟩
section
variable {α:Type} (e:α->ah)
def tp(l:List (Int×α)):List ah:=k1 (l.map fun x=>(x.1,e x.2))
theorem Qx(k:Int):∀l:List (Int×α),yv k (l.map fun x=>(x.1,e x.2))=(dp k l).map e
 |[]=>rfl
 |(i,v)::r=>by
  simp only[fA,yv,dp];split
  ·rfl
  ·exact Qx k r
theorem QF(k:Int)(v:α):∀l:List (Int×α),qd k (e v) (l.map fun x=>(x.1,e x.2))=if(dp k l).isSome then some ((fj k v l).map fun x=>(x.1,e x.2))else none
 |[]=>rfl
 |(i,w)::r=>by
  simp only[fA,qd,dp,fj];by_cases h:k=i
  ·subst h;simp
  ·simp only[h,if_false,QF k v r];cases (dp k r).isSome<;>simp
theorem aai{k:Int}{v:α}:∀{l:List (Int×α)},dp k l=none->fj k v l=l++[(k,v)]
 |[],_=>rfl
 |(i,w)::r,h=>by
  simp only[dp]at h;split at h
  ·cases h
  ·rename_i a;simp[fj,a,aai h]
theorem NH(k:Int)(v:α)(l:List (Int×α)):pR .i (.int .i64 k) (e v) (tp e l)=some (tp e (fj k v l)):=by
 simp only[tp,XI,Gl,QF];cases h:dp k l with
 |some w=>simp
 |none=>simp[aai h]
theorem Nz(f:aB->aW (List ah))(m:aB)(l:List (Int×α))(z:ah)(ok:Bool)(k:Int)(hm:f m=some (tp e l)):o2 f .i z ok (.gmap m) (.int .i64 k)=some (True,if ok then .tuple [((dp k l).map e).getD z,.bool (dp k l).isSome]else((dp k l).map e).getD z):=by rw[akI f m _ z ok k hm,Qx];cases dp k l<;>rfl
@[simp]theorem au4(l:List (Int×α)):ik (tp e l)=false:=rfl
theorem M2(S:aB->Prop)(he:∀x,av S (e x))(l:List (Int×α)):aA S (tp e l):=by
 have:∀l:List (Int×α),aA S (ld (l.map fun x=>(x.1,e x.2))):=by
  intro l;induction l with
  |nil=>simp[ld,aA]
  |cons x r a=>simp[ld,aA,a,he]
 simp[tp,k1,aA,this,av]
end
def oh:List (Int×Int)->List ah:=tp (ah.int .i64)
def rb:List (Int×Bool)->List ah:=tp ah.bool
def uI:List (Int×T)->List ah:=tp T.e
@[simp]theorem au1(l):ik (oh l)=false:=rfl
@[simp]theorem auZ(l):ik (rb l)=false:=rfl
@[simp]theorem au3(l):ik (uI l)=false:=rfl
@[simp]theorem atN(S:aB->Prop)(l):aA S (oh l)=True:=eq_true (M2 _ S (fun _=>by simp) l)
@[simp]theorem atM(S:aB->Prop)(l):aA S (rb l)=True:=eq_true (M2 _ S (fun _=>by simp) l)
@[simp]theorem atO(S:aB->Prop)(l):aA S (uI l)=True:=eq_true (M2 _ S (fun _=>by simp) l)
@[simp]theorem auP(k v:Int)(l):pR .i (.int .i64 k) (.int .i64 v) (oh l)=some (oh (fj k v l)):=NH _ k v l
@[simp]theorem auO(k:Int)(v:Bool)(l):pR .i (.int .i64 k) (.bool v) (rb l)=some (rb (fj k v l)):=NH _ k v l
@[simp]theorem auR(k:Int)(v:T)(l):pR .i (.int .i64 k) v.e (uI l)=some (uI (fj k v l)):=NH _ k v l
def EV(a:j8)(z:ah)(ok:Bool)(o:aW (List ah))(k:ah):aW (Prop×ah):=o2 (fun _=>o) a z ok (.gmap (.loc 0)) k
@[simp]theorem auM(f:aB->aW (List ah))(a:j8)(z:ah)(ok:Bool)(m:aB)(k:ah):o2 f a z ok (.gmap m) k=EV a z ok (f m) k:=by simp only[EV,Xz]
theorem akK(f:aB->aW (List ah))(m:aB)(l:List (Int×Int))(ok:Bool)(k:Int)(hm:f m=some (oh l)):o2 f .i (.int .i64 0) ok (.gmap m) (.int .i64 k)=some (True,if ok then .tuple [.int .i64 (jK l k),.bool (dp k l).isSome]else .int .i64 (jK l k)):=by rw[Nz _ f m l _ ok k hm];unfold jK;cases dp k l<;>rfl
theorem akJ(f:aB->aW (List ah))(m:aB)(l:List (Int×Bool))(ok:Bool)(k:Int)(hm:f m=some (rb l)):o2 f .i (.bool false) ok (.gmap m) (.int .i64 k)=some (True,if ok then .tuple [.bool ((dp k l).getD false),.bool (dp k l).isSome]else .bool ((dp k l).getD false)):=by rw[Nz _ f m l _ ok k hm];cases dp k l<;>rfl
def Z8:ah:= .agg [.int .i64 0,.int .i64 0,.str [],.slice 4 .nil []]
def yb(o:aW T):ah:=(o.map T.e).getD Z8
theorem akL(f:aB->aW (List ah))(m:aB)(l:List (Int×T))(ok:Bool)(k:Int)(hm:f m=some (uI l)):o2 f .i (.agg [.int .i64 0,.int .i64 0,.str [],.slice 4 .nil []]) ok (.gmap m) (.int .i64 k)=some (True,if ok then .tuple [yb (dp k l),.bool (dp k l).isSome]else yb (dp k l)):=by rw[Nz _ f m l _ ok k hm];rfl
@[simp]theorem auK(l:List (Int×Int))(ok:Bool)(k:Int):EV .i (.int .i64 0) ok (some (oh l)) (.int .i64 k)=some (True,if ok then .tuple [.int .i64 (jK l k),.bool (dp k l).isSome]else .int .i64 (jK l k)):=akK _ _ l ok k rfl
@[simp]theorem auJ(l:List (Int×Bool))(ok:Bool)(k:Int):EV .i (.bool false) ok (some (rb l)) (.int .i64 k)=some (True,if ok then .tuple [.bool ((dp k l).getD false),.bool (dp k l).isSome]else .bool ((dp k l).getD false)):=akJ _ _ l ok k rfl
@[simp]theorem auL(l:List (Int×T))(ok:Bool)(k:Int):EV .i (.agg [.int .i64 0,.int .i64 0,.str [],.slice 4 .nil []]) ok (some (uI l)) (.int .i64 k)=some (True,if ok then .tuple [yb (dp k l),.bool (dp k l).isSome]else yb (dp k l)):=akL _ _ l ok k rfl
@[simp]theorem av0(o:aW T):de (yb o)=(o.getD .nil).e:=by cases o<;>simp[yb,Z8,de,cK]
@[simp]theorem auy:[ah.hdm 0 []]=k1 []:=rfl
def aF:ah:= .eptr (.agg [.gmap (.obj 702),.gmap (.obj 703),.gmap (.obj 704),.gmap (.obj 705),.gmap (.obj 706),.gmap (.obj 707)])
def aE(c:bD):List (aB×List ah):=[(.obj 702,oh c.up),(.obj 703,uI c.shape),(.obj 704,rb c.shaped),(.obj 705,oh c.color),(.obj 706,oh c.size),(.obj 707,uI c.full)]
def aO(c:bD):cM:=⟨aE c,[]⟩
theorem cm(c:bD):ek (aO c):=by unfold aO aE;exact ek.of ⟨by intro m;simp[Pv.look],by intro m;simp[Pv.look]⟩ Ψ Ψ
theorem Ge(c a:bD):Same (aO c) (aO a):=by
 refine⟨fun k=>?_,fun k=>rfl⟩;simp only[aO,aE,Pv.look];repeat' split
 all_goals rfl
theorem sI(c:bD)(v r:Int)(d:bD)(he:rt c v=some (r,d)):bK ar 191 [aF,.int .i64 v] (aO c) fun g j=>g= .int .i64 r/\j=aO d:=by
 have f:=cm c;have e:=cm d;have fE:=Ge c d;simp only[rt,gD,hN]at he;obtain⟨⟨i,m1⟩,he,rfl,rfl⟩:=he;unfold aO aE at f e fE⊢;simp only at e fE⊢;unfold aF;refine bK.mk mixed j6 Tryz.func191 alI Ψ f.obj fun l k=>?_;unfold Rs;simp;(with_reducible repeat' first|((first|apply bQ|apply bT|apply bS)<;>intro h<;>try simp at h)|refine al ?_|simp);all_goals
  refine mM (α:=Nat×Int×List (Int×Int)) (fun a=>⟨[(0,aF),(1,.int .i64 a.2.1)],[(.obj 702,oh a.2.2),(.obj 703,uI c.shape),(.obj 704,rb c.shaped),(.obj 705,oh c.color),(.obj 706,oh c.size),(.obj 707,uI c.full)],[],0,[.obj 702,.obj 703,.obj 704,.obj 705,.obj 706,.obj 707]⟩) (fun a=>a.1) (fun a=>x2 a.1 a.2.2 a.2.1=some (i,m1)) (v.toNat+1,v,AA v c.up) (by simp[AA,h,aF];exact⟨by simp[fresh,aA,av,b0,inObs,Pv.look,aF],dN (by simp[fresh,aA,av,b0,inObs,Pv.look,aF]),dP (by simp[fresh,aA,av,dH,inObs,Pv.look,aF]),Ψ⟩) he ?_
  rintro⟨n,u,m⟩ b ae
  simp only at b ae⊢
  cases n with
  |zero=>simp[x2]at b
  |succ n=>
   simp only[x2]at b
   simp[aF]
   (with_reducible repeat' first|((first|apply bQ|apply bT|apply bS)<;>intro h<;>try simp at h)|refine al ?_|simp)
   ·rw[if_neg h]at b
    refine bO.whl (n,jK (fj u (jK m (jK m u)) m) u,fj u (jK m (jK m u)) m) (Nat.lt_succ_self n) b ?_
    simp[aF]
    exact⟨by simp[fresh,aA,av,b0,inObs,Pv.look,aF],dN (by simp[fresh,aA,av,b0,inObs,Pv.look,aF]),dP (by simp[fresh,aA,av,dH,inObs,Pv.look,aF]),Ψ⟩
   ·rw[if_pos h]at b
    cases b
    refine cO.at _ (.inl rfl) e fE aL aL ?_
    simp[cT,aX,a1,aV]
end
section
open Go Go.Pv
theorem ahf(c:bD)(v r:Int)(a:bD)(he:rt c v=some (r,a)):bK ar 209 [.int .i64 v,.eptr aF] (aO c) fun e b=>e= .tuple []/\b=aO a:=by have d:=cm c;simp only[aO,aE]at d⊢;refine bK.mk mixed j6 Tryz.func209 alF Ψ d.obj fun g f=>?_;unfold Rp;simp[aF];(refine cC.ob (sI c v r a he) bv bi bi d8 ?_;rintro r b ⟨rfl,rfl⟩;refine⟨(Same.keys co co),?_⟩;simp[bZ,aO,aE,aF]);(refine cO.at (aO a) Ψ bv (Same.keys co co) bi bi ?_;simp[cT,aX,a1,aV,inObs,Pv.look,aO,aE,aF])
theorem LC(c:bD)(t:T)(b:bD)(he:BT t c=some b):bK ar 192 [aF,t.e] (aO c) fun f d=>f= .tuple []/\d=aO b:=by
 have e:=cm c;have key:=Lz aO cm Ge 209 [.eptr aF] (fun a=>by simp[aO,aE,aF,inObs,Pv.look]) rfl (fun(v:Int) (c:bD)=>(rt c v).map Prod.snd) (fun v a bo h=>by rw[gD]at h;obtain⟨⟨r,g⟩,J,rfl⟩:=h;exact ahf a v r g J) t c b he
 simp only[aO,aE]at e⊢;refine bK.mk mixed j6 Tryz.func192 alE Ψ e.obj fun j i=>?_;unfold Ro;simp[aF];(refine cC.ob (key) bv bi bi d8 ?_;rintro r d ⟨rfl,rfl⟩;refine⟨(Same.keys co co),?_⟩;simp[bZ,aO,aE,aF]);(refine cO.at (aO b) Ψ bv (Same.keys co co) bi bi ?_;simp[cT,aX,a1,aV,inObs,Pv.look,aO,aE,aF])
def eY(K:Nat)(a:bD×List (Int×Bool)):cM:=⟨aE a.1++[(.obj K,rb a.2)],[]⟩
def gw(K:Nat)(a:vd):cM:=⟨aE a.c++[(.obj K,rb a.seen),(.obj 712,[.bool a.found])],[]⟩
def zI(K:Nat):Prop:=K=715\/K=716
theorem iO{K:Nat}(b:zI K)(a):ek (eY K a):=by unfold eY aE;rcases b with rfl|rfl;all_goals exact ek.of ⟨by intro m;simp[Pv.look],by intro m;simp[Pv.look]⟩ Ψ Ψ
theorem qO{K:Nat}(b:zI K)(a):ek (gw K a):=by unfold gw aE;rcases b with rfl|rfl;all_goals exact ek.of ⟨by intro m;simp[Pv.look],by intro m;simp[Pv.look]⟩ Ψ Ψ
theorem J1{K:Nat}(a b):Same (gw K a) (gw K b):=by
 refine⟨fun k=>?_,fun k=>rfl⟩;simp only[gw,aE,bX,b3,Pv.look];repeat' split
 all_goals rfl
theorem ahl{K:Nat}(k:zI K)(n:Nat)(x:Int)(m:∀t c seen a,qD n x t c seen=some a->bK ar 210 [aF,t.e,.int .i64 x,.gmap (.obj K)] (eY K (c,seen)) fun r g=>r= .bool a.found/\g=eY K (a.c,a.seen))
  (v:Int) (a bo:vd) (he:x1 (qD n x) x v a=some bo):bK ar 241 [.int .i64 v,.eptr aF,.ptr (.obj 712) 0,.eptr (.int .i64 x),.eptr (.gmap (.obj K))] (gw K a) fun r g=>r= .tuple []/\g=gw K bo:=by
 have l:=qO k a;simp only[x1,nP]at he;obtain⟨⟨r,b⟩,J,U⟩:=he;simp only at U;have o:=k;rcases o with rfl|rfl;all_goals
  simp only[gw,aE,bX,b3]at l⊢
  refine bK.mk mixed j6 Tryz.func241 alH Ψ l.obj fun u s=>?_;unfold Rr
  simp[aF]
  (refine cC.ob (sI a.c v r b J) bv bi bi d8 ?_;rintro r g ⟨rfl,rfl⟩;refine⟨(Same.keys co co),?_⟩;simp[bZ,aO,aE,aF])
  obtain⟨ac,e,q⟩:=a
  cases q with
  |true=>
   simp at U;subst U
   (with_reducible repeat' first|refine al ?_|simp)
   (refine cO.at (gw _ ⟨b,e,true⟩) Ψ mE (Same.keys n8 n8) go go ?_;simp[cT,aX,a1,aV,inObs,Pv.look,gw,aE,aF])
  |false=>
   by_cases h:r=x
   ·simp[h]at U;subst U
    (with_reducible repeat' first|refine al ?_|simp[h])
    (refine cO.at (gw _ ⟨b,e,true⟩) Ψ mE (Same.keys n8 n8) go go ?_;simp[cT,aX,a1,aV,inObs,Pv.look,gw,aE,aF])
   ·have i:(r==x)=false:=by simp[h]
    simp only[h,hz,or_self,if_false]at U
    cases d:(dp r e).getD false with
    |true=>
     simp[d]at U;subst U
     (with_reducible repeat' first|refine al ?_|simp[i,d])
     (refine cO.at (gw _ ⟨b,e,false⟩) Ψ mE (Same.keys n8 n8) go go ?_;simp[cT,aX,a1,aV,inObs,Pv.look,gw,aE,aF])
    |false=>
     cases f:b.shd r with
     |false=>
      have j:(dp r b.shaped).getD false=false:=f
      simp[d,f]at U;subst U
      (with_reducible repeat' first|refine al ?_|simp[i,d,j])
      (refine cO.at (gw _ ⟨b,e,false⟩) Ψ mE (Same.keys n8 n8) go go ?_;simp[cT,aX,a1,aV,inObs,Pv.look,gw,aE,aF])
     |true=>
      have j:(dp r b.shaped).getD false=true:=f
      simp[d,f]at U
      have p:=m _ _ _ _ U
      (with_reducible repeat' first|refine al ?_|simp[i,d,j])
      (refine iN.ob (p) gc gc (Same.keys pl pl) ip ip (by simp[inObs,Pv.look,eY,aE,aF]) ?_;simp[bZ,eY,aE,aF])
      (with_reducible repeat' first|refine al ?_|simp)
      (refine cO.at (gw _ bo) Ψ mE (Same.keys n8 n8) go go ?_;simp[cT,aX,a1,aV,inObs,Pv.look,gw,aE,aF])
theorem Hc{K:Nat}(b:zI K)(x:Int)(n:Nat):∀(t:T) (c:bD) (seen:List (Int×Bool)) (a:vd),qD n x t c seen=some a->bK ar 210 [aF,t.e,.int .i64 x,.gmap (.obj K)] (eY K (c,seen)) fun r d=>r= .bool a.found/\d=eY K (a.c,a.seen):=by
 induction n with
 |zero=>intro t c seen a h;simp[qD]at h
 |succ n f=>
  intro t c seen a h;simp only[qD]at h;have e:=iO b (c,seen);have key:=Lz (gw K) (qO b) J1 241 [.eptr aF,.ptr (.obj 712) 0,.eptr (.int .i64 x),.eptr (.gmap (.obj K))] (fun a=>by rcases b with rfl|rfl<;>simp[gw,aE,aF,inObs,Pv.look]) rfl (x1 (qD n x) x) (fun v a bo h=>ahl b n x f v a bo h) t ⟨c,seen,false⟩ a h;have g:=b;rcases g with rfl|rfl;all_goals
   simp only[eY,aE,bX,b3]at e⊢
   refine bK.mk mixed j6 Tryz.func210 alG Ψ e.obj fun j i=>?_;unfold Rq
   simp[aF]
   refine cC.new key (qO b _) go go (by simp[inObs,Pv.look,gw,aE,aF]) ?_
   rintro r d ⟨rfl,rfl⟩
   refine⟨fun m hm=>.inl ⟨?_,J1 _ _⟩,?_⟩
   ·exact((J1 _ _).inObs _).2 hm
   simp[bZ,gw,aE]
   (with_reducible repeat' first|refine al ?_|simp)
   (refine cO.at (eY _ (a.c,a.seen)) Ψ gc (Same.keys pl pl) ip ip ?_;simp[cT,aX,a1,aV,inObs,Pv.look,eY,aE,aF])
@[simp]theorem Nk:rb []=k1 []:=rfl
@[simp]theorem av4(t:T):yb (some t)=t.e:=rfl
@[simp]theorem av3:yb none= .agg [.int .i64 0,.int .i64 0,.str [],.slice 4 .nil []]:=rfl
theorem UA(n:Nat)(x:Int)(t:T)(c:bD)(p:Bool×bD)(he:vX n x t c=some p):bK ar 211 [aF,.int .i64 x,t.e] (aO c) fun r b=>r= .bool p.1/\b=aO p.2:=by have d:=cm c;simp only[vX,gD]at he;obtain⟨a,J,rfl⟩:=he;have e:zI 715:= .inl rfl;have key:=Hc e x n t (c.know x t) [] a J;simp only[aO,aE]at d⊢;refine bK.mk mixed j6 Tryz.func211 alD Ψ d.obj fun g f=>?_;unfold Rn;simp[aF];(refine cC.ob (key) gc (by simp only[eY,aE,aF,bD.know,bX,b3];exact aL) (by simp only[eY,aE,aF,bD.know,bX,b3];exact aL) (by simp[inObs,Pv.look,eY,aE,aF,bD.know]) ?_;rintro r b ⟨rfl,rfl⟩;refine⟨(Same.keys (by simp[eY,aE,aF,bD.know]) (by simp[eY,aE,aF,bD.know])),?_⟩;simp[bZ,eY,aE,aF,bD.know]);(refine cO.at (aO a.c) Ψ bv (Same.keys co co) bi bi ?_;simp[cT,aX,a1,aV,inObs,Pv.look,aO,aE,aF])
theorem Uy(n:Nat):∀(a b:T) (c:bD) (p:Bool×bD),gT n a b c=some p->bK ar 193 [aF,a.e,b.e] (aO c) fun r t=>r= .bool p.1/\t=aO p.2:=by
 induction n with
 |zero=>intro a b c p h;simp[gT]at h
 |succ n G=>
  intro a b c p he;have s:=cm c;have zp:∀i j,a= .var i->b= .var j->bK ar 193 [aF,a.e,b.e] (aO c) fun r t=>r= .bool p.1/\t=aO p.2:=by
   rintro i j rfl rfl;simp only[gT,nP]at he;obtain⟨⟨x,z⟩,J,⟨y,c2⟩,U,B⟩:=he;simp only at U B;simp only[aO,aE]at s⊢;refine bK.mk mixed j6 Tryz.func193 zK Ψ s.obj fun H F=>?_;unfold wZ;simp[aF];(refine cC.ob (sI c i x z J) bv bi bi d8 ?_;rintro r t ⟨rfl,rfl⟩;refine⟨(Same.keys co co),?_⟩;simp[bZ,aO,aE,aF]);(with_reducible repeat' first|refine al ?_|simp);(refine cC.ob (sI z j y c2 U) bv bi bi d8 ?_;rintro r t ⟨rfl,rfl⟩;refine⟨(Same.keys co co),?_⟩;simp[bZ,aO,aE,aF]);by_cases Q:x=y
   ·rw[if_pos Q]at B;cases B;(with_reducible repeat' first|refine al ?_|simp[Q]);(refine cO.at (aO c2) Ψ bv (Same.keys co co) bi bi ?_;simp[cT,aX,a1,aV,inObs,Pv.look,aO,aE,aF])
   ·rw[if_neg Q]at B;have L:(x==y)=false:=by simp[Q]
    have UU:zI 715:= .inl rfl;have W:zI 716:= .inr rfl;obtain⟨u,v,M,w⟩:∃u v,((u=y/\v=x/\y<x)\/(u=x/\v=y/\¬y<x))/\sE (gT n) n u v (c2.join u v)=some p:=by
     by_cases q:y<x
     ·rw[if_pos q]at B;exact⟨y,x,.inl ⟨rfl,rfl,q⟩,B⟩
     ·rw[if_neg q]at B;exact⟨x,y,.inr ⟨rfl,rfl,q⟩,B⟩
    clear B;obtain⟨d,E⟩:∃d,d=c2.join u v:=⟨_,rfl⟩;have m:d.up=fj v u c2.up:=by rw[E];rfl
    have f:d.shape=c2.shape:=by rw[E];rfl
    have e:d.shaped=c2.shaped:=by rw[E];rfl
    have l:d.color=c2.color:=by rw[E];rfl
    have k:d.size=c2.size:=by rw[E];rfl
    have g:d.full=c2.full:=by rw[E];rfl
    rw[<-E]at w;simp only[sE]at w;cases K:d.shd v with
    |false=>
     have D:(dp v c2.shaped).getD false=false:=by rw[<-e];exact K
     rw[if_pos K]at w;cases hu:d.shd u with
     |false=>
      have A:(dp u c2.shaped).getD false=false:=by rw[<-e];exact hu
      rw[if_pos hu]at w;cases w;rcases M with⟨rfl,rfl,q⟩|⟨rfl,rfl,q⟩;all_goals
       (with_reducible repeat' first|refine al ?_|simp[L,q,D,A])
       (refine cO.at (aO d) Ψ bv (Same.keys (by simp[aO,aE,aF,m,f,e,l,k,g]) (by simp[aO,aE,aF,m,f,e,l,k,g])) (by simp only[aO,aE,aF,m,f,e,l,k,g,bX,b3];exact aL) (by simp only[aO,aE,aF,m,f,e,l,k,g,bX,b3];exact aL) ?_;simp[cT,aX,a1,aV,inObs,Pv.look,aO,aE,aF,m,f,e,l,k,g])
     |true=>
      have A:(dp u c2.shaped).getD false=true:=by rw[<-e];exact hu
      rw[if_neg (by simp[hu]),gD]at w;obtain⟨a,V,rfl⟩:=w;have key:=Hc UU u n _ _ _ _ V;rw[show d.shp u=(dp u c2.shape).getD .nil from by rw[<-f];rfl]at key;rcases M with⟨rfl,rfl,q⟩|⟨rfl,rfl,q⟩;all_goals
       (with_reducible repeat' first|refine al ?_|simp[L,q,D,A])
       (refine cC.ob (key) gc (by simp only[eY,aE,aF,m,f,e,l,k,g,bX,b3];exact aL) (by simp only[eY,aE,aF,m,f,e,l,k,g,bX,b3];exact aL) (by simp[inObs,Pv.look,eY,aE,aF,m,f,e,l,k,g]) ?_;rintro r t ⟨rfl,rfl⟩;refine⟨(Same.keys (by simp[eY,aE,aF,m,f,e,l,k,g]) (by simp[eY,aE,aF,m,f,e,l,k,g])),?_⟩;simp[bZ,eY,aE,aF,m,f,e,l,k,g])
       (with_reducible repeat' first|refine al ?_|simp)
       (refine cO.at (aO a.c) Ψ bv (Same.keys co co) bi bi ?_;simp[cT,aX,a1,aV,inObs,Pv.look,aO,aE,aF])
    |true=>
     have D:(dp v c2.shaped).getD false=true:=by rw[<-e];exact K
     rw[if_neg (by simp[K])]at w;rw[show d.shp v=(dp v c2.shape).getD .nil from by rw[<-f];rfl]at w;cases hu:d.shd u with
     |false=>
      have A:(dp u c2.shaped).getD false=false:=by rw[<-e];exact hu
      rw[if_pos hu]at w;have key:=UA n u _ d p w;cases aM:dp v c2.shape;all_goals
       rw[aM]at key
       simp only[mi,oD]at key
       rcases M with⟨rfl,rfl,q⟩|⟨rfl,rfl,q⟩
       all_goals
        (with_reducible repeat' first|refine al ?_|simp[L,q,D,A,aM])
        (refine cC.ob (key) bv (by simp only[aO,aE,aF,m,f,e,l,k,g,bX,b3];exact aL) (by simp only[aO,aE,aF,m,f,e,l,k,g,bX,b3];exact aL) (by simp[inObs,Pv.look,aO,aE,aF,m,f,e,l,k,g]) ?_;rintro r t ⟨rfl,rfl⟩;refine⟨(Same.keys (by simp[aO,aE,aF,m,f,e,l,k,g]) (by simp[aO,aE,aF,m,f,e,l,k,g])),?_⟩;simp[bZ,aO,aE,aF,m,f,e,l,k,g])
        (with_reducible repeat' first|refine al ?_|simp)
        (refine cO.at (aO p.2) Ψ bv (Same.keys co co) bi bi ?_;simp[cT,aX,a1,aV,inObs,Pv.look,aO,aE,aF])
     |true=>
      have A:(dp u c2.shaped).getD false=true:=by rw[<-e];exact hu
      rw[if_neg (by simp[hu]),nP]at w;obtain⟨a,V,O⟩:=w;have key:=Hc UU u n _ _ _ _ V;obtain⟨o,aM⟩:∃o,dp v c2.shape=o:=⟨_,rfl⟩;rw[aM]at key O;obtain⟨ac,Cy,Kf⟩:=a;cases Kf with
      |true=>
       simp at O;subst O;cases o;all_goals
        simp only[mi,oD]at key
        rcases M with⟨rfl,rfl,q⟩|⟨rfl,rfl,q⟩
        all_goals
         (with_reducible repeat' first|refine al ?_|simp[L,q,D,A,aM])
         (refine iN.ob (key) gc gc (Same.keys (by simp[eY,aE,aF,m,f,e,l,k,g]) (by simp[eY,aE,aF,m,f,e,l,k,g])) (by simp only[eY,aE,aF,m,f,e,l,k,g,bX,b3];exact aL) (by simp only[eY,aE,aF,m,f,e,l,k,g,bX,b3];exact aL) (by simp[inObs,Pv.look,eY,aE,aF,m,f,e,l,k,g]) ?_;simp[bZ,eY,aE,aF,m,f,e,l,k,g])
         (with_reducible repeat' first|refine al ?_|simp)
         (refine cO.at (aO ac) Ψ bv (Same.keys co co) bi bi ?_;simp[cT,aX,a1,aV,inObs,Pv.look,aO,aE,aF])
      |false=>
       simp only[hz,if_false,nP]at O;obtain⟨b,dY,P⟩:=O;have N:=Hc W u n _ _ _ _ dY;rw[show ac.shp u=(dp u ac.shape).getD .nil from rfl]at N;obtain⟨Z,asa,X⟩:=b;cases X with
       |true=>
        simp at P;subst P;cases o;all_goals
         simp only[mi,oD]at key
         rcases M with⟨rfl,rfl,q⟩|⟨rfl,rfl,q⟩
         all_goals
          (with_reducible repeat' first|refine al ?_|simp[L,q,D,A,aM])
          (refine iN.ob (key) gc gc (Same.keys (by simp[eY,aE,aF,m,f,e,l,k,g]) (by simp[eY,aE,aF,m,f,e,l,k,g])) (by simp only[eY,aE,aF,m,f,e,l,k,g,bX,b3];exact aL) (by simp only[eY,aE,aF,m,f,e,l,k,g,bX,b3];exact aL) (by simp[inObs,Pv.look,eY,aE,aF,m,f,e,l,k,g]) ?_;simp[bZ,eY,aE,aF,m,f,e,l,k,g])
          (with_reducible repeat' first|refine al ?_|simp)
          (refine iN.ob (N) gc gc (Same.keys pl pl) ip ip (by simp[inObs,Pv.look,eY,aE,aF]) ?_;simp[bZ,eY,aE,aF])
          (with_reducible repeat' first|refine al ?_|simp)
          (refine cO.at (aO Z) Ψ bv (Same.keys co co) bi bi ?_;simp[cT,aX,a1,aV,inObs,Pv.look,aO,aE,aF])
       |false=>
        simp only[hz,if_false]at P;have Y:=G _ _ _ _ P;rw[show Z.shp u=(dp u Z.shape).getD .nil from rfl]at Y;cases o;all_goals
         simp only[mi,oD]at key Y
         rcases M with⟨rfl,rfl,q⟩|⟨rfl,rfl,q⟩
         all_goals
          (with_reducible repeat' first|refine al ?_|simp[L,q,D,A,aM])
          (refine iN.ob (key) gc gc (Same.keys (by simp[eY,aE,aF,m,f,e,l,k,g]) (by simp[eY,aE,aF,m,f,e,l,k,g])) (by simp only[eY,aE,aF,m,f,e,l,k,g,bX,b3];exact aL) (by simp only[eY,aE,aF,m,f,e,l,k,g,bX,b3];exact aL) (by simp[inObs,Pv.look,eY,aE,aF,m,f,e,l,k,g]) ?_;simp[bZ,eY,aE,aF,m,f,e,l,k,g])
          (with_reducible repeat' first|refine al ?_|simp)
          (refine iN.ob (N) gc gc (Same.keys pl pl) ip ip (by simp[inObs,Pv.look,eY,aE,aF]) ?_;simp[bZ,eY,aE,aF])
          (with_reducible repeat' first|refine al ?_|simp)
          (refine iN.ob (Y) bv bv (Same.keys co co) bi bi d8 ?_;simp[bZ,aO,aE,aF])
          (with_reducible repeat' first|refine al ?_|simp)
          (refine cO.at (aO p.2) Ψ bv (Same.keys co co) bi bi ?_;simp[cT,aX,a1,aV,inObs,Pv.look,aO,aE,aF])
  have K:∀i,a= .var i->b.kind≠1->bK ar 193 [aF,a.e,b.e] (aO c) fun r t=>r= .bool p.1/\t=aO p.2:=by
   rintro i rfl ae;have xj:((rt c i).bind fun p=>if p.2.shd p.1=false then vX n p.1 b p.2 else gT n (p.2.shp p.1) b p.2)=some p:=by cases b<;>first|exact he|simp at ae
   simp only[nP]at xj;obtain⟨⟨x,z⟩,J,U⟩:=xj;simp only at U;have ej:(b.kind==1)=false:=by simp[ae]
   simp only[aO,aE]at s⊢;refine bK.mk mixed j6 Tryz.func193 zK Ψ s.obj fun H F=>?_;unfold wZ;simp[aF];(with_reducible repeat' first|refine al ?_|simp[ej,ae]);(refine cC.ob (sI c i x z J) bv bi bi d8 ?_;rintro r t ⟨rfl,rfl⟩;refine⟨(Same.keys co co),?_⟩;simp[bZ,aO,aE,aF]);cases R:z.shd x with
   |false=>have S:(dp x z.shaped).getD false=false:=R;rw[if_pos R]at U;(with_reducible repeat' first|refine al ?_|simp[S]);(refine cC.ob (UA n x b z p U) bv bi bi d8 ?_;rintro r t ⟨rfl,rfl⟩;refine⟨(Same.keys co co),?_⟩;simp[bZ,aO,aE,aF]);(refine cO.at (aO p.2) Ψ bv (Same.keys co co) bi bi ?_;simp[cT,aX,a1,aV,inObs,Pv.look,aO,aE,aF])
   |true=>have S:(dp x z.shaped).getD false=true:=R;rw[if_neg (by simp[R])]at U;have key:=G _ _ _ _ U;(with_reducible repeat' first|refine al ?_|simp[S]);(refine iN.ob (key) bv bv (Same.keys co co) bi bi d8 ?_;simp[bZ,aO,aE,aF]);(with_reducible repeat' first|refine al ?_|simp);(refine cO.at (aO p.2) Ψ bv (Same.keys co co) bi bi ?_;simp[cT,aX,a1,aV,inObs,Pv.look,aO,aE,aF])
  cases a with
  |var i=>
   cases b with
   |var j=>exact zp i j rfl rfl
   |_=>exact K i rfl Ψ
  |pair bF a2=>
   cases b with
   |var j=>simp only[gT]at he;have key:=G _ _ _ _ he;simp only[aO,aE]at s⊢;refine bK.mk mixed j6 Tryz.func193 zK Ψ s.obj fun H F=>?_;unfold wZ;simp[aF];(refine cC.ob (key) bv bi bi d8 ?_;rintro r t ⟨rfl,rfl⟩;refine⟨(Same.keys co co),?_⟩;simp[bZ,aO,aE,aF]);(refine cO.at (aO p.2) Ψ bv (Same.keys co co) bi bi ?_;simp[cT,aX,a1,aV,inObs,Pv.look,aO,aE,aF])
   |pair cj b5=>
    simp only[gT,nP]at he;obtain⟨⟨f1,z⟩,J,U⟩:=he;have key:=G _ _ _ _ J;simp only[aO,aE]at s⊢;refine bK.mk mixed j6 Tryz.func193 zK Ψ s.obj fun H F=>?_;unfold wZ;simp[aF];(with_reducible repeat' first|refine al ?_|simp);(refine iN.ob (key) bv bv (Same.keys co co) bi bi d8 ?_;simp[bZ,aO,aE,aF]);cases f1 with
    |false=>simp at U;subst U;(with_reducible repeat' first|refine al ?_|simp);(refine cO.at (aO z) Ψ bv (Same.keys co co) bi bi ?_;simp[cT,aX,a1,aV,inObs,Pv.look,aO,aE,aF])
    |true=>simp at U;have N:=G _ _ _ _ U;(with_reducible repeat' first|refine al ?_|simp);(refine iN.ob (N) bv bv (Same.keys co co) bi bi d8 ?_;simp[bZ,aO,aE,aF]);(with_reducible repeat' first|refine al ?_|simp);(refine cO.at (aO p.2) Ψ bv (Same.keys co co) bi bi ?_;simp[cT,aX,a1,aV,inObs,Pv.look,aO,aE,aF])
   |_=>simp[gT]at he;subst he;simp only[aO,aE]at s⊢;refine bK.mk mixed j6 Tryz.func193 zK Ψ s.obj fun H F=>?_;unfold wZ;simp[aF];(refine cO.at (aO c) Ψ bv (Same.keys co co) bi bi ?_;simp[cT,aX,a1,aV,inObs,Pv.look,aO,aE,aF])
  |_=>
   cases b with
   |var j=>simp only[gT]at he;have key:=G _ _ _ _ he;simp only[aO,aE]at s⊢;refine bK.mk mixed j6 Tryz.func193 zK Ψ s.obj fun H F=>?_;unfold wZ;simp[aF];(refine cC.ob (key) bv bi bi d8 ?_;rintro r t ⟨rfl,rfl⟩;refine⟨(Same.keys co co),?_⟩;simp[bZ,aO,aE,aF]);(refine cO.at (aO p.2) Ψ bv (Same.keys co co) bi bi ?_;simp[cT,aX,a1,aV,inObs,Pv.look,aO,aE,aF])
   |_=>
    simp[gT]at he;subst he;simp only[aO,aE]at s⊢;refine bK.mk mixed j6 Tryz.func193 zK Ψ s.obj fun H F=>?_;unfold wZ;simp[aF];((with_reducible repeat' first|refine al ?_|simp|((first|apply bQ|apply bT|apply bS)<;>intro h<;>try simp at h))<;>(try exact cv));all_goals(refine cO.at (aO c) Ψ bv (Same.keys co co) bi bi ?_;simp[cT,aX,a1,aV,inObs,Pv.look,aO,aE,aF])
    all_goals simp_all
def nj(c:bD):Prop:= ∀x,0<=c.sz x/\c.sz x<=5001
theorem nj.rt{c:bD}(h:nj c){v r:Int}{a:bD}(he:rt c v=some (r,a)):nj a:=by simp only[Pv.rt,gD,hN]at he;obtain⟨p,_,_,rfl⟩:=he;exact h
theorem nj.put{c:bD}(h:nj c){x k:Int}(a:0<=k/\k<=5001)(m:List (Int×Int)):nj {c with size:=fj x k c.size,color:=m}:=fun z=>by
 show 0<=(dp z (fj x k c.size)).getD 0/\(dp z (fj x k c.size)).getD 0<=5001;rw[ov];split
 ·exact a
 ·exact h z
theorem ahC(c:bD)(v:Int)(p:Int×bD)(he:z8 v c=some p):bK ar 244 [.int .i64 v,.eptr aF] (aO c) fun r d=>r= .int .i64 p.1/\d=aO p.2:=by have b:=cm c;simp only[z8,gD]at he;obtain⟨⟨r,a⟩,J,rfl⟩:=he;simp only[aO,aE]at b⊢;refine bK.mk mixed j6 Tryz.func244 alL Ψ b.obj fun f e=>?_;unfold Rv;simp[aF];(refine iN.ob (sI c v r a J) bv bv (Same.keys co co) bi bi d8 ?_;simp[bZ,aO,aE,aF]);(with_reducible repeat' first|refine al ?_|simp);(refine cO.at (aO a) Ψ bv (Same.keys co co) bi bi ?_;simp[cT,aX,a1,aV,inObs,Pv.look,aO,aE,aF]);all_goals rfl
def gJ(a:bD×Bool):cM:=⟨aE a.1++[(.obj 712,[.bool a.2])],[]⟩
theorem rG(a):ek (gJ a):=by unfold gJ aE;exact ek.of ⟨by intro m;simp[Pv.look],by intro m;simp[Pv.look]⟩ Ψ Ψ
theorem abC(a b):Same (gJ a) (gJ b):=Same.keys (by simp[gJ,aE]) (by simp[gJ,aE])
theorem ahB(n:Nat)(g:∀x c p,rs n x c=some p->nj c->nj p.2/\bK ar 213 [aF,.int .i64 x] (aO c) fun r d=>r= .bool p.1/\d=aO p.2)
  (v:Int) (a bo:bD×Bool) (e:nj a.1) (he:Al (rs n) v a=some bo):nj bo.1/\bK ar 243 [.int .i64 v,.ptr (.obj 712) 0,.eptr aF] (gJ a) fun r d=>r= .tuple []/\d=gJ bo:=by
 have b:=rG a;obtain⟨c,f⟩:=a;cases f with
 |false=>simp[Al]at he;subst he;refine⟨e,?_⟩;simp only[gJ,aE,bX,b3]at b⊢;refine bK.mk mixed j6 Tryz.func243 XZ Ψ b.obj fun j h=>?_;unfold Kv;simp[aF];(with_reducible repeat' first|refine al ?_|simp);(refine cO.at (gJ (c,false)) Ψ m6 (Same.keys (by simp[gJ,aE,aF]) (by simp[gJ,aE,aF])) i8 i8 ?_;simp[cT,aX,a1,aV,inObs,Pv.look,gJ,aE,aF])
 |true=>
  simp only[Al,if_true,nP,gD]at he;obtain⟨⟨r,i⟩,J,⟨f2,c2⟩,U,rfl⟩:=he;obtain⟨z2,key⟩:=g _ _ _ U (e.rt J);refine⟨z2,?_⟩;simp only[gJ,aE,bX,b3]at b⊢;refine bK.mk mixed j6 Tryz.func243 XZ Ψ b.obj fun j h=>?_;unfold Kv;simp[aF];(with_reducible repeat' first|refine al ?_|simp);(refine iN.ob (sI c v r i J) bv bv (Same.keys co co) bi bi d8 ?_;simp[bZ,aO,aE,aF]);(with_reducible repeat' first|refine al ?_|simp);(refine iN.ob (key) bv bv (Same.keys co co) bi bi d8 ?_;simp[bZ,aO,aE,aF]);cases f2 with
  |true=>(with_reducible repeat' first|refine al ?_|simp);(refine cO.at (gJ (c2,true)) Ψ m6 (Same.keys (by simp[gJ,aE,aF]) (by simp[gJ,aE,aF])) i8 i8 ?_;simp[cT,aX,a1,aV,inObs,Pv.look,gJ,aE,aF])
  |false=>(with_reducible repeat' first|refine al ?_|simp);(refine cO.at (gJ (c2,false)) Ψ m6 (Same.keys (by simp[gJ,aE,aF]) (by simp[gJ,aE,aF])) i8 i8 ?_;simp[cT,aX,a1,aV,inObs,Pv.look,gJ,aE,aF])
theorem ahA(n:Nat):∀(x:Int) (c:bD) (p:Bool×bD),rs n x c=some p->nj c->nj p.2/\bK ar 213 [aF,.int .i64 x] (aO c) fun r t=>r= .bool p.1/\t=aO p.2:=by
 induction n with
 |zero=>intro x c p h;simp[rs]at h
 |succ n A=>
  intro x c p he d;have b:=cm c;simp only[rs]at he;by_cases U:c.col x=2
  ·rw[if_pos U]at he;cases he;have g:jK c.color x=2:=U;refine⟨d,?_⟩;simp only[aO,aE]at b⊢;refine bK.mk mixed j6 Tryz.func213 E4 Ψ b.obj fun s q=>?_;unfold AI;simp[aF];(with_reducible repeat' first|refine al ?_|simp[g]);(refine cO.at (aO c) Ψ bv (Same.keys co co) bi bi ?_;simp[cT,aX,a1,aV,inObs,Pv.look,aO,aE,aF])
  rw[if_neg U]at he;have g:(jK c.color x==2)=false:=by simp;exact U
  by_cases J:c.col x=1
  ·rw[if_pos J]at he;cases he;have i:jK c.color x=1:=J;refine⟨d,?_⟩;simp only[aO,aE]at b⊢;refine bK.mk mixed j6 Tryz.func213 E4 Ψ b.obj fun s q=>?_;unfold AI;simp[aF];(with_reducible repeat' first|refine al ?_|simp[i]);(refine cO.at (aO c) Ψ bv (Same.keys co co) bi bi ?_;simp[cT,aX,a1,aV,inObs,Pv.look,aO,aE,aF])
  rw[if_neg J]at he;have i:(jK c.color x==1)=false:=by simp;exact J
  have y:nj (c.grey x):=d.put Ω _;cases o:(c.grey x).shd x with
  |false=>rw[if_pos o]at he;cases he;have m:(dp x c.shaped).getD false=false:=o;refine⟨y,?_⟩;simp only[aO,aE]at b⊢;refine bK.mk mixed j6 Tryz.func213 E4 Ψ b.obj fun s q=>?_;unfold AI;simp[aF];(with_reducible repeat' first|refine al ?_|simp[g,i,m]);(refine cO.at (aO ((c.grey x).black x)) Ψ bv (Same.keys (by simp[aO,aE,aF,bD.grey,bD.black]) (by simp[aO,aE,aF,bD.grey,bD.black])) (by simp only[aO,aE,aF,bD.grey,bD.black,bX,b3];exact aL) (by simp only[aO,aE,aF,bD.grey,bD.black,bX,b3];exact aL) ?_;simp[cT,aX,a1,aV,inObs,Pv.look,aO,aE,aF,bD.grey,bD.black])
  |true=>
   rw[if_neg (by simp[o]),nP]at he;have m:(dp x c.shaped).getD false=true:=o;obtain⟨⟨e,f⟩,D,l⟩:=he;simp only at l;obtain⟨j,key⟩:=Ux gJ rG abC 243 [.ptr (.obj 712) 0,.eptr aF] (fun a=>by simp[gJ,aE,aF,inObs,Pv.look]) rfl (fun a=>nj a.1) (Al (rs n)) (fun v a bo d h=>ahB n A v a bo d h) _ _ _ y D;rw[show(c.grey x).shp x=(dp x c.shape).getD .nil from rfl]at key;cases f with
   |false=>simp at l;subst l;refine⟨j,?_⟩;simp only[aO,aE]at b⊢;refine bK.mk mixed j6 Tryz.func213 E4 Ψ b.obj fun s q=>?_;unfold AI;simp[aF];(with_reducible repeat' first|refine al ?_|simp[g,i,m]);(refine cC.ob (key) m6 m9 m9 (by simp[inObs,Pv.look,gJ,aE,aF,bD.grey]) ?_;rintro r t ⟨rfl,rfl⟩;refine⟨(Same.keys (by simp[gJ,aE,aF,bD.grey]) (by simp[gJ,aE,aF,bD.grey])),?_⟩;simp[bZ,gJ,aE,aF,bD.grey]);(with_reducible repeat' first|refine al ?_|simp);(refine cO.at (aO e) Ψ bv (Same.keys co co) bi bi ?_;simp[cT,aX,a1,aV,inObs,Pv.look,aO,aE,aF])
   |true=>
    rw[if_neg Ψ,gD]at l;obtain⟨⟨k,w⟩,z,rfl⟩:=l;obtain⟨z2,B,u⟩:=ahr aO cm Ge 244 [.eptr aF] (fun a=>by simp[aO,aE,aF,inObs,Pv.look]) rfl nj z8 (fun v a p d h=>by simp only[z8,gD]at h;obtain⟨⟨r,E⟩,J,rfl⟩:=h;exact⟨d.rt J,(d.rt J r).1,Int.le_trans (d.rt J r).2 Ω⟩) (fun v a p _ h=>ahC a v p h) _ _ _ j z
    rw[show bD.shp e x=(dp x e.shape).getD .nil from rfl]at u;refine⟨z2.put B _,?_⟩;simp only[aO,aE]at b⊢;refine bK.mk mixed j6 Tryz.func213 E4 Ψ b.obj fun s q=>?_;unfold AI;simp[aF];(with_reducible repeat' first|refine al ?_|simp[g,i,m]);(refine cC.ob (key) m6 m9 m9 (by simp[inObs,Pv.look,gJ,aE,aF,bD.grey]) ?_;rintro r t ⟨rfl,rfl⟩;refine⟨(Same.keys (by simp[gJ,aE,aF,bD.grey]) (by simp[gJ,aE,aF,bD.grey])),?_⟩;simp[bZ,gJ,aE,aF,bD.grey]);(with_reducible repeat' first|refine al ?_|simp);(refine iN.ob (u) bv bv (Same.keys co co) bi bi d8 ?_;simp[bZ,aO,aE,aF]);(with_reducible repeat' first|refine al ?_|simp);(refine cO.at (aO (({w with size:=fj x k w.size}:bD).black x)) Ψ bv (Same.keys (by simp[aO,aE,aF,bD.black]) (by simp[aO,aE,aF,bD.black])) (by simp only[aO,aE,aF,bD.black,bX,b3];exact aL) (by simp only[aO,aE,aF,bD.black,bX,b3];exact aL) ?_;simp[cT,aX,a1,aV,inObs,Pv.look,aO,aE,aF,bD.black])
theorem ahz(n:Nat)(d:∀x c p,rp n x c=some p->bK ar 214 [aF,.int .i64 x] (aO c) fun r a=>r=p.1.e/\a=aO p.2)
  (v:Int) (c:bD) (p:T×bD) (he:CN (rp n) v c=some p):bK ar 245 [.int .i64 v,.eptr aF] (aO c) fun r a=>r= .tuple [p.1.e,.bool true]/\a=aO p.2:=by
 have b:=cm c;simp only[CN,nP]at he;obtain⟨⟨r,e⟩,J,U⟩:=he;have key:=d _ _ _ U;simp only[aO,aE]at b⊢;refine bK.mk mixed j6 Tryz.func245 alK Ψ b.obj fun g f=>?_;unfold Ru;simp[aF];(with_reducible repeat' first|refine al ?_|simp);(refine iN.ob (sI c v r e J) bv bv (Same.keys co co) bi bi d8 ?_;simp[bZ,aO,aE,aF]);(with_reducible repeat' first|refine al ?_|simp);(refine iN.ob (key) bv bv (Same.keys co co) bi bi d8 ?_;simp[bZ,aO,aE,aF]);(with_reducible repeat' first|refine al ?_|simp);(refine cO.at (aO p.2) Ψ bv (Same.keys co co) bi bi ?_;simp[cT,aX,a1,aV,inObs,Pv.look,aO,aE,aF])
theorem k5(n:Int):bL ar 50 [.int .i64 n] (T.var n).e:=by refine bs j6 Tryz.func50 al6 fun a=>?_;unfold RQ;simp;(with_reducible repeat' first|((first|apply bQ|apply bT|apply bS)<;>intro h<;>try simp at h)|refine al ?_|simp);all_goals simp[bE,aX,a1,aV]
theorem ahy(n:Nat):∀(x:Int) (c:bD) (p:T×bD),rp n x c=some p->bK ar 214 [aF,.int .i64 x] (aO c) fun r j=>r=p.1.e/\j=aO p.2:=by
 induction n with
 |zero=>intro x c p h;simp[rp]at h
 |succ n l=>
  intro x c p he;have b:=cm c;simp only[rp]at he;cases d:dp x c.full with
  |some t=>rw[d]at he;cases he;simp only[aO,aE]at b⊢;refine bK.mk mixed j6 Tryz.func214 NX Ψ b.obj fun k g=>?_;unfold Gu;simp[aF];(with_reducible repeat' first|refine al ?_|simp[d]);(refine cO.at (aO c) Ψ bv (Same.keys co co) bi bi ?_;simp[cT,aX,a1,aV,inObs,Pv.look,aO,aE,aF])
  |none=>
   rw[d]at he;simp only at he;cases e:c.shd x with
   |false=>have f:(dp x c.shaped).getD false=false:=e;rw[if_pos e]at he;cases he;simp only[aO,aE]at b⊢;refine bK.mk mixed j6 Tryz.func214 NX Ψ b.obj fun k g=>?_;unfold Gu;simp[aF];(with_reducible repeat' first|refine al ?_|refine aI (k5 _) ?_|refine aJ (k5 _) ?_|simp[d,f]);(refine cO.at (aO {c with full:=fj x (.var x) c.full}) Ψ bv (Same.keys co co) bi bi ?_;simp[cT,aX,a1,aV,inObs,Pv.look,aO,aE,aF])
   |true=>have f:(dp x c.shaped).getD false=true:=e;rw[if_neg (by simp[e]),gD]at he;obtain⟨⟨t,i⟩,J,rfl⟩:=he;have key:=ahe aO cm Ge 245 [.eptr aF] (fun a=>by simp[aO,aE,aF,inObs,Pv.look]) rfl (CN (rp n)) (fun v a p h=>ahz n l v a p h) _ _ _ J;rw[show c.shp x=(dp x c.shape).getD .nil from rfl]at key;simp only[aO,aE]at b⊢;refine bK.mk mixed j6 Tryz.func214 NX Ψ b.obj fun k g=>?_;unfold Gu;simp[aF];(with_reducible repeat' first|refine al ?_|refine aI (k5 _) ?_|refine aJ (k5 _) ?_|simp[d,f]);(refine cC.ob (key) bv bi bi d8 ?_;rintro r j ⟨rfl,rfl⟩;refine⟨(Same.keys co co),?_⟩;simp[bZ,aO,aE,aF]);(with_reducible repeat' first|refine al ?_|simp);(refine cO.at (aO {i with full:=fj x t i.full}) Ψ bv (Same.keys co co) bi bi ?_;simp[cT,aX,a1,aV,inObs,Pv.look,aO,aE,aF])
theorem ahg:bK ar 190 [] ⟨[],[]⟩ fun r a=>r=aF/\a=aO bD.new:=by have b:ek ⟨[],[]⟩:=ek.of wc Ψ Ψ;refine bK.mk mixed j6 Tryz.func190 alT Ψ b.obj fun d c=>?_;unfold RD;simp;refine cO.new (aO bD.new) (.inl rfl) (cm _) ⟨trivial,trivial⟩ (by simp only[aO,aE,bD.new];exact aL) (by simp only[aO,aE,bD.new];exact aL) ?_;simp[cT,aX,a1,aV,inObs,Pv.look,aO,aE,aF]
theorem ZO{a b:List Int}(h:a.Perm b):se a=se b:=by
 have aM:∀a b c:Int,(decide (a<=b))=true->(decide (b<=c))=true->(decide (a<=c))=true:=by intro a b c;simp;omega
 have d:∀a b:Int,(decide (a<=b)||decide (b<=a))=true:=by intro a b;simp;omega
 have J:=List.pairwise_mergeSort aM d a;have U:=List.pairwise_mergeSort aM d b;refine Qc (le:=fun x y:Int=>(decide (x<=y))=true) (fun x y _ _ J U=>by simp at J U;omega) J U ?_;exact(List.mergeSort_perm a _).trans (h.trans (List.mergeSort_perm b _).symm)
def ajK(l:List Int)(k:Nat)(st:bh):Prop:=∃(seen:List Nat) (xs:List Int),seen.Nodup/\(∀b∈seen,b<l.length)/\k=l.length-seen.length/\xs=seen.filterMap (fun b=>l[b]?)/\xs.length=seen.length/\st=⟨[(3,.row 1 (.obj 306) xs.length),(7,.ptr (.loc 0) 0)],[(.obj 304,pw l),(.loc 0,b0 l.length seen (.obj 304))],[(.obj 306,⟨xs.length,3,1,some (eS xs)⟩)],1,[.obj 306,.obj 304]⟩
@[simp]theorem atw(xs:List Int):(eS xs).length=xs.length:=by simp[eS]
@[simp]theorem avU(xs:List Int):cK (eS xs)=eS xs:=by
 induction xs with
 |nil=>rfl
 |cons x r a=>simp only[eS,fA,cK,de]at a⊢;rw[a]
@[simp]theorem atx:eS []=[]:=rfl
theorem ajF(xs:List Int)(x:Int):eS xs++[ah.int .i64 x]=eS (xs++[x]):=by simp[eS]
theorem ahx(l:List Int)(u:l.length<=1000000):bK ar 212 [.gmap (.obj 304)] (ve l) fun r n=>r= .slice 1 .no (eS (se l))/\n=ve l:=by
 have e:=Qm l;unfold ve at e⊢;refine bK.mk mixed gR Tryz.func212 al3 Ψ e.obj fun w m=>?_;unfold RN;simp;refine vr (ajK l) l.length _ ⟨by simp[fresh,aA,av,b0,inObs,Pv.look,nB,uD],dN (by simp[fresh,aA,av,b0,inObs,Pv.look,nB,uD]),dP (by simp[fresh,aA,av,dH,inObs,Pv.look,nB,uD]),Ψ⟩ ⟨[],[],Ψ,Ψ,Ψ,Ψ,Ψ,rfl⟩ ?_;rintro k st ⟨seen,xs,d,a,v,i,q,rfl⟩ o m;clear o m;have hle:=Jl d a;simp;refine adA (mk:= .obj 304) (seen:=seen) (l:=l) Ψ Ψ rfl (fun p=>?_) (fun b x g ae=>?_)
 ·simp;have h:=Pa d a p;rw[<-i]at h;refine cC.ob (ahv 306 xs Ω) (J2 306 xs) (by unfold nT;exact aL) (by unfold nT;exact aL) (by simp[nT,inObs,Pv.look]) ?_;rintro r n ⟨rfl,rfl⟩;refine⟨⟨fun _=>rfl,fun k=>by simp only[nT,Pv.look];split<;>rfl⟩,?_⟩;unfold nT;simp[bZ,ZN];refine cO.at _ (.inl rfl) e (Same.refl _) aL aL ?_;simp[cT,aX,a1,aV];rw[ZO h];simp[av,uD]
 ·have s:∀f:aB->aW (List ah),f (.loc 0)=some (b0 l.length (seen++[b]) (.obj 304))->f (.obj 304)=some (pw l)->qz f (.ptr (.loc 0) 0)=some (True,.tuple [.int .i64 x,.bool true]):=fun f J U=>akC f (.loc 0) (.obj 304) l.length seen b l x J U rfl g;have j:b<l.length:=(fy.1 g).1;have t:=Pb d a j ae;simp[s,ajF];refine⟨by unfold lim;omega,?_⟩;refine bO.next (l.length-(seen.length+1)) Ω ⟨seen++[b],xs++[x],NP d ae,(by simp;intro c ax;rcases ax with ax|rfl;exact a c ax;exact j),Ψ,by rw[List.filterMap_append,<-i];simp[g],by simp[q],rfl⟩ ⟨by simp[fresh,aA,av,b0,inObs,Pv.look,nB,uD],dN (by simp[fresh,aA,av,b0,inObs,Pv.look,nB,uD]),dP (by simp[fresh,aA,av,dH,inObs,Pv.look,nB,uD]),Ψ⟩
@[simp]theorem atL(S:aB->Prop)(xs:List Int):aA S (eS xs)=True:=eq_true (uD S xs)
@[simp]theorem asu:cells .junk=[.junk]:=rfl
def RM:C:=(aa [fk 6 5,bt 7 false] (aa [dU 12 190 [],I 8 12] (.seq (aa [I 13 0,cp 14 13,b1 15 0] (fR 16 15 14 (.seq (.block 1 (aa [cx 17 5 13 15,bg 18 5 17,eg 10 ko,b7 5 10 18] (aa [I 19 8,aH 20 0 1 10,aw 21 1 20,cq 22 191 19 21] (aa [I 23 8,h9 24 1 4 10,bg 25 4 24,cq 26 192 23 25] (.seq (.drawn false 69 [I 27 8,aH 28 0 1 10,aw 29 1 28,cG 30 50 29,h9 31 1 4 10,bg 32 4 31,dU 33 193 [.t 27,.t 30,.t 32],cJ 34 33]) (aU 34 (aa [fk 6 5,bt 7 false] .ret) .skip)))))) (.region [aT 35 .add 15 1,I 15 35])))) (.seq (aa [I 36 1,cp 37 36,b1 38 0] (.block 2 (.loop (aa [bp 39 .lss 38 37] (.seq (aU 39 .skip (.exit 2)) (.seq (.block 3 (aa [I 40 38,I 11 40] (aa [I 41 8,I 42 1,I 43 11,cx 44 4 42 43,bg 45 4 44,cq 46 192 41 45] (aa [I 47 8,I 48 2,I 49 11,cx 50 4 48 49,bg 51 4 50,cq 52 192 47 51] (.seq (.drawn false 69 [I 53 8,I 54 1,I 55 11,cx 56 4 54 55,bg 57 4 56,I 58 2,I 59 11,cx 60 4 58 59,bg 61 4 60,dU 62 193 [.t 53,.t 57,.t 61],cJ 63 62]) (aU 63 (aa [fk 6 5,bt 7 false] .ret) .skip)))))) (.region [aT 64 .add 38 1,I 38 64]))))))) (aa [I 65 8,cG 66 194 65,dn 67 0 66,dn 68 1 66,I 6 67,I 7 68] .ret)))))
def Rt:C:=(aa [fk 2 5,bt 3 false] (aa [c8 (.mkmap 12 (some 304)),I 4 12] (.seq (aa [I 13 0,fQ 14 13,aH 15 0 1 14,aw 16 1 15,c8 (.range 17 none (.t 16))] (.block 0 (.loop (aa [⟨none,.next 18 (.t 17)⟩,dn 19 0 18] (.seq (aU 19 .skip (.exit 0)) (.block 1 (aa [bG 20 (.ment (.t 17)),dn 21 0 20,I 5 21] (.region [I 22 4,I 23 5,c8 (.mput .i (.t 22) (.t 23) (.c (.bool true)))])))))))) (aa [I 24 4,cG 25 212 24,I 6 25] (aa [c8 (.bslm 26 none 5 74 []),I 7 26] (.seq (aa [I 27 6,cp 28 27,b1 29 0] (.block 2 (.loop (aa [bp 30 .lss 29 28] (.seq (aU 30 .skip (.exit 2)) (.seq (.block 3 (aa [cx 31 1 27 29,aw 32 1 31,I 9 32] (aa [I 33 0,I 34 9,cq 35 191 33 34,I 10 35] (.seq (aa [I 36 0,I 37 10,cq 38 213 36 37,cJ 39 38] (aU 39 (aa [fk 2 5,bt 3 false] .ret) .skip)) (.seq (aa [I 40 10,I 41 9,bp 42 .eql 40 41,I 43 42,cg 43 true 44 0,ay 43 true (fQ 45 44),ay 43 true (aH 46 2 1 45),ay 43 true (aw 47 1 46),cg 43 true 48 10,ay 43 true (bG 49 (.mget .i (.bool false) false (.t 47) (.t 48))),ay 43 true (cJ 50 49),ef 51 43 50] (aU 51 (.exit 3) .skip)) (aa [I 52 7,I 53 9,mf 54 ko [(0,1,(.t 53))],eD 55 5 74 [.t 54],c8 (.appm 56 none 5 74 (.t 52) (.t 55)),I 7 56] (aa [I 57 0,fQ 58 57,aH 59 4 1 58,aw 60 1 59,I 61 10,bG 62 (.mget .i (.int .i64 0) false (.t 60) (.t 61)),aT 63 .gtr 62 5000,I 64 63,cg 64 false 65 7,ay 64 false (cp 66 65),ay 64 false (aT 67 .gtr 66 400),dy 68 64 67] (aU 68 (aa [fk 2 5,bt 3 false] .ret) .skip)))))))) (.region [aT 69 .add 29 1,I 29 69]))))))) (.seq (aa [I 70 7,cp 71 70,b1 72 0] (.block 4 (.loop (aa [bp 73 .lss 72 71] (.seq (aU 73 .skip (.exit 4)) (.seq (.block 5 (aa [I 74 72,I 11 74] (.region [I 75 7,I 76 11,I 77 0,I 78 0,I 79 7,I 80 11,cx 81 5 79 80,aH 82 0 1 81,aw 83 1 82,cq 84 191 78 83,cq 85 214 77 84,cG 86 170 85,cx 87 5 75 76,h9 88 1 4 87,b7 4 88 86]))) (.region [aT 89 .add 72 1,I 72 89]))))))) (.seq (.pub 7 (.region [I 90 7,I 2 90,bt 3 true])) .ret))))))))
def PG:List (Nat×dE):=[
 (3,⟨1,8,.int .i64,.int .i64 0⟩),
 (4,⟨1,1,.bool,.bool false⟩),
 (30,⟨1,24,.slice 74,.slice 5 .nil []⟩),
 (44,⟨1,24,.slice 71,.slice 4 .nil []⟩),
 (71,⟨4,56,.struct [(0,3),(1,3),(2,9),(3,44)],.agg [.int .i64 0,.int .i64 0,.str [],.slice 4 .nil []]⟩),
 (74,⟨5,64,.struct [(0,3),(1,71)],.agg [.int .i64 0,.int .i64 0,.int .i64 0,.str [],.slice 4 .nil []]⟩),
 (91,⟨1,8,.map 3 4,.junk⟩),
 (93,⟨1,8,.map 3 3,.junk⟩),
 (128,⟨1,24,.slice 3,.slice 1 .nil []⟩),
 (221,⟨6,48,.struct [(0,93),(1,219),(2,91),(3,93),(4,93),(5,219)],.agg [.junk,.junk,.junk,.junk,.junk,.junk]⟩)]
theorem aam:e6 ar PG=true:=an
theorem al2:b4 PG RM [.tmp 6,.tmp 7] 3 Tryz.f169=true:=an
theorem alJ:b4 PG Rt [.tmp 2,.tmp 3] 1 Tryz.f194=true:=an
def gI(o:aW (List au)):ah:= .tuple [.slice 5 .no ((o.getD []).map au.e),.bool o.isSome]
theorem akE(f:aB->aW (List ah))(fS mk:aB)(n:Nat)(seen:List Nat)(b:Nat)(l:List (Int×Int))(x:Int×Int)(hi:f fS=some (b0 n (seen++[b]) mk))(hm:f mk=some (oh l))(a:n=l.length)(c:l[b]? =some x):qz f (.ptr fS 0)=some (True,.tuple [.int .i64 x.1,.int .i64 x.2]):=by rw[Xv f fS mk n seen b _ hi hm (by simpa using a)];simp[c]
theorem adB{st:bh}{d:Nat}{K:bh->Prop}{fS mk:aB}{n:Nat}{seen:List Nat}{l:List (Int×Int)}(hi:Pv.look fS st.b=some (b0 n seen mk))(hm:Pv.look mk st.b=some (oh l))(c:n=l.length)
  (J:(∀b,b<l.length->b∈seen)->K {st with t:=Pv.put d (.tuple [.bool false]) st.t}) (U:∀b x,l[b]? =some x->b∉seen->K {st with t:=Pv.put d (.tuple [.bool true,.int .i64 x.1,.int .i64 x.2]) st.t,b:=cB fS (b0 n (seen++[b]) mk) st.b}):
  tZ st d (.ptr fS 0) K:=by
 refine TN hi hm (by simpa using c) (fun h=>J fun b ae=>h b Ω) (fun b k v ae f=>?_);simp only[List.getElem?_map,gD]at ae;obtain⟨x,e,a⟩:=ae;simp only[hN]at a;obtain⟨rfl,rfl⟩:=a;exact U b x e f
@[simp]theorem au7(m:aB)(l:List (Int×Int)):zS m (oh l)=some (b0 l.length [] m):=by simp[oh,tp]
def oJ(v:Int):ah:= .agg [.int .i64 v,.int .i64 0,.int .i64 0,.str [],.slice 4 .nil []]
@[simp]theorem aj4(S:aB->Prop)(l:List Int):aA S (l.map oJ)=True:=by
 apply eq_true;induction l with
 |nil=>simp[aA]
 |cons x r a=>simp only[fA,aA];exact⟨by simp[oJ,av,aA],a⟩
@[simp]theorem at0(S:aB->Prop)(v:Int):av S (oJ v)=True:=by simp[oJ,av,aA]
@[simp]theorem avh(v:Int):e5 (oJ v)=true:=rfl
@[simp]theorem ase(v:Int):cells (oJ v)=[.int .i64 v,.int .i64 0,.int .i64 0,.str [],.slice 4 .nil []]:=rfl
theorem aoU(v:Int)(f:Nat)(cs:List ah):nG (oJ v) f cs= .agg (o6 [.int .i64 v,.int .i64 0,.int .i64 0,.str [],.slice 4 .nil []] f cs):=rfl
theorem kA{S:aB->Prop}:∀{a b:List ah},aA S (a++b)↔(aA S a/\aA S b)
 |[],b=>by simp[aA]
 |x::a,b=>by simp[aA,kA (a:=a),and_assoc]
@[simp]theorem atK(S:aB->Prop)(k:Nat)(l:List Int):aA S (oB k (l.map oJ))=True:=by rw[<-List.map_drop];exact aj4 S _
@[simp]theorem aui(S:aB->Prop)(o:aW (List au)):av S (gI o)=True:=by simp[gI]
theorem Kj(l:List Int)(v:Int):l.map oJ++[.agg [.int .i64 v,.int .i64 0,.int .i64 0,.str [],.slice 4 .nil []]]=(l++[v]).map oJ:=by simp[oJ]
def ajG(c:bD)(k:Nat)(st:bh):Prop:=∃(seen:List Nat) (xs:List Int),seen.Nodup/\(∀b∈seen,b<c.up.length)/\k=c.up.length-seen.length/\xs=seen.filterMap (fun b=>(c.up[b]?).map (·.1))/\xs.length=seen.length/\st=⟨[(0,aF),(4,.gmap (.obj 304)),(17,.ptr (.loc 0) 0)],aE c++[(.obj 304,pw xs),(.loc 0,b0 c.up.length seen (.obj 702))],[],1,[.obj 304,.obj 702,.obj 703,.obj 704,.obj 705,.obj 706,.obj 707]⟩
theorem ao6{c:bD}{seen:List Nat}(e:seen.Nodup)(d:∀b∈seen,b<c.up.length)(a:∀b,b<c.up.length->b∈seen):(seen.filterMap fun b=>(c.up[b]?).map (·.1)).Perm (cy c.up):=by have:=Pa (l:=cy c.up) e (by simpa[cy]using d) (by simpa[cy]using a);simpa[cy]using this
theorem ao7{c:bD}(e:(cy c.up).Nodup){seen:List Nat}{b:Nat}(ae:b∉seen){x:Int×Int}(j:c.up[b]? =some x):x.1∉seen.filterMap fun b=>(c.up[b]?).map (·.1):=by
 intro hm;rw[List.mem_filterMap]at hm;obtain⟨cb,J,U⟩:=hm;obtain⟨y,i,k⟩:=gD.1 U;have f:(cy c.up)[b]? =some x.1:=by simp[cy,j]
 have g:(cy c.up)[cb]? =some x.1:=by simp[cy,i,k]
 have d:=(fy.1 f).1;have a:=(fy.1 g).1;have f1:=(fy.1 f).2;have f2:=(fy.1 g).2;rcases Nat.lt_trichotomy b cb with h|h|h
 ·exact qN.1 e b cb d a h (f1.trans f2.symm)
 ·subst h;exact ae J
 ·exact qN.1 e cb b a d h (f2.trans f1.symm)
theorem aht(n:Nat)(c:bD)(o:aW (List au))(he:FH n (sf (cy c.up)) c=some o)(Ed:(cy c.up).Nodup)(hlen:c.up.length<=1000000)(bH:nj c):bK ar 194 [aF] (aO c) fun r w=>r=gI o/\∃cw,w=aO cw:=by
 have ag:=cm c;simp only[aO,aE]at ag⊢;refine bK.mk mixed aam Tryz.func194 alJ Ψ ag.obj fun aP cU=>?_;unfold Rt;simp[aF];have W:∀S:aB->Prop,aA S (k1 []):=fun S=>nB S [];refine vr (ajG c) c.up.length _ ⟨by simp[fresh,aA,av,b0,inObs,Pv.look,nB,aF,aE,W],dN (by simp[fresh,aA,av,b0,inObs,Pv.look,nB,aF,aE,W]),dP (by simp[fresh,aA,av,dH,inObs,Pv.look,nB,aF,aE,W]),Ψ⟩ ⟨[],[],Ψ,Ψ,Ψ,Ψ,Ψ,rfl⟩ ?_;rintro k st ⟨seen,xs,p,E,ad,H,jC,rfl⟩ oR cU;clear oR cU;have hle:=Jl p E;simp[aE,aF];refine adB (mk:= .obj 702) (seen:=seen) (l:=c.up) Ψ Ψ rfl (fun mv=>?_) (fun b x G ae=>?_);rotate_left
 ·have Br:∀f:aB->aW (List ah),f (.loc 0)=some (b0 c.up.length (seen++[b]) (.obj 702))->f (.obj 702)=some (oh c.up)->qz f (.ptr (.loc 0) 0)=some (True,.tuple [.int .i64 x.1,.int .i64 x.2]):=fun f J U=>akE f (.loc 0) (.obj 702) c.up.length seen b c.up x J U rfl G;have dV:b<c.up.length:=(fy.1 G).1;have l3:=Pb p E dV ae;have kv:=ao7 Ed ae G;rw[<-H]at kv;simp[Br,Ke,kv];refine bO.next (c.up.length-(seen.length+1)) Ω ⟨seen++[b],xs++[x.1],NP p ae,(by simp;intro c ax;rcases ax with ax|rfl;exact E c ax;exact dV),Ψ,by rw[List.filterMap_append,<-H];simp[G],by simp[jC],rfl⟩ ⟨by simp[fresh,aA,av,b0,inObs,Pv.look,nB,aF,aE],dN (by simp[fresh,aA,av,b0,inObs,Pv.look,nB,aF,aE]),dP (by simp[fresh,aA,av,dH,inObs,Pv.look,nB,aF,aE]),Ψ⟩
 ·simp;have X:=ao6 p E mv;rw[<-H]at X;have O:xs.length<=1000000:=Ω
  refine cC.ob (ahx xs O) (Qm _) (by simp only[ve];exact aL) (by simp only[ve];exact aL) (by simp[inObs,ve,Pv.look]) ?_;rintro r w ⟨rfl,rfl⟩;refine⟨Same.refl _,?_⟩;have By:se xs=sf (cy c.up):=ZO X;rw[By];obtain⟨ba,jk⟩:∃ba,ba=sf (cy c.up):=⟨_,rfl⟩;rw[<-jk]at he⊢;simp[ve,bZ];simp only[FH,nP]at he;obtain⟨res,Bj,s⟩:=he;have qv:ba.length<=1000000:=by rw[jk,(FK _).length_eq];simpa[cy]using hlen
  refine hk (α:=bD×List Int) (fun i a=>⟨[(0,aF),(27,.slice 1 .no (eS ba)),(28,.int .i64 ba.length),(7,.row 5 (.loc 1) a.2.length),(29,.int .i64 i)],aE a.1,[(.loc 1,⟨a.2.length,74,5,some (a.2.map oJ)⟩)],2,[.obj 702,.obj 703,.obj 704,.obj 705,.obj 706,.obj 707]⟩) ba.length (fun i a=>tF n (ba.drop i) a.1 a.2=some res/\nj a.1/\a.2.length<=400) (c,[]) (by simp[aF,aE];exact⟨by simp[fresh,aA,av,b0,inObs,Pv.look,nB,aF,aE],dN (by simp[fresh,aA,av,b0,inObs,Pv.look,nB,aF,aE]),dP (by simp[fresh,aA,av,dH,inObs,Pv.look,nB,aF,aE]),Ψ⟩) ⟨by simpa using Bj,bH,Ψ⟩ ?_ ?_
  ·rintro⟨K,out⟩ ⟨J,U,F⟩ ae;simp only at J U F ae⊢;simp[tF]at J;subst J;simp only[gD]at s;obtain⟨⟨L,V⟩,Q,rfl⟩:=s;simp[aF,aE];refine hk (α:=bD×List au) (fun j a=>⟨[(0,aF),(7,.row 5 (.loc 1) out.length),(71,.int .i64 out.length),(72,.int .i64 j)],aE a.1,[(.loc 1,⟨out.length,74,5,some (a.2.map au.e++(out.drop j).map oJ)⟩)],2,[.obj 702,.obj 703,.obj 704,.obj 705,.obj 706,.obj 707]⟩) out.length (fun j a=>a.2.length=j/\∃rest,Aa n (out.drop j) a.1=some (rest,V)/\a.2++rest=L) (K,[]) (by simp[aF,aE];exact⟨by simp[fresh,aA,av,b0,inObs,Pv.look,aF,aE],dN kH,dP li,Ψ⟩) ⟨rfl,L,by simpa using Q,rfl⟩ ?_ ?_
   ·rintro⟨c2,done⟩ ⟨m,rest,g,d⟩ ae;simp only at m g d ae⊢;simp[Aa]at g;obtain⟨rfl,rfl⟩:=g;simp at d;subst d;simp[aF,aE,m];refine cO.at (aO c2) Ψ (cm _) (Same.keys (by simp[aO,aE]) (by simp[aO,aE])) jp jp ?_;simp[cT,aX,a1,aV,aO,aE,gI];exact⟨c2,Ψ⟩
   ·rintro j ⟨c2,done⟩ y ⟨m,rest,g,d⟩ ae;simp only at m g d ae⊢;obtain⟨v,q⟩:∃v,out[j]? =some v:=⟨_,cl y⟩;have p:out.drop j=v::out.drop (j+1):=by rw[mh y];rw[cl y]at q;cases q;rfl
    rw[p]at g;simp only[Aa,nP,gD,hN]at g;obtain⟨⟨x,c3⟩,dY,⟨t,c4⟩,Z,⟨M,asD⟩,Y,rfl,rfl⟩:=g;simp only at Z Y;have key:=ahy n x c3 _ Z;rw[p];have hE:∀R,(done.map au.e++oJ v::R)[j]? =some (oJ v):=fun R=>by rw[List.getElem?_append_right d7];simp[m]
    have uv:∀R x,(done.map au.e++oJ v::R).set j x=done.map au.e++x::R:=fun R x=>by rw[List.set_append_right _ _ d7];simp[m]
    simp[aF,aE];(with_reducible repeat' first|refine al ?_|simp[hE,y]);(refine cC.ob (sI c2 v x c3 dY) bv bi bi d8 ?_;rintro r w ⟨rfl,rfl⟩;refine⟨(Same.keys co co),?_⟩;simp[bZ,aO,aE,aF]);(with_reducible repeat' first|refine al ?_|simp);(refine cC.ob (key) bv bi bi d8 ?_;rintro r w ⟨rfl,rfl⟩;refine⟨(Same.keys co co),?_⟩;simp[bZ,aO,aE,aF]);(with_reducible repeat' first|refine al ?_|refine aI (u3 _) ?_|refine aJ (u3 _) ?_|simp[hE,uv,y,aoU,-nG]);refine bO.rng (c4,done++[⟨v,t⟩]) y ⟨by simp[m],M,Y,by simpa using d⟩ ?_;simp[aF,aE];exact⟨by simp[fresh,aA,av,b0,inObs,Pv.look,aF,aE,kA],dN (by simp[fresh,aA,av,b0,inObs,Pv.look,aF,aE,kA]),dP (by simp[fresh,aA,av,dH,inObs,Pv.look,aF,aE,kA]),Ψ⟩
  ·rintro i ⟨K,out⟩ hi ⟨J,U,F⟩ ae;simp only at J U F ae⊢;obtain⟨v,q⟩:∃v,ba[i]? =some v:=⟨_,cl hi⟩;have p:ba.drop i=v::ba.drop (i+1):=by rw[mh hi];rw[cl hi]at q;cases q;rfl
   rw[p]at J;simp only[tF,nP]at J;obtain⟨⟨x,c2⟩,m,⟨f,c3⟩,g,d⟩:=J;simp only at g d;obtain⟨z3,key⟩:=ahA n x c2 _ g (U.rt m);have P:∀h,(eS ba)[i]'h= .int .i64 v:=fun h=>by rw[cl hi]at q;simp only[dv]at q;simp[eS,q]
   simp[aF,aE];(with_reducible repeat' first|refine al ?_|simp[P,hi]);(refine cC.ob (sI K v x c2 m) bv bi bi d8 ?_;rintro r w ⟨rfl,rfl⟩;refine⟨(Same.keys co co),?_⟩;simp[bZ,aO,aE,aF]);(with_reducible repeat' first|refine al ?_|simp);(refine cC.ob (key) bv bi bi d8 ?_;rintro r w ⟨rfl,rfl⟩;refine⟨(Same.keys co co),?_⟩;simp[bZ,aO,aE,aF]);cases f with
   |false=>simp at d;subst d;simp at s;subst s;(with_reducible repeat' first|refine al ?_|simp);refine cO.at (aO c3) Ψ (cm _) (Same.keys (by simp[aO,aE]) (by simp[aO,aE])) jp jp ?_;simp[cT,aX,a1,aV,aO,aE,gI];exact⟨c3,Ψ⟩
   |true=>
    simp only[Bool.true_eq_false,if_false]at d;by_cases ax:x=v/\c3.shd x=false
    ·rw[if_pos ax]at d;obtain⟨N,mU⟩:=ax;subst N;have uu:(dp x c3.shaped).getD false=false:=mU;(with_reducible repeat' first|refine al ?_|simp[uu]);refine bO.rng (c3,out) hi ⟨d,z3,F⟩ ?_;exact⟨by simp[fresh,aA,av,b0,inObs,Pv.look,aF,aE],dN kH,dP li,Ψ⟩
    ·rw[if_neg ax]at d;have VP:(x==v)=false\/((x==v)=true/\(dp x c3.shaped).getD false=true):=by
      by_cases e:x=v
      ·right;refine⟨by simp[e],?_⟩;cases aC:c3.shd x with
       |false=>exact absurd ⟨e,aC⟩ ax
       |true=>exact aC
      ·left;simp[e]
     by_cases D:5000<c3.sz x\/400<out.length+1
     ·rw[if_pos D]at d;cases d;simp at s;subst s;have hR:(decide (5000<jK c3.size x))=true\/(decide (5000<jK c3.size x)=false/\400<out.length+1):=by
       by_cases e:5000<jK c3.size x
       ·left;simp[e]
       ·right;exact⟨by simp[e],D.resolve_left e⟩
      have z:True:=trivial;have A:True:=trivial;rcases VP with u|⟨u,z⟩;all_goals
       rcases hR with B|⟨B,A⟩
       all_goals
        ((with_reducible repeat' first|refine al ?_|simp[u,z,B,A]|((first|apply bQ|apply bT|apply bS)<;>intro h<;>try simp at h))<;>(try exact cv))
        refine cO.at (aO c3) Ψ (cm _) (Same.keys (by simp[aO,aE]) (by simp[aO,aE])) jp jp ?_
        simp[cT,aX,a1,aV,aO,aE,gI]
        exact⟨c3,Ψ⟩
     ·rw[if_neg D]at d;have B:decide (5000<jK c3.size x)=false:=by simp;exact Int.not_lt.1 fun h=>D (.inl h)
      have A:¬400<out.length+1:=fun h=>D (.inr h);have z:True:=trivial;rcases VP with u|⟨u,z⟩;all_goals
       ((with_reducible repeat' first|refine al ?_|simp[u,z,B,A]|((first|apply bQ|apply bT|apply bS)<;>intro h<;>try simp at h))<;>(try exact cv))
       all_goals first|(refine⟨by unfold lim;omega,?_⟩)|skip
       ((with_reducible repeat' first|refine al ?_|simp[u,z,B,A]|((first|apply bQ|apply bT|apply bS)<;>intro h<;>try simp at h))<;>(try exact cv))
       refine bO.rng (c3,out++[v]) hi ⟨d,z3,by simp;omega⟩ ?_
       exact⟨by simp[fresh,aA,av,b0,inObs,Pv.look,aF,aE,Kj,kA],dN (by simp[fresh,aA,av,b0,inObs,Pv.look,aF,aE,Kj,kA]),dP (by simp[fresh,aA,av,dH,inObs,Pv.look,aF,aE,Kj,kA]),Ψ⟩
theorem aaf:∀{a b:T},a.tm=b.tm->a=b:=by
 intro a;induction a with
 |pair x y d c=>intro b h;cases b<;>simp[T.tm]at h;rw[d h.1,c h.2]
 |_=>intro b h;cases b<;>simp[T.tm]at h⊢ <;>exact h
def abJ(l:List dj):Prop:= ∃s:List au,l=s.map au.b/\rj s/\iM s/\hZ s
def J6(l:List dj):Prop:= ∃s:List au,l=s.map au.b/\rj s/\gf s/\hZ s
theorem QS:∀{l:List dj},(∀b∈l,b.t.fits=true)->∃s:List au,l=s.map au.b/\A3 s
 |[],_=>⟨[],rfl,fun b ae=>by simp at ae⟩
 |b::l,h=>by
  obtain⟨s,J,U⟩:=QS (l:=l) fun c ax=>h c (by simp[ax]);obtain⟨x,a,d⟩:=b2.fits_ex (h b Ψ);refine⟨⟨b.v,x⟩::s,by rw[J];simp[au.b,a],fun c ax=>?_⟩;rcases gp.1 ax with rfl|ax
  ·exact d
  ·exact U c ax
theorem JQ{l:List dj}:Az l↔abJ l:=by
 constructor
 ·rintro⟨J,U⟩;obtain⟨s,rfl,r⟩:=QS (l:=l) fun b ae=>by obtain⟨i,hi,e⟩:=oC ae;exact(U i hi b (by rw[cl hi,e])).2.2
  have k:∀b∈s,b.t.ok=true/\b.t.size<=5000:=fun b ae=>by have:=r b ae;simpa[T.fit]using this
  refine⟨s,rfl,fun b ae=>⟨?_,(k b ae).1⟩,?_,by simpa using J,fun b ae=>(k b ae).2⟩
  ·obtain⟨i,hi,e⟩:=oC ae;have:=(U i (by simpa using hi) b.b (by simp[cl hi,e])).1;exact this
  ·rw[iM,qN];have a:∀i (h:i+1<s.length),s[i].v<s[i+1].v:=fun i h=>by have:=(U (i+1) (by simpa using h) s[i+1].b (by simp[cl h])).2.1 s[i].b Ω (by simp[cl (show i<s.length by omega)]);exact this
   have:∀(d i:Nat) (h:i+d+1<s.length),s[i].v<s[i+d+1].v:=by
    intro d;induction d with
    |zero=>intro i h;exact a i h
    |succ d o=>intro i h;have m:=o i Ω;have a2:=a (i+d+1) Ω;simp only[Nat.add_assoc]at m a2⊢;omega
   intro i j hi v t;have:=this (j-i-1) i Ω;simpa[show i+(j-i-1)+1=j from by omega]using this
 ·rintro⟨s,rfl,ak,n,g⟩;refine⟨by simpa using g.1,fun i hi b ae=>?_⟩;simp only[List.getElem?_map,gD]at ae;obtain⟨c,ax,rfl⟩:=ae;have hm:=eQ ax;refine⟨(ak c hm).1,fun d u f=>?_,?_⟩
  ·simp only[List.getElem?_map,gD]at f;obtain⟨e,he,rfl⟩:=f;obtain⟨J,p⟩:=fy.1 he;obtain⟨U,q⟩:=fy.1 ax;have:=qN.1 n (i-1) i J U Ω;rw[p,q]at this;exact this
  ·show c.t.tm.fits=true;rw[b2.fits_T];simp[T.fit,(ak c hm).2,g.2 c hm]
def w4(s:List au)(v:Int)(f:Bool):Bool:=if 0<=nY s v then false else f
def nl(s:List au)(b:au):Bool:=b.t.fold (w4 s) true&& !(b.t.kind==1&&decide (b.v<=b.t.int))
theorem Un{s:List au}(e:iM s)(t:T):∀f:Bool,t.fold (w4 s) f=true↔f=true/\∀w,t.occ w=true->dx s w=none:=by
 induction t with
 |var n=>
  intro f;simp only[T.fold,T.occ,dS,w4];have:=Uj e n;by_cases h:0<=nY s n
  ·rw[if_pos h];constructor
   ·intro h;cases h
   ·rintro⟨_,U⟩;have:=this.2 (U n rfl);omega
  ·rw[if_neg h];exact⟨fun i=>⟨i,fun w hw=>by subst hw;exact this.1 Ω⟩,fun h=>h.1⟩
 |pair a b d c=>
  intro f;simp only[T.fold,d,c,T.occ,nL];constructor
  ·rintro⟨⟨J,U⟩,g⟩;exact⟨J,fun w hw=>hw.elim (U w) (g w)⟩
  ·rintro⟨J,U⟩;exact⟨⟨J,fun w hw=>U w (.inl hw)⟩,fun w hw=>U w (.inr hw)⟩
 |_=>intro f;simp[T.fold,T.occ]
theorem Kl{s:List au}(c:iM s)(b:au):nl s b=true↔(∀w,b.t.occ w=true->dx s w=none)/\∀w,b.t= .var w->w<b.v:=by
 unfold nl;rw[cD,Un c];simp only[true_and];refine and_congr_right fun _=>?_;constructor
 ·intro h w hw;have a:(b.t.kind==1)=true:=by rw[hw];rfl
  have hi:b.t.int=w:=by rw[hw];rfl
  rw[a,hi]at h;simpa using h
 ·intro h;cases a:(b.t.kind==1)with
  |false=>rfl
  |true=>
   obtain⟨w,hw⟩:∃w,b.t= .var w:=by
    cases e:b.t with
    |var w=>exact⟨w,rfl⟩
    |_=>rw[e]at a;simp at a
   have hi:b.t.int=w:=by rw[hw];rfl
   have:=h w hw;rw[hi];simpa using this
theorem ZM{s:List au}(a:iM s):gf s↔∀b∈s,nl s b=true:=by
 constructor
 ·intro h b ae;exact(Kl a b).2 ⟨h.free b ae,h.ori b ae⟩
 ·intro h;exact⟨a,fun b ae=>((Kl a b).1 (h b ae)).1,fun b ae=>((Kl a b).1 (h b ae)).2⟩
def th{α:Type}(p:α->Bool)(s:List α)(i:Nat)(_:Unit):Prop:= ∀k b,k<i->s[k]? =some b->p b=true
theorem th.step{α:Type}{p:α->Bool}{s:List α}{i:Nat}(h:th p s i ()){b:α}(ae:s[i]? =some b)(a:p b=true):th p s (i+1) ():=fun k c d ax=>by
 rcases(by omega:k<i\/k=i)with J|rfl
 ·exact h k c J ax
 ·rw[ae]at ax;cases ax;exact a
open Classical in
noncomputable def hf(l:List dj):Bool:=decide (J6 l)
theorem si{l:List dj}:hf l=true↔J6 l:=by unfold hf;simp
def jt(f:Bool):cM:=⟨[(.obj 731,[.bool f])],[]⟩
theorem wQ(f:Bool):ek (jt f):=by unfold jt;exact ek.of ⟨by intro m;simp[Pv.look],by intro m;simp[Pv.look]⟩ Ψ Ψ
theorem abA(a b:Bool):Same (jt a) (jt b):=Same.keys (by simp[jt]) (by simp[jt])
theorem ag2(s:List au)(a:s.length<=1000000)(v:Int)(f:Bool):bK ar 132 [.int .i64 v,.eptr (.slice 5 .no (s.map au.e)),.ptr (.obj 731) 0] (jt f) fun r d=>r= .tuple []/\d=jt (w4 s v f):=by
 have b:=wQ f;simp only[jt]at b⊢;by_cases h:0<=nY s v
 ·rw[w4,if_pos h];refine bK.mk mixed sk Tryz.func132 XX Ψ b.obj fun e c=>?_;unfold Kt;simp;(with_reducible repeat' first|refine al ?_|refine aI (u5 s v a) ?_|refine aJ (u5 s v a) ?_|simp[h]);(refine cO.at (jt false) Ψ (by first|exact wQ _|exact wQ ‹_› _) (Same.keys (by simp[jt]) (by simp[jt])) m7 m7 ?_;simp[cT,aX,a1,aV,inObs,Pv.look,jt])
 ·rw[w4,if_neg h];refine bK.mk mixed sk Tryz.func132 XX Ψ b.obj fun e c=>?_;unfold Kt;simp;(with_reducible repeat' first|refine al ?_|refine aI (u5 s v a) ?_|refine aJ (u5 s v a) ?_|simp[h]);(refine cO.at (jt f) Ψ (by first|exact wQ _|exact wQ ‹_› _) (Same.keys (by simp[jt]) (by simp[jt])) m7 m7 ?_;simp[cT,aX,a1,aV,inObs,Pv.look,jt])
theorem PK(l:List dj):bL ar 82 [.slice 5 .no (l.map dj.e)] (.bool (hf l)):=by
 have p:=aqm l;by_cases h:Az l;rotate_left
 ·have m:hf l=false:=by unfold hf;simp only[iq];rintro⟨s,J,U,f,B⟩;exact h (JQ.2 ⟨s,J,U,f.asc,B⟩)
  rw[m];refine bs sk Tryz.func82 XW fun H=>?_;unfold Ks;exact cn
 ·obtain⟨s,rfl,ak,D,A⟩:=JQ.1 h;have F:s.length<=1000000:=by have:=A.1;omega
  have G:(s.map au.b).map dj.e=s.map au.e:=by rw[List.map_map];exact List.map_congr_left fun b _=>au.b_e b
  have m:hf (s.map au.b)=s.all (nl s):=by
   rw[ry,jL,si,<-ZM D];constructor
   ·rintro⟨z,J,U,f,B⟩;have:z=s:=by
     have n:∀a b:List au,a.map au.b=b.map au.b->a=b:=by
      intro a;induction a with
      |nil=>intro b ae;cases b<;>simp at ae⊢
      |cons x a E=>
       intro b ae;cases b with
       |nil=>simp at ae
       |cons y b=>simp only[fA,rA,au.b,dj.mk.injEq]at ae;rw[E b ae.2];have:=aaf ae.1.2;obtain⟨⟨K,_⟩,_⟩:=ae;cases x;cases y;simp_all
     exact(n _ _ J).symm
    rw[<-this];exact f
   ·intro f;exact⟨s,rfl,ak,f,A⟩
  rw[m];rw[G]at p⊢;refine bs sk Tryz.func82 XW fun H=>?_;unfold Ks;simp;((with_reducible repeat' first|refine al ?_|refine aI p ?_|refine aJ p ?_|simp[h]|((first|apply bQ|apply bT|apply bS)<;>intro h<;>try simp at h))<;>(try exact cv));refine hk (α:=Unit) (fun i _=>⟨[(1,.eptr (.slice 5 .no (s.map au.e))),(9,.slice 5 .no (s.map au.e)),(10,.int .i64 s.length),(11,.int .i64 i)],[],[],1,[]⟩) s.length (th (nl s) s) () b6 (fun k b c=>Ω) (fun _ j _=>?_) (fun i _ hi j _=>?_)
  ·have:s.all (nl s)=true:=by rw[jL];intro b ae;obtain⟨k,c,e⟩:=oC ae;exact j k b c (by rw[cl c,e])
   rw[this];exact cn
  ·obtain⟨b,d⟩:∃b,s[i]? =some b:=⟨_,cl hi⟩;have u:∀h,(s[i]'h)=b:=fun h=>by rw[cl hi]at d;exact fK d
   have key:=Uw jt wQ abA 132 [.eptr (.slice 5 .no (s.map au.e)),.ptr (.obj 731) 0] (fun a=>by simp[jt,inObs,Pv.look]) Ψ (w4 s) (fun v a=>ag2 s F v a) b.t true;have t:nl s b=false->s.all (nl s)=false:=fun h=>by rw[Bool.eq_false_iff];intro w;rw[jL]at w;rw[w b (eQ d)]at h;cases h
   simp[hi,u];(with_reducible repeat' first|refine al ?_|simp[u,hi]);(refine cC.ob (key) (by first|exact wQ _|exact wQ ‹_› _) m7 m7 (by simp[inObs,Pv.look,jt]) ?_;rintro r z ⟨rfl,rfl⟩;refine⟨(Same.keys (by simp[jt]) (by simp[jt])),?_⟩;simp[bZ,jt]);generalize o:b.t.fold (w4 s) true=q;have g:nl s b=(q&& !(b.t.kind==1&&decide (b.v<=b.t.int))):=by unfold nl;rw[o]
   cases q with
   |false=>rw[t (by rw[g];rfl)];exact cn
   |true=>
    cases c:(b.t.kind==1)with
    |false=>(with_reducible repeat' first|refine al ?_|simp[c]);refine bO.rng () hi (j.step d (by rw[g,c];rfl)) ?_;exact b6
    |true=>
     by_cases hle:b.v<=b.t.int
     ·rw[t (by rw[g,c];simp[hle])];exact cn
     ·(with_reducible repeat' first|refine al ?_|simp[c,hle]);refine bO.rng () hi (j.step d (by rw[g,c];simp[hle])) ?_;exact b6
@[simp]theorem atT(S:aB->Prop):aA S (k1 [])=True:=eq_true (nB S [])
theorem ahs(n:Nat)(s:List au)(l r:List T)(L:l.length=r.length)(O:s.length<=1000000)(P:l.length<=1000000)(o:aW (List au))(he:Cz n (ig s++l.zip r)=some o)
  (hinv:∀c,qS n (ig s++l.zip r) bD.new=some (true,c)->(cy c.up).Nodup/\c.up.length<=1000000/\nj c):bL ar 169 [.slice 5 .no (s.map au.e),.slice 4 .no (l.map T.e),.slice 4 .no (r.map T.e)] (gI o):=by
 obtain⟨E,q⟩:∃E,E=ig s++l.zip r:=⟨_,rfl⟩;rw[<-q]at he hinv;simp only[Cz,nP]at he;obtain⟨fin,F,e⟩:=he;have hlen:E.length=s.length+l.length:=by rw[q];simp[ig,L]
 have A:∀i b,s[i]? =some b->E.drop i=(.var b.v,b.t)::E.drop (i+1):=fun i b ae=>by
  have hi:=(fy.1 ae).1;have aY:E[i]? =some (.var b.v,b.t):=by rw[q,rB (by simp[ig];exact hi)];simp[ig,ae]
  rw[mh Ω];rw[cl Ω]at aY;simp only[dv]at aY;rw[aY]
 have B:∀i a b,l[i]? =some a->r[i]? =some b->E.drop (s.length+i)=(a,b)::E.drop (s.length+(i+1)):=fun i a b j ae=>by
  have hi:=(fy.1 j).1;have aY:E[s.length+i]? =some (a,b):=by rw[q,List.getElem?_append_right (by simp[ig])];simp[ig,List.getElem?_zip_eq_some,j,ae]
  rw[mh Ω];rw[cl Ω]at aY;simp only[dv]at aY;rw[aY];rfl
 refine bs aam Tryz.func169 al2 fun R=>?_;unfold RM;simp;refine cC.new ahg (ek.of wc Ψ Ψ) (fun k cs h=>by simp[Pv.look]at h) (fun k cs h=>by simp[Pv.look]at h) Ψ ?_;rintro r0 s0 ⟨rfl,rfl⟩;refine⟨fun m hm=>.inr Ψ,?_⟩;simp[aO,aE,bZ,aF];refine hk (α:=bD) (fun i c=>⟨[(1,.slice 4 .no (l.map T.e)),(2,.slice 4 .no (r.map T.e)),(8,aF),(13,.slice 5 .no (s.map au.e)),(14,.int .i64 s.length),(15,.int .i64 i)],aE c,[],0,[.obj 702,.obj 703,.obj 704,.obj 705,.obj 706,.obj 707]⟩) s.length (fun i c=>qS n (E.drop i) c=some fin) bD.new (by simp[aF,aE];exact⟨by simp[fresh,aA,av,b0,inObs,Pv.look,aF,aE,bD.new],dN (by simp[fresh,aA,av,b0,inObs,Pv.look,aF,aE,bD.new]),dP (by simp[fresh,aA,av,dH,inObs,Pv.look,aF,aE,bD.new]),Ψ⟩) (by simpa using F) ?_ ?_
 ·rintro c J ae;simp[aF,aE];refine hk (α:=bD) (fun i c=>⟨[(1,.slice 4 .no (l.map T.e)),(2,.slice 4 .no (r.map T.e)),(8,aF),(37,.int .i64 l.length),(38,.int .i64 i)],aE c,[],0,[.obj 702,.obj 703,.obj 704,.obj 705,.obj 706,.obj 707]⟩) l.length (fun i c=>qS n (E.drop (s.length+i)) c=some fin) c (by simp[aF,aE];exact⟨by simp[fresh,aA,av,b0,inObs,Pv.look,aF,aE],dN kH,dP li,Ψ⟩) J ?_ ?_
  ·rintro g J ae;rw[List.drop_eq_nil_of_le Ω]at J;simp[qS]at J;subst J;simp at e;obtain⟨N,K,H⟩:=hinv g F;simp[aF,aE];refine cC.ob (aht n g o e N K H) (cm _) jp jp d8 ?_;rintro r0 s0 ⟨rfl,Q,rfl⟩;refine⟨Same.keys (by simp[aO,aE]) (by simp[aO,aE]),?_⟩;simp[bZ,aO,aE,gI];exact cn
  ·rintro i c hi J ae;simp only at J ae⊢;obtain⟨a,j⟩:∃a,l[i]? =some a:=⟨_,cl hi⟩;obtain⟨b,w⟩:∃b,r[i]? =some b:=⟨_,cl Ω⟩;have v:∀h,(l[i]'h)=a:=fun h=>by rw[cl hi]at j;exact fK j
   have y:∀h,(r[i]'h)=b:=fun h=>by rw[cl h]at w;exact fK w
   have u:i<r.length:=Ω
   rw[B i a b j w]at J;simp only[qS,nP]at J;obtain⟨g,U,c2,t,⟨f,c3⟩,p,d⟩:=J;simp only at p d;have key:=Uy n _ _ _ _ p;simp[aF,aE];(with_reducible repeat' first|refine al ?_|simp[v,y,hi,u]);(refine cC.ob (LC c a g U) bv bi bi d8 ?_;rintro r z ⟨rfl,rfl⟩;refine⟨(Same.keys co co),?_⟩;simp[bZ,aO,aE,aF]);(with_reducible repeat' first|refine al ?_|simp[v,y,hi,u]);(refine cC.ob (LC g b c2 t) bv bi bi d8 ?_;rintro r z ⟨rfl,rfl⟩;refine⟨(Same.keys co co),?_⟩;simp[bZ,aO,aE,aF]);(with_reducible repeat' first|refine al ?_|simp[v,y,hi,u]);(refine iN.ob (key) bv bv (Same.keys co co) bi bi d8 ?_;simp[bZ,aO,aE,aF]);cases f with
   |false=>simp at d;subst d;simp at e;subst e;(with_reducible repeat' first|refine al ?_|simp);simp[bE,aX,a1,aV];simp[gI]
   |true=>simp at d;(with_reducible repeat' first|refine al ?_|simp);refine bO.rng c3 hi d ?_;simp[aF,aE];exact⟨by simp[fresh,aA,av,b0,inObs,Pv.look,aF,aE],dN kH,dP li,Ψ⟩
 ·rintro i c hi J ae;simp only at J ae⊢;obtain⟨b,M,G⟩:=ev hi;rw[A i b M]at J;simp only[qS,nP]at J;obtain⟨g,U,c2,t,⟨f,c3⟩,p,d⟩:=J;simp only[BT,T.foldO,gD]at U;obtain⟨⟨x,D⟩,U,rfl⟩:=U;simp only at U t p d;have key:=Uy n _ _ _ _ p;simp[aF,aE];(with_reducible repeat' first|refine al ?_|simp[G,hi]);(refine cC.ob (sI c b.v x D U) bv bi bi d8 ?_;rintro r z ⟨rfl,rfl⟩;refine⟨(Same.keys co co),?_⟩;simp[bZ,aO,aE,aF]);(with_reducible repeat' first|refine al ?_|simp);(refine cC.ob (LC D b.t c2 t) bv bi bi d8 ?_;rintro r z ⟨rfl,rfl⟩;refine⟨(Same.keys co co),?_⟩;simp[bZ,aO,aE,aF]);(with_reducible repeat' first|refine al ?_|refine aI (k5 _) ?_|refine aJ (k5 _) ?_|simp);(refine iN.ob (key) bv bv (Same.keys co co) bi bi d8 ?_;simp[bZ,aO,aE,aF]);cases f with
  |false=>simp at d;subst d;simp at e;subst e;(with_reducible repeat' first|refine al ?_|simp);simp[bE,aX,a1,aV];simp[gI]
  |true=>simp at d;(with_reducible repeat' first|refine al ?_|simp);refine bO.rng c3 hi d ?_;simp[aF,aE];exact⟨by simp[fresh,aA,av,b0,inObs,Pv.look,aF,aE],dN kH,dP li,Ψ⟩
theorem aq4(s:List au)(l r:List T)(k:l.length=r.length)(q:gf s)(m:hZ s)(ak:rj s)(g:l.length<=1000000)(J:∀t∈l,t.ok=true)(U:∀t∈r,t.ok=true):
  bL ar 169 [.slice 5 .no (s.map au.e),.slice 4 .no (l.map T.e),.slice 4 .no (r.map T.e)] (gI (mgu s (l.zip r))):=by
 have d:∀e∈ig s++l.zip r,e.1.ok=true/\e.2.ok=true:=fun e he=>by
  rcases kr.1 he with he|he
  ·obtain⟨b,ae,rfl⟩:=iL.1 he;have:=ak b ae;exact⟨by simpa[T.ok]using this.1,this.2⟩
  ·exact⟨J _ (List.of_mem_zip he).1,U _ (List.of_mem_zip he).2⟩
 have h:NQ (ig s++l.zip r):=fun e he v a=>by
  rcases a with a|a
  ·exact(yh (d e he).1 a).1
  ·exact(yh (d e he).2 a).1
 obtain⟨n,o,p,j,i⟩:=apw _ h;rw[tt (abH.1 j)];refine ahs n s l r k (by have:=m.1;omega) g o p fun c ax=>?_;obtain⟨f,a2,a3⟩:=i c ax;have:=WJ f fun v a=>by
  obtain⟨e,he,a⟩:=a2 v a;rcases a with a|a
  ·exact yh (d e he).1 a
  ·exact yh (d e he).2 a
 refine⟨f,by simp[cy]at this;omega,fun x=>?_⟩;simp[bD.sz,a3,dp]
structure eJ (s:List au):Prop where
 ok:rj s
 sol:gf s
 fits:hZ s
theorem eJ.len{s:List au}(h:eJ s):s.length<=1000000:=by have:=h.fits.1;omega
theorem eJ.fit{s:List au}(h:eJ s):A3 s:=fun b ae=>by simp[T.fit,(h.ok b ae).2,h.fits.2 b ae]
theorem eJ.mgu{s:List au}(h:eJ s){E:List (T×T)}(b:∀e∈E,e.1.ok=true/\e.2.ok=true){a:List au}(hm:mgu s E=some a):eJ a:=⟨akN h.sol h.fits h.ok b hm,(BU h.sol h.fits hm).1,(BU h.sol h.fits hm).2⟩
theorem zF(s:List au):(s.map au.b).map dj.e=s.map au.e:=by rw[List.map_map];exact List.map_congr_left fun b _=>au.b_e b
theorem qL{s:List au}(h:eJ s):bL ar 82 [.slice 5 .no (s.map au.e)] (.bool true):=by have:=PK (s.map au.b);rw[zF,si.2 ⟨s,rfl,h.ok,h.sol,h.fits⟩]at this;exact this
def ajW(t:List au)(i:Nat)(p:List T×List T):Prop:=p.1=(t.take i).map (fun b=>T.var b.v)/\p.2=(t.take i).map (·.t)
theorem aqz(t:List au)(aM:t.length<=1000000):bL ar 48 [.slice 5 .no (t.map au.e)] (.tuple [.slice 4 .no ((t.map fun b=>T.var b.v).map T.e),.slice 4 .no ((t.map (·.t)).map T.e)]):=by
 generalize bq:((t.map fun b=>T.var b.v).map T.e)=R1;generalize d:((t.map fun x=>x.t).map T.e)=R2;have g:∀S:aB->Prop,aA S R1=True:=fun S=>by rw[<-bq];exact WT S _
 have f:∀S:aB->Prop,aA S R2=True:=fun S=>by rw[<-d];exact WT S _
 refine bL.mk mixed sk Tryz.func48 alO Ψ (by simp[av,g,f]) fun m=>?_;unfold Ry;simp;refine hk (α:=List T×List T) (fun i p=>⟨[(10,.slice 5 .no (t.map au.e)),(11,.int .i64 t.length),(4,.slice 4 (.own (.loc 0)) (p.1.map T.e)),(5,.slice 4 (.own (.loc 1)) (p.2.map T.e)),(12,.int .i64 i)],[],[(.loc 0,⟨p.1.length,71,4,none⟩),(.loc 1,⟨p.2.length,71,4,none⟩)],2,[]⟩) t.length (ajW t) ([],[]) b6 ⟨Ψ,Ψ⟩ (fun p a _=>?_) (fun i p hi a _=>?_)
 ·obtain⟨A,B⟩:=p;obtain⟨be,hB⟩:=a;simp only at be hB⊢;rw[gC (eR _)]at be hB;rw[<-bq,<-d,<-be,<-hB];simp;(with_reducible repeat' first|refine al ?_|simp);simp[bE,aX,a1,aV]
 ·obtain⟨A,B⟩:=p;obtain⟨be,hB⟩:=a;simp only at be hB⊢;obtain⟨b,l,e⟩:=ev hi;have c:t.take (i+1)=t.take i++[b]:=by rw[List.take_succ,l];rfl
  have k:A.length<=1000000:=by rw[be];simp;omega
  have j:B.length<=1000000:=by rw[hB];simp;omega
  simp[hi,e];((with_reducible repeat' first|refine al ?_|refine aI (k5 _) ?_|refine aJ (k5 _) ?_|simp[e,hi]|((first|apply bQ|apply bT|apply bS)<;>intro h<;>try simp at h))<;>(try exact cv));all_goals first|(refine⟨by unfold lim;omega,?_⟩)|skip
  (with_reducible repeat' first|refine al ?_|simp);all_goals first|(refine⟨by unfold lim;omega,?_⟩)|skip
  (with_reducible repeat' first|refine al ?_|simp);refine bO.rng (A++[.var b.v],B++[b.t]) hi ⟨by rw[c,be];simp,by rw[c,hB];simp⟩ ?_;simp;exact⟨by simp[fresh,aA,av,b0,inObs,Pv.look,kA],dN i6,dP i7,Ψ⟩
theorem aqe{s t:List au}(a:eJ s)(aM:eJ t):bL ar 138 [.slice 5 .no (s.map au.e),.slice 5 .no (t.map au.e)] (gI (mgu s (ig t))):=by
 have d:(t.map fun b=>T.var b.v).zip (t.map (·.t))=ig t:=by rw[ig,List.zip_map']
 have key:=aq4 s (t.map fun b=>T.var b.v) (t.map (·.t)) Ψ a.sol a.fits a.ok (by simpa using aM.len) (fun x c=>by
  obtain⟨b,ae,rfl⟩:=iL.1 c;have:=aM.ok b ae;simpa[T.ok]using this.1) (fun x c=>by
  obtain⟨b,ae,rfl⟩:=iL.1 c;exact(aM.ok b ae).2)
 rw[d]at key;have heq:=aqz t aM.len;generalize (t.map fun b=>T.var b.v)=A at key heq;generalize (t.map fun x=>x.t)=B at key heq;refine bs sk Tryz.func138 alq fun e=>?_;unfold Ra;simp;(with_reducible repeat' first|refine al ?_|refine aI (qL a) ?_|refine aJ (qL a) ?_|refine aI (qL aM) ?_|refine aJ (qL aM) ?_|refine aI heq ?_|refine aJ heq ?_|refine aI key ?_|refine aJ key ?_|simp);simp[bE,aX,a1,aV];simp[gI]
theorem sj{α:Type}{t:List α}{i:Nat}{b:α}(a:t[i]? =some b):t.take (i+1)=t.take i++[b]:=by rw[List.take_succ,a];rfl
def ha(s t:List au):List au:=t.filter fun b=>(dx s b.v).isNone
def r3(s t:List au)(i:Nat)(out:List au):Prop:=out=ha s (t.take i)
theorem aqj{s t:List au}(a:eJ s)(aM:eJ t):bL ar 139 [.slice 5 .no (s.map au.e),.slice 5 .no (t.map au.e)] (.slice 5 .no ((ha s t).map au.e)):=by
 have h:=aM.len;generalize bq:ha s t=R;refine bs sk Tryz.func139 alw fun j=>?_;unfold Rg;simp;(with_reducible repeat' first|refine al ?_|refine aI (qL a) ?_|refine aJ (qL a) ?_|refine aI (qL aM) ?_|refine aJ (qL aM) ?_|simp);refine hk (α:=List au) (fun i out=>⟨[(0,.slice 5 .no (s.map au.e)),(17,.slice 5 .no (t.map au.e)),(18,.int .i64 t.length),(5,.slice 5 (.own (.loc 0)) (out.map au.e)),(19,.int .i64 i)],[],[(.loc 0,⟨out.length,74,5,none⟩)],1,[]⟩) t.length (r3 s t) [] b6 (by simp[r3,ha]) (fun out c _=>?_) (fun i out hi c _=>?_)
 ·rw[r3,gC (eR _),bq]at c;rw[<-c];exact cn
 ·obtain⟨b,g,d⟩:=ev hi;have k:out.length<=1000000:=by
   have:out.length<=(t.take i).length:=by rw[c];exact List.length_filter_le _ _
   simp at this;omega
  have f:=Uj a.sol.asc b.v;simp[hi,d];by_cases ae:nY s b.v<0
  ·(with_reducible repeat' first|refine al ?_|refine aI (u5 s b.v a.len) ?_|refine aJ (u5 s b.v a.len) ?_|refine aI (u3 _) ?_|refine aJ (u3 _) ?_|simp[d,hi,ae]);all_goals first|(refine⟨by unfold lim;omega,?_⟩)|skip
   (with_reducible repeat' first|refine al ?_|simp);refine bO.rng (out++[b]) hi (by rw[r3,sj g,ha,List.filter_append,c];simp[ha,f.1 ae]) ?_;simp;exact⟨by simp[fresh,aA,av,b0,inObs,Pv.look,kA],dN i6,dP i7,Ψ⟩
  ·(with_reducible repeat' first|refine al ?_|refine aI (u5 s b.v a.len) ?_|refine aJ (u5 s b.v a.len) ?_|simp[d,hi,ae]);refine bO.rng out hi (by
    have:dx s b.v≠none:=fun e=>ae (f.2 e);rw[r3,sj g,ha,List.filter_append,c];cases e:dx s b.v with
    |none=>exact absurd e this
    |some x=>simp[ha,e]) ?_
   exact b6
def HY(t:List au)(i:Nat)(out:List au):Prop:=out=t.take i
theorem aaD(t:List au)(aM:t.length<=1000000):bL ar 141 [.slice 5 .no (t.map au.e)] (.slice 5 .no (t.map au.e)):=by
 refine bs sk Tryz.func141 alM fun e=>?_;unfold Rw;simp;refine hk (α:=List au) (fun i out=>⟨[(7,.slice 5 .no (t.map au.e)),(8,.int .i64 t.length),(3,.slice 5 (.own (.loc 0)) (out.map au.e)),(9,.int .i64 i)],[],[(.loc 0,⟨out.length,74,5,none⟩)],1,[]⟩) t.length (HY t) [] b6 (by simp[HY]) (fun out a _=>?_) (fun i out hi a _=>?_)
 ·rw[HY,gC (eR _)]at a;subst a;exact cn
 ·obtain⟨b,d,c⟩:=ev hi;have f:out.length<=1000000:=by rw[a];simp;omega
  simp[hi,c];(with_reducible repeat' first|refine al ?_|refine aI (u3 _) ?_|refine aJ (u3 _) ?_|simp[c,hi]);all_goals first|(refine⟨by unfold lim;omega,?_⟩)|skip
  (with_reducible repeat' first|refine al ?_|simp);refine bO.rng (out++[b]) hi (by rw[HY,sj d,a]) ?_;simp;exact⟨by simp[fresh,aA,av,b0,inObs,Pv.look,kA],dN i6,dP i7,Ψ⟩
def ts(t:List au)(b:au):Bool:=decide (cI t b.v=b.t.ap (cI t))
def oi(s t:List au):Bool:=s.all (ts t)
theorem FD{t:List au}(aM:eJ t)(v:Int):(cI t v).size<=5000:=by
 unfold cI;cases e:dx t v with
 |none=>simp[T.size]
 |some x=>exact aM.fits.2 _ (kQ e)
theorem aaP(s:List au){t:List au}(q:s.length<=1000000)(aM:eJ t):bL ar 174 [.slice 5 .no (s.map au.e),.slice 5 .no (t.map au.e)] (.bool (oi s t)):=by
 refine bs sk Tryz.func174 alS fun r=>?_;unfold RC;simp;refine eG [1,11,12] (fun i (_:Unit)=>[(13,.int .i64 i)]) s.length (th (ts t) s) () b6 (fun k b j=>Ω) (fun _ g _=>?_) (fun i _ hi g _=>?_)
 ·have:oi s t=true:=by rw[oi,jL];intro b ae;obtain⟨k,j,e⟩:=oC ae;exact g k b j (by rw[cl j,e])
  rw[this];exact cn
 ·obtain⟨b,o,f⟩:=ev hi;have m:ts t b=false->oi s t=false:=fun h=>by rw[Bool.eq_false_iff];intro n;rw[oi,jL]at n;rw[n b (eQ o)]at h;cases h
  have a:=JP t (.var b.v) aM.len aM.sol.asc aM.fit;have c:=JP t b.t aM.len aM.sol.asc aM.fit;have l:=FD aM b.v;have p:((T.var b.v).ap (cI t)).size<=5000:=l;rw[if_pos p,oE p]at a;rw[show(T.var b.v).ap (cI t)=cI t b.v from rfl]at a;simp[hi,f];by_cases d:(b.t.ap (cI t)).size<=5000
  ·rw[if_pos d,oE d]at c;by_cases he:cI t b.v=b.t.ap (cI t)
   ·rw[he]at a;((with_reducible repeat' first|refine al ?_|refine aI (k5 _) ?_|refine aJ (k5 _) ?_|refine aI a ?_|refine aJ a ?_|refine aI c ?_|refine aJ c ?_|refine aI (u4 _ _) ?_|refine aJ (u4 _ _) ?_|simp[f,hi,he]|((first|apply bQ|apply bT|apply bS)<;>intro h<;>try simp at h))<;>(try exact cv));exact bO.rng () hi (g.step o (by simp[ts,he])) b6
   ·rw[m (by simp[ts,he])];((with_reducible repeat' first|refine al ?_|refine aI (k5 _) ?_|refine aJ (k5 _) ?_|refine aI a ?_|refine aJ a ?_|refine aI c ?_|refine aJ c ?_|refine aI (u4 _ _) ?_|refine aJ (u4 _ _) ?_|simp[f,hi,he]|((first|apply bQ|apply bT|apply bS)<;>intro h<;>try simp at h))<;>(try exact cv));simp[bE,aX,a1,aV]
  ·rw[if_neg d,pj d]at c;rw[m (by simp only[ts,iq];intro e;rw[<-e]at d;exact d l)];((with_reducible repeat' first|refine al ?_|refine aI (k5 _) ?_|refine aJ (k5 _) ?_|refine aI a ?_|refine aJ a ?_|refine aI c ?_|refine aJ c ?_|refine aI (u4 _ _) ?_|refine aJ (u4 _ _) ?_|simp[f,hi]|((first|apply bQ|apply bT|apply bS)<;>intro h<;>try simp at h))<;>(try exact cv));simp[bE,aX,a1,aV]
theorem EM(c:au->au->Int):∀a b:List au,a=[]\/b=[]->kC c a b=eX a.length b.length
 |[],[],_=>by simp[kC,eX]
 |[],_::_,_=>by simp[kC,eX]<;>omega
 |_::_,[],_=>by simp[kC,eX]<;>omega
 |_::_,_::_,h=>by simp at h
theorem Yf(x y:au)(xs ys:List au):eW (x::xs) (y::ys)=if eX x.v y.v=0 then(if eU x.t y.t=0 then eW xs ys else eU x.t y.t)else eX x.v y.v:=by
 by_cases a:eX x.v y.v=0
 ·by_cases b:eU x.t y.t=0<;>simp[eW,kC,zN,a,b]
 ·simp[eW,kC,zN,a]
theorem Yg(a b k:Int):eX (a-k) (b-k)=eX a b:=by unfold eX;(repeat' split)<;>omega
def MP(d e:List au)(i:Nat):Prop:=i<=d.length/\i<=e.length/\eW (d.drop i) (e.drop i)=eW d e
theorem JN(d e:List au):bL ar 173 [.slice 5 .no (d.map au.e),.slice 5 .no (e.map au.e)] (.int .i64 (eW d e)):=by
 generalize bq:eW d e=R;refine bs sk Tryz.func173 alV fun l=>?_;unfold RF;have q:d.length<=68719476736:=by simp[e1,eK,eV,lim]at l;omega
 have he:e.length<=68719476736:=by simp[e1,eK,eV,lim]at l;omega
 simp;refine w7 [0,1] (fun(i:Nat)=>[(5,.int .i64 i)]) (fun i=>d.length-i) (MP d e) 0 b6 ⟨Ω,Ω,Ψ⟩ (fun i n _=>?_);obtain⟨J,U,a⟩:=n;rw[bq]at a;by_cases hi:i<d.length
 ·by_cases b:i<e.length
  ·obtain⟨x,k⟩:∃x,d[i]? =some x:=⟨_,cl hi⟩;obtain⟨y,m⟩:∃y,e[i]? =some y:=⟨_,cl b⟩;have f:∀h,(d[i]'h)=x:=fun h=>by rw[cl hi]at k;exact fK k
   have c:∀h,(e[i]'h)=y:=fun h=>by rw[cl b]at m;exact fK m
   have p:d.drop i=x::d.drop (i+1):=by rw[mh hi,f]
   have o:e.drop i=y::e.drop (i+1):=by rw[mh b,c]
   rw[p,o]at a;rw[Yf]at a;simp[hi,b,f,c];by_cases g:eX x.v y.v=0
   ·rw[if_pos g]at a;by_cases j:eU x.t y.t=0
    ·rw[if_pos j]at a;(with_reducible repeat' first|refine al ?_|refine aI (pd _ _) ?_|refine aJ (pd _ _) ?_|refine aI (CL _ _) ?_|refine aJ (CL _ _) ?_|simp[f,c,hi,b,g,j]);refine bO.whl (i+1) Ω ⟨Ω,Ω,by rw[bq];exact a⟩ ?_;exact b6
    ·rw[if_neg j]at a;((with_reducible repeat' first|refine al ?_|refine aI (pd _ _) ?_|refine aJ (pd _ _) ?_|refine aI (CL _ _) ?_|refine aJ (CL _ _) ?_|simp[f,c,hi,b,g,j]|((first|apply bQ|apply bT|apply bS)<;>intro h<;>try simp at h))<;>(try exact cv));simp[bE,aX,a1,aV];exact a
   ·rw[if_neg g]at a;((with_reducible repeat' first|refine al ?_|refine aI (pd _ _) ?_|refine aJ (pd _ _) ?_|simp[f,c,hi,b,g]|((first|apply bQ|apply bT|apply bS)<;>intro h<;>try simp at h))<;>(try exact cv));simp[bE,aX,a1,aV];exact a
  ·have:eX d.length e.length=R:=by rw[<-a,eW,EM _ _ _ (.inr (List.drop_eq_nil_of_le Ω))];rw[<-Yg d.length e.length i];simp only[sq];congr 1<;>omega
   simp[hi,b];(with_reducible repeat' first|refine al ?_|refine aI (pd _ _) ?_|refine aJ (pd _ _) ?_|simp[hi,b]);simp[bE,aX,a1,aV];exact this
 ·have:eX d.length e.length=R:=by rw[<-a,eW,EM _ _ _ (.inl (List.drop_eq_nil_of_le Ω))];rw[<-Yg d.length e.length i];simp only[sq];congr 1<;>omega
  simp[hi];(with_reducible repeat' first|refine al ?_|refine aI (pd _ _) ?_|refine aJ (pd _ _) ?_|simp[hi]);simp[bE,aX,a1,aV];exact this
theorem aaF(a b:List au)(w:a.length<=1000000):bL ar 142 [.slice 5 .no (a.map au.e),.slice 5 .no (b.map au.e)] (.bool (decide (a=b))):=by
 by_cases r:a.length=b.length;rotate_left
 ·have s:decide (a=b)=false:=by simp only[iq];rintro rfl;exact r rfl
  have u:((a.length:Int) !=(b.length:Int))=true:=by simp;omega
  have v:¬(a.length:Int)=b.length:=Ω
  rw[s];refine bs sk Tryz.func142 X1 fun t=>?_;unfold Kx;exact cn
 ·generalize bq:decide (a=b)=R;refine bs sk Tryz.func142 X1 fun t=>?_;unfold Kx;simp;(with_reducible repeat' first|refine al ?_|simp[r]);refine eG [0,1,12] (fun i (_:Unit)=>[(13,.int .i64 i)]) b.length (fun i (_:Unit)=> ∀k,k<i->a[k]? =b[k]?) () b6 (fun k p=>Ω) (fun _ o _=>?_) (fun i _ hi o _=>?_)
  ·have:R=true:=by
    rw[<-bq,e8];apply List.ext_getElem?;intro k;by_cases p:k<b.length
    ·exact o k p
    ·rw[rC Ω,rC Ω]
   rw[this];exact cn
  ·obtain⟨x,g⟩:∃x,a[i]? =some x:=⟨_,cl Ω⟩;obtain⟨y,c⟩:∃y,b[i]? =some y:=⟨_,cl hi⟩;have f:i<a.length:=Ω
   have m:∀h,(a[i]'h)=x:=fun h=>by rw[cl f]at g;exact fK g
   have l:∀h,(b[i]'h)=y:=fun h=>by rw[cl hi]at c;exact fK c
   have q:x≠y->R=false:=fun h=>by rw[<-bq,iq];rintro rfl;rw[g]at c;cases c;exact h rfl
   simp[hi,f,m,l];by_cases d:x.v=y.v
   ·have j:(x.v !=y.v)=false:=by simp[d]
    by_cases n:x.t=y.t
    ·(with_reducible repeat' first|refine al ?_|refine aI (u4 _ _) ?_|refine aJ (u4 _ _) ?_|simp[m,l,hi,f,d,j,n]);refine bO.rng () hi (fun k p=>?_) ?_
     ·rcases(by omega:k<i\/k=i)with h|rfl
      ·exact o k h
      ·rw[g,c];cases x;cases y;simp_all
     ·exact b6
    ·rw[q (fun e=>n (by rw[e]))];(with_reducible repeat' first|refine al ?_|refine aI (u4 _ _) ?_|refine aJ (u4 _ _) ?_|simp[m,l,hi,f,d,j,n]);simp[bE,aX,a1,aV]
   ·have j:(x.v !=y.v)=true:=by simp[d]
    rw[q (fun e=>d (by rw[e]))];exact cn
def jF(l:List (List au))(e:List au):Bool:=l.all fun d=>decide (d=e)|| !oi d e
theorem aj0{l b:List (List au)}(h:∀x,x∈l↔x∈b)(e:List au):jF l e=jF b e:=by rw[ry,jF,jF,jL,jL];exact⟨fun J x a=>J x ((h x).2 a),fun J x a=>J x ((h x).1 a)⟩
def lP(l:List (List au)):List (List au):=(asc eW l).filter (jF l)
theorem BV{l:List (List au)}{x:List au}:x∈lP l↔x∈l/\jF l x=true:=by rw[lP,nN,Xt]
theorem XA(l:List (List au)):ir eW (lP l):=(Ki mC l).filter _
theorem XB{l a:List (List au)}(b:ir eW a)(hm:∀x,x∈a↔x∈l/\jF l x=true):lP l=a:=(XA l).ext mC b fun x=>by rw[hm,BV]
structure dW where
 n:Int
 b:List au
 d:List (List au)
 k:List bN
 m:List bk
 deriving DecidableEq,Inhabited
noncomputable def hn(b:List au)(k:List bN)(m:List bk):List (List au)->aW (List (List au))
 |[]=>some []
 |d::r=>match mgu b (ig d)with
  |none=>hn b k m r
  |some x=>if gA x k []=none\/gB x m []=none then hn b k m r else if ha b x=[]then none else(hn b k m r).map (ha b x:: ·)
def lA(k:List bN)(x:bk):Bool:=l7 k x.v !=some 3
noncomputable def nc(s:dW):aW dW:=match gA s.b s.k []with
 |none=>none
 |some k=>match gB s.b s.m []with
  |none=>none
  |some m=>match hn s.b k (m.filter (lA k)) s.d with
   |none=>none
   |some L=>if(lP L).length<=30 then some ⟨s.n,s.b,lP L,k,m.filter (lA k)⟩else none
def yx(t:T)(n:Int):Prop:= ∀v,t.occ v=true->v<n
def qP(l:List au)(n:Int):Prop:= ∀b∈l,b.v<n/\yx b.t n
structure Ad (s:dW):Prop where
 n:0<=s.n/\s.n<=100000
 b:eJ s.b
 d:∀x∈s.d,eJ x
 k:jl s.k
 m:iX s.m
 bb:qP s.b s.n
 db:∀x∈s.d,qP x s.n
 kb:∀x∈s.k,x.v<s.n
 mb:∀x∈s.m,x.v<s.n
def Pj(s:dW):Prop:=Ad s/\nc s=some s
theorem Cx{s:List au}(a:eJ s){v:Int}(b:0<=v/\v<=100000):(cI s v).ok=true:=by have:=Jm a.ok (t:= .var v) (by simpa[T.ok]using b);exact this
theorem I6{s:List au}(c:eJ s):∀{l acc a:List bN},(∀x∈l,(0<=x.v/\x.v<=100000)/\(x.k=2\/x.k=3))->jl acc->gA s l acc=some a->jl a
 |[],acc,a,_,h,he=>by simp only[gA,dv]at he;rw[<-he];exact h
 |x::r,acc,a,b,h,he=>by
  simp only[gA]at he;split at he
  ·rename_i g e;have d:=b x Ψ;exact I6 c (fun y f=>b y (by simp[f])) (Ka h (Cx c d.1) d.2 e) he
  ·cases he
theorem I7{s:List au}(c:eJ s):∀{l acc a:List bk},(∀x∈l,(0<=x.v/\x.v<=100000)/\iW x.s=true)->iX acc->gB s l acc=some a->iX a
 |[],acc,a,_,h,he=>by simp only[gB,dv]at he;rw[<-he];exact h
 |x::r,acc,a,b,h,he=>by
  simp only[gB]at he;split at he
  ·rename_i g e;have d:=b x Ψ;exact I7 c (fun y f=>b y (by simp[f])) (Kc h (Cx c d.1) d.2 e) he
  ·cases he
def o8(G:List (List bV))(l:List bk):Prop:= ∀x∈l,x.s∈G
theorem Kd{G:List (List bV)}{l a:List bk}{t:T}{s:List bV}(h:o8 G l)(b:s∈G)(he:mK l t s=some a):o8 G a:=fun x c=>by
 rcases(EU he x).1 c with J|⟨J,_⟩
 ·exact h x J
 ·rw[J];exact b
theorem OL{G:List (List bV)}{s:List au}:∀{l acc a:List bk},o8 G l->o8 G acc->gB s l acc=some a->o8 G a
 |[],acc,a,_,h,he=>by simp only[gB,dv]at he;rw[<-he];exact h
 |x::r,acc,a,b,h,he=>by
  simp only[gB]at he;split at he
  ·rename_i e c;exact OL (fun y d=>b y (by simp[d])) (Kd h (b x Ψ) c) he
  ·cases he
theorem anw{α:Type}[DecidableEq α]:∀{G:List α} {l:List (Nat×α)},l.Nodup->(∀x∈l,x.1<100001/\x.2∈G)->l.length<=100001*G.length:=by
 intro G l b h;have:=Qb b (l₂:=(List.range 100001).flatMap fun i=>G.map fun g=>(i,g)) (fun x c=>by obtain⟨J,U⟩:=h x c;rw[List.mem_flatMap];exact⟨x.1,List.mem_range.2 J,iL.2 ⟨x.2,U,rfl⟩⟩)
 have e:((List.range 100001).flatMap fun i=>G.map fun g=>(i,g)).length=100001*G.length:=by
  generalize 100001=n;induction n with
  |zero=>simp
  |succ n a=>rw[List.range_succ,List.flatMap_append,hq,a];simp[Nat.succ_mul]
 omega
theorem ES{G:List (List bV)}{l:List bk}(h:iX l)(aY:o8 G l):l.length<=100001*G.length:=by
 have J:(l.map fun x=>(x.v.toNat,x.s)).Nodup:=by rw[List.nodup_iff_pairwise_ne,List.pairwise_map];refine arS (fun{a b} f ae d e=>d ?_) (h.asc.nodup mD);have:=(h.at' a f).1;have:=(h.at' b ae).1;simp only[hN]at e;cases a;cases b;simp only[bk.mk.injEq];simp only at*;exact⟨Ω,e.2⟩
 have:=anw (G:=G) J fun x g=>by obtain⟨y,c,rfl⟩:=iL.1 g;have:=(h.at' y c).1;exact⟨by simp;omega,aY y c⟩
 simpa using this
def wJ(m:List bk):Prop:= ∃G:List (List bV),G.length<=687000/\o8 G m
theorem wJ.len{m:List bk}(h:wJ m)(hm:iX m):m.length<=68719470000:=by obtain⟨G,J,U⟩:=h;have:=ES hm U;omega
theorem wJ.of{m:List bk}(h:m.length<=687000):wJ m:=⟨m.map (·.s),by simpa using h,fun _ a=>List.mem_map_of_mem a⟩
end
end Go.Proofs.YtfeencekjcjalaaGreatDoor
