/- Contracts of the reference: variables of a term. -/
import Derived.Test.YtohaalphocaebaaGreatProg
import Derived.Shelf.Sort.Plain
import Derived.Ground.NamesProg
import Derived.Sort.OwnSortedInts
import Derived.Lib.OwnBridge
import Derived.Test.YtohaalphocaebaaGreatX2
set_option linter.all false
set_option maxHeartbeats 4000000
open Bool renaming and_eq_true→cx,eq_iff_iff→qt,false_eq_true→gC,not_eq_true'→rk,or_eq_true→lY
open Go.IntKind renaming i64→mN
open Go.IntWalk renaming i64_in→ml
open Go.Op renaming bytesLess→hB
open Go.Proofs.Tryz renaming prog→az
open Go.Value renaming cells→oY
open Int renaming natCast_nonneg→rn
open List renaming all_eq_true→ig,cons_append→bR,drop_eq_getElem_cons→k9,getElem?_eq_getElem→cb,getElem?_eq_none→qu,getElem?_eq_some_iff→fU,getElem_of_mem→nG,length_drop→sC,map_cons→gP,mem_append→iH,mem_cons→fA,mem_cons_of_mem→lA,mem_filter→ha,mem_map→hJ,mem_of_getElem?→fR,nil_append→bY,pairwise_cons→mP,pairwise_iff_getElem→pK,take→oZ,take_of_length_le→hb
open List.Nodup renaming length_le_of_subset→Iq
open List.Pairwise renaming imp_of_mem→am4,nil→ar1
open List.Perm renaming eq_of_pairwise→Oe
open List.cons renaming injEq→y7
open Nat renaming le_refl→ff,strongRecOn→qw
open Ne renaming symm→la
open Option renaming bind_eq_some_iff→h6,bind_some→e6,getD_none→jq,getD_some→jr,map_eq_some_iff→gr,map_some→kN
open Option.some renaming inj→e3,injEq→dw
open Prod.mk renaming injEq→jB
open _root_ renaming UInt8→cQ,beq_iff_eq→dK,congrArg→eU,decide_eq_false→lB,decide_eq_false_iff_not→hK,decide_eq_true→kp,decide_eq_true_eq→fo
namespace Go.Pv
open Go
theorem Y3{E:Int→Int→Prop}{x:Int}{r:Int→Nat}{M:Nat}(h:∀z u,z≠x→E z u→r u<r z)(ga:∀u,E x u→r u<M)(au:∀u,E x u→¬mS E u x):∃eg:Int→Nat,∀z u,E z u→eg u<eg z:=by
 classical
 refine⟨fun z=>if mS E z x then r z+M else r z,fun z u he=>?_⟩;show(if mS E u x then r u+M else r u)<(if mS E z x then r z+M else r z);by_cases aY:z=x
 ·subst aY;have J:=au u he;have U:=ga u he;rw[if_neg J,if_pos (mS.refl z)];omega
 ·have J:=h z u aY he;by_cases hu:mS E u x
  ·rw[if_pos hu,if_pos (mS.step he hu)];omega
  ·rw[if_neg hu];split<;>omega
def mY(ph:Int→Option T)(ρ:Int→Int):Nat→Int→T
 |0,v=>.var (ρ v)
 |n+1,v=>match ph (ρ v)with
  |none=>.var (ρ v)
  |some t=>t.ap (mY ph ρ n)
section
variable {ph:Int→Option T} {ρ:Int→Int} {r:Int→Nat}
theorem aa1(e0:∀v,ρ (ρ v)=ρ v):∀(n:Nat) (v:Int),mY ph ρ n v=mY ph ρ n (ρ v)
 |0,v=>by simp[mY,e0]
 |n+1,v=>by simp[mY,e0]
theorem Ry(e0:∀v,ρ (ρ v)=ρ v)(aK:∀z u,jb ph ρ z u→r u<r z):∀(n:Nat) (v:Int),r (ρ v)<n→mY ph ρ n v=mY ph ρ (n+1) v
 |0,_,h=>by omega
 |n+1,v,h=>by
  show(match ph (ρ v)with|none=>T.var (ρ v)|some t=>t.ap (mY ph ρ n))=(match ph (ρ v)with|none=>T.var (ρ v)|some t=>t.ap (mY ph ρ (n+1)));cases e:ph (ρ v)with
  |none=>rfl
  |some t=>refine pP fun w hw=>Ry e0 aK n w ?_;have:=aK (ρ v) (ρ w) ⟨e0 v,t,w,e,hw,rfl⟩;omega
theorem Rx(e0:∀v,ρ (ρ v)=ρ v)(aK:∀z u,jb ph ρ z u→r u<r z){n:Nat}{v:Int}(h:r (ρ v)<n):∀k,mY ph ρ (n+k) v=mY ph ρ n v
 |0=>rfl
 |k+1=>by rw[←Rx e0 aK h k];exact(Ry e0 aK (n+k) v (by omega)).symm
def gT(ph:Int→Option T)(ρ:Int→Int)(r:Int→Nat)(v:Int):T:=mY ph ρ (r (ρ v)+1) v
theorem zH(e0:∀v,ρ (ρ v)=ρ v)(v:Int):gT ph ρ r v=gT ph ρ r (ρ v):=by unfold gT;rw[aa1 e0,e0]
theorem Ck{v:Int}(h:ph (ρ v)=none):gT ph ρ r v= .var (ρ v):=by simp[gT,mY,h]
theorem zI(e0:∀v,ρ (ρ v)=ρ v)(aK:∀z u,jb ph ρ z u→r u<r z){v:Int}{t:T}(h:ph (ρ v)=some t):gT ph ρ r v=t.ap (gT ph ρ r):=by show mY ph ρ (r (ρ v)+1) v=_;simp only[mY,h];refine pP fun w hw=>?_;have J:=aK (ρ v) (ρ w) ⟨e0 v,t,w,h,hw,rfl⟩;have:=Rx e0 aK (n:=r (ρ w)+1) (v:=w) (by omega) (r (ρ v)-(r (ρ w)+1));rw[show r (ρ w)+1+(r (ρ v)-(r (ρ w)+1))=r (ρ v)from by omega]at this;exact this
theorem adZ(e0:∀v,ρ (ρ v)=ρ v)(aK:∀z u,jb ph ρ z u→r u<r z):j5 ph ρ (gT ph ρ r):=⟨zH e0,fun x t ab h=>zI e0 aK (by rw[ab];exact h)⟩
theorem HU{V:List Int}(gI:oh V ph){θ:Int→T}(h:j5 ph ρ θ){z u:Int}(he:jb ph ρ z u):(θ u).size<(θ z).size:=by obtain⟨J,t,w,U,ao,rfl⟩:=he;rw[h.2 z t J U,←h.1 w];exact(AT θ ao).2 (gI z t U).1
theorem HV{V:List Int}(gI:oh V ph){θ:Int→T}(h:j5 ph ρ θ){z u:Int}(he:mS (jb ph ρ) z u):(θ u).size≤(θ z).size:=by
 induction he with
 |refl=>exact ff _
 |step J _ bP=>have:=HU gI h J;omega
end
theorem ZC(r:Int→Nat)(t:T):∃M,∀w,t.occ w=true→r w<M:=by
 induction t with
 |var n=>exact⟨r n+1,fun w hw=>by simp[T.occ]at hw;subst hw;omega⟩
 |pair a b dQ dR=>
  obtain⟨YP,J⟩:=dQ;obtain⟨YQ,U⟩:=dR;refine⟨YP+YQ,fun w hw=>?_⟩;simp only[T.occ,lY]at hw;rcases hw with hw|hw
  ·have:=J w hw;omega
  ·have:=U w hw;omega
 |_=>exact⟨0,fun w hw=>by simp[T.occ]at hw⟩
theorem DY{ph:Int→Option T}{ρ:Int→Int}(e0:∀v,ρ (ρ v)=ρ v){x:Int}{r:Int→Nat}(h:∀z u,z≠x→jb ph ρ z u→r u<r z)(au:∀u,jb ph ρ x u→¬mS (jb ph ρ) u x):∃θ,j5 ph ρ θ:=by
 have ga:∃M,∀u,jb ph ρ x u→r u<M:=by
  cases e:ph x with
  |none=>exact⟨0,fun u ⟨_,t,w,J,_⟩=>by rw[e]at J;cases J⟩
  |some t=>obtain⟨M,ga⟩:=ZC (fun w=>r (ρ w)) t;refine⟨M,fun u ⟨_,dF,w,J,U,ao⟩=>?_⟩;rw[e]at J;cases J;subst ao;exact ga w U
 obtain⟨M,ga⟩:=ga;obtain⟨eg,c7⟩:=Y3 h ga au;exact⟨_,adZ e0 c7⟩
structure lZ (c:bo) (ρ:Int→Int):Prop where
 ru:jE c.up ρ
 sh:oh (cl c.up) c.ph
 sat:∃θ,j5 c.ph ρ θ
theorem lZ.sm{c cf:bo}{ρ:Int→Int}(h:lZ c ρ)(k:iK ρ c cf):lZ cf ρ:=⟨k.ru,by rw[k.keys,k.ph];exact h.sh,by rw[k.ph];exact h.sat⟩
def iy(c:bo)(ρ:Int→Int):Nat:=((cl c.up).filter fun v=>decide (ρ v=v)).length+((cl c.up).filter fun v=>decide (ρ v=v)&& !(c.ph v).isSome).length
theorem xg{c cf:bo}{ρ:Int→Int}(k:iK ρ c cf):iy cf ρ=iy c ρ:=by unfold iy;rw[k.keys,k.ph]
structure jc (c:bo) (ρ:Int→Int) (p:(Int→T)→Prop) (o:Bool×bo):Prop where
 keys:cl o.2.up=cl c.up
 rest:o.2.color=c.color∧o.2.size=c.size∧o.2.full=c.full
 yes:o.1=true→∃ρ',lZ o.2 ρ'∧(∀θ,j5 o.2.ph ρ' θ↔j5 c.ph ρ θ∧p θ)∧((ρ'=ρ∧o.2.ph=c.ph)∨iy o.2 ρ'<iy c ρ)
 no:o.1=false→∀θ,j5 c.ph ρ θ→¬p θ
theorem iK.rest{ρ:Int→Int}{c cf:bo}(h:iK ρ c cf):cf.color=c.color∧cf.size=c.size∧cf.full=c.full:=by rw[h.eq];exact⟨rfl,rfl,rfl⟩
theorem jc.sm{c cf:bo}{ρ:Int→Int}{p:(Int→T)→Prop}{o:Bool×bo}(k:iK ρ c cf)(h:jc cf ρ p o):jc c ρ p o:=⟨h.keys.trans k.keys,by rw[h.rest.1,h.rest.2.1,h.rest.2.2];exact k.rest,fun e=>by rw[←xg k,←k.ph];exact h.yes e,by rw[←k.ph];exact h.no⟩
theorem jc.congr{c:bo}{ρ:Int→Int}{p q:(Int→T)→Prop}{o:Bool×bo}(jV:∀θ,j5 c.ph ρ θ→(p θ↔q θ))(h:jc c ρ p o):jc c ρ q o:=⟨h.keys,h.rest,fun e=>by obtain⟨ρ',J,U,ao⟩:=h.yes e;exact⟨ρ',J,fun θ=>(U θ).trans (and_congr_right fun af=>jV θ af),ao⟩,fun e θ af bu=>h.no e θ af ((jV θ af).2 bu)⟩
theorem wQ(c:bo)(x:Int)(t:T)(z:Int):(c.know x t).ph z=if z=x then some t else c.ph z:=by
 simp only[bo.ph,bo.know,bo.shd,bo.shp,nB];by_cases h:z=x
 ·simp[h]
 ·simp only[if_neg h];exact ite_congr rfl (fun _=>rfl) fun _=>rfl
theorem Uz{c:bo}{ρ:Int→Int}(hi:lZ c ρ){x:Int}(ab:ρ x=x)(ad:x∈cl c.up)(jv:c.ph x=none){t:T}(aL:t.kind≠1)(aI:∀w,t.occ w=true→w∈cl c.up):
  ∃N o,(∀n,N≤n→uV n x t c=some o)∧jc c ρ (fun θ=>θ x=t.ap θ) o:=by
 have gI:oh (cl (c.know x t).up) (c.know x t).ph:=by
  intro z u aY;rw[wQ]at aY;split at aY
  ·rename_i e;cases aY;subst e;exact⟨aL,aI,ad⟩
  ·exact hi.sh z u aY
 have kc:∀θ,j5 (c.know x t).ph ρ θ↔j5 c.ph ρ θ∧θ x=t.ap θ:=by
  intro θ;constructor
  ·rintro⟨J,U⟩;refine⟨⟨J,fun z u aY hu=>U z u aY ?_⟩,U x t ab (by rw[wQ];simp)⟩;rw[wQ];split
   ·rename_i e;subst e;rw[jv]at hu;cases hu
   ·exact hu
  ·rintro⟨⟨J,U⟩,ao⟩;refine⟨J,fun z u aY hu=>?_⟩;rw[wQ]at hu;split at hu
   ·rename_i e;subst e;cases hu;exact ao
   ·exact U z u aY hu
 obtain⟨N,a,J,U,ao⟩:=Hq (x:=x) (c:=c.know x t) (t:=t) hi.ru gI aI;refine⟨N,(!a.found,a.c),fun n au=>by simp[uV,J n au],U.keys,U.rest,fun aO=>?_,fun aO θ af he=>?_⟩
 ·simp only[rk]at aO;have afm:∀u,jb (c.know x t).ph ρ x u→¬mS (jb (c.know x t).ph ρ) u x:=by rintro u ⟨_,dF,w,aV,bf,rfl⟩ aK;rw[wQ,if_pos rfl]at aV;cases aV;have:=ao.2 ⟨w,bf,aK⟩;rw[aO]at this;cases this
  obtain⟨k8,uO⟩:=hi.sat
  have afB:=DY (ph:=(c.know x t).ph) (ρ:=ρ) hi.ru.idem (x:=x) (r:=fun z=>(k8 z).size) (fun z u aY he=>by refine HU hi.sh uO ?_;obtain⟨ai,dF,w,ax,bn⟩:=he;rw[wQ,if_neg aY]at ax;exact⟨ai,dF,w,ax,bn⟩) afm
  refine⟨ρ,⟨U.ru,?_,?_⟩,fun θ=>?_,.inr ?_⟩
  ·simp only[U.keys,U.ph];exact gI
  ·simp only[U.ph];exact afB
  ·simp only[U.ph];exact kc θ
  ·simp only[xg U];unfold iy;have ai:cl (c.know x t).up=cl c.up:=rfl;rw[ai];have:=Fs (V:=cl c.up) (v:=x) (p:=fun v=>decide (ρ v=v)&& !(c.ph v).isSome) (q:=fun v=>decide (ρ v=v)&& !((c.know x t).ph v).isSome) (fun z _ aY=>by
    rw[wQ]at aY;split at aY
    ·simp at aY
    ·exact aY) ad (by simp[ab,jv]) (by simp[wQ])
   omega
 ·simp only[Bool.not_eq_false']at aO;obtain⟨w,aV,bf⟩:=ao.1 aO;have fM:=(kc θ).2 ⟨af,he⟩;have:=HV gI fM bf;have a1:=(AT θ aV).2 aL;rw[←he]at a1;rw[←af.1 w]at this;omega
def jg(ρ:Int→Int)(x y:Int)(v:Int):Int:=if ρ v=y then x else ρ v
section
variable {c:bo} {ρ:Int→Int} {x y:Int}
theorem p4(ab:ρ x=x)(aD:ρ y=y)(hY:x≠y){z:Int}:jg ρ x y z=z↔ρ z=z∧z≠y:=by
 unfold jg;split
 ·rename_i e;constructor
  ·intro h;subst h;rw[ab]at e;exact absurd e hY
  ·rintro⟨J,U⟩;rw[J]at e;exact absurd e U
 ·rename_i e;constructor
  ·intro h;exact⟨h,fun ax=>e (by rw[ax,aD])⟩
  ·exact fun h=>h.1
theorem jE.join(h:jE c.up ρ)(ab:ρ x=x)(aD:ρ y=y)(hY:x<y)(Da:x∈cl c.up)(uW:y∈cl c.up):jE (c.join x y).up (jg ρ x y):=by
 have ad:cl (c.join x y).up=cl c.up:=C9 uW;refine⟨fun v u aI=>?_,fun v aI=>?_⟩
 ·rw[ad];have mc:tg v (eX y x c.up)=some u:=aI;rw[nB]at mc;by_cases e:v=y
  ·subst e;rw[if_pos rfl]at mc;cases mc;have bD:=(h.mem Da).2;rw[ab]at bD;refine⟨⟨bD,by omega,Da⟩,?_,⟨fun e=>?_,fun e=>by omega⟩⟩
   ·unfold jg;rw[ab,aD,if_pos rfl,if_neg (by omega)]
   ·have:=((p4 ab aD (by omega)).1 e).2;exact absurd rfl this
  ·rw[if_neg e]at mc;obtain⟨bt,a2,a3⟩:=h.up v u mc;refine⟨bt,by unfold jg;rw[a2],?_⟩;rw[p4 ab aD (by omega),a3];exact⟨fun h=>h.1,fun h=>⟨h,e⟩⟩
 ·rw[ad]at aI;have:=h.no v aI;unfold jg;rw[this,if_neg fun e=>aI (by rw[e];exact uW)]
theorem alq{ph:Int→Option T}(ab:ρ x=x)(aD:ρ y=y)(hY:x≠y)(θ:Int→T):(j5 ph (jg ρ x y) θ∧∀t,ph y=some t→θ x=t.ap θ)↔(j5 ph ρ θ∧θ x=θ y):=by
 constructor
 ·rintro⟨⟨J,U⟩,ao⟩;have K8:θ y=θ x:=by have:=J y;simpa[jg,aD]using this
  refine⟨⟨fun v=>?_,fun z t aY aL=>?_⟩,K8.symm⟩
  ·have:=J v;unfold jg at this;split at this
   ·rename_i e;rw[e,this,K8]
   ·exact this
  ·by_cases e:z=y
   ·subst e;rw[K8];exact ao t aL
   ·exact U z t ((p4 ab aD hY).2 ⟨aY,e⟩) aL
 ·rintro⟨⟨J,U⟩,ao⟩;refine⟨⟨fun v=>?_,fun z t aY aL=>U z t ((p4 ab aD hY).1 aY).1 aL⟩,fun t aL=>by rw[ao];exact U y t aD aL⟩;unfold jg;split
  ·rename_i e;rw[J v,e,ao]
  ·exact J v
theorem akI{V:List Int}{ph:Int→Option T}(gI:oh V ph)(ab:ρ x=x)(aD:ρ y=y)(hY:x≠y){θ:Int→T}(h:j5 ph ρ θ){z u:Int}(aY:z≠x)(he:jb ph (jg ρ x y) z u):(if u=x then 0 else(θ u).size)<(if z=x then 0 else(θ z).size):=by
 obtain⟨J,t,w,U,ao,rfl⟩:=he;have aK:=(p4 ab aD hY).1 J;rw[if_neg aY];split
 ·exact T.size_pos _
 ·rename_i cD;have:jg ρ x y w=ρ w:=by
   unfold jg at cD⊢;split
   ·rename_i e;rw[if_pos e]at cD;exact absurd rfl cD
   ·rfl
  rw[this];exact HU gI h ⟨aK.1,t,w,U,ao,rfl⟩
theorem YM(ab:ρ x=x)(aD:ρ y=y)(hY:x≠y)(uW:y∈cl c.up):iy (c.join x y) (jg ρ x y)<iy c ρ:=by have ad:cl (c.join x y).up=cl c.up:=C9 uW;have bB:(c.join x y).ph=c.ph:=rfl;unfold iy;rw[ad,bB];have J:=Fs (V:=cl c.up) (v:=y) (p:=fun v=>decide (ρ v=v)) (q:=fun v=>decide (jg ρ x y v=v)) (fun z _ aY=>by simp only[fo]at aY⊢;exact((p4 ab aD hY).1 aY).1) uW (by simp[aD]) (by simp only[hK];exact fun h=>((p4 ab aD hY).1 h).2 rfl);have U:=Fq (V:=cl c.up) (p:=fun v=>decide (ρ v=v)&& !(c.ph v).isSome) (q:=fun v=>decide (jg ρ x y v=v)&& !(c.ph v).isSome) (fun z _ aY=>by simp only[cx,fo]at aY⊢;exact⟨((p4 ab aD hY).1 aY.1).1,aY.2⟩);omega
end
theorem A3{c:bo}{x:Int}(h:c.shd x=false):c.ph x=none:=by simp[bo.ph,h]
theorem A4{c:bo}{x:Int}(h:¬c.shd x=false):c.ph x=some (c.shp x):=by simp[bo.ph];simpa using h
theorem Rp{c:bo}{ρ:Int→Int}(hi:lZ c ρ){x y:Int}(ab:ρ x=x)(aD:ρ y=y)(hY:x<y)(Da:x∈cl c.up)(uW:y∈cl c.up)
  (rec:∀(bQ:bo) (lz:Int→Int),lZ bQ lz→cl bQ.up=cl c.up→iy bQ lz<iy c ρ→∀a b:T,(∀w,a.occ w=true→w∈cl c.up)→(∀w,b.occ w=true→w∈cl c.up)→∃N o,(∀n,N≤n→gE n a b bQ=some o)∧jc bQ lz (fun θ=>a.ap θ=b.ap θ) o):
  ∃N o,(∀n,N≤n→rB (gE n) n x y (c.join x y)=some o)∧jc c ρ (fun θ=>θ x=θ y) o:=by
 have cD:x≠y:=by omega
 have ad:cl (c.join x y).up=cl c.up:=C9 uW;have bB:(c.join x y).ph=c.ph:=rfl;have ma:=hi.ru.join ab aD hY Da uW;have c3:=YM (c:=c) ab aD cD uW;have gI:oh (cl (c.join x y).up) (c.join x y).ph:=by rw[ad,bB];exact hi.sh
 obtain⟨k8,uO⟩:=hi.sat
 have F6:∀z u,z≠x→jb c.ph (jg ρ x y) z u→(fun z=>if z=x then 0 else(k8 z).size) u<(fun z=>if z=x then 0 else(k8 z).size) z:=fun z u aY he=>akI hi.sh ab aD cD uO aY he;have kc:=fun θ=>alq (ph:=c.ph) ab aD cD θ;have TC:∀{cf:bo},iK (jg ρ x y) (c.join x y) cf→(∃θ,j5 c.ph (jg ρ x y) θ)→c.ph y=none→jc c ρ (fun θ=>θ x=θ y) (true,cf):=by intro cf k af au;refine⟨k.keys.trans ad,k.rest,fun _=>⟨jg ρ x y,⟨k.ru,by simp only[k.keys,k.ph];exact gI,by simp only[k.ph];exact af⟩,fun θ=>?_,.inr (by simp only[xg k];exact c3)⟩,fun e=>by cases e⟩;simp only[k.ph,bB];rw[←kc θ];exact⟨fun h=>⟨h,fun t aL=>by rw[au]at aL;cases aL⟩,fun h=>h.1⟩
 by_cases J:(c.join x y).shd y=false
 ·have Ts:c.ph y=none:=A3 J;by_cases U:(c.join x y).shd x=false
  ·have iU:c.ph x=none:=A3 U;refine⟨0,(true,c.join x y),fun n _=>by simp only[rB,if_pos J,if_pos U],TC (iK.refl ma) ?_ Ts⟩;exact DY ma.idem (x:=x) F6 fun u ⟨_,t,w,q,_⟩=>by rw[iU]at q;cases q
  ·have nR:c.ph x=some ((c.join x y).shp x):=A4 U;obtain⟨N,a,ai,ax,bn⟩:=Hq (x:=x) (c:=c.join x y) (t:=(c.join x y).shp x) ma gI (by rw[ad];exact(hi.sh _ _ nR).2.1);refine⟨N,(!a.found,a.c),fun n au=>by simp only[rB,if_pos J,if_neg U,ai n au,kN],?_⟩;cases aO:a.found with
   |false=>refine TC ax (DY ma.idem (x:=x) F6 fun u ⟨_,t,w,aV,bf,bI⟩ aK=>?_) Ts;rw[nR]at aV;cases aV;subst bI;have:=bn.2 ⟨w,bf,aK⟩;rw[aO]at this;cases this
   |true=>refine⟨ax.keys.trans ad,ax.rest,(fun e=>by cases e),fun _ θ af he=>?_⟩;obtain⟨w,aV,bf⟩:=bn.1 aO;have fM:=((kc θ).2 ⟨af,he⟩).1;have ao:=HV hi.sh fM bf;have a1:=(AT θ aV).2 (hi.sh _ _ nR).1;rw[←fM.2 x _ ((p4 ab aD cD).2 ⟨ab,cD⟩) nR]at a1;rw[←fM.1 w]at ao;omega
 ·have qW:c.ph y=some ((c.join x y).shp y):=A4 J;by_cases U:(c.join x y).shd x=false
  ·have iU:c.ph x=none:=A3 U;have l7:lZ (c.join x y) (jg ρ x y):=⟨ma,gI,DY ma.idem (x:=x) F6 fun u ⟨_,t,w,q,_⟩=>by rw[bB,iU]at q;cases q⟩;obtain⟨N,o,ai,ax⟩:=Uz l7 (x:=x) ((p4 ab aD cD).2 ⟨ab,cD⟩) (by rw[ad];exact Da) iU (t:=(c.join x y).shp y) (hi.sh _ _ qW).1 (by rw[ad];exact(hi.sh _ _ qW).2.1);refine⟨N,o,fun n au=>by simp only[rB,if_neg J,if_pos U,ai n au],ax.keys.trans ad,ax.rest,fun aO=>?_,fun aO θ af he=>?_⟩
   ·obtain⟨ρ',g1,g2,g3⟩:=ax.yes aO;refine⟨ρ',g1,fun θ=>?_,.inr ?_⟩
    ·rw[g2 θ,←kc θ];refine and_congr_right fun _=>⟨fun h t aL=>by rw[qW]at aL;cases aL;exact h,fun h=>h _ qW⟩
    ·rcases g3 with⟨rfl,g3⟩|g3
     ·have:iy o.2 (jg ρ x y)=iy (c.join x y) (jg ρ x y):=by unfold iy;rw[ax.keys,g3]
      omega
     ·omega
   ·obtain⟨s1,s2⟩:=(kc θ).2 ⟨af,he⟩;exact ax.no aO θ s1 (s2 _ qW)
  ·have nR:c.ph x=some ((c.join x y).shp x):=A4 U;obtain⟨hM,a,ai,ax,bn⟩:=Hq (x:=x) (c:=c.join x y) (t:=(c.join x y).shp y) ma gI (by rw[ad];exact(hi.sh _ _ qW).2.1);cases aO:a.found with
   |true=>refine⟨hM,(false,a.c),fun n au=>by simp only[rB,if_neg J,if_neg U,ai n au,e6,aO,if_true],ax.keys.trans ad,ax.rest,(fun e=>by cases e),fun _ θ af he=>?_⟩;obtain⟨w,aV,bf⟩:=bn.1 aO;obtain⟨fM,pg⟩:=(kc θ).2 ⟨af,he⟩;have ao:=HV hi.sh fM bf;have a1:=(AT θ aV).2 (hi.sh _ _ qW).1;rw[←pg _ qW]at a1;rw[←fM.1 w]at ao;omega
   |false=>
    have TH:a.c.shp x=(c.join x y).shp x:=ax.shp x;obtain⟨jd,b,f1,f2,f3⟩:=Hq (x:=x) (c:=a.c) (t:=(c.join x y).shp x) ax.ru (by rw[ax.keys,ax.ph];exact gI) (by rw[ax.keys,ad];exact(hi.sh _ _ nR).2.1);have eF:=ax.trans f2;cases aR:b.found with
    |true=>refine⟨max hM jd,(false,b.c),fun n au=>by simp only[rB,if_neg J,if_neg U,ai n (by omega),e6,aO,TH,f1 n (by omega),aR,if_true,gC,if_false],eF.keys.trans ad,eF.rest,(fun e=>by cases e),fun _ θ af he=>?_⟩;obtain⟨w,aV,bf⟩:=f3.1 aR;obtain⟨fM,_⟩:=(kc θ).2 ⟨af,he⟩;rw[ax.ph]at bf;have ao:=HV hi.sh fM bf;have a1:=(AT θ aV).2 (hi.sh _ _ nR).1;rw[←fM.2 x _ ((p4 ab aD cD).2 ⟨ab,cD⟩) nR]at a1;rw[←fM.1 w]at ao;omega
    |false=>
     have zR:lZ b.c (jg ρ x y):=by refine⟨eF.ru,by rw[eF.keys,eF.ph];exact gI,?_⟩;rw[eF.ph];refine DY ma.idem (x:=x) F6 fun u ⟨_,t,w,aV,bf,bI⟩ aK=>?_;rw[bB,nR]at aV;cases aV;subst bI;have:=f3.2 ⟨w,bf,by rw[ax.ph];exact aK⟩;rw[aR]at this;cases this
     obtain⟨za,o,g1,g2⟩:=rec b.c (jg ρ x y) zR (eF.keys.trans ad) (by rw[xg eF];exact c3) ((c.join x y).shp x) ((c.join x y).shp y) (hi.sh _ _ nR).2.1 (hi.sh _ _ qW).2.1;refine⟨max (max hM jd) za,o,fun n au=>?_,g2.keys.trans (eF.keys.trans ad),?_,fun cU=>?_,fun cU θ af he=>?_⟩
     ·simp only[rB,if_neg J,if_neg U,ai n (by omega),e6,aO,TH,f1 n (by omega),aR,gC,if_false,eF.shp];exact g1 n (by omega)
     ·rw[g2.rest.1,g2.rest.2.1,g2.rest.2.2];exact eF.rest
     ·obtain⟨ρ',aV,bf,bI⟩:=g2.yes cU;refine⟨ρ',aV,fun θ=>?_,.inr ?_⟩
      ·rw[bf θ,eF.ph,bB,←kc θ];refine and_congr_right fun h=>?_;have:=h.2 x _ ((p4 ab aD cD).2 ⟨ab,cD⟩) nR;rw[←this];exact⟨fun h t aL=>by rw[qW]at aL;cases aL;exact h,fun h=>h _ qW⟩
      ·have:iy b.c (jg ρ x y)<iy c ρ:=by rw[xg eF];exact c3
       rcases bI with⟨rfl,bI⟩|bI
       ·have:iy o.2 (jg ρ x y)=iy b.c (jg ρ x y):=by unfold iy;rw[g2.keys,bI]
        omega
       ·omega
     ·obtain⟨s1,s2⟩:=(kc θ).2 ⟨af,he⟩;refine g2.no cU θ (by rw[eF.ph];exact s1) ?_;have:=s1.2 x _ ((p4 ab aD cD).2 ⟨ab,cD⟩) nR;rw[←this];exact s2 _ qW
def um:T→T→Nat
 | .var _,_=>1
 |_,.var _=>2
 |_,_=>0
theorem Z7(K:Nat):∀(m:Nat) (c:bo) (ρ:Int→Int) (a b:T) (k8:Int→T),lZ c ρ→j5 c.ph ρ k8→(∀w,a.occ w=true→w∈cl c.up)→(∀w,b.occ w=true→w∈cl c.up)→iy c ρ=K→((a.ap k8).size+(b.ap k8).size)*3+um a b=m→
  ∃N o,(∀n,N≤n→gE n a b c=some o)∧jc c ρ (fun θ=>a.ap θ=b.ap θ) o:=by
 induction K using qw with
 |ind K af8=>
 have TT:∀(bQ:bo) (lz:Int→Int),lZ bQ lz→iy bQ lz<K→∀a b:T,(∀w,a.occ w=true→w∈cl bQ.up)→(∀w,b.occ w=true→w∈cl bQ.up)→∃N o,(∀n,N≤n→gE n a b bQ=some o)∧jc bQ lz (fun θ=>a.ap θ=b.ap θ) o:=by
  intro bQ lz J U a b bk ae;obtain⟨θ,fF⟩:=J.sat
  exact af8 _ U _ bQ lz a b θ J fF bk ae rfl rfl
 intro m;induction m using qw with
 |ind m Ap=>
 intro c ρ a b k8 hi uO bk ae c3 hm;have ae5:∀{a b:T},(∀n,gE (n+1) a b c=some (decide (a=b),c))→(∀θ,a.ap θ=a)→(∀θ,b.ap θ=b)→∃N o,(∀n,N≤n→gE n a b c=some o)∧jc c ρ (fun θ=>a.ap θ=b.ap θ) o:=by
  intro a b J U ao;refine⟨1,(decide (a=b),c),fun n au=>?_,rfl,⟨rfl,rfl,rfl⟩,fun h=>?_,fun h θ _ he=>?_⟩
  ·obtain⟨n',rfl⟩:∃n',n=n'+1:=⟨n-1,by omega⟩;exact J n'
  ·simp only[fo]at h;subst h;exact⟨ρ,hi,fun θ=>⟨fun h=>⟨h,rfl⟩,fun h=>h.1⟩,.inl ⟨rfl,rfl⟩⟩
  ·simp only[hK]at h;rw[U,ao]at he;exact h he
 have SP:∀{a b:T},(∀n,gE (n+1) a b c=some (decide (a=b),c))→(∀θ,a.ap θ≠b.ap θ)→a≠b→∃N o,(∀n,N≤n→gE n a b c=some o)∧jc c ρ (fun θ=>a.ap θ=b.ap θ) o:=by intro a b J U ao;refine⟨1,(false,c),fun n au=>?_,rfl,⟨rfl,rfl,rfl⟩,(fun h=>by cases h),fun _ θ _ he=>U θ he⟩;obtain⟨n',rfl⟩:∃n',n=n'+1:=⟨n-1,by omega⟩;rw[J n',lB ao]
 have wm:∀(i:Int) (b:T),b.kind≠1→(∀n,gE (n+1) (.var i) b c=(rt c i).bind fun p=>if p.2.shd p.1=false then uV n p.1 b p.2 else gE n (p.2.shp p.1) b p.2)→i∈cl c.up→(∀w,b.occ w=true→w∈cl c.up)→((k8 i).size+(b.ap k8).size)*3<m→∃N o,(∀n,N≤n→gE n (.var i) b c=some o)∧jc c ρ (fun θ=>θ i=b.ap θ) o:=by
  intro i b nk SV wz ae bm;obtain⟨bQ,ai,aS⟩:=tK hi.ru wz;have l7:=hi.sm aS;by_cases af:bQ.shd (ρ i)=false
  ·obtain⟨N,o,ax,da⟩:=Uz l7 (x:=ρ i) (hi.ru.idem i) (by rw[aS.keys];exact(hi.ru.mem wz).1) (A3 af) nk (by rw[aS.keys];exact ae);refine⟨N+1,o,fun n au=>?_,jc.sm aS (jc.congr (fun θ h=>?_) da)⟩
   ·obtain⟨n',rfl⟩:∃n',n=n'+1:=⟨n-1,by omega⟩;rw[SV,ai];simp only[e6,if_pos af];exact ax n' (by omega)
   ·rw[←h.1 i]
  ·have nR:bQ.ph (ρ i)=some (bQ.shp (ρ i)):=A4 af;have kc:∀θ,j5 bQ.ph ρ θ→θ i=(bQ.shp (ρ i)).ap θ:=fun θ h=>by rw[h.1 i];exact h.2 _ _ (hi.ru.idem i) nR
   have hy:=(l7.sh _ _ nR).1;have aeG:um (bQ.shp (ρ i)) b=0:=by cases e:bQ.shp (ρ i)<;>cases b<;>simp_all[um,T.kind]
   have TS:j5 bQ.ph ρ k8:=by rw[aS.ph];exact uO
   obtain⟨N,o,ax,da⟩:=Ap (((bQ.shp (ρ i)).ap k8).size*3+(b.ap k8).size*3) (by rw[←kc k8 TS];omega) bQ ρ (bQ.shp (ρ i)) b k8 l7 TS (l7.sh _ _ nR).2.1 (by rw[aS.keys];exact ae) (by rw[xg aS];exact c3) (by rw[aeG];omega);refine⟨N+1,o,fun n au=>?_,jc.sm aS (jc.congr (fun θ h=>?_) da)⟩
   ·obtain⟨n',rfl⟩:∃n',n=n'+1:=⟨n-1,by omega⟩;rw[SV,ai];simp only[e6,if_neg af];exact ax n' (by omega)
   ·rw[kc θ h]
 have CX:∀(i j:Int),i∈cl c.up→j∈cl c.up→∃N o,(∀n,N≤n→gE n (.var i) (.var j) c=some o)∧jc c ρ (fun θ=>θ i=θ j) o:=by
  intro i j wz Gv;obtain⟨bQ,ai,aS⟩:=tK hi.ru wz;obtain⟨cp,ax,bc⟩:=tK aS.ru (by rw[aS.keys];exact Gv:j∈cl bQ.up);have tp:=aS.trans bc;have hG:=hi.sm tp;have uJ:ρ i∈cl cp.up:=by rw[tp.keys];exact(hi.ru.mem wz).1
  have S9:ρ j∈cl cp.up:=by rw[tp.keys];exact(hi.ru.mem Gv).1
  have wg:∀(bQ:bo) (lz:Int→Int),lZ bQ lz→cl bQ.up=cl cp.up→iy bQ lz<iy cp ρ→∀a b:T,(∀w,a.occ w=true→w∈cl cp.up)→(∀w,b.occ w=true→w∈cl cp.up)→∃N o,(∀n,N≤n→gE n a b bQ=some o)∧jc bQ lz (fun θ=>a.ap θ=b.ap θ) o:=fun ds ρ3 J U ao a b bk ae=>TT ds ρ3 J (by rw[xg tp,c3]at ao;exact ao) a b (by rw[U];exact bk) (by rw[U];exact ae);rcases Int.lt_trichotomy (ρ i) (ρ j)with h|h|h
  ·obtain⟨N,o,bn,hp⟩:=Rp hG (hi.ru.idem i) (hi.ru.idem j) h uJ S9 wg;refine⟨N+1,o,fun n au=>?_,jc.sm tp (jc.congr (fun θ h=>?_) hp)⟩
   ·obtain⟨n',rfl⟩:∃n',n=n'+1:=⟨n-1,by omega⟩;simp only[gE,ai,ax,e6];rw[if_neg (by omega),if_neg (by omega)];exact bn n' (by omega)
   ·rw[h.1 i,h.1 j]
  ·refine⟨1,(true,cp),fun n au=>?_,tp.keys,tp.rest,fun _=>⟨ρ,hG,fun θ=>?_,.inl ⟨rfl,tp.ph⟩⟩,fun e=>by cases e⟩
   ·obtain⟨n',rfl⟩:∃n',n=n'+1:=⟨n-1,by omega⟩;simp only[gE,ai,ax,e6,if_pos h]
   ·simp only[tp.ph];exact⟨fun af=>⟨af,by rw[af.1 i,af.1 j,h]⟩,fun af=>af.1⟩
  ·obtain⟨N,o,bn,hp⟩:=Rp hG (hi.ru.idem j) (hi.ru.idem i) h S9 uJ wg;refine⟨N+1,o,fun n au=>?_,jc.sm tp (jc.congr (fun θ h=>?_) hp)⟩
   ·obtain⟨n',rfl⟩:∃n',n=n'+1:=⟨n-1,by omega⟩;simp only[gE,ai,ax,e6];rw[if_neg (by omega),if_pos h];exact bn n' (by omega)
   ·rw[h.1 i,h.1 j];exact⟨Eq.symm,Eq.symm⟩
 have Ad:∀(a:T) (j:Int),a.kind≠1→(∀n,gE (n+1) a (.var j) c=gE n (.var j) a c)→(∀n,gE (n+1) (.var j) a c=(rt c j).bind fun p=>if p.2.shd p.1=false then uV n p.1 a p.2 else gE n (p.2.shp p.1) a p.2)→j∈cl c.up→(∀w,a.occ w=true→w∈cl c.up)→((k8 j).size+(a.ap k8).size)*3<m→∃N o,(∀n,N≤n→gE n a (.var j) c=some o)∧jc c ρ (fun θ=>a.ap θ=θ j) o:=by intro a j J U ao Gv bk bm;obtain⟨N,o,ai,cC⟩:=wm j a J ao Gv bk bm;refine⟨N+1,o,fun n au=>?_,jc.congr (fun θ _=>⟨Eq.symm,Eq.symm⟩) cC⟩;obtain⟨n',rfl⟩:∃n',n=n'+1:=⟨n-1,by omega⟩;rw[U];exact ai n' (by omega)
 cases a with
 |var i=>
  have wz:i∈cl c.up:=bk i (by simp[T.occ]);cases b with
  |var j=>exact CX i j wz (ae j (by simp[T.occ]))
  |_=>exact wm i _ (by simp[T.kind]) (fun n=>rfl) wz ae (by simp only[T.ap,um]at hm⊢;omega)
 |pair bt a2=>
  cases b with
  |var j=>exact Ad _ j (by simp[T.kind]) (fun n=>rfl) (fun n=>rfl) (ae j (by simp[T.occ])) bk (by simp only[T.ap,um]at hm⊢;omega)
  |pair bM bO=>
   have s7:∀p q:T,um p q≤2:=fun p q=>by cases p<;>cases q<;>simp[um]
   have ll:∀w,bt.occ w=true→w∈cl c.up:=fun w hw=>bk w (by simp[T.occ,hw]);have pW:∀w,a2.occ w=true→w∈cl c.up:=fun w hw=>bk w (by simp[T.occ,hw]);have hP:∀w,bM.occ w=true→w∈cl c.up:=fun w hw=>ae w (by simp[T.occ,hw]);have nj:∀w,bO.occ w=true→w∈cl c.up:=fun w hw=>ae w (by simp[T.occ,hw]);simp only[T.ap,T.size,um]at hm;have f1:=s7 bt bM;have f2:=s7 a2 bO;obtain⟨hM,fv,ai,cC⟩:=Ap _ (by rw[←hm];omega) c ρ bt bM k8 hi uO ll hP c3 rfl;obtain⟨ahM,bQ⟩:=fv;cases ahM with
   |false=>refine⟨hM+1,(false,bQ),fun n au=>?_,cC.keys,cC.rest,(fun e=>by cases e),fun _ θ af he=>cC.no rfl θ af (by simp only[T.ap,T.pair.injEq]at he;exact he.1)⟩;obtain⟨n',rfl⟩:∃n',n=n'+1:=⟨n-1,by omega⟩;simp only[gE,ai n' (by omega),e6,gC,if_false]
   |true=>
    obtain⟨lz,aV,bf,bI⟩:=cC.yes rfl;simp only at aV bf bI;have xW:cl bQ.up=cl c.up:=cC.keys;have CR:∃jd gH,(∀n,jd≤n→gE n a2 bO bQ=some gH)∧jc bQ lz (fun θ=>a2.ap θ=bO.ap θ) gH:=by
     rcases bI with⟨rfl,bI⟩|bI
     ·exact Ap _ (by rw[←hm];omega) bQ lz a2 bO k8 aV (by rw[bI];exact uO) (by rw[xW];exact pW) (by rw[xW];exact nj) (by unfold iy;rw[xW,bI];exact c3) rfl
     ·exact TT bQ lz aV (by omega) a2 bO (by rw[xW];exact pW) (by rw[xW];exact nj)
    obtain⟨jd,gH,ax,da⟩:=CR;refine⟨max hM jd+1,gH,fun n au=>?_,da.keys.trans xW,?_,fun aO=>?_,fun aO θ af he=>?_⟩
    ·obtain⟨n',rfl⟩:∃n',n=n'+1:=⟨n-1,by omega⟩;simp only[gE,ai n' (by omega),e6,if_true];exact ax n' (by omega)
    ·rw[da.rest.1,da.rest.2.1,da.rest.2.2];exact cC.rest
    ·obtain⟨ρ2,s1,s2,s3⟩:=da.yes aO;refine⟨ρ2,s1,fun θ=>?_,?_⟩
     ·rw[s2 θ,bf θ];simp only[T.ap,T.pair.injEq,and_assoc]
     ·rcases bI with⟨rfl,bI⟩|bI
      ·rcases s3 with⟨rfl,s3⟩|s3
       ·exact .inl ⟨rfl,s3.trans bI⟩
       ·have:iy bQ lz=iy c lz:=by unfold iy;rw[xW,bI]
        exact .inr (by omega)
      ·rcases s3 with⟨rfl,s3⟩|s3
       ·have:iy gH.2 ρ2=iy bQ ρ2:=by unfold iy;rw[da.keys,s3]
        exact .inr (by omega)
       ·exact .inr (by omega)
    ·simp only[T.ap,T.pair.injEq]at he;exact da.no aO θ ((bf θ).2 ⟨af,he.1⟩) he.2
  |_=>exact SP (fun n=>rfl) (fun θ=>by simp[T.ap]) (by simp)
 |_=>
  cases b with
  |var j=>exact Ad _ j (by simp[T.kind]) (fun n=>rfl) (fun n=>rfl) (ae j (by simp[T.occ])) bk (by simp only[T.ap,um]at hm⊢;omega)
  |_=>first|exact ae5 (fun n=>rfl) (fun θ=>rfl) (fun θ=>rfl)|exact SP (fun n=>rfl) (fun θ=>by simp[T.ap]) (by simp)
end Go.Pv
namespace Go.Pv
open Go
def y2(rec:Int→bo→Option (Bool×bo))(v:Int)(a:bo×Bool):Option (bo×Bool):=if a.2=true then(rt a.1 v).bind fun p=>(rec p.1 p.2).map fun q=>(q.2,q.1)else some a
def yS(v:Int)(c:bo):Option (Int×bo):=(rt c v).map fun p=>(p.2.sz p.1,p.2)
def bo.grey(c:bo)(x:Int):bo:={c with color:=eX x 1 c.color,size:=eX x 1 c.size}
def bo.black(c:bo)(x:Int):bo:={c with color:=eX x 2 c.color}
def qq:Nat→Int→bo→Option (Bool×bo)
 |0,_,_=>none
 |n+1,x,c=>if c.col x=2 then some (true,c)else if c.col x=1 then some (false,c)else
   if(c.grey x).shd x=false then some (true,(c.grey x).black x)else
   (((c.grey x).shp x).foldO (y2 (qq n)) (c.grey x,true)).bind fun a=>if a.2=false then some (false,a.1)else
   (((a.1.shp x).sizeO yS a.1).map fun p=>(true,{p.2 with size:=eX x p.1 p.2.size}.black x))
def BF(rec:Int→bo→Option (T×bo))(v:Int)(c:bo):Option (T×bo):=(rt c v).bind fun p=>rec p.1 p.2
def qp:Nat→Int→bo→Option (T×bo)
 |0,_,_=>none
 |n+1,x,c=>match tg x c.full with
  |some t=>some (t,c)
  |none=>if c.shd x=false then some (.var x,{c with full:=eX x (.var x) c.full})else
   ((c.shp x).mapO (BF (qp n)) c).map fun p=>(p.1,{p.2 with full:=eX x p.1 p.2.full})
def sq(n:Nat):List Int→bo→List Int→Option (Option (List Int)×bo)
 |[],c,out=>some (some out,c)
 |v::a7,c,out=>(rt c v).bind fun p=>(qq n p.1 p.2).bind fun q=>if q.1=false then some (none,q.2)else
   if p.1=v∧q.2.shd p.1=false then sq n a7 q.2 out else
   if 5000<q.2.sz p.1∨400<out.length+1 then some (none,q.2)else sq n a7 q.2 (out++[v])
def yT(n:Nat):List Int→bo→Option (List ak×bo)
 |[],c=>some ([],c)
 |v::a7,c=>(rt c v).bind fun p=>(qp n p.1 p.2).bind fun q=>(yT n a7 q.2).map fun r=>(⟨v,q.1⟩::r.1,r.2)
def D6(n:Nat)(a7:List Int)(c:bo):Option (Option (List ak)):=(sq n a7 c []).bind fun a=>match a.1 with
 |none=>some none
 |some out=>(yT n out a.2).map fun r=>some r.1
def pS(n:Nat):List (T×T)→bo→Option (Bool×bo)
 |[],c=>some (true,c)
 |e::es,c=>(AI e.1 c).bind fun bQ=>(AI e.2 bQ).bind fun cp=>(gE n e.1 e.2 cp).bind fun p=>if p.1=true then pS n es p.2 else some (false,p.2)
theorem lZ.rank{c:bo}{ρ:Int→Int}(h:lZ c ρ):∃r:Int→Nat,∀z u,jb c.ph ρ z u→r u<r z:=by
 obtain⟨θ,fF⟩:=h.sat
 exact⟨fun z=>(θ z).size,fun z u he=>HU h.sh fF he⟩
structure tY (V:List Int) (ph:Int→Option T) (ρ:Int→Int) (c:bo):Prop where
 ru:jE c.up ρ
 keys:cl c.up=V
 ph:c.ph=ph
theorem tY.sm{V:List Int}{ph:Int→Option T}{ρ:Int→Int}{c cf:bo}(h:tY V ph ρ c)(k:iK ρ c cf):tY V ph ρ cf:=⟨k.ru,k.keys.trans h.keys,k.ph.trans h.ph⟩
def cut(n:Nat):Int:=if 5001<(n:Int)then 5001 else n
section
variable {V:List Int} {ph:Int→Option T} {ρ:Int→Int} {r:Int→Nat}
theorem alf(Er:Int→T):∀(t:T) (c:bo),tY V ph ρ c→(∀w,t.occ w=true→w∈V∧c.sz (ρ w)=cut (Er w).size)→∃cf,t.sizeO yS c=some (cut (t.ap Er).size,cf)∧iK ρ c cf:=by
 intro t;induction t with
 |var v=>
  intro c h aL;obtain⟨aI,aY⟩:=aL v (by simp[T.occ]);obtain⟨bQ,J,U⟩:=tK h.ru (by rw[h.keys];exact aI:v∈cl c.up);refine⟨bQ,?_,U⟩;have:bQ.sz (ρ v)=cut (Er v).size:=by rw[←aY,U.eq];rfl
  simp only[T.sizeO,yS,J,kN,this,T.ap,dw,jB,and_true];unfold cut;split<;>omega
 |pair a b dQ dR=>
  intro c h aL;obtain⟨bQ,J,aS⟩:=dQ c h fun w hw=>aL w (by simp[T.occ,hw]);obtain⟨cp,U,bc⟩:=dR bQ (h.sm aS) fun w hw=>⟨(aL w (by simp[T.occ,hw])).1,by rw[←(aL w (by simp[T.occ,hw])).2,aS.eq];rfl⟩;have ae:=T.size_pos (b.ap Er);simp only[T.sizeO,J,e6,T.ap,T.size];by_cases ar:5000<cut (a.ap Er).size
  ·rw[if_pos ar];refine⟨bQ,?_,aS⟩;simp only[dw,jB,and_true];unfold cut at ar⊢;split at ar<;>split<;>(try split)<;>omega
  ·rw[if_neg ar,U];refine⟨cp,?_,aS.trans bc⟩;simp only[kN,dw,jB,and_true];unfold cut at ar⊢;split at ar<;>(repeat' split)<;>omega
 |_=>intro c h aL;exact⟨c,by simp[T.sizeO,T.ap,T.size,cut],iK.refl h.ru⟩
structure qB (V:List Int) (ph:Int→Option T) (ρ:Int→Int) (r:Int→Nat) (d:Nat) (c:bo):Prop where
 fin:tY V ph ρ c
 col:∀z,r z<d→c.col z=0∨(c.col z=2∧c.sz z=cut (gT ph ρ r z).size)
structure mV (ph:Int→Option T) (ρ:Int→Int) (r:Int→Nat) (d:Nat) (c cf:bo):Prop where
 full:cf.full=c.full
 hi:∀z,d≤r z→cf.col z=c.col z∧cf.sz z=c.sz z
 lo:∀z,c.col z=2→cf.col z=2∧cf.sz z=c.sz z
theorem mV.refl{c:bo}{d:Nat}:mV ph ρ r d c c:=⟨rfl,fun _ _=>⟨rfl,rfl⟩,fun _ h=>⟨h,rfl⟩⟩
theorem mV.trans{a b c:bo}{d:Nat}(h:mV ph ρ r d a b)(k:mV ph ρ r d b c):mV ph ρ r d a c:=⟨k.full.trans h.full,fun z aY=>⟨(k.hi z aY).1.trans (h.hi z aY).1,(k.hi z aY).2.trans (h.hi z aY).2⟩,fun z aY=>⟨(k.lo z (h.lo z aY).1).1,(k.lo z (h.lo z aY).1).2.trans (h.lo z aY).2⟩⟩
theorem mV.mono{a b:bo}{d ca:Nat}(aE:d≤ca)(h:mV ph ρ r d a b):mV ph ρ r ca a b:=⟨h.full,fun z aY=>h.hi z (by omega),h.lo⟩
theorem mV.sm{c cf:bo}{d:Nat}(k:iK ρ c cf):mV ph ρ r d c cf:=by
 have ai:∀z,cf.col z=c.col z:=fun z=>by rw[k.eq];rfl
 have ax:∀z,cf.sz z=c.sz z:=fun z=>by rw[k.eq];rfl
 exact⟨k.rest.2.2,fun z _=>⟨ai z,ax z⟩,fun z h=>⟨by rw[ai];exact h,ax z⟩⟩
theorem qB.sm{c cf:bo}{d:Nat}(h:qB V ph ρ r d c)(k:iK ρ c cf):qB V ph ρ r d cf:=by
 have ai:∀z,cf.col z=c.col z:=fun z=>by rw[k.eq];rfl
 have ax:∀z,cf.sz z=c.sz z:=fun z=>by rw[k.eq];rfl
 exact⟨h.fin.sm k,fun z aY=>by rw[ai,ax];exact h.col z aY⟩
theorem amR(gI:oh V ph)(e0:∀v,ρ (ρ v)=ρ v)(aK:∀z u,jb ph ρ z u→r u<r z)(d:Nat):∀(x:Int) (c:bo),r x<d→ρ x=x→x∈V→qB V ph ρ r d c→
  ∃N cf,(∀n,N≤n→qq n x c=some (true,cf))∧qB V ph ρ r d cf∧mV ph ρ r (r x+1) c cf∧cf.col x=2∧cf.sz x=cut (gT ph ρ r x).size:=by
 induction d using qw with
 |ind d bP=>
 intro x c aE ab iP hw;rcases hw.col x aE with bD|⟨U,ao⟩;rotate_left
 ·refine⟨1,c,fun n au=>?_,hw,mV.refl,U,ao⟩;obtain⟨n',rfl⟩:∃n',n=n'+1:=⟨n-1,by omega⟩;simp only[qq,if_pos U]
 have xK:∀z,(c.grey x).col z=if z=x then 1 else c.col z:=fun z=>by simp only[bo.grey,bo.col,nB];split<;>rfl
 have Cl:∀z,(c.grey x).sz z=if z=x then 1 else c.sz z:=fun z=>by simp only[bo.grey,bo.sz,nB];split<;>rfl
 have zG:tY V ph ρ (c.grey x):=⟨hw.fin.ru,hw.fin.keys,hw.fin.ph⟩;have afW:qB V ph ρ r (r x) (c.grey x):=⟨zG,fun z aY=>by
  have cD:z≠x:=fun e=>by subst e;omega
  rw[xK,Cl,if_neg cD,if_neg cD];exact hw.col z (by omega)⟩
 have te:¬c.col x=2:=by omega
 have rT:¬c.col x=1:=by omega
 have fD:∀(e:bo) (z:Int),(e.black x).col z=(if z=x then 2 else e.col z):=fun e z=>by simp only[bo.black,bo.col,nB];split<;>rfl
 by_cases af:(c.grey x).shd x=false
 ·have jv:ph x=none:=by rw[←zG.ph];exact A3 af
  have aR:gT ph ρ r x= .var x:=by rw[Ck (by rw[ab];exact jv),ab]
  have et:∀z,((c.grey x).black x).sz z=if z=x then 1 else c.sz z:=Cl
  refine⟨1,(c.grey x).black x,fun n au=>?_,⟨⟨zG.ru,zG.keys,zG.ph⟩,fun z aY=>?_⟩,⟨rfl,fun z aY=>?_,fun z aY=>?_⟩,?_,?_⟩
  ·obtain⟨n',rfl⟩:∃n',n=n'+1:=⟨n-1,by omega⟩;simp only[qq,if_neg te,if_neg rT,if_pos af]
  ·rw[fD,et,xK];by_cases e:z=x
   ·subst e;simp only[if_true,aR];exact .inr ⟨trivial,by simp[T.size,cut]⟩
   ·simp only[if_neg e];exact hw.col z aY
  ·have e:z≠x:=fun e=>by subst e;omega
   rw[fD,et,xK];simp only[if_neg e];exact⟨trivial,trivial⟩
  ·have e:z≠x:=fun e=>by subst e;omega
   rw[fD,et,xK];simp only[if_neg e];exact⟨aY,trivial⟩
  ·rw[fD,if_pos rfl]
  ·rw[et,if_pos rfl,aR];simp[T.size,cut]
 ·have jv:ph x=some ((c.grey x).shp x):=by rw[←zG.ph];exact A4 af
  obtain⟨g1,g2,g3⟩:=gI _ _ jv;have aeI:∀(t:T) (e:bo),(∀w,t.occ w=true→((c.grey x).shp x).occ w=true)→qB V ph ρ r (r x) e→∃N fT,(∀n,N≤n→t.foldO (y2 (qq n)) (e,true)=some (fT,true))∧qB V ph ρ r (r x) fT∧mV ph ρ r (r x) e fT∧∀w,t.occ w=true→fT.col (ρ w)=2∧fT.sz (ρ w)=cut (gT ph ρ r w).size:=by
   intro t;induction t with
   |var v=>intro e jW he;have aI:=g2 v (jW v (by simp[T.occ]));have wh:r (ρ v)<r x:=aK x (ρ v) ⟨ab,_,v,jv,jW v (by simp[T.occ]),rfl⟩;obtain⟨ai,aV,aS⟩:=tK he.fin.ru (by rw[he.fin.keys];exact aI:v∈cl e.up);obtain⟨N,ax,bf,dS,da,cp,s2⟩:=bP (r x) aE (ρ v) ai wh (e0 v) (by rw[←he.fin.keys];exact(he.fin.ru.mem (by rw[he.fin.keys];exact aI)).1) (he.sm aS);refine⟨N,ax,fun n au=>by simp[T.foldO,y2,aV,bf n au],dS,(mV.sm aS).trans (da.mono (by omega)),fun w hw=>?_⟩;simp[T.occ]at hw;subst hw;exact⟨cp,by rw[s2,←zH e0]⟩
   |pair a b dQ dR=>
    intro e jW he;obtain⟨hM,ai,aV,fW,cC,s1⟩:=dQ e (fun w hw=>jW w (by simp[T.occ,hw])) he;obtain⟨jd,ax,bf,dS,da,s2⟩:=dR ai (fun w hw=>jW w (by simp[T.occ,hw])) fW;refine⟨max hM jd,ax,fun n au=>by simp only[T.foldO];rw[aV n (by omega)];exact bf n (by omega),dS,cC.trans da,fun w hw=>?_⟩;simp only[T.occ,lY]at hw;rcases hw with hw|hw
    ·obtain⟨k7,z2⟩:=s1 w hw;exact⟨(da.lo _ k7).1,by rw[(da.lo _ k7).2];exact z2⟩
    ·exact s2 w hw
   |_=>intro e _ he;exact⟨0,e,fun n _=>rfl,he,mV.refl,fun w hw=>by simp[T.occ]at hw⟩
  obtain⟨N,e,aV,fW,cC,s1⟩:=aeI ((c.grey x).shp x) (c.grey x) (fun w h=>h) afW;have afC:e.shp x=(c.grey x).shp x:=by
   have J:e.ph x=some ((c.grey x).shp x):=by rw[fW.fin.ph];exact jv
   unfold bo.ph at J;split at J
   ·exact e3 J
   ·cases J
  obtain⟨ax,bf,bc⟩:=alf (V:=V) (ph:=ph) (ρ:=ρ) (gT ph ρ r) ((c.grey x).shp x) e fW.fin (fun w hw=>⟨g2 w hw,(s1 w hw).2⟩);have kf:gT ph ρ r x=((c.grey x).shp x).ap (gT ph ρ r):=zI e0 aK (by rw[ab];exact jv);have F0:=cC.trans (mV.sm (ph:=ph) (r:=r) (d:=r x) bc);have dS:=fW.sm bc;let bn:bo:={ax with size:=eX x (cut (gT ph ρ r x).size) ax.size}.black x
  have ds:∀z,bn.col z=if z=x then 2 else ax.col z:=fun z=>fD _ z
  have s3:∀z,bn.sz z=if z=x then cut (gT ph ρ r x).size else ax.sz z:=fun z=>by show(tg z (eX x _ ax.size)).getD 0=_;rw[nB];split<;>rfl
  refine⟨N+1,bn,fun n au=>?_,⟨⟨dS.fin.ru,dS.fin.keys,dS.fin.ph⟩,fun z aY=>?_⟩,⟨F0.full,fun z aY=>?_,fun z aY=>?_⟩,by rw[ds,if_pos rfl],by rw[s3,if_pos rfl]⟩
  ·obtain⟨n',rfl⟩:∃n',n=n'+1:=⟨n-1,by omega⟩;simp only[qq,if_neg te,if_neg rT,if_neg af,aV n' (by omega),e6,Bool.true_eq_false,if_false,afC,bf,kN,kf,bn]
  ·rw[ds,s3];by_cases nO:z=x
   ·subst nO;simp only[if_true];exact .inr ⟨trivial,trivial⟩
   ·simp only[if_neg nO];by_cases bm:r z<r x
    ·exact dS.col z bm
    ·obtain⟨bt,a2⟩:=F0.hi z (by omega);rw[bt,a2,xK,Cl,if_neg nO,if_neg nO];exact hw.col z aY
  ·have nO:z≠x:=fun e=>by subst e;omega
   obtain⟨bt,a2⟩:=F0.hi z (by omega);rw[ds,s3,if_neg nO,if_neg nO,bt,a2,xK,Cl,if_neg nO,if_neg nO];exact⟨rfl,rfl⟩
  ·have nO:z≠x:=fun e=>by subst e;omega
   obtain⟨bt,a2⟩:=F0.lo z (by rw[xK,if_neg nO];exact aY);rw[ds,s3,if_neg nO,if_neg nO,bt,a2,Cl,if_neg nO];exact⟨rfl,rfl⟩
structure rr (V:List Int) (ph:Int→Option T) (ρ:Int→Int) (r:Int→Nat) (c:bo):Prop where
 fin:tY V ph ρ c
 full:∀x t,tg x c.full=some t→t=gT ph ρ r x
theorem rr.sm{c cf:bo}(h:rr V ph ρ r c)(k:iK ρ c cf):rr V ph ρ r cf:=⟨h.fin.sm k,by rw[k.rest.2.2];exact h.full⟩
theorem amP(gI:oh V ph)(e0:∀v,ρ (ρ v)=ρ v)(aK:∀z u,jb ph ρ z u→r u<r z)(d:Nat):∀(x:Int) (c:bo),r x<d→ρ x=x→x∈V→rr V ph ρ r c→
  ∃N cf,(∀n,N≤n→qp n x c=some (gT ph ρ r x,cf))∧rr V ph ρ r cf:=by
 induction d with
 |zero=>intro x c h;omega
 |succ d bP=>
 intro x c aE ab iP aI;cases aO:tg x c.full with
 |some t=>refine⟨1,c,fun n au=>?_,aI⟩;obtain⟨n',rfl⟩:∃n',n=n'+1:=⟨n-1,by omega⟩;simp only[qp,aO,aI.full x t aO]
 |none=>
  have Tx:∀(e:bo),rr V ph ρ r e→rr V ph ρ r {e with full:=eX x (gT ph ρ r x) e.full}:=fun e he=>⟨⟨he.fin.ru,he.fin.keys,he.fin.ph⟩,fun z t aY=>by
   have r2:tg z (eX x (gT ph ρ r x) e.full)=some t:=aY;rw[nB]at r2;split at r2
   ·rename_i e;subst e;cases r2;rfl
   ·exact he.full z t r2⟩
  by_cases af:c.shd x=false
  ·have jv:ph x=none:=by rw[←aI.fin.ph];exact A3 af
   have aR:gT ph ρ r x= .var x:=by rw[Ck (by rw[ab];exact jv),ab]
   refine⟨1,_,fun n au=>?_,Tx c aI⟩;obtain⟨n',rfl⟩:∃n',n=n'+1:=⟨n-1,by omega⟩;simp only[qp,aO,if_pos af,aR]
  ·have jv:ph x=some (c.shp x):=by rw[←aI.fin.ph];exact A4 af
   obtain⟨g1,g2,g3⟩:=gI _ _ jv;have ae9:∀(t:T) (e:bo),(∀w,t.occ w=true→(c.shp x).occ w=true)→rr V ph ρ r e→∃N fT,(∀n,N≤n→t.mapO (BF (qp n)) e=some (t.ap (gT ph ρ r),fT))∧rr V ph ρ r fT:=by
    intro t;induction t with
    |var v=>intro e jW he;have wk:=g2 v (jW v (by simp[T.occ]));have wh:r (ρ v)<r x:=aK x (ρ v) ⟨ab,_,v,jv,jW v (by simp[T.occ]),rfl⟩;obtain⟨ai,aV,aS⟩:=tK he.fin.ru (by rw[he.fin.keys];exact wk:v∈cl e.up);obtain⟨N,ax,bf,dS⟩:=bP (ρ v) ai (by omega) (e0 v) (by rw[←he.fin.keys];exact(he.fin.ru.mem (by rw[he.fin.keys];exact wk)).1) (he.sm aS);exact⟨N,ax,fun n au=>by simp only[T.mapO,BF,aV,e6,bf n au,T.ap];rw[←zH e0],dS⟩
    |pair a b dQ dR=>intro e jW he;obtain⟨hM,ai,aV,fW⟩:=dQ e (fun w hw=>jW w (by simp[T.occ,hw])) he;obtain⟨jd,ax,bf,dS⟩:=dR ai (fun w hw=>jW w (by simp[T.occ,hw])) fW;exact⟨max hM jd,ax,fun n au=>by simp only[T.mapO,aV n (by omega),e6,bf n (by omega),kN,T.ap],dS⟩
    |_=>intro e _ he;exact⟨0,e,fun n _=>rfl,he⟩
   obtain⟨N,e,aV,fW⟩:=ae9 (c.shp x) c (fun w h=>h) aI;have kf:gT ph ρ r x=(c.shp x).ap (gT ph ρ r):=zI e0 aK (by rw[ab];exact jv);refine⟨N+1,_,fun n au=>?_,Tx e fW⟩;obtain⟨n',rfl⟩:∃n',n=n'+1:=⟨n-1,by omega⟩;simp only[qp,aO,if_neg af,aV n' (by omega),kN,kf]
def nM(ph:Int→Option T)(ρ:Int→Int)(v:Int):Bool:= !(decide (ρ v=v)&&(ph v).isNone)
theorem ali(gI:oh V ph)(e0:∀v,ρ (ρ v)=ρ v)(aK:∀z u,jb ph ρ z u→r u<r z)(jH:∀v∈V,ρ v∈V):∀(a7:List Int) (c:bo) (out:List Int),(∀v∈a7,v∈V)→(∀d,qB V ph ρ r d c)→out.length≤400→(∀v∈out,(gT ph ρ r v).size≤5000)→
  ∃N cf o,(∀n,N≤n→sq n a7 c out=some (o,cf))∧tY V ph ρ cf∧cf.full=c.full∧(∀l,o=some l→l=out++a7.filter (nM ph ρ)∧l.length≤400∧∀v∈l,(gT ph ρ r v).size≤5000)∧(o=none→¬((out++a7.filter (nM ph ρ)).length≤400∧∀v∈out++a7.filter (nM ph ρ),(gT ph ρ r v).size≤5000)):=by
 intro a7;induction a7 with
 |nil=>intro c out _ hw J U;exact⟨0,c,some out,fun n _=>rfl,(hw 0).fin,rfl,fun l e=>by cases e;simp;exact⟨J,U⟩,fun e=>by cases e⟩
 |cons v a7 bP=>
  intro c out aI hw J U;have wk:=aI v (by simp);obtain⟨bQ,aV,aS⟩:=tK (hw 0).fin.ru (by rw[(hw 0).fin.keys];exact wk:v∈cl c.up);have Ai:∀d,qB V ph ρ r d bQ:=fun d=>(hw d).sm aS;obtain⟨hM,cp,bf,dS,da,ax,s2⟩:=amR gI e0 aK (r (ρ v)+1) (ρ v) bQ (by omega) (e0 v) (jH v wk) (Ai _);have kg:∀d,qB V ph ρ r d cp:=fun d=>⟨dS.fin,fun z aY=>by
   by_cases bm:r z<r (ρ v)+1
   ·exact dS.col z bm
   ·obtain⟨bt,a2⟩:=da.hi z (by omega);rw[bt,a2];exact(Ai d).col z aY⟩
  have Ky:cp.full=c.full:=da.full.trans aS.rest.2.2;have TD:(cp.shd (ρ v)=false)=((ph (ρ v)).isNone=true):=by rw[←dS.fin.ph];unfold bo.ph;cases cp.shd (ρ v)<;>simp
  have jJ:∀n,hM≤n→sq n (v::a7) c out=(if ρ v=v∧cp.shd (ρ v)=false then sq n a7 cp out else if 5000<cp.sz (ρ v)∨400<out.length+1 then some (none,cp)else sq n a7 cp (out++[v])):=fun n au=>by simp only[sq,aV,e6,bf n au,Bool.true_eq_false,if_false]
  have S5:gT ph ρ r (ρ v)=gT ph ρ r v:=(zH e0 v).symm;by_cases ar:ρ v=v∧cp.shd (ρ v)=false
  ·have ae:nM ph ρ v=false:=by have ao:=ar.2;rw[TD]at ao;rw[ar.1]at ao;simp[nM,ar.1,ao]
   obtain⟨jd,ds,o,bI,f3,qo,Io,h1⟩:=bP cp out (fun w hw=>aI w (by simp[hw])) kg J U;refine⟨max hM jd,ds,o,fun n au=>by rw[jJ n (by omega),if_pos ar];exact bI n (by omega),f3,qo.trans Ky,?_,?_⟩
   ·simp only[List.filter_cons,ae,gC,if_false];exact Io
   ·simp only[List.filter_cons,ae,gC,if_false];exact h1
  ·have ae:nM ph ρ v=true:=by
    cases e:nM ph ρ v with
    |true=>rfl
    |false=>simp only[nM,Bool.not_eq_false',cx,fo]at e;exact absurd ⟨e.1,by rw[TD,e.1];exact e.2⟩ ar
   by_cases aq:5000<cp.sz (ρ v)∨400<out.length+1
   ·refine⟨hM,cp,none,fun n au=>by rw[jJ n au,if_neg ar,if_pos aq],dS.fin,Ky,(fun l e=>by cases e),fun _=>?_⟩;simp only[List.filter_cons,ae,if_true];rintro⟨bt,a2⟩;rcases aq with aq|aq
    ·rw[s2,S5]at aq;have:=a2 v (by simp);unfold cut at aq;split at aq<;>omega
    ·simp at bt;omega
   ·have aY:(gT ph ρ r v).size≤5000:=by have:¬5000<cp.sz (ρ v):=fun h=>aq (.inl h);rw[s2,S5]at this;unfold cut at this;split at this<;>omega
    obtain⟨jd,ds,o,bI,f3,qo,Io,h1⟩:=bP cp (out++[v]) (fun w hw=>aI w (by simp[hw])) kg (by simp;omega) (fun w hw=>by
     rcases iH.1 hw with hw|hw
     ·exact U w hw
     ·simp at hw;subst hw;exact aY)
    refine⟨max hM jd,ds,o,fun n au=>by rw[jJ n (by omega),if_neg ar,if_neg aq];exact bI n (by omega),f3,qo.trans Ky,?_,?_⟩
    ·simp only[List.filter_cons,ae,if_true];simpa using Io
    ·simp only[List.filter_cons,ae,if_true];simpa using h1
theorem alj(gI:oh V ph)(e0:∀v,ρ (ρ v)=ρ v)(aK:∀z u,jb ph ρ z u→r u<r z)(jH:∀v∈V,ρ v∈V):∀(a7:List Int) (c:bo),(∀v∈a7,v∈V)→rr V ph ρ r c→∃N cf,∀n,N≤n→yT n a7 c=some (a7.map fun v=>⟨v,gT ph ρ r v⟩,cf):=by
 intro a7;induction a7 with
 |nil=>intro c _ _;exact⟨0,c,fun n _=>rfl⟩
 |cons v a7 bP=>intro c aI hw;have wk:=aI v (by simp);obtain⟨bQ,aV,aS⟩:=tK hw.fin.ru (by rw[hw.fin.keys];exact wk:v∈cl c.up);obtain⟨hM,cp,bf,dS⟩:=amP gI e0 aK (r (ρ v)+1) (ρ v) bQ (by omega) (e0 v) (jH v wk) (hw.sm aS);obtain⟨jd,ds,bI⟩:=bP cp (fun w hw=>aI w (by simp[hw])) dS;refine⟨max hM jd,ds,fun n au=>?_⟩;simp only[yT,aV,e6,bf n (by omega),bI n (by omega),kN,gP];rw[←zH e0]
end
end Go.Pv
namespace Go.Pv
open Go
def bo.new:bo:=⟨[],[],[],[],[],[]⟩
def rb(l:List Int):List Int:=l.mergeSort fun x y=>decide (x≤y)
def Bp(n:Nat)(E:List (T×T)):Option (Option (List ak)):=(pS n E bo.new).bind fun p=>if p.1=false then some none else D6 n (rb (cl p.2.up)) p.2
theorem D9(l:List Int):(rb l).Perm l:=List.mergeSort_perm l _
theorem alx{l:List Int}(h:l.Nodup):(rb l).Pairwise (· < ·):=by have J:(rb l).Pairwise fun x y=>decide (x≤y)=true:=List.pairwise_mergeSort (fun a b c=>by simp;omega) (fun a b=>by simp;omega) l;have U:(rb l).Pairwise (· ≠ ·):=List.nodup_iff_pairwise_ne.1 ((D9 l).nodup_iff.2 h);exact(J.and U).imp fun h=>by simp at h;omega
structure YR (c:bo) (ρ:Int→Int) (cf:bo) (Vk:Int→Prop):Prop where
 inv:lZ cf ρ
 ph:cf.ph=c.ph
 nd:(cl cf.up).Nodup
 sub:∀v∈cl c.up,v∈cl cf.up
 occ:∀v,Vk v→v∈cl cf.up
 rest:cf.color=c.color∧cf.size=c.size∧cf.full=c.full
 new:∀v∈cl cf.up,v∈cl c.up∨Vk v
theorem UW{ρ:Int→Int}(t:T):∀(c:bo),lZ c ρ→(cl c.up).Nodup→(∀v,t.occ v=true→0≤v)→∃cf,AI t c=some cf∧YR c ρ cf fun v=>t.occ v=true:=by
 unfold AI;induction t with
 |var v=>
  intro c hi au bD;by_cases aI:v∈cl c.up
  ·obtain⟨bQ,aV,aS⟩:=tK hi.ru aI;refine⟨bQ,by simp[T.foldO,aV],hi.sm aS,aS.ph,by rw[aS.keys];exact au,fun w hw=>by rw[aS.keys];exact hw,fun w hw=>?_,aS.rest,fun w hw=>.inl (by rw[aS.keys]at hw;exact hw)⟩;simp[T.occ]at hw;subst hw;rw[aS.keys];exact aI
  ·obtain⟨aV,bf,bI⟩:=akS hi.ru (bD v (by simp[T.occ])) aI;refine⟨{c with up:=eX v v c.up},by simp only[T.foldO,aV,kN],⟨bf,?_,hi.sat⟩,rfl,?_,fun w hw=>by rw[bI];simp[hw],fun w hw=>?_,⟨rfl,rfl,rfl⟩,fun w hw=>?_⟩
   ·intro x u ab;obtain⟨bt,a2,a3⟩:=hi.sh x u ab;refine⟨bt,fun w hw=>?_,?_⟩
    ·show w∈cl (eX v v c.up);rw[bI];simp[a2 w hw]
    ·show x∈cl (eX v v c.up);rw[bI];simp[a3]
   ·rw[bI];rw[List.nodup_append];exact⟨au,by simp,fun a bk b ae e=>by simp at ae;subst ae;subst e;exact aI bk⟩
   ·simp[T.occ]at hw;subst hw;rw[bI];simp
   ·rw[bI]at hw;simp at hw;rcases hw with hw|rfl;exact .inl hw;exact .inr (by simp[T.occ])
 |pair a b dQ dR=>
  intro c hi au bD;obtain⟨bQ,aV,m1⟩:=dQ c hi au fun v aI=>bD v (by simp[T.occ,aI]);obtain⟨cp,bf,m2⟩:=dR bQ m1.inv m1.nd fun v aI=>bD v (by simp[T.occ,aI]);refine⟨cp,by simp only[T.foldO,aV,e6,bf],m2.inv,m2.ph.trans m1.ph,m2.nd,fun v aI=>m2.sub v (m1.sub v aI),fun v aI=>?_,?_,fun v aI=>?_⟩
  ·simp only[T.occ,lY]at aI;rcases aI with aI|aI
   ·exact m2.sub v (m1.occ v aI)
   ·exact m2.occ v aI
  ·rw[m2.rest.1,m2.rest.2.1,m2.rest.2.2];exact m1.rest
  ·rcases m2.new v aI with h|h
   ·rcases m1.new v h with h|h
    ·exact .inl h
    ·exact .inr (by simp[T.occ,h])
   ·exact .inr (by simp[T.occ,h])
 |_=>intro c hi au bD;exact⟨c,rfl,hi,rfl,au,fun v aI=>aI,fun v aI=>by simp[T.occ]at aI,⟨rfl,rfl,rfl⟩,fun v aI=>.inl aI⟩
def L6(E:List (T×T)):Prop:= ∀e∈E,∀v,(e.1.occ v=true∨e.2.occ v=true)→0≤v
theorem B7:∀(E:List (T×T)) (c:bo) (ρ:Int→Int),lZ c ρ→(cl c.up).Nodup→L6 E→∃N o,(∀n,N≤n→pS n E c=some o)∧((o.2.color=c.color∧o.2.size=c.size∧o.2.full=c.full)∧∀v∈cl o.2.up,v∈cl c.up∨ ∃e∈E,e.1.occ v=true∨e.2.occ v=true)∧(o.1=true→∃ρ',lZ o.2 ρ'∧(cl o.2.up).Nodup∧∀θ,j5 o.2.ph ρ' θ↔j5 c.ph ρ θ∧iz E θ)∧(o.1=false→∀θ,j5 c.ph ρ θ→¬iz E θ):=by
 intro E;induction E with
 |nil=>intro c ρ hi au _;exact⟨0,(true,c),fun n _=>rfl,⟨⟨rfl,rfl,rfl⟩,fun v aI=>.inl aI⟩,fun _=>⟨ρ,hi,au,fun θ=>⟨fun h=>⟨h,D8 θ⟩,fun h=>h.1⟩⟩,fun e=>by cases e⟩
 |cons e E bP=>
  intro c ρ hi au bD;obtain⟨bQ,aV,m1⟩:=UW e.1 c hi au fun v aI=>bD e (by simp) v (.inl aI);obtain⟨cp,bf,m2⟩:=UW e.2 bQ m1.inv m1.nd fun v aI=>bD e (by simp) v (.inr aI);obtain⟨k8,uO⟩:=m2.inv.sat
  obtain⟨hM,fv,bI,hp⟩:=Z7 _ _ cp ρ e.1 e.2 k8 m2.inv uO (fun w hw=>m2.sub w (m1.occ w hw)) (fun w hw=>m2.occ w hw) rfl rfl;have jv:cp.ph=c.ph:=m2.ph.trans m1.ph;have mB:fv.2.color=c.color∧fv.2.size=c.size∧fv.2.full=c.full:=by rw[hp.rest.1,hp.rest.2.1,hp.rest.2.2,m2.rest.1,m2.rest.2.1,m2.rest.2.2];exact m1.rest
  have FT:∀v∈cl fv.2.up,v∈cl c.up∨e.1.occ v=true∨e.2.occ v=true:=fun v aI=>by
   rw[hp.keys]at aI;rcases m2.new v aI with h|h
   ·rcases m1.new v h with h|h
    ·exact .inl h
    ·exact .inr (.inl h)
   ·exact .inr (.inr h)
  obtain⟨f,ds⟩:=fv;cases f with
  |false=>refine⟨hM,(false,ds),fun n au=>?_,⟨mB,fun v aI=>(FT v aI).imp id fun h=>⟨e,by simp,h⟩⟩,(fun e=>by cases e),fun _ θ af he=>hp.no rfl θ (by rw[jv];exact af) (q9.1 he).1⟩;simp only[pS,aV,bf,e6,bI n au,gC,if_false]
  |true=>
   obtain⟨lz,bt,a2,_⟩:=hp.yes rfl;simp only at bt a2;obtain⟨jd,gH,bM,bO,gg,uh⟩:=bP ds lz bt (by have:=hp.keys;simp only at this;rw[this];exact m2.nd) fun fT he=>bD fT (by simp[he]);refine⟨max hM jd,gH,fun n au=>?_,?_,fun aO=>?_,fun aO θ af he=>?_⟩
   ·simp only[pS,aV,bf,e6,bI n (by omega),if_true];exact bM n (by omega)
   ·refine⟨by rw[bO.1.1,bO.1.2.1,bO.1.2.2];exact mB,fun v aI=>?_⟩;rcases bO.2 v aI with h|⟨fT,J,U⟩
    ·exact(FT v h).imp id fun h=>⟨e,by simp,h⟩
    ·exact .inr ⟨fT,by simp[J],U⟩
   ·obtain⟨ρ2,d1,d2,d3⟩:=gg aO;exact⟨ρ2,d1,d2,fun θ=>by rw[d3 θ,a2 θ,jv,q9,and_assoc]⟩
   ·exact uh aO θ ((a2 θ).2 ⟨by rw[jv];exact af,(q9.1 he).1⟩) (q9.1 he).2
theorem EN{ph:Int→Option T}{ρ:Int→Int}{v:Int}:nM ph ρ v=false↔ρ v=v∧ph v=none:=by simp[nM]
theorem Sv{ph:Int→Option T}{ρ:Int→Int}{r:Int→Nat}(e0:∀v,ρ (ρ v)=ρ v):∀(n:Nat) (v w:Int),(mY ph ρ n v).occ w=true→(∀z u,jb ph ρ z u→r u<r z)→r (ρ v)<n→ρ w=w∧ph w=none
 |0,v,w,_,_,h=>by omega
 |n+1,v,w,h,aK,au=>by
  simp only[mY]at h;cases e:ph (ρ v)with
  |none=>rw[e]at h;simp[T.occ]at h;subst h;exact⟨e0 v,e⟩
  |some t=>rw[e]at h;obtain⟨u,J,U⟩:=yv.1 h;have:=aK (ρ v) (ρ u) ⟨e0 v,t,u,e,J,rfl⟩;exact Sv e0 n u w U aK (by omega)
section
variable {V:List Int} {ph:Int→Option T} {ρ:Int→Int} {r:Int→Nat}
def tL(ph:Int→Option T)(ρ:Int→Int)(r:Int→Nat)(V:List Int):List ak:=((rb V).filter (nM ph ρ)).map fun v=>⟨v,gT ph ρ r v⟩
theorem Nt(au:V.Nodup):hL (tL ph ρ r V):=by unfold tL;rw[hL,List.pairwise_map];exact((alx au).filter _)
theorem Xi(au:V.Nodup)(gI:oh V ph)(dd:∀v,v∉V→ρ v=v)(v:Int):cV (tL ph ρ r V) v=if nM ph ρ v then some (gT ph ρ r v)else none:=by
 by_cases ae:nM ph ρ v=true
 ·rw[if_pos ae];have aI:v∈V:=by
   refine Classical.byContradiction fun h=>?_;have J:=dd v h;have U:ph v=none:=by cases e:ph v with
    |none=>rfl
    |some t=>exact absurd (gI v t e).2.2 h
   rw[EN.2 ⟨J,U⟩]at ae;cases ae
  have:(⟨v,gT ph ρ r v⟩:ak)∈tL ph ρ r V:=hJ.2 ⟨v,ha.2 ⟨(D9 V).mem_iff.2 aI,ae⟩,rfl⟩;exact qE (Nt au) this
 ·rw[if_neg ae];refine sL.2 fun b gd e=>?_;obtain⟨u,J,rfl⟩:=hJ.1 gd;simp only at e;subst e;exact ae (ha.1 J).2
theorem alm(au:V.Nodup)(gI:oh V ph)(dd:∀v,v∉V→ρ v=v)(e0:∀v,ρ (ρ v)=ρ v)(hle:∀v,ρ v≤v)(aK:∀z u,jb ph ρ z u→r u<r z):ey (tL ph ρ r V):=by
 refine⟨Nt au,fun b ae w hw=>?_,fun b ae w hw=>?_⟩
 ·obtain⟨u,J,rfl⟩:=hJ.1 ae;rw[Xi au gI dd];have:=Sv e0 _ u w hw aK (by omega);rw[EN.2 this];rfl
 ·obtain⟨u,J,rfl⟩:=hJ.1 ae;have nj:=(ha.1 J).2;simp only at hw⊢;cases e:ph (ρ u)with
  |none=>
   rw[Ck e]at hw;cases hw;have U:=hle u;have ao:ρ u≠u:=fun h=>by rw[EN.2 ⟨h,by rw[h]at e;exact e⟩]at nj;cases nj
   omega
  |some t=>rw[zI e0 aK e]at hw;have:=(gI _ _ e).1;cases t<;>simp[T.ap,T.kind]at hw this
theorem adY(e0:∀v,ρ (ρ v)=ρ v)(aK:∀z u,jb ph ρ z u→r u<r z)(θ:Int→T):j5 ph ρ θ↔∀v,θ v=(gT ph ρ r v).ap θ:=by
 constructor
 ·intro h;have:∀(n:Nat) (v:Int),r (ρ v)<n→θ v=(gT ph ρ r v).ap θ:=by
   intro n;induction n with
   |zero=>intro v h;omega
   |succ n bP=>
    intro v aI;cases e:ph (ρ v)with
    |none=>rw[Ck e];exact h.1 v
    |some t=>rw[zI e0 aK e,xq,h.1 v,h.2 _ t (e0 v) e];refine pP fun w hw=>bP w ?_;have:=aK (ρ v) (ρ w) ⟨e0 v,t,w,e,hw,rfl⟩;omega
  exact fun v=>this _ v (Nat.lt_succ_self _)
 ·intro h;refine⟨fun v=>by rw[h v,h (ρ v),←zH e0],fun x t ab aL=>?_⟩;rw[h x,zI e0 aK (by rw[ab];exact aL),xq];exact pP fun w _=>(h w).symm
theorem alk(au:V.Nodup)(gI:oh V ph)(dd:∀v,v∉V→ρ v=v)(e0:∀v,ρ (ρ v)=ρ v)(aK:∀z u,jb ph ρ z u→r u<r z)(θ:Int→T):dD (tL ph ρ r V) θ↔j5 ph ρ θ:=by
 rw[adY e0 aK,Xl (Nt au)];refine forall_congr' fun v=>?_;rw[bF,Xi au gI dd];cases e:nM ph ρ v with
 |true=>simp
 |false=>obtain⟨J,U⟩:=EN.1 e;rw[Ck (by rw[J];exact U),J];simp
end
theorem alr(E:List (T×T))(bD:L6 E):∃n o,Bp n E=some o∧iL [] E o∧∀c,pS n E bo.new=some (true,c)→(cl c.up).Nodup∧(∀v∈cl c.up,∃e∈E,e.1.occ v=true∨e.2.occ v=true)∧c.size=[]:=by
 have hi:lZ bo.new id:=⟨⟨fun v u h=>by simp[bo.new,tg]at h,fun v _=>rfl⟩,fun x t h=>by simp[bo.new,bo.ph,bo.shd,tg]at h,⟨.var,fun v=>rfl,fun x t _ h=>by simp[bo.new,bo.ph,bo.shd,tg]at h⟩⟩;have uA:∀θ,j5 bo.new.ph id θ:=fun θ=>⟨fun v=>rfl,fun x t _ h=>by simp[bo.new,bo.ph,bo.shd,tg]at h⟩;obtain⟨hM,fv,aV,cC,da,hp⟩:=B7 E bo.new id hi (by simp[bo.new,cl]) bD;obtain⟨cC,VS⟩:=cC;obtain⟨f,c⟩:=fv;cases f with
 |false=>refine⟨hM,none,by simp[Bp,aV hM (ff _)],EF fun θ _ he=>hp rfl θ (uA θ) he,fun c h=>?_⟩;rw[aV hM (ff _)]at h;cases h
 |true=>
  obtain⟨ρ,bt,a2,a3⟩:=da rfl;simp only at bt a2 a3 cC VS;have SZ:∀n,hM≤n→∀cf,pS n E bo.new=some (true,cf)→(cl cf.up).Nodup∧(∀v∈cl cf.up,∃e∈E,e.1.occ v=true∨e.2.occ v=true)∧cf.size=[]:=fun n au cf h=>by rw[aV n au]at h;cases h;exact⟨a2,fun v aI=>(VS v aI).resolve_left (by simp[bo.new,cl]),cC.2.1⟩
  obtain⟨r,aK⟩:=bt.rank;have e0:=bt.ru.idem;have jH:∀v∈cl c.up,ρ v∈cl c.up:=fun v aI=>(bt.ru.mem aI).1;have dz:tY (cl c.up) c.ph ρ c:=⟨bt.ru,rfl,rfl⟩;have hw:∀d,qB (cl c.up) c.ph ρ r d c:=fun d=>⟨dz,fun z _=>.inl (by simp[bo.col,cC.1,bo.new,tg])⟩;obtain⟨jd,cp,o,bM,bO,gg,uh,OP⟩:=ali bt.sh e0 aK jH (rb (cl c.up)) c [] (fun v aI=>(D9 _).mem_iff.1 aI) hw (by simp) (fun v aI=>by simp at aI);have c4:=alm (r:=r) a2 bt.sh bt.ru.no e0 bt.ru.le aK;have kc:∀θ,dD (tL c.ph ρ r (cl c.up)) θ↔dD [] θ∧iz E θ:=fun θ=>by rw[alk a2 bt.sh bt.ru.no e0 aK,a3 θ];exact⟨fun h=>⟨fun b ae=>by simp at ae,h.2⟩,fun h=>⟨uA θ,h.2⟩⟩
  have S1:gu (tL c.ph ρ r (cl c.up))↔(([]++(rb (cl c.up)).filter (nM c.ph ρ)).length≤400∧∀v∈[]++(rb (cl c.up)).filter (nM c.ph ρ),(gT c.ph ρ r v).size≤5000):=by unfold gu tL;simp only[List.length_map,bY,hJ,forall_exists_index,and_imp,forall_apply_eq_imp_iff₂]
  cases o with
  |none=>refine⟨max hM jd,none,by simp[Bp,aV (max hM jd) (by omega),D6,bM (max hM jd) (by omega)],?_,SZ _ (by omega)⟩;exact fun s' J U ao=>OP rfl (S1.1 (RS c4 J (fun θ fF=>(kc θ).2 (U θ fF)) ao))
  |some l=>
   obtain⟨ai,ax,bn⟩:=uh l rfl;have afS:rr (cl c.up) c.ph ρ r cp:=⟨bO,fun x t h=>by rw[gg,cC.2.2]at h;simp[bo.new,tg]at h⟩;simp only[bY]at ai;obtain⟨za,ds,d1⟩:=alj bt.sh e0 aK jH l cp (fun v aI=>by rw[ai]at aI;exact(D9 _).mem_iff.1 (ha.1 aI).1) afS;refine⟨max (max hM jd) za,some (tL c.ph ρ r (cl c.up)),?_,⟨⟨c4,S1.2 ?_⟩,kc⟩,SZ _ (by omega)⟩
   ·simp only[Bp,aV (max (max hM jd) za) (by omega),e6,Bool.true_eq_false,if_false,D6,bM (max (max hM jd) za) (by omega),d1 (max (max hM jd) za) (by omega),kN];rw[ai];rfl
   ·rw[bY,←ai];exact⟨ax,bn⟩
def eB(s:List ak):List (T×T):=s.map fun b=>(.var b.v,b.t)
theorem vm{s:List ak}{θ:Int→T}:iz (eB s) θ↔dD s θ:=by simp[iz,eB,dD,T.ap]
theorem Y0{s:List ak}{E:List (T×T)}{o:Option (List ak)}:iL [] (eB s++E) o↔iL s E o:=by
 have h:∀θ,(dD [] θ∧iz (eB s++E) θ)↔(dD s θ∧iz E θ):=fun θ=>by rw[D7,vm];exact⟨fun h=>h.2,fun h=>⟨fun b ae=>by simp at ae,h⟩⟩
 exact⟨vA h,vA fun θ=>(h θ).symm⟩
end Go.Pv
namespace Go.Pv
open Go
open Classical in
noncomputable def mgu(s:List ak)(E:List (T×T)):Option (List ak):=if h:∃o,iL s E o then h.choose else none
theorem nU{s:List ak}{E:List (T×T)}{o:Option (List ak)}(h:iL s E o):mgu s E=o:=by have ab:∃o,iL s E o:=⟨o,h⟩;unfold mgu;rw[dif_pos ab];exact Y1 ab.choose_spec h
def pC(s:List ak):Prop:= ∀b∈s,(0≤b.v∧b.v≤100000)∧b.t.ok=true
theorem OH{θ:Int→T}{t:T}(aL:t.ok=true)(h:∀v,t.occ v=true→(θ v).ok=true):(t.ap θ).ok=true:=by
 induction t with
 |var n=>exact h n (by simp[T.occ])
 |pair a b dQ dR=>simp only[T.ok,cx]at aL;simp only[T.ap,T.ok,cx];exact⟨dQ aL.1 fun v aI=>h v (by simp[T.occ,aI]),dR aL.2 fun v aI=>h v (by simp[T.occ,aI])⟩
 |_=>exact aL
theorem xc{t:T}(aL:t.ok=true){v:Int}(h:t.occ v=true):0≤v∧v≤100000:=by
 induction t with
 |var n=>simp[T.occ]at h;subst h;simpa[T.ok]using aL
 |pair a b dQ dR=>
  simp only[T.ok,cx]at aL;simp only[T.occ,lY]at h;rcases h with h|h
  ·exact dQ aL.1 h
  ·exact dR aL.2 h
 |_=>simp[T.occ]at h
theorem D2{s:List ak}(af:pC s){t:T}(aL:t.ok=true):(t.ap (bF s)).ok=true:=OH aL fun v aI=>by
 unfold bF;cases e:cV s v with
 |none=>have:=xc aL aI;simpa[T.ok]using this
 |some x=>exact(af _ (jS e)).2
theorem BW{s:List ak}(af:pC s){v:Int}{t:T}(aI:0≤v∧v≤100000)(aL:t.ok=true){s':List ak}(h:nL s v t=some s'):pC s':=by
 unfold nL at h;split at h
 ·cases h;intro b ae;rcases qb.1 ae with rfl|⟨c,ar,rfl⟩
  ·exact⟨aI,D2 af aL⟩
  ·refine⟨(af c ar).1,OH (af c ar).2 fun w hw=>?_⟩;unfold one;split
   ·exact D2 af aL
   ·have:=xc (af c ar).2 hw;simpa[T.ok]using this
 ·cases h
theorem Yr{s:List ak}(af:pC s){t:T}(aL:t.ok=true):(hs s t).ok=true:=by
 cases t with
 |var n=>have:=D2 af aL;simpa[hs,T.ap]using this
 |_=>exact aL
theorem NN:∀(n:Nat) (s:List ak) (a b:T) (s':List ak),pC s→a.ok=true→b.ok=true→kL n s a b=some (some s')→pC s'
 |0,_,_,_,_,_,_,_,h=>by simp[kL]at h
 |n+1,s,a,b,s',af,bk,ae,h=>by
  have ab:=Yr af bk;have aD:=Yr af ae;simp only[kL]at h;generalize hs s a=x at h ab;generalize hs s b=y at h aD;have wm:∀{i:Int},(T.var i).ok=true→0≤i∧i≤100000:=fun h=>xc h (by simp[T.occ]);cases x with
  |var i=>
   cases y with
   |var j=>
    simp only[j3,dw]at h;split at h
    ·exact BW af (wm aD) ab h
    ·split at h
     ·cases h;exact af
     ·exact BW af (wm ab) aD h
   |_=>simp only[j3,dw]at h;exact BW af (wm ab) aD h
  |pair bt a2=>
   cases y with
   |var j=>simp only[j3,dw]at h;exact BW af (wm aD) ab h
   |pair bM bO=>
    simp only[T.ok,cx]at ab aD;simp only[j3]at h;split at h
    ·cases h
    ·cases h
    ·rename_i s1 ai;exact NN n s1 a2 bO s' (NN n s bt bM s1 af ab.1 aD.1 ai) ab.2 aD.2 h
   |_=>simp[j3]at h
  |_=>
   cases y with
   |var j=>simp only[j3,dw]at h;exact BW af (wm aD) ab h
   |_=>
    simp only[j3,dw]at h;split at h
    ·cases h;exact af
    ·cases h
def nD:T→List Int
 | .var n=>[n]
 | .pair a b=>nD a++nD b
 |_=>[]
theorem yq{t:T}{v:Int}(h:t.occ v=true):v∈nD t:=by
 induction t with
 |var n=>simp[T.occ]at h;subst h;simp[nD]
 |pair a b dQ dR=>simp only[T.occ,lY]at h;simp only[nD,iH];exact h.imp dQ dR
 |_=>simp[T.occ]at h
theorem H7{s:List ak}(af:ey s)(aO:gu s)(a b:T):∃n o,kL n s a b=some o∧iL s [(a,b)] o:=by obtain⟨n,o,J,U⟩:=XD (s.flatMap (fun b=>b.v::nD b.t)++nD a++nD b) _ _ s a b af aO (fun c ar=>⟨by simp only[iH,List.mem_flatMap];exact .inl (.inl ⟨c,ar,by simp⟩),fun w hw=>by simp only[iH,List.mem_flatMap];exact .inl (.inl ⟨c,ar,by simp[yq hw]⟩)⟩) (fun w hw=>by simp[yq hw]) (fun w hw=>by simp[yq hw]) rfl rfl;exact⟨n,o,J,U.1⟩
theorem Ou{s:List ak}{e:T×T}{E:List (T×T)}{s1:List ak}(h:iL s [e] (some s1)){o:Option (List ak)}(U:iL s1 E o):iL s (e::E) o:=ID (E:=[e]) h U
theorem tB{s:List ak}(af:ey s)(aO:gu s)(E:List (T×T)):iL s E (mgu s E):=by
 induction E generalizing s with
 |nil=>rw[nU (IE af aO)];exact IE af aO
 |cons e E bP=>
  obtain⟨n,o,_,U⟩:=H7 af aO e.1 e.2;cases o with
  |none=>have ao:iL s (e::E) none:=EG E U;rw[nU ao];exact ao
  |some s1=>have ao:=Ou U (bP U.1.1 U.1.2);rw[nU ao];exact ao
theorem Dl{s:List ak}(af:ey s)(aO:gu s):mgu s []=some s:=nU (IE af aO)
theorem LW{s:List ak}(af:ey s)(aO:gu s)(e:T×T)(E:List (T×T)):mgu s (e::E)=match mgu s [e]with|some s1=>mgu s1 E|none=>none:=by
 have J:=tB af aO [e];cases h:mgu s [e]with
 |none=>rw[h]at J;have ao:iL s (e::E) none:=EG E J;exact nU ao
 |some s1=>rw[h]at J;exact nU (Ou J (tB J.1.1 J.1.2 E))
theorem q5{s:List ak}(af:ey s)(aO:gu s){E:List (T×T)}{s':List ak}(h:mgu s E=some s'):ey s'∧gu s':=by have J:=tB af aO E;rw[h]at J;exact J.1
theorem ahp{s:List ak}(af:ey s)(aO:gu s)(av:pC s){E:List (T×T)}(dk:∀e∈E,e.1.ok=true∧e.2.ok=true){s':List ak}(h:mgu s E=some s'):pC s':=by
 induction E generalizing s with
 |nil=>rw[Dl af aO]at h;cases h;exact av
 |cons e E bP=>
  rw[LW af aO]at h;split at h
  ·rename_i s1 J;obtain⟨n,o,U,ao⟩:=H7 af aO e.1 e.2;have a1:=nU ao;rw[J]at a1;subst a1;exact bP ao.1.1 ao.1.2 (NN n s e.1 e.2 s1 av (dk e (by simp)).1 (dk e (by simp)).2 U) (fun fT he=>dk fT (by simp[he])) h
  ·cases h
theorem Un{l:List Int}(au:l.Nodup)(h:∀v∈l,0≤v∧v≤100000):l.length≤100001:=by
 have J:(l.map Int.toNat).Nodup:=by rw[List.nodup_iff_pairwise_ne,List.pairwise_map];exact am4 (fun{a b} bk ae cD e=>cD (by have:=h a bk;have:=h b ae;omega)) au
 have:=Iq J (l₂:=List.range 100001) (fun x ab=>by obtain⟨v,aI,rfl⟩:=hJ.1 ab;have:=h v aI;simp;omega)
 simpa using this
end Go.Pv
namespace Go.Proofs.YtohaalphocaebaaGreat
open Go Go.Pv
theorem Nv(p:Nat→Bool)(n:Nat)(hm:∀k k',k≤k'→k'<n→p k=true→p k'=true):∀(m i j:Nat),j-i≤m→i≤j→j≤n→(∀k,k<i→p k=false)→(∀k,j≤k→k<n→p k=true)→
  (i≤mh p i j∧mh p i j≤j)∧(∀k,k<mh p i j→p k=false)∧(∀k,mh p i j≤k→k<n→p k=true)
 |m,i,j,aE,l8,ag,J,U=>by
  rw[mh];split
  ·rename_i bm;obtain⟨m,rfl⟩:∃m',m=m'+1:=⟨m-1,by omega⟩;split
   ·rename_i bB;have:=Nv p n hm m i ((i+j)/2) (by omega) (by omega) (by omega) J (fun k ad FT=>hm _ k ad FT bB);exact⟨⟨this.1.1,by omega⟩,this.2⟩
   ·rename_i bB;have:=Nv p n hm m ((i+j)/2+1) j (by omega) (by omega) ag (fun k ad=>by
     by_cases mz:p k=true
     ·exact absurd (hm k ((i+j)/2) (by omega) (by omega) mz) bB
     ·simpa using mz) U
    exact⟨⟨by omega,this.1.2⟩,this.2⟩
  ·obtain rfl:i=j:=by omega
   exact⟨⟨ff _,ff _⟩,J,U⟩
theorem Mt{l:List ak}(af:hL l)(v:Int):sg l v=cV l v:=by
 have bm:∀(i j:Nat) (x y:ak),i<j→l[i]? =some x→l[j]? =some y→x.v<y.v:=by intro i j x y l8 ab aD;obtain⟨J,rfl⟩:=fU.1 ab;obtain⟨U,rfl⟩:=fU.1 aD;exact pK.1 af i j J U l8
 obtain⟨p,bB⟩:∃p:Nat→Bool,p=(fun i=>match l[i]? with|some b=>decide (v≤b.v)|none=>false):=⟨_,rfl⟩;have F1:∀i b,l[i]? =some b→p i=decide (v≤b.v):=fun i b ae=>by rw[bB];simp[ae]
 have hm:∀k k',k≤k'→k'<l.length→p k=true→p k'=true:=by
  intro k k' ad mz h;have ai:l[k]? =some l[k]:=cb (by omega);have ax:l[k']? =some l[k']:=cb mz;rw[F1 k _ ai]at h;rw[F1 k' _ ax];simp only[fo]at h⊢;rcases Nat.lt_or_eq_of_le ad with wc|rfl
  ·have:=bm k k' _ _ wc ai ax;omega
  ·exact h
 obtain⟨⟨_,hle⟩,hbef,haft⟩:=Nv p l.length hm l.length 0 l.length (by omega) (by omega) (ff _) (fun k ad=>by omega) (fun k J U=>by omega);have Kw:mZ l v=(match l[mh p 0 l.length]? with|some b=>if b.v=v then((mh p 0 l.length:Nat):Int)else-1|none=> -1):=by rw[bB];rfl
 generalize mh p 0 l.length=r at hle hbef haft Kw;by_cases hex:∃(k:Nat) (b:ak),l[k]? =some b∧b.v=v
 ·obtain⟨k,b,ae,SI⟩:=hex;have iC:k<l.length:=(fU.1 ae).1;have gz:r≤k:=by
   rcases Nat.lt_or_ge k r with h|h
   ·have:=hbef k h;rw[F1 k b ae]at this;simp at this;omega
   ·exact h
  have aK:l[r]? =some l[r]:=cb (by omega);have Aa:=haft r (ff _) (by omega);rw[F1 r _ aK]at Aa;simp only[fo]at Aa;have z8:r=k:=by
   rcases Nat.lt_or_eq_of_le gz with h|h
   ·have:=bm r k _ _ h aK ae;omega
   ·exact h
  subst z8;have Kz:mZ l v=r:=by rw[Kw,ae];simp[SI]
  have J:sg l v=some b.t:=by unfold sg;rw[Kz,if_neg (by omega)];simp[ae]
  have U:l.find? (fun b=>b.v==v)=some b:=by
   rw[List.find?_eq_some_iff_getElem];refine⟨by simp[SI],r,iC,?_,fun j ag=>?_⟩
   ·rw[cb iC]at ae;simpa using ae
   ·have:=bm j r l[j] b ag (cb (by omega)) ae;simp;omega
  rw[J];simp[cV,U]
 ·have U:l.find? (fun b=>b.v==v)=none:=by rw[List.find?_eq_none];intro b ae;obtain⟨k,ad,rfl⟩:=List.mem_iff_getElem.1 ae;simp;intro e;exact hex ⟨k,l[k],cb ad,e⟩
  have Kz:mZ l v= -1:=by
   rw[Kw];split
   ·rename_i b ae;rw[if_neg (fun e=>hex ⟨r,b,ae,e⟩)]
   ·rfl
  unfold sg;rw[Kz];simp[cV,U]
theorem RY{l:List ak}(af:hL l)(v:Int):mZ l v<0↔cV l v=none:=by
 rw[←Mt af v];unfold sg;have J:=RX l v;by_cases h:mZ l v<0
 ·simp[h]
 ·simp only[h,if_false,false_iff];intro e;rw[Option.map_eq_none_iff,List.getElem?_eq_none_iff]at e;omega
def zD(s:List ak):Prop:= ∀b∈s,b.t.fit=true
theorem ac8{l:List ak}(af:hL l)(h:zD l)(v:Int):uv l v=(bF l v).size:=by
 unfold uv bF;rw[Mt af];cases ae:cV l v with
 |none=>simp[T.size]
 |some x=>have:=h _ (jS ae);simp only[T.fit,cx,fo]at this;simp only[jr];rw[GU,if_pos ⟨this.1,by omega⟩]
theorem alg{l:List ak}(af:hL l)(h:zD l)(t:T):lu (uv l) t=cut (t.ap (bF l)).size:=by
 induction t with
 |var n=>simp only[lu,ac8 af h,T.ap];rfl
 |pair a b dQ dR=>have ae:=T.size_pos (b.ap (bF l));simp only[lu,dQ,dR,T.ap,T.size];unfold cut;(repeat' split)<;>omega
 |_=>simp[lu,T.ap,T.size,cut]
theorem ajV{l:List ak}(af:hL l)(h:zD l)(t:T):tG l t=decide ((t.ap (bF l)).size≤5000):=by unfold tG;rw[alg af h];unfold cut;split<;>simp<;>omega
theorem ajW{l:List ak}(af:hL l)(t:T):DH l t=t.ap (bF l):=by unfold DH;rw[Xu];exact pP fun v _=>by rw[Mt af];rfl
theorem Ii(l:List ak)(t:T)(aq:l.length≤1000000)(af:hL l)(h:zD l):bS az 95 [.slice 5 .no (l.map ak.e),t.e] (.tuple [(if(t.ap (bF l)).size≤5000 then t.ap (bF l)else .nil).e,.bool (decide ((t.ap (bF l)).size≤5000))]):=by have:=amD l t aq;rw[ajV af h,ajW af]at this;simpa using this
@[simp] def aqJ:List bA:=[.tmp 4]
@[simp] def aqK:List bA:=[.tmp 4]
@[simp] def aqQ:List bA:=[.tmp 4]
@[simp] def aqv:List bA:=[.tmp 4]
@[simp] def aqX:List bA:=[.tmp 4]
@[simp] def aqx:List bA:=[.tmp 4]
@[simp] def aq3:List bA:=[.tmp 4,.tmp 5]
@[simp] def aqD:List bA:=[.tmp 4,.tmp 5]
@[simp] def aqI:List bA:=[.tmp 2]
@[simp] def aqZ:List bA:=[.tmp 6,.tmp 7]
@[simp] def aqE:List bA:=[.tmp 6]
@[simp] def aqG:List bA:=[]
@[simp] def aqH:List bA:=[.tmp 5]
def Df(l:List (Int×T)):List ah:=jL (l.map fun x=>(x.1,x.2.e))
@[simp] theorem apR:Df []=jL []:=rfl
@[simp] theorem aq5(m:aJ)(l:List (Int×T)):wW m (Df l)=some (cn l.length [] m):=by simp[Df]
@[simp] theorem aqm(l:List (Int×T)):h2 (Df l)=false:=rfl
@[simp] theorem ap7(f:aJ→Option (List ah))(m:aJ)(l:List (Int×T))(hm:f m=some (Df l)):u3 f (.gmap m)=some (True,.int .i64 l.length):=by have:=ahz f m _ hm;simpa using this
def ak1(x:Int×T):Bool:= !(decide (x.2= .var x.1))
end Go.Proofs.YtohaalphocaebaaGreat
namespace Go.Proofs
open Go.Shelf
def Tryz.lays191_ren:Go.Shelf.Ren:=⟨fun|191=>242|189=>272|125=>209|257=>283|128=>258|129=>259|294=>286|295=>287|296=>288|297=>289|298=>290|299=>291|216=>292|300=>293|301=>294|328=>296|329=>297|330=>298|331=>299|332=>300|215=>301|343=>302|n=>n,fun|28=>112|0=>0|3=>3|46=>163|51=>254|53=>256|4=>4|183=>277|182=>276|131=>246|5=>5|9=>9|218=>282|222=>269|228=>285|229=>273|n=>n,fun|n=>n⟩
theorem Tryz.lays191:Go.Proofs.Lays.n191 az Tryz.lays191_ren:={
 mixed:=by kernel_rfl
 f125:=Tryz.func209.trans (eU some (by kernel_rfl))
 f128:=Tryz.func258.trans (eU some (by kernel_rfl))
 f129:=Tryz.func259.trans (eU some (by kernel_rfl))
 f189:=Tryz.func272.trans (eU some (by kernel_rfl))
 f191:=Tryz.func242.trans (eU some (by kernel_rfl))
 f215:=Tryz.func301.trans (eU some (by kernel_rfl))
 f216:=Tryz.func292.trans (eU some (by kernel_rfl))
 f257:=Tryz.func283.trans (eU some (by kernel_rfl))
 f294:=Tryz.func286.trans (eU some (by kernel_rfl))
 f295:=Tryz.func287.trans (eU some (by kernel_rfl))
 f296:=Tryz.func288.trans (eU some (by kernel_rfl))
 f297:=Tryz.func289.trans (eU some (by kernel_rfl))
 f298:=Tryz.func290.trans (eU some (by kernel_rfl))
 f299:=Tryz.func291.trans (eU some (by kernel_rfl))
 f300:=Tryz.func293.trans (eU some (by kernel_rfl))
 f301:=Tryz.func294.trans (eU some (by kernel_rfl))
 f328:=Tryz.func296.trans (eU some (by kernel_rfl))
 f329:=Tryz.func297.trans (eU some (by kernel_rfl))
 f330:=Tryz.func298.trans (eU some (by kernel_rfl))
 f331:=Tryz.func299.trans (eU some (by kernel_rfl))
 f332:=Tryz.func300.trans (eU some (by kernel_rfl))
 f343:=Tryz.func302.trans (eU some (by kernel_rfl))
 t0:=Tryz.underlying0
 a0:=Tryz.isAgg0
 z0:=Tryz.sizeOf0
 v0:=Tryz.zeroValue0
 t3:=Tryz.underlying3
 a3:=Tryz.isAgg3
 z3:=Tryz.sizeOf3
 v3:=Tryz.zeroValue3
 t4:=Tryz.underlying4
 a4:=Tryz.isAgg4
 z4:=Tryz.sizeOf4
 v4:=Tryz.zeroValue4
 t5:=Tryz.underlying5
 a5:=Tryz.isAgg5
 z5:=Tryz.sizeOf5
 v5:=Tryz.zeroValue5
 t9:=Tryz.underlying9
 a9:=Tryz.isAgg9
 z9:=Tryz.sizeOf9
 v9:=Tryz.zeroValue9
 t28:=Tryz.underlying112
 a28:=Tryz.isAgg112
 z28:=Tryz.sizeOf112
 v28:=Tryz.zeroValue112
 t46:=Tryz.underlying163
 a46:=Tryz.isAgg163
 z46:=Tryz.sizeOf163
 v46:=Tryz.zeroValue163
 t51:=Tryz.underlying254
 a51:=Tryz.isAgg254
 z51:=Tryz.sizeOf254
 v51:=Tryz.zeroValue254
 t53:=Tryz.underlying256
 a53:=Tryz.isAgg256
 z53:=Tryz.sizeOf256
 v53:=Tryz.zeroValue256
 t131:=Tryz.underlying246
 a131:=Tryz.isAgg246
 z131:=Tryz.sizeOf246
 v131:=Tryz.zeroValue246
 t182:=Tryz.underlying276
 a182:=Tryz.isAgg276
 z182:=Tryz.sizeOf276
 v182:=Tryz.zeroValue276
 t183:=Tryz.underlying277
 a183:=Tryz.isAgg277
 z183:=Tryz.sizeOf277
 v183:=Tryz.zeroValue277
 t218:=Tryz.underlying282
 a218:=Tryz.isAgg282
 z218:=Tryz.sizeOf282
 v218:=Tryz.zeroValue282
 t222:=Tryz.underlying269
 a222:=Tryz.isAgg269
 z222:=Tryz.sizeOf269
 v222:=Tryz.zeroValue269
 t228:=Tryz.underlying285
 a228:=Tryz.isAgg285
 z228:=Tryz.sizeOf285
 v228:=Tryz.zeroValue285
 t229:=Tryz.underlying273
 a229:=Tryz.isAgg273
 z229:=Tryz.sizeOf273
 v229:=Tryz.zeroValue273}
end Go.Proofs

namespace Go.Proofs.YtohaalphocaebaaGreat
open Go Go.Pv
def eu(xs:List Int):List ah:=xs.map (ah.int .i64)
theorem WY{w:World}{ν:a8}:∀{xs:List Int} {us:List Value},dA w ν 1 (eu xs) us→us=xs.map (Value.int .i64)
 |[],us,h=>by simpa[eu,dA]using h
 |x::xs,us,h=>by simp only[eu,gP,dA]at h;obtain⟨u,b8,rfl,⟨J,_,_⟩,U⟩:=h;simp only[a6]at J;subst J;rw[WY U];rfl
theorem T3(w:World)(ν:a8):∀xs:List Int,dA w ν 1 (eu xs) (xs.map (Value.int .i64))
 |[]=>by simp[eu,dA]
 |x::xs=>by simp only[eu,gP,dA];exact⟨.int .i64 x,_,rfl,⟨by simp[a6],rfl,by intro c ar;simp[oY]at ar;subst ar;rfl⟩,T3 w ν xs⟩
def mT(K:Nat)(xs:List Int):cI:=⟨[],[(.obj K,⟨xs.length,3,1,some (eu xs)⟩)]⟩
theorem tt(S:aJ→Prop)(xs:List Int):aN S (eu xs):=by
 induction xs with
 |nil=>simp[eu,aN]
 |cons x r bP=>simp only[eu,gP,aN,aH];exact⟨trivial,bP⟩
theorem Ix(K:Nat)(xs:List Int):dL (mT K xs):=by unfold mT;refine dL.of ⟨by intro m;simp[Pv.look],by intro m;simp[Pv.look]⟩ (by simp) ?_;intro x ab ys aD;simp at ab;subst ab;simp at aD;subst aD;exact tt _ xs
def ra(xs:List Int):List Int:=xs.mergeSort fun x y=>decide (x≤y)
theorem Xn(xs:List Int):(ra xs).length=xs.length:=List.length_mergeSort xs
theorem adP(K:Nat)(xs:List Int)(aq:xs.length≤1000000):bC az 242 [.row 1 (.obj K) xs.length] (mT K xs) fun r s'=>r= .tuple []∧s'=mT K (ra xs):=by
 refine bC.sem (Ix K xs).obj fun w ν a7 kC aK=>?_;refine .inl ⟨⟨Tryz.f242,Tryz.func242,by kernel_rfl,by kernel_rfl⟩,?_⟩;have rX:=aK.slot 0;simp only[jP,Pv.get,if_true]at rX;have kV:Pv.look (.obj K) (mT K xs).e=some ⟨xs.length,3,1,some (eu xs)⟩:=by simp[mT,Pv.look]
 obtain⟨v,us,aV,bf,bI,cN⟩:=aK.good.own (.obj K) _ kV;obtain⟨c6,nV,va⟩:=cN _ rfl;have qZ:=WY nV;subst qZ;simp only[a6]at rX;obtain⟨⟨rv,ZG,rM⟩,_,n',u,ai,ax,bn⟩:=rX;rw[aV]at ai;simp only[dw,jB]at ai;obtain⟨rfl,rfl⟩:=ai;have aI:=bn rfl;have afQ:a7= #[v]:=by
  have J:a7.size=1:=by simpa using kC
  apply Array.ext (by simpa using J);intro i U ao;simp at ao;subst ao;rw[←aI];simp[Array.getD,J]
 have cD:v≠ .slice none 0 0:=by rw[←aI,rM];simp
 obtain⟨g,cap,rfl,_,qR,oA,aeK,CB,Cq⟩:=Lib.holds_of_ownsRow bf cD;have ar:=Any.sort_Ints Tryz.lays191 g 0 cap xs w Cq qR (by omega);subst afQ;refine ar.mono ?_;rintro e w' ⟨rfl,n,os,rfl⟩;have p0:=Xn xs;have lN:=Lib.ownsRow_putRow (q:=n) (k:=xs.length) (ys:=ra xs) bf p0 (ff _);rw[hb (by omega)]at lN;obtain⟨cC,da,_⟩:=aK.setRowM (w':=Sort.putRow (Value.int .i64) (Sort.ahead w n) g 0 (ra xs).toArray) kV rfl aV (bl:=g) rfl (v':= .slice (some ⟨g,0,none⟩) xs.length cap) rfl (xs':=eu (ra xs)) (us:=(ra xs).map (Value.int .i64)) (.inl ⟨by simp[eu,p0],rfl⟩) rfl rfl rfl
  (fun j ag=>by simp[Sort.putRow,Sort.mapBlock,Sort.ahead,Array.getElem?_modify,la ag]) (by simp[Sort.putRow,Sort.mapBlock,Sort.ahead]) (by simpa[eu,p0]using lN) (T3 _ _ _)
 have hp:=cC.grown (w':=Sort.grow (Sort.putRow (Value.int .i64) (Sort.ahead w n) g 0 (ra xs).toArray) os) ⟨rfl,rfl,rfl,by simp,fun k ad _=>Sort.heap_grow_old _ _ ad⟩;refine⟨_,_,_,_,.tuple [],mT K (ra xs),rfl,hp,by simp[a6,cK],by simp[mT,kY],?_,?_,?_,(Ix K _).obj,by simp[aH,aN],rfl,rfl⟩
 ·simp[mT,kY,inObs,Pv.look]
 ·intro k cs ad;simp[mT,Pv.look]at ad
 ·intro k o ad;have hm:=tv ad;simp[mT]at hm;obtain⟨rfl,rfl⟩:=hm;refine⟨by simp[mT,Pv.look,cu,eu,p0],.inr (by simp[ad]),fun ys aD=>?_⟩;simp at aD;subst aD;exact tt _ _
def kr(l:List Int):List ah:=jL (l.map fun x=>(x,.bool true))
theorem mG(S:aJ→Prop)(l:List Int):aN S (kr l):=by
 have:∀l:List Int,aN S (ku (l.map fun x=>(x,.bool true))):=by
  intro l;induction l with
  |nil=>simp[ku,aN]
  |cons x r bP=>simp[ku,aN,bP,aH]
 simp[kr,jL,aN,this,aH]
def IG(v:Int)(l:List Int):List Int:=if v∈l then l else l++[v]
theorem OL(k:Int):∀l:List Int,o3 k (.bool true) (l.map fun x=>(x,ah.bool true))=if k∈l then some (l.map fun x=>(x,ah.bool true))else none
 |[]=>rfl
 |i::r=>by
  by_cases h:k=i
  ·simp[o3,h]
  ·by_cases U:k∈r<;>simp[o3,h,U,OL k r]
@[simp] theorem ap8(k:Int)(l:List Int):oO .i (.int .i64 k) (.bool true) (kr l)=some (kr (IG k l)):=by
 simp only[kr,Vd,EK,OL,IG];split<;>rename_i h
 ·split at h
  ·simp at h;subst h;simp[*]
  ·cases h
 ·split at h
  ·cases h
  ·simp[*]
@[simp] theorem anj:kr []=jL []:=rfl
@[simp] theorem aqk(l:List Int):h2 (kr l)=false:=rfl
@[simp] theorem aq4(m:aJ)(l:List Int):wW m (kr l)=some (cn l.length [] m):=by simp[kr]
theorem ahe(f:aJ→Option (List ah))(fp mk:aJ)(n:Nat)(seen:List Nat)(b:Nat)(l:List Int)(x:Int)(hi:f fp=some (cn n (seen++[b]) mk))(hm:f mk=some (kr l))(au:n=l.length)(ab:l[b]? =some x):pz f (.ptr fp 0)=some (True,.tuple [.int .i64 x,.bool true]):=by rw[UY f fp mk n seen b _ hi hm (by simpa using au)];simp[ab]
theorem aac{st:bh}{d:Nat}{K:bh→Prop}{fp mk:aJ}{n:Nat}{seen:List Nat}{l:List Int}(hi:Pv.look fp st.b=some (cn n seen mk))(hm:Pv.look mk st.b=some (kr l))(au:n=l.length)
  (J:(∀b,b<l.length→b∈seen)→K {st with t:=Pv.put d (.tuple [.bool false]) st.t}) (U:∀b x,l[b]? =some x→b∉seen→K {st with t:=Pv.put d (.tuple [.bool true,.int .i64 x,.bool true]) st.t,b:=cu fp (cn n (seen++[b]) mk) st.b}):
  sT st d (.ptr fp 0) K:=by
 refine Ru hi hm (by simpa using au) (fun h=>J fun b ae=>h b (by omega)) (fun b k v ae af=>?_);simp only[List.getElem?_map,gr]at ae;obtain⟨x,ai,ax⟩:=ae;simp only[jB]at ax;obtain⟨rfl,rfl⟩:=ax;exact U b x ai af
def _root_.Go.Pv.T.fold{α:Type}(f:Int→α→α):T→α→α
 | .var n,a=>f n a
 | .pair x y,a=>y.fold f (x.fold f a)
 |_,a=>a
theorem Sa{α:Type}(S:α→cI)(c4:∀a,dL (S a))(eF:∀a b,Same (S a) (S b))(g:Nat)(dj:List ah)(ar:∀a,aN (inObs (S a)) dj)(c8:di dj=dj)(f:Int→α→α)(aO:∀v a,bC az g (.int .i64 v::dj) (S a) fun r s'=>r= .tuple []∧s'=S (f v a))(t:T):
  ∀a,bC az 129 [t.e,.func g dj] (S a) fun r s'=>r= .tuple []∧s'=S (t.fold f a):=by
 have au:∀a m,Pv.look (.loc m) (S a).b=none:=fun a=>(c4 a).obj.1;have hu:∀a m cs,cu (.loc m) cs (S a).b=(S a).b++[(.loc m,cs)]:=fun a m cs=>j4 (au a m);have av:∀a m,aJ.loc m∉cZ (S a):=fun a=>j0 (c4 a).obj;induction t with
 |pair x y ps r3=>intro a;have af:=c4 a;refine bC.mk mixed fH zx AV (by simp) af.obj fun aP cF=>?_;unfold xw;simp[hu,av,cH,au,c8];(with_reducible repeat' first|refine aj ?_|simp[hu,av,cH,au]);refine cM.ob (ps a) af aG aG (by simp[ar]) ?_;rintro r s' ⟨rfl,rfl⟩;refine⟨eF _ _,?_⟩;simp[gZ,iG,b0,au];(with_reducible repeat' first|refine aj ?_|simp[hu,av,cH,au]);rw[c8];refine cM.ob (r3 (x.fold f a)) (c4 (x.fold f a)) aG aG (by simp[ar]) ?_;rintro r s' ⟨rfl,rfl⟩;refine⟨eF _ _,?_⟩;simp[gZ,iG,b0,au];refine cJ.at (S (y.fold f (x.fold f a))) (.inr rfl) (c4 _) (eF _ _) aG aG ?_;simp[cP,yF,aT,aW,aQ];simp[T.fold]
 |var n=>intro a;have af:=c4 a;refine bC.mk mixed fH zx AV (by simp) af.obj fun aP cF=>?_;unfold xw;simp[hu,av,cH,au,c8];(with_reducible repeat' first|refine aj ?_|simp[hu,av,cH,au]);refine cM.ob (aO n a) af aG aG (by simp[ar]) ?_;rintro r s' ⟨rfl,rfl⟩;refine⟨eF _ _,?_⟩;simp[gZ,iG,b0,au,cH];refine cJ.at (S (f n a)) (.inr rfl) (c4 _) (eF _ _) aG aG ?_;simp[cP,yF,aT,aW,aQ];simp[T.fold]
 |_=>intro a;have af:=c4 a;refine bC.mk mixed fH zx AV (by simp) af.obj fun aP cF=>?_;unfold xw;simp[hu,av,cH,au,c8];(with_reducible repeat' first|refine aj ?_|simp[hu,av,cH,au]);refine cJ.at (S a) (.inr rfl) af (Same.refl _) aG aG ?_;simp[cP,yF,aT,aW,aQ];simp[T.fold]
def ub(l:List Int):cI:=⟨[(.obj 304,kr l)],[]⟩
theorem Oo(l:List Int):dL (ub l):=by unfold ub;exact dL.of ⟨by intro m;simp[Pv.look],by intro m;simp[Pv.look]⟩ (by simp[mG,aN,aH,inObs,Pv.look]) (by simp)
def IZ:C:=(aa [cO 1 0,bj 2 false] (.seq (.seq (.fz false 1 (.region [aw 6 1 1,cL 7 100 6,ct 8 7])) (aZ 8 (aa [bj 2 false] .ret) .skip)) (.seq (aa [aw 9 1 1,cv 10 9,cc 11 0] (fe 12 11 10 (.seq (.block 1 (aa [cw 13 5 9 11,aX 14 5 13,cS 4 kj,bz 5 4 14] (aa [c0 (.alloc 5 (some 731) (.bool false)),c0 (.store 1 (.t 5) (.c (.bool true)))] (aa [iv 15 1 4 4,aX 16 4 15,bW 17 (.mkf 133 [.t 1,.t 5]),ck 18 129 16 17] (aa [aw 19 1 5,ct 20 19,I 21 20,al 21 false (iv 22 1 4 4),al 21 false (aF 23 0 1 22),al 21 false (aw 24 1 23),al 21 false (aU 25 .eql 24 1),bZ 21 false 26 25,al 26 true (iv 27 1 4 4),al 26 true (aF 28 1 1 27),al 26 true (aw 29 1 28),al 26 true (aF 30 0 1 4),al 26 true (aw 31 1 30),al 26 true (br 32 .geq 29 31),al 21 false (dv 33 26 32),cW 34 21 33] (aZ 34 (aa [bj 2 false] .ret) .skip)))))) (.region [aU 35 .add 11 1,I 11 35])))) (aa [bj 2 true] .ret))))
@[simp] def aj8:List bA:=[.tmp 2]
def Px:C:=(aa [eJ 2 5] (aa [eb 6 5 61 [],I 3 6] (.seq (aa [I 7 0,cv 8 7,cc 9 0] (fe 10 9 8 (.seq (.block 1 (aa [cw 11 5 7 9,aX 12 5 11,cS 5 kj,bz 5 5 12] (.drawn true 24 [I 13 3,aF 14 0 1 5,aw 15 1 14,iv 16 1 4 5,aX 17 4 16,cL 18 200 17,gJ 19 kj [(0,1,(.t 15)),(1,4,(.t 18))],eb 20 5 61 [.t 19],gO 21 5 61 13 20,I 3 21]))) (.region [aU 22 .add 9 1,I 9 22])))) (aa [I 23 3,I 2 23] .ret))))
@[simp] def akd:List bA:=[.tmp 2]
def O9:C:=(aa [eJ 4 5,bj 5 false] (.seq (aa [I 8 0,cL 9 55 8,ct 10 9,I 11 10,bZ 11 false 12 1,al 11 false (cL 13 55 12),al 11 false (ct 14 13),cW 15 11 14] (aZ 15 (aa [eJ 4 5,bj 5 false] .ret) .skip)) (aa [I 17 1,cL 18 201 17,I 16 18,cd 19 0 16,cd 20 1 16,I 6 19,I 7 20] (aa [I 21 0,I 22 6,I 23 7,cT 24 118 [.t 21,.t 22,.t 23],cd 25 0 24,cd 26 1 24,I 4 25,I 5 26] .ret))))
@[simp] def V1:List bA:=[.tmp 4,.tmp 5]
def Pe:C:=(aa [eJ 4 5] (.seq (aa [I 8 0,cL 9 55 8,ct 10 9,I 11 10,bZ 11 false 12 1,al 11 false (cL 13 55 12),al 11 false (ct 14 13),cW 15 11 14] (aZ 15 (aa [eJ 4 5] .ret) .skip)) (aa [eb 16 5 61 [],I 5 16] (.seq (aa [I 17 1,cv 18 17,cc 19 0] (fe 20 19 18 (.seq (.block 1 (aa [cw 21 5 17 19,aX 22 5 21,cS 7 kj,bz 5 7 22] (aa [I 23 0,aF 24 0 1 7,aw 25 1 24,ck 26 134 23 25,aU 27 .lss 26 0] (aZ 27 (.drawn true 39 [I 28 5,aF 29 0 1 7,aw 30 1 29,iv 31 1 4 7,aX 32 4 31,cL 33 200 32,gJ 34 kj [(0,1,(.t 30)),(1,4,(.t 33))],eb 35 5 61 [.t 34],gO 36 5 61 28 35,I 5 36]) .skip)))) (.region [aU 37 .add 19 1,I 19 37])))) (aa [I 38 5,I 4 38] .ret)))))
@[simp] def aj6:List bA:=[.tmp 4]
def I0:C:=(aa [aw 4 1 1,I 5 0,ck 6 134 4 5,aU 7 .geq 6 0] (aZ 7 (.region [c0 (.store 1 (.t 2) (.c (.bool false)))]) .skip))
@[simp] def MB:List bA:=[]
def I5:C:=(aa [bj 4 false] (.seq (aa [I 6 0,cv 7 6,I 8 1,cv 9 8,br 10 .neq 7 9] (aZ 10 (aa [bj 4 false] .ret) .skip)) (.seq (aa [I 11 0,cv 12 11,cc 13 0] (fe 14 13 12 (.seq (.block 1 (aa [I 15 13,I 5 15] (.seq (.drawn true 42 [I 16 0,I 17 5,cw 18 5 16 17,aF 19 0 1 18,aw 20 1 19,I 21 1,I 22 5,cw 23 5 21 22,aF 24 0 1 23,aw 25 1 24,br 26 .neq 20 25,I 27 26,bZ 27 false 28 0,bZ 27 false 29 5,al 27 false (cw 30 5 28 29),al 27 false (iv 31 1 4 30),al 27 false (aX 32 4 31),bZ 27 false 33 1,bZ 27 false 34 5,al 27 false (cw 35 5 33 34),al 27 false (iv 36 1 4 35),al 27 false (aX 37 4 36),al 27 false (ck 38 108 32 37),al 27 false (ct 39 38),cW 40 27 39]) (aZ 40 (aa [bj 4 false] .ret) .skip)))) (.region [aU 41 .add 13 1,I 13 41])))) (aa [bj 4 true] .ret))))
@[simp] def Wd:List bA:=[.tmp 4]
def Pz:C:=(aa [eJ 2 4,eJ 3 4] (aa [eb 8 4 32 [],I 4 8] (aa [eb 9 4 32 [],I 5 9] (.seq (aa [I 10 0,cv 11 10,cc 12 0] (fe 13 12 11 (.seq (.block 1 (aa [cw 14 5 10 12,aX 15 5 14,cS 7 kj,bz 5 7 15] (aa [I 16 4,aF 17 0 1 7,aw 18 1 17,cL 19 96 18,eb 20 4 32 [.t 19],gO 21 4 32 16 20,I 4 21] (.region [I 22 5,iv 23 1 4 7,aX 24 4 23,eb 25 4 32 [.t 24],gO 26 4 32 22 25,I 5 26])))) (.region [aU 27 .add 12 1,I 12 27])))) (aa [I 28 4,I 29 5,I 2 28,I 3 29] .ret)))))
@[simp] def Wf:List bA:=[.tmp 2,.tmp 3]
def PF:C:=(aa [cc 4 0] (.seq (aa [cc 5 0] (.block 0 (.loop (.seq (aa [I 8 5,I 9 0,cv 10 9,br 11 .lss 8 10,I 12 11,bZ 12 true 13 5,bZ 12 true 14 1,al 12 true (cv 15 14),al 12 true (br 16 .lss 13 15),dv 17 12 16] (aZ 17 .skip (.exit 0))) (.seq (.block 1 (.seq (.seq (.drawn true 53 [I 20 0,I 21 5,cw 22 5 20 21,aF 23 0 1 22,aw 24 1 23,I 25 1,I 26 5,cw 27 5 25 26,aF 28 0 1 27,aw 29 1 28,ck 30 232 24 29,I 6 30]) (aa [I 31 6,aU 32 .neq 31 0] (aZ 32 (aa [I 33 6,I 4 33] .ret) .skip))) (.seq (.drawn true 53 [I 34 0,I 35 5,cw 36 5 34 35,iv 37 1 4 36,aX 38 4 37,I 39 1,I 40 5,cw 41 5 39 40,iv 42 1 4 41,aX 43 4 42,ck 44 170 38 43,I 7 44]) (aa [I 45 7,aU 46 .neq 45 0] (aZ 46 (aa [I 47 7,I 4 47] .ret) .skip))))) (.region [I 18 5,aU 19 .add 18 1,I 5 19])))))) (aa [I 48 0,cv 49 48,I 50 1,cv 51 50,ck 52 232 49 51,I 4 52] .ret)))
@[simp] def DI:List bA:=[.tmp 4]
def PC:C:=(aa [bj 4 false] (.seq (aa [I 11 0,cv 12 11,cc 13 0] (fe 14 13 12 (.seq (.block 1 (aa [cw 15 5 11 13,aX 16 5 15,cS 6 kj,bz 5 6 16] (aa [I 18 1,aF 19 0 1 6,aw 20 1 19,cL 21 96 20,ck 22 95 18 21,I 17 22,cd 23 0 17,cd 24 1 17,cS 7 du,bz 4 7 23,I 8 24] (aa [I 26 1,iv 27 1 4 6,aX 28 4 27,ck 29 95 26 28,I 25 29,cd 30 0 25,cd 31 1 25,cS 9 du,bz 4 9 30,I 10 31] (aa [I 32 8,ct 33 32,I 34 33,bZ 34 false 35 10,al 34 false (ct 36 35),cW 37 34 36,I 38 37,al 38 false (aX 39 4 7),al 38 false (aX 40 4 9),al 38 false (ck 41 108 39 40),al 38 false (ct 42 41),cW 43 38 42] (aZ 43 (aa [bj 4 false] .ret) .skip)))))) (.region [aU 44 .add 13 1,I 13 44])))) (aa [bj 4 true] .ret)))
@[simp] def MD:List bA:=[.tmp 4]
def tN:List (Nat×dx):=[
 (3,⟨1,8,.int .i64,.int .i64 0⟩),
 (4,⟨1,1,.bool,.bool false⟩),
 (23,⟨1,24,.slice 61,.slice 5 .nil []⟩),
 (30,⟨1,24,.slice 32,.slice 4 .nil []⟩),
 (32,⟨4,56,.struct [(0,3),(1,3),(2,9),(3,30)],.agg [.int .i64 0,.int .i64 0,.str [],.slice 4 .nil []]⟩),
 (61,⟨5,64,.struct [(0,3),(1,32)],.agg [.int .i64 0,.int .i64 0,.int .i64 0,.str [],.slice 4 .nil []]⟩)]
theorem rh:fP az tN=true:=by kernel_rfl
theorem Vo:b4 tN IZ aj8 1 Tryz.f55=true:=by kernel_rfl
theorem RB:az.funcs[(55:Nat)]? =some Tryz.f55:=Tryz.func55
theorem aif:b4 tN Px akd 1 Tryz.f119=true:=by kernel_rfl
theorem abv:az.funcs[(119:Nat)]? =some Tryz.f119:=Tryz.func119
theorem ahT:b4 tN O9 V1 2 Tryz.f122=true:=by kernel_rfl
theorem aa8:az.funcs[(122:Nat)]? =some Tryz.f122:=Tryz.func122
theorem ahY:b4 tN Pe aj6 2 Tryz.f123=true:=by kernel_rfl
theorem abd:az.funcs[(123:Nat)]? =some Tryz.f123:=Tryz.func123
theorem Vp:b4 tN I0 MB 3 Tryz.f133=true:=by kernel_rfl
theorem RC:az.funcs[(133:Nat)]? =some Tryz.f133:=Tryz.func133
theorem Vu:b4 tN I5 Wd 2 Tryz.f135=true:=by kernel_rfl
theorem RH:az.funcs[(135:Nat)]? =some Tryz.f135:=Tryz.func135
theorem aii:b4 tN Pz Wf 1 Tryz.f201=true:=by kernel_rfl
theorem abx:az.funcs[(201:Nat)]? =some Tryz.f201:=Tryz.func201
theorem aio:b4 tN PF DI 2 Tryz.f204=true:=by kernel_rfl
theorem abD:az.funcs[(204:Nat)]? =some Tryz.f204:=Tryz.func204
theorem ail:b4 tN PC MD 2 Tryz.f205=true:=by kernel_rfl
theorem abA:az.funcs[(205:Nat)]? =some Tryz.f205:=Tryz.func205
def PO:C:=(aa [cS 2 du] (aa [I 3 0,gJ 4 du [(0,1,(dN 1)),(1,1,(.t 3))],bz 4 2 4] .ret))
@[simp] def aki:List bA:=[.cell 2 true 4]
def PD:C:=(aa [bW 0 (.mov (.c (.nilp)))] (aa [c0 (.mkmap 1 (some 702)),c0 (.mkmap 2 (some 703)),c0 (.mkmap 3 (some 704)),c0 (.mkmap 4 (some 705)),c0 (.mkmap 5 (some 706)),c0 (.mkmap 6 (some 707)),bW 7 (.build [.junk,.junk,.junk,.junk,.junk,.junk] [(0,1,(.t 1)),(1,1,(.t 2)),(2,1,(.t 3)),(3,1,(.t 4)),(4,1,(.t 5)),(5,1,(.t 6))]),cO 8 7,I 0 8] (.fz true 0 .ret)))
@[simp] def Wi:List bA:=[.tmp 0]
def Ps:C:=(aa [cc 4 0] (.seq (aa [I 8 0,eI 9 8,aF 10 0 1 9,aw 11 1 10,I 12 1,bW 13 (.mget .i (.int .i64 0) true (.t 11) (.t 12)),I 7 13,cd 14 0 7,cd 15 1 7,I 5 14,I 6 15] (aa [I 16 6,ct 17 16] (aZ 17 (.region [I 18 0,eI 19 18,aF 20 0 1 19,aw 21 1 20,I 22 1,I 23 1,c0 (.mput .i (.t 21) (.t 22) (.t 23))]) .skip))) (.seq (.block 0 (.loop (.seq (aa [I 24 0,eI 25 24,aF 26 0 1 25,aw 27 1 26,I 28 1,bW 29 (.mget .i (.int .i64 0) false (.t 27) (.t 28)),I 30 1,br 31 .neq 29 30] (aZ 31 .skip (.exit 0))) (.block 1 (.seq (.drawn true 55 [I 32 0,eI 33 32,aF 34 0 1 33,aw 35 1 34,I 36 1,I 37 0,eI 38 37,aF 39 0 1 38,aw 40 1 39,I 41 0,eI 42 41,aF 43 0 1 42,aw 44 1 43,I 45 1,bW 46 (.mget .i (.int .i64 0) false (.t 44) (.t 45)),bW 47 (.mget .i (.int .i64 0) false (.t 40) (.t 46)),c0 (.mput .i (.t 35) (.t 36) (.t 47))]) (.region [I 48 0,eI 49 48,aF 50 0 1 49,aw 51 1 50,I 52 1,bW 53 (.mget .i (.int .i64 0) false (.t 51) (.t 52)),I 1 53])))))) (aa [I 54 1,I 4 54] .ret))))
@[simp] def V9:List bA:=[.tmp 4]
def Po:C:=(aa [cO 2 0,cO 3 1] (.fz false 2 (.region [aX 4 4 3,bW 5 (.mkf 243 [.t 2]),ck 6 129 4 5])))
@[simp] def V6:List bA:=[]
def vE:C:=(aa [cO 4 1,cO 5 2,bj 6 false] (.seq (.block 0 (aa [aF 12 0 1 4,aw 13 1 12,aU 14 .eql 13 1,I 15 14,al 15 true (aF 16 0 1 5),al 15 true (aw 17 1 16),al 15 true (aU 18 .eql 17 1),dv 19 15 18,I 11 19] (aZ 11 (aa [I 20 0,aF 21 1 1 4,aw 22 1 21,ck 23 196 20 22,I 7 23] (aa [I 24 0,aF 25 1 1 5,aw 26 1 25,ck 27 196 24 26,I 8 27] (.seq (aa [I 28 7,I 29 8,br 30 .eql 28 29] (aZ 30 (aa [bj 6 true] .ret) .skip)) (.seq (aa [I 31 8,I 32 7,br 33 .lss 31 32] (aZ 33 (.region [I 34 8,I 35 7,I 7 34,I 8 35]) .skip)) (aa [I 36 0,eI 37 36,aF 38 0 1 37,aw 39 1 38,I 40 8,I 41 7,c0 (.mput .i (.t 39) (.t 40) (.t 41))] (.seq (aa [I 42 0,eI 43 42,aF 44 2 1 43,aw 45 1 44,I 46 8,bW 47 (.mget .i (.bool false) false (.t 45) (.t 46)),ct 48 47] (aZ 48 (aa [I 49 0,eI 50 49,aF 51 2 1 50,aw 52 1 51,I 53 7,bW 54 (.mget .i (.bool false) false (.t 52) (.t 53)),ct 55 54,I 56 55,bZ 56 false 57 0,bZ 56 false 58 0,al 56 false (eI 59 58),al 56 false (aF 60 1 1 59),al 56 false (aw 61 1 60),bZ 56 false 62 7,xe 56 false 63 (.mget .i (.agg du) false (.t 61) (.t 62)),bZ 56 false 64 7,ys 56 false (.mkmap 65 (some 715)),al 56 false (cT 66 244 [.t 57,.t 63,.t 64,.t 65]),al 56 false (ct 67 66),cW 68 56 67,I 6 68] .ret) .skip)) (aa [I 69 0,eI 70 69,aF 71 1 1 70,aw 72 1 71,I 73 8,bW 74 (.mget .i (.agg du) false (.t 72) (.t 73)),cS 9 du,bz 4 9 74] (.seq (aa [I 75 0,eI 76 75,aF 77 2 1 76,aw 78 1 77,I 79 7,bW 80 (.mget .i (.bool false) false (.t 78) (.t 79)),ct 81 80] (aZ 81 (aa [I 82 0,I 83 7,aX 84 4 9,cT 85 245 [.t 82,.t 83,.t 84],I 6 85] .ret) .skip)) (.seq (.drawnW [715,716] 198 [I 86 0,aX 87 4 9,I 88 7,c0 (.mkmap 89 (some 715)),cT 90 244 [.t 86,.t 87,.t 88,.t 89],ct 91 90,I 92 91,bZ 92 true 93 0,bZ 92 true 94 0,al 92 true (eI 95 94),al 92 true (aF 96 1 1 95),al 92 true (aw 97 1 96),bZ 92 true 98 7,xe 92 true 99 (.mgetB .i (.agg du) false (.t 97) (.t 98)),bZ 92 true 100 7,ys 92 true (.mkmap 101 (some 716)),al 92 true (cT 102 244 [.t 93,.t 99,.t 100,.t 101]),al 92 true (ct 103 102),dv 104 92 103,I 105 104,bZ 105 true 106 0,bZ 105 true 107 0,al 105 true (eI 108 107),al 105 true (aF 109 1 1 108),al 105 true (aw 110 1 109),bZ 105 true 111 7,xe 105 true 112 (.mgetB .i (.agg du) false (.t 110) (.t 111)),al 105 true (aX 113 4 9),al 105 true (cT 114 198 [.t 106,.t 112,.t 113]),dv 115 105 114,I 6 115]) .ret))))))))) (aa [aF 117 0 1 4,aw 118 1 117,aU 119 .eql 118 1,I 116 119] (aZ 116 (aa [I 120 0,aF 121 1 1 4,aw 122 1 121,ck 123 196 120 122,I 10 123] (.seq (aa [I 124 0,eI 125 124,aF 126 2 1 125,aw 127 1 126,I 128 10,bW 129 (.mget .i (.bool false) false (.t 127) (.t 128)),ct 130 129] (aZ 130 (aa [I 131 0,I 132 10,aX 133 4 5,cT 134 245 [.t 131,.t 132,.t 133],I 6 134] .ret) .skip)) (.seq (.drawn false 198 [I 135 0,I 136 0,eI 137 136,aF 138 1 1 137,aw 139 1 138,I 140 10,bW 141 (.mgetB .i (.agg du) false (.t 139) (.t 140)),aX 142 4 5,cT 143 198 [.t 135,.t 141,.t 142],I 6 143]) .ret))) (aa [aF 145 0 1 5,aw 146 1 145,aU 147 .eql 146 1,I 144 147] (aZ 144 (aa [I 148 0,aX 149 4 5,aX 150 4 4,cT 151 198 [.t 148,.t 149,.t 150],I 6 151] .ret) (aa [aF 153 0 1 4,aw 154 1 153,aF 155 0 1 5,aw 156 1 155,br 157 .neq 154 156,I 158 157,al 158 false (aF 159 1 1 4),al 158 false (aw 160 1 159),al 158 false (aF 161 1 1 5),al 158 false (aw 162 1 161),al 158 false (br 163 .neq 160 162),cW 164 158 163,I 165 164,al 165 false (aF 166 2 1 4),al 165 false (aw 167 1 166),al 165 false (aF 168 2 1 5),al 165 false (aw 169 1 168),al 165 false (br 170 .neq 167 169),cW 171 165 170,I 152 171] (aZ 152 (aa [bj 6 false] .ret) (aa [aF 173 0 1 4,aw 174 1 173,aU 175 .eql 174 4,I 172 175] (aZ 172 (.seq (.drawn false 198 [I 176 0,aF 177 3 1 4,aw 178 1 177,jQ 179 4 178 0,aX 180 4 179,aF 181 3 1 5,aw 182 1 181,jQ 183 4 182 0,aX 184 4 183,cT 185 198 [.t 176,.t 180,.t 184],I 186 185,bZ 186 true 187 0,al 186 true (aF 188 3 1 4),al 186 true (aw 189 1 188),al 186 true (jQ 190 4 189 1),al 186 true (aX 191 4 190),al 186 true (aF 192 3 1 5),al 186 true (aw 193 1 192),al 186 true (jQ 194 4 193 1),al 186 true (aX 195 4 194),al 186 true (cT 196 198 [.t 187,.t 191,.t 195]),dv 197 186 196,I 6 197]) .ret) .skip))))))))))) (aa [bj 6 true] .ret)))
@[simp] def nX:List bA:=[.tmp 6]
def Pp:C:=(.region [aw 3 1 1,I 4 0,ck 5 196 3 4])
@[simp] def V7:List bA:=[]
def Pq:C:=(aa [cO 4 0,cO 5 1,cO 6 2,cO 7 3,bj 8 false] (aa [c0 (.alloc 9 (some 712) (.bool false)),c0 (.store 1 (.t 9) (.c (.bool false)))] (.seq (.fz false 7 (.fz false 6 (.fz false 4 (.region [aX 10 4 5,bW 11 (.mkf 273 [.t 4,.t 9,.t 6,.t 7]),ck 12 129 10 11])))) (aa [aw 13 1 9,I 8 13] .ret))))
@[simp] def V8:List bA:=[.tmp 8]
def Pn:C:=(aa [cO 5 2,bj 6 false] (.seq (.drawn true 24 [I 7 0,eI 8 7,aF 9 1 1 8,aw 10 1 9,I 11 1,aX 12 4 5,c0 (.mput .i (.t 10) (.t 11) (.t 12))]) (aa [I 13 0,eI 14 13,aF 15 2 1 14,aw 16 1 15,I 17 1,c0 (.mput .i (.t 16) (.t 17) (.c (.bool true)))] (aa [I 18 0,aX 19 4 5,I 20 1,c0 (.mkmap 21 (some 715)),cT 22 244 [.t 18,.t 19,.t 20,.t 21],ct 23 22,I 6 23] .ret))))
@[simp] def V5:List bA:=[.tmp 6]
def zl:C:=(aa [cO 2 0,bj 4 false] (.seq (.seq (.fz false 2 (.region [aw 6 1 2,eI 7 6,aF 8 3 1 7,aw 9 1 8,I 10 1,bW 11 (.mget .i (.int .i64 0) false (.t 9) (.t 10)),aU 12 .eql 11 2])) (aZ 12 (aa [bj 4 true] .ret) .skip)) (.seq (aa [aw 13 1 2,eI 14 13,aF 15 3 1 14,aw 16 1 15,I 17 1,bW 18 (.mget .i (.int .i64 0) false (.t 16) (.t 17)),aU 19 .eql 18 1] (aZ 19 (aa [bj 4 false] .ret) .skip)) (aa [aw 20 1 2,eI 21 20,aF 22 3 1 21,aw 23 1 22,I 24 1,c0 (.mput .i (.t 23) (.t 24) (dN 1))] (aa [aw 25 1 2,eI 26 25,aF 27 4 1 26,aw 28 1 27,I 29 1,c0 (.mput .i (.t 28) (.t 29) (dN 1))] (.seq (aa [aw 30 1 2,eI 31 30,aF 32 2 1 31,aw 33 1 32,I 34 1,bW 35 (.mget .i (.bool false) false (.t 33) (.t 34))] (aZ 35 (aa [c0 (.alloc 5 (some 712) (.bool false)),c0 (.store 1 (.t 5) (.c (.bool true)))] (aa [aw 36 1 2,eI 37 36,aF 38 1 1 37,aw 39 1 38,I 40 1,bW 41 (.mget .i (.agg du) false (.t 39) (.t 40)),bW 42 (.mkf 274 [.t 5,.t 2]),ck 43 129 41 42] (.seq (aa [aw 44 1 5,ct 45 44] (aZ 45 (aa [bj 4 false] .ret) .skip)) (.drawn false 64 [aw 46 1 2,eI 47 46,aF 48 4 1 47,aw 49 1 48,I 50 1,aw 51 1 2,eI 52 51,aF 53 1 1 52,aw 54 1 53,I 55 1,bW 56 (.mgetB .i (.agg du) false (.t 54) (.t 55)),bW 57 (.mkf 275 [.t 2]),ck 58 239 56 57,c0 (.mput .i (.t 49) (.t 50) (.t 58))])))) .skip)) (aa [aw 59 1 2,eI 60 59,aF 61 3 1 60,aw 62 1 61,I 63 1,c0 (.mput .i (.t 62) (.t 63) (dN 2))] (aa [bj 4 true] .ret))))))))
@[simp] def A7:List bA:=[.tmp 4]
def EW:C:=(aa [cO 2 0,cS 4 du] (.seq (.seq (.fz false 2 (.region [aw 9 1 2,eI 10 9,aF 11 5 1 10,aw 12 1 11,I 13 1,bW 14 (.mget .i (.agg du) true (.t 12) (.t 13)),I 8 14,cd 15 0 8,cd 16 1 8,cS 5 du,bz 4 5 15,I 6 16])) (aa [I 17 6] (aZ 17 (aa [aX 18 4 5,bz 4 4 18] .ret) .skip))) (aa [I 19 1,cL 20 96 19,cS 7 du,bz 4 7 20] (.seq (aa [aw 21 1 2,eI 22 21,aF 23 2 1 22,aw 24 1 23,I 25 1,bW 26 (.mget .i (.bool false) false (.t 24) (.t 25))] (aZ 26 (.region [aw 27 1 2,eI 28 27,aF 29 1 1 28,aw 30 1 29,I 31 1,bW 32 (.mget .i (.agg du) false (.t 30) (.t 31)),bW 33 (.mkf 276 [.t 2]),ck 34 153 32 33,bz 4 7 34]) .skip)) (.seq (.drawn true 42 [aw 35 1 2,eI 36 35,aF 37 5 1 36,aw 38 1 37,I 39 1,aX 40 4 7,c0 (.mput .i (.t 38) (.t 39) (.t 40))]) (aa [aX 41 4 7,bz 4 4 41] .ret))))))
@[simp] def Hd:List bA:=[.cell 4 true 4]
def Pr:C:=(aa [aw 7 1 1,I 8 0,ck 9 196 7 8,I 6 9] (.seq (aa [aw 10 1 2,I 11 10,bZ 11 false 12 6,al 11 false (aw 13 1 3),al 11 false (br 14 .eql 12 13),cW 15 11 14] (aZ 15 (aa [c0 (.store 1 (.t 2) (.c (.bool true)))] .ret) .skip)) (aa [aw 16 1 4,I 17 6,bW 18 (.mget .i (.bool false) false (.t 16) (.t 17)),ct 19 18,I 20 19,al 20 true (aw 21 1 1),al 20 true (eI 22 21),al 20 true (aF 23 2 1 22),al 20 true (aw 24 1 23),bZ 20 true 25 6,al 20 true (bW 26 (.mget .i (.bool false) false (.t 24) (.t 25))),dv 27 20 26] (aZ 27 (aa [aw 28 1 4,I 29 6,c0 (.mput .i (.t 28) (.t 29) (.c (.bool true)))] (.drawn false 40 [aw 30 1 1,aw 31 1 1,eI 32 31,aF 33 1 1 32,aw 34 1 33,I 35 6,bW 36 (.mgetB .i (.agg du) false (.t 34) (.t 35)),aw 37 1 3,aw 38 1 4,cT 39 244 [.t 30,.t 36,.t 37,.t 38],bz 1 2 39])) .skip))))
@[simp] def A6:List bA:=[]
def I2:C:=(.seq (.drawn false 13 [bW 4 (.loadB false 1 (.t 1)),I 5 4,al 5 true (aw 6 1 2),al 5 true (aw 7 1 2),bZ 5 true 8 0,al 5 true (ck 9 196 7 8),al 5 true (ck 10 246 6 9),al 5 true (ct 11 10),dv 12 5 11]) (aZ 12 (.region [c0 (.store 1 (.t 1) (.c (.bool false)))]) .skip))
@[simp] def He:List bA:=[]
def Pw:C:=(aa [cc 3 0] (.seq (.drawn false 12 [aw 4 1 1,eI 5 4,aF 6 4 1 5,aw 7 1 6,aw 8 1 1,I 9 0,ck 10 196 8 9,bW 11 (.mgetB .i (.int .i64 0) false (.t 7) (.t 10)),I 3 11]) .ret))
@[simp] def Wb:List bA:=[.tmp 3]
def Pu:C:=(aa [cS 3 du,bj 4 false] (.seq (.drawn false 10 [aw 5 1 1,aw 6 1 1,I 7 0,ck 8 196 6 7,ck 9 247 5 8,bz 4 3 9,bj 4 true]) .ret))
@[simp] def Wa:List bA:=[.cell 3 true 4,.tmp 4]
def oU:List (Nat×dx):=[
 (3,⟨1,8,.int .i64,.int .i64 0⟩),
 (4,⟨1,1,.bool,.bool false⟩),
 (9,⟨1,16,.str,.str []⟩),
 (30,⟨1,24,.slice 32,.slice 4 .nil []⟩),
 (32,⟨4,56,.struct [(0,3),(1,3),(2,9),(3,30)],.agg [.int .i64 0,.int .i64 0,.str [],.slice 4 .nil []]⟩),
 (127,⟨1,8,.map 3 32,.junk⟩),
 (154,⟨1,8,.map 3 4,.junk⟩),
 (182,⟨1,8,.map 3 3,.junk⟩),
 (204,⟨1,8,.other,.nilp⟩),
 (245,⟨6,48,.struct [(0,182),(1,127),(2,154),(3,182),(4,182),(5,127)],.agg [.junk,.junk,.junk,.junk,.junk,.junk]⟩)]
theorem jz:fP az oU=true:=by kernel_rfl
theorem aix:b4 oU PO aki 1 Tryz.f96=true:=by kernel_rfl
theorem abM:az.funcs[(96:Nat)]? =some Tryz.f96:=Tryz.func96
theorem aim:b4 oU PD Wi 0 Tryz.f195=true:=by kernel_rfl
theorem abB:az.funcs[(195:Nat)]? =some Tryz.f195:=Tryz.func195
theorem aib:b4 oU Ps V9 2 Tryz.f196=true:=by kernel_rfl
theorem abq:az.funcs[(196:Nat)]? =some Tryz.f196:=Tryz.func196
theorem ah7:b4 oU Po V6 2 Tryz.f197=true:=by kernel_rfl
theorem abm:az.funcs[(197:Nat)]? =some Tryz.f197:=Tryz.func197
theorem yy:b4 oU vE nX 3 Tryz.f198=true:=by kernel_rfl
theorem xC:az.funcs[(198:Nat)]? =some Tryz.f198:=Tryz.func198
theorem ah8:b4 oU Pp V7 2 Tryz.f243=true:=by kernel_rfl
theorem abn:az.funcs[(243:Nat)]? =some Tryz.f243:=Tryz.func243
theorem ah9:b4 oU Pq V8 4 Tryz.f244=true:=by kernel_rfl
theorem abo:az.funcs[(244:Nat)]? =some Tryz.f244:=Tryz.func244
theorem ah6:b4 oU Pn V5 3 Tryz.f245=true:=by kernel_rfl
theorem abl:az.funcs[(245:Nat)]? =some Tryz.f245:=Tryz.func245
theorem Dt:b4 oU zl A7 2 Tryz.f246=true:=by kernel_rfl
theorem B9:az.funcs[(246:Nat)]? =some Tryz.f246:=Tryz.func246
theorem Mc:b4 oU EW Hd 2 Tryz.f247=true:=by kernel_rfl
theorem JM:az.funcs[(247:Nat)]? =some Tryz.f247:=Tryz.func247
theorem aia:b4 oU Pr A6 5 Tryz.f273=true:=by kernel_rfl
theorem abp:az.funcs[(273:Nat)]? =some Tryz.f273:=Tryz.func273
theorem Vr:b4 oU I2 He 3 Tryz.f274=true:=by kernel_rfl
theorem RE:az.funcs[(274:Nat)]? =some Tryz.f274:=Tryz.func274
theorem aie:b4 oU Pw Wb 2 Tryz.f275=true:=by kernel_rfl
theorem abu:az.funcs[(275:Nat)]? =some Tryz.f275:=Tryz.func275
theorem aid:b4 oU Pu Wa 2 Tryz.f276=true:=by kernel_rfl
theorem abt:az.funcs[(276:Nat)]? =some Tryz.f276:=Tryz.func276
end Go.Proofs.YtohaalphocaebaaGreat
namespace Go.Proofs.YtohaalphocaebaaGreat
open Go Go.Pv
section
variable {α:Type} (S:α→cI) (c4:∀a,dL (S a)) (eF:∀a b,Same (S a) (S b)) (g:Nat) (dj:List ah) (ar:∀a,aN (inObs (S a)) dj) (c8:di dj=dj)
include c4 eF ar c8 in
theorem Sb(hc:α→Prop)(f:Int→α→Option α)(aO:∀v a be,hc a→f v a=some be→hc be∧bC az g (.int .i64 v::dj) (S a) fun r s'=>r= .tuple []∧s'=S be)(t:T):
  ∀a be,hc a→t.foldO f a=some be→hc be∧bC az 129 [t.e,.func g dj] (S a) fun r s'=>r= .tuple []∧s'=S be:=by
 have au:∀a m,Pv.look (.loc m) (S a).b=none:=fun a=>(c4 a).obj.1;have hu:∀a m cs,cu (.loc m) cs (S a).b=(S a).b++[(.loc m,cs)]:=fun a m cs=>j4 (au a m);have av:∀a m,aJ.loc m∉cZ (S a):=fun a=>j0 (c4 a).obj;induction t with
 |pair x y ps r3=>intro a be hi he;have af:=c4 a;simp only[T.foldO,h6]at he;obtain⟨bt,J,U⟩:=he;obtain⟨i1,g1⟩:=ps a bt hi J;obtain⟨i2,g2⟩:=r3 bt be i1 U;refine⟨i2,?_⟩;refine bC.mk mixed fH zx AV (by simp) af.obj fun aP cF=>?_;unfold xw;simp[hu,av,cH,au,c8];(with_reducible repeat' first|refine aj ?_|simp[hu,av,cH,au]);refine cM.ob g1 af aG aG (by simp[ar]) ?_;rintro r s' ⟨rfl,rfl⟩;refine⟨eF _ _,?_⟩;simp[gZ,iG,b0,au];(with_reducible repeat' first|refine aj ?_|simp[hu,av,cH,au]);rw[c8];refine cM.ob g2 (c4 bt) aG aG (by simp[ar]) ?_;rintro r s' ⟨rfl,rfl⟩;refine⟨eF _ _,?_⟩;simp[gZ,iG,b0,au];refine cJ.at (S be) (.inr rfl) (c4 _) (eF _ _) aG aG ?_;simp[cP,yF,aT,aW,aQ]
 |var n=>intro a be hi he;have af:=c4 a;simp only[T.foldO]at he;obtain⟨i1,g1⟩:=aO n a be hi he;refine⟨i1,?_⟩;refine bC.mk mixed fH zx AV (by simp) af.obj fun aP cF=>?_;unfold xw;simp[hu,av,cH,au,c8];(with_reducible repeat' first|refine aj ?_|simp[hu,av,cH,au]);refine cM.ob g1 af aG aG (by simp[ar]) ?_;rintro r s' ⟨rfl,rfl⟩;refine⟨eF _ _,?_⟩;simp[gZ,iG,b0,au,cH];refine cJ.at (S be) (.inr rfl) (c4 _) (eF _ _) aG aG ?_;simp[cP,yF,aT,aW,aQ]
 |_=>intro a be hi he;have af:=c4 a;simp only[T.foldO,dw]at he;subst he;refine⟨hi,?_⟩;refine bC.mk mixed fH zx AV (by simp) af.obj fun aP cF=>?_;unfold xw;simp[hu,av,cH,au,c8];(with_reducible repeat' first|refine aj ?_|simp[hu,av,cH,au]);refine cJ.at (S a) (.inr rfl) af (Same.refl _) aG aG ?_;simp[cP,yF,aT,aW,aQ]
include c4 eF ar c8 in
theorem J5(f:Int→α→Option α)(aO:∀v a be,f v a=some be→bC az g (.int .i64 v::dj) (S a) fun r s'=>r= .tuple []∧s'=S be)(t:T)(a be:α)(h:t.foldO f a=some be):bC az 129 [t.e,.func g dj] (S a) fun r s'=>r= .tuple []∧s'=S be:=(Sb S c4 eF g dj ar c8 (fun _=>True) f (fun v a be _ h=>⟨trivial,aO v a be h⟩) t a be trivial h).2
include c4 eF ar c8 in
theorem ady(f:Int→α→Option (T×α))(aO:∀v a p,f v a=some p→bC az g (.int .i64 v::dj) (S a) fun r s'=>r= .tuple [p.1.e,.bool true]∧s'=S p.2)(t:T):
  ∀a p,t.mapO f a=some p→bC az 153 [t.e,.func g dj] (S a) fun r s'=>r=p.1.e∧s'=S p.2:=by
 have au:∀a m,Pv.look (.loc m) (S a).b=none:=fun a=>(c4 a).obj.1;have cD:∀a m,Pv.look (.loc m) (S a).e=none:=fun a=>(c4 a).obj.2;have hu:∀a m cs,cu (.loc m) cs (S a).b=(S a).b++[(.loc m,cs)]:=fun a m cs=>j4 (au a m);have av:∀a m,aJ.loc m∉cZ (S a):=fun a=>j0 (c4 a).obj;have lR:∀a m p r,cu (.loc m) p ((S a).b++r)=(S a).b++cu (.loc m) p r:=fun a m p r=>By (au a m);induction t with
 |pair x y ps r3=>intro a p he;have af:=c4 a;simp only[T.mapO,h6,gr]at he;obtain⟨cC,J,da,U,rfl⟩:=he;refine bC.mk mixed fH zy AW (by simp) af.obj fun aP cF=>?_;unfold xx;simp[hu,av,cH,au,cD,c8,lR];(with_reducible repeat' first|refine aj ?_|simp[hu,av,cH,au,cD,lR]);refine fJ.ob (ps a cC J) af (c4 cC.2) (eF _ _) aG aG (by simp[ar]) ?_;simp[gZ,iG,b0,au,c8];(with_reducible repeat' first|refine aj ?_|simp[hu,av,cH,au,cD,lR]);refine fJ.ob (r3 cC.2 da U) (c4 cC.2) (c4 da.2) (eF _ _) aG aG (by simp[ar,c8]) ?_;simp[gZ,iG,b0,au,c8];(with_reducible repeat' first|refine aj ?_|refine aB (Ih _ _) ?_|refine aC (Ih _ _) ?_|simp[cH,au,lR]);refine cJ.at (S da.2) (.inl rfl) (c4 _) (eF _ _) aG aG ?_;simp[cP,yG,aT,aW,aQ,cH,au]
 |var n=>
  intro a p he;have af:=c4 a;simp only[T.mapO]at he;refine bC.mk mixed fH zy AW (by simp) af.obj fun aP cF=>?_;unfold xx;simp[hu,av,cH,au,c8,lR];(with_reducible repeat' first|refine aj ?_|simp[hu,av,cH,au,lR]);refine cM.ob (aO n a p he) af aG aG (by simp[ar]) ?_;rintro r s' ⟨rfl,rfl⟩;refine⟨eF _ _,?_⟩;simp[gZ,iG,b0,au,hu,av,cH];(with_reducible repeat' first|refine aj ?_|refine aB (tQ _) ?_|refine aC (tQ _) ?_|simp[hu,av,cH,au,lR]);all_goals refine cJ.at (S p.2) (.inl rfl) (c4 _) (eF _ _) aG aG ?_
  all_goals simp[cP,yG,aT,aW,aQ,cH,au]
 |_=>intro a p he;have af:=c4 a;simp only[T.mapO,dw]at he;subst he;refine bC.mk mixed fH zy AW (by simp) af.obj fun aP cF=>?_;unfold xx;simp[hu,av,cH,au,c8,lR];(with_reducible repeat' first|refine aj ?_|simp[hu,av,cH,au,lR]);refine cJ.at (S a) (.inl rfl) af (Same.refl _) aG aG ?_;simp[cP,yG,aT,aW,aQ,cH,au]
include c4 eF ar c8 in
theorem adL(hc:α→Prop)(f:Int→α→Option (Int×α))(Cz:∀v a p,hc a→f v a=some p→hc p.2∧0≤p.1∧p.1≤1000000)(aO:∀v a p,hc a→f v a=some p→bC az g (.int .i64 v::dj) (S a) fun r s'=>r= .int .i64 p.1∧s'=S p.2)(t:T):
  ∀a p,hc a→t.sizeO f a=some p→hc p.2∧(0≤p.1∧p.1≤5001)∧bC az 239 [t.e,.func g dj] (S a) fun r s'=>r= .int .i64 p.1∧s'=S p.2:=by
 have au:∀a m,Pv.look (.loc m) (S a).b=none:=fun a=>(c4 a).obj.1;have hu:∀a m cs,cu (.loc m) cs (S a).b=(S a).b++[(.loc m,cs)]:=fun a m cs=>j4 (au a m);have av:∀a m,aJ.loc m∉cZ (S a):=fun a=>j0 (c4 a).obj;induction t with
 |pair x y ps r3=>
  intro a p hi he;have af:=c4 a;simp only[T.sizeO,h6]at he;obtain⟨cC,J,U⟩:=he;obtain⟨i1,bM,g1⟩:=ps a cC hi J;by_cases Cv:5000<cC.1
  ·rw[if_pos Cv]at U;cases U;refine⟨i1,bM,?_⟩;refine bC.mk mixed fH xD yz (by simp) af.obj fun aP cF=>?_;unfold vF;simp[hu,av,cH,au,c8];(with_reducible repeat' first|refine aj ?_|simp[hu,av,cH,au]);refine cM.ob g1 af aG aG (by simp[ar]) ?_;rintro r s' ⟨rfl,rfl⟩;refine⟨eF _ _,?_⟩;simp[gZ,iG,b0,au];((with_reducible repeat' first|((first|apply bG|apply bL|apply bK)<;>intro h<;>try simp at h)|refine aj ?_|simp[hu,av,cH,au])<;>(try contradiction));all_goals first|omega|(refine cJ.at (S p.2) (.inl rfl) (c4 _) (eF _ _) aG aG ?_;simp[cP,vc,aT,aW,aQ])
  ·rw[if_neg Cv,gr]at U;obtain⟨da,U,rfl⟩:=U;obtain⟨i2,bO,g2⟩:=r3 cC.2 da i1 U;refine⟨i2,by simp only;split<;>omega,?_⟩;refine bC.mk mixed fH xD yz (by simp) af.obj fun aP cF=>?_;unfold vF;simp[hu,av,cH,au,c8];(with_reducible repeat' first|((first|apply bG|apply bL|apply bK)<;>intro h<;>try simp at h)|refine aj ?_|simp[hu,av,cH,au]);refine cM.ob g1 af aG aG (by simp[ar]) ?_;rintro r s' ⟨rfl,rfl⟩;refine⟨eF _ _,?_⟩;simp[gZ,iG,b0,au];((with_reducible repeat' first|refine aj ?_|simp[hu,av,cH,au]|((first|apply bG|apply bL|apply bK)<;>intro h<;>try simp at h))<;>(try exact cg));all_goals first|omega|skip
   rw[c8];refine cM.ob g2 (c4 cC.2) aG aG (by simp[ar]) ?_;rintro r s2 ⟨rfl,rfl⟩;refine⟨eF _ _,?_⟩;simp[gZ,iG,b0,au];(with_reducible repeat' first|refine aj ?_|simp[hu,av,cH,au]);refine cJ.at (S da.2) (.inl rfl) (c4 _) (eF _ _) aG aG ?_;simp[cP,vc,aT,aW,aQ]
 |var n=>intro a p hi he;have af:=c4 a;simp only[T.sizeO,gr]at he;obtain⟨cC,J,rfl⟩:=he;have ae:=Cz n a cC hi J;refine⟨ae.1,by simp only;split<;>omega,?_⟩;refine bC.mk mixed fH xD yz (by simp) af.obj fun aP cF=>?_;unfold vF;simp[hu,av,cH,au,c8];(with_reducible repeat' first|refine aj ?_|simp[hu,av,cH,au]);refine cM.ob (aO n a cC hi J) af aG aG (by simp[ar]) ?_;rintro r s' ⟨rfl,rfl⟩;refine⟨eF _ _,?_⟩;simp[gZ,iG,b0,au];refine cJ.at (S cC.2) (.inl rfl) (c4 _) (eF _ _) aG aG ?_;simp[cP,vc,aT,aW,aQ]
 |_=>intro a p hi he;have af:=c4 a;simp only[T.sizeO,dw]at he;subst he;refine⟨hi,by simp,?_⟩;refine bC.mk mixed fH xD yz (by simp) af.obj fun aP cF=>?_;unfold vF;simp[hu,av,cH,au,c8];(with_reducible repeat' first|refine aj ?_|simp[hu,av,cH,au]);refine cJ.at (S a) (.inl rfl) af (Same.refl _) aG aG ?_;simp[cP,vc,aT,aW,aQ]
end
end Go.Proofs.YtohaalphocaebaaGreat
namespace Go.Proofs.YtohaalphocaebaaGreat
open Go Go.Pv
theorem LD{α β:Type}(k:aJ):∀{l:List (aJ×α)} {l':List (aJ×β)},l.map (·.1)=l'.map (·.1)→(Pv.look k l).isSome=(Pv.look k l').isSome
 |[],[],_=>rfl
 |[],_::_,h=>by simp at h
 |_::_,[],h=>by simp at h
 |(i,x)::r,(j,y)::eg,h=>by
  simp only[gP,y7]at h;simp only[Pv.look];obtain⟨rfl,h⟩:=h;split
  ·rfl
  ·exact LD k h
theorem _root_.Go.Pv.Same.keys{s s':cI}(ae:s.b.map (·.1)=s'.b.map (·.1))(he:s.e.map (·.1)=s'.e.map (·.1)):Same s s':=⟨fun k=>LD k ae,fun k=>LD k he⟩
section
variable {α:Type} (e:α→ah)
def sa(l:List (Int×α)):List ah:=jL (l.map fun x=>(x.1,e x.2))
theorem OE(k:Int):∀l:List (Int×α),xo k (l.map fun x=>(x.1,e x.2))=(tg k l).map e
 |[]=>rfl
 |(i,v)::r=>by
  simp only[gP,xo,tg];split
  ·rfl
  ·exact OE k r
theorem ON(k:Int)(v:α):∀l:List (Int×α),o3 k (e v) (l.map fun x=>(x.1,e x.2))=if(tg k l).isSome then some ((eX k v l).map fun x=>(x.1,e x.2))else none
 |[]=>rfl
 |(i,w)::r=>by
  simp only[gP,o3,tg,eX];by_cases h:k=i
  ·subst h;simp
  ·simp only[h,if_false,ON k v r];cases (tg k r).isSome<;>simp
theorem XA{k:Int}{v:α}:∀{l:List (Int×α)},tg k l=none→eX k v l=l++[(k,v)]
 |[],_=>rfl
 |(i,w)::r,h=>by
  simp only[tg]at h;split at h
  ·cases h
  ·rename_i cD;simp[eX,cD,XA h]
theorem LY(k:Int)(v:α)(l:List (Int×α)):oO .i (.int .i64 k) (e v) (sa e l)=some (sa e (eX k v l)):=by
 simp only[sa,Vd,EK,ON];cases h:tg k l with
 |some w=>simp
 |none=>simp[XA h]
theorem LV(f:aJ→Option (List ah))(m:aJ)(l:List (Int×α))(z:ah)(ok:Bool)(k:Int)(hm:f m=some (sa e l)):nT f .i z ok (.gmap m) (.int .i64 k)=some (True,if ok then .tuple [((tg k l).map e).getD z,.bool (tg k l).isSome]else((tg k l).map e).getD z):=by rw[ahk f m _ z ok k hm,OE];cases tg k l<;>rfl
@[simp] theorem aqq(l:List (Int×α)):h2 (sa e l)=false:=rfl
theorem Lu(S:aJ→Prop)(he:∀x,aH S (e x))(l:List (Int×α)):aN S (sa e l):=by
 have:∀l:List (Int×α),aN S (ku (l.map fun x=>(x.1,e x.2))):=by
  intro l;induction l with
  |nil=>simp[ku,aN]
  |cons x r bP=>simp[ku,aN,bP,he]
 simp[sa,jL,aN,this,aH]
end
def nq:List (Int×Int)→List ah:=sa (ah.int .i64)
def qa:List (Int×Bool)→List ah:=sa ah.bool
def tz:List (Int×T)→List ah:=sa T.e
@[simp] theorem aqn(l):h2 (nq l)=false:=rfl
@[simp] theorem aql(l):h2 (qa l)=false:=rfl
@[simp] theorem aqp(l):h2 (tz l)=false:=rfl
@[simp] theorem api(S:aJ→Prop)(l):aN S (nq l)=True:=eq_true (Lu _ S (fun _=>by simp) l)
@[simp] theorem aph(S:aJ→Prop)(l):aN S (qa l)=True:=eq_true (Lu _ S (fun _=>by simp) l)
@[simp] theorem apj(S:aJ→Prop)(l):aN S (tz l)=True:=eq_true (Lu _ S (fun _=>by simp) l)
@[simp] theorem aqa(k v:Int)(l):oO .i (.int .i64 k) (.int .i64 v) (nq l)=some (nq (eX k v l)):=LY _ k v l
@[simp] theorem ap9(k:Int)(v:Bool)(l):oO .i (.int .i64 k) (.bool v) (qa l)=some (qa (eX k v l)):=LY _ k v l
@[simp] theorem aqc(k:Int)(v:T)(l):oO .i (.int .i64 k) v.e (tz l)=some (tz (eX k v l)):=LY _ k v l
def Dk(b7:jD)(z:ah)(ok:Bool)(o:Option (List ah))(k:ah):Option (Prop×ah):=nT (fun _=>o) b7 z ok (.gmap (.loc 0)) k
@[simp] theorem ap6(f:aJ→Option (List ah))(b7:jD)(z:ah)(ok:Bool)(m:aJ)(k:ah):nT f b7 z ok (.gmap m) k=Dk b7 z ok (f m) k:=by simp only[Dk,U2]
theorem ahm(f:aJ→Option (List ah))(m:aJ)(l:List (Int×Int))(ok:Bool)(k:Int)(hm:f m=some (nq l)):nT f .i (.int .i64 0) ok (.gmap m) (.int .i64 k)=some (True,if ok then .tuple [.int .i64 (iZ l k),.bool (tg k l).isSome]else .int .i64 (iZ l k)):=by rw[LV _ f m l _ ok k hm];unfold iZ;cases tg k l<;>rfl
theorem ahl(f:aJ→Option (List ah))(m:aJ)(l:List (Int×Bool))(ok:Bool)(k:Int)(hm:f m=some (qa l)):nT f .i (.bool false) ok (.gmap m) (.int .i64 k)=some (True,if ok then .tuple [.bool ((tg k l).getD false),.bool (tg k l).isSome]else .bool ((tg k l).getD false)):=by rw[LV _ f m l _ ok k hm];cases tg k l<;>rfl
def NG:ah:= .agg [.int .i64 0,.int .i64 0,.str [],.slice 4 .nil []]
def tM(o:Option T):ah:=(o.map T.e).getD NG
theorem ahn(f:aJ→Option (List ah))(m:aJ)(l:List (Int×T))(ok:Bool)(k:Int)(hm:f m=some (tz l)):nT f .i (.agg [.int .i64 0,.int .i64 0,.str [],.slice 4 .nil []]) ok (.gmap m) (.int .i64 k)=some (True,if ok then .tuple [tM (tg k l),.bool (tg k l).isSome]else tM (tg k l)):=by rw[LV _ f m l _ ok k hm];rfl
@[simp] theorem ap4(l:List (Int×Int))(ok:Bool)(k:Int):Dk .i (.int .i64 0) ok (some (nq l)) (.int .i64 k)=some (True,if ok then .tuple [.int .i64 (iZ l k),.bool (tg k l).isSome]else .int .i64 (iZ l k)):=ahm _ _ l ok k rfl
@[simp] theorem ap3(l:List (Int×Bool))(ok:Bool)(k:Int):Dk .i (.bool false) ok (some (qa l)) (.int .i64 k)=some (True,if ok then .tuple [.bool ((tg k l).getD false),.bool (tg k l).isSome]else .bool ((tg k l).getD false)):=ahl _ _ l ok k rfl
@[simp] theorem ap5(l:List (Int×T))(ok:Bool)(k:Int):Dk .i (.agg [.int .i64 0,.int .i64 0,.str [],.slice 4 .nil []]) ok (some (tz l)) (.int .i64 k)=some (True,if ok then .tuple [tM (tg k l),.bool (tg k l).isSome]else tM (tg k l)):=ahn _ _ l ok k rfl
@[simp] theorem arP(o:Option T):dU (tM o)=(o.getD .nil).e:=by cases o<;>simp[tM,NG,dU,di]
@[simp] theorem apI(S:aJ→Prop)(o:Option T):aH S (tM o)=True:=by cases o<;>simp[tM,NG,aH,aN]
@[simp] theorem apS:[ah.hdm 0 []]=jL []:=rfl
def aA:ah:= .eptr (.agg [.gmap (.obj 702),.gmap (.obj 703),.gmap (.obj 704),.gmap (.obj 705),.gmap (.obj 706),.gmap (.obj 707)])
def ay(c:bo):List (aJ×List ah):=[(.obj 702,nq c.up),(.obj 703,tz c.shape),(.obj 704,qa c.shaped),(.obj 705,nq c.color),(.obj 706,nq c.size),(.obj 707,tz c.full)]
def aM(c:bo):cI:=⟨ay c,[]⟩
theorem b9(c:bo):dL (aM c):=by unfold aM ay;exact dL.of ⟨by intro m;simp[Pv.look],by intro m;simp[Pv.look]⟩ (by simp) (by simp)
theorem EA(c cf:bo):Same (aM c) (aM cf):=by
 refine⟨fun k=>?_,fun k=>rfl⟩;simp only[aM,ay,Pv.look];repeat' split
 all_goals rfl
theorem rG(c:bo)(v r:Int)(cf:bo)(he:rt c v=some (r,cf)):bC az 196 [aA,.int .i64 v] (aM c) fun eg s'=>eg= .int .i64 r∧s'=aM cf:=by
 have af:=b9 c;have fM:=b9 cf;have eF:=EA c cf;simp only[rt,gr,jB]at he;obtain⟨⟨ev,m1⟩,he,rfl,rfl⟩:=he;unfold aM ay at af fM eF⊢;simp only at fM eF⊢;unfold aA;refine bC.mk mixed jz abq aib (by simp) af.obj fun aP cF=>?_;unfold Ps;simp;(with_reducible repeat' first|((first|apply bG|apply bL|apply bK)<;>intro h<;>try simp at h)|refine aj ?_|simp);all_goals
  refine ou (α:=Nat×Int×List (Int×Int)) (fun a=>⟨[(0,aA),(1,.int .i64 a.2.1)],[(.obj 702,nq a.2.2),(.obj 703,tz c.shape),(.obj 704,qa c.shaped),(.obj 705,nq c.color),(.obj 706,nq c.size),(.obj 707,tz c.full)],[],0,[.obj 702,.obj 703,.obj 704,.obj 705,.obj 706,.obj 707]⟩) (fun a=>a.1) (fun a=>wY a.1 a.2.2 a.2.1=some (ev,m1)) (v.toNat+1,v,zf v c.up) (by simp[zf,h,aA];exact⟨by simp[fresh,aN,aH,cn,inObs,Pv.look,aA],eM (by simp[fresh,aN,aH,cn,inObs,Pv.look,aA]),eN (by simp[fresh,aN,aH,ej,inObs,Pv.look,aA]),by simp⟩) he ?_
  rintro⟨n,u,m⟩ ag ae
  simp only at ag ae⊢
  cases n with
  |zero=>simp[wY]at ag
  |succ n=>
   simp only[wY]at ag
   simp[aA]
   (with_reducible repeat' first|((first|apply bG|apply bL|apply bK)<;>intro h<;>try simp at h)|refine aj ?_|simp)
   ·rw[if_neg h]at ag
    refine bN.whl (n,iZ (eX u (iZ m (iZ m u)) m) u,eX u (iZ m (iZ m u)) m) (Nat.lt_succ_self n) ag ?_
    simp[aA]
    exact⟨by simp[fresh,aN,aH,cn,inObs,Pv.look,aA],eM (by simp[fresh,aN,aH,cn,inObs,Pv.look,aA]),eN (by simp[fresh,aN,aH,ej,inObs,Pv.look,aA]),by simp⟩
   ·rw[if_pos h]at ag
    cases ag
    refine cJ.at _ (.inl rfl) fM eF aG aG ?_
    simp[cP,V9,aT,aW,aQ]
end Go.Proofs.YtohaalphocaebaaGreat
namespace Go.Proofs.YtohaalphocaebaaGreat
open Go Go.Pv
theorem adz(c:bo)(v r:Int)(cf:bo)(he:rt c v=some (r,cf)):bC az 243 [.int .i64 v,.eptr aA] (aM c) fun eg s'=>eg= .tuple []∧s'=aM cf:=by have af:=b9 c;simp only[aM,ay]at af⊢;refine bC.mk mixed jz abn ah8 (by simp) af.obj fun aP cF=>?_;unfold Pp;simp[aA];(refine cM.ob (rG c v r cf he) (by first|exact b9 _|exact b9 ‹_› _) (by simp only[aM,ay,aA,bR,bY];exact aG) (by simp only[aM,ay,aA,bR,bY];exact aG) (by simp[inObs,Pv.look,aM,ay,aA]) ?_;rintro r s' ⟨rfl,rfl⟩;refine⟨(Same.keys (by simp[aM,ay,aA]) (by simp[aM,ay,aA])),?_⟩;simp[b0,aM,ay,aA]);(refine cJ.at (aM cf) (by simp) (by first|exact b9 _|exact b9 ‹_› _) (Same.keys (by simp[aM,ay,aA]) (by simp[aM,ay,aA])) (by simp only[aM,ay,aA,bR,bY];exact aG) (by simp only[aM,ay,aA,bR,bY];exact aG) ?_;simp[cP,V7,aT,aW,aQ,inObs,Pv.look,aM,ay,aA])
theorem J9(c:bo)(t:T)(cf:bo)(he:AI t c=some cf):bC az 197 [aA,t.e] (aM c) fun eg s'=>eg= .tuple []∧s'=aM cf:=by
 have af:=b9 c;have key:=J5 aM b9 EA 243 [.eptr aA] (fun a=>by simp[aM,ay,aA,inObs,Pv.look]) rfl (fun(v:Int) (c:bo)=>(rt c v).map Prod.snd) (fun v a be h=>by rw[gr]at h;obtain⟨⟨r,bQ⟩,J,rfl⟩:=h;exact adz a v r bQ J) t c cf he
 simp only[aM,ay]at af⊢;refine bC.mk mixed jz abm ah7 (by simp) af.obj fun aP cF=>?_;unfold Po;simp[aA];(refine cM.ob (key) (by first|exact b9 _|exact b9 ‹_› _) (by simp only[aM,ay,aA,bR,bY];exact aG) (by simp only[aM,ay,aA,bR,bY];exact aG) (by simp[inObs,Pv.look,aM,ay,aA]) ?_;rintro r s' ⟨rfl,rfl⟩;refine⟨(Same.keys (by simp[aM,ay,aA]) (by simp[aM,ay,aA])),?_⟩;simp[b0,aM,ay,aA]);(refine cJ.at (aM cf) (by simp) (by first|exact b9 _|exact b9 ‹_› _) (Same.keys (by simp[aM,ay,aA]) (by simp[aM,ay,aA])) (by simp only[aM,ay,aA,bR,bY];exact aG) (by simp only[aM,ay,aA,bR,bY];exact aG) ?_;simp[cP,V6,aT,aW,aQ,inObs,Pv.look,aM,ay,aA])
def eA(K:Nat)(a:bo×List (Int×Bool)):cI:=⟨ay a.1++[(.obj K,qa a.2)],[]⟩
def gf(K:Nat)(a:ua):cI:=⟨ay a.c++[(.obj K,qa a.seen),(.obj 712,[.bool a.found])],[]⟩
def yw(K:Nat):Prop:=K=715∨K=716
theorem ij{K:Nat}(c3:yw K)(a):dL (eA K a):=by unfold eA ay;rcases c3 with rfl|rfl;all_goals exact dL.of ⟨by intro m;simp[Pv.look],by intro m;simp[Pv.look]⟩ (by simp) (by simp)
theorem pO{K:Nat}(c3:yw K)(a):dL (gf K a):=by unfold gf ay;rcases c3 with rfl|rfl;all_goals exact dL.of ⟨by intro m;simp[Pv.look],by intro m;simp[Pv.look]⟩ (by simp) (by simp)
theorem Iw{K:Nat}(a b):Same (gf K a) (gf K b):=by
 refine⟨fun k=>?_,fun k=>rfl⟩;simp only[gf,ay,bR,bY,Pv.look];repeat' split
 all_goals rfl
theorem adF{K:Nat}(c3:yw K)(n:Nat)(x:Int)(wg:∀t c seen a,pE n x t c seen=some a→bC az 244 [aA,t.e,.int .i64 x,.gmap (.obj K)] (eA K (c,seen)) fun r s'=>r= .bool a.found∧s'=eA K (a.c,a.seen))
  (v:Int) (a be:ua) (he:wX (pE n x) x v a=some be):bC az 273 [.int .i64 v,.eptr aA,.ptr (.obj 712) 0,.eptr (.int .i64 x),.eptr (.gmap (.obj K))] (gf K a) fun r s'=>r= .tuple []∧s'=gf K be:=by
 have af:=pO c3 a;simp only[wX,h6]at he;obtain⟨⟨r,bQ⟩,J,U⟩:=he;simp only at U;have ad:=c3;rcases ad with rfl|rfl;all_goals
  simp only[gf,ay,bR,bY]at af⊢
  refine bC.mk mixed jz abp aia (by simp) af.obj fun aP cF=>?_;unfold Pr
  simp[aA]
  (refine cM.ob (rG a.c v r bQ J) (by first|exact b9 _|exact b9 ‹_› _) (by simp only[aM,ay,aA,bR,bY];exact aG) (by simp only[aM,ay,aA,bR,bY];exact aG) (by simp[inObs,Pv.look,aM,ay,aA]) ?_;rintro r s' ⟨rfl,rfl⟩;refine⟨(Same.keys (by simp[aM,ay,aA]) (by simp[aM,ay,aA])),?_⟩;simp[b0,aM,ay,aA])
  obtain⟨ac,sr,IH⟩:=a
  cases IH with
  |true=>
   simp at U;subst U
   (with_reducible repeat' first|refine aj ?_|simp)
   (refine cJ.at (gf _ ⟨bQ,sr,true⟩) (by simp) (by first|exact pO _|exact pO ‹_› _) (Same.keys (by simp[gf,ay,aA]) (by simp[gf,ay,aA])) (by simp only[gf,ay,aA,bR,bY];exact aG) (by simp only[gf,ay,aA,bR,bY];exact aG) ?_;simp[cP,A6,aT,aW,aQ,inObs,Pv.look,gf,ay,aA])
  |false=>
   by_cases ab:r=x
   ·simp[ab]at U;subst U
    (with_reducible repeat' first|refine aj ?_|simp[ab])
    (refine cJ.at (gf _ ⟨bQ,sr,true⟩) (by simp) (by first|exact pO _|exact pO ‹_› _) (Same.keys (by simp[gf,ay,aA]) (by simp[gf,ay,aA])) (by simp only[gf,ay,aA,bR,bY];exact aG) (by simp only[gf,ay,aA,bR,bY];exact aG) ?_;simp[cP,A6,aT,aW,aQ,inObs,Pv.look,gf,ay,aA])
   ·have iq:(r==x)=false:=by simp[ab]
    simp only[ab,gC,or_self,if_false]at U
    cases pj:(tg r sr).getD false with
    |true=>
     simp[pj]at U;subst U
     (with_reducible repeat' first|refine aj ?_|simp[iq,pj])
     (refine cJ.at (gf _ ⟨bQ,sr,false⟩) (by simp) (by first|exact pO _|exact pO ‹_› _) (Same.keys (by simp[gf,ay,aA]) (by simp[gf,ay,aA])) (by simp only[gf,ay,aA,bR,bY];exact aG) (by simp only[gf,ay,aA,bR,bY];exact aG) ?_;simp[cP,A6,aT,aW,aQ,inObs,Pv.look,gf,ay,aA])
    |false=>
     cases gI:bQ.shd r with
     |false=>
      have KW:(tg r bQ.shaped).getD false=false:=gI
      simp[pj,gI]at U;subst U
      (with_reducible repeat' first|refine aj ?_|simp[iq,pj,KW])
      (refine cJ.at (gf _ ⟨bQ,sr,false⟩) (by simp) (by first|exact pO _|exact pO ‹_› _) (Same.keys (by simp[gf,ay,aA]) (by simp[gf,ay,aA])) (by simp only[gf,ay,aA,bR,bY];exact aG) (by simp only[gf,ay,aA,bR,bY];exact aG) ?_;simp[cP,A6,aT,aW,aQ,inObs,Pv.look,gf,ay,aA])
     |true=>
      have KW:(tg r bQ.shaped).getD false=true:=gI
      simp[pj,gI]at U
      have aK:=wg _ _ _ _ U
      (with_reducible repeat' first|refine aj ?_|simp[iq,pj,KW])
      (refine fJ.ob (aK) (by first|exact ij _|exact ij ‹_› _) (by first|exact ij _|exact ij ‹_› _) (Same.keys (by simp[eA,ay,aA]) (by simp[eA,ay,aA])) (by simp only[eA,ay,aA,bR,bY];exact aG) (by simp only[eA,ay,aA,bR,bY];exact aG) (by simp[inObs,Pv.look,eA,ay,aA]) ?_;simp[b0,eA,ay,aA])
      (with_reducible repeat' first|refine aj ?_|simp)
      (refine cJ.at (gf _ be) (by simp) (by first|exact pO _|exact pO ‹_› _) (Same.keys (by simp[gf,ay,aA]) (by simp[gf,ay,aA])) (by simp only[gf,ay,aA,bR,bY];exact aG) (by simp only[gf,ay,aA,bR,bY];exact aG) ?_;simp[cP,A6,aT,aW,aQ,inObs,Pv.look,gf,ay,aA])
theorem Fw{K:Nat}(c3:yw K)(x:Int)(n:Nat):∀(t:T) (c:bo) (seen:List (Int×Bool)) (a:ua),pE n x t c seen=some a→bC az 244 [aA,t.e,.int .i64 x,.gmap (.obj K)] (eA K (c,seen)) fun r s'=>r= .bool a.found∧s'=eA K (a.c,a.seen):=by
 induction n with
 |zero=>intro t c seen a h;simp[pE]at h
 |succ n bP=>
  intro t c seen a h;simp only[pE]at h;have af:=ij c3 (c,seen);have key:=J5 (gf K) (pO c3) Iw 273 [.eptr aA,.ptr (.obj 712) 0,.eptr (.int .i64 x),.eptr (.gmap (.obj K))] (fun a=>by rcases c3 with rfl|rfl<;>simp[gf,ay,aA,inObs,Pv.look]) rfl (wX (pE n x) x) (fun v a be h=>adF c3 n x bP v a be h) t ⟨c,seen,false⟩ a h;have ad:=c3;rcases ad with rfl|rfl;all_goals
   simp only[eA,ay,bR,bY]at af⊢
   refine bC.mk mixed jz abo ah9 (by simp) af.obj fun aP cF=>?_;unfold Pq
   simp[aA]
   refine cM.new key (pO c3 _) (by simp only[gf,ay,aA,bR,bY];exact aG) (by simp only[gf,ay,aA,bR,bY];exact aG) (by simp[inObs,Pv.look,gf,ay,aA]) ?_
   rintro r s' ⟨rfl,rfl⟩
   refine⟨fun m hm=>.inl ⟨?_,Iw _ _⟩,?_⟩
   ·exact((Iw _ _).inObs _).2 hm
   simp[b0,gf,ay]
   (with_reducible repeat' first|refine aj ?_|simp)
   (refine cJ.at (eA _ (a.c,a.seen)) (by simp) (by first|exact ij _|exact ij ‹_› _) (Same.keys (by simp[eA,ay,aA]) (by simp[eA,ay,aA])) (by simp only[eA,ay,aA,bR,bY];exact aG) (by simp only[eA,ay,aA,bR,bY];exact aG) ?_;simp[cP,V8,aT,aW,aQ,inObs,Pv.look,eA,ay,aA])
@[simp] theorem LG:qa []=jL []:=rfl
@[simp] theorem arR(t:T):tM (some t)=t.e:=rfl
@[simp] theorem arQ:tM none= .agg [.int .i64 0,.int .i64 0,.str [],.slice 4 .nil []]:=rfl
theorem Se(n:Nat)(x:Int)(t:T)(c:bo)(p:Bool×bo)(he:uV n x t c=some p):bC az 245 [aA,.int .i64 x,t.e] (aM c) fun r s'=>r= .bool p.1∧s'=aM p.2:=by have af:=b9 c;simp only[uV,gr]at he;obtain⟨a,J,rfl⟩:=he;have c3:yw 715:= .inl rfl;have key:=Fw c3 x n t (c.know x t) [] a J;simp only[aM,ay]at af⊢;refine bC.mk mixed jz abl ah6 (by simp) af.obj fun aP cF=>?_;unfold Pn;simp[aA];(refine cM.ob (key) (by first|exact ij _|exact ij ‹_› _) (by simp only[eA,ay,aA,bo.know,bR,bY];exact aG) (by simp only[eA,ay,aA,bo.know,bR,bY];exact aG) (by simp[inObs,Pv.look,eA,ay,aA,bo.know]) ?_;rintro r s' ⟨rfl,rfl⟩;refine⟨(Same.keys (by simp[eA,ay,aA,bo.know]) (by simp[eA,ay,aA,bo.know])),?_⟩;simp[b0,eA,ay,aA,bo.know]);(refine cJ.at (aM a.c) (by simp) (by first|exact b9 _|exact b9 ‹_› _) (Same.keys (by simp[aM,ay,aA]) (by simp[aM,ay,aA])) (by simp only[aM,ay,aA,bR,bY];exact aG) (by simp only[aM,ay,aA,bR,bY];exact aG) ?_;simp[cP,V5,aT,aW,aQ,inObs,Pv.look,aM,ay,aA])
set_option maxRecDepth 4000 in
theorem Sc(n:Nat):∀(a b:T) (c:bo) (p:Bool×bo),gE n a b c=some p→bC az 198 [aA,a.e,b.e] (aM c) fun r s'=>r= .bool p.1∧s'=aM p.2:=by
 induction n with
 |zero=>intro a b c p h;simp[gE]at h
 |succ n bP=>
  intro a b c p he;have af:=b9 c;have CX:∀i j,a= .var i→b= .var j→bC az 198 [aA,a.e,b.e] (aM c) fun r s'=>r= .bool p.1∧s'=aM p.2:=by
   rintro i j rfl rfl;simp only[gE,h6]at he;obtain⟨⟨x,bQ⟩,J,⟨y,cp⟩,U,ao⟩:=he;simp only at U ao;simp only[aM,ay]at af⊢;refine bC.mk mixed jz xC yy (by simp) af.obj fun aP cF=>?_;unfold vE;simp[aA];(refine cM.ob (rG c i x bQ J) (by first|exact b9 _|exact b9 ‹_› _) (by simp only[aM,ay,aA,bR,bY];exact aG) (by simp only[aM,ay,aA,bR,bY];exact aG) (by simp[inObs,Pv.look,aM,ay,aA]) ?_;rintro r s' ⟨rfl,rfl⟩;refine⟨(Same.keys (by simp[aM,ay,aA]) (by simp[aM,ay,aA])),?_⟩;simp[b0,aM,ay,aA]);(with_reducible repeat' first|refine aj ?_|simp);(refine cM.ob (rG bQ j y cp U) (by first|exact b9 _|exact b9 ‹_› _) (by simp only[aM,ay,aA,bR,bY];exact aG) (by simp only[aM,ay,aA,bR,bY];exact aG) (by simp[inObs,Pv.look,aM,ay,aA]) ?_;rintro r s' ⟨rfl,rfl⟩;refine⟨(Same.keys (by simp[aM,ay,aA]) (by simp[aM,ay,aA])),?_⟩;simp[b0,aM,ay,aA]);by_cases hY:x=y
   ·rw[if_pos hY]at ao;cases ao;(with_reducible repeat' first|refine aj ?_|simp[hY]);(refine cJ.at (aM cp) (by simp) (by first|exact b9 _|exact b9 ‹_› _) (Same.keys (by simp[aM,ay,aA]) (by simp[aM,ay,aA])) (by simp only[aM,ay,aA,bR,bY];exact aG) (by simp only[aM,ay,aA,bR,bY];exact aG) ?_;simp[cP,nX,aT,aW,aQ,inObs,Pv.look,aM,ay,aA])
   ·rw[if_neg hY]at ao;have Al:(x==y)=false:=by simp[hY]
    have Sz:yw 715:= .inl rfl;have aef:yw 716:= .inr rfl;obtain⟨u,v,Ag,a1⟩:∃u v,((u=y∧v=x∧y<x)∨(u=x∧v=y∧¬y<x))∧rB (gE n) n u v (cp.join u v)=some p:=by
     by_cases bm:y<x
     ·rw[if_pos bm]at ao;exact⟨y,x,.inl ⟨rfl,rfl,bm⟩,ao⟩
     ·rw[if_neg bm]at ao;exact⟨x,y,.inr ⟨rfl,rfl,bm⟩,ao⟩
    clear ao;obtain⟨d,aE⟩:∃d,d=cp.join u v:=⟨_,rfl⟩;have fm:d.up=eX v u cp.up:=by rw[aE];rfl
    have eP:d.shape=cp.shape:=by rw[aE];rfl
    have gG:d.shaped=cp.shaped:=by rw[aE];rfl
    have hD:d.color=cp.color:=by rw[aE];rfl
    have hE:d.size=cp.size:=by rw[aE];rfl
    have hF:d.full=cp.full:=by rw[aE];rfl
    rw[←aE]at a1;simp only[rB]at a1;cases aI:d.shd v with
    |false=>
     have mc:(tg v cp.shaped).getD false=false:=by rw[←gG];exact aI
     rw[if_pos aI]at a1;cases hu:d.shd u with
     |false=>
      have uM:(tg u cp.shaped).getD false=false:=by rw[←gG];exact hu
      rw[if_pos hu]at a1;cases a1;rcases Ag with⟨rfl,rfl,bm⟩|⟨rfl,rfl,bm⟩;all_goals
       (with_reducible repeat' first|refine aj ?_|simp[Al,bm,mc,uM])
       (refine cJ.at (aM d) (by simp) (by first|exact b9 _|exact b9 ‹_› _) (Same.keys (by simp[aM,ay,aA,fm,eP,gG,hD,hE,hF]) (by simp[aM,ay,aA,fm,eP,gG,hD,hE,hF])) (by simp only[aM,ay,aA,fm,eP,gG,hD,hE,hF,bR,bY];exact aG) (by simp only[aM,ay,aA,fm,eP,gG,hD,hE,hF,bR,bY];exact aG) ?_;simp[cP,nX,aT,aW,aQ,inObs,Pv.look,aM,ay,aA,fm,eP,gG,hD,hE,hF])
     |true=>
      have uM:(tg u cp.shaped).getD false=true:=by rw[←gG];exact hu
      rw[if_neg (by simp[hu]),gr]at a1;obtain⟨a,b2,rfl⟩:=a1;have key:=Fw Sz u n _ _ _ _ b2;rw[show d.shp u=(tg u cp.shape).getD .nil from by rw[←eP];rfl]at key;rcases Ag with⟨rfl,rfl,bm⟩|⟨rfl,rfl,bm⟩;all_goals
       (with_reducible repeat' first|refine aj ?_|simp[Al,bm,mc,uM])
       (refine cM.ob (key) (by first|exact ij _|exact ij ‹_› _) (by simp only[eA,ay,aA,fm,eP,gG,hD,hE,hF,bR,bY];exact aG) (by simp only[eA,ay,aA,fm,eP,gG,hD,hE,hF,bR,bY];exact aG) (by simp[inObs,Pv.look,eA,ay,aA,fm,eP,gG,hD,hE,hF]) ?_;rintro r s' ⟨rfl,rfl⟩;refine⟨(Same.keys (by simp[eA,ay,aA,fm,eP,gG,hD,hE,hF]) (by simp[eA,ay,aA,fm,eP,gG,hD,hE,hF])),?_⟩;simp[b0,eA,ay,aA,fm,eP,gG,hD,hE,hF])
       (with_reducible repeat' first|refine aj ?_|simp)
       (refine cJ.at (aM a.c) (by simp) (by first|exact b9 _|exact b9 ‹_› _) (Same.keys (by simp[aM,ay,aA]) (by simp[aM,ay,aA])) (by simp only[aM,ay,aA,bR,bY];exact aG) (by simp only[aM,ay,aA,bR,bY];exact aG) ?_;simp[cP,nX,aT,aW,aQ,inObs,Pv.look,aM,ay,aA])
    |true=>
     have mc:(tg v cp.shaped).getD false=true:=by rw[←gG];exact aI
     rw[if_neg (by simp[aI])]at a1;rw[show d.shp v=(tg v cp.shape).getD .nil from by rw[←eP];rfl]at a1;cases hu:d.shd u with
     |false=>
      have uM:(tg u cp.shaped).getD false=false:=by rw[←gG];exact hu
      rw[if_pos hu]at a1;have key:=Se n u _ d p a1;cases aL:tg v cp.shape;all_goals
       rw[aL]at key
       simp only[jr,jq]at key
       rcases Ag with⟨rfl,rfl,bm⟩|⟨rfl,rfl,bm⟩
       all_goals
        (with_reducible repeat' first|refine aj ?_|simp[Al,bm,mc,uM,aL])
        (refine cM.ob (key) (by first|exact b9 _|exact b9 ‹_› _) (by simp only[aM,ay,aA,fm,eP,gG,hD,hE,hF,bR,bY];exact aG) (by simp only[aM,ay,aA,fm,eP,gG,hD,hE,hF,bR,bY];exact aG) (by simp[inObs,Pv.look,aM,ay,aA,fm,eP,gG,hD,hE,hF]) ?_;rintro r s' ⟨rfl,rfl⟩;refine⟨(Same.keys (by simp[aM,ay,aA,fm,eP,gG,hD,hE,hF]) (by simp[aM,ay,aA,fm,eP,gG,hD,hE,hF])),?_⟩;simp[b0,aM,ay,aA,fm,eP,gG,hD,hE,hF])
        (with_reducible repeat' first|refine aj ?_|simp)
        (refine cJ.at (aM p.2) (by simp) (by first|exact b9 _|exact b9 ‹_› _) (Same.keys (by simp[aM,ay,aA]) (by simp[aM,ay,aA])) (by simp only[aM,ay,aA,bR,bY];exact aG) (by simp only[aM,ay,aA,bR,bY];exact aG) ?_;simp[cP,nX,aT,aW,aQ,inObs,Pv.look,aM,ay,aA])
     |true=>
      have uM:(tg u cp.shaped).getD false=true:=by rw[←gG];exact hu
      rw[if_neg (by simp[hu]),h6]at a1;obtain⟨a,b2,dc⟩:=a1;have key:=Fw Sz u n _ _ _ _ b2;obtain⟨o,aL⟩:∃o,tg v cp.shape=o:=⟨_,rfl⟩;rw[aL]at key dc;obtain⟨ac,sr,IH⟩:=a;cases IH with
      |true=>
       simp at dc;subst dc;cases o;all_goals
        simp only[jr,jq]at key
        rcases Ag with⟨rfl,rfl,bm⟩|⟨rfl,rfl,bm⟩
        all_goals
         (with_reducible repeat' first|refine aj ?_|simp[Al,bm,mc,uM,aL])
         (refine fJ.ob (key) (by first|exact ij _|exact ij ‹_› _) (by first|exact ij _|exact ij ‹_› _) (Same.keys (by simp[eA,ay,aA,fm,eP,gG,hD,hE,hF]) (by simp[eA,ay,aA,fm,eP,gG,hD,hE,hF])) (by simp only[eA,ay,aA,fm,eP,gG,hD,hE,hF,bR,bY];exact aG) (by simp only[eA,ay,aA,fm,eP,gG,hD,hE,hF,bR,bY];exact aG) (by simp[inObs,Pv.look,eA,ay,aA,fm,eP,gG,hD,hE,hF]) ?_;simp[b0,eA,ay,aA,fm,eP,gG,hD,hE,hF])
         (with_reducible repeat' first|refine aj ?_|simp)
         (refine cJ.at (aM ac) (by simp) (by first|exact b9 _|exact b9 ‹_› _) (Same.keys (by simp[aM,ay,aA]) (by simp[aM,ay,aA])) (by simp only[aM,ay,aA,bR,bY];exact aG) (by simp only[aM,ay,aA,bR,bY];exact aG) ?_;simp[cP,nX,aT,aW,aQ,inObs,Pv.look,aM,ay,aA])
      |false=>
       simp only[gC,if_false,h6]at dc;obtain⟨b,dX,hW⟩:=dc;have wy:=Fw aef u n _ _ _ _ dX;rw[show ac.shp u=(tg u ac.shape).getD .nil from rfl]at wy;obtain⟨zh,anE,Zx⟩:=b;cases Zx with
       |true=>
        simp at hW;subst hW;cases o;all_goals
         simp only[jr,jq]at key
         rcases Ag with⟨rfl,rfl,bm⟩|⟨rfl,rfl,bm⟩
         all_goals
          (with_reducible repeat' first|refine aj ?_|simp[Al,bm,mc,uM,aL])
          (refine fJ.ob (key) (by first|exact ij _|exact ij ‹_› _) (by first|exact ij _|exact ij ‹_› _) (Same.keys (by simp[eA,ay,aA,fm,eP,gG,hD,hE,hF]) (by simp[eA,ay,aA,fm,eP,gG,hD,hE,hF])) (by simp only[eA,ay,aA,fm,eP,gG,hD,hE,hF,bR,bY];exact aG) (by simp only[eA,ay,aA,fm,eP,gG,hD,hE,hF,bR,bY];exact aG) (by simp[inObs,Pv.look,eA,ay,aA,fm,eP,gG,hD,hE,hF]) ?_;simp[b0,eA,ay,aA,fm,eP,gG,hD,hE,hF])
          (with_reducible repeat' first|refine aj ?_|simp)
          (refine fJ.ob (wy) (by first|exact ij _|exact ij ‹_› _) (by first|exact ij _|exact ij ‹_› _) (Same.keys (by simp[eA,ay,aA]) (by simp[eA,ay,aA])) (by simp only[eA,ay,aA,bR,bY];exact aG) (by simp only[eA,ay,aA,bR,bY];exact aG) (by simp[inObs,Pv.look,eA,ay,aA]) ?_;simp[b0,eA,ay,aA])
          (with_reducible repeat' first|refine aj ?_|simp)
          (refine cJ.at (aM zh) (by simp) (by first|exact b9 _|exact b9 ‹_› _) (Same.keys (by simp[aM,ay,aA]) (by simp[aM,ay,aA])) (by simp only[aM,ay,aA,bR,bY];exact aG) (by simp only[aM,ay,aA,bR,bY];exact aG) ?_;simp[cP,nX,aT,aW,aQ,inObs,Pv.look,aM,ay,aA])
       |false=>
        simp only[gC,if_false]at hW;have Lr:=bP _ _ _ _ hW;rw[show zh.shp u=(tg u zh.shape).getD .nil from rfl]at Lr;cases o;all_goals
         simp only[jr,jq]at key Lr
         rcases Ag with⟨rfl,rfl,bm⟩|⟨rfl,rfl,bm⟩
         all_goals
          (with_reducible repeat' first|refine aj ?_|simp[Al,bm,mc,uM,aL])
          (refine fJ.ob (key) (by first|exact ij _|exact ij ‹_› _) (by first|exact ij _|exact ij ‹_› _) (Same.keys (by simp[eA,ay,aA,fm,eP,gG,hD,hE,hF]) (by simp[eA,ay,aA,fm,eP,gG,hD,hE,hF])) (by simp only[eA,ay,aA,fm,eP,gG,hD,hE,hF,bR,bY];exact aG) (by simp only[eA,ay,aA,fm,eP,gG,hD,hE,hF,bR,bY];exact aG) (by simp[inObs,Pv.look,eA,ay,aA,fm,eP,gG,hD,hE,hF]) ?_;simp[b0,eA,ay,aA,fm,eP,gG,hD,hE,hF])
          (with_reducible repeat' first|refine aj ?_|simp)
          (refine fJ.ob (wy) (by first|exact ij _|exact ij ‹_› _) (by first|exact ij _|exact ij ‹_› _) (Same.keys (by simp[eA,ay,aA]) (by simp[eA,ay,aA])) (by simp only[eA,ay,aA,bR,bY];exact aG) (by simp only[eA,ay,aA,bR,bY];exact aG) (by simp[inObs,Pv.look,eA,ay,aA]) ?_;simp[b0,eA,ay,aA])
          (with_reducible repeat' first|refine aj ?_|simp)
          (refine fJ.ob (Lr) (by first|exact b9 _|exact b9 ‹_› _) (by first|exact b9 _|exact b9 ‹_› _) (Same.keys (by simp[aM,ay,aA]) (by simp[aM,ay,aA])) (by simp only[aM,ay,aA,bR,bY];exact aG) (by simp only[aM,ay,aA,bR,bY];exact aG) (by simp[inObs,Pv.look,aM,ay,aA]) ?_;simp[b0,aM,ay,aA])
          (with_reducible repeat' first|refine aj ?_|simp)
          (refine cJ.at (aM p.2) (by simp) (by first|exact b9 _|exact b9 ‹_› _) (Same.keys (by simp[aM,ay,aA]) (by simp[aM,ay,aA])) (by simp only[aM,ay,aA,bR,bY];exact aG) (by simp only[aM,ay,aA,bR,bY];exact aG) ?_;simp[cP,nX,aT,aW,aQ,inObs,Pv.look,aM,ay,aA])
  have aI:∀i,a= .var i→b.kind≠1→bC az 198 [aA,a.e,b.e] (aM c) fun r s'=>r= .bool p.1∧s'=aM p.2:=by
   rintro i rfl ae;have vW:((rt c i).bind fun p=>if p.2.shd p.1=false then uV n p.1 b p.2 else gE n (p.2.shp p.1) b p.2)=some p:=by cases b<;>first|exact he|simp at ae
   simp only[h6]at vW;obtain⟨⟨x,bQ⟩,J,U⟩:=vW;simp only at U;have gd:(b.kind==1)=false:=by simp[ae]
   simp only[aM,ay]at af⊢;refine bC.mk mixed jz xC yy (by simp) af.obj fun aP cF=>?_;unfold vE;simp[aA];(with_reducible repeat' first|refine aj ?_|simp[gd,ae]);(refine cM.ob (rG c i x bQ J) (by first|exact b9 _|exact b9 ‹_› _) (by simp only[aM,ay,aA,bR,bY];exact aG) (by simp only[aM,ay,aA,bR,bY];exact aG) (by simp[inObs,Pv.look,aM,ay,aA]) ?_;rintro r s' ⟨rfl,rfl⟩;refine⟨(Same.keys (by simp[aM,ay,aA]) (by simp[aM,ay,aA])),?_⟩;simp[b0,aM,ay,aA]);cases ab:bQ.shd x with
   |false=>have iq:(tg x bQ.shaped).getD false=false:=ab;rw[if_pos ab]at U;(with_reducible repeat' first|refine aj ?_|simp[iq]);(refine cM.ob (Se n x b bQ p U) (by first|exact b9 _|exact b9 ‹_› _) (by simp only[aM,ay,aA,bR,bY];exact aG) (by simp only[aM,ay,aA,bR,bY];exact aG) (by simp[inObs,Pv.look,aM,ay,aA]) ?_;rintro r s' ⟨rfl,rfl⟩;refine⟨(Same.keys (by simp[aM,ay,aA]) (by simp[aM,ay,aA])),?_⟩;simp[b0,aM,ay,aA]);(refine cJ.at (aM p.2) (by simp) (by first|exact b9 _|exact b9 ‹_› _) (Same.keys (by simp[aM,ay,aA]) (by simp[aM,ay,aA])) (by simp only[aM,ay,aA,bR,bY];exact aG) (by simp only[aM,ay,aA,bR,bY];exact aG) ?_;simp[cP,nX,aT,aW,aQ,inObs,Pv.look,aM,ay,aA])
   |true=>have iq:(tg x bQ.shaped).getD false=true:=ab;rw[if_neg (by simp[ab])]at U;have key:=bP _ _ _ _ U;(with_reducible repeat' first|refine aj ?_|simp[iq]);(refine fJ.ob (key) (by first|exact b9 _|exact b9 ‹_› _) (by first|exact b9 _|exact b9 ‹_› _) (Same.keys (by simp[aM,ay,aA]) (by simp[aM,ay,aA])) (by simp only[aM,ay,aA,bR,bY];exact aG) (by simp only[aM,ay,aA,bR,bY];exact aG) (by simp[inObs,Pv.look,aM,ay,aA]) ?_;simp[b0,aM,ay,aA]);(with_reducible repeat' first|refine aj ?_|simp);(refine cJ.at (aM p.2) (by simp) (by first|exact b9 _|exact b9 ‹_› _) (Same.keys (by simp[aM,ay,aA]) (by simp[aM,ay,aA])) (by simp only[aM,ay,aA,bR,bY];exact aG) (by simp only[aM,ay,aA,bR,bY];exact aG) ?_;simp[cP,nX,aT,aW,aQ,inObs,Pv.look,aM,ay,aA])
  cases a with
  |var i=>
   cases b with
   |var j=>exact CX i j rfl rfl
   |_=>exact aI i rfl (by simp)
  |pair bt a2=>
   cases b with
   |var j=>simp only[gE]at he;have key:=bP _ _ _ _ he;simp only[aM,ay]at af⊢;refine bC.mk mixed jz xC yy (by simp) af.obj fun aP cF=>?_;unfold vE;simp[aA];(refine cM.ob (key) (by first|exact b9 _|exact b9 ‹_› _) (by simp only[aM,ay,aA,bR,bY];exact aG) (by simp only[aM,ay,aA,bR,bY];exact aG) (by simp[inObs,Pv.look,aM,ay,aA]) ?_;rintro r s' ⟨rfl,rfl⟩;refine⟨(Same.keys (by simp[aM,ay,aA]) (by simp[aM,ay,aA])),?_⟩;simp[b0,aM,ay,aA]);(refine cJ.at (aM p.2) (by simp) (by first|exact b9 _|exact b9 ‹_› _) (Same.keys (by simp[aM,ay,aA]) (by simp[aM,ay,aA])) (by simp only[aM,ay,aA,bR,bY];exact aG) (by simp only[aM,ay,aA,bR,bY];exact aG) ?_;simp[cP,nX,aT,aW,aQ,inObs,Pv.look,aM,ay,aA])
   |pair bM bO=>
    simp only[gE,h6]at he;obtain⟨⟨f1,bQ⟩,J,U⟩:=he;have key:=bP _ _ _ _ J;simp only[aM,ay]at af⊢;refine bC.mk mixed jz xC yy (by simp) af.obj fun aP cF=>?_;unfold vE;simp[aA];(with_reducible repeat' first|refine aj ?_|simp);(refine fJ.ob (key) (by first|exact b9 _|exact b9 ‹_› _) (by first|exact b9 _|exact b9 ‹_› _) (Same.keys (by simp[aM,ay,aA]) (by simp[aM,ay,aA])) (by simp only[aM,ay,aA,bR,bY];exact aG) (by simp only[aM,ay,aA,bR,bY];exact aG) (by simp[inObs,Pv.look,aM,ay,aA]) ?_;simp[b0,aM,ay,aA]);cases f1 with
    |false=>simp at U;subst U;(with_reducible repeat' first|refine aj ?_|simp);(refine cJ.at (aM bQ) (by simp) (by first|exact b9 _|exact b9 ‹_› _) (Same.keys (by simp[aM,ay,aA]) (by simp[aM,ay,aA])) (by simp only[aM,ay,aA,bR,bY];exact aG) (by simp only[aM,ay,aA,bR,bY];exact aG) ?_;simp[cP,nX,aT,aW,aQ,inObs,Pv.look,aM,ay,aA])
    |true=>simp at U;have wy:=bP _ _ _ _ U;(with_reducible repeat' first|refine aj ?_|simp);(refine fJ.ob (wy) (by first|exact b9 _|exact b9 ‹_› _) (by first|exact b9 _|exact b9 ‹_› _) (Same.keys (by simp[aM,ay,aA]) (by simp[aM,ay,aA])) (by simp only[aM,ay,aA,bR,bY];exact aG) (by simp only[aM,ay,aA,bR,bY];exact aG) (by simp[inObs,Pv.look,aM,ay,aA]) ?_;simp[b0,aM,ay,aA]);(with_reducible repeat' first|refine aj ?_|simp);(refine cJ.at (aM p.2) (by simp) (by first|exact b9 _|exact b9 ‹_› _) (Same.keys (by simp[aM,ay,aA]) (by simp[aM,ay,aA])) (by simp only[aM,ay,aA,bR,bY];exact aG) (by simp only[aM,ay,aA,bR,bY];exact aG) ?_;simp[cP,nX,aT,aW,aQ,inObs,Pv.look,aM,ay,aA])
   |_=>simp[gE]at he;subst he;simp only[aM,ay]at af⊢;refine bC.mk mixed jz xC yy (by simp) af.obj fun aP cF=>?_;unfold vE;simp[aA];(refine cJ.at (aM c) (by simp) (by first|exact b9 _|exact b9 ‹_› _) (Same.keys (by simp[aM,ay,aA]) (by simp[aM,ay,aA])) (by simp only[aM,ay,aA,bR,bY];exact aG) (by simp only[aM,ay,aA,bR,bY];exact aG) ?_;simp[cP,nX,aT,aW,aQ,inObs,Pv.look,aM,ay,aA])
  |_=>
   cases b with
   |var j=>simp only[gE]at he;have key:=bP _ _ _ _ he;simp only[aM,ay]at af⊢;refine bC.mk mixed jz xC yy (by simp) af.obj fun aP cF=>?_;unfold vE;simp[aA];(refine cM.ob (key) (by first|exact b9 _|exact b9 ‹_› _) (by simp only[aM,ay,aA,bR,bY];exact aG) (by simp only[aM,ay,aA,bR,bY];exact aG) (by simp[inObs,Pv.look,aM,ay,aA]) ?_;rintro r s' ⟨rfl,rfl⟩;refine⟨(Same.keys (by simp[aM,ay,aA]) (by simp[aM,ay,aA])),?_⟩;simp[b0,aM,ay,aA]);(refine cJ.at (aM p.2) (by simp) (by first|exact b9 _|exact b9 ‹_› _) (Same.keys (by simp[aM,ay,aA]) (by simp[aM,ay,aA])) (by simp only[aM,ay,aA,bR,bY];exact aG) (by simp only[aM,ay,aA,bR,bY];exact aG) ?_;simp[cP,nX,aT,aW,aQ,inObs,Pv.look,aM,ay,aA])
   |_=>
    simp[gE]at he;subst he;simp only[aM,ay]at af⊢;refine bC.mk mixed jz xC yy (by simp) af.obj fun aP cF=>?_;unfold vE;simp[aA];((with_reducible repeat' first|refine aj ?_|simp|((first|apply bG|apply bL|apply bK)<;>intro h<;>try simp at h))<;>(try exact cg));all_goals(refine cJ.at (aM c) (by simp) (by first|exact b9 _|exact b9 ‹_› _) (Same.keys (by simp[aM,ay,aA]) (by simp[aM,ay,aA])) (by simp only[aM,ay,aA,bR,bY];exact aG) (by simp only[aM,ay,aA,bR,bY];exact aG) ?_;simp[cP,nX,aT,aW,aQ,inObs,Pv.look,aM,ay,aA])
    all_goals simp_all
def mn(c:bo):Prop:= ∀x,0≤c.sz x∧c.sz x≤5001
theorem mn.rt{c:bo}(h:mn c){v r:Int}{cf:bo}(he:rt c v=some (r,cf)):mn cf:=by simp only[Pv.rt,gr,jB]at he;obtain⟨p,_,_,rfl⟩:=he;exact h
theorem mn.put{c:bo}(h:mn c){x k:Int}(ad:0≤k∧k≤5001)(m:List (Int×Int)):mn {c with size:=eX x k c.size,color:=m}:=fun z=>by
 show 0≤(tg z (eX x k c.size)).getD 0∧(tg z (eX x k c.size)).getD 0≤5001;rw[nB];split
 ·exact ad
 ·exact h z
theorem adW(c:bo)(v:Int)(p:Int×bo)(he:yS v c=some p):bC az 275 [.int .i64 v,.eptr aA] (aM c) fun r s'=>r= .int .i64 p.1∧s'=aM p.2:=by have af:=b9 c;simp only[yS,gr]at he;obtain⟨⟨r,bQ⟩,J,rfl⟩:=he;simp only[aM,ay]at af⊢;refine bC.mk mixed jz abu aie (by simp) af.obj fun aP cF=>?_;unfold Pw;simp[aA];(refine fJ.ob (rG c v r bQ J) (by first|exact b9 _|exact b9 ‹_› _) (by first|exact b9 _|exact b9 ‹_› _) (Same.keys (by simp[aM,ay,aA]) (by simp[aM,ay,aA])) (by simp only[aM,ay,aA,bR,bY];exact aG) (by simp only[aM,ay,aA,bR,bY];exact aG) (by simp[inObs,Pv.look,aM,ay,aA]) ?_;simp[b0,aM,ay,aA]);(with_reducible repeat' first|refine aj ?_|simp);(refine cJ.at (aM bQ) (by simp) (by first|exact b9 _|exact b9 ‹_› _) (Same.keys (by simp[aM,ay,aA]) (by simp[aM,ay,aA])) (by simp only[aM,ay,aA,bR,bY];exact aG) (by simp only[aM,ay,aA,bR,bY];exact aG) ?_;simp[cP,Wb,aT,aW,aQ,inObs,Pv.look,aM,ay,aA]);all_goals rfl
def gv(a:bo×Bool):cI:=⟨ay a.1++[(.obj 712,[.bool a.2])],[]⟩
theorem qA(a):dL (gv a):=by unfold gv ay;exact dL.of ⟨by intro m;simp[Pv.look],by intro m;simp[Pv.look]⟩ (by simp) (by simp)
theorem YW(a b):Same (gv a) (gv b):=Same.keys (by simp[gv,ay]) (by simp[gv,ay])
theorem adV(n:Nat)(wg:∀x c p,qq n x c=some p→mn c→mn p.2∧bC az 246 [aA,.int .i64 x] (aM c) fun r s'=>r= .bool p.1∧s'=aM p.2)
  (v:Int) (a be:bo×Bool) (aY:mn a.1) (he:y2 (qq n) v a=some be):mn be.1∧bC az 274 [.int .i64 v,.ptr (.obj 712) 0,.eptr aA] (gv a) fun r s'=>r= .tuple []∧s'=gv be:=by
 have af:=qA a;obtain⟨c,f⟩:=a;cases f with
 |false=>simp[y2]at he;subst he;refine⟨aY,?_⟩;simp only[gv,ay,bR,bY]at af⊢;refine bC.mk mixed jz RE Vr (by simp) af.obj fun aP cF=>?_;unfold I2;simp[aA];(with_reducible repeat' first|refine aj ?_|simp);(refine cJ.at (gv (c,false)) (by simp) (by first|exact qA _|exact qA ‹_› _) (Same.keys (by simp[gv,ay,aA]) (by simp[gv,ay,aA])) (by simp only[gv,ay,aA,bR,bY];exact aG) (by simp only[gv,ay,aA,bR,bY];exact aG) ?_;simp[cP,He,aT,aW,aQ,inObs,Pv.look,gv,ay,aA])
 |true=>
  simp only[y2,if_true,h6,gr]at he;obtain⟨⟨r,bQ⟩,J,⟨f2,cp⟩,U,rfl⟩:=he;obtain⟨z2,key⟩:=wg _ _ _ U (aY.rt J);refine⟨z2,?_⟩;simp only[gv,ay,bR,bY]at af⊢;refine bC.mk mixed jz RE Vr (by simp) af.obj fun aP cF=>?_;unfold I2;simp[aA];(with_reducible repeat' first|refine aj ?_|simp);(refine fJ.ob (rG c v r bQ J) (by first|exact b9 _|exact b9 ‹_› _) (by first|exact b9 _|exact b9 ‹_› _) (Same.keys (by simp[aM,ay,aA]) (by simp[aM,ay,aA])) (by simp only[aM,ay,aA,bR,bY];exact aG) (by simp only[aM,ay,aA,bR,bY];exact aG) (by simp[inObs,Pv.look,aM,ay,aA]) ?_;simp[b0,aM,ay,aA]);(with_reducible repeat' first|refine aj ?_|simp);(refine fJ.ob (key) (by first|exact b9 _|exact b9 ‹_› _) (by first|exact b9 _|exact b9 ‹_› _) (Same.keys (by simp[aM,ay,aA]) (by simp[aM,ay,aA])) (by simp only[aM,ay,aA,bR,bY];exact aG) (by simp only[aM,ay,aA,bR,bY];exact aG) (by simp[inObs,Pv.look,aM,ay,aA]) ?_;simp[b0,aM,ay,aA]);cases f2 with
  |true=>(with_reducible repeat' first|refine aj ?_|simp);(refine cJ.at (gv (cp,true)) (by simp) (by first|exact qA _|exact qA ‹_› _) (Same.keys (by simp[gv,ay,aA]) (by simp[gv,ay,aA])) (by simp only[gv,ay,aA,bR,bY];exact aG) (by simp only[gv,ay,aA,bR,bY];exact aG) ?_;simp[cP,He,aT,aW,aQ,inObs,Pv.look,gv,ay,aA])
  |false=>(with_reducible repeat' first|refine aj ?_|simp);(refine cJ.at (gv (cp,false)) (by simp) (by first|exact qA _|exact qA ‹_› _) (Same.keys (by simp[gv,ay,aA]) (by simp[gv,ay,aA])) (by simp only[gv,ay,aA,bR,bY];exact aG) (by simp only[gv,ay,aA,bR,bY];exact aG) ?_;simp[cP,He,aT,aW,aQ,inObs,Pv.look,gv,ay,aA])
theorem adU(n:Nat):∀(x:Int) (c:bo) (p:Bool×bo),qq n x c=some p→mn c→mn p.2∧bC az 246 [aA,.int .i64 x] (aM c) fun r s'=>r= .bool p.1∧s'=aM p.2:=by
 induction n with
 |zero=>intro x c p h;simp[qq]at h
 |succ n bP=>
  intro x c p he aY;have af:=b9 c;simp only[qq]at he;by_cases U:c.col x=2
  ·rw[if_pos U]at he;cases he;have Cn:iZ c.color x=2:=U;refine⟨aY,?_⟩;simp only[aM,ay]at af⊢;refine bC.mk mixed jz B9 Dt (by simp) af.obj fun aP cF=>?_;unfold zl;simp[aA];(with_reducible repeat' first|refine aj ?_|simp[Cn]);(refine cJ.at (aM c) (by simp) (by first|exact b9 _|exact b9 ‹_› _) (Same.keys (by simp[aM,ay,aA]) (by simp[aM,ay,aA])) (by simp only[aM,ay,aA,bR,bY];exact aG) (by simp only[aM,ay,aA,bR,bY];exact aG) ?_;simp[cP,A7,aT,aW,aQ,inObs,Pv.look,aM,ay,aA])
  rw[if_neg U]at he;have Cn:(iZ c.color x==2)=false:=by simp;exact U
  by_cases J:c.col x=1
  ·rw[if_pos J]at he;cases he;have nP:iZ c.color x=1:=J;refine⟨aY,?_⟩;simp only[aM,ay]at af⊢;refine bC.mk mixed jz B9 Dt (by simp) af.obj fun aP cF=>?_;unfold zl;simp[aA];(with_reducible repeat' first|refine aj ?_|simp[nP]);(refine cJ.at (aM c) (by simp) (by first|exact b9 _|exact b9 ‹_› _) (Same.keys (by simp[aM,ay,aA]) (by simp[aM,ay,aA])) (by simp only[aM,ay,aA,bR,bY];exact aG) (by simp only[aM,ay,aA,bR,bY];exact aG) ?_;simp[cP,A7,aT,aW,aQ,inObs,Pv.look,aM,ay,aA])
  rw[if_neg J]at he;have nP:(iZ c.color x==1)=false:=by simp;exact J
  have TR:mn (c.grey x):=aY.put (by omega) _;cases kB:(c.grey x).shd x with
  |false=>rw[if_pos kB]at he;cases he;have tj:(tg x c.shaped).getD false=false:=kB;refine⟨TR,?_⟩;simp only[aM,ay]at af⊢;refine bC.mk mixed jz B9 Dt (by simp) af.obj fun aP cF=>?_;unfold zl;simp[aA];(with_reducible repeat' first|refine aj ?_|simp[Cn,nP,tj]);(refine cJ.at (aM ((c.grey x).black x)) (by simp) (by first|exact b9 _|exact b9 ‹_› _) (Same.keys (by simp[aM,ay,aA,bo.grey,bo.black]) (by simp[aM,ay,aA,bo.grey,bo.black])) (by simp only[aM,ay,aA,bo.grey,bo.black,bR,bY];exact aG) (by simp only[aM,ay,aA,bo.grey,bo.black,bR,bY];exact aG) ?_;simp[cP,A7,aT,aW,aQ,inObs,Pv.look,aM,ay,aA,bo.grey,bo.black])
  |true=>
   rw[if_neg (by simp[kB]),h6]at he;have tj:(tg x c.shaped).getD false=true:=kB;obtain⟨⟨e,f⟩,ao,a1⟩:=he;simp only at a1;obtain⟨YD,key⟩:=Sb gv qA YW 274 [.ptr (.obj 712) 0,.eptr aA] (fun a=>by simp[gv,ay,aA,inObs,Pv.look]) rfl (fun a=>mn a.1) (y2 (qq n)) (fun v a be aY h=>adV n bP v a be aY h) _ _ _ TR ao;rw[show(c.grey x).shp x=(tg x c.shape).getD .nil from rfl]at key;cases f with
   |false=>simp at a1;subst a1;refine⟨YD,?_⟩;simp only[aM,ay]at af⊢;refine bC.mk mixed jz B9 Dt (by simp) af.obj fun aP cF=>?_;unfold zl;simp[aA];(with_reducible repeat' first|refine aj ?_|simp[Cn,nP,tj]);(refine cM.ob (key) (by first|exact qA _|exact qA ‹_› _) (by simp only[gv,ay,aA,bo.grey,bR,bY];exact aG) (by simp only[gv,ay,aA,bo.grey,bR,bY];exact aG) (by simp[inObs,Pv.look,gv,ay,aA,bo.grey]) ?_;rintro r s' ⟨rfl,rfl⟩;refine⟨(Same.keys (by simp[gv,ay,aA,bo.grey]) (by simp[gv,ay,aA,bo.grey])),?_⟩;simp[b0,gv,ay,aA,bo.grey]);(with_reducible repeat' first|refine aj ?_|simp);(refine cJ.at (aM e) (by simp) (by first|exact b9 _|exact b9 ‹_› _) (Same.keys (by simp[aM,ay,aA]) (by simp[aM,ay,aA])) (by simp only[aM,ay,aA,bR,bY];exact aG) (by simp only[aM,ay,aA,bR,bY];exact aG) ?_;simp[cP,A7,aT,aW,aQ,inObs,Pv.look,aM,ay,aA])
   |true=>
    rw[if_neg (by simp),gr]at a1;obtain⟨⟨k,ax⟩,b2,rfl⟩:=a1;obtain⟨z2,bO,wy⟩:=adL aM b9 EA 275 [.eptr aA] (fun a=>by simp[aM,ay,aA,inObs,Pv.look]) rfl mn yS (fun v a p aY h=>by simp only[yS,gr]at h;obtain⟨⟨r,bQ⟩,J,rfl⟩:=h;exact⟨aY.rt J,(aY.rt J r).1,Int.le_trans (aY.rt J r).2 (by omega)⟩) (fun v a p _ h=>adW a v p h) _ _ _ YD b2
    rw[show bo.shp e x=(tg x e.shape).getD .nil from rfl]at wy;refine⟨z2.put bO _,?_⟩;simp only[aM,ay]at af⊢;refine bC.mk mixed jz B9 Dt (by simp) af.obj fun aP cF=>?_;unfold zl;simp[aA];(with_reducible repeat' first|refine aj ?_|simp[Cn,nP,tj]);(refine cM.ob (key) (by first|exact qA _|exact qA ‹_› _) (by simp only[gv,ay,aA,bo.grey,bR,bY];exact aG) (by simp only[gv,ay,aA,bo.grey,bR,bY];exact aG) (by simp[inObs,Pv.look,gv,ay,aA,bo.grey]) ?_;rintro r s' ⟨rfl,rfl⟩;refine⟨(Same.keys (by simp[gv,ay,aA,bo.grey]) (by simp[gv,ay,aA,bo.grey])),?_⟩;simp[b0,gv,ay,aA,bo.grey]);(with_reducible repeat' first|refine aj ?_|simp);(refine fJ.ob (wy) (by first|exact b9 _|exact b9 ‹_› _) (by first|exact b9 _|exact b9 ‹_› _) (Same.keys (by simp[aM,ay,aA]) (by simp[aM,ay,aA])) (by simp only[aM,ay,aA,bR,bY];exact aG) (by simp only[aM,ay,aA,bR,bY];exact aG) (by simp[inObs,Pv.look,aM,ay,aA]) ?_;simp[b0,aM,ay,aA]);(with_reducible repeat' first|refine aj ?_|simp);(refine cJ.at (aM (({ax with size:=eX x k ax.size}:bo).black x)) (by simp) (by first|exact b9 _|exact b9 ‹_› _) (Same.keys (by simp[aM,ay,aA,bo.black]) (by simp[aM,ay,aA,bo.black])) (by simp only[aM,ay,aA,bo.black,bR,bY];exact aG) (by simp only[aM,ay,aA,bo.black,bR,bY];exact aG) ?_;simp[cP,A7,aT,aW,aQ,inObs,Pv.look,aM,ay,aA,bo.black])
theorem adT(n:Nat)(wg:∀x c p,qp n x c=some p→bC az 247 [aA,.int .i64 x] (aM c) fun r s'=>r=p.1.e∧s'=aM p.2)
  (v:Int) (c:bo) (p:T×bo) (he:BF (qp n) v c=some p):bC az 276 [.int .i64 v,.eptr aA] (aM c) fun r s'=>r= .tuple [p.1.e,.bool true]∧s'=aM p.2:=by
 have af:=b9 c;simp only[BF,h6]at he;obtain⟨⟨r,bQ⟩,J,U⟩:=he;have key:=wg _ _ _ U;simp only[aM,ay]at af⊢;refine bC.mk mixed jz abt aid (by simp) af.obj fun aP cF=>?_;unfold Pu;simp[aA];(with_reducible repeat' first|refine aj ?_|simp);(refine fJ.ob (rG c v r bQ J) (by first|exact b9 _|exact b9 ‹_› _) (by first|exact b9 _|exact b9 ‹_› _) (Same.keys (by simp[aM,ay,aA]) (by simp[aM,ay,aA])) (by simp only[aM,ay,aA,bR,bY];exact aG) (by simp only[aM,ay,aA,bR,bY];exact aG) (by simp[inObs,Pv.look,aM,ay,aA]) ?_;simp[b0,aM,ay,aA]);(with_reducible repeat' first|refine aj ?_|simp);(refine fJ.ob (key) (by first|exact b9 _|exact b9 ‹_› _) (by first|exact b9 _|exact b9 ‹_› _) (Same.keys (by simp[aM,ay,aA]) (by simp[aM,ay,aA])) (by simp only[aM,ay,aA,bR,bY];exact aG) (by simp only[aM,ay,aA,bR,bY];exact aG) (by simp[inObs,Pv.look,aM,ay,aA]) ?_;simp[b0,aM,ay,aA]);(with_reducible repeat' first|refine aj ?_|simp);(refine cJ.at (aM p.2) (by simp) (by first|exact b9 _|exact b9 ‹_› _) (Same.keys (by simp[aM,ay,aA]) (by simp[aM,ay,aA])) (by simp only[aM,ay,aA,bR,bY];exact aG) (by simp only[aM,ay,aA,bR,bY];exact aG) ?_;simp[cP,Wa,aT,aW,aQ,inObs,Pv.look,aM,ay,aA])
theorem k6(n:Int):bS az 96 [.int .i64 n] (T.var n).e:=by refine bq jz abM aix fun aP=>?_;unfold PO;exact cB
theorem adS(n:Nat):∀(x:Int) (c:bo) (p:T×bo),qp n x c=some p→bC az 247 [aA,.int .i64 x] (aM c) fun r s'=>r=p.1.e∧s'=aM p.2:=by
 induction n with
 |zero=>intro x c p h;simp[qp]at h
 |succ n bP=>
  intro x c p he;have af:=b9 c;simp only[qp]at he;cases aO:tg x c.full with
  |some t=>rw[aO]at he;cases he;simp only[aM,ay]at af⊢;refine bC.mk mixed jz JM Mc (by simp) af.obj fun aP cF=>?_;unfold EW;simp[aA];(with_reducible repeat' first|refine aj ?_|simp[aO]);(refine cJ.at (aM c) (by simp) (by first|exact b9 _|exact b9 ‹_› _) (Same.keys (by simp[aM,ay,aA]) (by simp[aM,ay,aA])) (by simp only[aM,ay,aA,bR,bY];exact aG) (by simp only[aM,ay,aA,bR,bY];exact aG) ?_;simp[cP,Hd,aT,aW,aQ,inObs,Pv.look,aM,ay,aA])
  |none=>
   rw[aO]at he;simp only at he;cases kB:c.shd x with
   |false=>have tj:(tg x c.shaped).getD false=false:=kB;rw[if_pos kB]at he;cases he;simp only[aM,ay]at af⊢;refine bC.mk mixed jz JM Mc (by simp) af.obj fun aP cF=>?_;unfold EW;simp[aA];(with_reducible repeat' first|refine aj ?_|refine aB (k6 _) ?_|refine aC (k6 _) ?_|simp[aO,tj]);(refine cJ.at (aM {c with full:=eX x (.var x) c.full}) (by simp) (by first|exact b9 _|exact b9 ‹_› _) (Same.keys (by simp[aM,ay,aA]) (by simp[aM,ay,aA])) (by simp only[aM,ay,aA,bR,bY];exact aG) (by simp only[aM,ay,aA,bR,bY];exact aG) ?_;simp[cP,Hd,aT,aW,aQ,inObs,Pv.look,aM,ay,aA])
   |true=>have tj:(tg x c.shaped).getD false=true:=kB;rw[if_neg (by simp[kB]),gr]at he;obtain⟨⟨t,bQ⟩,J,rfl⟩:=he;have key:=ady aM b9 EA 276 [.eptr aA] (fun a=>by simp[aM,ay,aA,inObs,Pv.look]) rfl (BF (qp n)) (fun v a p h=>adT n bP v a p h) _ _ _ J;rw[show c.shp x=(tg x c.shape).getD .nil from rfl]at key;simp only[aM,ay]at af⊢;refine bC.mk mixed jz JM Mc (by simp) af.obj fun aP cF=>?_;unfold EW;simp[aA];(with_reducible repeat' first|refine aj ?_|refine aB (k6 _) ?_|refine aC (k6 _) ?_|simp[aO,tj]);(refine cM.ob (key) (by first|exact b9 _|exact b9 ‹_› _) (by simp only[aM,ay,aA,bR,bY];exact aG) (by simp only[aM,ay,aA,bR,bY];exact aG) (by simp[inObs,Pv.look,aM,ay,aA]) ?_;rintro r s' ⟨rfl,rfl⟩;refine⟨(Same.keys (by simp[aM,ay,aA]) (by simp[aM,ay,aA])),?_⟩;simp[b0,aM,ay,aA]);(with_reducible repeat' first|refine aj ?_|simp);(refine cJ.at (aM {bQ with full:=eX x t bQ.full}) (by simp) (by first|exact b9 _|exact b9 ‹_› _) (Same.keys (by simp[aM,ay,aA]) (by simp[aM,ay,aA])) (by simp only[aM,ay,aA,bR,bY];exact aG) (by simp only[aM,ay,aA,bR,bY];exact aG) ?_;simp[cP,Hd,aT,aW,aQ,inObs,Pv.look,aM,ay,aA])
theorem adA:bC az 195 [] ⟨[],[]⟩ fun r s'=>r=aA∧s'=aM bo.new:=by have af:dL ⟨[],[]⟩:=dL.of u5 (by simp) (by simp);refine bC.mk mixed jz abB aim (by simp) af.obj fun aP cF=>?_;unfold PD;simp;refine cJ.new (aM bo.new) (.inl rfl) (b9 _) ⟨trivial,trivial⟩ (by simp only[aM,ay,bo.new];exact aG) (by simp only[aM,ay,bo.new];exact aG) ?_;simp[cP,Wi,aT,aW,aQ,inObs,Pv.look,aM,ay,aA]
theorem Xo{a b:List Int}(h:a.Perm b):ra a=ra b:=by
 have aL:∀a b c:Int,(decide (a≤b))=true→(decide (b≤c))=true→(decide (a≤c))=true:=by intro a b c;simp;omega
 have Af:∀a b:Int,(decide (a≤b)||decide (b≤a))=true:=by intro a b;simp;omega
 have J:=List.pairwise_mergeSort aL Af a;have U:=List.pairwise_mergeSort aL Af b;refine Oe (le:=fun x y:Int=>(decide (x≤y))=true) (fun x y _ _ J U=>by simp at J U;omega) J U ?_;exact(List.mergeSort_perm a _).trans (h.trans (List.mergeSort_perm b _).symm)
def agq(l:List Int)(k:Nat)(st:bh):Prop:=∃(seen:List Nat) (xs:List Int),seen.Nodup∧(∀b∈seen,b<l.length)∧k=l.length-seen.length∧xs=seen.filterMap (fun b=>l[b]?)∧xs.length=seen.length∧st=⟨[(3,.row 1 (.obj 306) xs.length),(7,.ptr (.loc 0) 0)],[(.obj 304,kr l),(.loc 0,cn l.length seen (.obj 304))],[(.obj 306,⟨xs.length,3,1,some (eu xs)⟩)],1,[.obj 306,.obj 304]⟩
@[simp] theorem ao1(xs:List Int):(eu xs).length=xs.length:=by simp[eu]
@[simp] theorem arM(xs:List Int):di (eu xs)=eu xs:=by
 induction xs with
 |nil=>rfl
 |cons x r bP=>simp only[eu,gP,di,dU]at bP⊢;rw[bP]
@[simp] theorem ao2:eu []=[]:=rfl
theorem agj(xs:List Int)(x:Int):eu xs++[ah.int .i64 x]=eu (xs++[x]):=by simp[eu]
theorem adR(l:List Int)(aq:l.length≤1000000):bC az 189 [.gmap (.obj 304)] (ub l) fun r s'=>r= .slice 1 .no (eu (ra l))∧s'=ub l:=by
 have af:=Oo l;unfold ub at af⊢;refine bC.mk mixed fH abL aiw (by simp) af.obj fun aP cF=>?_;unfold PN;simp;refine mX (agq l) l.length _ ⟨by simp[fresh,aN,aH,cn,inObs,Pv.look,mG,tt],eM (by simp[fresh,aN,aH,cn,inObs,Pv.look,mG,tt]),eN (by simp[fresh,aN,aH,ej,inObs,Pv.look,mG,tt]),by simp⟩ ⟨[],[],by simp,by simp,by simp,by simp,by simp,rfl⟩ ?_;rintro k st ⟨seen,xs,aE,bm,ad,hj,pq,rfl⟩ je cF;clear je cF;have hle:=HN aE bm;simp;refine aac (mk:= .obj 304) (seen:=seen) (l:=l) (by simp) (by simp) rfl (fun lJ=>?_) (fun b x ab ae=>?_)
 ·simp;have we:=Nl aE bm lJ;rw[←hj]at we;refine cM.ob (adP 306 xs (by omega)) (Ix 306 xs) (by unfold mT;exact aG) (by unfold mT;exact aG) (by simp[mT,inObs,Pv.look]) ?_;rintro r s' ⟨rfl,rfl⟩;refine⟨⟨fun _=>rfl,fun k=>by simp only[mT,Pv.look];split<;>rfl⟩,?_⟩;unfold mT;simp[b0,Xn];refine cJ.at _ (.inl rfl) af (Same.refl _) aG aG ?_;simp[cP,Wn,aT,aW,aQ];rw[Xo we];simp[aH,tt]
 ·have zX:∀f:aJ→Option (List ah),f (.loc 0)=some (cn l.length (seen++[b]) (.obj 304))→f (.obj 304)=some (kr l)→pz f (.ptr (.loc 0) 0)=some (True,.tuple [.int .i64 x,.bool true]):=fun f J U=>ahe f (.loc 0) (.obj 304) l.length seen b l x J U rfl ab;have fD:b<l.length:=(fU.1 ab).1;have p0:=Nn aE bm fD ae;simp[zX,agj];refine⟨by unfold lim;omega,?_⟩;refine bN.next (l.length-(seen.length+1)) (by omega) ⟨seen++[b],xs++[x],L5 aE ae,(by simp;intro c ar;rcases ar with ar|rfl;exact bm c ar;exact fD),by simp,by rw[List.filterMap_append,←hj];simp[ab],by simp[pq],rfl⟩ ⟨by simp[fresh,aN,aH,cn,inObs,Pv.look,mG,tt],eM (by simp[fresh,aN,aH,cn,inObs,Pv.look,mG,tt]),eN (by simp[fresh,aN,aH,ej,inObs,Pv.look,mG,tt]),by simp⟩
@[simp] theorem apg(S:aJ→Prop)(xs:List Int):aN S (eu xs)=True:=eq_true (tt S xs)
@[simp] theorem anV:cells .junk=[.junk]:=rfl
def PM:C:=(aa [eJ 6 5,bj 7 false] (aa [cT 12 195 [],I 8 12] (.seq (aa [I 13 0,cv 14 13,cc 15 0] (fe 16 15 14 (.seq (.block 1 (aa [cw 17 5 13 15,aX 18 5 17,cS 10 kj,bz 5 10 18] (aa [I 19 8,aF 20 0 1 10,aw 21 1 20,ck 22 196 19 21] (aa [I 23 8,iv 24 1 4 10,aX 25 4 24,ck 26 197 23 25] (.seq (.drawn false 69 [I 27 8,aF 28 0 1 10,aw 29 1 28,cL 30 96 29,iv 31 1 4 10,aX 32 4 31,cT 33 198 [.t 27,.t 30,.t 32],ct 34 33]) (aZ 34 (aa [eJ 6 5,bj 7 false] .ret) .skip)))))) (.region [aU 35 .add 15 1,I 15 35])))) (.seq (aa [I 36 1,cv 37 36,cc 38 0] (.block 2 (.loop (aa [br 39 .lss 38 37] (.seq (aZ 39 .skip (.exit 2)) (.seq (.block 3 (aa [I 40 38,I 11 40] (aa [I 41 8,I 42 1,I 43 11,cw 44 4 42 43,aX 45 4 44,ck 46 197 41 45] (aa [I 47 8,I 48 2,I 49 11,cw 50 4 48 49,aX 51 4 50,ck 52 197 47 51] (.seq (.drawn false 69 [I 53 8,I 54 1,I 55 11,cw 56 4 54 55,aX 57 4 56,I 58 2,I 59 11,cw 60 4 58 59,aX 61 4 60,cT 62 198 [.t 53,.t 57,.t 61],ct 63 62]) (aZ 63 (aa [eJ 6 5,bj 7 false] .ret) .skip)))))) (.region [aU 64 .add 38 1,I 38 64]))))))) (aa [I 65 8,cL 66 199 65,cd 67 0 66,cd 68 1 66,I 6 67,I 7 68] .ret)))))
@[simp] def MG:List bA:=[.tmp 6,.tmp 7]
def Pt:C:=(aa [eJ 2 5,bj 3 false] (aa [c0 (.mkmap 12 (some 304)),I 4 12] (.seq (aa [I 13 0,eI 14 13,aF 15 0 1 14,aw 16 1 15,c0 (.range 17 none (.t 16))] (.block 0 (.loop (aa [⟨none,.next 18 (.t 17)⟩,cd 19 0 18] (.seq (aZ 19 .skip (.exit 0)) (.block 1 (aa [bW 20 (.ment (.t 17)),cd 21 0 20,I 5 21] (.region [I 22 4,I 23 5,c0 (.mput .i (.t 22) (.t 23) (.c (.bool true)))])))))))) (aa [I 24 4,cL 25 189 24,I 6 25] (aa [c0 (.bslm 26 none 5 61 []),I 7 26] (.seq (aa [I 27 6,cv 28 27,cc 29 0] (.block 2 (.loop (aa [br 30 .lss 29 28] (.seq (aZ 30 .skip (.exit 2)) (.seq (.block 3 (aa [cw 31 1 27 29,aw 32 1 31,I 9 32] (aa [I 33 0,I 34 9,ck 35 196 33 34,I 10 35] (.seq (aa [I 36 0,I 37 10,ck 38 246 36 37,ct 39 38] (aZ 39 (aa [eJ 2 5,bj 3 false] .ret) .skip)) (.seq (aa [I 40 10,I 41 9,br 42 .eql 40 41,I 43 42,bZ 43 true 44 0,al 43 true (eI 45 44),al 43 true (aF 46 2 1 45),al 43 true (aw 47 1 46),bZ 43 true 48 10,al 43 true (bW 49 (.mget .i (.bool false) false (.t 47) (.t 48))),al 43 true (ct 50 49),dv 51 43 50] (aZ 51 (.exit 3) .skip)) (aa [I 52 7,I 53 9,gJ 54 kj [(0,1,(.t 53))],eb 55 5 61 [.t 54],c0 (.appm 56 none 5 61 (.t 52) (.t 55)),I 7 56] (aa [I 57 0,eI 58 57,aF 59 4 1 58,aw 60 1 59,I 61 10,bW 62 (.mget .i (.int .i64 0) false (.t 60) (.t 61)),aU 63 .gtr 62 5000,I 64 63,bZ 64 false 65 7,al 64 false (cv 66 65),al 64 false (aU 67 .gtr 66 400),cW 68 64 67] (aZ 68 (aa [eJ 2 5,bj 3 false] .ret) .skip)))))))) (.region [aU 69 .add 29 1,I 29 69]))))))) (.seq (aa [I 70 7,cv 71 70,cc 72 0] (.block 4 (.loop (aa [br 73 .lss 72 71] (.seq (aZ 73 .skip (.exit 4)) (.seq (.block 5 (aa [I 74 72,I 11 74] (.region [I 75 7,I 76 11,I 77 0,I 78 0,I 79 7,I 80 11,cw 81 5 79 80,aF 82 0 1 81,aw 83 1 82,ck 84 196 78 83,ck 85 247 77 84,cL 86 200 85,cw 87 5 75 76,iv 88 1 4 87,bz 4 88 86]))) (.region [aU 89 .add 72 1,I 72 89]))))))) (.seq (.pub 7 (.region [I 90 7,I 2 90,bj 3 true])) .ret))))))))
@[simp] def Hc:List bA:=[.tmp 2,.tmp 3]
def NM:List (Nat×dx):=[
 (3,⟨1,8,.int .i64,.int .i64 0⟩),
 (4,⟨1,1,.bool,.bool false⟩),
 (23,⟨1,24,.slice 61,.slice 5 .nil []⟩),
 (30,⟨1,24,.slice 32,.slice 4 .nil []⟩),
 (32,⟨4,56,.struct [(0,3),(1,3),(2,9),(3,30)],.agg [.int .i64 0,.int .i64 0,.str [],.slice 4 .nil []]⟩),
 (61,⟨5,64,.struct [(0,3),(1,32)],.agg [.int .i64 0,.int .i64 0,.int .i64 0,.str [],.slice 4 .nil []]⟩),
 (112,⟨1,24,.slice 3,.slice 1 .nil []⟩),
 (154,⟨1,8,.map 3 4,.junk⟩),
 (182,⟨1,8,.map 3 3,.junk⟩),
 (245,⟨6,48,.struct [(0,182),(1,127),(2,154),(3,182),(4,182),(5,127)],.agg [.junk,.junk,.junk,.junk,.junk,.junk]⟩)]
theorem XB:fP az NM=true:=by kernel_rfl
theorem aiv:b4 NM PM MG 3 Tryz.f118=true:=by kernel_rfl
theorem abK:az.funcs[(118:Nat)]? =some Tryz.f118:=Tryz.func118
theorem aic:b4 NM Pt Hc 1 Tryz.f199=true:=by kernel_rfl
theorem abr:az.funcs[(199:Nat)]? =some Tryz.f199:=Tryz.func199
def fb(o:Option (List ak)):ah:= .tuple [.slice 5 .no ((o.getD []).map ak.e),.bool o.isSome]
theorem ahg(f:aJ→Option (List ah))(fp mk:aJ)(n:Nat)(seen:List Nat)(b:Nat)(l:List (Int×Int))(x:Int×Int)(hi:f fp=some (cn n (seen++[b]) mk))(hm:f mk=some (nq l))(au:n=l.length)(ab:l[b]? =some x):pz f (.ptr fp 0)=some (True,.tuple [.int .i64 x.1,.int .i64 x.2]):=by rw[UY f fp mk n seen b _ hi hm (by simpa using au)];simp[ab]
theorem aad{st:bh}{d:Nat}{K:bh→Prop}{fp mk:aJ}{n:Nat}{seen:List Nat}{l:List (Int×Int)}(hi:Pv.look fp st.b=some (cn n seen mk))(hm:Pv.look mk st.b=some (nq l))(au:n=l.length)
  (J:(∀b,b<l.length→b∈seen)→K {st with t:=Pv.put d (.tuple [.bool false]) st.t}) (U:∀b x,l[b]? =some x→b∉seen→K {st with t:=Pv.put d (.tuple [.bool true,.int .i64 x.1,.int .i64 x.2]) st.t,b:=cu fp (cn n (seen++[b]) mk) st.b}):
  sT st d (.ptr fp 0) K:=by
 refine Ru hi hm (by simpa using au) (fun h=>J fun b ae=>h b (by omega)) (fun b k v ae af=>?_);simp only[List.getElem?_map,gr]at ae;obtain⟨x,ai,ax⟩:=ae;simp only[jB]at ax;obtain⟨rfl,rfl⟩:=ax;exact U b x ai af
@[simp] theorem aq6(m:aJ)(l:List (Int×Int)):wW m (nq l)=some (cn l.length [] m):=by simp[nq,sa]
def j6(v:Int):ah:= .agg [.int .i64 v,.int .i64 0,.int .i64 0,.str [],.slice 4 .nil []]
@[simp] theorem agK(S:aJ→Prop)(l:List Int):aN S (l.map j6)=True:=by
 apply eq_true;induction l with
 |nil=>simp[aN]
 |cons x r bP=>simp only[gP,aN];exact⟨by simp[j6,aH,aN],bP⟩
@[simp] theorem aps(S:aJ→Prop)(v:Int):aH S (j6 v)=True:=by simp[j6,aH,aN]
@[simp] theorem arf(v:Int):eL (j6 v)=true:=rfl
@[simp] theorem anI(v:Int):cells (j6 v)=[.int .i64 v,.int .i64 0,.int .i64 0,.str [],.slice 4 .nil []]:=rfl
theorem akQ(v:Int)(f:Nat)(cs:List ah):pG (j6 v) f cs= .agg (nZ [.int .i64 v,.int .i64 0,.int .i64 0,.str [],.slice 4 .nil []] f cs):=rfl
theorem ji{S:aJ→Prop}:∀{a b:List ah},aN S (a++b)↔(aN S a∧aN S b)
 |[],b=>by simp[aN]
 |x::a,b=>by simp[aN,ji (a:=a),and_assoc]
@[simp] theorem ape(S:aJ→Prop)(k:Nat)(l:List Int):aN S (List.drop k (l.map j6))=True:=by rw[←List.map_drop];exact agK S _
@[simp] theorem apA(S:aJ→Prop)(o:Option (List ak)):aH S (fb o)=True:=by simp[fb]
theorem IN(l:List Int)(v:Int):l.map j6++[.agg [.int .i64 v,.int .i64 0,.int .i64 0,.str [],.slice 4 .nil []]]=(l++[v]).map j6:=by simp[j6]
def agl(c:bo)(k:Nat)(st:bh):Prop:=∃(seen:List Nat) (xs:List Int),seen.Nodup∧(∀b∈seen,b<c.up.length)∧k=c.up.length-seen.length∧xs=seen.filterMap (fun b=>(c.up[b]?).map (·.1))∧xs.length=seen.length∧st=⟨[(0,aA),(4,.gmap (.obj 304)),(17,.ptr (.loc 0) 0)],ay c++[(.obj 304,kr xs),(.loc 0,cn c.up.length seen (.obj 702))],[],1,[.obj 304,.obj 702,.obj 703,.obj 704,.obj 705,.obj 706,.obj 707]⟩
theorem ak3{c:bo}{seen:List Nat}(aE:seen.Nodup)(bm:∀b∈seen,b<c.up.length)(lJ:∀b,b<c.up.length→b∈seen):(seen.filterMap fun b=>(c.up[b]?).map (·.1)).Perm (cl c.up):=by have:=Nl (l:=cl c.up) aE (by simpa[cl]using bm) (by simpa[cl]using lJ);simpa[cl]using this
theorem ak4{c:bo}(au:(cl c.up).Nodup){seen:List Nat}{b:Nat}(ae:b∉seen){x:Int×Int}(ab:c.up[b]? =some x):x.1∉seen.filterMap fun b=>(c.up[b]?).map (·.1):=by
 intro hm;rw[List.mem_filterMap]at hm;obtain⟨bV,J,U⟩:=hm;obtain⟨y,ao,a1⟩:=gr.1 U;have ai:(cl c.up)[b]? =some x.1:=by simp[cl,ab]
 have ax:(cl c.up)[bV]? =some x.1:=by simp[cl,ao,a1]
 have bm:=(fU.1 ai).1;have wc:=(fU.1 ax).1;have f1:=(fU.1 ai).2;have f2:=(fU.1 ax).2;rcases Nat.lt_trichotomy b bV with h|h|h
 ·exact pK.1 au b bV bm wc h (f1.trans f2.symm)
 ·subst h;exact ae J
 ·exact pK.1 au bV b wc bm h (f2.trans f1.symm)
set_option maxRecDepth 4000 in
theorem adN(n:Nat)(c:bo)(o:Option (List ak))(he:D6 n (rb (cl c.up)) c=some o)(CJ:(cl c.up).Nodup)(hlen:c.up.length≤1000000)(aY:mn c):bC az 199 [aA] (aM c) fun r s'=>r=fb o∧∃cf,s'=aM cf:=by
 have af:=b9 c;simp only[aM,ay]at af⊢;refine bC.mk mixed XB abr aic (by simp) af.obj fun aP cF=>?_;unfold Pt;simp[aA];have CG:∀S:aJ→Prop,aN S (jL []):=fun S=>mG S [];refine mX (agl c) c.up.length _ ⟨by simp[fresh,aN,aH,cn,inObs,Pv.look,mG,aA,ay,CG],eM (by simp[fresh,aN,aH,cn,inObs,Pv.look,mG,aA,ay,CG]),eN (by simp[fresh,aN,aH,ej,inObs,Pv.look,mG,aA,ay,CG]),by simp⟩ ⟨[],[],by simp,by simp,by simp,by simp,by simp,rfl⟩ ?_;rintro k st ⟨seen,xs,aE,bm,ad,hj,pq,rfl⟩ je cF;clear je cF;have hle:=HN aE bm;simp[ay,aA];refine aad (mk:= .obj 702) (seen:=seen) (l:=c.up) (by simp) (by simp) rfl (fun lJ=>?_) (fun b x ab ae=>?_);rotate_left
 ·have zX:∀f:aJ→Option (List ah),f (.loc 0)=some (cn c.up.length (seen++[b]) (.obj 702))→f (.obj 702)=some (nq c.up)→pz f (.ptr (.loc 0) 0)=some (True,.tuple [.int .i64 x.1,.int .i64 x.2]):=fun f J U=>ahg f (.loc 0) (.obj 702) c.up.length seen b c.up x J U rfl ab;have fD:b<c.up.length:=(fU.1 ab).1;have p0:=Nn aE bm fD ae;have iT:=ak4 CJ ae ab;rw[←hj]at iT;simp[zX,IG,iT];refine bN.next (c.up.length-(seen.length+1)) (by omega) ⟨seen++[b],xs++[x.1],L5 aE ae,(by simp;intro c ar;rcases ar with ar|rfl;exact bm c ar;exact fD),by simp,by rw[List.filterMap_append,←hj];simp[ab],by simp[pq],rfl⟩ ⟨by simp[fresh,aN,aH,cn,inObs,Pv.look,mG,aA,ay],eM (by simp[fresh,aN,aH,cn,inObs,Pv.look,mG,aA,ay]),eN (by simp[fresh,aN,aH,ej,inObs,Pv.look,mG,aA,ay]),by simp⟩
 ·simp;have we:=ak3 aE bm lJ;rw[←hj]at we;have af0:xs.length≤1000000:=by omega
  refine cM.ob (adR xs af0) (Oo _) (by simp only[ub];exact aG) (by simp only[ub];exact aG) (by simp[inObs,ub,Pv.look]) ?_;rintro r s' ⟨rfl,rfl⟩;refine⟨Same.refl _,?_⟩;have Ac:ra xs=rb (cl c.up):=Xo we;rw[Ac];obtain⟨a7,kC⟩:∃a7,a7=rb (cl c.up):=⟨_,rfl⟩;rw[←kC]at he⊢;simp[ub,b0];simp only[D6,h6]at he;obtain⟨res,vX,oz⟩:=he;have oJ:a7.length≤1000000:=by rw[kC,(D9 _).length_eq];simpa[cl]using hlen
  refine iN (α:=bo×List Int) (fun i a=>⟨[(0,aA),(27,.slice 1 .no (eu a7)),(28,.int .i64 a7.length),(7,.row 5 (.loc 1) a.2.length),(29,.int .i64 i)],ay a.1,[(.loc 1,⟨a.2.length,61,5,some (a.2.map j6)⟩)],2,[.obj 702,.obj 703,.obj 704,.obj 705,.obj 706,.obj 707]⟩) a7.length (fun i a=>sq n (a7.drop i) a.1 a.2=some res∧mn a.1∧a.2.length≤400) (c,[]) (by simp[aA,ay];exact⟨by simp[fresh,aN,aH,cn,inObs,Pv.look,mG,aA,ay],eM (by simp[fresh,aN,aH,cn,inObs,Pv.look,mG,aA,ay]),eN (by simp[fresh,aN,aH,ej,inObs,Pv.look,mG,aA,ay]),by simp⟩) ⟨by simpa using vX,aY,by simp⟩ ?_ ?_
  ·rintro⟨bQ,out⟩ ⟨J,U,ao⟩ ae;simp only at J U ao ae⊢;simp[sq]at J;subst J;simp only[gr]at oz;obtain⟨⟨L,ZJ⟩,aeC,rfl⟩:=oz;simp[aA,ay];refine iN (α:=bo×List ak) (fun j a=>⟨[(0,aA),(7,.row 5 (.loc 1) out.length),(71,.int .i64 out.length),(72,.int .i64 j)],ay a.1,[(.loc 1,⟨out.length,61,5,some (a.2.map ak.e++(out.drop j).map j6)⟩)],2,[.obj 702,.obj 703,.obj 704,.obj 705,.obj 706,.obj 707]⟩) out.length (fun j a=>a.2.length=j∧∃rest,yT n (out.drop j) a.1=some (rest,ZJ)∧a.2++rest=L) (bQ,[]) (by simp[aA,ay];exact⟨by simp[fresh,aN,aH,cn,inObs,Pv.look,aA,ay],eM (by simp[fresh,aN,aH,cn,inObs,Pv.look,aA,ay]),eN (by simp[fresh,aN,aH,ej,inObs,Pv.look,aA,ay]),by simp⟩) ⟨rfl,L,by simpa using aeC,rfl⟩ ?_ ?_
   ·rintro⟨cp,done⟩ ⟨a1,rest,b2,dc⟩ ae;simp only at a1 b2 dc ae⊢;simp[yT]at b2;obtain⟨rfl,rfl⟩:=b2;simp at dc;subst dc;simp[aA,ay,a1];refine cJ.at (aM cp) (by simp) (b9 _) (Same.keys (by simp[aM,ay]) (by simp[aM,ay])) (by simp only[aM,ay];exact aG) (by simp only[aM,ay];exact aG) ?_;simp[cP,Hc,aT,aW,aQ,aM,ay,fb];exact⟨cp,by simp⟩
   ·rintro j ⟨cp,done⟩ ag ⟨a1,rest,b2,dc⟩ ae;simp only at a1 b2 dc ae⊢;obtain⟨v,aI⟩:∃v,out[j]? =some v:=⟨_,cb ag⟩;have aE:out.drop j=v::out.drop (j+1):=by rw[k9 ag];rw[cb ag]at aI;cases aI;rfl
    rw[aE]at b2;simp only[yT,h6,gr,jB]at b2;obtain⟨⟨x,ds⟩,dX,⟨t,j7⟩,hW,⟨akN,an3⟩,sW,rfl,rfl⟩:=b2;simp only at hW sW;have key:=adS n x ds _ hW;rw[aE];have hQ:∀R,(done.map ak.e++j6 v::R)[j]? =some (j6 v):=fun R=>by rw[List.getElem?_append_right (by simp;omega)];simp[a1]
    have wi:∀R x,(done.map ak.e++j6 v::R).set j x=done.map ak.e++x::R:=fun R x=>by rw[List.set_append_right _ _ (by simp;omega)];simp[a1]
    simp[aA,ay];(with_reducible repeat' first|refine aj ?_|simp[hQ,ag]);(refine cM.ob (rG cp v x ds dX) (by first|exact b9 _|exact b9 ‹_› _) (by simp only[aM,ay,aA,bR,bY];exact aG) (by simp only[aM,ay,aA,bR,bY];exact aG) (by simp[inObs,Pv.look,aM,ay,aA]) ?_;rintro r s' ⟨rfl,rfl⟩;refine⟨(Same.keys (by simp[aM,ay,aA]) (by simp[aM,ay,aA])),?_⟩;simp[b0,aM,ay,aA]);(with_reducible repeat' first|refine aj ?_|simp);(refine cM.ob (key) (by first|exact b9 _|exact b9 ‹_› _) (by simp only[aM,ay,aA,bR,bY];exact aG) (by simp only[aM,ay,aA,bR,bY];exact aG) (by simp[inObs,Pv.look,aM,ay,aA]) ?_;rintro r s' ⟨rfl,rfl⟩;refine⟨(Same.keys (by simp[aM,ay,aA]) (by simp[aM,ay,aA])),?_⟩;simp[b0,aM,ay,aA]);(with_reducible repeat' first|refine aj ?_|refine aB (tQ _) ?_|refine aC (tQ _) ?_|simp[hQ,wi,ag,akQ,-pG]);refine bN.rng (j7,done++[⟨v,t⟩]) ag ⟨by simp[a1],akN,sW,by simpa using dc⟩ ?_;simp[aA,ay];exact⟨by simp[fresh,aN,aH,cn,inObs,Pv.look,aA,ay,ji],eM (by simp[fresh,aN,aH,cn,inObs,Pv.look,aA,ay,ji]),eN (by simp[fresh,aN,aH,ej,inObs,Pv.look,aA,ay,ji]),by simp⟩
  ·rintro i ⟨bQ,out⟩ hi ⟨J,U,ao⟩ ae;simp only at J U ao ae⊢;obtain⟨v,aI⟩:∃v,a7[i]? =some v:=⟨_,cb hi⟩;have aE:a7.drop i=v::a7.drop (i+1):=by rw[k9 hi];rw[cb hi]at aI;cases aI;rfl
   rw[aE]at J;simp only[sq,h6]at J;obtain⟨⟨x,cp⟩,a1,⟨f,ds⟩,b2,dc⟩:=J;simp only at b2 dc;obtain⟨z3,key⟩:=adU n x cp _ b2 (U.rt a1);have aeS:∀h,(eu a7)[i]'h= .int .i64 v:=fun h=>by rw[cb hi]at aI;simp only[dw]at aI;simp[eu,aI]
   simp[aA,ay];(with_reducible repeat' first|refine aj ?_|simp[aeS,hi]);(refine cM.ob (rG bQ v x cp a1) (by first|exact b9 _|exact b9 ‹_› _) (by simp only[aM,ay,aA,bR,bY];exact aG) (by simp only[aM,ay,aA,bR,bY];exact aG) (by simp[inObs,Pv.look,aM,ay,aA]) ?_;rintro r s' ⟨rfl,rfl⟩;refine⟨(Same.keys (by simp[aM,ay,aA]) (by simp[aM,ay,aA])),?_⟩;simp[b0,aM,ay,aA]);(with_reducible repeat' first|refine aj ?_|simp);(refine cM.ob (key) (by first|exact b9 _|exact b9 ‹_› _) (by simp only[aM,ay,aA,bR,bY];exact aG) (by simp only[aM,ay,aA,bR,bY];exact aG) (by simp[inObs,Pv.look,aM,ay,aA]) ?_;rintro r s' ⟨rfl,rfl⟩;refine⟨(Same.keys (by simp[aM,ay,aA]) (by simp[aM,ay,aA])),?_⟩;simp[b0,aM,ay,aA]);cases f with
   |false=>simp at dc;subst dc;simp at oz;subst oz;(with_reducible repeat' first|refine aj ?_|simp);refine cJ.at (aM ds) (by simp) (b9 _) (Same.keys (by simp[aM,ay]) (by simp[aM,ay])) (by simp only[aM,ay];exact aG) (by simp only[aM,ay];exact aG) ?_;simp[cP,Hc,aT,aW,aQ,aM,ay,fb];exact⟨ds,by simp⟩
   |true=>
    simp only[Bool.true_eq_false,if_false]at dc;by_cases ar:x=v∧ds.shd x=false
    ·rw[if_pos ar]at dc;obtain⟨af1,kB⟩:=ar;subst af1;have tj:(tg x ds.shaped).getD false=false:=kB;(with_reducible repeat' first|refine aj ?_|simp[tj]);refine bN.rng (ds,out) hi ⟨dc,z3,ao⟩ ?_;exact⟨by simp[fresh,aN,aH,cn,inObs,Pv.look,aA,ay],eM (by simp[fresh,aN,aH,cn,inObs,Pv.look,aA,ay]),eN (by simp[fresh,aN,aH,ej,inObs,Pv.look,aA,ay]),by simp⟩
    ·rw[if_neg ar]at dc;have Tt:(x==v)=false∨((x==v)=true∧(tg x ds.shaped).getD false=true):=by
      by_cases e:x=v
      ·right;refine⟨by simp[e],?_⟩;cases ax:ds.shd x with
       |false=>exact absurd ⟨e,ax⟩ ar
       |true=>exact ax
      ·left;simp[e]
     by_cases aq:5000<ds.sz x∨400<out.length+1
     ·rw[if_pos aq]at dc;cases dc;simp at oz;subst oz;have oC:(decide (5000<iZ ds.size x))=true∨(decide (5000<iZ ds.size x)=false∧400<out.length+1):=by
       by_cases e:5000<iZ ds.size x
       ·left;simp[e]
       ·right;exact⟨by simp[e],aq.resolve_left e⟩
      have z6:True:=trivial;have ky:True:=trivial;rcases Tt with bB|⟨bB,z6⟩;all_goals
       rcases oC with bu|⟨bu,ky⟩
       all_goals
        ((with_reducible repeat' first|refine aj ?_|simp[bB,z6,bu,ky]|((first|apply bG|apply bL|apply bK)<;>intro h<;>try simp at h))<;>(try exact cg))
        refine cJ.at (aM ds) (by simp) (b9 _) (Same.keys (by simp[aM,ay]) (by simp[aM,ay])) (by simp only[aM,ay];exact aG) (by simp only[aM,ay];exact aG) ?_
        simp[cP,Hc,aT,aW,aQ,aM,ay,fb]
        exact⟨ds,by simp⟩
     ·rw[if_neg aq]at dc;have bu:decide (5000<iZ ds.size x)=false:=by simp;exact Int.not_lt.1 fun h=>aq (.inl h)
      have ky:¬400<out.length+1:=fun h=>aq (.inr h);have z6:True:=trivial;rcases Tt with bB|⟨bB,z6⟩;all_goals
       ((with_reducible repeat' first|refine aj ?_|simp[bB,z6,bu,ky]|((first|apply bG|apply bL|apply bK)<;>intro h<;>try simp at h))<;>(try exact cg))
       all_goals first|(refine⟨by unfold lim;omega,?_⟩)|skip
       ((with_reducible repeat' first|refine aj ?_|simp[bB,z6,bu,ky]|((first|apply bG|apply bL|apply bK)<;>intro h<;>try simp at h))<;>(try exact cg))
       refine bN.rng (ds,out++[v]) hi ⟨dc,z3,by simp;omega⟩ ?_
       exact⟨by simp[fresh,aN,aH,cn,inObs,Pv.look,aA,ay,IN,ji],eM (by simp[fresh,aN,aH,cn,inObs,Pv.look,aA,ay,IN,ji]),eN (by simp[fresh,aN,aH,ej,inObs,Pv.look,aA,ay,IN,ji]),by simp⟩
theorem NJ:∀{a b:T},a.tm=b.tm→a=b:=by
 intro a;induction a with
 |pair x y ps r3=>intro b h;cases b<;>simp[T.tm]at h;rw[ps h.1,r3 h.2]
 |_=>intro b h;cases b<;>simp[T.tm]at h⊢ <;>exact h
def Y2(l:List dV):Prop:= ∃s:List ak,l=s.map ak.b∧pC s∧hL s∧gu s
def IB(l:List dV):Prop:= ∃s:List ak,l=s.map ak.b∧pC s∧ey s∧gu s
theorem OX:∀{l:List dV},(∀b∈l,b.t.fits=true)→∃s:List ak,l=s.map ak.b∧zD s
 |[],_=>⟨[],rfl,fun b ae=>by simp at ae⟩
 |b::l,h=>by
  obtain⟨s,J,U⟩:=OX (l:=l) fun c ar=>h c (by simp[ar]);obtain⟨x,ao,a1⟩:=bU.fits_ex (h b (by simp));refine⟨⟨b.v,x⟩::s,by rw[J];simp[ak.b,ao],fun c ar=>?_⟩;rcases fA.1 ar with rfl|ar
  ·exact a1
  ·exact U c ar
theorem Ik{l:List dV}:zd l↔Y2 l:=by
 constructor
 ·rintro⟨J,U⟩;obtain⟨s,rfl,aeF⟩:=OX (l:=l) fun b ae=>by obtain⟨i,hi,e⟩:=nG ae;exact(U i hi b (by rw[cb hi,e])).2.2
  have S0:∀b∈s,b.t.ok=true∧b.t.size≤5000:=fun b ae=>by have:=aeF b ae;simpa[T.fit]using this
  refine⟨s,rfl,fun b ae=>⟨?_,(S0 b ae).1⟩,?_,by simpa using J,fun b ae=>(S0 b ae).2⟩
  ·obtain⟨i,hi,e⟩:=nG ae;have:=(U i (by simpa using hi) b.b (by simp[cb hi,e])).1;exact this
  ·rw[hL,pK];have jJ:∀i (h:i+1<s.length),s[i].v<s[i+1].v:=fun i h=>by have:=(U (i+1) (by simpa using h) s[i+1].b (by simp[cb h])).2.1 s[i].b (by omega) (by simp[cb (show i<s.length by omega)]);exact this
   have:∀(d i:Nat) (h:i+d+1<s.length),s[i].v<s[i+d+1].v:=by
    intro d;induction d with
    |zero=>intro i h;exact jJ i h
    |succ d bP=>intro i h;have bt:=bP i (by omega);have a2:=jJ (i+d+1) (by omega);simp only[Nat.add_assoc]at bt a2⊢;omega
   intro i j hi ag l8;have:=this (j-i-1) i (by omega);simpa[show i+(j-i-1)+1=j from by omega]using this
 ·rintro⟨s,rfl,av,bk,aO⟩;refine⟨by simpa using aO.1,fun i hi b ae=>?_⟩;simp only[List.getElem?_map,gr]at ae;obtain⟨c,ar,rfl⟩:=ae;have hm:=fR ar;refine⟨(av c hm).1,fun d bD aE=>?_,?_⟩
  ·simp only[List.getElem?_map,gr]at aE;obtain⟨e,he,rfl⟩:=aE;obtain⟨J,ai⟩:=fU.1 he;obtain⟨U,ax⟩:=fU.1 ar;have:=pK.1 bk (i-1) i J U (by omega);rw[ai,ax]at this;exact this
  ·show c.t.tm.fits=true;rw[bU.fits_T];simp[T.fit,(av c hm).2,aO.2 c hm]
def vI(s:List ak)(v:Int)(f:Bool):Bool:=if 0≤mZ s v then false else f
def mo(s:List ak)(b:ak):Bool:=b.t.fold (vI s) true&& !(b.t.kind==1&&decide (b.v≤b.t.int))
theorem R0{s:List ak}(bk:hL s)(t:T):∀f:Bool,t.fold (vI s) f=true↔f=true∧∀w,t.occ w=true→cV s w=none:=by
 induction t with
 |var n=>
  intro f;simp only[T.fold,T.occ,dK,vI];have:=RY bk n;by_cases h:0≤mZ s n
  ·rw[if_pos h];constructor
   ·intro h;cases h
   ·rintro⟨_,U⟩;have:=this.2 (U n rfl);omega
  ·rw[if_neg h];exact⟨fun aO=>⟨aO,fun w hw=>by subst hw;exact this.1 (by omega)⟩,fun h=>h.1⟩
 |pair a b dQ dR=>
  intro f;simp only[T.fold,dQ,dR,T.occ,lY];constructor
  ·rintro⟨⟨J,U⟩,ao⟩;exact⟨J,fun w hw=>hw.elim (U w) (ao w)⟩
  ·rintro⟨J,U⟩;exact⟨⟨J,fun w hw=>U w (.inl hw)⟩,fun w hw=>U w (.inr hw)⟩
 |_=>intro f;simp[T.fold,T.occ]
theorem IP{s:List ak}(bk:hL s)(b:ak):mo s b=true↔(∀w,b.t.occ w=true→cV s w=none)∧∀w,b.t= .var w→w<b.v:=by
 unfold mo;rw[cx,R0 bk];simp only[true_and];refine and_congr_right fun _=>?_;constructor
 ·intro h w hw;have ad:(b.t.kind==1)=true:=by rw[hw];rfl
  have hi:b.t.int=w:=by rw[hw];rfl
  rw[ad,hi]at h;simpa using h
 ·intro h;cases ad:(b.t.kind==1)with
  |false=>rfl
  |true=>
   obtain⟨w,hw⟩:∃w,b.t= .var w:=by
    cases e:b.t with
    |var w=>exact⟨w,rfl⟩
    |_=>rw[e]at ad;simp at ad
   have hi:b.t.int=w:=by rw[hw];rfl
   have:=h w hw;rw[hi];simpa using this
theorem Xm{s:List ak}(bk:hL s):ey s↔∀b∈s,mo s b=true:=by
 constructor
 ·intro h b ae;exact(IP bk b).2 ⟨h.free b ae,h.ori b ae⟩
 ·intro h;exact⟨bk,fun b ae=>((IP bk b).1 (h b ae)).1,fun b ae=>((IP bk b).1 (h b ae)).2⟩
def pw{α:Type}(p:α→Bool)(s:List α)(i:Nat)(_:Unit):Prop:= ∀k b,k<i→s[k]? =some b→p b=true
theorem pw.step{α:Type}{p:α→Bool}{s:List α}{i:Nat}(h:pw p s i ()){b:α}(ae:s[i]? =some b)(bB:p b=true):pw p s (i+1) ():=fun k c ad ar=>by
 rcases(by omega:k<i∨k=i)with J|rfl
 ·exact h k c J ar
 ·rw[ae]at ar;cases ar;exact bB
open Classical in
noncomputable def gB(l:List dV):Bool:=decide (IB l)
theorem rf{l:List dV}:gB l=true↔IB l:=by unfold gB;simp
def iI(f:Bool):cI:=⟨[(.obj 731,[.bool f])],[]⟩
theorem vw(f:Bool):dL (iI f):=by unfold iI;exact dL.of ⟨by intro m;simp[Pv.look],by intro m;simp[Pv.look]⟩ (by simp) (by simp)
theorem YU(a b:Bool):Same (iI a) (iI b):=Same.keys (by simp[iI]) (by simp[iI])
theorem adl(s:List ak)(aq:s.length≤1000000)(v:Int)(f:Bool):bC az 133 [.int .i64 v,.eptr (.slice 5 .no (s.map ak.e)),.ptr (.obj 731) 0] (iI f) fun r s'=>r= .tuple []∧s'=iI (vI s v f):=by
 have af:=vw f;simp only[iI]at af⊢;by_cases h:0≤mZ s v
 ·rw[vI,if_pos h];refine bC.mk mixed rh RC Vp (by simp) af.obj fun aP cF=>?_;unfold I0;simp;(with_reducible repeat' first|refine aj ?_|refine aB (tS s v aq) ?_|refine aC (tS s v aq) ?_|simp[h]);(refine cJ.at (iI false) (by simp) (by first|exact vw _|exact vw ‹_› _) (Same.keys (by simp[iI]) (by simp[iI])) (by simp only[iI,bR,bY];exact aG) (by simp only[iI,bR,bY];exact aG) ?_;simp[cP,MB,aT,aW,aQ,inObs,Pv.look,iI])
 ·rw[vI,if_neg h];refine bC.mk mixed rh RC Vp (by simp) af.obj fun aP cF=>?_;unfold I0;simp;(with_reducible repeat' first|refine aj ?_|refine aB (tS s v aq) ?_|refine aC (tS s v aq) ?_|simp[h]);(refine cJ.at (iI f) (by simp) (by first|exact vw _|exact vw ‹_› _) (Same.keys (by simp[iI]) (by simp[iI])) (by simp only[iI,bR,bY];exact aG) (by simp only[iI,bR,bY];exact aG) ?_;simp[cP,MB,aT,aW,aQ,inObs,Pv.look,iI])
theorem NQ(l:List dV):bS az 55 [.slice 5 .no (l.map dV.e)] (.bool (gB l)):=by
 have aI:=al8 l;by_cases h:zd l;rotate_left
 ·have bD:gB l=false:=by unfold gB;simp only[hK];rintro⟨s,J,U,ao,a1⟩;exact h (Ik.2 ⟨s,J,U,ao.asc,a1⟩)
  rw[bD];refine bq rh RB Vo fun aP=>?_;unfold IZ;exact cB
 ·obtain⟨s,rfl,av,bk,aO⟩:=Ik.1 h;have aq:s.length≤1000000:=by have:=aO.1;omega
  have ai:(s.map ak.b).map dV.e=s.map ak.e:=by rw[List.map_map];exact List.map_congr_left fun b _=>ak.b_e b
  have bD:gB (s.map ak.b)=s.all (mo s):=by
   rw[qt,ig,rf,←Xm bk];constructor
   ·rintro⟨s',J,U,ao,a1⟩;have:s'=s:=by
     have aeR:∀a b:List ak,a.map ak.b=b.map ak.b→a=b:=by
      intro a;induction a with
      |nil=>intro b ae;cases b<;>simp at ae⊢
      |cons x a bP=>
       intro b ae;cases b with
       |nil=>simp at ae
       |cons y b=>simp only[gP,y7,ak.b,dV.mk.injEq]at ae;rw[bP b ae.2];have:=NJ ae.1.2;obtain⟨⟨hP,_⟩,_⟩:=ae;cases x;cases y;simp_all
     exact(aeR _ _ J).symm
    rw[←this];exact ao
   ·intro ao;exact⟨s,rfl,av,ao,aO⟩
  rw[bD];rw[ai]at aI⊢;refine bq rh RB Vo fun aP=>?_;unfold IZ;simp;(with_reducible repeat' first|refine aj ?_|refine aB aI ?_|refine aC aI ?_|simp[h]);refine iN (α:=Unit) (fun i _=>⟨[(1,.eptr (.slice 5 .no (s.map ak.e))),(9,.slice 5 .no (s.map ak.e)),(10,.int .i64 s.length),(11,.int .i64 i)],[],[],1,[]⟩) s.length (pw (mo s) s) () b3 (fun k b ad=>by omega) (fun _ ag _=>?_) (fun i _ hi ag _=>?_)
  ·have:s.all (mo s)=true:=by rw[ig];intro b ae;obtain⟨k,ad,e⟩:=nG ae;exact ag k b ad (by rw[cb ad,e])
   rw[this];exact cB
  ·obtain⟨b,mc⟩:∃b,s[i]? =some b:=⟨_,cb hi⟩;have gj:∀h,(s[i]'h)=b:=fun h=>by rw[cb hi]at mc;exact e3 mc
   have key:=Sa iI vw YU 133 [.eptr (.slice 5 .no (s.map ak.e)),.ptr (.obj 731) 0] (fun a=>by simp[iI,inObs,Pv.look]) (by simp) (vI s) (fun v a=>adl s aq v a) b.t true;have gF:mo s b=false→s.all (mo s)=false:=fun h=>by rw[Bool.eq_false_iff];intro cr;rw[ig]at cr;rw[cr b (fR mc)]at h;cases h
   simp[hi,gj];(with_reducible repeat' first|refine aj ?_|simp[gj,hi]);(refine cM.ob (key) (by first|exact vw _|exact vw ‹_› _) (by simp only[iI,bR,bY];exact aG) (by simp only[iI,bR,bY];exact aG) (by simp[inObs,Pv.look,iI]) ?_;rintro r s' ⟨rfl,rfl⟩;refine⟨(Same.keys (by simp[iI]) (by simp[iI])),?_⟩;simp[b0,iI]);generalize aeH:b.t.fold (vI s) true=sU;have xN:mo s b=(sU&& !(b.t.kind==1&&decide (b.v≤b.t.int))):=by unfold mo;rw[aeH]
   cases sU with
   |false=>rw[gF (by rw[xN];rfl)];exact cB
   |true=>
    cases ad:(b.t.kind==1)with
    |false=>(with_reducible repeat' first|refine aj ?_|simp[ad]);refine bN.rng () hi (ag.step mc (by rw[xN,ad];rfl)) ?_;exact b3
    |true=>
     by_cases hle:b.v≤b.t.int
     ·rw[gF (by rw[xN,ad];simp[hle])];exact cB
     ·(with_reducible repeat' first|refine aj ?_|simp[ad,hle]);refine bN.rng () hi (ag.step mc (by rw[xN,ad];simp[hle])) ?_;exact b3
@[simp] theorem apm(S:aJ→Prop):aN S (jL [])=True:=eq_true (mG S [])
set_option maxRecDepth 4000 in
theorem adM(n:Nat)(s:List ak)(l r:List T)(aq:l.length=r.length)(kA:s.length≤1000000)(xY:l.length≤1000000)(o:Option (List ak))(he:Bp n (eB s++l.zip r)=some o)
  (hinv:∀c,pS n (eB s++l.zip r) bo.new=some (true,c)→(cl c.up).Nodup∧c.up.length≤1000000∧mn c):bS az 118 [.slice 5 .no (s.map ak.e),.slice 4 .no (l.map T.e),.slice 4 .no (r.map T.e)] (fb o):=by
 obtain⟨E,dk⟩:∃E,E=eB s++l.zip r:=⟨_,rfl⟩;rw[←dk]at he hinv;simp only[Bp,h6]at he;obtain⟨fin,vX,oz⟩:=he;have hlen:E.length=s.length+l.length:=by rw[dk];simp[eB,aq]
 have ad9:∀i b,s[i]? =some b→E.drop i=(.var b.v,b.t)::E.drop (i+1):=fun i b ae=>by
  have hi:=(fU.1 ae).1;have aR:E[i]? =some (.var b.v,b.t):=by rw[dk,List.getElem?_append_left (by simp[eB];exact hi)];simp[eB,ae]
  rw[k9 (by omega)];rw[cb (by omega)]at aR;simp only[dw]at aR;rw[aR]
 have ad8:∀i a b,l[i]? =some a→r[i]? =some b→E.drop (s.length+i)=(a,b)::E.drop (s.length+(i+1)):=fun i a b bk ae=>by
  have hi:=(fU.1 bk).1;have aR:E[s.length+i]? =some (a,b):=by rw[dk,List.getElem?_append_right (by simp[eB])];simp[eB,List.getElem?_zip_eq_some,bk,ae]
  rw[k9 (by omega)];rw[cb (by omega)]at aR;simp only[dw]at aR;rw[aR];rfl
 refine bq XB abK aiv fun aP=>?_;unfold PM;simp;refine cM.new adA (dL.of u5 (by simp) (by simp)) (fun k cs h=>by simp[Pv.look]at h) (fun k cs h=>by simp[Pv.look]at h) (by simp) ?_;rintro r0 s0 ⟨rfl,rfl⟩;refine⟨fun m hm=>.inr (by simp),?_⟩;simp[aM,ay,b0,aA];refine iN (α:=bo) (fun i c=>⟨[(1,.slice 4 .no (l.map T.e)),(2,.slice 4 .no (r.map T.e)),(8,aA),(13,.slice 5 .no (s.map ak.e)),(14,.int .i64 s.length),(15,.int .i64 i)],ay c,[],0,[.obj 702,.obj 703,.obj 704,.obj 705,.obj 706,.obj 707]⟩) s.length (fun i c=>pS n (E.drop i) c=some fin) bo.new (by simp[aA,ay];exact⟨by simp[fresh,aN,aH,cn,inObs,Pv.look,aA,ay,bo.new],eM (by simp[fresh,aN,aH,cn,inObs,Pv.look,aA,ay,bo.new]),eN (by simp[fresh,aN,aH,ej,inObs,Pv.look,aA,ay,bo.new]),by simp⟩) (by simpa using vX) ?_ ?_
 ·rintro c J ae;simp[aA,ay];refine iN (α:=bo) (fun i c=>⟨[(1,.slice 4 .no (l.map T.e)),(2,.slice 4 .no (r.map T.e)),(8,aA),(37,.int .i64 l.length),(38,.int .i64 i)],ay c,[],0,[.obj 702,.obj 703,.obj 704,.obj 705,.obj 706,.obj 707]⟩) l.length (fun i c=>pS n (E.drop (s.length+i)) c=some fin) c (by simp[aA,ay];exact⟨by simp[fresh,aN,aH,cn,inObs,Pv.look,aA,ay],eM (by simp[fresh,aN,aH,cn,inObs,Pv.look,aA,ay]),eN (by simp[fresh,aN,aH,ej,inObs,Pv.look,aA,ay]),by simp⟩) J ?_ ?_
  ·rintro bQ J ae;rw[List.drop_eq_nil_of_le (by omega)]at J;simp[pS]at J;subst J;simp at oz;obtain⟨aV,bf,bI⟩:=hinv bQ vX;simp[aA,ay];refine cM.ob (adN n bQ o oz aV bf bI) (b9 _) (by simp only[aM,ay];exact aG) (by simp only[aM,ay];exact aG) (by simp[inObs,Pv.look,aM,ay,aA]) ?_;rintro r0 s0 ⟨rfl,cf,rfl⟩;refine⟨Same.keys (by simp[aM,ay]) (by simp[aM,ay]),?_⟩;simp[b0,aM,ay,fb];exact cB
  ·rintro i c hi J ae;simp only at J ae⊢;obtain⟨a,bk⟩:∃a,l[i]? =some a:=⟨_,cb hi⟩;obtain⟨b,gd⟩:∃b,r[i]? =some b:=⟨_,cb (by omega)⟩;have nh:∀h,(l[i]'h)=a:=fun h=>by rw[cb hi]at bk;exact e3 bk
   have cz:∀h,(r[i]'h)=b:=fun h=>by rw[cb h]at gd;exact e3 gd
   have rR:i<r.length:=by omega
   rw[ad8 i a b bk gd]at J;simp only[pS,h6]at J;obtain⟨bQ,U,cp,ao,⟨f,ds⟩,a1,b2⟩:=J;simp only at a1 b2;have key:=Sc n _ _ _ _ a1;simp[aA,ay];(with_reducible repeat' first|refine aj ?_|simp[nh,cz,hi,rR]);(refine cM.ob (J9 c a bQ U) (by first|exact b9 _|exact b9 ‹_› _) (by simp only[aM,ay,aA,bR,bY];exact aG) (by simp only[aM,ay,aA,bR,bY];exact aG) (by simp[inObs,Pv.look,aM,ay,aA]) ?_;rintro r s' ⟨rfl,rfl⟩;refine⟨(Same.keys (by simp[aM,ay,aA]) (by simp[aM,ay,aA])),?_⟩;simp[b0,aM,ay,aA]);(with_reducible repeat' first|refine aj ?_|simp[nh,cz,hi,rR]);(refine cM.ob (J9 bQ b cp ao) (by first|exact b9 _|exact b9 ‹_› _) (by simp only[aM,ay,aA,bR,bY];exact aG) (by simp only[aM,ay,aA,bR,bY];exact aG) (by simp[inObs,Pv.look,aM,ay,aA]) ?_;rintro r s' ⟨rfl,rfl⟩;refine⟨(Same.keys (by simp[aM,ay,aA]) (by simp[aM,ay,aA])),?_⟩;simp[b0,aM,ay,aA]);(with_reducible repeat' first|refine aj ?_|simp[nh,cz,hi,rR]);(refine fJ.ob (key) (by first|exact b9 _|exact b9 ‹_› _) (by first|exact b9 _|exact b9 ‹_› _) (Same.keys (by simp[aM,ay,aA]) (by simp[aM,ay,aA])) (by simp only[aM,ay,aA,bR,bY];exact aG) (by simp only[aM,ay,aA,bR,bY];exact aG) (by simp[inObs,Pv.look,aM,ay,aA]) ?_;simp[b0,aM,ay,aA]);cases f with
   |false=>simp at b2;subst b2;simp at oz;subst oz;(with_reducible repeat' first|refine aj ?_|simp);simp[bp,MG,aT,aW,aQ];simp[fb]
   |true=>simp at b2;(with_reducible repeat' first|refine aj ?_|simp);refine bN.rng ds hi b2 ?_;simp[aA,ay];exact⟨by simp[fresh,aN,aH,cn,inObs,Pv.look,aA,ay],eM (by simp[fresh,aN,aH,cn,inObs,Pv.look,aA,ay]),eN (by simp[fresh,aN,aH,ej,inObs,Pv.look,aA,ay]),by simp⟩
 ·rintro i c hi J ae;simp only at J ae⊢;obtain⟨b,aI,gj⟩:=eZ hi;rw[ad9 i b aI]at J;simp only[pS,h6]at J;obtain⟨bQ,U,cp,ao,⟨f,ds⟩,a1,b2⟩:=J;simp only[AI,T.foldO,gr]at U;obtain⟨⟨x,O2⟩,U,rfl⟩:=U;simp only at U ao a1 b2;have key:=Sc n _ _ _ _ a1;simp[aA,ay];(with_reducible repeat' first|refine aj ?_|simp[gj,hi]);(refine cM.ob (rG c b.v x O2 U) (by first|exact b9 _|exact b9 ‹_› _) (by simp only[aM,ay,aA,bR,bY];exact aG) (by simp only[aM,ay,aA,bR,bY];exact aG) (by simp[inObs,Pv.look,aM,ay,aA]) ?_;rintro r s' ⟨rfl,rfl⟩;refine⟨(Same.keys (by simp[aM,ay,aA]) (by simp[aM,ay,aA])),?_⟩;simp[b0,aM,ay,aA]);(with_reducible repeat' first|refine aj ?_|simp);(refine cM.ob (J9 O2 b.t cp ao) (by first|exact b9 _|exact b9 ‹_› _) (by simp only[aM,ay,aA,bR,bY];exact aG) (by simp only[aM,ay,aA,bR,bY];exact aG) (by simp[inObs,Pv.look,aM,ay,aA]) ?_;rintro r s' ⟨rfl,rfl⟩;refine⟨(Same.keys (by simp[aM,ay,aA]) (by simp[aM,ay,aA])),?_⟩;simp[b0,aM,ay,aA]);(with_reducible repeat' first|refine aj ?_|refine aB (k6 _) ?_|refine aC (k6 _) ?_|simp);(refine fJ.ob (key) (by first|exact b9 _|exact b9 ‹_› _) (by first|exact b9 _|exact b9 ‹_› _) (Same.keys (by simp[aM,ay,aA]) (by simp[aM,ay,aA])) (by simp only[aM,ay,aA,bR,bY];exact aG) (by simp only[aM,ay,aA,bR,bY];exact aG) (by simp[inObs,Pv.look,aM,ay,aA]) ?_;simp[b0,aM,ay,aA]);cases f with
  |false=>simp at b2;subst b2;simp at oz;subst oz;(with_reducible repeat' first|refine aj ?_|simp);simp[bp,MG,aT,aW,aQ];simp[fb]
  |true=>simp at b2;(with_reducible repeat' first|refine aj ?_|simp);refine bN.rng ds hi b2 ?_;simp[aA,ay];exact⟨by simp[fresh,aN,aH,cn,inObs,Pv.look,aA,ay],eM (by simp[fresh,aN,aH,cn,inObs,Pv.look,aA,ay]),eN (by simp[fresh,aN,aH,ej,inObs,Pv.look,aA,ay]),by simp⟩
theorem Yn(s:List ak)(l r:List T)(aq:l.length=r.length)(af:ey s)(aO:gu s)(av:pC s)(xY:l.length≤1000000)(J:∀t∈l,t.ok=true)(U:∀t∈r,t.ok=true):
  bS az 118 [.slice 5 .no (s.map ak.e),.slice 4 .no (l.map T.e),.slice 4 .no (r.map T.e)] (fb (mgu s (l.zip r))):=by
 have dk:∀e∈eB s++l.zip r,e.1.ok=true∧e.2.ok=true:=fun e he=>by
  rcases iH.1 he with he|he
  ·obtain⟨b,ae,rfl⟩:=hJ.1 he;have:=av b ae;exact⟨by simpa[T.ok]using this.1,this.2⟩
  ·exact⟨J _ (List.of_mem_zip he).1,U _ (List.of_mem_zip he).2⟩
 have bD:L6 (eB s++l.zip r):=fun e he v aI=>by
  rcases aI with aI|aI
  ·exact(xc (dk e he).1 aI).1
  ·exact(xc (dk e he).2 aI).1
 obtain⟨n,o,aV,bf,bI⟩:=alr _ bD;rw[nU (Y0.1 bf)];refine adM n s l r aq (by have:=aO.1;omega) xY o aV fun c ar=>?_;obtain⟨bt,a2,a3⟩:=bI c ar;have:=Un bt fun v aI=>by
  obtain⟨e,he,aI⟩:=a2 v aI;rcases aI with aI|aI
  ·exact xc (dk e he).1 aI
  ·exact xc (dk e he).2 aI
 refine⟨bt,by simp[cl]at this;omega,fun x=>?_⟩;simp[bo.sz,a3,tg]
structure dn (s:List ak):Prop where
 ok:pC s
 sol:ey s
 fits:gu s
theorem dn.len{s:List ak}(h:dn s):s.length≤1000000:=by have:=h.fits.1;omega
theorem dn.fit{s:List ak}(h:dn s):zD s:=fun b ae=>by simp[T.fit,(h.ok b ae).2,h.fits.2 b ae]
theorem dn.mgu{s:List ak}(h:dn s){E:List (T×T)}(dk:∀e∈E,e.1.ok=true∧e.2.ok=true){s':List ak}(hm:mgu s E=some s'):dn s':=⟨ahp h.sol h.fits h.ok dk hm,(q5 h.sol h.fits hm).1,(q5 h.sol h.fits hm).2⟩
theorem yp(s:List ak):(s.map ak.b).map dV.e=s.map ak.e:=by rw[List.map_map];exact List.map_congr_left fun b _=>ak.b_e b
theorem oV{s:List ak}(h:dn s):bS az 55 [.slice 5 .no (s.map ak.e)] (.bool true):=by have:=NQ (s.map ak.b);rw[yp,rf.2 ⟨s,rfl,h.ok,h.sol,h.fits⟩]at this;exact this
def agC(t:List ak)(i:Nat)(p:List T×List T):Prop:=p.1=(t.take i).map (fun b=>T.var b.v)∧p.2=(t.take i).map (·.t)
theorem amc(t:List ak)(aL:t.length≤1000000):bS az 201 [.slice 5 .no (t.map ak.e)] (.tuple [.slice 4 .no ((t.map fun b=>T.var b.v).map T.e),.slice 4 .no ((t.map (·.t)).map T.e)]):=by
 generalize bH:((t.map fun b=>T.var b.v).map T.e)=R1;generalize SB:((t.map fun x=>x.t).map T.e)=R2;have gz:∀S:aJ→Prop,aN S R1=True:=fun S=>by rw[←bH];exact Us S _
 have ka:∀S:aJ→Prop,aN S R2=True:=fun S=>by rw[←SB];exact Us S _
 refine bS.mk mixed rh abx aii (by simp) (by simp[aH,gz,ka]) fun aP=>?_;unfold Pz;simp;refine iN (α:=List T×List T) (fun i p=>⟨[(10,.slice 5 .no (t.map ak.e)),(11,.int .i64 t.length),(4,.slice 4 (.own (.loc 0)) (p.1.map T.e)),(5,.slice 4 (.own (.loc 1)) (p.2.map T.e)),(12,.int .i64 i)],[],[(.loc 0,⟨p.1.length,32,4,none⟩),(.loc 1,⟨p.2.length,32,4,none⟩)],2,[]⟩) t.length (agC t) ([],[]) b3 ⟨by simp,by simp⟩ (fun p ag _=>?_) (fun i p hi ag _=>?_)
 ·obtain⟨A,B⟩:=p;obtain⟨ba,gU⟩:=ag;simp only at ba gU⊢;rw[hb (ff _)]at ba gU;rw[←bH,←SB,←ba,←gU];simp;(with_reducible repeat' first|refine aj ?_|simp);simp[bp,Wf,aT,aW,aQ]
 ·obtain⟨A,B⟩:=p;obtain⟨ba,gU⟩:=ag;simp only at ba gU⊢;obtain⟨b,aI,gj⟩:=eZ hi;have qY:t.take (i+1)=t.take i++[b]:=by rw[List.take_succ,aI];rfl
  have ad5:A.length≤1000000:=by rw[ba];simp;omega
  have ad6:B.length≤1000000:=by rw[gU];simp;omega
  simp[hi,gj];((with_reducible repeat' first|refine aj ?_|refine aB (k6 _) ?_|refine aC (k6 _) ?_|simp[gj,hi]|((first|apply bG|apply bL|apply bK)<;>intro h<;>try simp at h))<;>(try exact cg));all_goals first|(refine⟨by unfold lim;omega,?_⟩)|skip
  (with_reducible repeat' first|refine aj ?_|simp);all_goals first|(refine⟨by unfold lim;omega,?_⟩)|skip
  (with_reducible repeat' first|refine aj ?_|simp);refine bN.rng (A++[.var b.v],B++[b.t]) hi ⟨by rw[qY,ba];simp,by rw[qY,gU];simp⟩ ?_;simp;exact⟨by simp[fresh,aN,aH,cn,inObs,Pv.look,ji],eM (by simp[fresh,aN,aH,cn,inObs,Pv.look,ji]),eN (by simp[fresh,aN,aH,ej,inObs,Pv.look,ji]),by simp⟩
theorem alZ{s t:List ak}(af:dn s)(aL:dn t):bS az 122 [.slice 5 .no (s.map ak.e),.slice 5 .no (t.map ak.e)] (fb (mgu s (eB t))):=by
 have aY:(t.map fun b=>T.var b.v).zip (t.map (·.t))=eB t:=by rw[eB,List.zip_map']
 have key:=Yn s (t.map fun b=>T.var b.v) (t.map (·.t)) (by simp) af.sol af.fits af.ok (by simpa using aL.len) (fun x ab=>by
  obtain⟨b,ae,rfl⟩:=hJ.1 ab;have:=aL.ok b ae;simpa[T.ok]using this.1) (fun x ab=>by
  obtain⟨b,ae,rfl⟩:=hJ.1 ab;exact(aL.ok b ae).2)
 rw[aY]at key;have heq:=amc t aL.len;generalize (t.map fun b=>T.var b.v)=A at key heq;generalize (t.map fun x=>x.t)=B at key heq;refine bq rh aa8 ahT fun aP=>?_;unfold O9;simp;(with_reducible repeat' first|refine aj ?_|refine aB (oV af) ?_|refine aC (oV af) ?_|refine aB (oV aL) ?_|refine aC (oV aL) ?_|refine aB heq ?_|refine aC heq ?_|refine aB key ?_|refine aC key ?_|simp);simp[bp,V1,aT,aW,aQ];simp[fb]
end Go.Proofs.YtohaalphocaebaaGreat
namespace Go.Pv
open Go
structure jC {α:Type} (c:α→α→Int):Prop where
 neg:∀a b,c b a= -c a b
 tr:∀a b d,c a b≤0→c b d≤0→c a d≤0
 zero:∀a b,c a b=0↔a=b
section
variable {α:Type} {c:α→α→Int}
def hR(c:α→α→Int)(a b:α):Bool:=decide (c a b<0)
theorem jC.ltOk(h:jC c):qy (hR c):=by
 refine⟨fun x y hY=>?_,fun x y z J U=>?_⟩
 ·simp only[hR,fo,hK]at hY⊢;rw[h.neg x y];omega
 ·simp only[hR,hK]at J U⊢;have ai:=h.neg x y;have ax:=h.neg y z;have bn:=h.neg x z;have:=h.tr x y z (by omega) (by omega);omega
theorem jC.refl(h:jC c)(a:α):c a a=0:=(h.zero a a).2 rfl
theorem jC.ltr(h:jC c){a b d:α}(J:c a b<0)(U:c b d≤0):c a d<0:=by
 have ao:=h.tr a b d (by omega) U;rcases(by omega:c a d<0∨c a d=0)with a1|a1
 ·exact a1
 ·obtain rfl:=(h.zero a d).1 a1;have:=h.neg a b;omega
def n1(c:α→α→Int)(l:List α):List α:=l.mergeSort fun x y=>decide (c x y≤0)
theorem w3(c:α→α→Int)(l:List α):(n1 c l).Perm l:=List.mergeSort_perm l _
theorem Nw(h:jC c)(l:List α):(n1 c l).Pairwise fun x y=>c x y≤0:=by have:=List.pairwise_mergeSort (le:=fun x y=>decide (c x y≤0)) (fun a b d J U=>by simp at J U⊢;exact h.tr a b d J U) (fun a b=>by simp;have:=h.neg a b;omega) l;exact this.imp (by simp)
theorem Xq(h:jC c){l l':List α}(bB:l'.Perm l)(af:l'.Pairwise fun x y=>hR c y x=false):l'=n1 c l:=by refine Oe (le:=fun x y=>c x y≤0) (fun x y _ _ J U=>(h.zero x y).1 (by have:=h.neg x y;omega)) (af.imp fun{x y} hY=>?_) (Nw h l) (bB.trans (w3 c l).symm);simp only[hR,hK]at hY;have:=h.neg x y;omega
def cE[DecidableEq α](p:Option α):List α→List α
 |[]=>[]
 |x::r=>if p=some x then cE (some x) r else x::cE (some x) r
def asc[DecidableEq α](c:α→α→Int)(l:List α):List α:=cE none (n1 c l)
def gR(c:α→α→Int)(l:List α):Prop:=l.Pairwise fun x y=>c x y<0
variable [DecidableEq α]
theorem Rc:∀(l:List α) (p:Option α),(cE p l).length≤l.length
 |[],_=>by simp[cE]
 |x::r,p=>by have:=Rc r (some x);simp only[cE];split<;>simp<;>omega
theorem Zr(c:α→α→Int)(l:List α):(asc c l).length≤l.length:=by have J:=Rc (n1 c l) none;have U:=(w3 c l).length_eq;unfold asc;omega
theorem Jp:∀(l:List α) (p:Option α) (x:α),x∈cE p l→x∈l
 |[],_,_,h=>by simp[cE]at h
 |y::r,p,x,h=>by
  simp only[cE]at h;split at h
  ·exact lA _ (Jp r _ x h)
  ·rcases fA.1 h with rfl|h
   ·simp
   ·exact lA _ (Jp r _ x h)
theorem LP:∀(l:List α) (p:Option α) (x:α),x∈l→x∈cE p l∨p=some x
 |y::r,p,x,h=>by
  simp only[cE];rcases fA.1 h with rfl|h
  ·split
   ·rename_i U;exact .inr U
   ·simp
  ·split
   ·rename_i U;rcases LP r (some y) x h with ao|ao
    ·exact .inl ao
    ·cases ao;exact .inr U
   ·rcases LP r (some y) x h with ao|ao
    ·exact .inl (lA _ ao)
    ·cases ao;simp
theorem Re(ar:jC c):∀(l:List α) (p:Option α),l.Pairwise (fun x y=>c x y≤0)→(∀y,p=some y→∀x∈l,c y x≤0)→gR c (cE p l)∧∀y,p=some y→∀x∈cE p l,c y x<0
 |[],p,_,_=>⟨ar1,fun y _ x ab=>by simp[cE]at ab⟩
 |z::r,p,h,bB=>by
  obtain⟨J,U⟩:=mP.1 h;have bP:=Re ar r (some z) U (fun y aD x ab=>by cases aD;exact J x ab);simp only[cE];split
  ·rename_i ao;subst ao;exact bP
  ·rename_i ao;refine⟨mP.2 ⟨fun x ab=>bP.2 z rfl x ab,bP.1⟩,fun y aD x ab=>?_⟩;subst aD;have r1:c y z<0:=by
    have a1:=bB y rfl z (by simp);rcases(by omega:c y z<0∨c y z=0)with b2|b2
    ·exact b2
    ·exact absurd (eU some ((ar.zero y z).1 b2)) ao
   rcases fA.1 ab with rfl|ab
   ·exact r1
   ·exact ar.ltr r1 (by have:=bP.2 z rfl x ab;omega)
theorem BU(ar:jC c)(l:List α):gR c (asc c l):=(Re ar _ none (Nw ar l) (fun y h=>by cases h)).1
theorem LO(l:List α)(x:α):x∈asc c l↔x∈l:=by
 constructor
 ·intro h;exact(w3 c l).mem_iff.1 (Jp _ _ _ h)
 ·intro h;rcases LP (n1 c l) none x ((w3 c l).mem_iff.2 h)with h|h
  ·exact h
  ·cases h
omit [DecidableEq α]in
theorem gR.ext(ar:jC c){l l':List α}(h:gR c l)(cr:gR c l')(hm:∀x,x∈l↔x∈l'):l=l':=by
 have aE:∀{l:List α},gR c l→l.Nodup:=fun{l} h=>h.imp fun{a b} h e=>by subst e;have:=ar.refl a;omega
 refine Oe (le:=fun x y=>c x y≤0) (fun x y _ _ J U=>(ar.zero x y).1 (by have:=ar.neg x y;omega)) (h.imp fun h=>by omega) (cr.imp fun h=>by omega) ?_;exact(List.perm_ext_iff_of_nodup (aE h) (aE cr)).2 hm
omit [DecidableEq α]in
theorem gR.nodup(ar:jC c){l:List α}(h:gR c l):l.Nodup:=h.imp fun{a b} h e=>by subst e;have:=ar.refl a;omega
end
theorem IS:∀a b:List cQ,hB a b=true→hB b a=false
 |_,[],h=>by simp[hB]at h
 |[],_::_,_=>by simp[hB]
 |x::a,y::b,h=>by
  simp only[hB,lY,fo,cx,dK]at h;simp only[hB,Bool.or_eq_false_iff,hK,Bool.and_eq_false_iff];rcases h with h|⟨rfl,h⟩
  ·refine⟨fun U=>?_,.inl ?_⟩
   ·rw[UInt8.lt_iff_toNat_lt]at h U;omega
   ·simp;intro e;subst e;rw[UInt8.lt_iff_toNat_lt]at h;omega
  ·exact⟨fun U=>by rw[UInt8.lt_iff_toNat_lt]at U;omega,.inr (IS a b h)⟩
theorem OT:∀a b:List cQ,a≠b→hB a b=false→hB b a=true
 |[],[],h,_=>absurd rfl h
 |x::a,[],_,_=>by simp[hB]
 |[],_::_,_,h=>by simp[hB]at h
 |x::a,y::b,cD,h=>by
  simp only[hB,Bool.or_eq_false_iff,hK,Bool.and_eq_false_iff]at h;simp only[hB,lY,fo,cx,dK];by_cases e:x=y
  ·subst e;right;refine⟨rfl,OT a b (fun e=>cD (by rw[e])) ?_⟩;rcases h.2 with U|U
   ·simp at U
   ·exact U
  ·left;have J:=h.1;rw[UInt8.lt_iff_toNat_lt]at J⊢;have:x.toNat≠y.toNat:=fun h=>e (UInt8.toNat_inj.1 h);omega
theorem OS:∀a b d:List cQ,hB a b=true→hB b d=true→hB a d=true
 |_,[],_,h,_=>by simp[hB]at h
 |_,_::_,[],_,h=>by simp[hB]at h
 |[],_::_,_::_,_,_=>by simp[hB]
 |x::a,y::b,z::d,J,U=>by
  simp only[hB,lY,fo,cx,dK,UInt8.lt_iff_toNat_lt]at J U⊢;rcases J with J|⟨rfl,J⟩<;>rcases U with U|⟨rfl,U⟩
  ·left;omega
  ·left;exact J
  ·left;exact U
  ·exact .inr ⟨rfl,OS a b d J U⟩
theorem km:jC ez:=by
 refine⟨fun a b=>?_,fun a b d=>?_,fun a b=>?_⟩
 ·simp only[ez];repeat' split
  all_goals omega
 ·simp only[ez];repeat' split
  all_goals omega
 ·simp only[ez];repeat' split
  all_goals omega
theorem Dz:jC kI:=by
 have au:∀a b,kI b a= -kI a b:=fun a b=>by
  simp only[kI];by_cases e:a=b
  ·subst e;simp
  ·rw[if_neg e,if_neg (la e)];cases h:hB a b with
   |true=>simp[IS a b h]
   |false=>simp[OT a b e h]
 refine⟨au,fun a b d J U=>?_,fun a b=>?_⟩
 ·simp only[kI]at J U⊢;by_cases ai:a=b
  ·subst ai;exact U
  ·by_cases ax:b=d
   ·subst ax;exact J
   ·rw[if_neg ai]at J;rw[if_neg ax]at U;have g1:hB a b=true:=by cases h:hB a b<;>simp[h]at J⊢
    have g2:hB b d=true:=by cases h:hB b d<;>simp[h]at U⊢
    rw[OS a b d g1 g2];split<;>simp
 ·simp only[kI];by_cases e:a=b
  ·simp[e]
  ·rw[if_neg e];simp[e];split<;>omega
theorem sf{a b:T}(h:a.kind≠b.kind):eo a b=ez a.kind b.kind:=by cases a<;>cases b<;>simp at h<;>simp[eo]
theorem G3:∀a b:T,eo b a= -eo a b
 | .pair a b,.pair c d=>by
  simp only[eo];have J:=G3 a c;have U:=G3 b d;by_cases e:eo a c=0
  ·rw[if_pos e,if_pos (by omega),U]
  ·rw[if_neg e,if_neg (by omega),J]
 | .nil,y=>by
  by_cases ad:T.nil.kind=y.kind
  ·cases y<;>simp at ad;simp[eo,kI]
  ·rw[sf ad,sf (la ad),km.neg]
 | .var n,y=>by
  by_cases ad:(T.var n).kind=y.kind
  ·cases y<;>simp at ad;rename_i m;by_cases e:n=m
   ·subst e;simp[eo,kI]
   ·simp[eo,e,la e,km.neg n m]
  ·rw[sf ad,sf (la ad),km.neg]
 | .sym s,y=>by
  by_cases ad:(T.sym s).kind=y.kind
  ·cases y<;>simp at ad;rename_i m;simp[eo,Dz.neg s m]
  ·rw[sf ad,sf (la ad),km.neg]
 | .num n,y=>by
  by_cases ad:(T.num n).kind=y.kind
  ·cases y<;>simp at ad;rename_i m;by_cases e:n=m
   ·subst e;simp[eo,kI]
   ·simp[eo,e,la e,km.neg n m]
  ·rw[sf ad,sf (la ad),km.neg]
 | .pair a b,.nil| .pair a b,.var _| .pair a b,.sym _| .pair a b,.num _=>by simp[eo,ez]
theorem G2{a b:T}(h:eo a b≤0):a.kind≤b.kind:=by
 by_cases ad:a.kind=b.kind
 ·omega
 ·rw[sf ad]at h;simp only[ez]at h;repeat' split at h
  all_goals omega
theorem VM(n m:Int):eo (.var n) (.var m)=ez n m:=by
 simp only[eo,T.kind,T.int,T.name,kI];by_cases e:n=m
 ·subst e;simp[ez]
 ·simp[e]
theorem VL(n m:Int):eo (.num n) (.num m)=ez n m:=by
 simp only[eo,T.kind,T.int,T.name,kI];by_cases e:n=m
 ·subst e;simp[ez]
 ·simp[e]
theorem ajF(n m:List cQ):eo (.sym n) (.sym m)=kI n m:=by simp[eo]
theorem G4(a b d:T)(bk:a.kind≠4)(J:eo a b≤0)(U:eo b d≤0):eo a d≤0:=by
 have aS:=G2 J;have bc:=G2 U;by_cases ad:a.kind=d.kind
 ·cases a<;>cases d<;>simp at ad bk;all_goals(cases b<;>simp at aS bc)
  ·simp[eo,kI]
  ·rw[VM]at J U⊢;exact km.tr _ _ _ J U
  ·rw[ajF]at J U⊢;exact Dz.tr _ _ _ J U
  ·rw[VL]at J U⊢;exact km.tr _ _ _ J U
 ·rw[sf ad];simp only[ez];repeat' split
  all_goals omega
theorem ajG:∀a b d:T,eo a b≤0→eo b d≤0→eo a d≤0:=by
 intro a;induction a with
 |pair bt a2 Gf Gg=>
  intro b d J U;have aS:=G2 J;have bc:=G2 U;cases b<;>simp at aS;all_goals(cases d<;>simp at bc)
  rename_i bM bO d1 d2;simp only[eo]at J U⊢;by_cases ai:eo bt bM=0
  ·obtain rfl:=(q7 bt bM).1 ai;rw[if_pos ai]at J;by_cases ax:eo bt d1=0
   ·rw[if_pos ax]at U⊢;exact Gg bO d2 J U
   ·rw[if_neg ax]at U⊢;exact U
  ·rw[if_neg ai]at J;by_cases ax:eo bM d1=0
   ·obtain rfl:=(q7 bM d1).1 ax;rw[if_neg ai];exact J
   ·rw[if_neg ax]at U;have ao:=Gf bM d1 J U;by_cases bn:eo bt d1=0
    ·obtain rfl:=(q7 bt d1).1 bn;have:=G3 bt bM;omega
    ·rw[if_neg bn];exact ao
 |nil=>exact fun b d=>G4 _ b d (by simp)
 |var n=>exact fun b d=>G4 _ b d (by simp)
 |sym n=>exact fun b d=>G4 _ b d (by simp)
 |num n=>exact fun b d=>G4 _ b d (by simp)
theorem Mo:jC eo:=⟨G3,ajG,q7⟩
end Go.Pv
namespace Go.Proofs.YtohaalphocaebaaGreat
open Go Go.Pv
theorem oT{α:Type}{t:List α}{i:Nat}{b:α}(aI:t[i]? =some b):t.take (i+1)=t.take i++[b]:=by rw[List.take_succ,aI];rfl
def cR(s t:List ak):List ak:=t.filter fun b=>(cV s b.v).isNone
def q1(s t:List ak)(i:Nat)(out:List ak):Prop:=out=cR s (t.take i)
theorem XS{s t:List ak}(af:dn s)(aL:dn t):bS az 123 [.slice 5 .no (s.map ak.e),.slice 5 .no (t.map ak.e)] (.slice 5 .no ((cR s t).map ak.e)):=by
 have afL:=aL.len;generalize bH:cR s t=R;refine bq rh abd ahY fun aP=>?_;unfold Pe;simp;(with_reducible repeat' first|refine aj ?_|refine aB (oV af) ?_|refine aC (oV af) ?_|refine aB (oV aL) ?_|refine aC (oV aL) ?_|simp);refine iN (α:=List ak) (fun i out=>⟨[(0,.slice 5 .no (s.map ak.e)),(17,.slice 5 .no (t.map ak.e)),(18,.int .i64 t.length),(5,.slice 5 (.own (.loc 0)) (out.map ak.e)),(19,.int .i64 i)],[],[(.loc 0,⟨out.length,61,5,none⟩)],1,[]⟩) t.length (q1 s t) [] b3 (by simp[q1,cR]) (fun out ag _=>?_) (fun i out hi ag _=>?_)
 ·rw[q1,hb (ff _),bH]at ag;rw[←ag];exact cB
 ·obtain⟨b,aI,gj⟩:=eZ hi;have zZ:out.length≤1000000:=by
   have:out.length≤(t.take i).length:=by rw[ag];exact List.length_filter_le _ _
   simp at this;omega
  have qP:=RY af.sol.asc b.v;simp[hi,gj];by_cases ae:mZ s b.v<0
  ·(with_reducible repeat' first|refine aj ?_|refine aB (tS s b.v af.len) ?_|refine aC (tS s b.v af.len) ?_|refine aB (tQ _) ?_|refine aC (tQ _) ?_|simp[gj,hi,ae]);all_goals first|(refine⟨by unfold lim;omega,?_⟩)|skip
   (with_reducible repeat' first|refine aj ?_|simp);refine bN.rng (out++[b]) hi (by rw[q1,oT aI,cR,List.filter_append,ag];simp[cR,qP.1 ae]) ?_;simp;exact⟨by simp[fresh,aN,aH,cn,inObs,Pv.look,ji],eM (by simp[fresh,aN,aH,cn,inObs,Pv.look,ji]),eN (by simp[fresh,aN,aH,ej,inObs,Pv.look,ji]),by simp⟩
  ·(with_reducible repeat' first|refine aj ?_|refine aB (tS s b.v af.len) ?_|refine aC (tS s b.v af.len) ?_|simp[gj,hi,ae]);refine bN.rng out hi (by
    have:cV s b.v≠none:=fun e=>ae (qP.2 e);rw[q1,oT aI,cR,List.filter_append,ag];cases e:cV s b.v with
    |none=>exact absurd e this
    |some x=>simp[cR,e]) ?_
   exact b3
def Gl(t:List ak)(i:Nat)(out:List ak):Prop:=out=t.take i
theorem Ee(t:List ak)(aL:t.length≤1000000):bS az 119 [.slice 5 .no (t.map ak.e)] (.slice 5 .no (t.map ak.e)):=by
 refine bq rh abv aif fun aP=>?_;unfold Px;simp;refine iN (α:=List ak) (fun i out=>⟨[(7,.slice 5 .no (t.map ak.e)),(8,.int .i64 t.length),(3,.slice 5 (.own (.loc 0)) (out.map ak.e)),(9,.int .i64 i)],[],[(.loc 0,⟨out.length,61,5,none⟩)],1,[]⟩) t.length (Gl t) [] b3 (by simp[Gl]) (fun out ag _=>?_) (fun i out hi ag _=>?_)
 ·rw[Gl,hb (ff _)]at ag;subst ag;exact cB
 ·obtain⟨b,aI,gj⟩:=eZ hi;have zZ:out.length≤1000000:=by rw[ag];simp;omega
  simp[hi,gj];(with_reducible repeat' first|refine aj ?_|refine aB (tQ _) ?_|refine aC (tQ _) ?_|simp[gj,hi]);all_goals first|(refine⟨by unfold lim;omega,?_⟩)|skip
  (with_reducible repeat' first|refine aj ?_|simp);refine bN.rng (out++[b]) hi (by rw[Gl,oT aI,ag]) ?_;simp;exact⟨by simp[fresh,aN,aH,cn,inObs,Pv.look,ji],eM (by simp[fresh,aN,aH,cn,inObs,Pv.look,ji]),eN (by simp[fresh,aN,aH,ej,inObs,Pv.look,ji]),by simp⟩
def qc(t:List ak)(b:ak):Bool:=decide (bF t b.v=b.t.ap (bF t))
def hS(s t:List ak):Bool:=s.all (qc t)
theorem D3{t:List ak}(aL:dn t)(v:Int):(bF t v).size≤5000:=by
 unfold bF;cases e:cV t v with
 |none=>simp[T.size]
 |some x=>exact aL.fits.2 _ (jS e)
theorem Yi(s:List ak){t:List ak}(af:s.length≤1000000)(aL:dn t):bS az 205 [.slice 5 .no (s.map ak.e),.slice 5 .no (t.map ak.e)] (.bool (hS s t)):=by
 refine bq rh abA ail fun aP=>?_;unfold PC;simp;refine eC [1,11,12] (fun i (_:Unit)=>[(13,.int .i64 i)]) s.length (pw (qc t) s) () b3 (fun k b ad=>by omega) (fun _ ag _=>?_) (fun i _ hi ag _=>?_)
 ·have:hS s t=true:=by rw[hS,ig];intro b ae;obtain⟨k,ad,e⟩:=nG ae;exact ag k b ad (by rw[cb ad,e])
  rw[this];exact cB
 ·obtain⟨b,aI,gj⟩:=eZ hi;have gF:qc t b=false→hS s t=false:=fun h=>by rw[Bool.eq_false_iff];intro cr;rw[hS,ig]at cr;rw[cr b (fR aI)]at h;cases h
  have aS:=Ii t (.var b.v) aL.len aL.sol.asc aL.fit;have bc:=Ii t b.t aL.len aL.sol.asc aL.fit;have yb:=D3 aL b.v;have Ge:((T.var b.v).ap (bF t)).size≤5000:=yb;rw[if_pos Ge,kp Ge]at aS;rw[show(T.var b.v).ap (bF t)=bF t b.v from rfl]at aS;simp[hi,gj];by_cases aY:(b.t.ap (bF t)).size≤5000
  ·rw[if_pos aY,kp aY]at bc;by_cases he:bF t b.v=b.t.ap (bF t)
   ·rw[he]at aS;(with_reducible repeat' first|refine aj ?_|refine aB (k6 _) ?_|refine aC (k6 _) ?_|refine aB aS ?_|refine aC aS ?_|refine aB bc ?_|refine aC bc ?_|refine aB (tR _ _) ?_|refine aC (tR _ _) ?_|simp[gj,hi,he]);exact bN.rng () hi (ag.step aI (by simp[qc,he])) b3
   ·rw[gF (by simp[qc,he])];(with_reducible repeat' first|refine aj ?_|refine aB (k6 _) ?_|refine aC (k6 _) ?_|refine aB aS ?_|refine aC aS ?_|refine aB bc ?_|refine aC bc ?_|refine aB (tR _ _) ?_|refine aC (tR _ _) ?_|simp[gj,hi,he]);simp[bp,MD,aT,aW,aQ]
  ·rw[if_neg aY,lB aY]at bc;rw[gF (by simp only[qc,hK];intro e;rw[←e]at aY;exact aY yb)];(with_reducible repeat' first|refine aj ?_|refine aB (k6 _) ?_|refine aC (k6 _) ?_|refine aB aS ?_|refine aC aS ?_|refine aB bc ?_|refine aC bc ?_|refine aB (tR _ _) ?_|refine aC (tR _ _) ?_|simp[gj,hi]);simp[bp,MD,aT,aW,aQ]
end Go.Proofs.YtohaalphocaebaaGreat
namespace Go.Pv
open Go
section
variable {α:Type} {c:α→α→Int}
def jZ(c:α→α→Int):List α→List α→Int
 |[],[]=>0
 |[],_::_=> -1
 |_::_,[]=>1
 |x::xs,y::ys=>if c x y=0 then jZ c xs ys else c x y
theorem UF(h:jC c):∀a b:List α,jZ c b a= -jZ c a b
 |[],[]=>rfl
 |[],_::_=>rfl
 |_::_,[]=>rfl
 |x::xs,y::ys=>by
  simp only[jZ];have J:=h.neg x y;by_cases e:c x y=0
  ·rw[if_pos e,if_pos (by omega),UF h xs ys]
  ·rw[if_neg e,if_neg (by omega),J]
theorem UH(h:jC c):∀a b:List α,jZ c a b=0↔a=b
 |[],[]=>by simp[jZ]
 |[],_::_=>by simp[jZ]
 |_::_,[]=>by simp[jZ]
 |x::xs,y::ys=>by
  simp only[jZ,y7];by_cases e:c x y=0
  ·rw[if_pos e,UH h xs ys];simp[(h.zero x y).1 e]
  ·rw[if_neg e];exact⟨fun cr=>absurd cr e,fun cr=>absurd ((h.zero x y).2 cr.1) e⟩
theorem UG(h:jC c):∀a b d:List α,jZ c a b≤0→jZ c b d≤0→jZ c a d≤0
 |[],_,[],_,_=>by simp[jZ]
 |[],_,_::_,_,_=>by simp[jZ]
 |_::_,[],_,J,_=>by simp[jZ]at J
 |_::_,_::_,[],_,U=>by simp[jZ]at U
 |x::xs,y::ys,z::c0,J,U=>by
  simp only[jZ]at J U⊢;by_cases ai:c x y=0
  ·have:=(h.zero x y).1 ai;subst this;rw[if_pos ai]at J;by_cases ax:c x z=0
   ·rw[if_pos ax]at U⊢;exact UG h xs ys c0 J U
   ·rw[if_neg ax]at U⊢;exact U
  ·rw[if_neg ai]at J;have bm:c x y<0:=by omega
   by_cases ax:c y z=0
   ·have:=(h.zero y z).1 ax;subst this;rw[if_neg ai];omega
   ·rw[if_neg ax]at U;have:=h.ltr bm U;rw[if_neg (by omega)];omega
theorem agZ(h:jC c):jC (jZ c):=⟨UF h,UG h,UH h⟩
end
def yC(x y:ak):Int:=if ez x.v y.v=0 then eo x.t y.t else ez x.v y.v
theorem ajD:jC yC:=by
 refine⟨fun x y=>?_,fun x y z J U=>?_,fun x y=>?_⟩
 ·unfold yC;have:=km.neg x.v y.v;have:=Mo.neg x.t y.t;by_cases e:ez x.v y.v=0
  ·rw[if_pos e,if_pos (by omega)];omega
  ·rw[if_neg e,if_neg (by omega)];omega
 ·unfold yC at J U⊢;by_cases ai:ez x.v y.v=0
  ·rw[if_pos ai]at J;rw[(km.zero _ _).1 ai];by_cases ax:ez y.v z.v=0
   ·rw[if_pos ax]at U⊢;exact Mo.tr _ _ _ J U
   ·rw[if_neg ax]at U⊢;exact U
  ·rw[if_neg ai]at J;have bm:ez x.v y.v<0:=by omega
   by_cases ax:ez y.v z.v=0
   ·rw[←(km.zero _ _).1 ax,if_neg ai];exact J
   ·rw[if_neg ax]at U;have:=km.ltr bm U;rw[if_neg (by omega)];omega
 ·unfold yC;by_cases e:ez x.v y.v=0
  ·rw[if_pos e,Mo.zero];have:=(km.zero _ _).1 e;cases x;cases y;simp_all
  ·rw[if_neg e];exact⟨fun h=>absurd h e,fun h=>by rw[h]at e;exact absurd (km.refl _) e⟩
def en:List ak→List ak→Int:=jZ yC
theorem kH:jC en:=agZ ajD
end Go.Pv
namespace Go.Proofs.YtohaalphocaebaaGreat
open Go Go.Pv
theorem Dc(c:ak→ak→Int):∀a b:List ak,a=[]∨b=[]→jZ c a b=ez a.length b.length
 |[],[],_=>by simp[jZ,ez]
 |[],_::_,_=>by simp[jZ,ez]<;>omega
 |_::_,[],_=>by simp[jZ,ez]<;>omega
 |_::_,_::_,h=>by simp at h
theorem VJ(x y:ak)(xs ys:List ak):en (x::xs) (y::ys)=if ez x.v y.v=0 then(if eo x.t y.t=0 then en xs ys else eo x.t y.t)else ez x.v y.v:=by
 by_cases aV:ez x.v y.v=0
 ·by_cases bf:eo x.t y.t=0<;>simp[en,jZ,yC,aV,bf]
 ·simp[en,jZ,yC,aV]
theorem VK(a b k:Int):ez (a-k) (b-k)=ez a b:=by unfold ez;(repeat' split)<;>omega
def Lk(d e:List ak)(i:Nat):Prop:=i≤d.length∧i≤e.length∧en (d.drop i) (e.drop i)=en d e
theorem Ig(d e:List ak):bS az 204 [.slice 5 .no (d.map ak.e),.slice 5 .no (e.map ak.e)] (.int .i64 (en d e)):=by
 generalize bH:en d e=R;refine bq rh abD aio fun aP=>?_;unfold PF;have aE:d.length≤68719476736:=by simp[gD,fY,gx,lim]at aP;omega
 have he:e.length≤68719476736:=by simp[gD,fY,gx,lim]at aP;omega
 simp;refine vM [0,1] (fun(i:Nat)=>[(5,.int .i64 i)]) (fun i=>d.length-i) (Lk d e) 0 b3 ⟨by omega,by omega,by simp⟩ (fun i ag _=>?_);obtain⟨J,U,ao⟩:=ag;rw[bH]at ao;by_cases hi:i<d.length
 ·by_cases hG:i<e.length
  ·obtain⟨x,ab⟩:∃x,d[i]? =some x:=⟨_,cb hi⟩;obtain⟨y,aD⟩:∃y,e[i]? =some y:=⟨_,cb hG⟩;have c2:∀h,(d[i]'h)=x:=fun h=>by rw[cb hi]at ab;exact e3 ab
   have eQ:∀h,(e[i]'h)=y:=fun h=>by rw[cb hG]at aD;exact e3 aD
   have vV:d.drop i=x::d.drop (i+1):=by rw[k9 hi,c2]
   have zP:e.drop i=y::e.drop (i+1):=by rw[k9 hG,eQ]
   rw[vV,zP]at ao;rw[VJ]at ao;simp[hi,hG,c2,eQ];by_cases aV:ez x.v y.v=0
   ·rw[if_pos aV]at ao;by_cases bf:eo x.t y.t=0
    ·rw[if_pos bf]at ao;(with_reducible repeat' first|refine aj ?_|refine aB (n7 _ _) ?_|refine aC (n7 _ _) ?_|refine aB (BD _ _) ?_|refine aC (BD _ _) ?_|simp[c2,eQ,hi,hG,aV,bf]);refine bN.whl (i+1) (by omega) ⟨by omega,by omega,by rw[bH];exact ao⟩ ?_;exact b3
    ·rw[if_neg bf]at ao;((with_reducible repeat' first|refine aj ?_|refine aB (n7 _ _) ?_|refine aC (n7 _ _) ?_|refine aB (BD _ _) ?_|refine aC (BD _ _) ?_|simp[c2,eQ,hi,hG,aV,bf]|((first|apply bG|apply bL|apply bK)<;>intro h<;>try simp at h))<;>(try exact cg));simp[bp,DI,aT,aW,aQ];exact ao
   ·rw[if_neg aV]at ao;((with_reducible repeat' first|refine aj ?_|refine aB (n7 _ _) ?_|refine aC (n7 _ _) ?_|simp[c2,eQ,hi,hG,aV]|((first|apply bG|apply bL|apply bK)<;>intro h<;>try simp at h))<;>(try exact cg));simp[bp,DI,aT,aW,aQ];exact ao
  ·have:ez d.length e.length=R:=by rw[←ao,en,Dc _ _ _ (.inr (List.drop_eq_nil_of_le (by omega)))];rw[←VK d.length e.length i];simp only[sC];congr 1<;>omega
   simp[hi,hG];(with_reducible repeat' first|refine aj ?_|refine aB (n7 _ _) ?_|refine aC (n7 _ _) ?_|simp[hi,hG]);simp[bp,DI,aT,aW,aQ];exact this
 ·have:ez d.length e.length=R:=by rw[←ao,en,Dc _ _ _ (.inl (List.drop_eq_nil_of_le (by omega)))];rw[←VK d.length e.length i];simp only[sC];congr 1<;>omega
  simp[hi];(with_reducible repeat' first|refine aj ?_|refine aB (n7 _ _) ?_|refine aC (n7 _ _) ?_|simp[hi]);simp[bp,DI,aT,aW,aQ];exact this
theorem NS(a b:List ak)(bk:a.length≤1000000):bS az 135 [.slice 5 .no (a.map ak.e),.slice 5 .no (b.map ak.e)] (.bool (decide (a=b))):=by
 by_cases aq:a.length=b.length;rotate_left
 ·have bD:decide (a=b)=false:=by simp only[hK];rintro rfl;exact aq rfl
  have tb:((a.length:Int) !=(b.length:Int))=true:=by simp;omega
  have oC:¬(a.length:Int)=b.length:=by omega
  rw[bD];refine bq rh RH Vu fun aP=>?_;unfold I5;exact cB
 ·generalize bH:decide (a=b)=R;refine bq rh RH Vu fun aP=>?_;unfold I5;simp;(with_reducible repeat' first|refine aj ?_|simp[aq]);refine eC [0,1,12] (fun i (_:Unit)=>[(13,.int .i64 i)]) b.length (fun i (_:Unit)=> ∀k,k<i→a[k]? =b[k]?) () b3 (fun k ad=>by omega) (fun _ ag _=>?_) (fun i _ hi ag _=>?_)
  ·have:R=true:=by
    rw[←bH,fo];apply List.ext_getElem?;intro k;by_cases ad:k<b.length
    ·exact ag k ad
    ·rw[qu (by omega),qu (by omega)]
   rw[this];exact cB
  ·obtain⟨x,ab⟩:∃x,a[i]? =some x:=⟨_,cb (by omega)⟩;obtain⟨y,aD⟩:∃y,b[i]? =some y:=⟨_,cb hi⟩;have gn:i<a.length:=by omega
   have c2:∀h,(a[i]'h)=x:=fun h=>by rw[cb gn]at ab;exact e3 ab
   have eQ:∀h,(b[i]'h)=y:=fun h=>by rw[cb hi]at aD;exact e3 aD
   have gF:x≠y→R=false:=fun h=>by rw[←bH,hK];rintro rfl;rw[ab]at aD;cases aD;exact h rfl
   simp[hi,gn,c2,eQ];by_cases aV:x.v=y.v
   ·have tH:(x.v !=y.v)=false:=by simp[aV]
    by_cases bf:x.t=y.t
    ·(with_reducible repeat' first|refine aj ?_|refine aB (tR _ _) ?_|refine aC (tR _ _) ?_|simp[c2,eQ,hi,gn,aV,tH,bf]);refine bN.rng () hi (fun k ad=>?_) ?_
     ·rcases(by omega:k<i∨k=i)with h|rfl
      ·exact ag k h
      ·rw[ab,aD];cases x;cases y;simp_all
     ·exact b3
    ·rw[gF (fun e=>bf (by rw[e]))];(with_reducible repeat' first|refine aj ?_|refine aB (tR _ _) ?_|refine aC (tR _ _) ?_|simp[c2,eQ,hi,gn,aV,tH,bf]);simp[bp,Wd,aT,aW,aQ]
   ·have tH:(x.v !=y.v)=true:=by simp[aV]
    rw[gF (fun e=>aV (by rw[e]))];exact cB
def E5:C:=(aa [cO 3 1,cS 4 du] (.seq (aa [aF 7 0 1 3,aw 8 1 7,aU 9 .eql 8 1] (aZ 9 (aa [I 11 0,aF 12 1 1 3,aw 13 1 12,ck 14 161 11 13,I 10 14,cd 15 0 10,cd 16 1 10,cS 5 du,bz 4 5 15,I 6 16] (aa [I 17 6] (aZ 17 (aa [aX 18 4 5,bz 4 4 18] .ret) .skip))) .skip)) (.seq (aa [aF 19 0 1 3,aw 20 1 19,aU 21 .eql 20 4] (aZ 21 (.seq (.drawn true 36 [I 22 0,aF 23 3 1 3,aw 24 1 23,jQ 25 4 24 0,aX 26 4 25,ck 27 75 22 26,I 28 0,aF 29 3 1 3,aw 30 1 29,jQ 31 4 30 1,aX 32 4 31,ck 33 75 28 32,ck 34 114 27 33,bz 4 4 34]) .ret) .skip)) (aa [aX 35 4 3,bz 4 4 35] .ret))))
@[simp] def Hm:List bA:=[.cell 4 true 4]
def Qm:C:=(aa [cO 1 0,bj 2 false] (aa [aX 3 4 1,cT 4 162 [.t 3,(dN 5000)],aU 5 .leq 4 5000,I 6 5,al 6 true (aX 7 4 1),al 6 true (cL 8 163 7),dv 9 6 8,I 2 9] .ret))
@[simp] def akx:List bA:=[.tmp 2]
def Qu:C:=(aa [cO 1 0,bj 2 false] (aa [aX 3 4 1,cT 4 162 [.t 3,(dN 5000)],aU 5 .leq 4 5000,I 2 5] .ret))
@[simp] def WC:List bA:=[.tmp 2]
def Qo:C:=(aa [bj 6 false] (aa [I 7 0,I 8 1,br 9 .geq 7 8,I 10 9,bZ 10 true 11 0,bZ 10 true 12 2,al 10 true (br 13 .leq 11 12),dv 14 10 13,I 6 14] .ret))
@[simp] def Wy:List bA:=[.tmp 6]
def Je:C:=(aa [bj 2 false] (.seq (aa [I 9 0,cL 10 164 9,ct 11 10] (aZ 11 (aa [bj 2 false] .ret) .skip)) (.seq (aa [I 12 0,cv 13 12,cc 14 0] (fe 15 14 13 (.seq (.block 1 (aa [cw 16 5 12 14,aX 17 5 16,cS 4 kj,bz 5 4 17] (.seq (aa [iv 18 1 4 4,aF 19 0 1 18,aw 20 1 19,aU 21 .eql 20 1,I 22 21,al 22 true (iv 23 1 4 4),al 22 true (aF 24 1 1 23),al 22 true (aw 25 1 24),al 22 true (aF 26 0 1 4),al 22 true (aw 27 1 26),al 22 true (br 28 .geq 25 27),dv 29 22 28] (aZ 29 (aa [bj 2 false] .ret) .skip)) (aa [iv 30 1 4 4,aX 31 4 30,cT 32 165 [.t 31,(.c (.slice 1 .nil []))],cv 33 32,cc 34 0] (.block 2 (.loop (aa [br 35 .lss 34 33] (.seq (aZ 35 .skip (.exit 2)) (.seq (.block 3 (aa [cw 36 1 32 34,aw 37 1 36,I 6 37] (aa [I 39 0,I 40 6,ck 41 161 39 40,I 38 41,cd 42 0 38,cd 43 1 38,cS 7 du,bz 4 7 42,I 8 43] (aa [I 44 8] (aZ 44 (aa [bj 2 false] .ret) .skip))))) (.region [aU 45 .add 34 1,I 34 45])))))))))) (.region [aU 46 .add 14 1,I 14 46])))) (aa [bj 2 true] .ret))))
@[simp] def ML:List bA:=[.tmp 2]
def QE:C:=(aa [cS 4 du,bj 5 false] (.seq (aa [I 8 0,cv 9 8,cc 10 0] (fe 11 10 9 (.seq (.block 1 (aa [cw 12 5 8 10,aX 13 5 12,cS 7 kj,bz 5 7 13] (aa [aF 14 0 1 7,aw 15 1 14,I 16 1,br 17 .eql 15 16] (aZ 17 (aa [iv 18 1 4 7,aX 19 4 18,bz 4 4 19,bj 5 true] .ret) .skip)))) (.region [aU 20 .add 10 1,I 10 20])))) (aa [gJ 21 du [],bz 4 4 21,bj 5 false] .ret)))
@[simp] def MQ:List bA:=[.cell 4 true 4,.tmp 5]
def Qs:C:=(aa [cO 2 0,cc 4 0] (aa [cc 5 1] (.seq (aa [aF 8 3 1 2,aw 9 1 8,cv 10 9,cc 11 0] (fe 12 11 10 (.seq (.block 1 (aa [cw 13 4 9 11,aX 14 4 13,cS 7 du,bz 4 7 14] (.seq (aa [I 15 5,I 16 1,br 17 .gtr 15 16] (aZ 17 (aa [I 18 5,I 4 18] .ret) .skip)) (.region [I 19 5,aX 20 4 7,I 21 1,I 22 5,br 23 .sub 21 22,ck 24 162 20 23,br 25 .add 19 24,I 5 25])))) (.region [aU 26 .add 11 1,I 11 26])))) (aa [I 27 5,I 4 27] .ret))))
@[simp] def MO:List bA:=[.tmp 4]
def l1:C:=(aa [cO 1 0,bj 2 false] (.seq (aa [aF 3 0 1 1,aw 4 1 3,aU 5 .neq 4 1,I 6 5,al 6 true (aF 7 0 1 1),al 6 true (aw 8 1 7),al 6 true (aU 9 .neq 8 3),dv 10 6 9,I 11 10,al 11 true (aF 12 1 1 1),al 11 true (aw 13 1 12),al 11 true (aU 14 .neq 13 0),dv 15 11 14,I 16 15,al 16 false (aF 17 0 1 1),al 16 false (aw 18 1 17),al 16 false (aU 19 .neq 18 2),bZ 16 false 20 19,al 20 true (aF 21 2 1 1),al 20 true (aw 22 1 21),xe 20 true 23 (.bin .neq false (.t 22) (.c (.str []))),al 16 false (dv 24 20 23),cW 25 16 24,I 26 25,al 26 false (aF 27 0 1 1),al 26 false (aw 28 1 27),al 26 false (aU 29 .neq 28 4),bZ 26 false 30 29,al 30 true (aF 31 3 1 1),al 30 true (aw 32 1 31),al 30 true (cv 33 32),al 30 true (aU 34 .gtr 33 0),al 26 false (dv 35 30 34),cW 36 26 35] (aZ 36 (aa [bj 2 false] .ret) .skip)) (.seq (aa [aF 37 0 1 1,aw 38 1 37] (.block 0 (aa [aU 40 .eql 38 0,I 39 40] (aZ 39 (aa [bj 2 true] .ret) (aa [aU 42 .eql 38 1,I 41 42] (aZ 41 (aa [aF 43 1 1 1,aw 44 1 43,cT 45 141 [.t 44,(dN 0),(dN 100000)],I 2 45] .ret) (aa [aU 47 .eql 38 2,I 46 47] (aZ 46 (aa [aF 48 2 1 1,aw 49 1 48,cL 50 216 49,I 2 50] .ret) (aa [aU 52 .eql 38 3,I 51 52] (aZ 51 (aa [aF 53 1 1 1,aw 54 1 53,cT 55 141 [.t 54,(dN (-1000000000)),(dN 1000000000)],I 2 55] .ret) (aa [aU 57 .eql 38 4,I 56 57] (aZ 56 (aa [aF 58 3 1 1,aw 59 1 58,cv 60 59,aU 61 .eql 60 2,I 62 61,al 62 true (aF 63 3 1 1),al 62 true (aw 64 1 63),al 62 true (jQ 65 4 64 0),al 62 true (aX 66 4 65),al 62 true (cL 67 163 66),dv 68 62 67,I 69 68,al 69 true (aF 70 3 1 1),al 69 true (aw 71 1 70),al 69 true (jQ 72 4 71 1),al 69 true (aX 73 4 72),al 69 true (cL 74 163 73),dv 75 69 74,I 2 75] .ret) .skip)))))))))))) (aa [bj 2 false] .ret))))
@[simp] def lU:List bA:=[.tmp 2]
def QG:C:=(aa [bj 2 false] (.seq (aa [I 5 0,cv 6 5,cc 7 0] (fe 8 7 6 (.seq (.block 1 (aa [I 9 7,cw 10 5 5 7,aX 11 5 10,cS 4 kj,I 3 9,bz 5 4 11] (.seq (.drawn true 41 [I 12 3,aU 13 .gtr 12 0,I 14 13,bZ 14 true 15 0,bZ 14 true 16 3,al 14 true (aU 17 .sub 16 1),al 14 true (cw 18 5 15 17),al 14 true (aF 19 0 1 18),al 14 true (aw 20 1 19),al 14 true (aF 21 0 1 4),al 14 true (aw 22 1 21),al 14 true (br 23 .geq 20 22),dv 24 14 23,I 25 24,al 25 false (aF 26 0 1 4),al 25 false (aw 27 1 26),al 25 false (cT 28 141 [.t 27,(dN 0),(dN 100000)]),al 25 false (ct 29 28),cW 30 25 29,I 31 30,al 31 false (iv 32 1 4 4),al 31 false (aX 33 4 32),al 31 false (cL 34 76 33),al 31 false (ct 35 34),cW 36 31 35]) (aZ 36 (aa [bj 2 false] .ret) .skip)))) (.region [aU 37 .add 7 1,I 7 37])))) (aa [I 38 0,cv 39 38,aU 40 .leq 39 400,I 2 40] .ret)))
@[simp] def MS:List bA:=[.tmp 2]
def zn:C:=(aa [cO 2 0,eJ 4 1] (.seq (aa [aF 7 0 1 2,aw 8 1 7,aU 9 .eql 8 1] (aZ 9 (aa [I 10 1,aF 11 1 1 2,aw 12 1 11,ck 13 230 10 12,I 4 13] .ret) .skip)) (.seq (aa [aF 14 3 1 2,aw 15 1 14,cv 16 15,cc 17 0] (fe 18 17 16 (.seq (.block 1 (aa [cw 19 4 15 17,aX 20 4 19,cS 6 du,bz 4 6 20] (.region [aX 21 4 6,I 22 1,ck 23 165 21 22,I 1 23]))) (.region [aU 24 .add 17 1,I 17 24])))) (aa [I 25 1,I 4 25] .ret))))
@[simp] def Bd:List bA:=[.tmp 4]
def QC:C:=(aa [cO 3 1,cS 4 du,bj 5 false] (aa [I 7 0,aX 8 4 3,ck 9 75 7 8,cS 6 du,bz 4 6 9] (.seq (.drawn true 13 [aX 10 4 6,aX 11 4 6,cL 12 92 11,bz 4 4 10,I 5 12]) .ret)))
@[simp] def WK:List bA:=[.cell 4 true 4,.tmp 5]
def sN:C:=(aa [cO 4 1,cO 5 2,eJ 6 5,bj 7 false] (aa [I 12 0,aX 13 4 4,ck 14 236 12 13,bz 4 4 14] (aa [I 15 0,aX 16 4 5,ck 17 236 15 16,bz 4 5 17] (.seq (aa [aF 18 0 1 4,aw 19 1 18,aU 20 .eql 19 1,I 21 20,al 21 true (aF 22 0 1 5),al 21 true (aw 23 1 22),al 21 true (aU 24 .eql 23 1),dv 25 21 24,I 26 25,al 26 true (aF 27 1 1 4),al 26 true (aw 28 1 27),al 26 true (aF 29 1 1 5),al 26 true (aw 30 1 29),al 26 true (br 31 .lss 28 30),dv 32 26 31] (aZ 32 (aa [I 33 0,aF 34 1 1 5,aw 35 1 34,aX 36 4 4,cT 37 237 [.t 33,.t 35,.t 36],cd 38 0 37,cd 39 1 37,I 6 38,I 7 39] .ret) .skip)) (.seq (aa [aF 40 0 1 4,aw 41 1 40,aU 42 .eql 41 1,I 43 42,al 43 true (aF 44 0 1 5),al 43 true (aw 45 1 44),al 43 true (aU 46 .eql 45 1),dv 47 43 46,I 48 47,al 48 true (aF 49 1 1 4),al 48 true (aw 50 1 49),al 48 true (aF 51 1 1 5),al 48 true (aw 52 1 51),al 48 true (br 53 .eql 50 52),dv 54 48 53] (aZ 54 (aa [I 55 0,I 6 55,bj 7 true] .ret) .skip)) (.seq (aa [aF 56 0 1 4,aw 57 1 56,aU 58 .eql 57 1] (aZ 58 (aa [I 59 0,aF 60 1 1 4,aw 61 1 60,aX 62 4 5,cT 63 237 [.t 59,.t 61,.t 62],cd 64 0 63,cd 65 1 63,I 6 64,I 7 65] .ret) .skip)) (.seq (aa [aF 66 0 1 5,aw 67 1 66,aU 68 .eql 67 1] (aZ 68 (aa [I 69 0,aF 70 1 1 5,aw 71 1 70,aX 72 4 4,cT 73 237 [.t 69,.t 71,.t 72],cd 74 0 73,cd 75 1 73,I 6 74,I 7 75] .ret) .skip)) (.seq (aa [aF 76 0 1 4,aw 77 1 76,aF 78 0 1 5,aw 79 1 78,br 80 .neq 77 79,I 81 80,al 81 false (aF 82 1 1 4),al 81 false (aw 83 1 82),al 81 false (aF 84 1 1 5),al 81 false (aw 85 1 84),al 81 false (br 86 .neq 83 85),cW 87 81 86,I 88 87,al 88 false (aF 89 2 1 4),al 88 false (aw 90 1 89),al 88 false (aF 91 2 1 5),al 88 false (aw 92 1 91),al 88 false (br 93 .neq 90 92),cW 94 88 93] (aZ 94 (aa [eJ 6 5,bj 7 false] .ret) .skip)) (.seq (aa [aF 95 3 1 4,aw 96 1 95,cv 97 96,cc 98 0] (fe 99 98 97 (.seq (.block 1 (aa [I 100 98,cw 101 4 96 98,aX 102 4 101,cS 9 du,I 8 100,bz 4 9 102] (.seq (.drawn true 119 [I 104 0,aX 105 4 9,aF 106 3 1 5,aw 107 1 106,I 108 8,cw 109 4 107 108,aX 110 4 109,cT 111 176 [.t 104,.t 105,.t 110],I 103 111,cd 112 0 103,cd 113 1 103,I 10 112,I 11 113]) (.seq (aa [I 114 11,ct 115 114] (aZ 115 (aa [eJ 6 5,bj 7 false] .ret) .skip)) (.region [I 116 10,I 0 116]))))) (.region [aU 117 .add 98 1,I 98 117])))) (aa [I 118 0,I 6 118,bj 7 true] .ret))))))))))
@[simp] def sj:List bA:=[.tmp 6,.tmp 7]
def Qg:C:=(aa [bj 2 false] (.seq (aa [cc 3 0] (.block 0 (.loop (.seq (aa [I 5 3,I 6 0,bW 7 (.slen (.t 6)),br 8 .lss 5 7] (aZ 8 .skip (.exit 0))) (.seq (.block 1 (aa [I 11 0,I 12 3,bW 13 (.sidx (.t 11) (.t 12)),bW 14 (.bin .geq false (.t 13) (.c (.int .u8 97))),I 15 14,bZ 15 true 16 0,bZ 15 true 17 3,al 15 true (bW 18 (.sidx (.t 16) (.t 17))),al 15 true (bW 19 (.bin .leq false (.t 18) (.c (.int .u8 122)))),dv 20 15 19,I 4 20] (aa [I 21 4,ct 22 21,I 23 22,bZ 23 true 24 3,al 23 true (aU 25 .eql 24 0),bZ 23 true 26 25,bZ 26 false 27 0,bZ 26 false 28 3,al 26 false (bW 29 (.sidx (.t 27) (.t 28))),al 26 false (bW 30 (.bin .neq false (.t 29) (.c (.int .u8 45)))),bZ 26 false 31 30,bZ 31 true 32 0,bZ 31 true 33 3,al 31 true (bW 34 (.sidx (.t 32) (.t 33))),al 31 true (bW 35 (.conv .i64 (.t 34))),al 31 true (cT 36 141 [.t 35,(dN 48),(dN 57)]),al 31 true (ct 37 36),al 26 false (dv 38 31 37),al 23 true (cW 39 26 38),dv 40 23 39] (aZ 40 (aa [bj 2 false] .ret) .skip)))) (.region [I 9 3,aU 10 .add 9 1,I 3 10])))))) (aa [I 41 0,bW 42 (.slen (.t 41)),cT 43 141 [.t 42,(dN 1),(dN 12)],I 2 43] .ret)))
@[simp] def Ba:List bA:=[.tmp 2]
def QI:C:=(aa [eJ 4 5,bj 5 false] (aa [eb 10 4 32 [],I 6 10] (aa [eb 11 4 32 [],I 7 11] (.seq (aa [I 12 1,cv 13 12,cc 14 0] (fe 15 14 13 (.seq (.block 1 (aa [cw 16 5 12 14,aX 17 5 16,cS 9 kj,bz 5 9 17] (aa [I 18 6,aF 19 0 1 9,aw 20 1 19,cL 21 91 20,eb 22 4 32 [.t 21],gO 23 4 32 18 22,I 6 23] (.region [I 24 7,iv 25 1 4 9,aX 26 4 25,eb 27 4 32 [.t 26],gO 28 4 32 24 27,I 7 28])))) (.region [aU 29 .add 14 1,I 14 29])))) (aa [I 30 0,I 31 6,I 32 7,cT 33 268 [.t 30,.t 31,.t 32],cd 34 0 33,cd 35 1 33,I 4 34,I 5 35] .ret)))))
@[simp] def WL:List bA:=[.tmp 4,.tmp 5]
def Qv:C:=(aa [eJ 4 1] (aa [I 7 0,cv 8 7,I 5 8] (.seq (.block 0 (.loop (.seq (aa [I 9 5,aU 10 .gtr 9 0,I 11 10,bZ 11 true 12 0,bZ 11 true 13 5,al 11 true (aU 14 .sub 13 1),al 11 true (cw 15 1 12 14),al 11 true (aw 16 1 15),bZ 11 true 17 1,al 11 true (br 18 .geq 16 17),dv 19 11 18] (aZ 19 .skip (.exit 0))) (.block 1 (.region [I 20 5,aU 21 .sub 20 1,I 5 21]))))) (.seq (aa [I 22 5,I 23 0,cv 24 23,br 25 .lss 22 24,I 26 25,bZ 26 true 27 0,bZ 26 true 28 5,al 26 true (cw 29 1 27 28),al 26 true (aw 30 1 29),bZ 26 true 31 1,al 26 true (br 32 .eql 30 31),dv 33 26 32] (aZ 33 (aa [I 34 0,I 4 34] .ret) .skip)) (aa [eb 35 1 3 [],I 36 0,I 37 5,bW 38 (.lsl 1 (.t 36) none (some (.t 37))),gO 39 1 3 35 38,I 6 39] (aa [I 40 6,I 41 1,eb 42 1 3 [.t 41],gO 43 1 3 40 42,I 6 43] (aa [I 44 6,I 45 0,I 46 5,bW 47 (.lsl 1 (.t 45) (some (.t 46)) none),gO 48 1 3 44 47,I 4 48] .ret)))))))
@[simp] def yH:List bA:=[.tmp 4]
def QF:C:=(aa [cO 3 1,eJ 4 5] (aa [I 7 0,cv 8 7,I 5 8] (.seq (.block 0 (.loop (.seq (.seq (.drawn true 38 [I 9 5,aU 10 .gtr 9 0,I 11 10,bZ 11 true 12 0,bZ 11 true 13 5,al 11 true (aU 14 .sub 13 1),al 11 true (cw 15 5 12 14),al 11 true (aF 16 0 1 15),al 11 true (aw 17 1 16),al 11 true (aF 18 0 1 3),al 11 true (aw 19 1 18),al 11 true (br 20 .gtr 17 19),dv 21 11 20]) (aZ 21 .skip (.exit 0))) (.block 1 (.region [I 22 5,aU 23 .sub 22 1,I 5 23]))))) (aa [eb 24 5 61 [],I 25 0,I 26 5,bW 27 (.lsl 5 (.t 25) none (some (.t 26))),gO 28 5 61 24 27,I 6 28] (aa [I 29 6,aX 30 5 3,eb 31 5 61 [.t 30],gO 32 5 61 29 31,I 6 32] (aa [I 33 6,I 34 0,I 35 5,bW 36 (.lsl 5 (.t 34) (some (.t 35)) none),gO 37 5 61 33 36,I 4 37] .ret))))))
@[simp] def MR:List bA:=[.tmp 4]
def E6:C:=(aa [cO 3 1,cS 4 du] (.seq (aa [aF 7 0 1 3,aw 8 1 7,aU 9 .eql 8 1] (aZ 9 (aa [I 11 0,aF 12 1 1 3,aw 13 1 12,ck 14 161 11 13,I 10 14,cd 15 0 10,cd 16 1 10,cS 5 du,bz 4 5 15,I 6 16] (aa [I 17 6] (aZ 17 (aa [aX 18 4 5,bz 4 4 18] .ret) .skip))) .skip)) (aa [aX 19 4 3,bz 4 4 19] .ret)))
@[simp] def Hn:List bA:=[.cell 4 true 4]
def B1:C:=(aa [cO 5 2,eJ 6 5,bj 7 false] (aa [I 15 0,aX 16 4 5,ck 17 166 15 16,I 14 17,cd 18 0 14,cd 19 1 14,cS 8 du,bz 4 8 18,I 9 19] (.seq (aa [I 20 9,ct 21 20,I 22 21,bZ 22 false 23 1,al 22 false (aX 24 4 8),al 22 false (ck 25 270 23 24),cW 26 22 25,I 27 26,bZ 27 false 28 0,al 27 false (cv 29 28),al 27 false (aU 30 .geq 29 400),cW 31 27 30] (aZ 31 (aa [eJ 6 5,bj 7 false] .ret) .skip)) (aa [eb 32 5 61 [],I 10 32] (.seq (aa [I 33 0,cv 34 33,cc 35 0] (fe 36 35 34 (.seq (.block 1 (aa [cw 37 5 33 35,aX 38 5 37,cS 12 kj,bz 5 12 38] (aa [iv 39 1 4 12,aX 40 4 39,I 41 1,aX 42 4 8,cT 43 271 [.t 40,.t 41,.t 42],cS 13 du,bz 4 13 43] (.seq (aa [aX 44 4 13,cL 45 92 44,ct 46 45] (aZ 46 (aa [eJ 6 5,bj 7 false] .ret) .skip)) (.region [I 47 10,aF 48 0 1 12,aw 49 1 48,aX 50 4 13,gJ 51 kj [(0,1,(.t 49)),(1,4,(.t 50))],eb 52 5 61 [.t 51],gO 53 5 61 47 52,I 10 53]))))) (.region [aU 54 .add 35 1,I 35 54])))) (aa [I 55 10,I 56 1,aX 57 4 8,gJ 58 kj [(0,1,(.t 56)),(1,4,(.t 57))],ck 59 234 55 58,I 6 59,bj 7 true] .ret))))))
@[simp] def Be:List bA:=[.tmp 6,.tmp 7]
def QH:C:=(aa [eJ 6 5,bj 7 false] (.seq (aa [I 12 1,cv 13 12,cc 14 0] (fe 15 14 13 (.seq (.block 1 (aa [I 16 14,cw 17 4 12 14,aX 18 4 17,cS 9 du,I 8 16,bz 4 9 18] (.seq (.drawn true 34 [I 20 0,aX 21 4 9,I 22 2,I 23 8,cw 24 4 22 23,aX 25 4 24,cT 26 176 [.t 20,.t 21,.t 25],I 19 26,cd 27 0 19,cd 28 1 19,I 10 27,I 11 28]) (.seq (aa [I 29 11,ct 30 29] (aZ 30 (aa [eJ 6 5,bj 7 false] .ret) .skip)) (.region [I 31 10,I 0 31]))))) (.region [aU 32 .add 14 1,I 14 32])))) (aa [I 33 0,I 6 33,bj 7 true] .ret)))
@[simp] def MT:List bA:=[.tmp 6,.tmp 7]
def Qx:C:=(aa [cO 3 1,bj 4 false] (.seq (aa [aF 7 3 1 3,aw 8 1 7,cv 9 8,cc 10 0] (fe 11 10 9 (.seq (.block 1 (aa [cw 12 4 8 10,aX 13 4 12,cS 6 du,bz 4 6 13] (aa [I 14 0,aX 15 4 6,ck 16 270 14 15] (aZ 16 (aa [bj 4 true] .ret) .skip)))) (.region [aU 17 .add 10 1,I 10 17])))) (aa [aF 18 0 1 3,aw 19 1 18,aU 20 .eql 19 1,I 21 20,al 21 true (aF 22 1 1 3),al 21 true (aw 23 1 22),bZ 21 true 24 0,al 21 true (br 25 .eql 23 24),dv 26 21 25,I 4 26] .ret)))
@[simp] def MP:List bA:=[.tmp 4]
def E4:C:=(aa [cO 3 0,cO 5 2,cS 6 du] (.seq (aa [aF 7 0 1 3,aw 8 1 7,aU 9 .eql 8 1,I 10 9,al 10 true (aF 11 1 1 3),al 10 true (aw 12 1 11),bZ 10 true 13 1,al 10 true (br 14 .eql 12 13),dv 15 10 14] (aZ 15 (aa [aX 16 4 5,bz 4 6 16] .ret) .skip)) (.seq (aa [aF 17 0 1 3,aw 18 1 17,aU 19 .eql 18 4] (aZ 19 (.seq (.drawn true 36 [aF 20 3 1 3,aw 21 1 20,jQ 22 4 21 0,aX 23 4 22,I 24 1,aX 25 4 5,cT 26 271 [.t 23,.t 24,.t 25],aF 27 3 1 3,aw 28 1 27,jQ 29 4 28 1,aX 30 4 29,I 31 1,aX 32 4 5,cT 33 271 [.t 30,.t 31,.t 32],ck 34 114 26 33,bz 4 6 34]) .ret) .skip)) (aa [aX 35 4 3,bz 4 6 35] .ret))))
@[simp] def Hl:List bA:=[.cell 6 true 4]
def k5:List (Nat×dx):=[
 (3,⟨1,8,.int .i64,.int .i64 0⟩),
 (5,⟨1,1,.int .u8,.int .u8 0⟩),
 (9,⟨1,16,.str,.str []⟩),
 (23,⟨1,24,.slice 61,.slice 5 .nil []⟩),
 (30,⟨1,24,.slice 32,.slice 4 .nil []⟩),
 (32,⟨4,56,.struct [(0,3),(1,3),(2,9),(3,30)],.agg [.int .i64 0,.int .i64 0,.str [],.slice 4 .nil []]⟩),
 (61,⟨5,64,.struct [(0,3),(1,32)],.agg [.int .i64 0,.int .i64 0,.int .i64 0,.str [],.slice 4 .nil []]⟩),
 (112,⟨1,24,.slice 3,.slice 1 .nil []⟩)]
theorem eH:fP az k5=true:=by kernel_rfl
theorem Mj:b4 k5 E5 Hm 2 Tryz.f75=true:=by kernel_rfl
theorem JT:az.funcs[(75:Nat)]? =some Tryz.f75:=Tryz.func75
theorem ai4:b4 k5 Qm akx 1 Tryz.f76=true:=by kernel_rfl
theorem ack:az.funcs[(76:Nat)]? =some Tryz.f76:=Tryz.func76
theorem ajc:b4 k5 Qu WC 1 Tryz.f92=true:=by kernel_rfl
theorem acu:az.funcs[(92:Nat)]? =some Tryz.f92:=Tryz.func92
theorem ai6:b4 k5 Qo Wy 3 Tryz.f141=true:=by kernel_rfl
theorem acn:az.funcs[(141:Nat)]? =some Tryz.f141:=Tryz.func141
theorem Vy:b4 k5 Je ML 1 Tryz.f142=true:=by kernel_rfl
theorem RL:az.funcs[(142:Nat)]? =some Tryz.f142:=Tryz.func142
theorem ajm:b4 k5 QE MQ 2 Tryz.f161=true:=by kernel_rfl
theorem acE:az.funcs[(161:Nat)]? =some Tryz.f161:=Tryz.func161
theorem aja:b4 k5 Qs MO 2 Tryz.f162=true:=by kernel_rfl
theorem acr:az.funcs[(162:Nat)]? =some Tryz.f162:=Tryz.func162
theorem mK:b4 k5 l1 lU 1 Tryz.f163=true:=by kernel_rfl
theorem mv:az.funcs[(163:Nat)]? =some Tryz.f163:=Tryz.func163
theorem ajo:b4 k5 QG MS 1 Tryz.f164=true:=by kernel_rfl
theorem acG:az.funcs[(164:Nat)]? =some Tryz.f164:=Tryz.func164
theorem Dv:b4 k5 zn Bd 2 Tryz.f165=true:=by kernel_rfl
theorem Cb:az.funcs[(165:Nat)]? =some Tryz.f165:=Tryz.func165
theorem ajk:b4 k5 QC WK 2 Tryz.f166=true:=by kernel_rfl
theorem acC:az.funcs[(166:Nat)]? =some Tryz.f166:=Tryz.func166
theorem u6:b4 k5 sN sj 3 Tryz.f176=true:=by kernel_rfl
theorem uu:az.funcs[(176:Nat)]? =some Tryz.f176:=Tryz.func176
theorem aiY:b4 k5 Qg Ba 1 Tryz.f216=true:=by kernel_rfl
theorem ace:az.funcs[(216:Nat)]? =some Tryz.f216:=Tryz.func216
theorem ajq:b4 k5 QI WL 2 Tryz.f219=true:=by kernel_rfl
theorem acI:az.funcs[(219:Nat)]? =some Tryz.f219:=Tryz.func219
theorem ajd:b4 k5 Qv yH 2 Tryz.f230=true:=by kernel_rfl
theorem acv:az.funcs[(230:Nat)]? =some Tryz.f230:=Tryz.func230
theorem ajn:b4 k5 QF MR 2 Tryz.f234=true:=by kernel_rfl
theorem acF:az.funcs[(234:Nat)]? =some Tryz.f234:=Tryz.func234
theorem Mk:b4 k5 E6 Hn 2 Tryz.f236=true:=by kernel_rfl
theorem JU:az.funcs[(236:Nat)]? =some Tryz.f236:=Tryz.func236
theorem G0:b4 k5 B1 Be 3 Tryz.f237=true:=by kernel_rfl
theorem Fp:az.funcs[(237:Nat)]? =some Tryz.f237:=Tryz.func237
theorem ajp:b4 k5 QH MT 3 Tryz.f268=true:=by kernel_rfl
theorem acH:az.funcs[(268:Nat)]? =some Tryz.f268:=Tryz.func268
theorem ajf:b4 k5 Qx MP 2 Tryz.f270=true:=by kernel_rfl
theorem acx:az.funcs[(270:Nat)]? =some Tryz.f270:=Tryz.func270
theorem Mi:b4 k5 E4 Hl 3 Tryz.f271=true:=by kernel_rfl
theorem JS:az.funcs[(271:Nat)]? =some Tryz.f271:=Tryz.func271
mutual
def lF:bU→Int→Int
 | .mk _ _ _ args,m=>oo args 1 m
def oo:List bU→Int→Int→Int
 |[],n,_=>n
 |x::xs,n,m=>if m<n then n else oo xs (n+lF x (m-n)) m
end
mutual
theorem Jm:∀(t:bU) (m:Int),0≤m→1≤lF t m∧lF t m≤m+1
 | .mk _ _ _ args,m,h=>by simp only[lF];exact Q2 args 1 m h (by omega) (by omega)
theorem Q2:∀(l:List bU) (n m:Int),0≤m→1≤n→n≤m+1→1≤oo l n m∧oo l n m≤m+1
 |[],n,m,_,J,U=>by simp only[oo];exact⟨J,U⟩
 |x::xs,n,m,bD,J,U=>by
  simp only[oo];split
  ·exact⟨J,U⟩
  ·have:=Jm x (m-n) (by omega);exact Q2 xs _ m bD (by omega) (by omega)
end
theorem Fa:∀(t:T) (m:Int),0≤m→(lF t.tm m≤m↔(t.size:Int)≤m)∧((t.size:Int)≤m→lF t.tm m=t.size)
 | .pair a b,m,h=>by
  have bk:=T.size_pos a;have ae:=T.size_pos b;simp only[T.tm,lF,oo,T.size];by_cases J:m<1
  ·rw[if_pos J];exact⟨by omega,fun h=>by omega⟩
  ·rw[if_neg J];obtain⟨bt,a2⟩:=Fa a (m-1) (by omega);have a3:=Jm a.tm (m-1) (by omega);by_cases U:(a.size:Int)≤m-1
   ·have e:=a2 U;rw[e];by_cases ao:m<1+(a.size:Int)
    ·omega
    ·rw[if_neg ao];obtain⟨bM,bO⟩:=Fa b (m-(1+a.size)) (by omega);refine⟨by omega,fun h=>?_⟩;rw[bO (by omega)];omega
   ·have:¬lF a.tm (m-1)≤m-1:=fun h=>U (bt.1 h);rw[if_pos (by omega)];exact⟨by omega,fun h=>by omega⟩
 | .nil,m,h=>by simp[T.tm,lF,oo,T.size]
 | .var _,m,h=>by simp[T.tm,lF,oo,T.size]
 | .sym _,m,h=>by simp[T.tm,lF,oo,T.size]
 | .num _,m,h=>by simp[T.tm,lF,oo,T.size]
theorem ZK(t:bU)(m:Int):lF t m=oo t.args 1 m:=by cases t;rfl
theorem X5(t:bU):∀m:Int,0≤m→m≤1000000→bS az 162 [enc t,.int .i64 m] (.int .i64 (lF t m)):=by
 suffices H:∀(k:Nat) (t:bU),t.sz≤k→∀m:Int,0≤m→m≤1000000→bS az 162 [enc t,.int .i64 m] (.int .i64 (lF t m))from H _ t (ff _)
 intro k;induction k with
 |zero=>intro t aL;cases t;simp[bU.sz]at aL
 |succ k bP=>
  intro t aL m bD J;refine bq eH acr aja fun aP=>?_;unfold Qs;have gV:t.args.length≤68719476736:=by rw[xA]at aP;simp[gD,fY,gx,lim]at aP;omega
  simp;refine eC [1,9,10] (fun i (n:Int)=>[(5,.int .i64 n),(11,.int .i64 i)]) t.args.length (fun i n=>(1≤n∧n≤m+1)∧oo (t.args.drop i) n m=lF t m) 1 b3 ⟨by omega,by simp[ZK]⟩ (fun n ag _=>?_) (fun i n hi ag _=>?_)
  ·simp;(with_reducible repeat' first|refine aj ?_|simp);simp[bp,MO,aT,aW,aQ];have:=ag.2;simp[oo]at this;exact this
  ·obtain⟨⟨rT,te⟩,ag⟩:=ag;obtain⟨x,ab,c2⟩:=eZ hi;have aE:t.args.drop i=x::t.args.drop (i+1):=by rw[k9 hi,c2]
   have et:x.sz≤k:=by have:=alH (fR ab);omega
   rw[aE]at ag;simp only[oo]at ag;simp[hi,c2];by_cases ae:m<n
   ·rw[if_pos ae]at ag;(with_reducible repeat' first|refine aj ?_|simp[ae]);simp[bp,MO,aT,aW,aQ];exact ag
   ·rw[if_neg ae]at ag;have ar:=Jm x (m-n) (by omega);((with_reducible repeat' first|refine aj ?_|refine aB (bP x et (m-n) (by omega) (by omega)) ?_|refine aC (bP x et (m-n) (by omega) (by omega)) ?_|simp[ae]|((first|apply bG|apply bL|apply bK)<;>intro h<;>try simp at h))<;>(try exact cg));exact bN.rng (n+lF x (m-n)) hi ⟨by omega,ag⟩ b3
theorem BA(t:T):bS az 92 [t.e] (.bool (decide (t.size≤5000))):=by
 have ar:=(Fa t 5000 (by omega)).1;have key:=X5 t.tm 5000 (by omega) (by omega);rw[pR]at key;refine bq eH acu ajc fun aP=>?_;unfold Qu;simp;(with_reducible repeat' first|refine aj ?_|refine aB key ?_|refine aC key ?_|simp);simp[bp,WC,aT,aW,aQ];have:(lF t.tm 5000≤5000)=(t.size≤5000):=by rw[ar];simp;omega
 simp[this]
def agm(l:List ak)(v:Int)(k:Nat)(st:bh):Prop:=∃i:Nat,i≤l.length∧k=l.length-i∧cV l v=cV (l.drop i) v∧st=⟨[(1,.int .i64 v),(4,.ptr (.loc 0) 0),(8,.slice 5 .no (l.map ak.e)),(9,.int .i64 l.length),(10,.int .i64 i)],[(.loc 0,[.int .i64 0,.int .i64 0,.str [],.slice 4 .nil []])],[],1,[]⟩
set_option maxRecDepth 4000 in
theorem vr(l:List ak)(v:Int)(aq:l.length≤1000000):bS az 161 [.slice 5 .no (l.map ak.e),.int .i64 v] (.tuple [((cV l v).getD .nil).e,.bool (cV l v).isSome]):=by
 refine bq eH acE ajm fun aP=>?_;unfold QE;simp;refine mX (agm l v) l.length _ b3 ⟨0,by omega,rfl,by simp,rfl⟩ ?_;rintro k st ⟨i,hi,ad,aR,rfl⟩ je cF;clear je cF;by_cases bm:i<l.length
 ·obtain⟨b,ae⟩:∃b,l[i]? =some b:=⟨_,cb bm⟩;have FL:l.drop i=b::l.drop (i+1):=by rw[k9 bm];rw[cb bm]at ae;simp at ae;rw[ae]
  have cz:∀h,l[i]'h=b:=fun h=>by rw[cb h]at ae;simpa using ae
  simp[cz,bm];(with_reducible repeat' first|((first|apply bG|apply bL|apply bK)<;>intro h<;>try simp at h)|refine aj ?_|simp[cz])
  ·have:cV l v=some b.t:=by rw[aR,FL];simp[cV,h]
   simp[bp,MQ,aT,aW,aQ];simp[this]
  ·refine bN.next (l.length-(i+1)) (by omega) ⟨i+1,by omega,rfl,?_,rfl⟩ b3;rw[aR,FL];simp[cV,h]
 ·have:cV l v=none:=by rw[aR,List.drop_of_length_le (by omega)];simp[cV]
  simp[bm];(with_reducible repeat' first|((first|apply bG|apply bL|apply bK)<;>intro h<;>try simp at h)|refine aj ?_|simp);simp[bp,MQ,aT,aW,aQ];simp[this]
theorem ami(l:List ak)(aq:l.length≤1000000)(t:T):bS az 75 [.slice 5 .no (l.map ak.e),t.e] (t.sub (cV l)).e:=by
 induction t with
 |pair a b dQ dR=>
  refine bq eH JT Mj fun aP=>?_;unfold E5;simp;(with_reducible repeat' first|refine aj ?_|refine aB dQ ?_|refine aC dQ ?_|refine aB dR ?_|refine aC dR ?_|refine aB (BB _ _) ?_|refine aC (BB _ _) ?_|simp);all_goals simp[bp,Hm,aT,aW,aQ]
  all_goals simp[T.sub]
 |var n=>
  refine bq eH JT Mj fun aP=>?_;unfold E5;simp;((with_reducible repeat' first|refine aj ?_|refine aB (vr l n aq) ?_|refine aC (vr l n aq) ?_|simp|((first|apply bG|apply bL|apply bK)<;>intro h<;>try simp at h))<;>(try exact cg));all_goals simp[bp,Hm,aT,aW,aQ]
  all_goals cases ae:cV l n<;>simp_all[T.sub]
 |_=>
  refine bq eH JT Mj fun aP=>?_;unfold E5;simp;(with_reducible repeat' first|refine aj ?_|simp);all_goals simp[bp,Hm,aT,aW,aQ]
  all_goals simp[T.sub]
theorem Yb(l:List ak)(aq:l.length≤1000000)(t:T):bS az 75 [.slice 5 .no (l.map ak.e),t.e] (t.ap (bF l)).e:=by have:=ami l aq t;rw[Xu]at this;exact this
theorem Ef(l:List ak)(aq:l.length≤1000000)(t:T):bS az 166 [.slice 5 .no (l.map ak.e),t.e] (.tuple [(t.ap (bF l)).e,.bool (decide ((t.ap (bF l)).size≤5000))]):=by refine bq eH acC ajk fun aP=>?_;unfold QC;simp;(with_reducible repeat' first|refine aj ?_|refine aB (Yb l aq t) ?_|refine aC (Yb l aq t) ?_|refine aB (BA _) ?_|refine aC (BA _) ?_|simp);simp[bp,WK,aT,aW,aQ]
def wM(v:Int)(l:List T):Bool:=l.any (T.occ v)
theorem Vl(v:Int)(t:T):t.occ v=(wM v t.args||(t.kind==1&&t.int==v)):=by cases t<;>simp[T.occ,wM]
theorem xb(v:Int)(t:T):bS az 270 [.int .i64 v,t.e] (.bool (t.occ v)):=by
 suffices H:∀(k:Nat) (t:T),t.size≤k→bS az 270 [.int .i64 v,t.e] (.bool (t.occ v))from H _ t (ff _)
 intro k;induction k with
 |zero=>intro t aL;have:=T.size_pos t;omega
 |succ k bP=>
  intro t aL;have pX:t.args.length≤2:=by cases t<;>simp
  refine bq eH acx ajf fun aP=>?_;unfold Qx;simp;refine eC [0,3,8,9] (fun i (_:Unit)=>[(10,.int .i64 i)]) t.args.length (fun i _=>wM v (t.args.drop i)=wM v t.args) () b3 (by simp) (fun _ ag _=>?_) (fun i _ hi ag _=>?_)
  ·have bD:wM v t.args=false:=by rw[←ag];simp[wM]
   rw[Vl,bD];simp;((with_reducible repeat' first|refine aj ?_|simp|((first|apply bG|apply bL|apply bK)<;>intro h<;>try simp at h))<;>(try exact cg));all_goals simp[bp,MP,aT,aW,aQ]
   all_goals simp_all
  ·obtain⟨x,ab,c2⟩:=eZ hi;have aE:t.args.drop i=x::t.args.drop (i+1):=by rw[k9 hi,c2]
   have et:x.size≤k:=by have hm:=fR ab;have:=T.size_pos x;cases t<;>simp at hm;rcases hm with rfl|rfl<;>simp[T.size]at aL<;>omega
   simp only[aE,wM,List.any_cons]at ag;simp[hi,c2];cases av:x.occ v with
   |true=>
    rw[av]at ag;simp at ag;have bD:t.occ v=true:=by rw[Vl];simp[wM];left;simpa using ag
    (with_reducible repeat' first|refine aj ?_|refine aB (bP x et) ?_|refine aC (bP x et) ?_|simp[av]);simp[bp,MP,aT,aW,aQ];simp[bD]
   |false=>rw[av]at ag;have agV:=bP x et;exact jl
theorem Ic(v:Int)(x t:T):bS az 271 [t.e,.int .i64 v,x.e] (t.ap (Go.Pv.one v x)).e:=by
 induction t with
 |pair a b dQ dR=>
  refine bq eH JS Mi fun aP=>?_;unfold E4;simp;(with_reducible repeat' first|refine aj ?_|refine aB dQ ?_|refine aC dQ ?_|refine aB dR ?_|refine aC dR ?_|refine aB (BB _ _) ?_|refine aC (BB _ _) ?_|simp);all_goals simp[bp,Hl,aT,aW,aQ]
  all_goals simp[T.ap]
 |var n=>
  refine bq eH JS Mi fun aP=>?_;unfold E4;simp;((with_reducible repeat' first|refine aj ?_|simp|((first|apply bG|apply bL|apply bK)<;>intro h<;>try simp at h))<;>(try exact cg));all_goals simp[bp,Hl,aT,aW,aQ]
  all_goals simp_all[T.ap,Go.Pv.one]
 |_=>
  refine bq eH JS Mi fun aP=>?_;unfold E4;simp;(with_reducible repeat' first|refine aj ?_|simp);all_goals simp[bp,Hl,aT,aW,aQ]
  all_goals simp[T.ap]
theorem If(s:List ak)(aq:s.length≤1000000)(t:T):bS az 236 [.slice 5 .no (s.map ak.e),t.e] (hs s t).e:=by
 cases t with
 |var n=>
  cases ae:cV s n with
  |none=>refine bq eH JU Mk fun aP=>?_;unfold E6;simp;(with_reducible repeat' first|refine aj ?_|refine aB (vr s n aq) ?_|refine aC (vr s n aq) ?_|simp[ae]);simp[bp,Hn,aT,aW,aQ];simp[hs,bF,ae]
  |some x=>refine bq eH JU Mk fun aP=>?_;unfold E6;simp;(with_reducible repeat' first|refine aj ?_|refine aB (vr s n aq) ?_|refine aC (vr s n aq) ?_|simp[ae]);simp[bp,Hn,aT,aW,aQ];simp[hs,bF,ae]
 |_=>refine bq eH JU Mk fun aP=>?_;unfold E6;simp;(with_reducible repeat' first|refine aj ?_|simp);simp[bp,Hn,aT,aW,aQ];simp[hs]
theorem TX(b:ak):∀(s:List ak) (k:Nat),(∀i c,i<k→s[i]? =some c→c.v≤b.v)→(∀c,s[k]? =some c→b.v<c.v)→k≤s.length→oL b s=s.take k++b::s.drop k
 |[],k,_,_,ad=>by simp at ad;subst ad;rfl
 |c::s,0,_,U,_=>by have:=U c rfl;simp[oL,this]
 |c::s,k+1,J,U,ad=>by have:=J 0 c (by omega) rfl;simp only[oL,if_neg (by omega:¬b.v<c.v),List.take_succ_cons,List.drop_succ_cons,bR];rw[TX b s k (fun i d hi aE=>J (i+1) d (by omega) (by simpa using aE)) (fun d aE=>U d (by simpa using aE)) (by simpa using ad)]
theorem amh(s:List ak)(b:ak)(aq:s.length≤1000000)(bk:hL s):bS az 234 [.slice 5 .no (s.map ak.e),b.e] (.slice 5 .no ((oL b s).map ak.e)):=by
 refine bq eH acF ajn fun aP=>?_;unfold QF;simp;refine vM [0,3] (fun(k:Nat)=>[(5,.int .i64 k)]) (fun k=>k) (fun k=>k≤s.length∧∀c,s[k]? =some c→b.v<c.v) s.length b3 ⟨by omega,fun c h=>by simp at h⟩ (fun k ag _=>?_);obtain⟨ad,ag⟩:=ag;have s6:(∀c,0<k→s[k-1]? =some c→c.v≤b.v)→oL b s=s.take k++b::s.drop k:=fun h=>TX b s k (fun i c hi ar=>by
  obtain⟨d,aE⟩:∃d,s[k-1]? =some d:=⟨_,cb (by omega)⟩;have J:=h d (by omega) aE;rcases Nat.lt_or_ge i (k-1)with U|U
  ·have s8:=(fU.1 ar);have ln:=(fU.1 aE);have:=pK.1 bk i (k-1) s8.1 ln.1 U;rw[s8.2,ln.2]at this;omega
  ·have:i=k-1:=by omega
   subst this;rw[aE]at ar;cases ar;exact J) ag ad
 rcases Nat.eq_zero_or_pos k with rfl|fE
 ·have e:=s6 fun c h=>by omega
  rw[e];simp;(with_reducible repeat' first|refine aj ?_|simp);simp[bp,MR,aT,aW,aQ];try simp[hb]
 ·obtain⟨d,aE⟩:∃d,s[k-1]? =some d:=⟨_,cb (by omega)⟩;have ai:((k:Int)-1).toNat=k-1:=by omega
  have ax:∀h,(s[k-1]'h)=d:=fun h=>by rw[cb h]at aE;exact e3 aE
  have iV:(0:Int)<k:=by omega
  by_cases ae:b.v<d.v
  ·simp[fE,iV,ai,ax,ae,aE];(with_reducible repeat' first|refine aj ?_|simp[fE,iV,ai,ax,ae,aE]);refine bN.whl (k-1) (by omega) ⟨by omega,fun c ar=>by rw[aE]at ar;cases ar;exact ae⟩ ?_;have bn:((k-1:Nat):Int)=(k:Int)-1:=by omega
   simp[bn];exact b3
  ·have e:=s6 fun c _ ar=>by rw[aE]at ar;cases ar;omega
   rw[e];simp[fE,iV,ai,ax,ae,aE];(with_reducible repeat' first|refine aj ?_|simp[fE,iV,ai,ax,ae,aE]);simp[bp,MR,aT,aW,aQ];have dp:oZ s.length (s.map ak.e)=s.map ak.e:=hb (by simp);rw[dp,←List.map_take,←List.map_drop,←gP,←List.map_append];exact Xs _
def Nx(v:Int)(x:T)(b:ak):ak:=⟨b.v,b.t.ap (Go.Pv.one v x)⟩
def agy(s:List ak)(v:Int)(x:T)(i:Nat)(out:List ak):Prop:=out=(s.take i).map (Nx v x)∧∀b∈s.take i,(b.t.ap (Go.Pv.one v x)).size≤5000
theorem aml(s:List ak)(v:Int)(t:T)(aq:s.length≤1000000)(bk:hL s):bS az 237 [.slice 5 .no (s.map ak.e),.int .i64 v,t.e] (fb (nL s v t)):=by
 obtain⟨x,ab⟩:∃x,x=t.ap (bF s):=⟨_,rfl⟩;have rL:=Ef s aq t;rw[←ab]at rL;obtain⟨o,av⟩:∃o,o=nL s v t:=⟨_,rfl⟩;have af3:x.size≤5000→x.occ v=false→s.length<400→(∀b∈s,(b.t.ap (Go.Pv.one v x)).size≤5000)→o=some (mq s v x):=fun aV bf bI cN=>by rw[av,nL,←ab,if_pos ⟨aV,bf,bI,cN⟩]
 have dd:¬(x.size≤5000∧x.occ v=false∧s.length<400∧∀b∈s,(b.t.ap (Go.Pv.one v x)).size≤5000)→o=none:=fun q=>by rw[av,nL,←ab,if_neg q]
 rw[←av];clear av;by_cases J:x.size≤5000;rotate_left
 ·rw[dd fun h=>J h.1];refine bq eH Fp G0 fun aP=>?_;unfold B1;simp;(with_reducible repeat' first|refine aj ?_|refine aB rL ?_|refine aC rL ?_|refine aB (xb _ _) ?_|refine aC (xb _ _) ?_|simp[J]);simp[bp,Be,aT,aW,aQ];simp[fb]
 cases U:x.occ v with
 |true=>rw[dd fun h=>by rw[U]at h;cases h.2.1];refine bq eH Fp G0 fun aP=>?_;unfold B1;simp;(with_reducible repeat' first|refine aj ?_|refine aB rL ?_|refine aC rL ?_|refine aB (xb _ _) ?_|refine aC (xb _ _) ?_|simp[J,U]);simp[bp,Be,aT,aW,aQ];simp[fb]
 |false=>
 by_cases ao:s.length<400;rotate_left
 ·rw[dd fun h=>ao h.2.2.1];have sV:(400:Int)≤s.length:=by omega
  refine bq eH Fp G0 fun aP=>?_;unfold B1;simp;(with_reducible repeat' first|refine aj ?_|refine aB rL ?_|refine aC rL ?_|refine aB (xb _ _) ?_|refine aC (xb _ _) ?_|simp[J,U,sV]);simp[bp,Be,aT,aW,aQ];simp[fb]
 have sV:¬(400:Int)≤s.length:=by omega
 refine bq eH Fp G0 fun aP=>?_;unfold B1;simp;(with_reducible repeat' first|refine aj ?_|refine aB rL ?_|refine aC rL ?_|refine aB (xb _ _) ?_|refine aC (xb _ _) ?_|simp[J,U,sV]);refine iN (α:=List ak) (fun i out=>⟨[(1,.int .i64 v),(8,.ptr (.loc 1) 0),(33,.slice 5 .no (s.map ak.e)),(34,.int .i64 s.length),(10,.slice 5 (.own (.loc 2)) (out.map ak.e)),(35,.int .i64 i)],[(.loc 1,[.int .i64 x.kind,.int .i64 x.int,.str x.name,.slice 4 .no (x.args.map T.e)])],[(.loc 2,⟨out.length,61,5,none⟩)],3,[]⟩) s.length (agy s v x) [] b3 ⟨by simp,by simp⟩ (fun out ag _=>?_) (fun i out hi ag _=>?_)
 ·obtain⟨ec,oB⟩:=ag;rw[hb (ff _)]at ec oB;have ael:hL out:=by rw[ec,hL,List.pairwise_map];exact bk
  have zZ:out.length≤1000000:=by rw[ec];simpa using aq
  rw[af3 J U ao oB];have key:=amh out ⟨v,x⟩ zZ ael;simp;(with_reducible repeat' first|refine aj ?_|refine aB key ?_|refine aC key ?_|simp);simp[bp,Be,aT,aW,aQ];simp[fb,mq,ec];rfl
 ·obtain⟨ec,oB⟩:=ag;obtain⟨b,aI,gj⟩:=eZ hi;have qY:s.take (i+1)=s.take i++[b]:=by rw[List.take_succ,aI];rfl
  have zZ:out.length≤1000000:=by rw[ec];simp;omega
  simp[hi,gj];by_cases aY:(b.t.ap (Go.Pv.one v x)).size≤5000
  ·(with_reducible repeat' first|refine aj ?_|refine aB (Ic _ _ _) ?_|refine aC (Ic _ _ _) ?_|refine aB (BA _) ?_|refine aC (BA _) ?_|simp[gj,hi,aY]);all_goals first|(refine⟨by unfold lim;omega,?_⟩)|skip
   (with_reducible repeat' first|refine aj ?_|simp);refine bN.rng (out++[Nx v x b]) hi ⟨by rw[qY,ec,List.map_append];rfl,fun c ar=>?_⟩ ?_
   ·rw[qY]at ar;rcases iH.1 ar with ar|ar
    ·exact oB c ar
    ·simp at ar;subst ar;exact aY
   ·simp[Nx];exact⟨by simp[fresh,aN,aH,cn,inObs,Pv.look,ji],eM (by simp[fresh,aN,aH,cn,inObs,Pv.look,ji]),eN (by simp[fresh,aN,aH,ej,inObs,Pv.look,ji]),by simp⟩
  ·rw[dd fun h=>aY (h.2.2.2 b (fR aI))];(with_reducible repeat' first|refine aj ?_|refine aB (Ic _ _ _) ?_|refine aC (Ic _ _ _) ?_|refine aB (BA _) ?_|refine aC (BA _) ?_|simp[gj,hi,aY]);simp[bp,Be,aT,aW,aQ];simp[fb]
theorem alT{s:List ak}(af:ey s)(aO:gu s){n:Nat}{a b:T}{o:Option (List ak)}(h:kL n s a b=some o):iL s [(a,b)] o:=by obtain⟨n',o',J,U⟩:=H7 af aO a b;have ai:=Eb (Nat.le_max_left n n') h;have ax:=Eb (Nat.le_max_right n n') J;rw[ai]at ax;cases ax;exact U
def Bx(n:Nat):List (T×T)→List ak→Option (Option (List ak))
 |[],s=>some (some s)
 |e::r,s=>match kL n s e.1 e.2 with
  |none=>none
  |some none=>some none
  |some (some s1)=>Bx n r s1
def yl(x y:T):Bool:=x.kind==y.kind&&x.int==y.int&&x.name==y.name
theorem alR(n:Nat)(s:List ak){x y:T}(ab:x.kind≠1)(aD:y.kind≠1):j3 (kL n) s x y=if yl x y then Bx n (x.args.zip y.args) s else some none:=by
 cases x<;>cases y<;>simp[j3,yl,Bx]at ab aD⊢
 ·rename_i a b;split<;>simp_all
 ·rename_i a b;split<;>simp_all
 ·rename_i bt a2 bM bO;cases kL n s bt bM with
  |none=>rfl
  |some o=>cases o with
   |none=>rfl
   |some s1=>
    simp only
    cases kL n s1 a2 bO with
    |none=>rfl
    |some o=>cases o<;>rfl
theorem agY{x y:T}(h:yl x y=true):x.args.length=y.args.length:=by cases x<;>cases y<;>simp[yl]at h⊢
@[simp] theorem an9(o:Option (List ak)):zw 0 (fb o)=some (True,.slice 5 .no ((o.getD []).map ak.e)):=rfl
@[simp] theorem aoa(o:Option (List ak)):zw 1 (fb o)=some (True,.bool o.isSome):=rfl
set_option maxRecDepth 4000 in
theorem amo(n:Nat):∀(s:List ak) (a b:T) (o:Option (List ak)),ey s→gu s→kL n s a b=some o→bS az 176 [.slice 5 .no (s.map ak.e),a.e,b.e] (fb o):=by
 induction n with
 |zero=>intro s a b o _ _ h;simp[kL]at h
 |succ n bP=>
  intro s a b o af aO he;have aq:s.length≤1000000:=by have:=aO.1;omega
  have fW:=If s aq a;have dS:=If s aq b;simp only[kL]at he;generalize hs s a=x at he fW;generalize hs s b=y at he dS;have ae:=fun v t=>aml s v t aq af.asc;have qN:∀z:T,¬z.kind=1→(z.kind==1)=false:=fun z h=>by simp[h]
  by_cases ab:x.kind=1
  ·obtain⟨i,rfl⟩:∃i,x= .var i:=by cases x<;>simp at ab;exact⟨_,rfl⟩
   by_cases aD:y.kind=1
   ·obtain⟨j,rfl⟩:∃j,y= .var j:=by cases y<;>simp at aD;exact⟨_,rfl⟩
    simp only[j3,dw]at he;subst he;rcases Int.lt_trichotomy i j with h|h|h
    ·rw[if_pos h];have key:=ae j (.var i);refine bq eH uu u6 fun aP=>?_;unfold sN;simp;(with_reducible repeat' first|refine aj ?_|refine aB fW ?_|refine aC fW ?_|refine aB dS ?_|refine aC dS ?_|refine aB key ?_|refine aC key ?_|simp[h]);simp[bp,sj,aT,aW,aQ];simp[fb]
    ·subst h;rw[if_neg (by omega),if_pos rfl];have bD:¬i<i:=by omega
     refine bq eH uu u6 fun aP=>?_;unfold sN;simp;(with_reducible repeat' first|refine aj ?_|refine aB fW ?_|refine aC fW ?_|refine aB dS ?_|refine aC dS ?_|simp[bD]);simp[bp,sj,aT,aW,aQ];simp[fb]
    ·rw[if_neg (by omega),if_neg (by omega)];have key:=ae i (.var j);have bD:¬i<j:=by omega
     have U:¬i=j:=by omega
     refine bq eH uu u6 fun aP=>?_;unfold sN;simp;((with_reducible repeat' first|refine aj ?_|refine aB fW ?_|refine aC fW ?_|refine aB dS ?_|refine aC dS ?_|refine aB key ?_|refine aC key ?_|simp[bD,U]|((first|apply bG|apply bL|apply bK)<;>intro h<;>try simp at h))<;>(try exact cg));simp[bp,sj,aT,aW,aQ];simp[fb]
   ·have vW:nL s i y=o:=by cases y<;>first|(simp at aD;done)|exact e3 he
    subst vW;have key:=ae i y;refine bq eH uu u6 fun aP=>?_;unfold sN;simp;(with_reducible repeat' first|refine aj ?_|refine aB fW ?_|refine aC fW ?_|refine aB dS ?_|refine aC dS ?_|refine aB key ?_|refine aC key ?_|simp[qN y aD]);simp[bp,sj,aT,aW,aQ];simp[fb]
  ·by_cases aD:y.kind=1
   ·obtain⟨j,rfl⟩:∃j,y= .var j:=by cases y<;>simp at aD;exact⟨_,rfl⟩
    have vW:nL s j x=o:=by cases x<;>first|(simp at ab;done)|exact e3 he
    subst vW;have key:=ae j x;refine bq eH uu u6 fun aP=>?_;unfold sN;simp;(with_reducible repeat' first|refine aj ?_|refine aB fW ?_|refine aC fW ?_|refine aB dS ?_|refine aC dS ?_|refine aB key ?_|refine aC key ?_|simp[qN x ab]);simp[bp,sj,aT,aW,aQ];simp[fb]
   ·rw[alR n s ab aD]at he;cases hle:yl x y with
    |false=>
     rw[hle]at he;simp at he;subst he;have KC:(x.kind !=y.kind)=true∨((x.kind !=y.kind)=false∧((x.int !=y.int)=true∨((x.int !=y.int)=false∧(x.name !=y.name)=true))):=by simp only[yl]at hle;simp only[bne];cases ai:(x.kind==y.kind)<;>cases ax:(x.int==y.int)<;>cases bn:(x.name==y.name)<;>simp_all
     rcases KC with aV|⟨aV,bf|⟨bf,bI⟩⟩
     ·refine bq eH uu u6 fun aP=>?_;unfold sN;simp;(with_reducible repeat' first|refine aj ?_|refine aB fW ?_|refine aC fW ?_|refine aB dS ?_|refine aC dS ?_|simp[qN x ab,qN y aD,aV]);simp[bp,sj,aT,aW,aQ];simp[fb]
     ·refine bq eH uu u6 fun aP=>?_;unfold sN;simp;(with_reducible repeat' first|refine aj ?_|refine aB fW ?_|refine aC fW ?_|refine aB dS ?_|refine aC dS ?_|simp[qN x ab,qN y aD,aV,bf]);simp[bp,sj,aT,aW,aQ];simp[fb]
     ·refine bq eH uu u6 fun aP=>?_;unfold sN;simp;have G8:¬x.name=y.name:=by simpa using bI
      have ajX:decide (x.name=y.name)=false:=by simp[G8]
      ((with_reducible repeat' first|refine aj ?_|refine aB fW ?_|refine aC fW ?_|refine aB dS ?_|refine aC dS ?_|simp[qN x ab,qN y aD,aV,bf,bI,G8,ajX]|((first|apply bG|apply bL|apply bK)<;>intro h<;>try simp at h))<;>(try exact cg));simp[bp,sj,aT,aW,aQ];simp[fb]
    |true=>
     rw[hle,if_pos rfl]at he;have KC:(x.kind !=y.kind)=false∧(x.int !=y.int)=false∧(x.name !=y.name)=false:=by simp only[yl]at hle;simp only[bne];cases ai:(x.kind==y.kind)<;>cases ax:(x.int==y.int)<;>cases bn:(x.name==y.name)<;>simp_all
     obtain⟨aV,bf,bI⟩:=KC;have hlen:=agY hle;have G8:x.name=y.name:=by simpa using bI
     have pX:x.args.length≤2:=by cases x<;>simp
     refine bq eH uu u6 fun aP=>?_;unfold sN;simp;(with_reducible repeat' first|refine aj ?_|refine aB fW ?_|refine aC fW ?_|refine aB dS ?_|refine aC dS ?_|simp[qN x ab,qN y aD,aV,bf,G8]);refine iN (α:=List ak) (fun i s'=>⟨[(5,.ptr (.loc 1) 0),(96,.slice 4 .no (x.args.map T.e)),(97,.int .i64 x.args.length),(0,.slice 5 .no (s'.map ak.e)),(98,.int .i64 i)],[(.loc 1,[.int .i64 y.kind,.int .i64 y.int,.str y.name,.slice 4 .no (y.args.map T.e)])],[],2,[]⟩) x.args.length (fun i s'=>(ey s'∧gu s')∧Bx n ((x.args.zip y.args).drop i) s'=some o) s b3 ⟨⟨af,aO⟩,by simpa using he⟩ (fun s' ag _=>?_) (fun i s' hi ag _=>?_)
     ·obtain⟨_,ag⟩:=ag;rw[List.drop_eq_nil_of_le (by simp[hlen])]at ag;simp[Bx]at ag;subst ag;simp;(with_reducible repeat' first|refine aj ?_|simp);simp[bp,sj,aT,aW,aQ];simp[fb]
     ·obtain⟨⟨g1,g2⟩,ag⟩:=ag;obtain⟨bt,bk⟩:∃a,x.args[i]? =some a:=⟨_,cb hi⟩;obtain⟨bM,gd⟩:∃b,y.args[i]? =some b:=⟨_,cb (by omega)⟩;have nh:∀h,(x.args[i]'h)=bt:=fun h=>by rw[cb hi]at bk;exact e3 bk
      have cz:∀h,(y.args[i]'h)=bM:=fun h=>by rw[cb h]at gd;exact e3 gd
      have rR:i<y.args.length:=by omega
      have aE:(x.args.zip y.args).drop i=(bt,bM)::(x.args.zip y.args).drop (i+1):=by rw[k9 (by simp;omega)];simp[nh,cz]
      rw[aE]at ag;simp only[Bx]at ag;simp[hi,nh,cz,rR];cases hu:kL n s' bt bM with
      |none=>rw[hu]at ag;cases ag
      |some fv=>
       have key:=bP s' bt bM fv g1 g2 hu;rw[hu]at ag;cases fv with
       |none=>simp at ag;subst ag;(with_reducible repeat' first|refine aj ?_|refine aB key ?_|refine aC key ?_|simp[nh,cz,hi,rR]);simp[bp,sj,aT,aW,aQ];simp[fb]
       |some s1=>have afN:=alT g1 g2 hu;(with_reducible repeat' first|refine aj ?_|refine aB key ?_|refine aC key ?_|simp[nh,cz,hi,rR]);refine bN.rng s1 hi ⟨afN.1,ag⟩ ?_;exact b3
theorem NU(s:List ak)(a b:T)(af:ey s)(aO:gu s):bS az 176 [.slice 5 .no (s.map ak.e),a.e,b.e] (fb (mgu s [(a,b)])):=by obtain⟨n,o,J,U⟩:=H7 af aO a b;rw[nU U];exact amo n s a b o af aO J
def agx(s:List ak)(E:List (T×T))(i:Nat)(s':List ak):Prop:=(ey s'∧gu s')∧mgu s' (E.drop i)=mgu s E
theorem amk(s:List ak)(l r:List T)(aq:l.length=r.length)(af:ey s)(aO:gu s)(xY:l.length≤1000000):bS az 268 [.slice 5 .no (s.map ak.e),.slice 4 .no (l.map T.e),.slice 4 .no (r.map T.e)] (fb (mgu s (l.zip r))):=by
 refine bq eH acH ajp fun aP=>?_;unfold QH;simp;refine iN (α:=List ak) (fun i s'=>⟨[(2,.slice 4 .no (r.map T.e)),(12,.slice 4 .no (l.map T.e)),(13,.int .i64 l.length),(0,.slice 5 .no (s'.map ak.e)),(14,.int .i64 i)],[],[],0,[]⟩) l.length (agx s (l.zip r)) s b3 ⟨⟨af,aO⟩,by simp⟩ (fun s' ag _=>?_) (fun i s' hi ag _=>?_)
 ·obtain⟨⟨g1,g2⟩,ag⟩:=ag;rw[List.drop_eq_nil_of_le (by simp[aq]),Dl g1 g2]at ag;rw[←ag];simp;(with_reducible repeat' first|refine aj ?_|simp);simp[bp,MT,aT,aW,aQ];simp[fb]
 ·obtain⟨⟨g1,g2⟩,ag⟩:=ag;obtain⟨a,bk⟩:∃a,l[i]? =some a:=⟨_,cb hi⟩;obtain⟨b,gd⟩:∃b,r[i]? =some b:=⟨_,cb (by omega)⟩;have nh:∀h,(l[i]'h)=a:=fun h=>by rw[cb hi]at bk;exact e3 bk
  have cz:∀h,(r[i]'h)=b:=fun h=>by rw[cb h]at gd;exact e3 gd
  have rR:i<r.length:=by omega
  have aE:(l.zip r).drop i=(a,b)::(l.zip r).drop (i+1):=by rw[k9 (by simp;omega)];simp[nh,cz]
  rw[aE,LW g1 g2]at ag;simp[hi,nh,cz,rR];have key:=NU s' a b g1 g2;cases hu:mgu s' [(a,b)]with
  |none=>rw[hu]at ag key;simp only at ag;rw[←ag];(with_reducible repeat' first|refine aj ?_|refine aB key ?_|refine aC key ?_|simp[nh,cz,hi,rR]);simp[bp,MT,aT,aW,aQ];simp[fb]
  |some s1=>have pk:=q5 g1 g2 hu;rw[hu]at ag key;(with_reducible repeat' first|refine aj ?_|refine aB key ?_|refine aC key ?_|simp[nh,cz,hi,rR]);refine bN.rng s1 hi ⟨pk,ag⟩ ?_;exact b3
theorem ko(n:Int):bS az 91 [.int .i64 n] (T.var n).e:=by refine bq fH RN VA fun aP=>?_;unfold Jg;exact cB
def agB(t:List ak)(i:Nat)(p:List T×List T):Prop:=p.1=(t.take i).map (fun b=>T.var b.v)∧p.2=(t.take i).map (·.t)
theorem amm(s t:List ak)(af:ey s)(aO:gu s)(aL:t.length≤1000000):bS az 219 [.slice 5 .no (s.map ak.e),.slice 5 .no (t.map ak.e)] (fb (mgu s (eB t))):=by
 have aY:(t.map fun b=>T.var b.v).zip (t.map (·.t))=eB t:=by rw[eB,List.zip_map']
 refine bq eH acI ajq fun aP=>?_;unfold QI;simp;refine iN (α:=List T×List T) (fun i p=>⟨[(0,.slice 5 .no (s.map ak.e)),(12,.slice 5 .no (t.map ak.e)),(13,.int .i64 t.length),(6,.slice 4 (.own (.loc 0)) (p.1.map T.e)),(7,.slice 4 (.own (.loc 1)) (p.2.map T.e)),(14,.int .i64 i)],[],[(.loc 0,⟨p.1.length,32,4,none⟩),(.loc 1,⟨p.2.length,32,4,none⟩)],2,[]⟩) t.length (agB t) ([],[]) b3 ⟨by simp,by simp⟩ (fun p ag _=>?_) (fun i p hi ag _=>?_)
 ·obtain⟨A,B⟩:=p;obtain⟨ba,gU⟩:=ag;simp only at ba gU⊢;rw[hb (ff _)]at ba gU;have key:=amk s A B (by rw[ba,gU];simp) af aO (by rw[ba];simpa using aL);rw[ba,gU,aY,←ba,←gU]at key;simp;(with_reducible repeat' first|refine aj ?_|refine aB key ?_|refine aC key ?_|simp);simp[bp,WL,aT,aW,aQ];simp[fb]
 ·obtain⟨A,B⟩:=p;obtain⟨ba,gU⟩:=ag;simp only at ba gU⊢;obtain⟨b,aI,gj⟩:=eZ hi;have qY:t.take (i+1)=t.take i++[b]:=by rw[List.take_succ,aI];rfl
  have ad5:A.length≤1000000:=by rw[ba];simp;omega
  have ad6:B.length≤1000000:=by rw[gU];simp;omega
  simp[hi,gj];(with_reducible repeat' first|refine aj ?_|refine aB (ko _) ?_|refine aC (ko _) ?_|simp[gj,hi]);all_goals first|(refine⟨by unfold lim;omega,?_⟩)|skip
  (with_reducible repeat' first|refine aj ?_|simp);all_goals first|(refine⟨by unfold lim;omega,?_⟩)|skip
  (with_reducible repeat' first|refine aj ?_|simp);refine bN.rng (A++[.var b.v],B++[b.t]) hi ⟨by rw[qY,ba];simp,by rw[qY,gU];simp⟩ ?_;simp;exact⟨by simp[fresh,aN,aH,cn,inObs,Pv.look,ji],eM (by simp[fresh,aN,aH,cn,inObs,Pv.look,ji]),eN (by simp[fresh,aN,aH,ej,inObs,Pv.look,ji]),by simp⟩
theorem dr(n lo hi:Int):bS az 141 [.int .i64 n,.int .i64 lo,.int .i64 hi] (.bool (decide (lo≤n∧n≤hi))):=by
 refine bq eH acn ai6 fun aP=>?_;unfold Qo;simp;((with_reducible repeat' first|refine aj ?_|simp|((first|apply bG|apply bL|apply bK)<;>intro h<;>try simp at h))<;>(try exact cg));all_goals simp[bp,Wy,aT,aW,aQ]
 all_goals first|omega|(simp;done)|(simp;omega)
def shp:bU→Bool
 | .mk k n s [a,b]=>k==4&&n==0&&s==[]&&shp a&&shp b
 | .mk k n s []=>ls k n s
 |_=>false
theorem HQ:∀x:T,shp x.tm=x.ok
 | .nil=>by simp[T.tm,shp,ls,T.ok]
 | .var _=>by simp[T.tm,shp,ls,T.ok]
 | .sym _=>by simp[T.tm,shp,ls,T.ok]
 | .num _=>by simp[T.tm,shp,ls,T.ok]
 | .pair a b=>by simp[T.tm,shp,T.ok,HQ a,HQ b]
theorem ale:∀(m:Nat) (t:bU),t.sz≤m→shp t=true→∃x:T,x.tm=t:=by
 intro m;induction m with
 |zero=>intro t aL;cases t;simp[bU.sz]at aL
 |succ m bP=>
  rintro⟨k,n,s,args⟩ aL h;match args with
  |[a,b]=>
   simp[bU.sz,bU.szL]at aL;simp only[shp,cx,dK]at h;obtain⟨⟨⟨⟨rfl,rfl⟩,ao⟩,J⟩,U⟩:=h;obtain⟨x,rfl⟩:=bP a (by omega) J;obtain⟨y,rfl⟩:=bP b (by omega) U;have:s=[]:=by simpa using ao
   subst this;exact⟨.pair x y,rfl⟩
  |[]=>
   simp only[shp,ls]at h;split at h
   ·subst_vars;simp at h;exact⟨.nil,by simp[T.tm,h]⟩
   split at h
   ·subst_vars;simp at h;exact⟨.var n,by simp[T.tm,h]⟩
   split at h
   ·subst_vars;simp at h;exact⟨.sym s,by simp[T.tm,h]⟩
   split at h
   ·subst_vars;simp at h;exact⟨.num n,by simp[T.tm,h]⟩
   ·simp at h
  |[_]=>simp[shp]at h
  |_::_::_::_=>simp[shp]at h
theorem acZ(t:bU):t.fits=(decide (lF t 5000≤5000)&&shp t):=by
 by_cases h:shp t=true
 ·obtain⟨x,rfl⟩:=ale _ t (ff _) h;have:=(Fa x 5000 (by omega)).1;rw[bU.fits_T,T.fit,h];rw[HQ]at h;simp[h,this];omega
 ·have bD:t.fits=false:=by
   cases aO:t.fits with
   |false=>rfl
   |true=>obtain⟨x,rfl,ab⟩:=bU.fits_ex aO;rw[HQ]at h;simp[T.fit]at ab;exact absurd ab.1 h
  simp at h;rw[bD,h];simp
def Lj(s:List cQ)(i:Nat):Prop:=i≤s.length∧∀k,k<i→mC (s.getD k 0)=true∧(k=0→low (s.getD k 0)=true)
theorem agv{s:List cQ}(h:Lj s s.length):ib s=decide (1≤s.length∧s.length≤12):=by
 unfold ib;by_cases aq:1≤s.length
 ·have J:=(h.2 0 (by omega)).2 rfl;have U:(s.drop 1).all mC=true:=by rw[ig];intro b ae;obtain⟨i,hi,e⟩:=nG ae;simp at hi e;have:=(h.2 (i+1) (by omega)).1;rw[List.getD_eq_getElem?_getD,cb (by omega)]at this;simp only[jr]at this;rw[←e];exact this
  rw[J,U];simp
 ·have:decide (1≤s.length∧s.length≤12)=false:=by simp;omega
  rw[this];simp
theorem agu{s:List cQ}{i:Nat}(hi:i<s.length)(h:mC (s.getD i 0)=false∨(i=0∧low (s.getD i 0)=false)):ib s=false:=by
 cases e:ib s with
 |false=>rfl
 |true=>
  exfalso;simp only[ib,cx,ig]at e;obtain⟨⟨_,ai⟩,ax⟩:=e;rcases h with h|⟨rfl,h⟩
  ·by_cases bD:i=0
   ·subst bD;rw[mC,ai]at h;simp at h
   ·have:=ax (s.getD i 0) (by rw[List.getD_eq_getElem?_getD,cb hi];simp only[jr];refine List.mem_iff_getElem.2 ⟨i-1,by simp;omega,?_⟩;simp[show i-1+1=i from by omega])
    rw[this]at h;cases h
  ·rw[ai]at h;cases h
theorem gY(s:List cQ):bS az 216 [.str s] (.bool (ib s)):=by
 generalize bH:ib s=R;refine bq eH ace aiY fun aP=>?_;unfold Qg;have gV:s.length≤68719476736:=by simp[gD,fY,gx,lim]at aP;omega
 simp;refine vM [0] (fun(i:Nat)=>[(3,.int .i64 i)]) (fun i=>s.length-i) (Lj s) 0 b3 ⟨by omega,fun k ad=>by omega⟩ (fun i ag _=>?_);have ec:=ag.1;by_cases hi:i<s.length
 ·have dd:=agu hi;rw[bH]at dd;obtain⟨c,ar,iQ⟩:=eZ hi;have SO:s.getD i 0=c:=by simp[List.getD_eq_getElem?_getD,ar]
  rw[SO]at dd;have c8:mC c=true→(i=0→low c=true)→Lj s (i+1):=fun J U=>⟨by omega,fun k ad=>by
   rcases(by omega:k<i∨k=i)with h|rfl
   ·exact ag.2 k h
   ·rw[SO];exact⟨J,U⟩⟩
  have hw:mN.wrap (c.toNat:Int)=c.toNat:=ml _ (by have:=c.toNat_lt;omega);simp[hi,iQ,ar];by_cases aV:(97:Int)≤c.toNat
  ·by_cases bf:(c.toNat:Int)≤122
   ·have aq:low c=true:=by simp[low];omega
    (with_reducible repeat' first|refine aj ?_|refine aB (dr _ _ _) ?_|refine aC (dr _ _ _) ?_|simp[hi,iQ,ar,aV,bf]);exact bN.whl (i+1) (by omega) (c8 (by simp[mC,aq]) (fun _=>aq)) b3
   ·have aq:low c=false:=by simp[low];omega
    by_cases bD:i=0
    ·rw[dd (.inr ⟨bD,aq⟩)];have rI:((i:Int)==0)=true:=by simp[bD]
     (with_reducible repeat' first|refine aj ?_|refine aB (dr _ _ _) ?_|refine aC (dr _ _ _) ?_|simp[hi,iQ,ar,aV,bf,rI,hw]);simp[bp,Ba,aT,aW,aQ]
    ·have rI:((i:Int)==0)=false:=by simp[bD]
     by_cases bI:(c.toNat:Int)=45
     ·have si:((c.toNat:Int) !=45)=false:=by simp[bI]
      (with_reducible repeat' first|refine aj ?_|refine aB (dr _ _ _) ?_|refine aC (dr _ _ _) ?_|simp[hi,iQ,ar,aV,bf,rI,hw,bI,si]);all_goals exact bN.whl (i+1) (by omega) (c8 (by simp[mC];omega) (fun h=>absurd h bD)) b3
     ·have si:((c.toNat:Int) !=45)=true:=by simp[bI]
      by_cases cN:(48:Int)≤c.toNat∧(c.toNat:Int)≤57
      ·(with_reducible repeat' first|refine aj ?_|refine aB (dr _ _ _) ?_|refine aC (dr _ _ _) ?_|simp[hi,iQ,ar,aV,bf,rI,hw,bI,si,cN]);all_goals exact bN.whl (i+1) (by omega) (c8 (by simp[mC];omega) (fun h=>absurd h bD)) b3
      ·rw[dd (.inl (by simp[mC,aq];omega))];(with_reducible repeat' first|refine aj ?_|refine aB (dr _ _ _) ?_|refine aC (dr _ _ _) ?_|simp[hi,iQ,ar,aV,bf,rI,hw,bI,si,cN]);simp[bp,Ba,aT,aW,aQ]
  ·have aq:low c=false:=by simp[low];omega
   by_cases bD:i=0
   ·rw[dd (.inr ⟨bD,aq⟩)];have rI:((i:Int)==0)=true:=by simp[bD]
    (with_reducible repeat' first|refine aj ?_|refine aB (dr _ _ _) ?_|refine aC (dr _ _ _) ?_|simp[hi,iQ,ar,aV,rI,hw]);simp[bp,Ba,aT,aW,aQ]
   ·have rI:((i:Int)==0)=false:=by simp[bD]
    by_cases bI:(c.toNat:Int)=45
    ·have si:((c.toNat:Int) !=45)=false:=by simp[bI]
     (with_reducible repeat' first|refine aj ?_|refine aB (dr _ _ _) ?_|refine aC (dr _ _ _) ?_|simp[hi,iQ,ar,aV,rI,hw,bI,si]);all_goals exact bN.whl (i+1) (by omega) (c8 (by simp[mC];omega) (fun h=>absurd h bD)) b3
    ·have si:((c.toNat:Int) !=45)=true:=by simp[bI]
     by_cases cN:(48:Int)≤c.toNat∧(c.toNat:Int)≤57
     ·(with_reducible repeat' first|refine aj ?_|refine aB (dr _ _ _) ?_|refine aC (dr _ _ _) ?_|simp[hi,iQ,ar,aV,rI,hw,bI,si,cN]);all_goals exact bN.whl (i+1) (by omega) (c8 (by simp[mC];omega) (fun h=>absurd h bD)) b3
     ·rw[dd (.inl (by simp[mC,aq];omega))];(with_reducible repeat' first|refine aj ?_|refine aB (dr _ _ _) ?_|refine aC (dr _ _ _) ?_|simp[hi,iQ,ar,aV,rI,hw,bI,si,cN]);simp[bp,Ba,aT,aW,aQ]
 ·have:i=s.length:=by omega
  subst this;rw[agv ag]at bH;simp[hi];(with_reducible repeat' first|refine aj ?_|refine aB (dr _ _ _) ?_|refine aC (dr _ _ _) ?_|simp[hi]);simp[bp,Ba,aT,aW,aQ];rw[←bH,qt];simp;omega
def vl:List bU→Bool
 |[a,b]=>shp a&&shp b
 |_=>false
theorem ald(k n:Int)(s:List cQ)(args:List bU):shp ⟨k,n,s,args⟩=if k≠1∧k≠3∧n≠0 then false else if k≠2∧s≠[]then false else if k≠4∧args≠[]then false else if k=0 then true else if k=1 then decide (0≤n∧n≤100000)else if k=2 then ib s else if k=3 then decide (-1000000000≤n∧n≤1000000000)else if k=4 then vl args else false:=by
 by_cases gW:k=0
 ·subst gW;match args with
  |[]=>by_cases au:n=0<;>by_cases af:s=[]<;>simp[shp,ls,au,af]
  |[a]=>simp[shp]
  |[a,b]=>simp[shp]
  |_::_::_::_=>simp[shp]
 by_cases aS:k=1
 ·subst aS;match args with
  |[]=>by_cases af:s=[]<;>simp[shp,ls,af]
  |[a]=>simp[shp]
  |[a,b]=>simp[shp]
  |_::_::_::_=>simp[shp]
 by_cases bc:k=2
 ·subst bc;match args with
  |[]=>by_cases au:n=0<;>simp[shp,ls,au]
  |[a]=>simp[shp]
  |[a,b]=>simp[shp]
  |_::_::_::_=>simp[shp]
 by_cases bT:k=3
 ·subst bT;match args with
  |[]=>by_cases af:s=[]<;>simp[shp,ls,af]
  |[a]=>simp[shp]
  |[a,b]=>simp[shp]
  |_::_::_::_=>simp[shp]
 by_cases dI:k=4
 ·subst dI;match args with
  |[]=>simp[shp,ls,vl]
  |[a]=>simp[shp,vl]
  |[a,b]=>by_cases au:n=0<;>by_cases af:s=[]<;>simp[shp,vl,au,af]
  |_::_::_::_=>simp[shp,vl]
 ·match args with
  |[]=>simp[shp,ls,gW,aS,bc,bT,dI]
  |[a]=>simp[shp,gW,aS,bc,bT,dI]
  |[a,b]=>simp[shp,gW,aS,bc,bT,dI]
  |_::_::_::_=>simp[shp,gW,aS,bc,bT,dI]
set_option maxRecDepth 8000 in
theorem amf(m:Nat):∀(t:bU),t.sz≤m→bS az 163 [enc t] (.bool (shp t)):=by
 induction m with
 |zero=>intro t aL;cases t;simp[bU.sz]at aL
 |succ m bP=>
 rintro⟨k,n,s,args⟩ aL;generalize bH:shp ⟨k,n,s,args⟩=R;have dk:=ald k n s args;rw[bH]at dk;by_cases bM:k≠1∧k≠3∧n≠0
 ·rw[if_pos bM]at dk;obtain⟨aS,bT,n0⟩:=bM;have Ar:(k !=1)=true:=by simp[aS]
  have Au:(k !=3)=true:=by simp[bT]
  have LZ:(n !=0)=true:=by simp[n0]
  subst dk;refine bq eH mv mK fun aP=>?_;unfold l1;simp[bU.kind,bU.num,bU.name,bU.args];(with_reducible repeat' first|refine aj ?_|refine aB (dr _ _ _) ?_|refine aC (dr _ _ _) ?_|refine aB (gY _) ?_|refine aC (gY _) ?_|simp[Ar,Au,LZ]);all_goals simp[bp,lU,aT,aW,aQ]
 rw[if_neg bM]at dk;have BV:(if k !=1 then k !=3 else false)=true→(n !=0)=false:=by intro h;simp at h⊢;exact Classical.byContradiction fun au=>bM ⟨h.1,h.2,au⟩
 by_cases bO:k≠2∧s≠[]
 ·rw[if_pos bO]at dk;have Gp:(k !=2)=true:=by simp[bO.1]
  have Nd:s.isEmpty=false:=by simp[bO.2]
  by_cases aS:k=1
  ·subst aS;subst dk;refine bq eH mv mK fun aP=>?_;unfold l1;simp[bU.kind,bU.num,bU.name,bU.args];(with_reducible repeat' first|refine aj ?_|refine aB (dr _ _ _) ?_|refine aC (dr _ _ _) ?_|refine aB (gY _) ?_|refine aC (gY _) ?_|simp[Nd]);all_goals simp[bp,lU,aT,aW,aQ]
  by_cases bT:k=3
  ·subst bT;subst dk;refine bq eH mv mK fun aP=>?_;unfold l1;simp[bU.kind,bU.num,bU.name,bU.args];(with_reducible repeat' first|refine aj ?_|refine aB (dr _ _ _) ?_|refine aC (dr _ _ _) ?_|refine aB (gY _) ?_|refine aC (gY _) ?_|simp[Nd]);all_goals simp[bp,lU,aT,aW,aQ]
  have Ar:(k !=1)=true:=by simp[aS]
  have Au:(k !=3)=true:=by simp[bT]
  have LZ:(n !=0)=false:=BV (by simp[aS,bT]);subst dk;refine bq eH mv mK fun aP=>?_;unfold l1;simp[bU.kind,bU.num,bU.name,bU.args];(with_reducible repeat' first|refine aj ?_|refine aB (dr _ _ _) ?_|refine aC (dr _ _ _) ?_|refine aB (gY _) ?_|refine aC (gY _) ?_|simp[Ar,Au,LZ,Gp,Nd]);all_goals simp[bp,lU,aT,aW,aQ]
 rw[if_neg bO]at dk;by_cases gW:k=0
 ·subst gW;have n0:n=0:=by simpa using BV (by decide)
  have s0:s=[]:=Classical.byContradiction fun h=>bO ⟨by omega,h⟩;subst n0 s0;by_cases a0:args=[];rotate_left
  ·rw[if_pos ⟨by omega,a0⟩]at dk;have ue:(0:Int)<args.length:=by have:=List.length_pos_iff.2 a0;omega
   subst dk;refine bq eH mv mK fun aP=>?_;unfold l1;simp[bU.kind,bU.num,bU.name,bU.args];((with_reducible repeat' first|refine aj ?_|refine aB (dr _ _ _) ?_|refine aC (dr _ _ _) ?_|refine aB (gY _) ?_|refine aC (gY _) ?_|simp[rn,ue]|((first|apply bG|apply bL|apply bK)<;>intro h<;>try simp at h))<;>(try exact cg));all_goals simp[bp,lU,aT,aW,aQ]
  rw[if_neg (by simp[a0])]at dk;subst a0;simp at dk;subst dk;refine bq eH mv mK fun aP=>?_;unfold l1;simp[bU.kind,bU.num,bU.name,bU.args];(with_reducible repeat' first|refine aj ?_|refine aB (dr _ _ _) ?_|refine aC (dr _ _ _) ?_|refine aB (gY _) ?_|refine aC (gY _) ?_|simp[rn]);all_goals simp[bp,lU,aT,aW,aQ]
 by_cases aS:k=1
 ·subst aS;have s0:s=[]:=Classical.byContradiction fun h=>bO ⟨by omega,h⟩;subst s0;by_cases a0:args=[];rotate_left
  ·rw[if_pos ⟨by omega,a0⟩]at dk;have ue:(0:Int)<args.length:=by have:=List.length_pos_iff.2 a0;omega
   subst dk;refine bq eH mv mK fun aP=>?_;unfold l1;simp[bU.kind,bU.num,bU.name,bU.args];((with_reducible repeat' first|refine aj ?_|refine aB (dr _ _ _) ?_|refine aC (dr _ _ _) ?_|refine aB (gY _) ?_|refine aC (gY _) ?_|simp[rn,ue]|((first|apply bG|apply bL|apply bK)<;>intro h<;>try simp at h))<;>(try exact cg));all_goals simp[bp,lU,aT,aW,aQ]
  rw[if_neg (by simp[a0])]at dk;subst a0;simp at dk;subst dk;refine bq eH mv mK fun aP=>?_;unfold l1;simp[bU.kind,bU.num,bU.name,bU.args];(with_reducible repeat' first|refine aj ?_|refine aB (dr _ _ _) ?_|refine aC (dr _ _ _) ?_|refine aB (gY _) ?_|refine aC (gY _) ?_|simp[rn]);all_goals simp[bp,lU,aT,aW,aQ]
 by_cases bc:k=2
 ·subst bc;have n0:n=0:=by simpa using BV (by decide)
  subst n0;by_cases a0:args=[];rotate_left
  ·rw[if_pos ⟨by omega,a0⟩]at dk;have ue:(0:Int)<args.length:=by have:=List.length_pos_iff.2 a0;omega
   subst dk;refine bq eH mv mK fun aP=>?_;unfold l1;simp[bU.kind,bU.num,bU.name,bU.args];((with_reducible repeat' first|refine aj ?_|refine aB (dr _ _ _) ?_|refine aC (dr _ _ _) ?_|refine aB (gY _) ?_|refine aC (gY _) ?_|simp[rn,ue]|((first|apply bG|apply bL|apply bK)<;>intro h<;>try simp at h))<;>(try exact cg));all_goals simp[bp,lU,aT,aW,aQ]
  rw[if_neg (by simp[a0])]at dk;subst a0;simp at dk;subst dk;refine bq eH mv mK fun aP=>?_;unfold l1;simp[bU.kind,bU.num,bU.name,bU.args];(with_reducible repeat' first|refine aj ?_|refine aB (dr _ _ _) ?_|refine aC (dr _ _ _) ?_|refine aB (gY _) ?_|refine aC (gY _) ?_|simp[rn]);all_goals simp[bp,lU,aT,aW,aQ]
 by_cases bT:k=3
 ·subst bT;have s0:s=[]:=Classical.byContradiction fun h=>bO ⟨by omega,h⟩;subst s0;by_cases a0:args=[];rotate_left
  ·rw[if_pos ⟨by omega,a0⟩]at dk;have ue:(0:Int)<args.length:=by have:=List.length_pos_iff.2 a0;omega
   subst dk;refine bq eH mv mK fun aP=>?_;unfold l1;simp[bU.kind,bU.num,bU.name,bU.args];((with_reducible repeat' first|refine aj ?_|refine aB (dr _ _ _) ?_|refine aC (dr _ _ _) ?_|refine aB (gY _) ?_|refine aC (gY _) ?_|simp[rn,ue]|((first|apply bG|apply bL|apply bK)<;>intro h<;>try simp at h))<;>(try exact cg));all_goals simp[bp,lU,aT,aW,aQ]
  rw[if_neg (by simp[a0])]at dk;subst a0;simp at dk;subst dk;refine bq eH mv mK fun aP=>?_;unfold l1;simp[bU.kind,bU.num,bU.name,bU.args];(with_reducible repeat' first|refine aj ?_|refine aB (dr _ _ _) ?_|refine aC (dr _ _ _) ?_|refine aB (gY _) ?_|refine aC (gY _) ?_|simp[rn]);all_goals simp[bp,lU,aT,aW,aQ]
 by_cases dI:k=4
 ·subst dI;have n0:n=0:=by simpa using BV (by decide)
  have s0:s=[]:=Classical.byContradiction fun h=>bO ⟨by omega,h⟩;subst n0 s0;simp at dk;match args,dk with
  |[a,b],dk=>
   simp[bU.sz,bU.szL]at aL;have bk:=bP a (by omega);have ae:=bP b (by omega);simp only[vl]at dk;subst dk;refine bq eH mv mK fun aP=>?_;unfold l1;simp[bU.kind,bU.num,bU.name,bU.args];cases q:shp a with
   |true=>rw[q]at bk;(with_reducible repeat' first|refine aj ?_|refine aB bk ?_|refine aC bk ?_|refine aB ae ?_|refine aC ae ?_|simp[rn]);all_goals simp[bp,lU,aT,aW,aQ]
   |false=>rw[q]at bk;(with_reducible repeat' first|refine aj ?_|refine aB bk ?_|refine aC bk ?_|refine aB ae ?_|refine aC ae ?_|simp[rn]);all_goals simp[bp,lU,aT,aW,aQ]
  |[],dk=>simp only[vl]at dk;subst dk;refine bq eH mv mK fun aP=>?_;unfold l1;simp[bU.kind,bU.num,bU.name,bU.args];(with_reducible repeat' first|refine aj ?_|refine aB (dr _ _ _) ?_|refine aC (dr _ _ _) ?_|refine aB (gY _) ?_|refine aC (gY _) ?_|simp[rn]);all_goals simp[bp,lU,aT,aW,aQ]
  |[_],dk=>simp only[vl]at dk;subst dk;refine bq eH mv mK fun aP=>?_;unfold l1;simp[bU.kind,bU.num,bU.name,bU.args];(with_reducible repeat' first|refine aj ?_|refine aB (dr _ _ _) ?_|refine aC (dr _ _ _) ?_|refine aB (gY _) ?_|refine aC (gY _) ?_|simp[rn]);all_goals simp[bp,lU,aT,aW,aQ]
  |_::_::_::l,dk=>
   simp only[vl]at dk;have aq:((l.length:Int)+1+1+1==2)=false:=by simp;omega
   subst dk;refine bq eH mv mK fun aP=>?_;unfold l1;simp[bU.kind,bU.num,bU.name,bU.args];(with_reducible repeat' first|refine aj ?_|refine aB (dr _ _ _) ?_|refine aC (dr _ _ _) ?_|refine aB (gY _) ?_|refine aC (gY _) ?_|simp[aq]);all_goals simp[bp,lU,aT,aW,aQ]
 have n0:(n !=0)=false:=BV (by simp[aS,bT]);have s0:s=[]:=Classical.byContradiction fun h=>bO ⟨bc,h⟩;subst s0;have T9:(k==0)=false:=by simp[gW]
 have Ar:(k==1)=false:=by simp[aS]
 have Gp:(k==2)=false:=by simp[bc]
 have Au:(k==3)=false:=by simp[bT]
 have Ud:(k==4)=false:=by simp[dI]
 have Ua:(k !=1)=true:=by simp[aS]
 have Ub:(k !=2)=true:=by simp[bc]
 have Uc:(k !=3)=true:=by simp[bT]
 have Ue:(k !=4)=true:=by simp[dI]
 by_cases a0:args=[]
 ·subst a0;simp[gW,aS,bc,bT,dI]at dk;subst dk;refine bq eH mv mK fun aP=>?_;unfold l1;simp[bU.kind,bU.num,bU.name,bU.args];(with_reducible repeat' first|refine aj ?_|refine aB (dr _ _ _) ?_|refine aC (dr _ _ _) ?_|refine aB (gY _) ?_|refine aC (gY _) ?_|simp[T9,Ar,Gp,Au,Ud,Ua,Ub,Uc,Ue,n0]);all_goals simp[bp,lU,aT,aW,aQ]
 ·rw[if_pos ⟨dI,a0⟩]at dk;have ue:(0:Int)<args.length:=by have:=List.length_pos_iff.2 a0;omega
  subst dk;refine bq eH mv mK fun aP=>?_;unfold l1;simp[bU.kind,bU.num,bU.name,bU.args];((with_reducible repeat' first|refine aj ?_|refine aB (dr _ _ _) ?_|refine aC (dr _ _ _) ?_|refine aB (gY _) ?_|refine aC (gY _) ?_|simp[ue,T9,Ar,Gp,Au,Ud,Ua,Ub,Uc,Ue,n0]|((first|apply bG|apply bL|apply bK)<;>intro h<;>try simp at h))<;>(try exact cg));all_goals simp[bp,lU,aT,aW,aQ]
theorem Ij(t:bU):bS az 76 [enc t] (.bool t.fits):=by
 rw[acZ];have ar:=X5 t 5000 (by omega) (by omega);have af:=amf t.sz t (ff _);refine bq eH ack ai4 fun aP=>?_;unfold Qm;simp;by_cases q:lF t 5000≤5000
 ·exact cB
 ·exact cB
def T6(l:List dV)(i:Nat)(_:Unit):Prop:= ∀j,j<i→AU l j
open Classical in
theorem amj(l:List dV):bS az 164 [.slice 5 .no (l.map dV.e)] (.bool (decide (zd l))):=by
 generalize bH:decide (zd l)=R;refine bq eH acG ajo fun aP=>?_;unfold QG;have gV:l.length≤68719476736:=by simp[gD,fY,gx,lim]at aP;omega
 simp;refine eC [0,5,6] (fun i (_:Unit)=>[(7,.int .i64 i)]) l.length (T6 l) () b3 (fun k ad=>by omega) (fun _ ag _=>?_) (fun i _ hi ag _=>?_)
 ·have:R=decide (l.length≤400):=by rw[←bH,decide_eq_decide];exact⟨fun h=>h.1,fun h=>⟨h,fun j ju=>ag j ju⟩⟩
  rw[this];simp;(with_reducible repeat' first|refine aj ?_|simp);simp[bp,MS,aT,aW,aQ];all_goals(first|done|omega|(simp;done)|(simp;omega))
 ·obtain⟨b,ae⟩:∃b,l[i]? =some b:=⟨_,cb hi⟩;obtain⟨c,ar⟩:∃c,l[i-1]? =some c:=⟨_,cb (by omega)⟩;have cz:∀h,(l[i]'h)=b:=fun h=>by rw[cb hi]at ae;exact e3 ae
  have dd:¬AU l i→R=false:=fun h=>by rw[←bH,hK];exact fun cr=>h (cr.2 i hi)
  have c8:AU l i→T6 l (i+1) ():=fun h j ju=>by
   by_cases e:j=i
   ·rw[e];exact h
   ·exact ag j (by omega)
  simp[hi,cz,ar];((with_reducible repeat' first|refine aj ?_|refine aB (dr _ _ _) ?_|refine aC (dr _ _ _) ?_|refine aB (Ij _) ?_|refine aC (Ij _) ?_|simp[cz,ar,hi]|((first|apply bG|apply bL|apply bK)<;>intro h<;>try simp at h))<;>(try exact cg));all_goals first
   |(have au:¬AU l i:=by(intro cr;have J:=cr b ae;have U:=J.2.1 c;have ao:=J.2.2;first|omega|(have a1:=U (by omega) ar;omega)|(rw[ao]at h;cases h)|(simp_all;done)|(simp_all;omega))
     rw[dd au]
     simp[bp,MS,aT,aW,aQ]
     done)
   |(refine bN.rng () hi (c8 fun bV gd=>?_) ?_
     ·rw[ae]at gd;cases gd
      refine⟨?_,fun cf bD hh=>?_,?_⟩
      ·omega
      ·rw[ar]at hh;cases hh;omega
      ·first|assumption|simp_all
     ·exact b3)
def mE(n:Int):List Int→List Int
 |[]=>[n]
 |c::l=>if c<n then c::mE n l else if c=n then c::l else n::c::l
def tV(l:List Int):Prop:=l.Pairwise (· < ·)
theorem TZ(n:Int):∀(l:List Int) (k:Nat),(∀i c,i<k→l[i]? =some c→c<n)→(∀c,l[k]? =some c→n≤c)→k≤l.length→mE n l=if l[k]? =some n then l else l.take k++n::l.drop k
 |[],k,_,_,ad=>by simp at ad;subst ad;rfl
 |c::l,0,_,U,_=>by
  have:=U c rfl;by_cases e:c=n
  ·simp[mE,e]
  ·have ao:¬c<n:=by omega
   simp[mE,ao,e]
 |c::l,k+1,J,U,ad=>by have bD:=J 0 c (by omega) rfl;simp only[mE,if_pos bD,List.take_succ_cons,List.drop_succ_cons,bR,List.getElem?_cons_succ];rw[TZ n l k (fun i d hi aE=>J (i+1) d (by omega) (by simpa using aE)) (fun d aE=>U d (by simpa using aE)) (by simpa using ad)];split<;>rfl
theorem LR{n m:Int}:∀{l:List Int},m∈mE n l↔m=n∨m∈l
 |[]=>by simp[mE]
 |c::l=>by
  simp only[mE];split
  ·simp only[fA,LR (l:=l)];constructor
   ·rintro(h|h|h)
    ·exact .inr (.inl h)
    ·exact .inl h
    ·exact .inr (.inr h)
   ·rintro(h|h|h)
    ·exact .inr (.inl h)
    ·exact .inl h
    ·exact .inr (.inr h)
  ·split
   ·rename_i h;subst h;simp
   ·simp
theorem TY{n:Int}:∀{l:List Int},tV l→tV (mE n l)
 |[],_=>by simp[mE,tV]
 |c::l,h=>by
  obtain⟨J,U⟩:=mP.1 h;simp only[mE];split
  ·rename_i ao;refine mP.2 ⟨fun m hm=>?_,TY U⟩;rcases LR.1 hm with rfl|hm
   ·exact ao
   ·exact J m hm
  ·split
   ·exact h
   ·refine mP.2 ⟨fun m hm=>?_,h⟩;rcases fA.1 hm with rfl|hm
    ·omega
    ·have:=J m hm;omega
theorem T0(n:Int):∀l:List Int,(mE n l).length≤l.length+1
 |[]=>by simp[mE]
 |c::l=>by
  have:=T0 n l;simp only[mE];split
  ·simp;omega
  ·split<;>simp
theorem C1(l:List Int)(i:Nat):(eu l)[i]? =(l[i]?).map (ah.int .i64):=by simp[eu]
theorem e4(l:List Int):(eu l).length=l.length:=by simp[eu]
theorem yW:∀l:List Int,di (eu l)=eu l
 |[]=>by simp[eu,di]
 |a::l=>by have:=yW l;simp only[eu,gP,di,dU]at this⊢;rw[this]
theorem Gj(l:List Int)(n:Int)(k:Nat):di (oZ k (eu l)++ah.int .i64 n::List.drop k (oZ l.length (eu l)))=eu (oZ k l++n::List.drop k l):=by
 have e:oZ l.length (eu l)=eu l:=hb (by simp[eu]);have ax:oZ k (eu l)++ah.int .i64 n::List.drop k (eu l)=eu (oZ k l++n::List.drop k l):=by simp only[eu,List.map_append,gP,List.map_take,List.map_drop]
 rw[e,ax];exact yW _
theorem ame(l:List Int)(n:Int)(aq:l.length≤1000000)(bk:tV l):bS az 230 [.slice 1 .no (eu l),.int .i64 n] (.slice 1 .no (eu (mE n l))):=by
 refine bq eH acv ajd fun aP=>?_;unfold Qv;simp;refine vM [0,1] (fun(k:Nat)=>[(5,.int .i64 k)]) (fun k=>k) (fun k=>k≤l.length∧∀c,l[k]? =some c→n≤c) l.length b3 ⟨by omega,fun c h=>by simp at h⟩ (fun k ag _=>?_);obtain⟨ad,ag⟩:=ag;have s6:(∀c,0<k→l[k-1]? =some c→c<n)→mE n l=if l[k]? =some n then l else l.take k++n::l.drop k:=fun h=>TZ n l k (fun i c hi ar=>by
  obtain⟨d,aE⟩:∃d,l[k-1]? =some d:=⟨_,cb (by omega)⟩;have J:=h d (by omega) aE;rcases Nat.lt_or_ge i (k-1)with U|U
  ·have s8:=(fU.1 ar);have ln:=(fU.1 aE);have:=pK.1 bk i (k-1) s8.1 ln.1 U;rw[s8.2,ln.2]at this;omega
  ·have:i=k-1:=by omega
   subst this;rw[aE]at ar;cases ar;exact J) ag ad
 have kU:∀c,l[k]? =some c→∀h,((eu l)[k]'h)= .int .i64 c:=fun c h cr=>by have:=C1 l k;rw[h,cb cr]at this;exact e3 this
 have dz:(0<k→∃d,l[k-1]? =some d∧d<n)→∀P:Prop,(mE n l=(if l[k]? =some n then l else l.take k++n::l.drop k)→P)→P:=fun h P aeg=>aeg (s6 fun c bD ar=>by obtain⟨d,aE,J⟩:=h bD;rw[aE]at ar;cases ar;exact J)
 rcases Nat.eq_zero_or_pos k with bD|fE
 ·have aY:decide ((0:Int)<k)=false:=by simp;omega
  refine dz (fun h=>by omega) _ fun e=>?_;by_cases iC:k<l.length
  ·obtain⟨c,ar⟩:∃c,l[k]? =some c:=⟨_,cb iC⟩;have hh:=kU c ar;rw[ar]at e;by_cases q:c=n
   ·have gA:(c==n)=true:=by simp[q]
    rw[if_pos (by rw[q])]at e;rw[e];simp[aY,iC];((with_reducible repeat' first|refine aj ?_|simp[aY,iC,hh,gA]|((first|apply bG|apply bL|apply bK)<;>intro h<;>try simp at h))<;>(try exact cg));all_goals simp[bp,yH,aT,aW,aQ]
   ·have gA:(c==n)=false:=by simp[q]
    rw[if_neg (by simp[q])]at e;rw[e];simp[aY,iC];((with_reducible repeat' first|refine aj ?_|simp[aY,iC,hh,gA]|((first|apply bG|apply bL|apply bK)<;>intro h<;>try simp at h))<;>(try exact cg));all_goals simp[bp,yH,aT,aW,aQ]
    all_goals exact Gj l n k
  ·rw[qu (by omega)]at e;simp only[reduceCtorEq,if_false]at e;rw[e];simp[aY,iC];((with_reducible repeat' first|refine aj ?_|simp[aY,iC]|((first|apply bG|apply bL|apply bK)<;>intro h<;>try simp at h))<;>(try exact cg));all_goals simp[bp,yH,aT,aW,aQ]
   all_goals exact Gj l n k
 ·obtain⟨d,aE⟩:∃d,l[k-1]? =some d:=⟨_,cb (by omega)⟩;have ai:((k:Int)-1).toNat=k-1:=by omega
  have ax:∀h,((eu l)[k-1]'h)= .int .i64 d:=fun cr=>by have:=C1 l (k-1);rw[aE,cb cr]at this;exact e3 this
  have iV:(0:Int)<k:=by omega
  have l9:k-1<l.length:=by omega
  by_cases ae:n≤d
  ·simp[fE,iV,ai,ax,ae,l9];(with_reducible repeat' first|refine aj ?_|simp[fE,iV,ai,ax,ae,l9]);refine bN.whl (k-1) (by omega) ⟨by omega,fun c ar=>by rw[aE]at ar;cases ar;exact ae⟩ ?_;have bn:((k-1:Nat):Int)=(k:Int)-1:=by omega
   simp[bn];exact b3
  ·refine dz (fun _=>⟨d,aE,by omega⟩) _ fun e=>?_;by_cases iC:k<l.length
   ·obtain⟨c,ar⟩:∃c,l[k]? =some c:=⟨_,cb iC⟩;have hh:=kU c ar;rw[ar]at e;by_cases q:c=n
    ·have gA:(c==n)=true:=by simp[q]
     rw[if_pos (by rw[q])]at e;rw[e];simp[fE,iV,ai,ax,ae,l9,iC];((with_reducible repeat' first|refine aj ?_|simp[fE,iV,ai,ax,ae,l9,iC,hh,gA]|((first|apply bG|apply bL|apply bK)<;>intro h<;>try simp at h))<;>(try exact cg));all_goals simp[bp,yH,aT,aW,aQ]
    ·have gA:(c==n)=false:=by simp[q]
     rw[if_neg (by simp[q])]at e;rw[e];simp[fE,iV,ai,ax,ae,l9,iC];(with_reducible repeat' first|refine aj ?_|simp[fE,iV,ai,ax,ae,l9,iC,hh,gA]);all_goals simp[bp,yH,aT,aW,aQ]
     all_goals exact Gj l n k
   ·rw[qu (by omega)]at e;simp only[reduceCtorEq,if_false]at e;rw[e];simp[fE,iV,ai,ax,ae,l9,iC];(with_reducible repeat' first|refine aj ?_|simp[fE,iV,ai,ax,ae,l9,iC]);all_goals simp[bp,yH,aT,aW,aQ]
    all_goals exact Gj l n k
end Go.Proofs.YtohaalphocaebaaGreat
