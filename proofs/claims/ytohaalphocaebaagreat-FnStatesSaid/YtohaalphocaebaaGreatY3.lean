/- made by mk2.py: the code of the functions, and the checks against the program's own form. -/
import Derived.Test.YtohaalphocaebaaGreatProg
import Derived.Shelf.Sort.Plain
import Derived.Ground.NamesProg
import Derived.Sort.OwnSortedInts
import Derived.Lib.OwnBridge
import Derived.Test.YtohaalphocaebaaGreatY2
set_option linter.all false
set_option maxHeartbeats 4000000
open Bool renaming and_eq_true→cx,eq_iff_iff→pV,false_eq_true→gr,not_eq_true'→rT,or_eq_true→lQ
open Go.Op renaming bytesLess→gZ
open Go.Proofs.Tryz renaming prog→az
open Go.Value renaming cells→ou
open List renaming all_eq_true→jD,cons_append→bO,drop_eq_getElem_cons→kN,getElem?_eq_getElem→cv,getElem?_eq_none→pW,getElem?_eq_some_iff→fG,getElem_of_mem→ov,length_append→pa,length_drop→rV,map_cons→gI,mem_append→ja,mem_cons→ga,mem_cons_of_mem→mX,mem_filter→k3,mem_map→hH,mem_of_getElem?→gb,mem_singleton→rW,nil_append→bS,pairwise_cons→ml,pairwise_iff_getElem→pb,take_of_length_le→ha
open List.Nodup renaming length_le_of_subset→GX
open List.Pairwise renaming filter→GY,imp_of_mem→akI,nil→apU,sublist→apV
open List.Perm renaming eq_of_pairwise→ML,swap→apW
open List.cons renaming injEq→xX
open Nat renaming le_refl→e1,le_trans→ji,strongRecOn→qI
open Ne renaming symm→kO
open Option renaming bind_eq_some_iff→hI,bind_some→h4,getD_none→jj,getD_some→jk,map_eq_some_iff→gd,map_some→nC
open Option.some renaming inj→fP,injEq→dt
open Prod.mk renaming injEq→jm
open _root_ renaming False→ej,UInt8→cV,beq_iff_eq→dH,congrArg→eO,decide_eq_false→lS,decide_eq_false_iff_not→j4,decide_eq_true→lA,decide_eq_true_eq→fI
namespace Go.Pv
open Go
theorem Xq{E:Int→Int→Prop}{x:Int}{r:Int→Nat}{M:Nat}(h:∀z u,z≠x→E z u→r u<r z)(gK:∀u,E x u→r u<M)(ar:∀u,E x u→¬mm E u x):∃eD:Int→Nat,∀z u,E z u→eD u<eD z:=by
 classical
 refine⟨fun z=>if mm E z x then r z+M else r z,fun z u he=>?_⟩;show(if mm E u x then r u+M else r u)<(if mm E z x then r z+M else r z);by_cases bf:z=x
 ·subst bf;have J:=ar u he;have U:=gK u he;rw[if_neg J,if_pos (mm.refl z)];omega
 ·have J:=h z u bf he;by_cases hu:mm E u x
  ·rw[if_pos hu,if_pos (mm.step he hu)];omega
  ·rw[if_neg hu];split<;>omega
def mu(ph:Int→Option T)(ρ:Int→Int):Nat→Int→T
 |0,v=>.var (ρ v)
 |n+1,v=>match ph (ρ v)with
  |none=>.var (ρ v)
  |some t=>t.ap (mu ph ρ n)
section
variable {ph:Int→Option T} {ρ:Int→Int} {r:Int→Nat}
theorem Zg(eQ:∀v,ρ (ρ v)=ρ v):∀(n:Nat) (v:Int),mu ph ρ n v=mu ph ρ n (ρ v)
 |0,v=>by simp[mu,eQ]
 |n+1,v=>by simp[mu,eQ]
theorem PY(eQ:∀v,ρ (ρ v)=ρ v)(aI:∀z u,iK ph ρ z u→r u<r z):∀(n:Nat) (v:Int),r (ρ v)<n→mu ph ρ n v=mu ph ρ (n+1) v
 |0,_,h=>by omega
 |n+1,v,h=>by
  show(match ph (ρ v)with|none=>T.var (ρ v)|some t=>t.ap (mu ph ρ n))=(match ph (ρ v)with|none=>T.var (ρ v)|some t=>t.ap (mu ph ρ (n+1)));cases e:ph (ρ v)with
  |none=>rfl
  |some t=>refine qN fun w hw=>PY eQ aI n w ?_;have:=aI (ρ v) (ρ w) ⟨eQ v,t,w,e,hw,rfl⟩;omega
theorem PX(eQ:∀v,ρ (ρ v)=ρ v)(aI:∀z u,iK ph ρ z u→r u<r z){n:Nat}{v:Int}(h:r (ρ v)<n):∀k,mu ph ρ (n+k) v=mu ph ρ n v
 |0=>rfl
 |k+1=>by rw[←PX eQ aI h k];exact(PY eQ aI (n+k) v (by omega)).symm
def gE(ph:Int→Option T)(ρ:Int→Int)(r:Int→Nat)(v:Int):T:=mu ph ρ (r (ρ v)+1) v
theorem yy(eQ:∀v,ρ (ρ v)=ρ v)(v:Int):gE ph ρ r v=gE ph ρ r (ρ v):=by unfold gE;rw[Zg eQ,eQ]
theorem A4{v:Int}(h:ph (ρ v)=none):gE ph ρ r v= .var (ρ v):=by simp[gE,mu,h]
theorem yz(eQ:∀v,ρ (ρ v)=ρ v)(aI:∀z u,iK ph ρ z u→r u<r z){v:Int}{t:T}(h:ph (ρ v)=some t):gE ph ρ r v=t.ap (gE ph ρ r):=by show mu ph ρ (r (ρ v)+1) v=_;simp only[mu,h];refine qN fun w hw=>?_;have J:=aI (ρ v) (ρ w) ⟨eQ v,t,w,h,hw,rfl⟩;have:=PX eQ aI (n:=r (ρ w)+1) (v:=w) (by omega) (r (ρ v)-(r (ρ w)+1));rw[show r (ρ w)+1+(r (ρ v)-(r (ρ w)+1))=r (ρ v)from by omega]at this;exact this
theorem ab1(eQ:∀v,ρ (ρ v)=ρ v)(aI:∀z u,iK ph ρ z u→r u<r z):jS ph ρ (gE ph ρ r):=⟨yy eQ,fun x t ad h=>yz eQ aI (by rw[ad];exact h)⟩
theorem Gv{V:List Int}(gu:nH V ph){aL:Int→T}(h:jS ph ρ aL){z u:Int}(he:iK ph ρ z u):(aL u).size<(aL z).size:=by obtain⟨J,t,w,U,ao,rfl⟩:=he;rw[h.2 z t J U,←h.1 w];exact(zz aL ao).2 (gu z t U).1
theorem Gw{V:List Int}(gu:nH V ph){aL:Int→T}(h:jS ph ρ aL){z u:Int}(he:mm (iK ph ρ) z u):(aL u).size≤(aL z).size:=by
 induction he with
 |refl=>exact e1 _
 |step J _ bW=>have:=Gv gu h J;omega
end
theorem XU(r:Int→Nat)(t:T):∃M,∀w,t.occ w=true→r w<M:=by
 induction t with
 |var n=>exact⟨r n+1,fun w hw=>by simp[T.occ]at hw;subst hw;omega⟩
 |pair a b ee ef=>
  obtain⟨Xb,J⟩:=ee;obtain⟨Xc,U⟩:=ef;refine⟨Xb+Xc,fun w hw=>?_⟩;simp only[T.occ,lQ]at hw;rcases hw with hw|hw
  ·have:=J w hw;omega
  ·have:=U w hw;omega
 |_=>exact⟨0,fun w hw=>by simp[T.occ]at hw⟩
theorem CJ{ph:Int→Option T}{ρ:Int→Int}(eQ:∀v,ρ (ρ v)=ρ v){x:Int}{r:Int→Nat}(h:∀z u,z≠x→iK ph ρ z u→r u<r z)(ar:∀u,iK ph ρ x u→¬mm (iK ph ρ) u x):∃aL,jS ph ρ aL:=by
 have gK:∃M,∀u,iK ph ρ x u→r u<M:=by
  cases e:ph x with
  |none=>exact⟨0,fun u ⟨_,t,w,J,_⟩=>by rw[e]at J;cases J⟩
  |some t=>obtain⟨M,gK⟩:=XU (fun w=>r (ρ w)) t;refine⟨M,fun u ⟨_,dE,w,J,U,ao⟩=>?_⟩;rw[e]at J;cases J;subst ao;exact gK w U
 obtain⟨M,gK⟩:=gK;obtain⟨eD,dc⟩:=Xq h gK ar;exact⟨_,ab1 eQ dc⟩
structure lB (c:bm) (ρ:Int→Int):Prop where
 ru:jq c.up ρ
 sh:nH (ch c.up) c.ph
 sat:∃aL,jS c.ph ρ aL
theorem lB.sm{c cd:bm}{ρ:Int→Int}(h:lB c ρ)(k:ik ρ c cd):lB cd ρ:=⟨k.ru,by rw[k.keys,k.ph];exact h.sh,by rw[k.ph];exact h.sat⟩
def h7(c:bm)(ρ:Int→Int):Nat:=((ch c.up).filter fun v=>decide (ρ v=v)).length+((ch c.up).filter fun v=>decide (ρ v=v)&& !(c.ph v).isSome).length
theorem wc{c cd:bm}{ρ:Int→Int}(k:ik ρ c cd):h7 cd ρ=h7 c ρ:=by unfold h7;rw[k.keys,k.ph]
structure iL (c:bm) (ρ:Int→Int) (p:(Int→T)→Prop) (o:Bool×bm):Prop where
 keys:ch o.2.up=ch c.up
 rest:o.2.color=c.color∧o.2.size=c.size∧o.2.full=c.full
 yes:o.1=true→∃ρ',lB o.2 ρ'∧(∀aL,jS o.2.ph ρ' aL↔jS c.ph ρ aL∧p aL)∧((ρ'=ρ∧o.2.ph=c.ph)∨h7 o.2 ρ'<h7 c ρ)
 no:o.1=false→∀aL,jS c.ph ρ aL→¬p aL
theorem ik.rest{ρ:Int→Int}{c cd:bm}(h:ik ρ c cd):cd.color=c.color∧cd.size=c.size∧cd.full=c.full:=by rw[h.eq];exact⟨rfl,rfl,rfl⟩
theorem iL.sm{c cd:bm}{ρ:Int→Int}{p:(Int→T)→Prop}{o:Bool×bm}(k:ik ρ c cd)(h:iL cd ρ p o):iL c ρ p o:=⟨h.keys.trans k.keys,by rw[h.rest.1,h.rest.2.1,h.rest.2.2];exact k.rest,fun e=>by rw[←wc k,←k.ph];exact h.yes e,by rw[←k.ph];exact h.no⟩
theorem iL.congr{c:bm}{ρ:Int→Int}{p q:(Int→T)→Prop}{o:Bool×bm}(kf:∀aL,jS c.ph ρ aL→(p aL↔q aL))(h:iL c ρ p o):iL c ρ q o:=⟨h.keys,h.rest,fun e=>by obtain⟨ρ',J,U,ao⟩:=h.yes e;exact⟨ρ',J,fun aL=>(U aL).trans (and_congr_right fun af=>kf aL af),ao⟩,fun e aL af bn=>h.no e aL af ((kf aL af).2 bn)⟩
theorem vG(c:bm)(x:Int)(t:T)(z:Int):(c.know x t).ph z=if z=x then some t else c.ph z:=by
 simp only[bm.ph,bm.know,bm.shd,bm.shp,mS];by_cases h:z=x
 ·simp[h]
 ·simp only[if_neg h];exact ite_congr rfl (fun _=>rfl) fun _=>rfl
theorem S4{c:bm}{ρ:Int→Int}(hi:lB c ρ){x:Int}(ad:ρ x=x)(ab:x∈ch c.up)(je:c.ph x=none){t:T}(aN:t.kind≠1)(aJ:∀w,t.occ w=true→w∈ch c.up):
  ∃N o,(∀n,N≤n→tW n x t c=some o)∧iL c ρ (fun aL=>aL x=t.ap aL) o:=by
 have gu:nH (ch (c.know x t).up) (c.know x t).ph:=by
  intro z u bf;rw[vG]at bf;split at bf
  ·rename_i e;cases bf;subst e;exact⟨aN,aJ,ab⟩
  ·exact hi.sh z u bf
 have kV:∀aL,jS (c.know x t).ph ρ aL↔jS c.ph ρ aL∧aL x=t.ap aL:=by
  intro aL;constructor
  ·rintro⟨J,U⟩;refine⟨⟨J,fun z u bf hu=>U z u bf ?_⟩,U x t ad (by rw[vG];simp)⟩;rw[vG];split
   ·rename_i e;subst e;rw[je]at hu;cases hu
   ·exact hu
  ·rintro⟨⟨J,U⟩,ao⟩;refine⟨J,fun z u bf hu=>?_⟩;rw[vG]at hu;split at hu
   ·rename_i e;subst e;cases hu;exact ao
   ·exact U z u bf hu
 obtain⟨N,a,J,U,ao⟩:=F4 (x:=x) (c:=c.know x t) (t:=t) hi.ru gu aJ;refine⟨N,(!a.found,a.c),fun n ar=>by simp[tW,J n ar],U.keys,U.rest,fun aQ=>?_,fun aQ aL af he=>?_⟩
 ·simp only[rT]at aQ;have adn:∀u,iK (c.know x t).ph ρ x u→¬mm (iK (c.know x t).ph ρ) u x:=by rintro u ⟨_,dE,w,a1,bt,rfl⟩ aI;rw[vG,if_pos rfl]at a1;cases a1;have:=ao.2 ⟨w,bt,aI⟩;rw[aQ]at this;cases this
  obtain⟨kM,tO⟩:=hi.sat
  have adC:=CJ (ph:=(c.know x t).ph) (ρ:=ρ) hi.ru.idem (x:=x) (r:=fun z=>(kM z).size) (fun z u bf he=>by refine Gv hi.sh tO ?_;obtain⟨ak,dE,w,aA,bs⟩:=he;rw[vG,if_neg bf]at aA;exact⟨ak,dE,w,aA,bs⟩) adn
  refine⟨ρ,⟨U.ru,?_,?_⟩,fun aL=>?_,.inr ?_⟩
  ·simp only[U.keys,U.ph];exact gu
  ·simp only[U.ph];exact adC
  ·simp only[U.ph];exact kV aL
  ·simp only[wc U];unfold h7;have ak:ch (c.know x t).up=ch c.up:=rfl;rw[ak];have:=D7 (V:=ch c.up) (v:=x) (p:=fun v=>decide (ρ v=v)&& !(c.ph v).isSome) (q:=fun v=>decide (ρ v=v)&& !((c.know x t).ph v).isSome) (fun z _ bf=>by
    rw[vG]at bf;split at bf
    ·simp at bf
    ·exact bf) ab (by simp[ad,je]) (by simp[vG])
   omega
 ·simp only[Bool.not_eq_false']at aQ;obtain⟨w,a1,bt⟩:=ao.1 aQ;have fw:=(kV aL).2 ⟨af,he⟩;have:=Gw gu fw bt;have aZ:=(zz aL a1).2 aN;rw[←he]at aZ;rw[←af.1 w]at this;omega
def iS(ρ:Int→Int)(x y:Int)(v:Int):Int:=if ρ v=y then x else ρ v
section
variable {c:bm} {ρ:Int→Int} {x y:Int}
theorem pF(ad:ρ x=x)(aG:ρ y=y)(hB:x≠y){z:Int}:iS ρ x y z=z↔ρ z=z∧z≠y:=by
 unfold iS;split
 ·rename_i e;constructor
  ·intro h;subst h;rw[ad]at e;exact absurd e hB
  ·rintro⟨J,U⟩;rw[J]at e;exact absurd e U
 ·rename_i e;constructor
  ·intro h;exact⟨h,fun aA=>e (by rw[aA,aG])⟩
  ·exact fun h=>h.1
theorem jq.join(h:jq c.up ρ)(ad:ρ x=x)(aG:ρ y=y)(hB:x<y)(BW:x∈ch c.up)(tX:y∈ch c.up):jq (c.join x y).up (iS ρ x y):=by
 have ab:ch (c.join x y).up=ch c.up:=BV tX;refine⟨fun v u aJ=>?_,fun v aJ=>?_⟩
 ·rw[ab];have lL:tg v (eN y x c.up)=some u:=aJ;rw[mS]at lL;by_cases e:v=y
  ·subst e;rw[if_pos rfl]at lL;cases lL;have bV:=(h.mem BW).2;rw[ad]at bV;refine⟨⟨bV,by omega,BW⟩,?_,⟨fun e=>?_,fun e=>by omega⟩⟩
   ·unfold iS;rw[ad,aG,if_pos rfl,if_neg (by omega)]
   ·have:=((pF ad aG (by omega)).1 e).2;exact absurd rfl this
  ·rw[if_neg e]at lL;obtain⟨bp,a2,a3⟩:=h.up v u lL;refine⟨bp,by unfold iS;rw[a2],?_⟩;rw[pF ad aG (by omega),a3];exact⟨fun h=>h.1,fun h=>⟨h,e⟩⟩
 ·rw[ab]at aJ;have:=h.no v aJ;unfold iS;rw[this,if_neg fun e=>aJ (by rw[e];exact tX)]
theorem ai4{ph:Int→Option T}(ad:ρ x=x)(aG:ρ y=y)(hB:x≠y)(aL:Int→T):(jS ph (iS ρ x y) aL∧∀t,ph y=some t→aL x=t.ap aL)↔(jS ph ρ aL∧aL x=aL y):=by
 constructor
 ·rintro⟨⟨J,U⟩,ao⟩;have JH:aL y=aL x:=by have:=J y;simpa[iS,aG]using this
  refine⟨⟨fun v=>?_,fun z t bf aN=>?_⟩,JH.symm⟩
  ·have:=J v;unfold iS at this;split at this
   ·rename_i e;rw[e,this,JH]
   ·exact this
  ·by_cases e:z=y
   ·subst e;rw[JH];exact ao t aN
   ·exact U z t ((pF ad aG hB).2 ⟨bf,e⟩) aN
 ·rintro⟨⟨J,U⟩,ao⟩;refine⟨⟨fun v=>?_,fun z t bf aN=>U z t ((pF ad aG hB).1 bf).1 aN⟩,fun t aN=>by rw[ao];exact U y t aG aN⟩;unfold iS;split
  ·rename_i e;rw[J v,e,ao]
  ·exact J v
theorem ain{V:List Int}{ph:Int→Option T}(gu:nH V ph)(ad:ρ x=x)(aG:ρ y=y)(hB:x≠y){aL:Int→T}(h:jS ph ρ aL){z u:Int}(bf:z≠x)(he:iK ph (iS ρ x y) z u):(if u=x then 0 else(aL u).size)<(if z=x then 0 else(aL z).size):=by
 obtain⟨J,t,w,U,ao,rfl⟩:=he;have aI:=(pF ad aG hB).1 J;rw[if_neg bf];split
 ·exact T.size_pos _
 ·rename_i cC;have:iS ρ x y w=ρ w:=by
   unfold iS at cC⊢;split
   ·rename_i e;rw[if_pos e]at cC;exact absurd rfl cC
   ·rfl
  rw[this];exact Gv gu h ⟨aI.1,t,w,U,ao,rfl⟩
theorem W8(ad:ρ x=x)(aG:ρ y=y)(hB:x≠y)(tX:y∈ch c.up):h7 (c.join x y) (iS ρ x y)<h7 c ρ:=by have ab:ch (c.join x y).up=ch c.up:=BV tX;have bF:(c.join x y).ph=c.ph:=rfl;unfold h7;rw[ab,bF];have J:=D7 (V:=ch c.up) (v:=y) (p:=fun v=>decide (ρ v=v)) (q:=fun v=>decide (iS ρ x y v=v)) (fun z _ bf=>by simp only[fI]at bf⊢;exact((pF ad aG hB).1 bf).1) tX (by simp[aG]) (by simp only[j4];exact fun h=>((pF ad aG hB).1 h).2 rfl);have U:=D6 (V:=ch c.up) (p:=fun v=>decide (ρ v=v)&& !(c.ph v).isSome) (q:=fun v=>decide (iS ρ x y v=v)&& !(c.ph v).isSome) (fun z _ bf=>by simp only[cx,fI]at bf⊢;exact⟨((pF ad aG hB).1 bf.1).1,bf.2⟩);omega
end
theorem zI{c:bm}{x:Int}(h:c.shd x=false):c.ph x=none:=by simp[bm.ph,h]
theorem zJ{c:bm}{x:Int}(h:¬c.shd x=false):c.ph x=some (c.shp x):=by simp[bm.ph];simpa using h
theorem PO{c:bm}{ρ:Int→Int}(hi:lB c ρ){x y:Int}(ad:ρ x=x)(aG:ρ y=y)(hB:x<y)(BW:x∈ch c.up)(tX:y∈ch c.up)
  (rec:∀(bL:bm) (k2:Int→Int),lB bL k2→ch bL.up=ch c.up→h7 bL k2<h7 c ρ→∀a b:T,(∀w,a.occ w=true→w∈ch c.up)→(∀w,b.occ w=true→w∈ch c.up)→∃N o,(∀n,N≤n→gn n a b bL=some o)∧iL bL k2 (fun aL=>a.ap aL=b.ap aL) o):
  ∃N o,(∀n,N≤n→qU (gn n) n x y (c.join x y)=some o)∧iL c ρ (fun aL=>aL x=aL y) o:=by
 have cC:x≠y:=by omega
 have ab:ch (c.join x y).up=ch c.up:=BV tX;have bF:(c.join x y).ph=c.ph:=rfl;have lJ:=hi.ru.join ad aG hB BW tX;have c1:=W8 (c:=c) ad aG cC tX;have gu:nH (ch (c.join x y).up) (c.join x y).ph:=by rw[ab,bF];exact hi.sh
 obtain⟨kM,tO⟩:=hi.sat
 have EO:∀z u,z≠x→iK c.ph (iS ρ x y) z u→(fun z=>if z=x then 0 else(kM z).size) u<(fun z=>if z=x then 0 else(kM z).size) z:=fun z u bf he=>ain hi.sh ad aG cC tO bf he;have kV:=fun aL=>ai4 (ph:=c.ph) ad aG cC aL;have R3:∀{cd:bm},ik (iS ρ x y) (c.join x y) cd→(∃aL,jS c.ph (iS ρ x y) aL)→c.ph y=none→iL c ρ (fun aL=>aL x=aL y) (true,cd):=by intro cd k af ar;refine⟨k.keys.trans ab,k.rest,fun _=>⟨iS ρ x y,⟨k.ru,by simp only[k.keys,k.ph];exact gu,by simp only[k.ph];exact af⟩,fun aL=>?_,.inr (by simp only[wc k];exact c1)⟩,fun e=>by cases e⟩;simp only[k.ph,bF];rw[←kV aL];exact⟨fun h=>⟨h,fun t aN=>by rw[ar]at aN;cases aN⟩,fun h=>h.1⟩
 by_cases J:(c.join x y).shd y=false
 ·have RQ:c.ph y=none:=zI J;by_cases U:(c.join x y).shd x=false
  ·have iz:c.ph x=none:=zI U;refine⟨0,(true,c.join x y),fun n _=>by simp only[qU,if_pos J,if_pos U],R3 (ik.refl lJ) ?_ RQ⟩;exact CJ lJ.idem (x:=x) EO fun u ⟨_,t,w,q,_⟩=>by rw[iz]at q;cases q
  ·have nm:c.ph x=some ((c.join x y).shp x):=zJ U;obtain⟨N,a,ak,aA,bs⟩:=F4 (x:=x) (c:=c.join x y) (t:=(c.join x y).shp x) lJ gu (by rw[ab];exact(hi.sh _ _ nm).2.1);refine⟨N,(!a.found,a.c),fun n ar=>by simp only[qU,if_pos J,if_neg U,ak n ar,nC],?_⟩;cases aQ:a.found with
   |false=>refine R3 aA (CJ lJ.idem (x:=x) EO fun u ⟨_,t,w,a1,bt,b2⟩ aI=>?_) RQ;rw[nm]at a1;cases a1;subst b2;have:=bs.2 ⟨w,bt,aI⟩;rw[aQ]at this;cases this
   |true=>refine⟨aA.keys.trans ab,aA.rest,(fun e=>by cases e),fun _ aL af he=>?_⟩;obtain⟨w,a1,bt⟩:=bs.1 aQ;have fw:=((kV aL).2 ⟨af,he⟩).1;have ao:=Gw hi.sh fw bt;have aZ:=(zz aL a1).2 (hi.sh _ _ nm).1;rw[←fw.2 x _ ((pF ad aG cC).2 ⟨ad,cC⟩) nm]at aZ;rw[←fw.1 w]at ao;omega
 ·have qm:c.ph y=some ((c.join x y).shp y):=zJ J;by_cases U:(c.join x y).shd x=false
  ·have iz:c.ph x=none:=zI U;have lG:lB (c.join x y) (iS ρ x y):=⟨lJ,gu,CJ lJ.idem (x:=x) EO fun u ⟨_,t,w,q,_⟩=>by rw[bF,iz]at q;cases q⟩;obtain⟨N,o,ak,aA⟩:=S4 lG (x:=x) ((pF ad aG cC).2 ⟨ad,cC⟩) (by rw[ab];exact BW) iz (t:=(c.join x y).shp y) (hi.sh _ _ qm).1 (by rw[ab];exact(hi.sh _ _ qm).2.1);refine⟨N,o,fun n ar=>by simp only[qU,if_neg J,if_pos U,ak n ar],aA.keys.trans ab,aA.rest,fun aQ=>?_,fun aQ aL af he=>?_⟩
   ·obtain⟨ρ',g1,g2,g3⟩:=aA.yes aQ;refine⟨ρ',g1,fun aL=>?_,.inr ?_⟩
    ·rw[g2 aL,←kV aL];refine and_congr_right fun _=>⟨fun h t aN=>by rw[qm]at aN;cases aN;exact h,fun h=>h _ qm⟩
    ·rcases g3 with⟨rfl,g3⟩|g3
     ·have:h7 o.2 (iS ρ x y)=h7 (c.join x y) (iS ρ x y):=by unfold h7;rw[aA.keys,g3]
      omega
     ·omega
   ·obtain⟨s1,s2⟩:=(kV aL).2 ⟨af,he⟩;exact aA.no aQ aL s1 (s2 _ qm)
  ·have nm:c.ph x=some ((c.join x y).shp x):=zJ U;obtain⟨hn,a,ak,aA,bs⟩:=F4 (x:=x) (c:=c.join x y) (t:=(c.join x y).shp y) lJ gu (by rw[ab];exact(hi.sh _ _ qm).2.1);cases aQ:a.found with
   |true=>refine⟨hn,(false,a.c),fun n ar=>by simp only[qU,if_neg J,if_neg U,ak n ar,h4,aQ,if_true],aA.keys.trans ab,aA.rest,(fun e=>by cases e),fun _ aL af he=>?_⟩;obtain⟨w,a1,bt⟩:=bs.1 aQ;obtain⟨fw,oQ⟩:=(kV aL).2 ⟨af,he⟩;have ao:=Gw hi.sh fw bt;have aZ:=(zz aL a1).2 (hi.sh _ _ qm).1;rw[←oQ _ qm]at aZ;rw[←fw.1 w]at ao;omega
   |false=>
    have R6:a.c.shp x=(c.join x y).shp x:=aA.shp x;obtain⟨iM,b,f1,f2,f3⟩:=F4 (x:=x) (c:=a.c) (t:=(c.join x y).shp x) aA.ru (by rw[aA.keys,aA.ph];exact gu) (by rw[aA.keys,ab];exact(hi.sh _ _ nm).2.1);have ev:=aA.trans f2;cases aS:b.found with
    |true=>refine⟨max hn iM,(false,b.c),fun n ar=>by simp only[qU,if_neg J,if_neg U,ak n (by omega),h4,aQ,R6,f1 n (by omega),aS,if_true,gr,if_false],ev.keys.trans ab,ev.rest,(fun e=>by cases e),fun _ aL af he=>?_⟩;obtain⟨w,a1,bt⟩:=f3.1 aS;obtain⟨fw,_⟩:=(kV aL).2 ⟨af,he⟩;rw[aA.ph]at bt;have ao:=Gw hi.sh fw bt;have aZ:=(zz aL a1).2 (hi.sh _ _ nm).1;rw[←fw.2 x _ ((pF ad aG cC).2 ⟨ad,cC⟩) nm]at aZ;rw[←fw.1 w]at ao;omega
    |false=>
     have yK:lB b.c (iS ρ x y):=by refine⟨ev.ru,by rw[ev.keys,ev.ph];exact gu,?_⟩;rw[ev.ph];refine CJ lJ.idem (x:=x) EO fun u ⟨_,t,w,a1,bt,b2⟩ aI=>?_;rw[bF,nm]at a1;cases a1;subst b2;have:=f3.2 ⟨w,bt,by rw[aA.ph];exact aI⟩;rw[aS]at this;cases this
     obtain⟨x0,o,g1,g2⟩:=rec b.c (iS ρ x y) yK (ev.keys.trans ab) (by rw[wc ev];exact c1) ((c.join x y).shp x) ((c.join x y).shp y) (hi.sh _ _ nm).2.1 (hi.sh _ _ qm).2.1;refine⟨max (max hn iM) x0,o,fun n ar=>?_,g2.keys.trans (ev.keys.trans ab),?_,fun cP=>?_,fun cP aL af he=>?_⟩
     ·simp only[qU,if_neg J,if_neg U,ak n (by omega),h4,aQ,R6,f1 n (by omega),aS,gr,if_false,ev.shp];exact g1 n (by omega)
     ·rw[g2.rest.1,g2.rest.2.1,g2.rest.2.2];exact ev.rest
     ·obtain⟨ρ',a1,bt,b2⟩:=g2.yes cP;refine⟨ρ',a1,fun aL=>?_,.inr ?_⟩
      ·rw[bt aL,ev.ph,bF,←kV aL];refine and_congr_right fun h=>?_;have:=h.2 x _ ((pF ad aG cC).2 ⟨ad,cC⟩) nm;rw[←this];exact⟨fun h t aN=>by rw[qm]at aN;cases aN;exact h,fun h=>h _ qm⟩
      ·have:h7 b.c (iS ρ x y)<h7 c ρ:=by rw[wc ev];exact c1
       rcases b2 with⟨rfl,b2⟩|b2
       ·have:h7 o.2 (iS ρ x y)=h7 b.c (iS ρ x y):=by unfold h7;rw[g2.keys,b2]
        omega
       ·omega
     ·obtain⟨s1,s2⟩:=(kV aL).2 ⟨af,he⟩;refine g2.no cP aL (by rw[ev.ph];exact s1) ?_;have:=s1.2 x _ ((pF ad aG cC).2 ⟨ad,cC⟩) nm;rw[←this];exact s2 _ qm
def ts:T→T→Nat
 | .var _,_=>1
 |_,.var _=>2
 |_,_=>0
theorem Ym(K:Nat):∀(m:Nat) (c:bm) (ρ:Int→Int) (a b:T) (kM:Int→T),lB c ρ→jS c.ph ρ kM→(∀w,a.occ w=true→w∈ch c.up)→(∀w,b.occ w=true→w∈ch c.up)→h7 c ρ=K→((a.ap kM).size+(b.ap kM).size)*3+ts a b=m→
  ∃N o,(∀n,N≤n→gn n a b c=some o)∧iL c ρ (fun aL=>a.ap aL=b.ap aL) o:=by
 induction K using qI with
 |ind K ad3=>
 have Sh:∀(bL:bm) (k2:Int→Int),lB bL k2→h7 bL k2<K→∀a b:T,(∀w,a.occ w=true→w∈ch bL.up)→(∀w,b.occ w=true→w∈ch bL.up)→∃N o,(∀n,N≤n→gn n a b bL=some o)∧iL bL k2 (fun aL=>a.ap aL=b.ap aL) o:=by
  intro bL k2 J U a b br ae;obtain⟨aL,fT⟩:=J.sat
  exact ad3 _ U _ bL k2 a b aL J fT br ae rfl rfl
 intro m;induction m using qI with
 |ind m y8=>
 intro c ρ a b kM hi tO br ae c1 hm;have ac4:∀{a b:T},(∀n,gn (n+1) a b c=some (decide (a=b),c))→(∀aL,a.ap aL=a)→(∀aL,b.ap aL=b)→∃N o,(∀n,N≤n→gn n a b c=some o)∧iL c ρ (fun aL=>a.ap aL=b.ap aL) o:=by
  intro a b J U ao;refine⟨1,(decide (a=b),c),fun n ar=>?_,rfl,⟨rfl,rfl,rfl⟩,fun h=>?_,fun h aL _ he=>?_⟩
  ·obtain⟨n',rfl⟩:∃n',n=n'+1:=⟨n-1,by omega⟩;exact J n'
  ·simp only[fI]at h;subst h;exact⟨ρ,hi,fun aL=>⟨fun h=>⟨h,rfl⟩,fun h=>h.1⟩,.inl ⟨rfl,rfl⟩⟩
  ·simp only[j4]at h;rw[U,ao]at he;exact h he
 have Rc:∀{a b:T},(∀n,gn (n+1) a b c=some (decide (a=b),c))→(∀aL,a.ap aL≠b.ap aL)→a≠b→∃N o,(∀n,N≤n→gn n a b c=some o)∧iL c ρ (fun aL=>a.ap aL=b.ap aL) o:=by intro a b J U ao;refine⟨1,(false,c),fun n ar=>?_,rfl,⟨rfl,rfl,rfl⟩,(fun h=>by cases h),fun _ aL _ he=>U aL he⟩;obtain⟨n',rfl⟩:∃n',n=n'+1:=⟨n-1,by omega⟩;rw[J n',lS ao]
 have vh:∀(i:Int) (b:T),b.kind≠1→(∀n,gn (n+1) (.var i) b c=(rt c i).bind fun p=>if p.2.shd p.1=false then tW n p.1 b p.2 else gn n (p.2.shp p.1) b p.2)→i∈ch c.up→(∀w,b.occ w=true→w∈ch c.up)→((kM i).size+(b.ap kM).size)*3<m→∃N o,(∀n,N≤n→gn n (.var i) b c=some o)∧iL c ρ (fun aL=>aL i=b.ap aL) o:=by
  intro i b nS Rh vo ae bq;obtain⟨bL,ak,aR⟩:=sQ hi.ru vo;have lG:=hi.sm aR;by_cases af:bL.shd (ρ i)=false
  ·obtain⟨N,o,aA,dm⟩:=S4 lG (x:=ρ i) (hi.ru.idem i) (by rw[aR.keys];exact(hi.ru.mem vo).1) (zI af) nS (by rw[aR.keys];exact ae);refine⟨N+1,o,fun n ar=>?_,iL.sm aR (iL.congr (fun aL h=>?_) dm)⟩
   ·obtain⟨n',rfl⟩:∃n',n=n'+1:=⟨n-1,by omega⟩;rw[Rh,ak];simp only[h4,if_pos af];exact aA n' (by omega)
   ·rw[←h.1 i]
  ·have nm:bL.ph (ρ i)=some (bL.shp (ρ i)):=zJ af;have kV:∀aL,jS bL.ph ρ aL→aL i=(bL.shp (ρ i)).ap aL:=fun aL h=>by rw[h.1 i];exact h.2 _ _ (hi.ru.idem i) nm
   have gW:=(lG.sh _ _ nm).1;have acI:ts (bL.shp (ρ i)) b=0:=by cases e:bL.shp (ρ i)<;>cases b<;>simp_all[ts,T.kind]
   have Sg:jS bL.ph ρ kM:=by rw[aR.ph];exact tO
   obtain⟨N,o,aA,dm⟩:=y8 (((bL.shp (ρ i)).ap kM).size*3+(b.ap kM).size*3) (by rw[←kV kM Sg];omega) bL ρ (bL.shp (ρ i)) b kM lG Sg (lG.sh _ _ nm).2.1 (by rw[aR.keys];exact ae) (by rw[wc aR];exact c1) (by rw[acI];omega);refine⟨N+1,o,fun n ar=>?_,iL.sm aR (iL.congr (fun aL h=>?_) dm)⟩
   ·obtain⟨n',rfl⟩:∃n',n=n'+1:=⟨n-1,by omega⟩;rw[Rh,ak];simp only[h4,if_neg af];exact aA n' (by omega)
   ·rw[kV aL h]
 have BJ:∀(i j:Int),i∈ch c.up→j∈ch c.up→∃N o,(∀n,N≤n→gn n (.var i) (.var j) c=some o)∧iL c ρ (fun aL=>aL i=aL j) o:=by
  intro i j vo Fc;obtain⟨bL,ak,aR⟩:=sQ hi.ru vo;obtain⟨cn,aA,be⟩:=sQ aR.ru (by rw[aR.keys];exact Fc:j∈ch bL.up);have sx:=aR.trans be;have hj:=hi.sm sx;have tJ:ρ i∈ch cn.up:=by rw[sx.keys];exact(hi.ru.mem vo).1
  have Rx:ρ j∈ch cn.up:=by rw[sx.keys];exact(hi.ru.mem Fc).1
  have vc:∀(bL:bm) (k2:Int→Int),lB bL k2→ch bL.up=ch cn.up→h7 bL k2<h7 cn ρ→∀a b:T,(∀w,a.occ w=true→w∈ch cn.up)→(∀w,b.occ w=true→w∈ch cn.up)→∃N o,(∀n,N≤n→gn n a b bL=some o)∧iL bL k2 (fun aL=>a.ap aL=b.ap aL) o:=fun dp ρ3 J U ao a b br ae=>Sh dp ρ3 J (by rw[wc sx,c1]at ao;exact ao) a b (by rw[U];exact br) (by rw[U];exact ae);rcases Int.lt_trichotomy (ρ i) (ρ j)with h|h|h
  ·obtain⟨N,o,bs,iF⟩:=PO hj (hi.ru.idem i) (hi.ru.idem j) h tJ Rx vc;refine⟨N+1,o,fun n ar=>?_,iL.sm sx (iL.congr (fun aL h=>?_) iF)⟩
   ·obtain⟨n',rfl⟩:∃n',n=n'+1:=⟨n-1,by omega⟩;simp only[gn,ak,aA,h4];rw[if_neg (by omega),if_neg (by omega)];exact bs n' (by omega)
   ·rw[h.1 i,h.1 j]
  ·refine⟨1,(true,cn),fun n ar=>?_,sx.keys,sx.rest,fun _=>⟨ρ,hj,fun aL=>?_,.inl ⟨rfl,sx.ph⟩⟩,fun e=>by cases e⟩
   ·obtain⟨n',rfl⟩:∃n',n=n'+1:=⟨n-1,by omega⟩;simp only[gn,ak,aA,h4,if_pos h]
   ·simp only[sx.ph];exact⟨fun af=>⟨af,by rw[af.1 i,af.1 j,h]⟩,fun af=>af.1⟩
  ·obtain⟨N,o,bs,iF⟩:=PO hj (hi.ru.idem j) (hi.ru.idem i) h Rx tJ vc;refine⟨N+1,o,fun n ar=>?_,iL.sm sx (iL.congr (fun aL h=>?_) iF)⟩
   ·obtain⟨n',rfl⟩:∃n',n=n'+1:=⟨n-1,by omega⟩;simp only[gn,ak,aA,h4];rw[if_neg (by omega),if_pos h];exact bs n' (by omega)
   ·rw[h.1 i,h.1 j];exact⟨Eq.symm,Eq.symm⟩
 have y0:∀(a:T) (j:Int),a.kind≠1→(∀n,gn (n+1) a (.var j) c=gn n (.var j) a c)→(∀n,gn (n+1) (.var j) a c=(rt c j).bind fun p=>if p.2.shd p.1=false then tW n p.1 a p.2 else gn n (p.2.shp p.1) a p.2)→j∈ch c.up→(∀w,a.occ w=true→w∈ch c.up)→((kM j).size+(a.ap kM).size)*3<m→∃N o,(∀n,N≤n→gn n a (.var j) c=some o)∧iL c ρ (fun aL=>a.ap aL=aL j) o:=by intro a j J U ao Fc br bq;obtain⟨N,o,ak,cQ⟩:=vh j a J ao Fc br bq;refine⟨N+1,o,fun n ar=>?_,iL.congr (fun aL _=>⟨Eq.symm,Eq.symm⟩) cQ⟩;obtain⟨n',rfl⟩:∃n',n=n'+1:=⟨n-1,by omega⟩;rw[U];exact ak n' (by omega)
 cases a with
 |var i=>
  have vo:i∈ch c.up:=br i (by simp[T.occ]);cases b with
  |var j=>exact BJ i j vo (ae j (by simp[T.occ]))
  |_=>exact vh i _ (by simp[T.kind]) (fun n=>rfl) vo ae (by simp only[T.ap,ts]at hm⊢;omega)
 |pair bp a2=>
  cases b with
  |var j=>exact y0 _ j (by simp[T.kind]) (fun n=>rfl) (fun n=>rfl) (ae j (by simp[T.occ])) br (by simp only[T.ap,ts]at hm⊢;omega)
  |pair b8 b3=>
   have sk:∀p q:T,ts p q≤2:=fun p q=>by cases p<;>cases q<;>simp[ts]
   have kT:∀w,bp.occ w=true→w∈ch c.up:=fun w hw=>br w (by simp[T.occ,hw]);have ps:∀w,a2.occ w=true→w∈ch c.up:=fun w hw=>br w (by simp[T.occ,hw]);have lb:∀w,b8.occ w=true→w∈ch c.up:=fun w hw=>ae w (by simp[T.occ,hw]);have nQ:∀w,b3.occ w=true→w∈ch c.up:=fun w hw=>ae w (by simp[T.occ,hw]);simp only[T.ap,T.size,ts]at hm;have f1:=sk bp b8;have f2:=sk a2 b3;obtain⟨hn,gv,ak,cQ⟩:=y8 _ (by rw[←hm];omega) c ρ bp b8 kM hi tO kT lb c1 rfl;obtain⟨afD,bL⟩:=gv;cases afD with
   |false=>refine⟨hn+1,(false,bL),fun n ar=>?_,cQ.keys,cQ.rest,(fun e=>by cases e),fun _ aL af he=>cQ.no rfl aL af (by simp only[T.ap,T.pair.injEq]at he;exact he.1)⟩;obtain⟨n',rfl⟩:∃n',n=n'+1:=⟨n-1,by omega⟩;simp only[gn,ak n' (by omega),h4,gr,if_false]
   |true=>
    obtain⟨k2,a1,bt,b2⟩:=cQ.yes rfl;simp only at a1 bt b2;have wS:ch bL.up=ch c.up:=cQ.keys;have BD:∃iM gq,(∀n,iM≤n→gn n a2 b3 bL=some gq)∧iL bL k2 (fun aL=>a2.ap aL=b3.ap aL) gq:=by
     rcases b2 with⟨rfl,b2⟩|b2
     ·exact y8 _ (by rw[←hm];omega) bL k2 a2 b3 kM a1 (by rw[b2];exact tO) (by rw[wS];exact ps) (by rw[wS];exact nQ) (by unfold h7;rw[wS,b2];exact c1) rfl
     ·exact Sh bL k2 a1 (by omega) a2 b3 (by rw[wS];exact ps) (by rw[wS];exact nQ)
    obtain⟨iM,gq,aA,dm⟩:=BD;refine⟨max hn iM+1,gq,fun n ar=>?_,dm.keys.trans wS,?_,fun aQ=>?_,fun aQ aL af he=>?_⟩
    ·obtain⟨n',rfl⟩:∃n',n=n'+1:=⟨n-1,by omega⟩;simp only[gn,ak n' (by omega),h4,if_true];exact aA n' (by omega)
    ·rw[dm.rest.1,dm.rest.2.1,dm.rest.2.2];exact cQ.rest
    ·obtain⟨ρ2,s1,s2,s3⟩:=dm.yes aQ;refine⟨ρ2,s1,fun aL=>?_,?_⟩
     ·rw[s2 aL,bt aL];simp only[T.ap,T.pair.injEq,and_assoc]
     ·rcases b2 with⟨rfl,b2⟩|b2
      ·rcases s3 with⟨rfl,s3⟩|s3
       ·exact .inl ⟨rfl,s3.trans b2⟩
       ·have:h7 bL k2=h7 c k2:=by unfold h7;rw[wS,b2]
        exact .inr (by omega)
      ·rcases s3 with⟨rfl,s3⟩|s3
       ·have:h7 gq.2 ρ2=h7 bL ρ2:=by unfold h7;rw[dm.keys,s3]
        exact .inr (by omega)
       ·exact .inr (by omega)
    ·simp only[T.ap,T.pair.injEq]at he;exact dm.no aQ aL ((bt aL).2 ⟨af,he.1⟩) he.2
  |_=>exact Rc (fun n=>rfl) (fun aL=>by simp[T.ap]) (by simp)
 |_=>
  cases b with
  |var j=>exact y0 _ j (by simp[T.kind]) (fun n=>rfl) (fun n=>rfl) (ae j (by simp[T.occ])) br (by simp only[T.ap,ts]at hm⊢;omega)
  |_=>first|exact ac4 (fun n=>rfl) (fun aL=>rfl) (fun aL=>rfl)|exact Rc (fun n=>rfl) (fun aL=>by simp[T.ap]) (by simp)
end Go.Pv
namespace Go.Pv
open Go
def xS(rec:Int→bm→Option (Bool×bm))(v:Int)(a:bm×Bool):Option (bm×Bool):=if a.2=true then(rt a.1 v).bind fun p=>(rec p.1 p.2).map fun q=>(q.2,q.1)else some a
def xH(v:Int)(c:bm):Option (Int×bm):=(rt c v).map fun p=>(p.2.sz p.1,p.2)
def bm.grey(c:bm)(x:Int):bm:={c with color:=eN x 1 c.color,size:=eN x 1 c.size}
def bm.black(c:bm)(x:Int):bm:={c with color:=eN x 2 c.color}
def pU:Nat→Int→bm→Option (Bool×bm)
 |0,_,_=>none
 |n+1,x,c=>if c.col x=2 then some (true,c)else if c.col x=1 then some (false,c)else
   if(c.grey x).shd x=false then some (true,(c.grey x).black x)else
   (((c.grey x).shp x).foldO (xS (pU n)) (c.grey x,true)).bind fun a=>if a.2=false then some (false,a.1)else
   (((a.1.shp x).sizeO xH a.1).map fun p=>(true,{p.2 with size:=eN x p.1 p.2.size}.black x))
def Am(rec:Int→bm→Option (T×bm))(v:Int)(c:bm):Option (T×bm):=(rt c v).bind fun p=>rec p.1 p.2
def pT:Nat→Int→bm→Option (T×bm)
 |0,_,_=>none
 |n+1,x,c=>match tg x c.full with
  |some t=>some (t,c)
  |none=>if c.shd x=false then some (.var x,{c with full:=eN x (.var x) c.full})else
   ((c.shp x).mapO (Am (pT n)) c).map fun p=>(p.1,{p.2 with full:=eN x p.1 p.2.full})
def rK(n:Nat):List Int→bm→List Int→Option (Option (List Int)×bm)
 |[],c,out=>some (some out,c)
 |v::a7,c,out=>(rt c v).bind fun p=>(pU n p.1 p.2).bind fun q=>if q.1=false then some (none,q.2)else
   if p.1=v∧q.2.shd p.1=false then rK n a7 q.2 out else
   if 5000<q.2.sz p.1∨400<out.length+1 then some (none,q.2)else rK n a7 q.2 (out++[v])
def xI(n:Nat):List Int→bm→Option (List al×bm)
 |[],c=>some ([],c)
 |v::a7,c=>(rt c v).bind fun p=>(pT n p.1 p.2).bind fun q=>(xI n a7 q.2).map fun r=>(⟨v,q.1⟩::r.1,r.2)
def CS(n:Nat)(a7:List Int)(c:bm):Option (Option (List al)):=(rK n a7 c []).bind fun a=>match a.1 with
 |none=>some none
 |some out=>(xI n out a.2).map fun r=>some r.1
def pj(n:Nat):List (T×T)→bm→Option (Bool×bm)
 |[],c=>some (true,c)
 |e::es,c=>(zo e.1 c).bind fun bL=>(zo e.2 bL).bind fun cn=>(gn n e.1 e.2 cn).bind fun p=>if p.1=true then pj n es p.2 else some (false,p.2)
theorem lB.rank{c:bm}{ρ:Int→Int}(h:lB c ρ):∃r:Int→Nat,∀z u,iK c.ph ρ z u→r u<r z:=by
 obtain⟨aL,fT⟩:=h.sat
 exact⟨fun z=>(aL z).size,fun z u he=>Gv h.sh fT he⟩
structure ta (V:List Int) (ph:Int→Option T) (ρ:Int→Int) (c:bm):Prop where
 ru:jq c.up ρ
 keys:ch c.up=V
 ph:c.ph=ph
theorem ta.sm{V:List Int}{ph:Int→Option T}{ρ:Int→Int}{c cd:bm}(h:ta V ph ρ c)(k:ik ρ c cd):ta V ph ρ cd:=⟨k.ru,k.keys.trans h.keys,k.ph.trans h.ph⟩
def cut(n:Nat):Int:=if 5001<(n:Int)then 5001 else n
section
variable {V:List Int} {ph:Int→Option T} {ρ:Int→Int} {r:Int→Nat}
theorem aiU(Dc:Int→T):∀(t:T) (c:bm),ta V ph ρ c→(∀w,t.occ w=true→w∈V∧c.sz (ρ w)=cut (Dc w).size)→∃cd,t.sizeO xH c=some (cut (t.ap Dc).size,cd)∧ik ρ c cd:=by
 intro t;induction t with
 |var v=>
  intro c h aN;obtain⟨aJ,bf⟩:=aN v (by simp[T.occ]);obtain⟨bL,J,U⟩:=sQ h.ru (by rw[h.keys];exact aJ:v∈ch c.up);refine⟨bL,?_,U⟩;have:bL.sz (ρ v)=cut (Dc v).size:=by rw[←bf,U.eq];rfl
  simp only[T.sizeO,xH,J,nC,this,T.ap,dt,jm,and_true];unfold cut;split<;>omega
 |pair a b ee ef=>
  intro c h aN;obtain⟨bL,J,aR⟩:=ee c h fun w hw=>aN w (by simp[T.occ,hw]);obtain⟨cn,U,be⟩:=ef bL (h.sm aR) fun w hw=>⟨(aN w (by simp[T.occ,hw])).1,by rw[←(aN w (by simp[T.occ,hw])).2,aR.eq];rfl⟩;have ae:=T.size_pos (b.ap Dc);simp only[T.sizeO,J,h4,T.ap,T.size];by_cases av:5000<cut (a.ap Dc).size
  ·rw[if_pos av];refine⟨bL,?_,aR⟩;simp only[dt,jm,and_true];unfold cut at av⊢;split at av<;>split<;>(try split)<;>omega
  ·rw[if_neg av,U];refine⟨cn,?_,aR.trans be⟩;simp only[nC,dt,jm,and_true];unfold cut at av⊢;split at av<;>(repeat' split)<;>omega
 |_=>intro c h aN;exact⟨c,by simp[T.sizeO,T.ap,T.size,cut],ik.refl h.ru⟩
structure p1 (V:List Int) (ph:Int→Option T) (ρ:Int→Int) (r:Int→Nat) (d:Nat) (c:bm):Prop where
 fin:ta V ph ρ c
 col:∀z,r z<d→c.col z=0∨(c.col z=2∧c.sz z=cut (gE ph ρ r z).size)
structure mq (ph:Int→Option T) (ρ:Int→Int) (r:Int→Nat) (d:Nat) (c cd:bm):Prop where
 full:cd.full=c.full
 hi:∀z,d≤r z→cd.col z=c.col z∧cd.sz z=c.sz z
 lo:∀z,c.col z=2→cd.col z=2∧cd.sz z=c.sz z
theorem mq.refl{c:bm}{d:Nat}:mq ph ρ r d c c:=⟨rfl,fun _ _=>⟨rfl,rfl⟩,fun _ h=>⟨h,rfl⟩⟩
theorem mq.trans{a b c:bm}{d:Nat}(h:mq ph ρ r d a b)(k:mq ph ρ r d b c):mq ph ρ r d a c:=⟨k.full.trans h.full,fun z bf=>⟨(k.hi z bf).1.trans (h.hi z bf).1,(k.hi z bf).2.trans (h.hi z bf).2⟩,fun z bf=>⟨(k.lo z (h.lo z bf).1).1,(k.lo z (h.lo z bf).1).2.trans (h.lo z bf).2⟩⟩
theorem mq.mono{a b:bm}{d cj:Nat}(aK:d≤cj)(h:mq ph ρ r d a b):mq ph ρ r cj a b:=⟨h.full,fun z bf=>h.hi z (by omega),h.lo⟩
theorem mq.sm{c cd:bm}{d:Nat}(k:ik ρ c cd):mq ph ρ r d c cd:=by
 have ak:∀z,cd.col z=c.col z:=fun z=>by rw[k.eq];rfl
 have aA:∀z,cd.sz z=c.sz z:=fun z=>by rw[k.eq];rfl
 exact⟨k.rest.2.2,fun z _=>⟨ak z,aA z⟩,fun z h=>⟨by rw[ak];exact h,aA z⟩⟩
theorem p1.sm{c cd:bm}{d:Nat}(h:p1 V ph ρ r d c)(k:ik ρ c cd):p1 V ph ρ r d cd:=by
 have ak:∀z,cd.col z=c.col z:=fun z=>by rw[k.eq];rfl
 have aA:∀z,cd.sz z=c.sz z:=fun z=>by rw[k.eq];rfl
 exact⟨h.fin.sm k,fun z bf=>by rw[ak,aA];exact h.col z bf⟩
theorem akt(gu:nH V ph)(eQ:∀v,ρ (ρ v)=ρ v)(aI:∀z u,iK ph ρ z u→r u<r z)(d:Nat):∀(x:Int) (c:bm),r x<d→ρ x=x→x∈V→p1 V ph ρ r d c→
  ∃N cd,(∀n,N≤n→pU n x c=some (true,cd))∧p1 V ph ρ r d cd∧mq ph ρ r (r x+1) c cd∧cd.col x=2∧cd.sz x=cut (gE ph ρ r x).size:=by
 induction d using qI with
 |ind d bW=>
 intro x c aK ad jd hw;rcases hw.col x aK with bV|⟨U,ao⟩;rotate_left
 ·refine⟨1,c,fun n ar=>?_,hw,mq.refl,U,ao⟩;obtain⟨n',rfl⟩:∃n',n=n'+1:=⟨n-1,by omega⟩;simp only[pU,if_pos U]
 have wJ:∀z,(c.grey x).col z=if z=x then 1 else c.col z:=fun z=>by simp only[bm.grey,bm.col,mS];split<;>rfl
 have A5:∀z,(c.grey x).sz z=if z=x then 1 else c.sz z:=fun z=>by simp only[bm.grey,bm.sz,mS];split<;>rfl
 have yx:ta V ph ρ (c.grey x):=⟨hw.fin.ru,hw.fin.keys,hw.fin.ph⟩;have adU:p1 V ph ρ r (r x) (c.grey x):=⟨yx,fun z bf=>by
  have cC:z≠x:=fun e=>by subst e;omega
  rw[wJ,A5,if_neg cC,if_neg cC];exact hw.col z (by omega)⟩
 have Bu:¬c.col x=2:=by omega
 have re:¬c.col x=1:=by omega
 have fp:∀(e:bm) (z:Int),(e.black x).col z=(if z=x then 2 else e.col z):=fun e z=>by simp only[bm.black,bm.col,mS];split<;>rfl
 by_cases af:(c.grey x).shd x=false
 ·have je:ph x=none:=by rw[←yx.ph];exact zI af
  have aS:gE ph ρ r x= .var x:=by rw[A4 (by rw[ad];exact je),ad]
  have ed:∀z,((c.grey x).black x).sz z=if z=x then 1 else c.sz z:=A5
  refine⟨1,(c.grey x).black x,fun n ar=>?_,⟨⟨yx.ru,yx.keys,yx.ph⟩,fun z bf=>?_⟩,⟨rfl,fun z bf=>?_,fun z bf=>?_⟩,?_,?_⟩
  ·obtain⟨n',rfl⟩:∃n',n=n'+1:=⟨n-1,by omega⟩;simp only[pU,if_neg Bu,if_neg re,if_pos af]
  ·rw[fp,ed,wJ];by_cases e:z=x
   ·subst e;simp only[if_true,aS];exact .inr ⟨trivial,by simp[T.size,cut]⟩
   ·simp only[if_neg e];exact hw.col z bf
  ·have e:z≠x:=fun e=>by subst e;omega
   rw[fp,ed,wJ];simp only[if_neg e];exact⟨trivial,trivial⟩
  ·have e:z≠x:=fun e=>by subst e;omega
   rw[fp,ed,wJ];simp only[if_neg e];exact⟨bf,trivial⟩
  ·rw[fp,if_pos rfl]
  ·rw[ed,if_pos rfl,aS];simp[T.size,cut]
 ·have je:ph x=some ((c.grey x).shp x):=by rw[←yx.ph];exact zJ af
  obtain⟨g1,g2,g3⟩:=gu _ _ je;have acK:∀(t:T) (e:bm),(∀w,t.occ w=true→((c.grey x).shp x).occ w=true)→p1 V ph ρ r (r x) e→∃N fD,(∀n,N≤n→t.foldO (xS (pU n)) (e,true)=some (fD,true))∧p1 V ph ρ r (r x) fD∧mq ph ρ r (r x) e fD∧∀w,t.occ w=true→fD.col (ρ w)=2∧fD.sz (ρ w)=cut (gE ph ρ r w).size:=by
   intro t;induction t with
   |var v=>intro e lK he;have aJ:=g2 v (lK v (by simp[T.occ]));have vd:r (ρ v)<r x:=aI x (ρ v) ⟨ad,_,v,je,lK v (by simp[T.occ]),rfl⟩;obtain⟨ak,a1,aR⟩:=sQ he.fin.ru (by rw[he.fin.keys];exact aJ:v∈ch e.up);obtain⟨N,aA,bt,dL,dm,cn,s2⟩:=bW (r x) aK (ρ v) ak vd (eQ v) (by rw[←he.fin.keys];exact(he.fin.ru.mem (by rw[he.fin.keys];exact aJ)).1) (he.sm aR);refine⟨N,aA,fun n ar=>by simp[T.foldO,xS,a1,bt n ar],dL,(mq.sm aR).trans (dm.mono (by omega)),fun w hw=>?_⟩;simp[T.occ]at hw;subst hw;exact⟨cn,by rw[s2,←yy eQ]⟩
   |pair a b ee ef=>
    intro e lK he;obtain⟨hn,ak,a1,fH,cQ,s1⟩:=ee e (fun w hw=>lK w (by simp[T.occ,hw])) he;obtain⟨iM,aA,bt,dL,dm,s2⟩:=ef ak (fun w hw=>lK w (by simp[T.occ,hw])) fH;refine⟨max hn iM,aA,fun n ar=>by simp only[T.foldO];rw[a1 n (by omega)];exact bt n (by omega),dL,cQ.trans dm,fun w hw=>?_⟩;simp only[T.occ,lQ]at hw;rcases hw with hw|hw
    ·obtain⟨kL,z2⟩:=s1 w hw;exact⟨(dm.lo _ kL).1,by rw[(dm.lo _ kL).2];exact z2⟩
    ·exact s2 w hw
   |_=>intro e _ he;exact⟨0,e,fun n _=>rfl,he,mq.refl,fun w hw=>by simp[T.occ]at hw⟩
  obtain⟨N,e,a1,fH,cQ,s1⟩:=acK ((c.grey x).shp x) (c.grey x) (fun w h=>h) adU;have adD:e.shp x=(c.grey x).shp x:=by
   have J:e.ph x=some ((c.grey x).shp x):=by rw[fH.fin.ph];exact je
   unfold bm.ph at J;split at J
   ·exact fP J
   ·cases J
  obtain⟨aA,bt,be⟩:=aiU (V:=V) (ph:=ph) (ρ:=ρ) (gE ph ρ r) ((c.grey x).shp x) e fH.fin (fun w hw=>⟨g2 w hw,(s1 w hw).2⟩);have mG:gE ph ρ r x=((c.grey x).shp x).ap (gE ph ρ r):=yz eQ aI (by rw[ad];exact je);have EI:=cQ.trans (mq.sm (ph:=ph) (r:=r) (d:=r x) be);have dL:=fH.sm be;let bs:bm:={aA with size:=eN x (cut (gE ph ρ r x).size) aA.size}.black x
  have dp:∀z,bs.col z=if z=x then 2 else aA.col z:=fun z=>fp _ z
  have s3:∀z,bs.sz z=if z=x then cut (gE ph ρ r x).size else aA.sz z:=fun z=>by show(tg z (eN x _ aA.size)).getD 0=_;rw[mS];split<;>rfl
  refine⟨N+1,bs,fun n ar=>?_,⟨⟨dL.fin.ru,dL.fin.keys,dL.fin.ph⟩,fun z bf=>?_⟩,⟨EI.full,fun z bf=>?_,fun z bf=>?_⟩,by rw[dp,if_pos rfl],by rw[s3,if_pos rfl]⟩
  ·obtain⟨n',rfl⟩:∃n',n=n'+1:=⟨n-1,by omega⟩;simp only[pU,if_neg Bu,if_neg re,if_neg af,a1 n' (by omega),h4,Bool.true_eq_false,if_false,adD,bt,nC,mG,bs]
  ·rw[dp,s3];by_cases nk:z=x
   ·subst nk;simp only[if_true];exact .inr ⟨trivial,trivial⟩
   ·simp only[if_neg nk];by_cases bq:r z<r x
    ·exact dL.col z bq
    ·obtain⟨bp,a2⟩:=EI.hi z (by omega);rw[bp,a2,wJ,A5,if_neg nk,if_neg nk];exact hw.col z bf
  ·have nk:z≠x:=fun e=>by subst e;omega
   obtain⟨bp,a2⟩:=EI.hi z (by omega);rw[dp,s3,if_neg nk,if_neg nk,bp,a2,wJ,A5,if_neg nk,if_neg nk];exact⟨rfl,rfl⟩
  ·have nk:z≠x:=fun e=>by subst e;omega
   obtain⟨bp,a2⟩:=EI.lo z (by rw[wJ,if_neg nk];exact bf);rw[dp,s3,if_neg nk,if_neg nk,bp,a2,A5,if_neg nk];exact⟨rfl,rfl⟩
structure qL (V:List Int) (ph:Int→Option T) (ρ:Int→Int) (r:Int→Nat) (c:bm):Prop where
 fin:ta V ph ρ c
 full:∀x t,tg x c.full=some t→t=gE ph ρ r x
theorem qL.sm{c cd:bm}(h:qL V ph ρ r c)(k:ik ρ c cd):qL V ph ρ r cd:=⟨h.fin.sm k,by rw[k.rest.2.2];exact h.full⟩
theorem akr(gu:nH V ph)(eQ:∀v,ρ (ρ v)=ρ v)(aI:∀z u,iK ph ρ z u→r u<r z)(d:Nat):∀(x:Int) (c:bm),r x<d→ρ x=x→x∈V→qL V ph ρ r c→
  ∃N cd,(∀n,N≤n→pT n x c=some (gE ph ρ r x,cd))∧qL V ph ρ r cd:=by
 induction d with
 |zero=>intro x c h;omega
 |succ d bW=>
 intro x c aK ad jd aJ;cases aQ:tg x c.full with
 |some t=>refine⟨1,c,fun n ar=>?_,aJ⟩;obtain⟨n',rfl⟩:∃n',n=n'+1:=⟨n-1,by omega⟩;simp only[pT,aQ,aJ.full x t aQ]
 |none=>
  have RW:∀(e:bm),qL V ph ρ r e→qL V ph ρ r {e with full:=eN x (gE ph ρ r x) e.full}:=fun e he=>⟨⟨he.fin.ru,he.fin.keys,he.fin.ph⟩,fun z t bf=>by
   have rq:tg z (eN x (gE ph ρ r x) e.full)=some t:=bf;rw[mS]at rq;split at rq
   ·rename_i e;subst e;cases rq;rfl
   ·exact he.full z t rq⟩
  by_cases af:c.shd x=false
  ·have je:ph x=none:=by rw[←aJ.fin.ph];exact zI af
   have aS:gE ph ρ r x= .var x:=by rw[A4 (by rw[ad];exact je),ad]
   refine⟨1,_,fun n ar=>?_,RW c aJ⟩;obtain⟨n',rfl⟩:∃n',n=n'+1:=⟨n-1,by omega⟩;simp only[pT,aQ,if_pos af,aS]
  ·have je:ph x=some (c.shp x):=by rw[←aJ.fin.ph];exact zJ af
   obtain⟨g1,g2,g3⟩:=gu _ _ je;have ac8:∀(t:T) (e:bm),(∀w,t.occ w=true→(c.shp x).occ w=true)→qL V ph ρ r e→∃N fD,(∀n,N≤n→t.mapO (Am (pT n)) e=some (t.ap (gE ph ρ r),fD))∧qL V ph ρ r fD:=by
    intro t;induction t with
    |var v=>intro e lK he;have vg:=g2 v (lK v (by simp[T.occ]));have vd:r (ρ v)<r x:=aI x (ρ v) ⟨ad,_,v,je,lK v (by simp[T.occ]),rfl⟩;obtain⟨ak,a1,aR⟩:=sQ he.fin.ru (by rw[he.fin.keys];exact vg:v∈ch e.up);obtain⟨N,aA,bt,dL⟩:=bW (ρ v) ak (by omega) (eQ v) (by rw[←he.fin.keys];exact(he.fin.ru.mem (by rw[he.fin.keys];exact vg)).1) (he.sm aR);exact⟨N,aA,fun n ar=>by simp only[T.mapO,Am,a1,h4,bt n ar,T.ap];rw[←yy eQ],dL⟩
    |pair a b ee ef=>intro e lK he;obtain⟨hn,ak,a1,fH⟩:=ee e (fun w hw=>lK w (by simp[T.occ,hw])) he;obtain⟨iM,aA,bt,dL⟩:=ef ak (fun w hw=>lK w (by simp[T.occ,hw])) fH;exact⟨max hn iM,aA,fun n ar=>by simp only[T.mapO,a1 n (by omega),h4,bt n (by omega),nC,T.ap],dL⟩
    |_=>intro e _ he;exact⟨0,e,fun n _=>rfl,he⟩
   obtain⟨N,e,a1,fH⟩:=ac8 (c.shp x) c (fun w h=>h) aJ;have mG:gE ph ρ r x=(c.shp x).ap (gE ph ρ r):=yz eQ aI (by rw[ad];exact je);refine⟨N+1,_,fun n ar=>?_,RW e fH⟩;obtain⟨n',rfl⟩:∃n',n=n'+1:=⟨n-1,by omega⟩;simp only[pT,aQ,if_neg af,a1 n' (by omega),nC,mG]
def nh(ph:Int→Option T)(ρ:Int→Int)(v:Int):Bool:= !(decide (ρ v=v)&&(ph v).isNone)
theorem aiX(gu:nH V ph)(eQ:∀v,ρ (ρ v)=ρ v)(aI:∀z u,iK ph ρ z u→r u<r z)(ju:∀v∈V,ρ v∈V):∀(a7:List Int) (c:bm) (out:List Int),(∀v∈a7,v∈V)→(∀d,p1 V ph ρ r d c)→out.length≤400→(∀v∈out,(gE ph ρ r v).size≤5000)→
  ∃N cd o,(∀n,N≤n→rK n a7 c out=some (o,cd))∧ta V ph ρ cd∧cd.full=c.full∧(∀l,o=some l→l=out++a7.filter (nh ph ρ)∧l.length≤400∧∀v∈l,(gE ph ρ r v).size≤5000)∧(o=none→¬((out++a7.filter (nh ph ρ)).length≤400∧∀v∈out++a7.filter (nh ph ρ),(gE ph ρ r v).size≤5000)):=by
 intro a7;induction a7 with
 |nil=>intro c out _ hw J U;exact⟨0,c,some out,fun n _=>rfl,(hw 0).fin,rfl,fun l e=>by cases e;simp;exact⟨J,U⟩,fun e=>by cases e⟩
 |cons v a7 bW=>
  intro c out aJ hw J U;have vg:=aJ v (by simp);obtain⟨bL,a1,aR⟩:=sQ (hw 0).fin.ru (by rw[(hw 0).fin.keys];exact vg:v∈ch c.up);have ET:∀d,p1 V ph ρ r d bL:=fun d=>(hw d).sm aR;obtain⟨hn,cn,bt,dL,dm,aA,s2⟩:=akt gu eQ aI (r (ρ v)+1) (ρ v) bL (by omega) (eQ v) (ju v vg) (ET _);have n5:∀d,p1 V ph ρ r d cn:=fun d=>⟨dL.fin,fun z bf=>by
   by_cases bq:r z<r (ρ v)+1
   ·exact dL.col z bq
   ·obtain⟨bp,a2⟩:=dm.hi z (by omega);rw[bp,a2];exact(ET d).col z bf⟩
  have I6:cn.full=c.full:=dm.full.trans aR.rest.2.2;have R4:(cn.shd (ρ v)=false)=((ph (ρ v)).isNone=true):=by rw[←dL.fin.ph];unfold bm.ph;cases cn.shd (ρ v)<;>simp
  have jw:∀n,hn≤n→rK n (v::a7) c out=(if ρ v=v∧cn.shd (ρ v)=false then rK n a7 cn out else if 5000<cn.sz (ρ v)∨400<out.length+1 then some (none,cn)else rK n a7 cn (out++[v])):=fun n ar=>by simp only[rK,a1,h4,bt n ar,Bool.true_eq_false,if_false]
  have Rt:gE ph ρ r (ρ v)=gE ph ρ r v:=(yy eQ v).symm;by_cases av:ρ v=v∧cn.shd (ρ v)=false
  ·have ae:nh ph ρ v=false:=by have ao:=av.2;rw[R4]at ao;rw[av.1]at ao;simp[nh,av.1,ao]
   obtain⟨iM,dp,o,b2,f3,pS,GV,iU⟩:=bW cn out (fun w hw=>aJ w (by simp[hw])) n5 J U;refine⟨max hn iM,dp,o,fun n ar=>by rw[jw n (by omega),if_pos av];exact b2 n (by omega),f3,pS.trans I6,?_,?_⟩
   ·simp only[List.filter_cons,ae,gr,if_false];exact GV
   ·simp only[List.filter_cons,ae,gr,if_false];exact iU
  ·have ae:nh ph ρ v=true:=by
    cases e:nh ph ρ v with
    |true=>rfl
    |false=>simp only[nh,Bool.not_eq_false',cx,fI]at e;exact absurd ⟨e.1,by rw[R4,e.1];exact e.2⟩ av
   by_cases aq:5000<cn.sz (ρ v)∨400<out.length+1
   ·refine⟨hn,cn,none,fun n ar=>by rw[jw n ar,if_neg av,if_pos aq],dL.fin,I6,(fun l e=>by cases e),fun _=>?_⟩;simp only[List.filter_cons,ae,if_true];rintro⟨bp,a2⟩;rcases aq with aq|aq
    ·rw[s2,Rt]at aq;have:=a2 v (by simp);unfold cut at aq;split at aq<;>omega
    ·simp at bp;omega
   ·have bf:(gE ph ρ r v).size≤5000:=by have:¬5000<cn.sz (ρ v):=fun h=>aq (.inl h);rw[s2,Rt]at this;unfold cut at this;split at this<;>omega
    obtain⟨iM,dp,o,b2,f3,pS,GV,iU⟩:=bW cn (out++[v]) (fun w hw=>aJ w (by simp[hw])) n5 (by simp;omega) (fun w hw=>by
     rcases ja.1 hw with hw|hw
     ·exact U w hw
     ·simp at hw;subst hw;exact bf)
    refine⟨max hn iM,dp,o,fun n ar=>by rw[jw n (by omega),if_neg av,if_neg aq];exact b2 n (by omega),f3,pS.trans I6,?_,?_⟩
    ·simp only[List.filter_cons,ae,if_true];simpa using GV
    ·simp only[List.filter_cons,ae,if_true];simpa using iU
theorem aiY(gu:nH V ph)(eQ:∀v,ρ (ρ v)=ρ v)(aI:∀z u,iK ph ρ z u→r u<r z)(ju:∀v∈V,ρ v∈V):∀(a7:List Int) (c:bm),(∀v∈a7,v∈V)→qL V ph ρ r c→∃N cd,∀n,N≤n→xI n a7 c=some (a7.map fun v=>⟨v,gE ph ρ r v⟩,cd):=by
 intro a7;induction a7 with
 |nil=>intro c _ _;exact⟨0,c,fun n _=>rfl⟩
 |cons v a7 bW=>intro c aJ hw;have vg:=aJ v (by simp);obtain⟨bL,a1,aR⟩:=sQ hw.fin.ru (by rw[hw.fin.keys];exact vg:v∈ch c.up);obtain⟨hn,cn,bt,dL⟩:=akr gu eQ aI (r (ρ v)+1) (ρ v) bL (by omega) (eQ v) (ju v vg) (hw.sm aR);obtain⟨iM,dp,b2⟩:=bW cn (fun w hw=>aJ w (by simp[hw])) dL;refine⟨max hn iM,dp,fun n ar=>?_⟩;simp only[xI,a1,h4,bt n (by omega),b2 n (by omega),nC,gI];rw[←yy eQ]
end
end Go.Pv
namespace Go.Pv
open Go
def bm.new:bm:=⟨[],[],[],[],[],[]⟩
def qB(l:List Int):List Int:=l.mergeSort fun x y=>decide (x≤y)
def z7(n:Nat)(E:List (T×T)):Option (Option (List al)):=(pj n E bm.new).bind fun p=>if p.1=false then some none else CS n (qB (ch p.2.up)) p.2
theorem CV(l:List Int):(qB l).Perm l:=List.mergeSort_perm l _
theorem ajd{l:List Int}(h:l.Nodup):(qB l).Pairwise (· < ·):=by have J:(qB l).Pairwise fun x y=>decide (x≤y)=true:=List.pairwise_mergeSort (fun a b c=>by simp;omega) (fun a b=>by simp;omega) l;have U:(qB l).Pairwise (· ≠ ·):=List.nodup_iff_pairwise_ne.1 ((CV l).nodup_iff.2 h);exact(J.and U).imp fun h=>by simp at h;omega
structure Xd (c:bm) (ρ:Int→Int) (cd:bm) (TR:Int→Prop):Prop where
 inv:lB cd ρ
 ph:cd.ph=c.ph
 nd:(ch cd.up).Nodup
 sub:∀v∈ch c.up,v∈ch cd.up
 occ:∀v,TR v→v∈ch cd.up
 rest:cd.color=c.color∧cd.size=c.size∧cd.full=c.full
 new:∀v∈ch cd.up,v∈ch c.up∨TR v
theorem Tq{ρ:Int→Int}(t:T):∀(c:bm),lB c ρ→(ch c.up).Nodup→(∀v,t.occ v=true→0≤v)→∃cd,zo t c=some cd∧Xd c ρ cd fun v=>t.occ v=true:=by
 unfold zo;induction t with
 |var v=>
  intro c hi ar bV;by_cases aJ:v∈ch c.up
  ·obtain⟨bL,a1,aR⟩:=sQ hi.ru aJ;refine⟨bL,by simp[T.foldO,a1],hi.sm aR,aR.ph,by rw[aR.keys];exact ar,fun w hw=>by rw[aR.keys];exact hw,fun w hw=>?_,aR.rest,fun w hw=>.inl (by rw[aR.keys]at hw;exact hw)⟩;simp[T.occ]at hw;subst hw;rw[aR.keys];exact aJ
  ·obtain⟨a1,bt,b2⟩:=aiy hi.ru (bV v (by simp[T.occ])) aJ;refine⟨{c with up:=eN v v c.up},by simp only[T.foldO,a1,nC],⟨bt,?_,hi.sat⟩,rfl,?_,fun w hw=>by rw[b2];simp[hw],fun w hw=>?_,⟨rfl,rfl,rfl⟩,fun w hw=>?_⟩
   ·intro x u ad;obtain⟨bp,a2,a3⟩:=hi.sh x u ad;refine⟨bp,fun w hw=>?_,?_⟩
    ·show w∈ch (eN v v c.up);rw[b2];simp[a2 w hw]
    ·show x∈ch (eN v v c.up);rw[b2];simp[a3]
   ·rw[b2];rw[List.nodup_append];exact⟨ar,by simp,fun a br b ae e=>by simp at ae;subst ae;subst e;exact aJ br⟩
   ·simp[T.occ]at hw;subst hw;rw[b2];simp
   ·rw[b2]at hw;simp at hw;rcases hw with hw|rfl;exact .inl hw;exact .inr (by simp[T.occ])
 |pair a b ee ef=>
  intro c hi ar bV;obtain⟨bL,a1,m1⟩:=ee c hi ar fun v aJ=>bV v (by simp[T.occ,aJ]);obtain⟨cn,bt,m2⟩:=ef bL m1.inv m1.nd fun v aJ=>bV v (by simp[T.occ,aJ]);refine⟨cn,by simp only[T.foldO,a1,h4,bt],m2.inv,m2.ph.trans m1.ph,m2.nd,fun v aJ=>m2.sub v (m1.sub v aJ),fun v aJ=>?_,?_,fun v aJ=>?_⟩
  ·simp only[T.occ,lQ]at aJ;rcases aJ with aJ|aJ
   ·exact m2.sub v (m1.occ v aJ)
   ·exact m2.occ v aJ
  ·rw[m2.rest.1,m2.rest.2.1,m2.rest.2.2];exact m1.rest
  ·rcases m2.new v aJ with h|h
   ·rcases m1.new v h with h|h
    ·exact .inl h
    ·exact .inr (by simp[T.occ,h])
   ·exact .inr (by simp[T.occ,h])
 |_=>intro c hi ar bV;exact⟨c,rfl,hi,rfl,ar,fun v aJ=>aJ,fun v aJ=>by simp[T.occ]at aJ,⟨rfl,rfl,rfl⟩,fun v aJ=>.inl aJ⟩
def KD(E:List (T×T)):Prop:= ∀e∈E,∀v,(e.1.occ v=true∨e.2.occ v=true)→0≤v
theorem AS:∀(E:List (T×T)) (c:bm) (ρ:Int→Int),lB c ρ→(ch c.up).Nodup→KD E→∃N o,(∀n,N≤n→pj n E c=some o)∧((o.2.color=c.color∧o.2.size=c.size∧o.2.full=c.full)∧∀v∈ch o.2.up,v∈ch c.up∨ ∃e∈E,e.1.occ v=true∨e.2.occ v=true)∧(o.1=true→∃ρ',lB o.2 ρ'∧(ch o.2.up).Nodup∧∀aL,jS o.2.ph ρ' aL↔jS c.ph ρ aL∧iN E aL)∧(o.1=false→∀aL,jS c.ph ρ aL→¬iN E aL):=by
 intro E;induction E with
 |nil=>intro c ρ hi ar _;exact⟨0,(true,c),fun n _=>rfl,⟨⟨rfl,rfl,rfl⟩,fun v aJ=>.inl aJ⟩,fun _=>⟨ρ,hi,ar,fun aL=>⟨fun h=>⟨h,CU aL⟩,fun h=>h.1⟩⟩,fun e=>by cases e⟩
 |cons e E bW=>
  intro c ρ hi ar bV;obtain⟨bL,a1,m1⟩:=Tq e.1 c hi ar fun v aJ=>bV e (by simp) v (.inl aJ);obtain⟨cn,bt,m2⟩:=Tq e.2 bL m1.inv m1.nd fun v aJ=>bV e (by simp) v (.inr aJ);obtain⟨kM,tO⟩:=m2.inv.sat
  obtain⟨hn,gv,b2,iF⟩:=Ym _ _ cn ρ e.1 e.2 kM m2.inv tO (fun w hw=>m2.sub w (m1.occ w hw)) (fun w hw=>m2.occ w hw) rfl rfl;have je:cn.ph=c.ph:=m2.ph.trans m1.ph;have l5:gv.2.color=c.color∧gv.2.size=c.size∧gv.2.full=c.full:=by rw[iF.rest.1,iF.rest.2.1,iF.rest.2.2,m2.rest.1,m2.rest.2.1,m2.rest.2.2];exact m1.rest
  have Ez:∀v∈ch gv.2.up,v∈ch c.up∨e.1.occ v=true∨e.2.occ v=true:=fun v aJ=>by
   rw[iF.keys]at aJ;rcases m2.new v aJ with h|h
   ·rcases m1.new v h with h|h
    ·exact .inl h
    ·exact .inr (.inl h)
   ·exact .inr (.inr h)
  obtain⟨f,dp⟩:=gv;cases f with
  |false=>refine⟨hn,(false,dp),fun n ar=>?_,⟨l5,fun v aJ=>(Ez v aJ).imp id fun h=>⟨e,by simp,h⟩⟩,(fun e=>by cases e),fun _ aL af he=>iF.no rfl aL (by rw[je];exact af) (qz.1 he).1⟩;simp only[pj,a1,bt,h4,b2 n ar,gr,if_false]
  |true=>
   obtain⟨k2,bp,a2,_⟩:=iF.yes rfl;simp only at bp a2;obtain⟨iM,gq,b8,b3,fR,tk⟩:=bW dp k2 bp (by have:=iF.keys;simp only at this;rw[this];exact m2.nd) fun fD he=>bV fD (by simp[he]);refine⟨max hn iM,gq,fun n ar=>?_,?_,fun aQ=>?_,fun aQ aL af he=>?_⟩
   ·simp only[pj,a1,bt,h4,b2 n (by omega),if_true];exact b8 n (by omega)
   ·refine⟨by rw[b3.1.1,b3.1.2.1,b3.1.2.2];exact l5,fun v aJ=>?_⟩;rcases b3.2 v aJ with h|⟨fD,J,U⟩
    ·exact(Ez v h).imp id fun h=>⟨e,by simp,h⟩
    ·exact .inr ⟨fD,by simp[J],U⟩
   ·obtain⟨ρ2,d1,d2,d3⟩:=fR aQ;exact⟨ρ2,d1,d2,fun aL=>by rw[d3 aL,a2 aL,je,qz,and_assoc]⟩
   ·exact tk aQ aL ((a2 aL).2 ⟨by rw[je];exact af,(qz.1 he).1⟩) (qz.1 he).2
theorem Dw{ph:Int→Option T}{ρ:Int→Int}{v:Int}:nh ph ρ v=false↔ρ v=v∧ph v=none:=by simp[nh]
theorem QQ{ph:Int→Option T}{ρ:Int→Int}{r:Int→Nat}(eQ:∀v,ρ (ρ v)=ρ v):∀(n:Nat) (v w:Int),(mu ph ρ n v).occ w=true→(∀z u,iK ph ρ z u→r u<r z)→r (ρ v)<n→ρ w=w∧ph w=none
 |0,v,w,_,_,h=>by omega
 |n+1,v,w,h,aI,ar=>by
  simp only[mu]at h;cases e:ph (ρ v)with
  |none=>rw[e]at h;simp[T.occ]at h;subst h;exact⟨eQ v,e⟩
  |some t=>rw[e]at h;obtain⟨u,J,U⟩:=zy.1 h;have:=aI (ρ v) (ρ u) ⟨eQ v,t,u,e,J,rfl⟩;exact QQ eQ n u w U aI (by omega)
section
variable {V:List Int} {ph:Int→Option T} {ρ:Int→Int} {r:Int→Nat}
def sS(ph:Int→Option T)(ρ:Int→Int)(r:Int→Nat)(V:List Int):List al:=((qB V).filter (nh ph ρ)).map fun v=>⟨v,gE ph ρ r v⟩
theorem L0(ar:V.Nodup):h5 (sS ph ρ r V):=by unfold sS;rw[h5,List.pairwise_map];exact((ajd ar).filter _)
theorem VL(ar:V.Nodup)(gu:nH V ph)(dT:∀v,v∉V→ρ v=v)(v:Int):c0 (sS ph ρ r V) v=if nh ph ρ v then some (gE ph ρ r v)else none:=by
 by_cases ae:nh ph ρ v=true
 ·rw[if_pos ae];have aJ:v∈V:=by
   refine Classical.byContradiction fun h=>?_;have J:=dT v h;have U:ph v=none:=by cases e:ph v with
    |none=>rfl
    |some t=>exact absurd (gu v t e).2.2 h
   rw[Dw.2 ⟨J,U⟩]at ae;cases ae
  have:(⟨v,gE ph ρ r v⟩:al)∈sS ph ρ r V:=hH.2 ⟨v,k3.2 ⟨(CV V).mem_iff.2 aJ,ae⟩,rfl⟩;exact qP (L0 ar) this
 ·rw[if_neg ae];refine r4.2 fun b gz e=>?_;obtain⟨u,J,rfl⟩:=hH.1 gz;simp only at e;subst e;exact ae (k3.1 J).2
theorem ai0(ar:V.Nodup)(gu:nH V ph)(dT:∀v,v∉V→ρ v=v)(eQ:∀v,ρ (ρ v)=ρ v)(hle:∀v,ρ v≤v)(aI:∀z u,iK ph ρ z u→r u<r z):ff (sS ph ρ r V):=by
 refine⟨L0 ar,fun b ae w hw=>?_,fun b ae w hw=>?_⟩
 ·obtain⟨u,J,rfl⟩:=hH.1 ae;rw[VL ar gu dT];have:=QQ eQ _ u w hw aI (by omega);rw[Dw.2 this];rfl
 ·obtain⟨u,J,rfl⟩:=hH.1 ae;have nQ:=(k3.1 J).2;simp only at hw⊢;cases e:ph (ρ u)with
  |none=>
   rw[A4 e]at hw;cases hw;have U:=hle u;have ao:ρ u≠u:=fun h=>by rw[Dw.2 ⟨h,by rw[h]at e;exact e⟩]at nQ;cases nQ
   omega
  |some t=>rw[yz eQ aI e]at hw;have:=(gu _ _ e).1;cases t<;>simp[T.ap,T.kind]at hw this
theorem ab0(eQ:∀v,ρ (ρ v)=ρ v)(aI:∀z u,iK ph ρ z u→r u<r z)(aL:Int→T):jS ph ρ aL↔∀v,aL v=(gE ph ρ r v).ap aL:=by
 constructor
 ·intro h;have:∀(n:Nat) (v:Int),r (ρ v)<n→aL v=(gE ph ρ r v).ap aL:=by
   intro n;induction n with
   |zero=>intro v h;omega
   |succ n bW=>
    intro v aJ;cases e:ph (ρ v)with
    |none=>rw[A4 e];exact h.1 v
    |some t=>rw[yz eQ aI e,x6,h.1 v,h.2 _ t (eQ v) e];refine qN fun w hw=>bW w ?_;have:=aI (ρ v) (ρ w) ⟨eQ v,t,w,e,hw,rfl⟩;omega
  exact fun v=>this _ v (Nat.lt_succ_self _)
 ·intro h;refine⟨fun v=>by rw[h v,h (ρ v),←yy eQ],fun x t ad aN=>?_⟩;rw[h x,yz eQ aI (by rw[ad];exact aN),x6];exact qN fun w _=>(h w).symm
theorem aiZ(ar:V.Nodup)(gu:nH V ph)(dT:∀v,v∉V→ρ v=v)(eQ:∀v,ρ (ρ v)=ρ v)(aI:∀z u,iK ph ρ z u→r u<r z)(aL:Int→T):fV (sS ph ρ r V) aL↔jS ph ρ aL:=by
 rw[ab0 eQ aI,ai6 (L0 ar)];refine forall_congr' fun v=>?_;rw[bP,VL ar gu dT];cases e:nh ph ρ v with
 |true=>simp
 |false=>obtain⟨J,U⟩:=Dw.1 e;rw[A4 (by rw[J];exact U),J];simp
end
theorem ai7(E:List (T×T))(bV:KD E):∃n o,z7 n E=some o∧il [] E o∧∀c,pj n E bm.new=some (true,c)→(ch c.up).Nodup∧(∀v∈ch c.up,∃e∈E,e.1.occ v=true∨e.2.occ v=true)∧c.size=[]:=by
 have hi:lB bm.new id:=⟨⟨fun v u h=>by simp[bm.new,tg]at h,fun v _=>rfl⟩,fun x t h=>by simp[bm.new,bm.ph,bm.shd,tg]at h,⟨.var,fun v=>rfl,fun x t _ h=>by simp[bm.new,bm.ph,bm.shd,tg]at h⟩⟩;have tC:∀aL,jS bm.new.ph id aL:=fun aL=>⟨fun v=>rfl,fun x t _ h=>by simp[bm.new,bm.ph,bm.shd,tg]at h⟩;obtain⟨hn,gv,a1,cQ,dm,iF⟩:=AS E bm.new id hi (by simp[bm.new,ch]) bV;obtain⟨cQ,Uk⟩:=cQ;obtain⟨f,c⟩:=gv;cases f with
 |false=>refine⟨hn,none,by simp[z7,a1 hn (e1 _)],Dp fun aL _ he=>iF rfl aL (tC aL) he,fun c h=>?_⟩;rw[a1 hn (e1 _)]at h;cases h
 |true=>
  obtain⟨ρ,bp,a2,a3⟩:=dm rfl;simp only at bp a2 a3 cQ Uk;have Rn:∀n,hn≤n→∀cd,pj n E bm.new=some (true,cd)→(ch cd.up).Nodup∧(∀v∈ch cd.up,∃e∈E,e.1.occ v=true∨e.2.occ v=true)∧cd.size=[]:=fun n ar cd h=>by rw[a1 n ar]at h;cases h;exact⟨a2,fun v aJ=>(Uk v aJ).resolve_left (by simp[bm.new,ch]),cQ.2.1⟩
  obtain⟨r,aI⟩:=bp.rank;have eQ:=bp.ru.idem;have ju:∀v∈ch c.up,ρ v∈ch c.up:=fun v aJ=>(bp.ru.mem aJ).1;have dK:ta (ch c.up) c.ph ρ c:=⟨bp.ru,rfl,rfl⟩;have hw:∀d,p1 (ch c.up) c.ph ρ r d c:=fun d=>⟨dK,fun z _=>.inl (by simp[bm.col,cQ.1,bm.new,tg])⟩;obtain⟨iM,cn,o,b8,b3,fR,tk,Nd⟩:=aiX bp.sh eQ aI ju (qB (ch c.up)) c [] (fun v aJ=>(CV _).mem_iff.1 aJ) hw (by simp) (fun v aJ=>by simp at aJ);have c5:=ai0 (r:=r) a2 bp.sh bp.ru.no eQ bp.ru.le aI;have kV:∀aL,fV (sS c.ph ρ r (ch c.up)) aL↔fV [] aL∧iN E aL:=fun aL=>by rw[aiZ a2 bp.sh bp.ru.no eQ aI,a3 aL];exact⟨fun h=>⟨fun b ae=>by simp at ae,h.2⟩,fun h=>⟨tC aL,h.2⟩⟩
  have Rp:gy (sS c.ph ρ r (ch c.up))↔(([]++(qB (ch c.up)).filter (nh c.ph ρ)).length≤400∧∀v∈[]++(qB (ch c.up)).filter (nh c.ph ρ),(gE c.ph ρ r v).size≤5000):=by unfold gy sS;simp only[List.length_map,bS,hH,forall_exists_index,and_imp,forall_apply_eq_imp_iff₂]
  cases o with
  |none=>refine⟨max hn iM,none,by simp[z7,a1 (max hn iM) (by omega),CS,b8 (max hn iM) (by omega)],?_,Rn _ (by omega)⟩;exact fun ah J U ao=>Nd rfl (Rp.1 (Qh c5 J (fun aL fT=>(kV aL).2 (U aL fT)) ao))
  |some l=>
   obtain⟨ak,aA,bs⟩:=tk l rfl;have adR:qL (ch c.up) c.ph ρ r cn:=⟨b3,fun x t h=>by rw[fR,cQ.2.2]at h;simp[bm.new,tg]at h⟩;simp only[bS]at ak;obtain⟨x0,dp,d1⟩:=aiY bp.sh eQ aI ju l cn (fun v aJ=>by rw[ak]at aJ;exact(CV _).mem_iff.1 (k3.1 aJ).1) adR;refine⟨max (max hn iM) x0,some (sS c.ph ρ r (ch c.up)),?_,⟨⟨c5,Rp.2 ?_⟩,kV⟩,Rn _ (by omega)⟩
   ·simp only[z7,a1 (max (max hn iM) x0) (by omega),h4,Bool.true_eq_false,if_false,CS,b8 (max (max hn iM) x0) (by omega),d1 (max (max hn iM) x0) (by omega),nC];rw[ak];rfl
   ·rw[bS,←ak];exact⟨aA,bs⟩
def fN(s:List al):List (T×T):=s.map fun b=>(.var b.v,b.t)
theorem ai5{s:List al}{aL:Int→T}:iN (fN s) aL↔fV s aL:=by simp[iN,fN,fV,T.ap]
theorem Xn{s:List al}{E:List (T×T)}{o:Option (List al)}:il [] (fN s++E) o↔il s E o:=by
 have h:∀aL,(fV [] aL∧iN (fN s++E) aL)↔(fV s aL∧iN E aL):=fun aL=>by rw[CT,ai5];exact⟨fun h=>h.2,fun h=>⟨fun b ae=>by simp at ae,h⟩⟩
 exact⟨x3 h,x3 fun aL=>(h aL).symm⟩
end Go.Pv
namespace Go.Pv
open Go
open Classical in
noncomputable def mgu(s:List al)(E:List (T×T)):Option (List al):=if h:∃o,il s E o then h.choose else none
theorem oZ{s:List al}{E:List (T×T)}{o:Option (List al)}(h:il s E o):mgu s E=o:=by have ad:∃o,il s E o:=⟨o,h⟩;unfold mgu;rw[dif_pos ad];exact Xo ad.choose_spec h
def o2(s:List al):Prop:= ∀b∈s,(0≤b.v∧b.v≤100000)∧b.t.ok=true
theorem M5{aL:Int→T}{t:T}(aN:t.ok=true)(h:∀v,t.occ v=true→(aL v).ok=true):(t.ap aL).ok=true:=by
 induction t with
 |var n=>exact h n (by simp[T.occ])
 |pair a b ee ef=>simp only[T.ok,cx]at aN;simp only[T.ap,T.ok,cx];exact⟨ee aN.1 fun v aJ=>h v (by simp[T.occ,aJ]),ef aN.2 fun v aJ=>h v (by simp[T.occ,aJ])⟩
 |_=>exact aN
theorem v7{t:T}(aN:t.ok=true){v:Int}(h:t.occ v=true):0≤v∧v≤100000:=by
 induction t with
 |var n=>simp[T.occ]at h;subst h;simpa[T.ok]using aN
 |pair a b ee ef=>
  simp only[T.ok,cx]at aN;simp only[T.occ,lQ]at h;rcases h with h|h
  ·exact ee aN.1 h
  ·exact ef aN.2 h
 |_=>simp[T.occ]at h
theorem CO{s:List al}(af:o2 s){t:T}(aN:t.ok=true):(t.ap (bP s)).ok=true:=M5 aN fun v aJ=>by
 unfold bP;cases e:c0 s v with
 |none=>have:=v7 aN aJ;simpa[T.ok]using this
 |some x=>exact(af _ (jT e)).2
theorem AH{s:List al}(af:o2 s){v:Int}{t:T}(aJ:0≤v∧v≤100000)(aN:t.ok=true){ah:List al}(h:ng s v t=some ah):o2 ah:=by
 unfold ng at h;split at h
 ·cases h;intro b ae;rcases pN.1 ae with rfl|⟨c,av,rfl⟩
  ·exact⟨aJ,CO af aN⟩
  ·refine⟨(af c av).1,M5 (af c av).2 fun w hw=>?_⟩;unfold one;split
   ·exact CO af aN
   ·have:=v7 (af c av).2 hw;simpa[T.ok]using this
 ·cases h
theorem WM{s:List al}(af:o2 s){t:T}(aN:t.ok=true):(gT s t).ok=true:=by
 cases t with
 |var n=>have:=CO af aN;simpa[gT,T.ap]using this
 |_=>exact aN
theorem Mm:∀(n:Nat) (s:List al) (a b:T) (ah:List al),o2 s→a.ok=true→b.ok=true→kq n s a b=some (some ah)→o2 ah
 |0,_,_,_,_,_,_,_,h=>by simp[kq]at h
 |n+1,s,a,b,ah,af,br,ae,h=>by
  have ad:=WM af br;have aG:=WM af ae;simp only[kq]at h;generalize gT s a=x at h ad;generalize gT s b=y at h aG;have vh:∀{i:Int},(T.var i).ok=true→0≤i∧i≤100000:=fun h=>v7 h (by simp[T.occ]);cases x with
  |var i=>
   cases y with
   |var j=>
    simp only[jQ,dt]at h;split at h
    ·exact AH af (vh aG) ad h
    ·split at h
     ·cases h;exact af
     ·exact AH af (vh ad) aG h
   |_=>simp only[jQ,dt]at h;exact AH af (vh ad) aG h
  |pair bp a2=>
   cases y with
   |var j=>simp only[jQ,dt]at h;exact AH af (vh aG) ad h
   |pair b8 b3=>
    simp only[T.ok,cx]at ad aG;simp only[jQ]at h;split at h
    ·cases h
    ·cases h
    ·rename_i s1 ak;exact Mm n s1 a2 b3 ah (Mm n s bp b8 s1 af ad.1 aG.1 ak) ad.2 aG.2 h
   |_=>simp[jQ]at h
  |_=>
   cases y with
   |var j=>simp only[jQ,dt]at h;exact AH af (vh aG) ad h
   |_=>
    simp only[jQ,dt]at h;split at h
    ·cases h;exact af
    ·cases h
def mV:T→List Int
 | .var n=>[n]
 | .pair a b=>mV a++mV b
 |_=>[]
theorem xh{t:T}{v:Int}(h:t.occ v=true):v∈mV t:=by
 induction t with
 |var n=>simp[T.occ]at h;subst h;simp[mV]
 |pair a b ee ef=>simp only[T.occ,lQ]at h;simp only[mV,ja];exact h.imp ee ef
 |_=>simp[T.occ]at h
theorem GG{s:List al}(af:ff s)(aQ:gy s)(a b:T):∃n o,kq n s a b=some o∧il s [(a,b)] o:=by obtain⟨n,o,J,U⟩:=V4 (s.flatMap (fun b=>b.v::mV b.t)++mV a++mV b) _ _ s a b af aQ (fun c av=>⟨by simp only[ja,List.mem_flatMap];exact .inl (.inl ⟨c,av,by simp⟩),fun w hw=>by simp only[ja,List.mem_flatMap];exact .inl (.inl ⟨c,av,by simp[xh hw]⟩)⟩) (fun w hw=>by simp[xh hw]) (fun w hw=>by simp[xh hw]) rfl rfl;exact⟨n,o,J,U.1⟩
theorem MV{s:List al}{e:T×T}{E:List (T×T)}{s1:List al}(h:il s [e] (some s1)){o:Option (List al)}(U:il s1 E o):il s (e::E) o:=Hb (E:=[e]) h U
theorem xi{s:List al}(af:ff s)(aQ:gy s)(E:List (T×T)):il s E (mgu s E):=by
 induction E generalizing s with
 |nil=>rw[oZ (Hc af aQ)];exact Hc af aQ
 |cons e E bW=>
  obtain⟨n,o,_,U⟩:=GG af aQ e.1 e.2;cases o with
  |none=>have ao:il s (e::E) none:=Dq E U;rw[oZ ao];exact ao
  |some s1=>have ao:=MV U (bW U.1.1 U.1.2);rw[oZ ao];exact ao
theorem Ca{s:List al}(af:ff s)(aQ:gy s):mgu s []=some s:=oZ (Hc af aQ)
theorem Ks{s:List al}(af:ff s)(aQ:gy s)(e:T×T)(E:List (T×T)):mgu s (e::E)=match mgu s [e]with|some s1=>mgu s1 E|none=>none:=by
 have J:=xi af aQ [e];cases h:mgu s [e]with
 |none=>rw[h]at J;have ao:il s (e::E) none:=Dq E J;exact oZ ao
 |some s1=>rw[h]at J;exact oZ (MV J (xi J.1.1 J.1.2 E))
theorem rz{s:List al}(af:ff s)(aQ:gy s){E:List (T×T)}{ah:List al}(h:mgu s E=some ah):ff ah∧gy ah:=by have J:=xi af aQ E;rw[h]at J;exact J.1
theorem afh{s:List al}(af:ff s)(aQ:gy s)(au:o2 s){E:List (T×T)}(dA:∀e∈E,e.1.ok=true∧e.2.ok=true){ah:List al}(h:mgu s E=some ah):o2 ah:=by
 induction E generalizing s with
 |nil=>rw[Ca af aQ]at h;cases h;exact au
 |cons e E bW=>
  rw[Ks af aQ]at h;split at h
  ·rename_i s1 J;obtain⟨n,o,U,ao⟩:=GG af aQ e.1 e.2;have aZ:=oZ ao;rw[J]at aZ;subst aZ;exact bW ao.1.1 ao.1.2 (Mm n s e.1 e.2 s1 au (dA e (by simp)).1 (dA e (by simp)).2 U) (fun fD he=>dA fD (by simp[he])) h
  ·cases h
theorem SN{l:List Int}(ar:l.Nodup)(h:∀v∈l,0≤v∧v≤100000):l.length≤100001:=by
 have J:(l.map Int.toNat).Nodup:=by rw[List.nodup_iff_pairwise_ne,List.pairwise_map];exact akI (fun{a b} br ae cC e=>cC (by have:=h a br;have:=h b ae;omega)) ar
 have:=GX J (l₂:=List.range 100001) (fun x ad=>by obtain⟨v,aJ,rfl⟩:=hH.1 ad;have:=h v aJ;simp;omega)
 simpa using this
end Go.Pv
namespace Go.Proofs.YtohaalphocaebaaGreat
open Go Go.Pv
theorem L2(p:Nat→Bool)(n:Nat)(hm:∀k bD,k≤bD→bD<n→p k=true→p bD=true):∀(m i j:Nat),j-i≤m→i≤j→j≤n→(∀k,k<i→p k=false)→(∀k,j≤k→k<n→p k=true)→
  (i≤lO p i j∧lO p i j≤j)∧(∀k,k<lO p i j→p k=false)∧(∀k,lO p i j≤k→k<n→p k=true)
 |m,i,j,aK,lH,ag,J,U=>by
  rw[lO];split
  ·rename_i bq;obtain⟨m,rfl⟩:∃km,m=km+1:=⟨m-1,by omega⟩;split
   ·rename_i bF;have:=L2 p n hm m i ((i+j)/2) (by omega) (by omega) (by omega) J (fun k ab Ez=>hm _ k ab Ez bF);exact⟨⟨this.1.1,by omega⟩,this.2⟩
   ·rename_i bF;have:=L2 p n hm m ((i+j)/2+1) j (by omega) (by omega) ag (fun k ab=>by
     by_cases l4:p k=true
     ·exact absurd (hm k ((i+j)/2) (by omega) (by omega) l4) bF
     ·simpa using l4) U
    exact⟨⟨by omega,this.1.2⟩,this.2⟩
  ·obtain rfl:i=j:=by omega
   exact⟨⟨e1 _,e1 _⟩,J,U⟩
theorem KZ{l:List al}(af:h5 l)(v:Int):rE l v=c0 l v:=by
 have bq:∀(i j:Nat) (x y:al),i<j→l[i]? =some x→l[j]? =some y→x.v<y.v:=by intro i j x y lH ad aG;obtain⟨J,rfl⟩:=fG.1 ad;obtain⟨U,rfl⟩:=fG.1 aG;exact pb.1 af i j J U lH
 obtain⟨p,bF⟩:∃p:Nat→Bool,p=(fun i=>match l[i]? with|some b=>decide (v≤b.v)|none=>false):=⟨_,rfl⟩;have EJ:∀i b,l[i]? =some b→p i=decide (v≤b.v):=fun i b ae=>by rw[bF];simp[ae]
 have hm:∀k bD,k≤bD→bD<l.length→p k=true→p bD=true:=by
  intro k bD ab l4 h;have ak:l[k]? =some l[k]:=cv (by omega);have aA:l[bD]? =some l[bD]:=cv l4;rw[EJ k _ ak]at h;rw[EJ bD _ aA];simp only[fI]at h⊢;rcases Nat.lt_or_eq_of_le ab with u9|rfl
  ·have:=bq k bD _ _ u9 ak aA;omega
  ·exact h
 obtain⟨⟨_,hle⟩,hbef,haft⟩:=L2 p l.length hm l.length 0 l.length (by omega) (by omega) (e1 _) (fun k ab=>by omega) (fun k J U=>by omega);have I4:mv l v=(match l[lO p 0 l.length]? with|some b=>if b.v=v then((lO p 0 l.length:Nat):Int)else-1|none=> -1):=by rw[bF];rfl
 generalize lO p 0 l.length=r at hle hbef haft I4;by_cases hex:∃(k:Nat) (b:al),l[k]? =some b∧b.v=v
 ·obtain⟨k,b,ae,Q5⟩:=hex;have iy:k<l.length:=(fG.1 ae).1;have gj:r≤k:=by
   rcases Nat.lt_or_ge k r with h|h
   ·have:=hbef k h;rw[EJ k b ae]at this;simp at this;omega
   ·exact h
  have aI:l[r]? =some l[r]:=cv (by omega);have yX:=haft r (e1 _) (by omega);rw[EJ r _ aI]at yX;simp only[fI]at yX;have adz:r=k:=by
   rcases Nat.lt_or_eq_of_le gj with h|h
   ·have:=bq r k _ _ h aI ae;omega
   ·exact h
  subst adz;have I7:mv l v=r:=by rw[I4,ae];simp[Q5]
  have J:rE l v=some b.t:=by unfold rE;rw[I7,if_neg (by omega)];simp[ae]
  have U:l.find? (fun b=>b.v==v)=some b:=by
   rw[List.find?_eq_some_iff_getElem];refine⟨by simp[Q5],r,iy,?_,fun j ag=>?_⟩
   ·rw[cv iy]at ae;simpa using ae
   ·have:=bq j r l[j] b ag (cv (by omega)) ae;simp;omega
  rw[J];simp[c0,U]
 ·have U:l.find? (fun b=>b.v==v)=none:=by rw[List.find?_eq_none];intro b ae;obtain⟨k,ab,rfl⟩:=List.mem_iff_getElem.1 ae;simp;intro e;exact hex ⟨k,l[k],cv ab,e⟩
  have I7:mv l v= -1:=by
   rw[I4];split
   ·rename_i b ae;rw[if_neg (fun e=>hex ⟨r,b,ae,e⟩)]
   ·rfl
  unfold rE;rw[I7];simp[c0,U]
theorem Qn{l:List al}(af:h5 l)(v:Int):mv l v<0↔c0 l v=none:=by
 rw[←KZ af v];unfold rE;have J:=Qm l v;by_cases h:mv l v<0
 ·simp[h]
 ·simp only[h,if_false,false_iff];intro e;rw[Option.map_eq_none_iff,List.getElem?_eq_none_iff]at e;omega
def yu(s:List al):Prop:= ∀b∈s,b.t.fit=true
theorem abb{l:List al}(af:h5 l)(h:yu l)(v:Int):tx l v=(bP l v).size:=by
 unfold tx bP;rw[KZ af];cases ae:c0 l v with
 |none=>simp[T.size]
 |some x=>have:=h _ (jT ae);simp only[T.fit,cx,fI]at this;simp only[jk];rw[FA,if_pos ⟨this.1,by omega⟩]
theorem aiV{l:List al}(af:h5 l)(h:yu l)(t:T):kZ (tx l) t=cut (t.ap (bP l)).size:=by
 induction t with
 |var n=>simp only[kZ,abb af h,T.ap];rfl
 |pair a b ee ef=>have ae:=T.size_pos (b.ap (bP l));simp only[kZ,ee,ef,T.ap,T.size];unfold cut;(repeat' split)<;>omega
 |_=>simp[kZ,T.ap,T.size,cut]
theorem ahG{l:List al}(af:h5 l)(h:yu l)(t:T):sM l t=decide ((t.ap (bP l)).size≤5000):=by unfold sM;rw[aiV af h];unfold cut;split<;>simp<;>omega
theorem ahH{l:List al}(af:h5 l)(t:T):Cu l t=t.ap (bP l):=by unfold Cu;rw[VV];exact qN fun v _=>by rw[KZ af];rfl
theorem GQ(l:List al)(t:T)(aq:l.length≤1000000)(af:h5 l)(h:yu l):b7 az 95 [.slice 5 .no (l.map al.e),t.e] (.tuple [(if(t.ap (bP l)).size≤5000 then t.ap (bP l)else .nil).e,.bool (decide ((t.ap (bP l)).size≤5000))]):=by have:=akk l t aq;rw[ahG af h,ahH af]at this;simpa using this
@[simp] def aor:List bu:=[.tmp 4]
@[simp] def aos:List bu:=[.tmp 4]
@[simp] def aoC:List bu:=[.tmp 4]
@[simp] def aod:List bu:=[.tmp 4]
@[simp] def aoJ:List bu:=[.tmp 4]
@[simp] def aof:List bu:=[.tmp 4]
@[simp] def aoS:List bu:=[.tmp 4,.tmp 5]
@[simp] def aol:List bu:=[.tmp 4,.tmp 5]
@[simp] def aoq:List bu:=[.tmp 2]
@[simp] def aoL:List bu:=[.tmp 6,.tmp 7]
@[simp] def aom:List bu:=[.tmp 6]
@[simp] def aoo:List bu:=[]
@[simp] def aop:List bu:=[.tmp 5]
def B3(l:List (Int×T)):List ai:=jx (l.map fun x=>(x.1,x.2.e))
@[simp] theorem anx:B3 []=jx []:=rfl
@[simp] theorem aoU(m:aH)(l:List (Int×T)):vL m (B3 l)=some (cl l.length [] m):=by simp[B3]
@[simp] theorem an3(l:List (Int×T)):hE (B3 l)=false:=rfl
@[simp] theorem anO(f:aH→Option (List ai))(m:aH)(l:List (Int×T))(hm:f m=some (B3 l)):ud f (.gmap m)=some (True,.int .i64 l.length):=by have:=afq f m _ hm;simpa using this
def aiG(x:Int×T):Bool:= !(decide (x.2= .var x.1))
end Go.Proofs.YtohaalphocaebaaGreat
namespace Go.Proofs
open Go.Shelf
def Tryz.lays191_ren:Go.Shelf.Ren:=⟨fun|191=>242|189=>272|125=>209|257=>283|128=>258|129=>259|294=>286|295=>287|296=>288|297=>289|298=>290|299=>291|216=>292|300=>293|301=>294|328=>296|329=>297|330=>298|331=>299|332=>300|215=>301|343=>302|n=>n,fun|28=>112|0=>0|3=>3|46=>163|51=>254|53=>256|4=>4|183=>277|182=>276|131=>246|5=>5|9=>9|218=>282|222=>269|228=>285|229=>273|n=>n,fun|n=>n⟩
theorem Tryz.lays191:Go.Proofs.Lays.n191 az Tryz.lays191_ren:={
 mixed:=by kernel_rfl
 f125:=Tryz.func209.trans (eO some (by kernel_rfl))
 f128:=Tryz.func258.trans (eO some (by kernel_rfl))
 f129:=Tryz.func259.trans (eO some (by kernel_rfl))
 f189:=Tryz.func272.trans (eO some (by kernel_rfl))
 f191:=Tryz.func242.trans (eO some (by kernel_rfl))
 f215:=Tryz.func301.trans (eO some (by kernel_rfl))
 f216:=Tryz.func292.trans (eO some (by kernel_rfl))
 f257:=Tryz.func283.trans (eO some (by kernel_rfl))
 f294:=Tryz.func286.trans (eO some (by kernel_rfl))
 f295:=Tryz.func287.trans (eO some (by kernel_rfl))
 f296:=Tryz.func288.trans (eO some (by kernel_rfl))
 f297:=Tryz.func289.trans (eO some (by kernel_rfl))
 f298:=Tryz.func290.trans (eO some (by kernel_rfl))
 f299:=Tryz.func291.trans (eO some (by kernel_rfl))
 f300:=Tryz.func293.trans (eO some (by kernel_rfl))
 f301:=Tryz.func294.trans (eO some (by kernel_rfl))
 f328:=Tryz.func296.trans (eO some (by kernel_rfl))
 f329:=Tryz.func297.trans (eO some (by kernel_rfl))
 f330:=Tryz.func298.trans (eO some (by kernel_rfl))
 f331:=Tryz.func299.trans (eO some (by kernel_rfl))
 f332:=Tryz.func300.trans (eO some (by kernel_rfl))
 f343:=Tryz.func302.trans (eO some (by kernel_rfl))
 t0:=Tryz.underlying0
 a0:=Tryz.isAgg0
 z0:=Tryz.sizeOf0
 v0:=Tryz.zeroValue0
 t3:=Tryz.underlying3
 a3:=Tryz.isAgg3
 z3:=Tryz.sizeOf3
 v3:=Tryz.zeroValue3
 t4:=Tryz.underlying4
 a4:=Tryz.isAgg4
 z4:=Tryz.sizeOf4
 v4:=Tryz.zeroValue4
 t5:=Tryz.underlying5
 a5:=Tryz.isAgg5
 z5:=Tryz.sizeOf5
 v5:=Tryz.zeroValue5
 t9:=Tryz.underlying9
 a9:=Tryz.isAgg9
 z9:=Tryz.sizeOf9
 v9:=Tryz.zeroValue9
 t28:=Tryz.underlying112
 a28:=Tryz.isAgg112
 z28:=Tryz.sizeOf112
 v28:=Tryz.zeroValue112
 t46:=Tryz.underlying163
 a46:=Tryz.isAgg163
 z46:=Tryz.sizeOf163
 v46:=Tryz.zeroValue163
 t51:=Tryz.underlying254
 a51:=Tryz.isAgg254
 z51:=Tryz.sizeOf254
 v51:=Tryz.zeroValue254
 t53:=Tryz.underlying256
 a53:=Tryz.isAgg256
 z53:=Tryz.sizeOf256
 v53:=Tryz.zeroValue256
 t131:=Tryz.underlying246
 a131:=Tryz.isAgg246
 z131:=Tryz.sizeOf246
 v131:=Tryz.zeroValue246
 t182:=Tryz.underlying276
 a182:=Tryz.isAgg276
 z182:=Tryz.sizeOf276
 v182:=Tryz.zeroValue276
 t183:=Tryz.underlying277
 a183:=Tryz.isAgg277
 z183:=Tryz.sizeOf277
 v183:=Tryz.zeroValue277
 t218:=Tryz.underlying282
 a218:=Tryz.isAgg282
 z218:=Tryz.sizeOf282
 v218:=Tryz.zeroValue282
 t222:=Tryz.underlying269
 a222:=Tryz.isAgg269
 z222:=Tryz.sizeOf269
 v222:=Tryz.zeroValue269
 t228:=Tryz.underlying285
 a228:=Tryz.isAgg285
 z228:=Tryz.sizeOf285
 v228:=Tryz.zeroValue285
 t229:=Tryz.underlying273
 a229:=Tryz.isAgg273
 z229:=Tryz.sizeOf273
 v229:=Tryz.zeroValue273}
end Go.Proofs

namespace Go.Proofs.YtohaalphocaebaaGreat
open Go Go.Pv
def eg(xs:List Int):List ai:=xs.map (ai.int .i64)
theorem Vr{w:World}{ν:bc}:∀{xs:List Int} {us:List Value},dw w ν 1 (eg xs) us→us=xs.map (Value.int .i64)
 |[],us,h=>by simpa[eg,dw]using h
 |x::xs,us,h=>by simp only[eg,gI,dw]at h;obtain⟨u,b9,rfl,⟨J,_,_⟩,U⟩:=h;simp only[a6]at J;subst J;rw[Vr U];rfl
theorem Ss(w:World)(ν:bc):∀xs:List Int,dw w ν 1 (eg xs) (xs.map (Value.int .i64))
 |[]=>by simp[eg,dw]
 |x::xs=>by simp only[eg,gI,dw];exact⟨.int .i64 x,_,rfl,⟨by simp[a6],rfl,by intro c av;simp[ou]at av;subst av;rfl⟩,Ss w ν xs⟩
def mn(K:Nat)(xs:List Int):cF:=⟨[],[(.obj K,⟨xs.length,3,1,some (eg xs)⟩)]⟩
theorem sC(S:aH→Prop)(xs:List Int):aO S (eg xs):=by
 induction xs with
 |nil=>simp[eg,aO]
 |cons x r bW=>simp only[eg,gI,aO,aF];exact⟨trivial,bW⟩
theorem G5(K:Nat)(xs:List Int):dG (mn K xs):=by unfold mn;refine dG.of ⟨by intro m;simp[Pv.look],by intro m;simp[Pv.look]⟩ (by simp) ?_;intro x ad ys aG;simp at ad;subst ad;simp at aG;subst aG;exact sC _ xs
def qA(xs:List Int):List Int:=xs.mergeSort fun x y=>decide (x≤y)
theorem VP(xs:List Int):(qA xs).length=xs.length:=List.length_mergeSort xs
theorem abR(K:Nat)(xs:List Int)(aq:xs.length≤1000000):bB az 242 [.row 1 (.obj K) xs.length] (mn K xs) fun r ah=>r= .tuple []∧ah=mn K (qA xs):=by
 refine bB.sem (G5 K xs).obj fun w ν a7 kj aI=>?_;refine .inl ⟨⟨Tryz.f242,Tryz.func242,by kernel_rfl,by kernel_rfl⟩,?_⟩;have rk:=aI.slot 0;simp only[jB,Pv.get,if_true]at rk;have kB:Pv.look (.obj K) (mn K xs).e=some ⟨xs.length,3,1,some (eg xs)⟩:=by simp[mn,Pv.look]
 obtain⟨v,us,a1,bt,b2,c2⟩:=aI.good.own (.obj K) _ kB;obtain⟨c8,nr,um⟩:=c2 _ rfl;have qo:=Vr nr;subst qo;simp only[a6]at rk;obtain⟨⟨AF,XY,q5⟩,_,n',u,ak,aA,bs⟩:=rk;rw[a1]at ak;simp only[dt,jm]at ak;obtain⟨rfl,rfl⟩:=ak;have aJ:=bs rfl;have adP:a7= #[v]:=by
  have J:a7.size=1:=by simpa using kj
  apply Array.ext (by simpa using J);intro i U ao;simp at ao;subst ao;rw[←aJ];simp[Array.getD,J]
 have cC:v≠ .slice none 0 0:=by rw[←aJ,q5];simp
 obtain⟨g,cap,rfl,_,qi,nU,acM,Bm,Ba⟩:=Lib.holds_of_ownsRow bt cC;have av:=Any.sort_Ints Tryz.lays191 g 0 cap xs w Ba qi (by omega);subst adP;refine av.mono ?_;rintro e w' ⟨rfl,n,os,rfl⟩;have pB:=VP xs;have lg:=Lib.ownsRow_putRow (q:=n) (k:=xs.length) (ys:=qA xs) bt pB (e1 _);rw[ha (by omega)]at lg;obtain⟨cQ,dm,_⟩:=aI.setRowM (w':=Sort.putRow (Value.int .i64) (Sort.ahead w n) g 0 (qA xs).toArray) kB rfl a1 (bl:=g) rfl (v':= .slice (some ⟨g,0,none⟩) xs.length cap) rfl (xs':=eg (qA xs)) (us:=(qA xs).map (Value.int .i64)) (.inl ⟨by simp[eg,pB],rfl⟩) rfl rfl rfl
  (fun j ag=>by simp[Sort.putRow,Sort.mapBlock,Sort.ahead,Array.getElem?_modify,kO ag]) (by simp[Sort.putRow,Sort.mapBlock,Sort.ahead]) (by simpa[eg,pB]using lg) (Ss _ _ _)
 have iF:=cQ.grown (w':=Sort.grow (Sort.putRow (Value.int .i64) (Sort.ahead w n) g 0 (qA xs).toArray) os) ⟨rfl,rfl,rfl,by simp,fun k ab _=>Sort.heap_grow_old _ _ ab⟩;refine⟨_,_,_,_,.tuple [],mn K (qA xs),rfl,iF,by simp[a6,cJ],by simp[mn,kD],?_,?_,?_,(G5 K _).obj,by simp[aF,aO],rfl,rfl⟩
 ·simp[mn,kD,inObs,Pv.look]
 ·intro k cs ab;simp[mn,Pv.look]at ab
 ·intro k o ab;have hm:=sD ab;simp[mn]at hm;obtain⟨rfl,rfl⟩:=hm;refine⟨by simp[mn,Pv.look,ct,eg,pB],.inr (by simp[ab]),fun ys aG=>?_⟩;simp at aG;subst aG;exact sC _ _
def nI(l:List Int):List ai:=jx (l.map fun x=>(x,.bool true))
theorem ma(S:aH→Prop)(l:List Int):aO S (nI l):=by
 have:∀l:List Int,aO S (j8 (l.map fun x=>(x,.bool true))):=by
  intro l;induction l with
  |nil=>simp[j8,aO]
  |cons x r bW=>simp[j8,aO,bW,aF]
 simp[nI,jx,aO,this,aF]
def Hf(v:Int)(l:List Int):List Int:=if v∈l then l else l++[v]
theorem M9(k:Int):∀l:List Int,oD k (.bool true) (l.map fun x=>(x,ai.bool true))=if k∈l then some (l.map fun x=>(x,ai.bool true))else none
 |[]=>rfl
 |i::r=>by
  by_cases h:k=i
  ·simp[oD,h]
  ·by_cases U:k∈r<;>simp[oD,h,U,M9 k r]
@[simp] theorem anP(k:Int)(l:List Int):oc .i (.int .i64 k) (.bool true) (nI l)=some (nI (Hf k l)):=by
 simp only[nI,TJ,Dt,M9,Hf];split<;>rename_i h
 ·split at h
  ·simp at h;subst h;simp[*]
  ·cases h
 ·split at h
  ·cases h
  ·simp[*]
@[simp] theorem akW:nI []=jx []:=rfl
@[simp] theorem an1(l:List Int):hE (nI l)=false:=rfl
@[simp] theorem aoT(m:aH)(l:List Int):vL m (nI l)=some (cl l.length [] m):=by simp[nI]
theorem ae7(f:aH→Option (List ai))(fb mk:aH)(n:Nat)(seen:List Nat)(b:Nat)(l:List Int)(x:Int)(hi:f fb=some (cl n (seen++[b]) mk))(hm:f mk=some (nI l))(ar:n=l.length)(ad:l[b]? =some x):oY f (.ptr fb 0)=some (True,.tuple [.int .i64 x,.bool true]):=by rw[Tt f fb mk n seen b _ hi hm (by simpa using ar)];simp[ad]
theorem Yr{st:bj}{d:Nat}{K:bj→Prop}{fb mk:aH}{n:Nat}{seen:List Nat}{l:List Int}(hi:Pv.look fb st.b=some (cl n seen mk))(hm:Pv.look mk st.b=some (nI l))(ar:n=l.length)
  (J:(∀b,b<l.length→b∈seen)→K {st with t:=Pv.put d (.tuple [.bool false]) st.t}) (U:∀b x,l[b]? =some x→b∉seen→K {st with t:=Pv.put d (.tuple [.bool true,.int .i64 x,.bool true]) st.t,b:=ct fb (cl n (seen++[b]) mk) st.b}):
  sa st d (.ptr fb 0) K:=by
 refine PU hi hm (by simpa using ar) (fun h=>J fun b ae=>h b (by omega)) (fun b k v ae af=>?_);simp only[List.getElem?_map,gd]at ae;obtain⟨x,ak,aA⟩:=ae;simp only[jm]at aA;obtain⟨rfl,rfl⟩:=aA;exact U b x ak af
def _root_.Go.Pv.T.fold{α:Type}(f:Int→α→α):T→α→α
 | .var n,a=>f n a
 | .pair x y,a=>y.fold f (x.fold f a)
 |_,a=>a
theorem Qx{α:Type}(S:α→cF)(c5:∀a,dG (S a))(ev:∀a b,Same (S a) (S b))(g:Nat)(dg:List ai)(av:∀a,aO (inObs (S a)) dg)(dh:df dg=dg)(f:Int→α→α)(aQ:∀v a,bB az g (.int .i64 v::dg) (S a) fun r ah=>r= .tuple []∧ah=S (f v a))(t:T):
  ∀a,bB az 129 [t.e,.func g dg] (S a) fun r ah=>r= .tuple []∧ah=S (t.fold f a):=by
 have ar:∀a m,Pv.look (.loc m) (S a).b=none:=fun a=>(c5 a).obj.1;have hu:∀a m cs,ct (.loc m) cs (S a).b=(S a).b++[(.loc m,cs)]:=fun a m cs=>jR (ar a m);have au:∀a m,aH.loc m∉cR (S a):=fun a=>jL (c5 a).obj;induction t with
 |pair x y oV rr=>intro a;have af:=c5 a;refine bB.mk mixed fs yo zB (by simp) af.obj fun aU cH=>?_;unfold wx;simp[hu,au,cE,ar,dh];(with_reducible repeat' first|refine aj ?_|simp[hu,au,cE,ar]);refine cD.ob (oV a) af aE aE (by simp[av]) ?_;rintro r ah ⟨rfl,rfl⟩;refine⟨ev _ _,?_⟩;simp[gH,ig,bR,ar];(with_reducible repeat' first|refine aj ?_|simp[hu,au,cE,ar]);rw[dh];refine cD.ob (rr (x.fold f a)) (c5 (x.fold f a)) aE aE (by simp[av]) ?_;rintro r ah ⟨rfl,rfl⟩;refine⟨ev _ _,?_⟩;simp[gH,ig,bR,ar];refine cG.at (S (y.fold f (x.fold f a))) (.inr rfl) (c5 _) (ev _ _) aE aE ?_;simp[cM,xv,aV,aY,aT];simp[T.fold]
 |var n=>intro a;have af:=c5 a;refine bB.mk mixed fs yo zB (by simp) af.obj fun aU cH=>?_;unfold wx;simp[hu,au,cE,ar,dh];(with_reducible repeat' first|refine aj ?_|simp[hu,au,cE,ar]);refine cD.ob (aQ n a) af aE aE (by simp[av]) ?_;rintro r ah ⟨rfl,rfl⟩;refine⟨ev _ _,?_⟩;simp[gH,ig,bR,ar,cE];refine cG.at (S (f n a)) (.inr rfl) (c5 _) (ev _ _) aE aE ?_;simp[cM,xv,aV,aY,aT];simp[T.fold]
 |_=>intro a;have af:=c5 a;refine bB.mk mixed fs yo zB (by simp) af.obj fun aU cH=>?_;unfold wx;simp[hu,au,cE,ar,dh];(with_reducible repeat' first|refine aj ?_|simp[hu,au,cE,ar]);refine cG.at (S a) (.inr rfl) af (Same.refl _) aE aE ?_;simp[cM,xv,aV,aY,aT];simp[T.fold]
def td(l:List Int):cF:=⟨[(.obj 304,nI l)],[]⟩
theorem MT(l:List Int):dG (td l):=by unfold td;exact dG.of ⟨by intro m;simp[Pv.look],by intro m;simp[Pv.look]⟩ (by simp[ma,aO,aF,inObs,Pv.look]) (by simp)
def Hv:C:=(aa [cW 1 0,bH 2 false] (.seq (.seq (.fz false 1 (.region [aB 6 1 1,cL 7 100 6,cI 8 7])) (a8 8 (aa [bH 2 false] .ret) .skip)) (.seq (aa [aB 9 1 1,cS 10 9,cr 11 0] (fY 12 11 10 (.seq (.block 1 (aa [cN 13 5 9 11,ba 14 5 13,cU 4 kE,bG 5 4 14] (aa [c4 (.alloc 5 (some 731) (.bool false)),c4 (.store 1 (.t 5) (.c (.bool true)))] (aa [iW 15 1 4 4,ba 16 4 15,bX 17 (.mkf 133 [.t 1,.t 5]),cw 18 129 16 17] (aa [aB 19 1 5,cI 20 19,I 21 20,aw 21 false (iW 22 1 4 4),aw 21 false (aP 23 0 1 22),aw 21 false (aB 24 1 23),aw 21 false (aW 25 .eql 24 1),bU 21 false 26 25,aw 26 true (iW 27 1 4 4),aw 26 true (aP 28 1 1 27),aw 26 true (aB 29 1 28),aw 26 true (aP 30 0 1 4),aw 26 true (aB 31 1 30),aw 26 true (bA 32 .geq 29 31),aw 21 false (dr 33 26 32),dj 34 21 33] (a8 34 (aa [bH 2 false] .ret) .skip)))))) (.region [aW 35 .add 11 1,I 11 35])))) (aa [bH 2 true] .ret))))
@[simp] def ahT:List bu:=[.tmp 2]
def NY:C:=(aa [eC 2 5] (aa [dR 6 5 61 [],I 3 6] (.seq (aa [I 7 0,cS 8 7,cr 9 0] (fY 10 9 8 (.seq (.block 1 (aa [cN 11 5 7 9,ba 12 5 11,cU 5 kE,bG 5 5 12] (.drawn true 24 [I 13 3,aP 14 0 1 5,aB 15 1 14,iW 16 1 4 5,ba 17 4 16,cL 18 200 17,gB 19 kE [(0,1,(.t 15)),(1,4,(.t 18))],dR 20 5 61 [.t 19],gC 21 5 61 13 20,I 3 21]))) (.region [aW 22 .add 9 1,I 9 22])))) (aa [I 23 3,I 2 23] .ret))))
@[simp] def ahY:List bu:=[.tmp 2]
def NB:C:=(aa [eC 4 5,bH 5 false] (.seq (aa [I 8 0,cL 9 55 8,cI 10 9,I 11 10,bU 11 false 12 1,aw 11 false (cL 13 55 12),aw 11 false (cI 14 13),dj 15 11 14] (a8 15 (aa [eC 4 5,bH 5 false] .ret) .skip)) (aa [I 17 1,cL 18 201 17,I 16 18,cq 19 0 16,cq 20 1 16,I 6 19,I 7 20] (aa [I 21 0,I 22 6,I 23 7,cX 24 118 [.t 21,.t 22,.t 23],cq 25 0 24,cq 26 1 24,I 4 25,I 5 26] .ret))))
@[simp] def Us:List bu:=[.tmp 4,.tmp 5]
def NH:C:=(aa [eC 4 5] (.seq (aa [I 8 0,cL 9 55 8,cI 10 9,I 11 10,bU 11 false 12 1,aw 11 false (cL 13 55 12),aw 11 false (cI 14 13),dj 15 11 14] (a8 15 (aa [eC 4 5] .ret) .skip)) (aa [dR 16 5 61 [],I 5 16] (.seq (aa [I 17 1,cS 18 17,cr 19 0] (fY 20 19 18 (.seq (.block 1 (aa [cN 21 5 17 19,ba 22 5 21,cU 7 kE,bG 5 7 22] (aa [I 23 0,aP 24 0 1 7,aB 25 1 24,cw 26 134 23 25,aW 27 .lss 26 0] (a8 27 (.drawn true 39 [I 28 5,aP 29 0 1 7,aB 30 1 29,iW 31 1 4 7,ba 32 4 31,cL 33 200 32,gB 34 kE [(0,1,(.t 30)),(1,4,(.t 33))],dR 35 5 61 [.t 34],gC 36 5 61 28 35,I 5 36]) .skip)))) (.region [aW 37 .add 19 1,I 19 37])))) (aa [I 38 5,I 4 38] .ret)))))
@[simp] def ahR:List bu:=[.tmp 4]
def Hw:C:=(aa [aB 4 1 1,I 5 0,cw 6 134 4 5,aW 7 .geq 6 0] (a8 7 (.region [c4 (.store 1 (.t 2) (.c (.bool false)))]) .skip))
@[simp] def K8:List bu:=[]
def HB:C:=(aa [bH 4 false] (.seq (aa [I 6 0,cS 7 6,I 8 1,cS 9 8,bA 10 .neq 7 9] (a8 10 (aa [bH 4 false] .ret) .skip)) (.seq (aa [I 11 0,cS 12 11,cr 13 0] (fY 14 13 12 (.seq (.block 1 (aa [I 15 13,I 5 15] (.seq (.drawn true 42 [I 16 0,I 17 5,cN 18 5 16 17,aP 19 0 1 18,aB 20 1 19,I 21 1,I 22 5,cN 23 5 21 22,aP 24 0 1 23,aB 25 1 24,bA 26 .neq 20 25,I 27 26,bU 27 false 28 0,bU 27 false 29 5,aw 27 false (cN 30 5 28 29),aw 27 false (iW 31 1 4 30),aw 27 false (ba 32 4 31),bU 27 false 33 1,bU 27 false 34 5,aw 27 false (cN 35 5 33 34),aw 27 false (iW 36 1 4 35),aw 27 false (ba 37 4 36),aw 27 false (cw 38 108 32 37),aw 27 false (cI 39 38),dj 40 27 39]) (a8 40 (aa [bH 4 false] .ret) .skip)))) (.region [aW 41 .add 13 1,I 13 41])))) (aa [bH 4 true] .ret))))
@[simp] def UE:List bu:=[.tmp 4]
def N0:C:=(aa [eC 2 4,eC 3 4] (aa [dR 8 4 32 [],I 4 8] (aa [dR 9 4 32 [],I 5 9] (.seq (aa [I 10 0,cS 11 10,cr 12 0] (fY 13 12 11 (.seq (.block 1 (aa [cN 14 5 10 12,ba 15 5 14,cU 7 kE,bG 5 7 15] (aa [I 16 4,aP 17 0 1 7,aB 18 1 17,cL 19 96 18,dR 20 4 32 [.t 19],gC 21 4 32 16 20,I 4 21] (.region [I 22 5,iW 23 1 4 7,ba 24 4 23,dR 25 4 32 [.t 24],gC 26 4 32 22 25,I 5 26])))) (.region [aW 27 .add 12 1,I 12 27])))) (aa [I 28 4,I 29 5,I 2 28,I 3 29] .ret)))))
@[simp] def UG:List bu:=[.tmp 2,.tmp 3]
def N6:C:=(aa [cr 4 0] (.seq (aa [cr 5 0] (.block 0 (.loop (.seq (aa [I 8 5,I 9 0,cS 10 9,bA 11 .lss 8 10,I 12 11,bU 12 true 13 5,bU 12 true 14 1,aw 12 true (cS 15 14),aw 12 true (bA 16 .lss 13 15),dr 17 12 16] (a8 17 .skip (.exit 0))) (.seq (.block 1 (.seq (.seq (.drawn true 53 [I 20 0,I 21 5,cN 22 5 20 21,aP 23 0 1 22,aB 24 1 23,I 25 1,I 26 5,cN 27 5 25 26,aP 28 0 1 27,aB 29 1 28,cw 30 232 24 29,I 6 30]) (aa [I 31 6,aW 32 .neq 31 0] (a8 32 (aa [I 33 6,I 4 33] .ret) .skip))) (.seq (.drawn true 53 [I 34 0,I 35 5,cN 36 5 34 35,iW 37 1 4 36,ba 38 4 37,I 39 1,I 40 5,cN 41 5 39 40,iW 42 1 4 41,ba 43 4 42,cw 44 170 38 43,I 7 44]) (aa [I 45 7,aW 46 .neq 45 0] (a8 46 (aa [I 47 7,I 4 47] .ret) .skip))))) (.region [I 18 5,aW 19 .add 18 1,I 5 19])))))) (aa [I 48 0,cS 49 48,I 50 1,cS 51 50,cw 52 232 49 51,I 4 52] .ret)))
@[simp] def Cv:List bu:=[.tmp 4]
def N3:C:=(aa [bH 4 false] (.seq (aa [I 11 0,cS 12 11,cr 13 0] (fY 14 13 12 (.seq (.block 1 (aa [cN 15 5 11 13,ba 16 5 15,cU 6 kE,bG 5 6 16] (aa [I 18 1,aP 19 0 1 6,aB 20 1 19,cL 21 96 20,cw 22 95 18 21,I 17 22,cq 23 0 17,cq 24 1 17,cU 7 dz,bG 4 7 23,I 8 24] (aa [I 26 1,iW 27 1 4 6,ba 28 4 27,cw 29 95 26 28,I 25 29,cq 30 0 25,cq 31 1 25,cU 9 dz,bG 4 9 30,I 10 31] (aa [I 32 8,cI 33 32,I 34 33,bU 34 false 35 10,aw 34 false (cI 36 35),dj 37 34 36,I 38 37,aw 38 false (ba 39 4 7),aw 38 false (ba 40 4 9),aw 38 false (cw 41 108 39 40),aw 38 false (cI 42 41),dj 43 38 42] (a8 43 (aa [bH 4 false] .ret) .skip)))))) (.region [aW 44 .add 13 1,I 13 44])))) (aa [bH 4 true] .ret)))
@[simp] def La:List bu:=[.tmp 4]
def sU:List (Nat×du):=[
 (3,⟨1,8,.int .i64,.int .i64 0⟩),
 (4,⟨1,1,.bool,.bool false⟩),
 (23,⟨1,24,.slice 61,.slice 5 .nil []⟩),
 (30,⟨1,24,.slice 32,.slice 4 .nil []⟩),
 (32,⟨4,56,.struct [(0,3),(1,3),(2,9),(3,30)],.agg [.int .i64 0,.int .i64 0,.str [],.slice 4 .nil []]⟩),
 (61,⟨5,64,.struct [(0,3),(1,32)],.agg [.int .i64 0,.int .i64 0,.int .i64 0,.str [],.slice 4 .nil []]⟩)]
theorem qD:fA az sU=true:=by kernel_rfl
theorem TV:cc sU Hv ahT 1 Tryz.f55=true:=by kernel_rfl
theorem P1:az.funcs[(55:Nat)]? =some Tryz.f55:=Tryz.func55
theorem af7:cc sU NY ahY 1 Tryz.f119=true:=by kernel_rfl
theorem ZK:az.funcs[(119:Nat)]? =some Tryz.f119:=Tryz.func119
theorem afL:cc sU NB Us 2 Tryz.f122=true:=by kernel_rfl
theorem Zo:az.funcs[(122:Nat)]? =some Tryz.f122:=Tryz.func122
theorem afQ:cc sU NH ahR 2 Tryz.f123=true:=by kernel_rfl
theorem Zt:az.funcs[(123:Nat)]? =some Tryz.f123:=Tryz.func123
theorem TW:cc sU Hw K8 3 Tryz.f133=true:=by kernel_rfl
theorem P2:az.funcs[(133:Nat)]? =some Tryz.f133:=Tryz.func133
theorem T1:cc sU HB UE 2 Tryz.f135=true:=by kernel_rfl
theorem P7:az.funcs[(135:Nat)]? =some Tryz.f135:=Tryz.func135
theorem af9:cc sU N0 UG 1 Tryz.f201=true:=by kernel_rfl
theorem ZM:az.funcs[(201:Nat)]? =some Tryz.f201:=Tryz.func201
theorem agf:cc sU N6 Cv 2 Tryz.f204=true:=by kernel_rfl
theorem ZS:az.funcs[(204:Nat)]? =some Tryz.f204:=Tryz.func204
theorem agc:cc sU N3 La 2 Tryz.f205=true:=by kernel_rfl
theorem ZP:az.funcs[(205:Nat)]? =some Tryz.f205:=Tryz.func205
def Og:C:=(aa [cU 2 dz] (aa [I 3 0,gB 4 dz [(0,1,(et 1)),(1,1,(.t 3))],bG 4 2 4] .ret))
@[simp] def ah3:List bu:=[.cell 2 true 4]
def N4:C:=(aa [bX 0 (.mov (.c (.nilp)))] (aa [c4 (.mkmap 1 (some 702)),c4 (.mkmap 2 (some 703)),c4 (.mkmap 3 (some 704)),c4 (.mkmap 4 (some 705)),c4 (.mkmap 5 (some 706)),c4 (.mkmap 6 (some 707)),bX 7 (.build [.junk,.junk,.junk,.junk,.junk,.junk] [(0,1,(.t 1)),(1,1,(.t 2)),(2,1,(.t 3)),(3,1,(.t 4)),(4,1,(.t 5)),(5,1,(.t 6))]),cW 8 7,I 0 8] (.fz true 0 .ret)))
@[simp] def UJ:List bu:=[.tmp 0]
def NU:C:=(aa [cr 4 0] (.seq (aa [I 8 0,eB 9 8,aP 10 0 1 9,aB 11 1 10,I 12 1,bX 13 (.mget .i (.int .i64 0) true (.t 11) (.t 12)),I 7 13,cq 14 0 7,cq 15 1 7,I 5 14,I 6 15] (aa [I 16 6,cI 17 16] (a8 17 (.region [I 18 0,eB 19 18,aP 20 0 1 19,aB 21 1 20,I 22 1,I 23 1,c4 (.mput .i (.t 21) (.t 22) (.t 23))]) .skip))) (.seq (.block 0 (.loop (.seq (aa [I 24 0,eB 25 24,aP 26 0 1 25,aB 27 1 26,I 28 1,bX 29 (.mget .i (.int .i64 0) false (.t 27) (.t 28)),I 30 1,bA 31 .neq 29 30] (a8 31 .skip (.exit 0))) (.block 1 (.seq (.drawn true 55 [I 32 0,eB 33 32,aP 34 0 1 33,aB 35 1 34,I 36 1,I 37 0,eB 38 37,aP 39 0 1 38,aB 40 1 39,I 41 0,eB 42 41,aP 43 0 1 42,aB 44 1 43,I 45 1,bX 46 (.mget .i (.int .i64 0) false (.t 44) (.t 45)),bX 47 (.mget .i (.int .i64 0) false (.t 40) (.t 46)),c4 (.mput .i (.t 35) (.t 36) (.t 47))]) (.region [I 48 0,eB 49 48,aP 50 0 1 49,aB 51 1 50,I 52 1,bX 53 (.mget .i (.int .i64 0) false (.t 51) (.t 52)),I 1 53])))))) (aa [I 54 1,I 4 54] .ret))))
@[simp] def UA:List bu:=[.tmp 4]
def NQ:C:=(aa [cW 2 0,cW 3 1] (.fz false 2 (.region [ba 4 4 3,bX 5 (.mkf 243 [.t 2]),cw 6 129 4 5])))
@[simp] def Ux:List bu:=[]
def uN:C:=(aa [cW 4 1,cW 5 2,bH 6 false] (.seq (.block 0 (aa [aP 12 0 1 4,aB 13 1 12,aW 14 .eql 13 1,I 15 14,aw 15 true (aP 16 0 1 5),aw 15 true (aB 17 1 16),aw 15 true (aW 18 .eql 17 1),dr 19 15 18,I 11 19] (a8 11 (aa [I 20 0,aP 21 1 1 4,aB 22 1 21,cw 23 196 20 22,I 7 23] (aa [I 24 0,aP 25 1 1 5,aB 26 1 25,cw 27 196 24 26,I 8 27] (.seq (aa [I 28 7,I 29 8,bA 30 .eql 28 29] (a8 30 (aa [bH 6 true] .ret) .skip)) (.seq (aa [I 31 8,I 32 7,bA 33 .lss 31 32] (a8 33 (.region [I 34 8,I 35 7,I 7 34,I 8 35]) .skip)) (aa [I 36 0,eB 37 36,aP 38 0 1 37,aB 39 1 38,I 40 8,I 41 7,c4 (.mput .i (.t 39) (.t 40) (.t 41))] (.seq (aa [I 42 0,eB 43 42,aP 44 2 1 43,aB 45 1 44,I 46 8,bX 47 (.mget .i (.bool false) false (.t 45) (.t 46)),cI 48 47] (a8 48 (aa [I 49 0,eB 50 49,aP 51 2 1 50,aB 52 1 51,I 53 7,bX 54 (.mget .i (.bool false) false (.t 52) (.t 53)),cI 55 54,I 56 55,bU 56 false 57 0,bU 56 false 58 0,aw 56 false (eB 59 58),aw 56 false (aP 60 1 1 59),aw 56 false (aB 61 1 60),bU 56 false 62 7,wa 56 false 63 (.mget .i (.agg dz) false (.t 61) (.t 62)),bU 56 false 64 7,ys 56 false (.mkmap 65 (some 715)),aw 56 false (cX 66 244 [.t 57,.t 63,.t 64,.t 65]),aw 56 false (cI 67 66),dj 68 56 67,I 6 68] .ret) .skip)) (aa [I 69 0,eB 70 69,aP 71 1 1 70,aB 72 1 71,I 73 8,bX 74 (.mget .i (.agg dz) false (.t 72) (.t 73)),cU 9 dz,bG 4 9 74] (.seq (aa [I 75 0,eB 76 75,aP 77 2 1 76,aB 78 1 77,I 79 7,bX 80 (.mget .i (.bool false) false (.t 78) (.t 79)),cI 81 80] (a8 81 (aa [I 82 0,I 83 7,ba 84 4 9,cX 85 245 [.t 82,.t 83,.t 84],I 6 85] .ret) .skip)) (.seq (.drawnW [715,716] 198 [I 86 0,ba 87 4 9,I 88 7,c4 (.mkmap 89 (some 715)),cX 90 244 [.t 86,.t 87,.t 88,.t 89],cI 91 90,I 92 91,bU 92 true 93 0,bU 92 true 94 0,aw 92 true (eB 95 94),aw 92 true (aP 96 1 1 95),aw 92 true (aB 97 1 96),bU 92 true 98 7,wa 92 true 99 (.mgetB .i (.agg dz) false (.t 97) (.t 98)),bU 92 true 100 7,ys 92 true (.mkmap 101 (some 716)),aw 92 true (cX 102 244 [.t 93,.t 99,.t 100,.t 101]),aw 92 true (cI 103 102),dr 104 92 103,I 105 104,bU 105 true 106 0,bU 105 true 107 0,aw 105 true (eB 108 107),aw 105 true (aP 109 1 1 108),aw 105 true (aB 110 1 109),bU 105 true 111 7,wa 105 true 112 (.mgetB .i (.agg dz) false (.t 110) (.t 111)),aw 105 true (ba 113 4 9),aw 105 true (cX 114 198 [.t 106,.t 112,.t 113]),dr 115 105 114,I 6 115]) .ret))))))))) (aa [aP 117 0 1 4,aB 118 1 117,aW 119 .eql 118 1,I 116 119] (a8 116 (aa [I 120 0,aP 121 1 1 4,aB 122 1 121,cw 123 196 120 122,I 10 123] (.seq (aa [I 124 0,eB 125 124,aP 126 2 1 125,aB 127 1 126,I 128 10,bX 129 (.mget .i (.bool false) false (.t 127) (.t 128)),cI 130 129] (a8 130 (aa [I 131 0,I 132 10,ba 133 4 5,cX 134 245 [.t 131,.t 132,.t 133],I 6 134] .ret) .skip)) (.seq (.drawn false 198 [I 135 0,I 136 0,eB 137 136,aP 138 1 1 137,aB 139 1 138,I 140 10,bX 141 (.mgetB .i (.agg dz) false (.t 139) (.t 140)),ba 142 4 5,cX 143 198 [.t 135,.t 141,.t 142],I 6 143]) .ret))) (aa [aP 145 0 1 5,aB 146 1 145,aW 147 .eql 146 1,I 144 147] (a8 144 (aa [I 148 0,ba 149 4 5,ba 150 4 4,cX 151 198 [.t 148,.t 149,.t 150],I 6 151] .ret) (aa [aP 153 0 1 4,aB 154 1 153,aP 155 0 1 5,aB 156 1 155,bA 157 .neq 154 156,I 158 157,aw 158 false (aP 159 1 1 4),aw 158 false (aB 160 1 159),aw 158 false (aP 161 1 1 5),aw 158 false (aB 162 1 161),aw 158 false (bA 163 .neq 160 162),dj 164 158 163,I 165 164,aw 165 false (aP 166 2 1 4),aw 165 false (aB 167 1 166),aw 165 false (aP 168 2 1 5),aw 165 false (aB 169 1 168),aw 165 false (bA 170 .neq 167 169),dj 171 165 170,I 152 171] (a8 152 (aa [bH 6 false] .ret) (aa [aP 173 0 1 4,aB 174 1 173,aW 175 .eql 174 4,I 172 175] (a8 172 (.seq (.drawn false 198 [I 176 0,aP 177 3 1 4,aB 178 1 177,jC 179 4 178 0,ba 180 4 179,aP 181 3 1 5,aB 182 1 181,jC 183 4 182 0,ba 184 4 183,cX 185 198 [.t 176,.t 180,.t 184],I 186 185,bU 186 true 187 0,aw 186 true (aP 188 3 1 4),aw 186 true (aB 189 1 188),aw 186 true (jC 190 4 189 1),aw 186 true (ba 191 4 190),aw 186 true (aP 192 3 1 5),aw 186 true (aB 193 1 192),aw 186 true (jC 194 4 193 1),aw 186 true (ba 195 4 194),aw 186 true (cX 196 198 [.t 187,.t 191,.t 195]),dr 197 186 196,I 6 197]) .ret) .skip))))))))))) (aa [bH 6 true] .ret)))
@[simp] def nt:List bu:=[.tmp 6]
def NR:C:=(.region [aB 3 1 1,I 4 0,cw 5 196 3 4])
@[simp] def Uy:List bu:=[]
def NS:C:=(aa [cW 4 0,cW 5 1,cW 6 2,cW 7 3,bH 8 false] (aa [c4 (.alloc 9 (some 712) (.bool false)),c4 (.store 1 (.t 9) (.c (.bool false)))] (.seq (.fz false 7 (.fz false 6 (.fz false 4 (.region [ba 10 4 5,bX 11 (.mkf 273 [.t 4,.t 9,.t 6,.t 7]),cw 12 129 10 11])))) (aa [aB 13 1 9,I 8 13] .ret))))
@[simp] def Uz:List bu:=[.tmp 8]
def NP:C:=(aa [cW 5 2,bH 6 false] (.seq (.drawn true 24 [I 7 0,eB 8 7,aP 9 1 1 8,aB 10 1 9,I 11 1,ba 12 4 5,c4 (.mput .i (.t 10) (.t 11) (.t 12))]) (aa [I 13 0,eB 14 13,aP 15 2 1 14,aB 16 1 15,I 17 1,c4 (.mput .i (.t 16) (.t 17) (.c (.bool true)))] (aa [I 18 0,ba 19 4 5,I 20 1,c4 (.mkmap 21 (some 715)),cX 22 244 [.t 18,.t 19,.t 20,.t 21],cI 23 22,I 6 23] .ret))))
@[simp] def Uw:List bu:=[.tmp 6]
def yc:C:=(aa [cW 2 0,bH 4 false] (.seq (.seq (.fz false 2 (.region [aB 6 1 2,eB 7 6,aP 8 3 1 7,aB 9 1 8,I 10 1,bX 11 (.mget .i (.int .i64 0) false (.t 9) (.t 10)),aW 12 .eql 11 2])) (a8 12 (aa [bH 4 true] .ret) .skip)) (.seq (aa [aB 13 1 2,eB 14 13,aP 15 3 1 14,aB 16 1 15,I 17 1,bX 18 (.mget .i (.int .i64 0) false (.t 16) (.t 17)),aW 19 .eql 18 1] (a8 19 (aa [bH 4 false] .ret) .skip)) (aa [aB 20 1 2,eB 21 20,aP 22 3 1 21,aB 23 1 22,I 24 1,c4 (.mput .i (.t 23) (.t 24) (et 1))] (aa [aB 25 1 2,eB 26 25,aP 27 4 1 26,aB 28 1 27,I 29 1,c4 (.mput .i (.t 28) (.t 29) (et 1))] (.seq (aa [aB 30 1 2,eB 31 30,aP 32 2 1 31,aB 33 1 32,I 34 1,bX 35 (.mget .i (.bool false) false (.t 33) (.t 34))] (a8 35 (aa [c4 (.alloc 5 (some 712) (.bool false)),c4 (.store 1 (.t 5) (.c (.bool true)))] (aa [aB 36 1 2,eB 37 36,aP 38 1 1 37,aB 39 1 38,I 40 1,bX 41 (.mget .i (.agg dz) false (.t 39) (.t 40)),bX 42 (.mkf 274 [.t 5,.t 2]),cw 43 129 41 42] (.seq (aa [aB 44 1 5,cI 45 44] (a8 45 (aa [bH 4 false] .ret) .skip)) (.drawn false 64 [aB 46 1 2,eB 47 46,aP 48 4 1 47,aB 49 1 48,I 50 1,aB 51 1 2,eB 52 51,aP 53 1 1 52,aB 54 1 53,I 55 1,bX 56 (.mgetB .i (.agg dz) false (.t 54) (.t 55)),bX 57 (.mkf 275 [.t 2]),cw 58 239 56 57,c4 (.mput .i (.t 49) (.t 50) (.t 58))])))) .skip)) (aa [aB 59 1 2,eB 60 59,aP 61 3 1 60,aB 62 1 61,I 63 1,c4 (.mput .i (.t 62) (.t 63) (et 2))] (aa [bH 4 true] .ret))))))))
@[simp] def zM:List bu:=[.tmp 4]
def DE:C:=(aa [cW 2 0,cU 4 dz] (.seq (.seq (.fz false 2 (.region [aB 9 1 2,eB 10 9,aP 11 5 1 10,aB 12 1 11,I 13 1,bX 14 (.mget .i (.agg dz) true (.t 12) (.t 13)),I 8 14,cq 15 0 8,cq 16 1 8,cU 5 dz,bG 4 5 15,I 6 16])) (aa [I 17 6] (a8 17 (aa [ba 18 4 5,bG 4 4 18] .ret) .skip))) (aa [I 19 1,cL 20 96 19,cU 7 dz,bG 4 7 20] (.seq (aa [aB 21 1 2,eB 22 21,aP 23 2 1 22,aB 24 1 23,I 25 1,bX 26 (.mget .i (.bool false) false (.t 24) (.t 25))] (a8 26 (.region [aB 27 1 2,eB 28 27,aP 29 1 1 28,aB 30 1 29,I 31 1,bX 32 (.mget .i (.agg dz) false (.t 30) (.t 31)),bX 33 (.mkf 276 [.t 2]),cw 34 153 32 33,bG 4 7 34]) .skip)) (.seq (.drawn true 42 [aB 35 1 2,eB 36 35,aP 37 5 1 36,aB 38 1 37,I 39 1,ba 40 4 7,c4 (.mput .i (.t 38) (.t 39) (.t 40))]) (aa [ba 41 4 7,bG 4 4 41] .ret))))))
@[simp] def FR:List bu:=[.cell 4 true 4]
def NT:C:=(aa [aB 7 1 1,I 8 0,cw 9 196 7 8,I 6 9] (.seq (aa [aB 10 1 2,I 11 10,bU 11 false 12 6,aw 11 false (aB 13 1 3),aw 11 false (bA 14 .eql 12 13),dj 15 11 14] (a8 15 (aa [c4 (.store 1 (.t 2) (.c (.bool true)))] .ret) .skip)) (aa [aB 16 1 4,I 17 6,bX 18 (.mget .i (.bool false) false (.t 16) (.t 17)),cI 19 18,I 20 19,aw 20 true (aB 21 1 1),aw 20 true (eB 22 21),aw 20 true (aP 23 2 1 22),aw 20 true (aB 24 1 23),bU 20 true 25 6,aw 20 true (bX 26 (.mget .i (.bool false) false (.t 24) (.t 25))),dr 27 20 26] (a8 27 (aa [aB 28 1 4,I 29 6,c4 (.mput .i (.t 28) (.t 29) (.c (.bool true)))] (.drawn false 40 [aB 30 1 1,aB 31 1 1,eB 32 31,aP 33 1 1 32,aB 34 1 33,I 35 6,bX 36 (.mgetB .i (.agg dz) false (.t 34) (.t 35)),aB 37 1 3,aB 38 1 4,cX 39 244 [.t 30,.t 36,.t 37,.t 38],bG 1 2 39])) .skip))))
@[simp] def zL:List bu:=[]
def Hy:C:=(.seq (.drawn false 13 [bX 4 (.loadB false 1 (.t 1)),I 5 4,aw 5 true (aB 6 1 2),aw 5 true (aB 7 1 2),bU 5 true 8 0,aw 5 true (cw 9 196 7 8),aw 5 true (cw 10 246 6 9),aw 5 true (cI 11 10),dr 12 5 11]) (a8 12 (.region [c4 (.store 1 (.t 1) (.c (.bool false)))]) .skip))
@[simp] def FT:List bu:=[]
def NX:C:=(aa [cr 3 0] (.seq (.drawn false 12 [aB 4 1 1,eB 5 4,aP 6 4 1 5,aB 7 1 6,aB 8 1 1,I 9 0,cw 10 196 8 9,bX 11 (.mgetB .i (.int .i64 0) false (.t 7) (.t 10)),I 3 11]) .ret))
@[simp] def UC:List bu:=[.tmp 3]
def NW:C:=(aa [cU 3 dz,bH 4 false] (.seq (.drawn false 10 [aB 5 1 1,aB 6 1 1,I 7 0,cw 8 196 6 7,cw 9 247 5 8,bG 4 3 9,bH 4 true]) .ret))
@[simp] def UB:List bu:=[.cell 3 true 4,.tmp 4]
def oj:List (Nat×du):=[
 (3,⟨1,8,.int .i64,.int .i64 0⟩),
 (4,⟨1,1,.bool,.bool false⟩),
 (9,⟨1,16,.str,.str []⟩),
 (30,⟨1,24,.slice 32,.slice 4 .nil []⟩),
 (32,⟨4,56,.struct [(0,3),(1,3),(2,9),(3,30)],.agg [.int .i64 0,.int .i64 0,.str [],.slice 4 .nil []]⟩),
 (127,⟨1,8,.map 3 32,.junk⟩),
 (154,⟨1,8,.map 3 4,.junk⟩),
 (182,⟨1,8,.map 3 3,.junk⟩),
 (204,⟨1,8,.other,.nilp⟩),
 (245,⟨6,48,.struct [(0,182),(1,127),(2,154),(3,182),(4,182),(5,127)],.agg [.junk,.junk,.junk,.junk,.junk,.junk]⟩)]
theorem jg:fA az oj=true:=by kernel_rfl
theorem agp:cc oj Og ah3 1 Tryz.f96=true:=by kernel_rfl
theorem Z1:az.funcs[(96:Nat)]? =some Tryz.f96:=Tryz.func96
theorem agd:cc oj N4 UJ 0 Tryz.f195=true:=by kernel_rfl
theorem ZQ:az.funcs[(195:Nat)]? =some Tryz.f195:=Tryz.func195
theorem af3:cc oj NU UA 2 Tryz.f196=true:=by kernel_rfl
theorem ZG:az.funcs[(196:Nat)]? =some Tryz.f196:=Tryz.func196
theorem afZ:cc oj NQ Ux 2 Tryz.f197=true:=by kernel_rfl
theorem ZC:az.funcs[(197:Nat)]? =some Tryz.f197:=Tryz.func197
theorem xo:cc oj uN nt 3 Tryz.f198=true:=by kernel_rfl
theorem wC:az.funcs[(198:Nat)]? =some Tryz.f198:=Tryz.func198
theorem af0:cc oj NR Uy 2 Tryz.f243=true:=by kernel_rfl
theorem ZD:az.funcs[(243:Nat)]? =some Tryz.f243:=Tryz.func243
theorem af1:cc oj NS Uz 4 Tryz.f244=true:=by kernel_rfl
theorem ZE:az.funcs[(244:Nat)]? =some Tryz.f244:=Tryz.func244
theorem afY:cc oj NP Uw 3 Tryz.f245=true:=by kernel_rfl
theorem ZB:az.funcs[(245:Nat)]? =some Tryz.f245:=Tryz.func245
theorem Ch:cc oj yc zM 2 Tryz.f246=true:=by kernel_rfl
theorem AU:az.funcs[(246:Nat)]? =some Tryz.f246:=Tryz.func246
theorem KJ:cc oj DE FR 2 Tryz.f247=true:=by kernel_rfl
theorem Ih:az.funcs[(247:Nat)]? =some Tryz.f247:=Tryz.func247
theorem af2:cc oj NT zL 5 Tryz.f273=true:=by kernel_rfl
theorem ZF:az.funcs[(273:Nat)]? =some Tryz.f273:=Tryz.func273
theorem TY:cc oj Hy FT 3 Tryz.f274=true:=by kernel_rfl
theorem P4:az.funcs[(274:Nat)]? =some Tryz.f274:=Tryz.func274
theorem af6:cc oj NX UC 2 Tryz.f275=true:=by kernel_rfl
theorem ZJ:az.funcs[(275:Nat)]? =some Tryz.f275:=Tryz.func275
theorem af5:cc oj NW UB 2 Tryz.f276=true:=by kernel_rfl
theorem ZI:az.funcs[(276:Nat)]? =some Tryz.f276:=Tryz.func276
end Go.Proofs.YtohaalphocaebaaGreat
namespace Go.Proofs.YtohaalphocaebaaGreat
open Go Go.Pv
section
variable {α:Type} (S:α→cF) (c5:∀a,dG (S a)) (ev:∀a b,Same (S a) (S b)) (g:Nat) (dg:List ai) (av:∀a,aO (inObs (S a)) dg) (dh:df dg=dg)
include c5 ev av dh in
theorem Qy(gJ:α→Prop)(f:Int→α→Option α)(aQ:∀v a bh,gJ a→f v a=some bh→gJ bh∧bB az g (.int .i64 v::dg) (S a) fun r ah=>r= .tuple []∧ah=S bh)(t:T):
  ∀a bh,gJ a→t.foldO f a=some bh→gJ bh∧bB az 129 [t.e,.func g dg] (S a) fun r ah=>r= .tuple []∧ah=S bh:=by
 have ar:∀a m,Pv.look (.loc m) (S a).b=none:=fun a=>(c5 a).obj.1;have hu:∀a m cs,ct (.loc m) cs (S a).b=(S a).b++[(.loc m,cs)]:=fun a m cs=>jR (ar a m);have au:∀a m,aH.loc m∉cR (S a):=fun a=>jL (c5 a).obj;induction t with
 |pair x y oV rr=>intro a bh hi he;have af:=c5 a;simp only[T.foldO,hI]at he;obtain⟨bp,J,U⟩:=he;obtain⟨i1,g1⟩:=oV a bp hi J;obtain⟨i2,g2⟩:=rr bp bh i1 U;refine⟨i2,?_⟩;refine bB.mk mixed fs yo zB (by simp) af.obj fun aU cH=>?_;unfold wx;simp[hu,au,cE,ar,dh];(with_reducible repeat' first|refine aj ?_|simp[hu,au,cE,ar]);refine cD.ob g1 af aE aE (by simp[av]) ?_;rintro r ah ⟨rfl,rfl⟩;refine⟨ev _ _,?_⟩;simp[gH,ig,bR,ar];(with_reducible repeat' first|refine aj ?_|simp[hu,au,cE,ar]);rw[dh];refine cD.ob g2 (c5 bp) aE aE (by simp[av]) ?_;rintro r ah ⟨rfl,rfl⟩;refine⟨ev _ _,?_⟩;simp[gH,ig,bR,ar];refine cG.at (S bh) (.inr rfl) (c5 _) (ev _ _) aE aE ?_;simp[cM,xv,aV,aY,aT]
 |var n=>intro a bh hi he;have af:=c5 a;simp only[T.foldO]at he;obtain⟨i1,g1⟩:=aQ n a bh hi he;refine⟨i1,?_⟩;refine bB.mk mixed fs yo zB (by simp) af.obj fun aU cH=>?_;unfold wx;simp[hu,au,cE,ar,dh];(with_reducible repeat' first|refine aj ?_|simp[hu,au,cE,ar]);refine cD.ob g1 af aE aE (by simp[av]) ?_;rintro r ah ⟨rfl,rfl⟩;refine⟨ev _ _,?_⟩;simp[gH,ig,bR,ar,cE];refine cG.at (S bh) (.inr rfl) (c5 _) (ev _ _) aE aE ?_;simp[cM,xv,aV,aY,aT]
 |_=>intro a bh hi he;have af:=c5 a;simp only[T.foldO,dt]at he;subst he;refine⟨hi,?_⟩;refine bB.mk mixed fs yo zB (by simp) af.obj fun aU cH=>?_;unfold wx;simp[hu,au,cE,ar,dh];(with_reducible repeat' first|refine aj ?_|simp[hu,au,cE,ar]);refine cG.at (S a) (.inr rfl) af (Same.refl _) aE aE ?_;simp[cM,xv,aV,aY,aT]
include c5 ev av dh in
theorem IB(f:Int→α→Option α)(aQ:∀v a bh,f v a=some bh→bB az g (.int .i64 v::dg) (S a) fun r ah=>r= .tuple []∧ah=S bh)(t:T)(a bh:α)(h:t.foldO f a=some bh):bB az 129 [t.e,.func g dg] (S a) fun r ah=>r= .tuple []∧ah=S bh:=(Qy S c5 ev g dg av dh (fun _=>True) f (fun v a bh _ h=>⟨trivial,aQ v a bh h⟩) t a bh trivial h).2
include c5 ev av dh in
theorem abA(f:Int→α→Option (T×α))(aQ:∀v a p,f v a=some p→bB az g (.int .i64 v::dg) (S a) fun r ah=>r= .tuple [p.1.e,.bool true]∧ah=S p.2)(t:T):
  ∀a p,t.mapO f a=some p→bB az 153 [t.e,.func g dg] (S a) fun r ah=>r=p.1.e∧ah=S p.2:=by
 have ar:∀a m,Pv.look (.loc m) (S a).b=none:=fun a=>(c5 a).obj.1;have cC:∀a m,Pv.look (.loc m) (S a).e=none:=fun a=>(c5 a).obj.2;have hu:∀a m cs,ct (.loc m) cs (S a).b=(S a).b++[(.loc m,cs)]:=fun a m cs=>jR (ar a m);have au:∀a m,aH.loc m∉cR (S a):=fun a=>jL (c5 a).obj;have ll:∀a m p r,ct (.loc m) p ((S a).b++r)=(S a).b++ct (.loc m) p r:=fun a m p r=>Af (ar a m);induction t with
 |pair x y oV rr=>intro a p he;have af:=c5 a;simp only[T.mapO,hI,gd]at he;obtain⟨cQ,J,dm,U,rfl⟩:=he;refine bB.mk mixed fs yp zC (by simp) af.obj fun aU cH=>?_;unfold wy;simp[hu,au,cE,ar,cC,dh,ll];(with_reducible repeat' first|refine aj ?_|simp[hu,au,cE,ar,cC,ll]);refine fu.ob (oV a cQ J) af (c5 cQ.2) (ev _ _) aE aE (by simp[av]) ?_;simp[gH,ig,bR,ar,dh];(with_reducible repeat' first|refine aj ?_|simp[hu,au,cE,ar,cC,ll]);refine fu.ob (rr cQ.2 dm U) (c5 cQ.2) (c5 dm.2) (ev _ _) aE aE (by simp[av,dh]) ?_;simp[gH,ig,bR,ar,dh];(with_reducible repeat' first|refine aj ?_|refine aC (GP _ _) ?_|refine aD (GP _ _) ?_|simp[cE,ar,ll]);refine cG.at (S dm.2) (.inl rfl) (c5 _) (ev _ _) aE aE ?_;simp[cM,xw,aV,aY,aT,cE,ar]
 |var n=>
  intro a p he;have af:=c5 a;simp only[T.mapO]at he;refine bB.mk mixed fs yp zC (by simp) af.obj fun aU cH=>?_;unfold wy;simp[hu,au,cE,ar,dh,ll];(with_reducible repeat' first|refine aj ?_|simp[hu,au,cE,ar,ll]);refine cD.ob (aQ n a p he) af aE aE (by simp[av]) ?_;rintro r ah ⟨rfl,rfl⟩;refine⟨ev _ _,?_⟩;simp[gH,ig,bR,ar,hu,au,cE];(with_reducible repeat' first|refine aj ?_|refine aC (sX _) ?_|refine aD (sX _) ?_|simp[hu,au,cE,ar,ll]);all_goals refine cG.at (S p.2) (.inl rfl) (c5 _) (ev _ _) aE aE ?_
  all_goals simp[cM,xw,aV,aY,aT,cE,ar]
 |_=>intro a p he;have af:=c5 a;simp only[T.mapO,dt]at he;subst he;refine bB.mk mixed fs yp zC (by simp) af.obj fun aU cH=>?_;unfold wy;simp[hu,au,cE,ar,dh,ll];(with_reducible repeat' first|refine aj ?_|simp[hu,au,cE,ar,ll]);refine cG.at (S a) (.inl rfl) af (Same.refl _) aE aE ?_;simp[cM,xw,aV,aY,aT,cE,ar]
include c5 ev av dh in
theorem abN(gJ:α→Prop)(f:Int→α→Option (Int×α))(Bk:∀v a p,gJ a→f v a=some p→gJ p.2∧0≤p.1∧p.1≤1000000)(aQ:∀v a p,gJ a→f v a=some p→bB az g (.int .i64 v::dg) (S a) fun r ah=>r= .int .i64 p.1∧ah=S p.2)(t:T):
  ∀a p,gJ a→t.sizeO f a=some p→gJ p.2∧(0≤p.1∧p.1≤5001)∧bB az 239 [t.e,.func g dg] (S a) fun r ah=>r= .int .i64 p.1∧ah=S p.2:=by
 have ar:∀a m,Pv.look (.loc m) (S a).b=none:=fun a=>(c5 a).obj.1;have hu:∀a m cs,ct (.loc m) cs (S a).b=(S a).b++[(.loc m,cs)]:=fun a m cs=>jR (ar a m);have au:∀a m,aH.loc m∉cR (S a):=fun a=>jL (c5 a).obj;induction t with
 |pair x y oV rr=>
  intro a p hi he;have af:=c5 a;simp only[T.sizeO,hI]at he;obtain⟨cQ,J,U⟩:=he;obtain⟨i1,b8,g1⟩:=oV a cQ hi J;by_cases yD:5000<cQ.1
  ·rw[if_pos yD]at U;cases U;refine⟨i1,b8,?_⟩;refine bB.mk mixed fs wD xp (by simp) af.obj fun aU cH=>?_;unfold uO;simp[hu,au,cE,ar,dh];(with_reducible repeat' first|refine aj ?_|simp[hu,au,cE,ar]);refine cD.ob g1 af aE aE (by simp[av]) ?_;rintro r ah ⟨rfl,rfl⟩;refine⟨ev _ _,?_⟩;simp[gH,ig,bR,ar];((with_reducible repeat' first|((first|apply bI|apply bK|apply bJ)<;>intro h<;>try simp at h)|refine aj ?_|simp[hu,au,cE,ar])<;>(try contradiction));all_goals first|omega|(refine cG.at (S p.2) (.inl rfl) (c5 _) (ev _ _) aE aE ?_;simp[cM,uq,aV,aY,aT])
  ·rw[if_neg yD,gd]at U;obtain⟨dm,U,rfl⟩:=U;obtain⟨i2,b3,g2⟩:=rr cQ.2 dm i1 U;refine⟨i2,by simp only;split<;>omega,?_⟩;refine bB.mk mixed fs wD xp (by simp) af.obj fun aU cH=>?_;unfold uO;simp[hu,au,cE,ar,dh];(with_reducible repeat' first|((first|apply bI|apply bK|apply bJ)<;>intro h<;>try simp at h)|refine aj ?_|simp[hu,au,cE,ar]);refine cD.ob g1 af aE aE (by simp[av]) ?_;rintro r ah ⟨rfl,rfl⟩;refine⟨ev _ _,?_⟩;simp[gH,ig,bR,ar];((with_reducible repeat' first|refine aj ?_|simp[hu,au,cE,ar]|((first|apply bI|apply bK|apply bJ)<;>intro h<;>try simp at h))<;>(try exact cm));all_goals first|omega|skip
   rw[dh];refine cD.ob g2 (c5 cQ.2) aE aE (by simp[av]) ?_;rintro r s2 ⟨rfl,rfl⟩;refine⟨ev _ _,?_⟩;simp[gH,ig,bR,ar];(with_reducible repeat' first|refine aj ?_|simp[hu,au,cE,ar]);refine cG.at (S dm.2) (.inl rfl) (c5 _) (ev _ _) aE aE ?_;simp[cM,uq,aV,aY,aT]
 |var n=>intro a p hi he;have af:=c5 a;simp only[T.sizeO,gd]at he;obtain⟨cQ,J,rfl⟩:=he;have ae:=Bk n a cQ hi J;refine⟨ae.1,by simp only;split<;>omega,?_⟩;refine bB.mk mixed fs wD xp (by simp) af.obj fun aU cH=>?_;unfold uO;simp[hu,au,cE,ar,dh];(with_reducible repeat' first|refine aj ?_|simp[hu,au,cE,ar]);refine cD.ob (aQ n a cQ hi J) af aE aE (by simp[av]) ?_;rintro r ah ⟨rfl,rfl⟩;refine⟨ev _ _,?_⟩;simp[gH,ig,bR,ar];refine cG.at (S cQ.2) (.inl rfl) (c5 _) (ev _ _) aE aE ?_;simp[cM,uq,aV,aY,aT]
 |_=>intro a p hi he;have af:=c5 a;simp only[T.sizeO,dt]at he;subst he;refine⟨hi,by simp,?_⟩;refine bB.mk mixed fs wD xp (by simp) af.obj fun aU cH=>?_;unfold uO;simp[hu,au,cE,ar,dh];(with_reducible repeat' first|refine aj ?_|simp[hu,au,cE,ar]);refine cG.at (S a) (.inl rfl) af (Same.refl _) aE aE ?_;simp[cM,uq,aV,aY,aT]
end
end Go.Proofs.YtohaalphocaebaaGreat
namespace Go.Proofs.YtohaalphocaebaaGreat
open Go Go.Pv
theorem Kc{α β:Type}(k:aH):∀{l:List (aH×α)} {aX:List (aH×β)},l.map (·.1)=aX.map (·.1)→(Pv.look k l).isSome=(Pv.look k aX).isSome
 |[],[],_=>rfl
 |[],_::_,h=>by simp at h
 |_::_,[],h=>by simp at h
 |(i,x)::r,(j,y)::eD,h=>by
  simp only[gI,xX]at h;simp only[Pv.look];obtain⟨rfl,h⟩:=h;split
  ·rfl
  ·exact Kc k h
theorem _root_.Go.Pv.Same.keys{s ah:cF}(ae:s.b.map (·.1)=ah.b.map (·.1))(he:s.e.map (·.1)=ah.e.map (·.1)):Same s ah:=⟨fun k=>Kc k ae,fun k=>Kc k he⟩
section
variable {α:Type} (e:α→ai)
def rv(l:List (Int×α)):List ai:=jx (l.map fun x=>(x.1,e x.2))
theorem M3(k:Int):∀l:List (Int×α),wm k (l.map fun x=>(x.1,e x.2))=(tg k l).map e
 |[]=>rfl
 |(i,v)::r=>by
  simp only[gI,wm,tg];split
  ·rfl
  ·exact M3 k r
theorem Nb(k:Int)(v:α):∀l:List (Int×α),oD k (e v) (l.map fun x=>(x.1,e x.2))=if(tg k l).isSome then some ((eN k v l).map fun x=>(x.1,e x.2))else none
 |[]=>rfl
 |(i,w)::r=>by
  simp only[gI,oD,tg,eN];by_cases h:k=i
  ·subst h;simp
  ·simp only[h,if_false,Nb k v r];cases (tg k r).isSome<;>simp
theorem V0{k:Int}{v:α}:∀{l:List (Int×α)},tg k l=none→eN k v l=l++[(k,v)]
 |[],_=>rfl
 |(i,w)::r,h=>by
  simp only[tg]at h;split at h
  ·cases h
  ·rename_i cC;simp[eN,cC,V0 h]
theorem Kv(k:Int)(v:α)(l:List (Int×α)):oc .i (.int .i64 k) (e v) (rv e l)=some (rv e (eN k v l)):=by
 simp only[rv,TJ,Dt,Nb];cases h:tg k l with
 |some w=>simp
 |none=>simp[V0 h]
theorem Kr(f:aH→Option (List ai))(m:aH)(l:List (Int×α))(z:ai)(ok:Bool)(k:Int)(hm:f m=some (rv e l)):nq f .i z ok (.gmap m) (.int .i64 k)=some (True,if ok then .tuple [((tg k l).map e).getD z,.bool (tg k l).isSome]else((tg k l).map e).getD z):=by rw[afd f m _ z ok k hm,M3];cases tg k l<;>rfl
@[simp] theorem an7(l:List (Int×α)):hE (rv e l)=false:=rfl
theorem J3(S:aH→Prop)(he:∀x,aF S (e x))(l:List (Int×α)):aO S (rv e l):=by
 have:∀l:List (Int×α),aO S (j8 (l.map fun x=>(x.1,e x.2))):=by
  intro l;induction l with
  |nil=>simp[j8,aO]
  |cons x r bW=>simp[j8,aO,bW,he]
 simp[rv,jx,aO,this,aF]
end
def mI:List (Int×Int)→List ai:=rv (ai.int .i64)
def pL:List (Int×Bool)→List ai:=rv ai.bool
def sG:List (Int×T)→List ai:=rv T.e
@[simp] theorem an4(l):hE (mI l)=false:=rfl
@[simp] theorem an2(l):hE (pL l)=false:=rfl
@[simp] theorem an6(l):hE (sG l)=false:=rfl
@[simp] theorem amZ(S:aH→Prop)(l):aO S (mI l)=True:=eq_true (J3 _ S (fun _=>by simp) l)
@[simp] theorem amY(S:aH→Prop)(l):aO S (pL l)=True:=eq_true (J3 _ S (fun _=>by simp) l)
@[simp] theorem am0(S:aH→Prop)(l):aO S (sG l)=True:=eq_true (J3 _ S (fun _=>by simp) l)
@[simp] theorem anR(k v:Int)(l):oc .i (.int .i64 k) (.int .i64 v) (mI l)=some (mI (eN k v l)):=Kv _ k v l
@[simp] theorem anQ(k:Int)(v:Bool)(l):oc .i (.int .i64 k) (.bool v) (pL l)=some (pL (eN k v l)):=Kv _ k v l
@[simp] theorem anT(k:Int)(v:T)(l):oc .i (.int .i64 k) v.e (sG l)=some (sG (eN k v l)):=Kv _ k v l
def B8(ck:jo)(z:ai)(ok:Bool)(o:Option (List ai))(k:ai):Option (Prop×ai):=nq (fun _=>o) ck z ok (.gmap (.loc 0)) k
@[simp] theorem anN(f:aH→Option (List ai))(ck:jo)(z:ai)(ok:Bool)(m:aH)(k:ai):nq f ck z ok (.gmap m) k=B8 ck z ok (f m) k:=by simp only[B8,Tx]
theorem aff(f:aH→Option (List ai))(m:aH)(l:List (Int×Int))(ok:Bool)(k:Int)(hm:f m=some (mI l)):nq f .i (.int .i64 0) ok (.gmap m) (.int .i64 k)=some (True,if ok then .tuple [.int .i64 (iI l k),.bool (tg k l).isSome]else .int .i64 (iI l k)):=by rw[Kr _ f m l _ ok k hm];unfold iI;cases tg k l<;>rfl
theorem afe(f:aH→Option (List ai))(m:aH)(l:List (Int×Bool))(ok:Bool)(k:Int)(hm:f m=some (pL l)):nq f .i (.bool false) ok (.gmap m) (.int .i64 k)=some (True,if ok then .tuple [.bool ((tg k l).getD false),.bool (tg k l).isSome]else .bool ((tg k l).getD false)):=by rw[Kr _ f m l _ ok k hm];cases tg k l<;>rfl
def Mc:ai:= .agg [.int .i64 0,.int .i64 0,.str [],.slice 4 .nil []]
def sT(o:Option T):ai:=(o.map T.e).getD Mc
theorem afg(f:aH→Option (List ai))(m:aH)(l:List (Int×T))(ok:Bool)(k:Int)(hm:f m=some (sG l)):nq f .i (.agg [.int .i64 0,.int .i64 0,.str [],.slice 4 .nil []]) ok (.gmap m) (.int .i64 k)=some (True,if ok then .tuple [sT (tg k l),.bool (tg k l).isSome]else sT (tg k l)):=by rw[Kr _ f m l _ ok k hm];rfl
@[simp] theorem anL(l:List (Int×Int))(ok:Bool)(k:Int):B8 .i (.int .i64 0) ok (some (mI l)) (.int .i64 k)=some (True,if ok then .tuple [.int .i64 (iI l k),.bool (tg k l).isSome]else .int .i64 (iI l k)):=aff _ _ l ok k rfl
@[simp] theorem anK(l:List (Int×Bool))(ok:Bool)(k:Int):B8 .i (.bool false) ok (some (pL l)) (.int .i64 k)=some (True,if ok then .tuple [.bool ((tg k l).getD false),.bool (tg k l).isSome]else .bool ((tg k l).getD false)):=afe _ _ l ok k rfl
@[simp] theorem anM(l:List (Int×T))(ok:Bool)(k:Int):B8 .i (.agg [.int .i64 0,.int .i64 0,.str [],.slice 4 .nil []]) ok (some (sG l)) (.int .i64 k)=some (True,if ok then .tuple [sT (tg k l),.bool (tg k l).isSome]else sT (tg k l)):=afg _ _ l ok k rfl
@[simp] theorem apD(o:Option T):dO (sT o)=(o.getD .nil).e:=by cases o<;>simp[sT,Mc,dO,df]
@[simp] theorem ano(S:aH→Prop)(o:Option T):aF S (sT o)=True:=by cases o<;>simp[sT,Mc,aF,aO]
@[simp] theorem anz:[ai.hdm 0 []]=jx []:=rfl
def ay:ai:= .eptr (.agg [.gmap (.obj 702),.gmap (.obj 703),.gmap (.obj 704),.gmap (.obj 705),.gmap (.obj 706),.gmap (.obj 707)])
def ax(c:bm):List (aH×List ai):=[(.obj 702,mI c.up),(.obj 703,sG c.shape),(.obj 704,pL c.shaped),(.obj 705,mI c.color),(.obj 706,mI c.size),(.obj 707,sG c.full)]
def aM(c:bm):cF:=⟨ax c,[]⟩
theorem ca(c:bm):dG (aM c):=by unfold aM ax;exact dG.of ⟨by intro m;simp[Pv.look],by intro m;simp[Pv.look]⟩ (by simp) (by simp)
theorem Dj(c cd:bm):Same (aM c) (aM cd):=by
 refine⟨fun k=>?_,fun k=>rfl⟩;simp only[aM,ax,Pv.look];repeat' split
 all_goals rfl
theorem qZ(c:bm)(v r:Int)(cd:bm)(he:rt c v=some (r,cd)):bB az 196 [ay,.int .i64 v] (aM c) fun eD ah=>eD= .int .i64 r∧ah=aM cd:=by
 have af:=ca c;have fw:=ca cd;have ev:=Dj c cd;simp only[rt,gd,jm]at he;obtain⟨⟨ep,m1⟩,he,rfl,rfl⟩:=he;unfold aM ax at af fw ev⊢;simp only at fw ev⊢;unfold ay;refine bB.mk mixed jg ZG af3 (by simp) af.obj fun aU cH=>?_;unfold NU;simp;(with_reducible repeat' first|((first|apply bI|apply bK|apply bJ)<;>intro h<;>try simp at h)|refine aj ?_|simp);all_goals
  refine nN (α:=Nat×Int×List (Int×Int)) (fun a=>⟨[(0,ay),(1,.int .i64 a.2.1)],[(.obj 702,mI a.2.2),(.obj 703,sG c.shape),(.obj 704,pL c.shaped),(.obj 705,mI c.color),(.obj 706,mI c.size),(.obj 707,sG c.full)],[],0,[.obj 702,.obj 703,.obj 704,.obj 705,.obj 706,.obj 707]⟩) (fun a=>a.1) (fun a=>vN a.1 a.2.2 a.2.1=some (ep,m1)) (v.toNat+1,v,x5 v c.up) (by simp[x5,h,ay];exact⟨by simp[fresh,aO,aF,cl,inObs,Pv.look,ay],eF (by simp[fresh,aO,aF,cl,inObs,Pv.look,ay]),eG (by simp[fresh,aO,aF,eb,inObs,Pv.look,ay]),by simp⟩) he ?_
  rintro⟨n,u,m⟩ ag ae
  simp only at ag ae⊢
  cases n with
  |zero=>simp[vN]at ag
  |succ n=>
   simp only[vN]at ag
   simp[ay]
   (with_reducible repeat' first|((first|apply bI|apply bK|apply bJ)<;>intro h<;>try simp at h)|refine aj ?_|simp)
   ·rw[if_neg h]at ag
    refine bT.whl (n,iI (eN u (iI m (iI m u)) m) u,eN u (iI m (iI m u)) m) (Nat.lt_succ_self n) ag ?_
    simp[ay]
    exact⟨by simp[fresh,aO,aF,cl,inObs,Pv.look,ay],eF (by simp[fresh,aO,aF,cl,inObs,Pv.look,ay]),eG (by simp[fresh,aO,aF,eb,inObs,Pv.look,ay]),by simp⟩
   ·rw[if_pos h]at ag
    cases ag
    refine cG.at _ (.inl rfl) fw ev aE aE ?_
    simp[cM,UA,aV,aY,aT]
end Go.Proofs.YtohaalphocaebaaGreat
namespace Go.Proofs.YtohaalphocaebaaGreat
open Go Go.Pv
theorem abB(c:bm)(v r:Int)(cd:bm)(he:rt c v=some (r,cd)):bB az 243 [.int .i64 v,.eptr ay] (aM c) fun eD ah=>eD= .tuple []∧ah=aM cd:=by have af:=ca c;simp only[aM,ax]at af⊢;refine bB.mk mixed jg ZD af0 (by simp) af.obj fun aU cH=>?_;unfold NR;simp[ay];(refine cD.ob (qZ c v r cd he) (by first|exact ca _|exact ca ‹_› _) (by simp only[aM,ax,ay,bO,bS];exact aE) (by simp only[aM,ax,ay,bO,bS];exact aE) (by simp[inObs,Pv.look,aM,ax,ay]) ?_;rintro r ah ⟨rfl,rfl⟩;refine⟨(Same.keys (by simp[aM,ax,ay]) (by simp[aM,ax,ay])),?_⟩;simp[bR,aM,ax,ay]);(refine cG.at (aM cd) (by simp) (by first|exact ca _|exact ca ‹_› _) (Same.keys (by simp[aM,ax,ay]) (by simp[aM,ax,ay])) (by simp only[aM,ax,ay,bO,bS];exact aE) (by simp only[aM,ax,ay,bO,bS];exact aE) ?_;simp[cM,Uy,aV,aY,aT,inObs,Pv.look,aM,ax,ay])
theorem IG(c:bm)(t:T)(cd:bm)(he:zo t c=some cd):bB az 197 [ay,t.e] (aM c) fun eD ah=>eD= .tuple []∧ah=aM cd:=by
 have af:=ca c;have key:=IB aM ca Dj 243 [.eptr ay] (fun a=>by simp[aM,ax,ay,inObs,Pv.look]) rfl (fun(v:Int) (c:bm)=>(rt c v).map Prod.snd) (fun v a bh h=>by rw[gd]at h;obtain⟨⟨r,bL⟩,J,rfl⟩:=h;exact abB a v r bL J) t c cd he
 simp only[aM,ax]at af⊢;refine bB.mk mixed jg ZC afZ (by simp) af.obj fun aU cH=>?_;unfold NQ;simp[ay];(refine cD.ob (key) (by first|exact ca _|exact ca ‹_› _) (by simp only[aM,ax,ay,bO,bS];exact aE) (by simp only[aM,ax,ay,bO,bS];exact aE) (by simp[inObs,Pv.look,aM,ax,ay]) ?_;rintro r ah ⟨rfl,rfl⟩;refine⟨(Same.keys (by simp[aM,ax,ay]) (by simp[aM,ax,ay])),?_⟩;simp[bR,aM,ax,ay]);(refine cG.at (aM cd) (by simp) (by first|exact ca _|exact ca ‹_› _) (Same.keys (by simp[aM,ax,ay]) (by simp[aM,ax,ay])) (by simp only[aM,ax,ay,bO,bS];exact aE) (by simp only[aM,ax,ay,bO,bS];exact aE) ?_;simp[cM,Ux,aV,aY,aT,inObs,Pv.look,aM,ax,ay])
def eo(K:Nat)(a:bm×List (Int×Bool)):cF:=⟨ax a.1++[(.obj K,pL a.2)],[]⟩
def fQ(K:Nat)(a:tc):cF:=⟨ax a.c++[(.obj K,pL a.seen),(.obj 712,[.bool a.found])],[]⟩
def xl(K:Nat):Prop:=K=715∨K=716
theorem hS{K:Nat}(c1:xl K)(a):dG (eo K a):=by unfold eo ax;rcases c1 with rfl|rfl;all_goals exact dG.of ⟨by intro m;simp[Pv.look],by intro m;simp[Pv.look]⟩ (by simp) (by simp)
theorem pe{K:Nat}(c1:xl K)(a):dG (fQ K a):=by unfold fQ ax;rcases c1 with rfl|rfl;all_goals exact dG.of ⟨by intro m;simp[Pv.look],by intro m;simp[Pv.look]⟩ (by simp) (by simp)
theorem G4{K:Nat}(a b):Same (fQ K a) (fQ K b):=by
 refine⟨fun k=>?_,fun k=>rfl⟩;simp only[fQ,ax,bO,bS,Pv.look];repeat' split
 all_goals rfl
theorem abH{K:Nat}(c1:xl K)(n:Nat)(x:Int)(vc:∀t c seen a,o3 n x t c seen=some a→bB az 244 [ay,t.e,.int .i64 x,.gmap (.obj K)] (eo K (c,seen)) fun r ah=>r= .bool a.found∧ah=eo K (a.c,a.seen))
  (v:Int) (a bh:tc) (he:vM (o3 n x) x v a=some bh):bB az 273 [.int .i64 v,.eptr ay,.ptr (.obj 712) 0,.eptr (.int .i64 x),.eptr (.gmap (.obj K))] (fQ K a) fun r ah=>r= .tuple []∧ah=fQ K bh:=by
 have af:=pe c1 a;simp only[vM,hI]at he;obtain⟨⟨r,bL⟩,J,U⟩:=he;simp only at U;have ab:=c1;rcases ab with rfl|rfl;all_goals
  simp only[fQ,ax,bO,bS]at af⊢
  refine bB.mk mixed jg ZF af2 (by simp) af.obj fun aU cH=>?_;unfold NT
  simp[ay]
  (refine cD.ob (qZ a.c v r bL J) (by first|exact ca _|exact ca ‹_› _) (by simp only[aM,ax,ay,bO,bS];exact aE) (by simp only[aM,ax,ay,bO,bS];exact aE) (by simp[inObs,Pv.look,aM,ax,ay]) ?_;rintro r ah ⟨rfl,rfl⟩;refine⟨(Same.keys (by simp[aM,ax,ay]) (by simp[aM,ax,ay])),?_⟩;simp[bR,aM,ax,ay])
  obtain⟨ac,rL,Hg⟩:=a
  cases Hg with
  |true=>
   simp at U;subst U
   (with_reducible repeat' first|refine aj ?_|simp)
   (refine cG.at (fQ _ ⟨bL,rL,true⟩) (by simp) (by first|exact pe _|exact pe ‹_› _) (Same.keys (by simp[fQ,ax,ay]) (by simp[fQ,ax,ay])) (by simp only[fQ,ax,ay,bO,bS];exact aE) (by simp only[fQ,ax,ay,bO,bS];exact aE) ?_;simp[cM,zL,aV,aY,aT,inObs,Pv.look,fQ,ax,ay])
  |false=>
   by_cases ad:r=x
   ·simp[ad]at U;subst U
    (with_reducible repeat' first|refine aj ?_|simp[ad])
    (refine cG.at (fQ _ ⟨bL,rL,true⟩) (by simp) (by first|exact pe _|exact pe ‹_› _) (Same.keys (by simp[fQ,ax,ay]) (by simp[fQ,ax,ay])) (by simp only[fQ,ax,ay,bO,bS];exact aE) (by simp only[fQ,ax,ay,bO,bS];exact aE) ?_;simp[cM,zL,aV,aY,aT,inObs,Pv.look,fQ,ax,ay])
   ·have hY:(r==x)=false:=by simp[ad]
    simp only[ad,gr,or_self,if_false]at U
    cases oR:(tg r rL).getD false with
    |true=>
     simp[oR]at U;subst U
     (with_reducible repeat' first|refine aj ?_|simp[hY,oR])
     (refine cG.at (fQ _ ⟨bL,rL,false⟩) (by simp) (by first|exact pe _|exact pe ‹_› _) (Same.keys (by simp[fQ,ax,ay]) (by simp[fQ,ax,ay])) (by simp only[fQ,ax,ay,bO,bS];exact aE) (by simp only[fQ,ax,ay,bO,bS];exact aE) ?_;simp[cM,zL,aV,aY,aT,inObs,Pv.look,fQ,ax,ay])
    |false=>
     cases gu:bL.shd r with
     |false=>
      have Jv:(tg r bL.shaped).getD false=false:=gu
      simp[oR,gu]at U;subst U
      (with_reducible repeat' first|refine aj ?_|simp[hY,oR,Jv])
      (refine cG.at (fQ _ ⟨bL,rL,false⟩) (by simp) (by first|exact pe _|exact pe ‹_› _) (Same.keys (by simp[fQ,ax,ay]) (by simp[fQ,ax,ay])) (by simp only[fQ,ax,ay,bO,bS];exact aE) (by simp only[fQ,ax,ay,bO,bS];exact aE) ?_;simp[cM,zL,aV,aY,aT,inObs,Pv.look,fQ,ax,ay])
     |true=>
      have Jv:(tg r bL.shaped).getD false=true:=gu
      simp[oR,gu]at U
      have aI:=vc _ _ _ _ U
      (with_reducible repeat' first|refine aj ?_|simp[hY,oR,Jv])
      (refine fu.ob (aI) (by first|exact hS _|exact hS ‹_› _) (by first|exact hS _|exact hS ‹_› _) (Same.keys (by simp[eo,ax,ay]) (by simp[eo,ax,ay])) (by simp only[eo,ax,ay,bO,bS];exact aE) (by simp only[eo,ax,ay,bO,bS];exact aE) (by simp[inObs,Pv.look,eo,ax,ay]) ?_;simp[bR,eo,ax,ay])
      (with_reducible repeat' first|refine aj ?_|simp)
      (refine cG.at (fQ _ bh) (by simp) (by first|exact pe _|exact pe ‹_› _) (Same.keys (by simp[fQ,ax,ay]) (by simp[fQ,ax,ay])) (by simp only[fQ,ax,ay,bO,bS];exact aE) (by simp only[fQ,ax,ay,bO,bS];exact aE) ?_;simp[cM,zL,aV,aY,aT,inObs,Pv.look,fQ,ax,ay])
theorem Ec{K:Nat}(c1:xl K)(x:Int)(n:Nat):∀(t:T) (c:bm) (seen:List (Int×Bool)) (a:tc),o3 n x t c seen=some a→bB az 244 [ay,t.e,.int .i64 x,.gmap (.obj K)] (eo K (c,seen)) fun r ah=>r= .bool a.found∧ah=eo K (a.c,a.seen):=by
 induction n with
 |zero=>intro t c seen a h;simp[o3]at h
 |succ n bW=>
  intro t c seen a h;simp only[o3]at h;have af:=hS c1 (c,seen);have key:=IB (fQ K) (pe c1) G4 273 [.eptr ay,.ptr (.obj 712) 0,.eptr (.int .i64 x),.eptr (.gmap (.obj K))] (fun a=>by rcases c1 with rfl|rfl<;>simp[fQ,ax,ay,inObs,Pv.look]) rfl (vM (o3 n x) x) (fun v a bh h=>abH c1 n x bW v a bh h) t ⟨c,seen,false⟩ a h;have ab:=c1;rcases ab with rfl|rfl;all_goals
   simp only[eo,ax,bO,bS]at af⊢
   refine bB.mk mixed jg ZE af1 (by simp) af.obj fun aU cH=>?_;unfold NS
   simp[ay]
   refine cD.new key (pe c1 _) (by simp only[fQ,ax,ay,bO,bS];exact aE) (by simp only[fQ,ax,ay,bO,bS];exact aE) (by simp[inObs,Pv.look,fQ,ax,ay]) ?_
   rintro r ah ⟨rfl,rfl⟩
   refine⟨fun m hm=>.inl ⟨?_,G4 _ _⟩,?_⟩
   ·exact((G4 _ _).inObs _).2 hm
   simp[bR,fQ,ax]
   (with_reducible repeat' first|refine aj ?_|simp)
   (refine cG.at (eo _ (a.c,a.seen)) (by simp) (by first|exact hS _|exact hS ‹_› _) (Same.keys (by simp[eo,ax,ay]) (by simp[eo,ax,ay])) (by simp only[eo,ax,ay,bO,bS];exact aE) (by simp only[eo,ax,ay,bO,bS];exact aE) ?_;simp[cM,Uz,aV,aY,aT,inObs,Pv.look,eo,ax,ay])
@[simp] theorem Ke:pL []=jx []:=rfl
@[simp] theorem apF(t:T):sT (some t)=t.e:=rfl
@[simp] theorem apE:sT none= .agg [.int .i64 0,.int .i64 0,.str [],.slice 4 .nil []]:=rfl
theorem QB(n:Nat)(x:Int)(t:T)(c:bm)(p:Bool×bm)(he:tW n x t c=some p):bB az 245 [ay,.int .i64 x,t.e] (aM c) fun r ah=>r= .bool p.1∧ah=aM p.2:=by have af:=ca c;simp only[tW,gd]at he;obtain⟨a,J,rfl⟩:=he;have c1:xl 715:= .inl rfl;have key:=Ec c1 x n t (c.know x t) [] a J;simp only[aM,ax]at af⊢;refine bB.mk mixed jg ZB afY (by simp) af.obj fun aU cH=>?_;unfold NP;simp[ay];(refine cD.ob (key) (by first|exact hS _|exact hS ‹_› _) (by simp only[eo,ax,ay,bm.know,bO,bS];exact aE) (by simp only[eo,ax,ay,bm.know,bO,bS];exact aE) (by simp[inObs,Pv.look,eo,ax,ay,bm.know]) ?_;rintro r ah ⟨rfl,rfl⟩;refine⟨(Same.keys (by simp[eo,ax,ay,bm.know]) (by simp[eo,ax,ay,bm.know])),?_⟩;simp[bR,eo,ax,ay,bm.know]);(refine cG.at (aM a.c) (by simp) (by first|exact ca _|exact ca ‹_› _) (Same.keys (by simp[aM,ax,ay]) (by simp[aM,ax,ay])) (by simp only[aM,ax,ay,bO,bS];exact aE) (by simp only[aM,ax,ay,bO,bS];exact aE) ?_;simp[cM,Uw,aV,aY,aT,inObs,Pv.look,aM,ax,ay])
set_option maxRecDepth 4000 in
theorem Qz(n:Nat):∀(a b:T) (c:bm) (p:Bool×bm),gn n a b c=some p→bB az 198 [ay,a.e,b.e] (aM c) fun r ah=>r= .bool p.1∧ah=aM p.2:=by
 induction n with
 |zero=>intro a b c p h;simp[gn]at h
 |succ n bW=>
  intro a b c p he;have af:=ca c;have BJ:∀i j,a= .var i→b= .var j→bB az 198 [ay,a.e,b.e] (aM c) fun r ah=>r= .bool p.1∧ah=aM p.2:=by
   rintro i j rfl rfl;simp only[gn,hI]at he;obtain⟨⟨x,bL⟩,J,⟨y,cn⟩,U,ao⟩:=he;simp only at U ao;simp only[aM,ax]at af⊢;refine bB.mk mixed jg wC xo (by simp) af.obj fun aU cH=>?_;unfold uN;simp[ay];(refine cD.ob (qZ c i x bL J) (by first|exact ca _|exact ca ‹_› _) (by simp only[aM,ax,ay,bO,bS];exact aE) (by simp only[aM,ax,ay,bO,bS];exact aE) (by simp[inObs,Pv.look,aM,ax,ay]) ?_;rintro r ah ⟨rfl,rfl⟩;refine⟨(Same.keys (by simp[aM,ax,ay]) (by simp[aM,ax,ay])),?_⟩;simp[bR,aM,ax,ay]);(with_reducible repeat' first|refine aj ?_|simp);(refine cD.ob (qZ bL j y cn U) (by first|exact ca _|exact ca ‹_› _) (by simp only[aM,ax,ay,bO,bS];exact aE) (by simp only[aM,ax,ay,bO,bS];exact aE) (by simp[inObs,Pv.look,aM,ax,ay]) ?_;rintro r ah ⟨rfl,rfl⟩;refine⟨(Same.keys (by simp[aM,ax,ay]) (by simp[aM,ax,ay])),?_⟩;simp[bR,aM,ax,ay]);by_cases hB:x=y
   ·rw[if_pos hB]at ao;cases ao;(with_reducible repeat' first|refine aj ?_|simp[hB]);(refine cG.at (aM cn) (by simp) (by first|exact ca _|exact ca ‹_› _) (Same.keys (by simp[aM,ax,ay]) (by simp[aM,ax,ay])) (by simp only[aM,ax,ay,bO,bS];exact aE) (by simp only[aM,ax,ay,bO,bS];exact aE) ?_;simp[cM,nt,aV,aY,aT,inObs,Pv.look,aM,ax,ay])
   ·rw[if_neg hB]at ao;have y6:(x==y)=false:=by simp[hB]
    have QV:xl 715:= .inl rfl;have acj:xl 716:= .inr rfl;obtain⟨u,v,y3,aZ⟩:∃u v,((u=y∧v=x∧y<x)∨(u=x∧v=y∧¬y<x))∧qU (gn n) n u v (cn.join u v)=some p:=by
     by_cases bq:y<x
     ·rw[if_pos bq]at ao;exact⟨y,x,.inl ⟨rfl,rfl,bq⟩,ao⟩
     ·rw[if_neg bq]at ao;exact⟨x,y,.inr ⟨rfl,rfl,bq⟩,ao⟩
    clear ao;obtain⟨d,aK⟩:∃d,d=cn.join u v:=⟨_,rfl⟩;have e9:d.up=eN v u cn.up:=by rw[aK];rfl
    have eI:d.shape=cn.shape:=by rw[aK];rfl
    have gp:d.shaped=cn.shaped:=by rw[aK];rfl
    have hf:d.color=cn.color:=by rw[aK];rfl
    have hg:d.size=cn.size:=by rw[aK];rfl
    have hh:d.full=cn.full:=by rw[aK];rfl
    rw[←aK]at aZ;simp only[qU]at aZ;cases aJ:d.shd v with
    |false=>
     have lL:(tg v cn.shaped).getD false=false:=by rw[←gp];exact aJ
     rw[if_pos aJ]at aZ;cases hu:d.shd u with
     |false=>
      have tM:(tg u cn.shaped).getD false=false:=by rw[←gp];exact hu
      rw[if_pos hu]at aZ;cases aZ;rcases y3 with⟨rfl,rfl,bq⟩|⟨rfl,rfl,bq⟩;all_goals
       (with_reducible repeat' first|refine aj ?_|simp[y6,bq,lL,tM])
       (refine cG.at (aM d) (by simp) (by first|exact ca _|exact ca ‹_› _) (Same.keys (by simp[aM,ax,ay,e9,eI,gp,hf,hg,hh]) (by simp[aM,ax,ay,e9,eI,gp,hf,hg,hh])) (by simp only[aM,ax,ay,e9,eI,gp,hf,hg,hh,bO,bS];exact aE) (by simp only[aM,ax,ay,e9,eI,gp,hf,hg,hh,bO,bS];exact aE) ?_;simp[cM,nt,aV,aY,aT,inObs,Pv.look,aM,ax,ay,e9,eI,gp,hf,hg,hh])
     |true=>
      have tM:(tg u cn.shaped).getD false=true:=by rw[←gp];exact hu
      rw[if_neg (by simp[hu]),gd]at aZ;obtain⟨a,b1,rfl⟩:=aZ;have key:=Ec QV u n _ _ _ _ b1;rw[show d.shp u=(tg u cn.shape).getD .nil from by rw[←eI];rfl]at key;rcases y3 with⟨rfl,rfl,bq⟩|⟨rfl,rfl,bq⟩;all_goals
       (with_reducible repeat' first|refine aj ?_|simp[y6,bq,lL,tM])
       (refine cD.ob (key) (by first|exact hS _|exact hS ‹_› _) (by simp only[eo,ax,ay,e9,eI,gp,hf,hg,hh,bO,bS];exact aE) (by simp only[eo,ax,ay,e9,eI,gp,hf,hg,hh,bO,bS];exact aE) (by simp[inObs,Pv.look,eo,ax,ay,e9,eI,gp,hf,hg,hh]) ?_;rintro r ah ⟨rfl,rfl⟩;refine⟨(Same.keys (by simp[eo,ax,ay,e9,eI,gp,hf,hg,hh]) (by simp[eo,ax,ay,e9,eI,gp,hf,hg,hh])),?_⟩;simp[bR,eo,ax,ay,e9,eI,gp,hf,hg,hh])
       (with_reducible repeat' first|refine aj ?_|simp)
       (refine cG.at (aM a.c) (by simp) (by first|exact ca _|exact ca ‹_› _) (Same.keys (by simp[aM,ax,ay]) (by simp[aM,ax,ay])) (by simp only[aM,ax,ay,bO,bS];exact aE) (by simp only[aM,ax,ay,bO,bS];exact aE) ?_;simp[cM,nt,aV,aY,aT,inObs,Pv.look,aM,ax,ay])
    |true=>
     have lL:(tg v cn.shaped).getD false=true:=by rw[←gp];exact aJ
     rw[if_neg (by simp[aJ])]at aZ;rw[show d.shp v=(tg v cn.shape).getD .nil from by rw[←eI];rfl]at aZ;cases hu:d.shd u with
     |false=>
      have tM:(tg u cn.shaped).getD false=false:=by rw[←gp];exact hu
      rw[if_pos hu]at aZ;have key:=QB n u _ d p aZ;cases aN:tg v cn.shape;all_goals
       rw[aN]at key
       simp only[jk,jj]at key
       rcases y3 with⟨rfl,rfl,bq⟩|⟨rfl,rfl,bq⟩
       all_goals
        (with_reducible repeat' first|refine aj ?_|simp[y6,bq,lL,tM,aN])
        (refine cD.ob (key) (by first|exact ca _|exact ca ‹_› _) (by simp only[aM,ax,ay,e9,eI,gp,hf,hg,hh,bO,bS];exact aE) (by simp only[aM,ax,ay,e9,eI,gp,hf,hg,hh,bO,bS];exact aE) (by simp[inObs,Pv.look,aM,ax,ay,e9,eI,gp,hf,hg,hh]) ?_;rintro r ah ⟨rfl,rfl⟩;refine⟨(Same.keys (by simp[aM,ax,ay,e9,eI,gp,hf,hg,hh]) (by simp[aM,ax,ay,e9,eI,gp,hf,hg,hh])),?_⟩;simp[bR,aM,ax,ay,e9,eI,gp,hf,hg,hh])
        (with_reducible repeat' first|refine aj ?_|simp)
        (refine cG.at (aM p.2) (by simp) (by first|exact ca _|exact ca ‹_› _) (Same.keys (by simp[aM,ax,ay]) (by simp[aM,ax,ay])) (by simp only[aM,ax,ay,bO,bS];exact aE) (by simp only[aM,ax,ay,bO,bS];exact aE) ?_;simp[cM,nt,aV,aY,aT,inObs,Pv.look,aM,ax,ay])
     |true=>
      have tM:(tg u cn.shaped).getD false=true:=by rw[←gp];exact hu
      rw[if_neg (by simp[hu]),hI]at aZ;obtain⟨a,b1,c6⟩:=aZ;have key:=Ec QV u n _ _ _ _ b1;obtain⟨o,aN⟩:∃o,tg v cn.shape=o:=⟨_,rfl⟩;rw[aN]at key c6;obtain⟨ac,rL,Hg⟩:=a;cases Hg with
      |true=>
       simp at c6;subst c6;cases o;all_goals
        simp only[jk,jj]at key
        rcases y3 with⟨rfl,rfl,bq⟩|⟨rfl,rfl,bq⟩
        all_goals
         (with_reducible repeat' first|refine aj ?_|simp[y6,bq,lL,tM,aN])
         (refine fu.ob (key) (by first|exact hS _|exact hS ‹_› _) (by first|exact hS _|exact hS ‹_› _) (Same.keys (by simp[eo,ax,ay,e9,eI,gp,hf,hg,hh]) (by simp[eo,ax,ay,e9,eI,gp,hf,hg,hh])) (by simp only[eo,ax,ay,e9,eI,gp,hf,hg,hh,bO,bS];exact aE) (by simp only[eo,ax,ay,e9,eI,gp,hf,hg,hh,bO,bS];exact aE) (by simp[inObs,Pv.look,eo,ax,ay,e9,eI,gp,hf,hg,hh]) ?_;simp[bR,eo,ax,ay,e9,eI,gp,hf,hg,hh])
         (with_reducible repeat' first|refine aj ?_|simp)
         (refine cG.at (aM ac) (by simp) (by first|exact ca _|exact ca ‹_› _) (Same.keys (by simp[aM,ax,ay]) (by simp[aM,ax,ay])) (by simp only[aM,ax,ay,bO,bS];exact aE) (by simp only[aM,ax,ay,bO,bS];exact aE) ?_;simp[cM,nt,aV,aY,aT,inObs,Pv.look,aM,ax,ay])
      |false=>
       simp only[gr,if_false,hI]at c6;obtain⟨b,dP,hy⟩:=c6;have vn:=Ec acj u n _ _ _ _ dP;rw[show ac.shp u=(tg u ac.shape).getD .nil from rfl]at vn;obtain⟨Hm,alg,XP⟩:=b;cases XP with
       |true=>
        simp at hy;subst hy;cases o;all_goals
         simp only[jk,jj]at key
         rcases y3 with⟨rfl,rfl,bq⟩|⟨rfl,rfl,bq⟩
         all_goals
          (with_reducible repeat' first|refine aj ?_|simp[y6,bq,lL,tM,aN])
          (refine fu.ob (key) (by first|exact hS _|exact hS ‹_› _) (by first|exact hS _|exact hS ‹_› _) (Same.keys (by simp[eo,ax,ay,e9,eI,gp,hf,hg,hh]) (by simp[eo,ax,ay,e9,eI,gp,hf,hg,hh])) (by simp only[eo,ax,ay,e9,eI,gp,hf,hg,hh,bO,bS];exact aE) (by simp only[eo,ax,ay,e9,eI,gp,hf,hg,hh,bO,bS];exact aE) (by simp[inObs,Pv.look,eo,ax,ay,e9,eI,gp,hf,hg,hh]) ?_;simp[bR,eo,ax,ay,e9,eI,gp,hf,hg,hh])
          (with_reducible repeat' first|refine aj ?_|simp)
          (refine fu.ob (vn) (by first|exact hS _|exact hS ‹_› _) (by first|exact hS _|exact hS ‹_› _) (Same.keys (by simp[eo,ax,ay]) (by simp[eo,ax,ay])) (by simp only[eo,ax,ay,bO,bS];exact aE) (by simp only[eo,ax,ay,bO,bS];exact aE) (by simp[inObs,Pv.look,eo,ax,ay]) ?_;simp[bR,eo,ax,ay])
          (with_reducible repeat' first|refine aj ?_|simp)
          (refine cG.at (aM Hm) (by simp) (by first|exact ca _|exact ca ‹_› _) (Same.keys (by simp[aM,ax,ay]) (by simp[aM,ax,ay])) (by simp only[aM,ax,ay,bO,bS];exact aE) (by simp only[aM,ax,ay,bO,bS];exact aE) ?_;simp[cM,nt,aV,aY,aT,inObs,Pv.look,aM,ax,ay])
       |false=>
        simp only[gr,if_false]at hy;have J0:=bW _ _ _ _ hy;rw[show Hm.shp u=(tg u Hm.shape).getD .nil from rfl]at J0;cases o;all_goals
         simp only[jk,jj]at key J0
         rcases y3 with⟨rfl,rfl,bq⟩|⟨rfl,rfl,bq⟩
         all_goals
          (with_reducible repeat' first|refine aj ?_|simp[y6,bq,lL,tM,aN])
          (refine fu.ob (key) (by first|exact hS _|exact hS ‹_› _) (by first|exact hS _|exact hS ‹_› _) (Same.keys (by simp[eo,ax,ay,e9,eI,gp,hf,hg,hh]) (by simp[eo,ax,ay,e9,eI,gp,hf,hg,hh])) (by simp only[eo,ax,ay,e9,eI,gp,hf,hg,hh,bO,bS];exact aE) (by simp only[eo,ax,ay,e9,eI,gp,hf,hg,hh,bO,bS];exact aE) (by simp[inObs,Pv.look,eo,ax,ay,e9,eI,gp,hf,hg,hh]) ?_;simp[bR,eo,ax,ay,e9,eI,gp,hf,hg,hh])
          (with_reducible repeat' first|refine aj ?_|simp)
          (refine fu.ob (vn) (by first|exact hS _|exact hS ‹_› _) (by first|exact hS _|exact hS ‹_› _) (Same.keys (by simp[eo,ax,ay]) (by simp[eo,ax,ay])) (by simp only[eo,ax,ay,bO,bS];exact aE) (by simp only[eo,ax,ay,bO,bS];exact aE) (by simp[inObs,Pv.look,eo,ax,ay]) ?_;simp[bR,eo,ax,ay])
          (with_reducible repeat' first|refine aj ?_|simp)
          (refine fu.ob (J0) (by first|exact ca _|exact ca ‹_› _) (by first|exact ca _|exact ca ‹_› _) (Same.keys (by simp[aM,ax,ay]) (by simp[aM,ax,ay])) (by simp only[aM,ax,ay,bO,bS];exact aE) (by simp only[aM,ax,ay,bO,bS];exact aE) (by simp[inObs,Pv.look,aM,ax,ay]) ?_;simp[bR,aM,ax,ay])
          (with_reducible repeat' first|refine aj ?_|simp)
          (refine cG.at (aM p.2) (by simp) (by first|exact ca _|exact ca ‹_› _) (Same.keys (by simp[aM,ax,ay]) (by simp[aM,ax,ay])) (by simp only[aM,ax,ay,bO,bS];exact aE) (by simp only[aM,ax,ay,bO,bS];exact aE) ?_;simp[cM,nt,aV,aY,aT,inObs,Pv.look,aM,ax,ay])
  have aJ:∀i,a= .var i→b.kind≠1→bB az 198 [ay,a.e,b.e] (aM c) fun r ah=>r= .bool p.1∧ah=aM p.2:=by
   rintro i rfl ae;have u1:((rt c i).bind fun p=>if p.2.shd p.1=false then tW n p.1 b p.2 else gn n (p.2.shp p.1) b p.2)=some p:=by cases b<;>first|exact he|simp at ae
   simp only[hI]at u1;obtain⟨⟨x,bL⟩,J,U⟩:=u1;simp only at U;have gz:(b.kind==1)=false:=by simp[ae]
   simp only[aM,ax]at af⊢;refine bB.mk mixed jg wC xo (by simp) af.obj fun aU cH=>?_;unfold uN;simp[ay];(with_reducible repeat' first|refine aj ?_|simp[gz,ae]);(refine cD.ob (qZ c i x bL J) (by first|exact ca _|exact ca ‹_› _) (by simp only[aM,ax,ay,bO,bS];exact aE) (by simp only[aM,ax,ay,bO,bS];exact aE) (by simp[inObs,Pv.look,aM,ax,ay]) ?_;rintro r ah ⟨rfl,rfl⟩;refine⟨(Same.keys (by simp[aM,ax,ay]) (by simp[aM,ax,ay])),?_⟩;simp[bR,aM,ax,ay]);cases ad:bL.shd x with
   |false=>have hY:(tg x bL.shaped).getD false=false:=ad;rw[if_pos ad]at U;(with_reducible repeat' first|refine aj ?_|simp[hY]);(refine cD.ob (QB n x b bL p U) (by first|exact ca _|exact ca ‹_› _) (by simp only[aM,ax,ay,bO,bS];exact aE) (by simp only[aM,ax,ay,bO,bS];exact aE) (by simp[inObs,Pv.look,aM,ax,ay]) ?_;rintro r ah ⟨rfl,rfl⟩;refine⟨(Same.keys (by simp[aM,ax,ay]) (by simp[aM,ax,ay])),?_⟩;simp[bR,aM,ax,ay]);(refine cG.at (aM p.2) (by simp) (by first|exact ca _|exact ca ‹_› _) (Same.keys (by simp[aM,ax,ay]) (by simp[aM,ax,ay])) (by simp only[aM,ax,ay,bO,bS];exact aE) (by simp only[aM,ax,ay,bO,bS];exact aE) ?_;simp[cM,nt,aV,aY,aT,inObs,Pv.look,aM,ax,ay])
   |true=>have hY:(tg x bL.shaped).getD false=true:=ad;rw[if_neg (by simp[ad])]at U;have key:=bW _ _ _ _ U;(with_reducible repeat' first|refine aj ?_|simp[hY]);(refine fu.ob (key) (by first|exact ca _|exact ca ‹_› _) (by first|exact ca _|exact ca ‹_› _) (Same.keys (by simp[aM,ax,ay]) (by simp[aM,ax,ay])) (by simp only[aM,ax,ay,bO,bS];exact aE) (by simp only[aM,ax,ay,bO,bS];exact aE) (by simp[inObs,Pv.look,aM,ax,ay]) ?_;simp[bR,aM,ax,ay]);(with_reducible repeat' first|refine aj ?_|simp);(refine cG.at (aM p.2) (by simp) (by first|exact ca _|exact ca ‹_› _) (Same.keys (by simp[aM,ax,ay]) (by simp[aM,ax,ay])) (by simp only[aM,ax,ay,bO,bS];exact aE) (by simp only[aM,ax,ay,bO,bS];exact aE) ?_;simp[cM,nt,aV,aY,aT,inObs,Pv.look,aM,ax,ay])
  cases a with
  |var i=>
   cases b with
   |var j=>exact BJ i j rfl rfl
   |_=>exact aJ i rfl (by simp)
  |pair bp a2=>
   cases b with
   |var j=>simp only[gn]at he;have key:=bW _ _ _ _ he;simp only[aM,ax]at af⊢;refine bB.mk mixed jg wC xo (by simp) af.obj fun aU cH=>?_;unfold uN;simp[ay];(refine cD.ob (key) (by first|exact ca _|exact ca ‹_› _) (by simp only[aM,ax,ay,bO,bS];exact aE) (by simp only[aM,ax,ay,bO,bS];exact aE) (by simp[inObs,Pv.look,aM,ax,ay]) ?_;rintro r ah ⟨rfl,rfl⟩;refine⟨(Same.keys (by simp[aM,ax,ay]) (by simp[aM,ax,ay])),?_⟩;simp[bR,aM,ax,ay]);(refine cG.at (aM p.2) (by simp) (by first|exact ca _|exact ca ‹_› _) (Same.keys (by simp[aM,ax,ay]) (by simp[aM,ax,ay])) (by simp only[aM,ax,ay,bO,bS];exact aE) (by simp only[aM,ax,ay,bO,bS];exact aE) ?_;simp[cM,nt,aV,aY,aT,inObs,Pv.look,aM,ax,ay])
   |pair b8 b3=>
    simp only[gn,hI]at he;obtain⟨⟨f1,bL⟩,J,U⟩:=he;have key:=bW _ _ _ _ J;simp only[aM,ax]at af⊢;refine bB.mk mixed jg wC xo (by simp) af.obj fun aU cH=>?_;unfold uN;simp[ay];(with_reducible repeat' first|refine aj ?_|simp);(refine fu.ob (key) (by first|exact ca _|exact ca ‹_› _) (by first|exact ca _|exact ca ‹_› _) (Same.keys (by simp[aM,ax,ay]) (by simp[aM,ax,ay])) (by simp only[aM,ax,ay,bO,bS];exact aE) (by simp only[aM,ax,ay,bO,bS];exact aE) (by simp[inObs,Pv.look,aM,ax,ay]) ?_;simp[bR,aM,ax,ay]);cases f1 with
    |false=>simp at U;subst U;(with_reducible repeat' first|refine aj ?_|simp);(refine cG.at (aM bL) (by simp) (by first|exact ca _|exact ca ‹_› _) (Same.keys (by simp[aM,ax,ay]) (by simp[aM,ax,ay])) (by simp only[aM,ax,ay,bO,bS];exact aE) (by simp only[aM,ax,ay,bO,bS];exact aE) ?_;simp[cM,nt,aV,aY,aT,inObs,Pv.look,aM,ax,ay])
    |true=>simp at U;have vn:=bW _ _ _ _ U;(with_reducible repeat' first|refine aj ?_|simp);(refine fu.ob (vn) (by first|exact ca _|exact ca ‹_› _) (by first|exact ca _|exact ca ‹_› _) (Same.keys (by simp[aM,ax,ay]) (by simp[aM,ax,ay])) (by simp only[aM,ax,ay,bO,bS];exact aE) (by simp only[aM,ax,ay,bO,bS];exact aE) (by simp[inObs,Pv.look,aM,ax,ay]) ?_;simp[bR,aM,ax,ay]);(with_reducible repeat' first|refine aj ?_|simp);(refine cG.at (aM p.2) (by simp) (by first|exact ca _|exact ca ‹_› _) (Same.keys (by simp[aM,ax,ay]) (by simp[aM,ax,ay])) (by simp only[aM,ax,ay,bO,bS];exact aE) (by simp only[aM,ax,ay,bO,bS];exact aE) ?_;simp[cM,nt,aV,aY,aT,inObs,Pv.look,aM,ax,ay])
   |_=>simp[gn]at he;subst he;simp only[aM,ax]at af⊢;refine bB.mk mixed jg wC xo (by simp) af.obj fun aU cH=>?_;unfold uN;simp[ay];(refine cG.at (aM c) (by simp) (by first|exact ca _|exact ca ‹_› _) (Same.keys (by simp[aM,ax,ay]) (by simp[aM,ax,ay])) (by simp only[aM,ax,ay,bO,bS];exact aE) (by simp only[aM,ax,ay,bO,bS];exact aE) ?_;simp[cM,nt,aV,aY,aT,inObs,Pv.look,aM,ax,ay])
  |_=>
   cases b with
   |var j=>simp only[gn]at he;have key:=bW _ _ _ _ he;simp only[aM,ax]at af⊢;refine bB.mk mixed jg wC xo (by simp) af.obj fun aU cH=>?_;unfold uN;simp[ay];(refine cD.ob (key) (by first|exact ca _|exact ca ‹_› _) (by simp only[aM,ax,ay,bO,bS];exact aE) (by simp only[aM,ax,ay,bO,bS];exact aE) (by simp[inObs,Pv.look,aM,ax,ay]) ?_;rintro r ah ⟨rfl,rfl⟩;refine⟨(Same.keys (by simp[aM,ax,ay]) (by simp[aM,ax,ay])),?_⟩;simp[bR,aM,ax,ay]);(refine cG.at (aM p.2) (by simp) (by first|exact ca _|exact ca ‹_› _) (Same.keys (by simp[aM,ax,ay]) (by simp[aM,ax,ay])) (by simp only[aM,ax,ay,bO,bS];exact aE) (by simp only[aM,ax,ay,bO,bS];exact aE) ?_;simp[cM,nt,aV,aY,aT,inObs,Pv.look,aM,ax,ay])
   |_=>
    simp[gn]at he;subst he;simp only[aM,ax]at af⊢;refine bB.mk mixed jg wC xo (by simp) af.obj fun aU cH=>?_;unfold uN;simp[ay];((with_reducible repeat' first|refine aj ?_|simp|((first|apply bI|apply bK|apply bJ)<;>intro h<;>try simp at h))<;>(try exact cm));all_goals(refine cG.at (aM c) (by simp) (by first|exact ca _|exact ca ‹_› _) (Same.keys (by simp[aM,ax,ay]) (by simp[aM,ax,ay])) (by simp only[aM,ax,ay,bO,bS];exact aE) (by simp only[aM,ax,ay,bO,bS];exact aE) ?_;simp[cM,nt,aV,aY,aT,inObs,Pv.look,aM,ax,ay])
    all_goals simp_all
def lU(c:bm):Prop:= ∀x,0≤c.sz x∧c.sz x≤5001
theorem lU.rt{c:bm}(h:lU c){v r:Int}{cd:bm}(he:rt c v=some (r,cd)):lU cd:=by simp only[Pv.rt,gd,jm]at he;obtain⟨p,_,_,rfl⟩:=he;exact h
theorem lU.put{c:bm}(h:lU c){x k:Int}(ab:0≤k∧k≤5001)(m:List (Int×Int)):lU {c with size:=eN x k c.size,color:=m}:=fun z=>by
 show 0≤(tg z (eN x k c.size)).getD 0∧(tg z (eN x k c.size)).getD 0≤5001;rw[mS];split
 ·exact ab
 ·exact h z
theorem abY(c:bm)(v:Int)(p:Int×bm)(he:xH v c=some p):bB az 275 [.int .i64 v,.eptr ay] (aM c) fun r ah=>r= .int .i64 p.1∧ah=aM p.2:=by have af:=ca c;simp only[xH,gd]at he;obtain⟨⟨r,bL⟩,J,rfl⟩:=he;simp only[aM,ax]at af⊢;refine bB.mk mixed jg ZJ af6 (by simp) af.obj fun aU cH=>?_;unfold NX;simp[ay];(refine fu.ob (qZ c v r bL J) (by first|exact ca _|exact ca ‹_› _) (by first|exact ca _|exact ca ‹_› _) (Same.keys (by simp[aM,ax,ay]) (by simp[aM,ax,ay])) (by simp only[aM,ax,ay,bO,bS];exact aE) (by simp only[aM,ax,ay,bO,bS];exact aE) (by simp[inObs,Pv.look,aM,ax,ay]) ?_;simp[bR,aM,ax,ay]);(with_reducible repeat' first|refine aj ?_|simp);(refine cG.at (aM bL) (by simp) (by first|exact ca _|exact ca ‹_› _) (Same.keys (by simp[aM,ax,ay]) (by simp[aM,ax,ay])) (by simp only[aM,ax,ay,bO,bS];exact aE) (by simp only[aM,ax,ay,bO,bS];exact aE) ?_;simp[cM,UC,aV,aY,aT,inObs,Pv.look,aM,ax,ay]);all_goals rfl
def gf(a:bm×Bool):cF:=⟨ax a.1++[(.obj 712,[.bool a.2])],[]⟩
theorem p0(a):dG (gf a):=by unfold gf ax;exact dG.of ⟨by intro m;simp[Pv.look],by intro m;simp[Pv.look]⟩ (by simp) (by simp)
theorem Xi(a b):Same (gf a) (gf b):=Same.keys (by simp[gf,ax]) (by simp[gf,ax])
theorem abX(n:Nat)(vc:∀x c p,pU n x c=some p→lU c→lU p.2∧bB az 246 [ay,.int .i64 x] (aM c) fun r ah=>r= .bool p.1∧ah=aM p.2)
  (v:Int) (a bh:bm×Bool) (bf:lU a.1) (he:xS (pU n) v a=some bh):lU bh.1∧bB az 274 [.int .i64 v,.ptr (.obj 712) 0,.eptr ay] (gf a) fun r ah=>r= .tuple []∧ah=gf bh:=by
 have af:=p0 a;obtain⟨c,f⟩:=a;cases f with
 |false=>simp[xS]at he;subst he;refine⟨bf,?_⟩;simp only[gf,ax,bO,bS]at af⊢;refine bB.mk mixed jg P4 TY (by simp) af.obj fun aU cH=>?_;unfold Hy;simp[ay];(with_reducible repeat' first|refine aj ?_|simp);(refine cG.at (gf (c,false)) (by simp) (by first|exact p0 _|exact p0 ‹_› _) (Same.keys (by simp[gf,ax,ay]) (by simp[gf,ax,ay])) (by simp only[gf,ax,ay,bO,bS];exact aE) (by simp only[gf,ax,ay,bO,bS];exact aE) ?_;simp[cM,FT,aV,aY,aT,inObs,Pv.look,gf,ax,ay])
 |true=>
  simp only[xS,if_true,hI,gd]at he;obtain⟨⟨r,bL⟩,J,⟨f2,cn⟩,U,rfl⟩:=he;obtain⟨z2,key⟩:=vc _ _ _ U (bf.rt J);refine⟨z2,?_⟩;simp only[gf,ax,bO,bS]at af⊢;refine bB.mk mixed jg P4 TY (by simp) af.obj fun aU cH=>?_;unfold Hy;simp[ay];(with_reducible repeat' first|refine aj ?_|simp);(refine fu.ob (qZ c v r bL J) (by first|exact ca _|exact ca ‹_› _) (by first|exact ca _|exact ca ‹_› _) (Same.keys (by simp[aM,ax,ay]) (by simp[aM,ax,ay])) (by simp only[aM,ax,ay,bO,bS];exact aE) (by simp only[aM,ax,ay,bO,bS];exact aE) (by simp[inObs,Pv.look,aM,ax,ay]) ?_;simp[bR,aM,ax,ay]);(with_reducible repeat' first|refine aj ?_|simp);(refine fu.ob (key) (by first|exact ca _|exact ca ‹_› _) (by first|exact ca _|exact ca ‹_› _) (Same.keys (by simp[aM,ax,ay]) (by simp[aM,ax,ay])) (by simp only[aM,ax,ay,bO,bS];exact aE) (by simp only[aM,ax,ay,bO,bS];exact aE) (by simp[inObs,Pv.look,aM,ax,ay]) ?_;simp[bR,aM,ax,ay]);cases f2 with
  |true=>(with_reducible repeat' first|refine aj ?_|simp);(refine cG.at (gf (cn,true)) (by simp) (by first|exact p0 _|exact p0 ‹_› _) (Same.keys (by simp[gf,ax,ay]) (by simp[gf,ax,ay])) (by simp only[gf,ax,ay,bO,bS];exact aE) (by simp only[gf,ax,ay,bO,bS];exact aE) ?_;simp[cM,FT,aV,aY,aT,inObs,Pv.look,gf,ax,ay])
  |false=>(with_reducible repeat' first|refine aj ?_|simp);(refine cG.at (gf (cn,false)) (by simp) (by first|exact p0 _|exact p0 ‹_› _) (Same.keys (by simp[gf,ax,ay]) (by simp[gf,ax,ay])) (by simp only[gf,ax,ay,bO,bS];exact aE) (by simp only[gf,ax,ay,bO,bS];exact aE) ?_;simp[cM,FT,aV,aY,aT,inObs,Pv.look,gf,ax,ay])
theorem abW(n:Nat):∀(x:Int) (c:bm) (p:Bool×bm),pU n x c=some p→lU c→lU p.2∧bB az 246 [ay,.int .i64 x] (aM c) fun r ah=>r= .bool p.1∧ah=aM p.2:=by
 induction n with
 |zero=>intro x c p h;simp[pU]at h
 |succ n bW=>
  intro x c p he bf;have af:=ca c;simp only[pU]at he;by_cases U:c.col x=2
  ·rw[if_pos U]at he;cases he;have A8:iI c.color x=2:=U;refine⟨bf,?_⟩;simp only[aM,ax]at af⊢;refine bB.mk mixed jg AU Ch (by simp) af.obj fun aU cH=>?_;unfold yc;simp[ay];(with_reducible repeat' first|refine aj ?_|simp[A8]);(refine cG.at (aM c) (by simp) (by first|exact ca _|exact ca ‹_› _) (Same.keys (by simp[aM,ax,ay]) (by simp[aM,ax,ay])) (by simp only[aM,ax,ay,bO,bS];exact aE) (by simp only[aM,ax,ay,bO,bS];exact aE) ?_;simp[cM,zM,aV,aY,aT,inObs,Pv.look,aM,ax,ay])
  rw[if_neg U]at he;have A8:(iI c.color x==2)=false:=by simp;exact U
  by_cases J:c.col x=1
  ·rw[if_pos J]at he;cases he;have oN:iI c.color x=1:=J;refine⟨bf,?_⟩;simp only[aM,ax]at af⊢;refine bB.mk mixed jg AU Ch (by simp) af.obj fun aU cH=>?_;unfold yc;simp[ay];(with_reducible repeat' first|refine aj ?_|simp[oN]);(refine cG.at (aM c) (by simp) (by first|exact ca _|exact ca ‹_› _) (Same.keys (by simp[aM,ax,ay]) (by simp[aM,ax,ay])) (by simp only[aM,ax,ay,bO,bS];exact aE) (by simp only[aM,ax,ay,bO,bS];exact aE) ?_;simp[cM,zM,aV,aY,aT,inObs,Pv.look,aM,ax,ay])
  rw[if_neg J]at he;have oN:(iI c.color x==1)=false:=by simp;exact J
  have Sf:lU (c.grey x):=bf.put (by omega) _;cases ki:(c.grey x).shd x with
  |false=>rw[if_pos ki]at he;cases he;have su:(tg x c.shaped).getD false=false:=ki;refine⟨Sf,?_⟩;simp only[aM,ax]at af⊢;refine bB.mk mixed jg AU Ch (by simp) af.obj fun aU cH=>?_;unfold yc;simp[ay];(with_reducible repeat' first|refine aj ?_|simp[A8,oN,su]);(refine cG.at (aM ((c.grey x).black x)) (by simp) (by first|exact ca _|exact ca ‹_› _) (Same.keys (by simp[aM,ax,ay,bm.grey,bm.black]) (by simp[aM,ax,ay,bm.grey,bm.black])) (by simp only[aM,ax,ay,bm.grey,bm.black,bO,bS];exact aE) (by simp only[aM,ax,ay,bm.grey,bm.black,bO,bS];exact aE) ?_;simp[cM,zM,aV,aY,aT,inObs,Pv.look,aM,ax,ay,bm.grey,bm.black])
  |true=>
   rw[if_neg (by simp[ki]),hI]at he;have su:(tg x c.shaped).getD false=true:=ki;obtain⟨⟨e,f⟩,ao,aZ⟩:=he;simp only at aZ;obtain⟨WZ,key⟩:=Qy gf p0 Xi 274 [.ptr (.obj 712) 0,.eptr ay] (fun a=>by simp[gf,ax,ay,inObs,Pv.look]) rfl (fun a=>lU a.1) (xS (pU n)) (fun v a bh bf h=>abX n bW v a bh bf h) _ _ _ Sf ao;rw[show(c.grey x).shp x=(tg x c.shape).getD .nil from rfl]at key;cases f with
   |false=>simp at aZ;subst aZ;refine⟨WZ,?_⟩;simp only[aM,ax]at af⊢;refine bB.mk mixed jg AU Ch (by simp) af.obj fun aU cH=>?_;unfold yc;simp[ay];(with_reducible repeat' first|refine aj ?_|simp[A8,oN,su]);(refine cD.ob (key) (by first|exact p0 _|exact p0 ‹_› _) (by simp only[gf,ax,ay,bm.grey,bO,bS];exact aE) (by simp only[gf,ax,ay,bm.grey,bO,bS];exact aE) (by simp[inObs,Pv.look,gf,ax,ay,bm.grey]) ?_;rintro r ah ⟨rfl,rfl⟩;refine⟨(Same.keys (by simp[gf,ax,ay,bm.grey]) (by simp[gf,ax,ay,bm.grey])),?_⟩;simp[bR,gf,ax,ay,bm.grey]);(with_reducible repeat' first|refine aj ?_|simp);(refine cG.at (aM e) (by simp) (by first|exact ca _|exact ca ‹_› _) (Same.keys (by simp[aM,ax,ay]) (by simp[aM,ax,ay])) (by simp only[aM,ax,ay,bO,bS];exact aE) (by simp only[aM,ax,ay,bO,bS];exact aE) ?_;simp[cM,zM,aV,aY,aT,inObs,Pv.look,aM,ax,ay])
   |true=>
    rw[if_neg (by simp),gd]at aZ;obtain⟨⟨k,aA⟩,b1,rfl⟩:=aZ;obtain⟨z2,b3,vn⟩:=abN aM ca Dj 275 [.eptr ay] (fun a=>by simp[aM,ax,ay,inObs,Pv.look]) rfl lU xH (fun v a p bf h=>by simp only[xH,gd]at h;obtain⟨⟨r,bL⟩,J,rfl⟩:=h;exact⟨bf.rt J,(bf.rt J r).1,Int.le_trans (bf.rt J r).2 (by omega)⟩) (fun v a p _ h=>abY a v p h) _ _ _ WZ b1
    rw[show bm.shp e x=(tg x e.shape).getD .nil from rfl]at vn;refine⟨z2.put b3 _,?_⟩;simp only[aM,ax]at af⊢;refine bB.mk mixed jg AU Ch (by simp) af.obj fun aU cH=>?_;unfold yc;simp[ay];(with_reducible repeat' first|refine aj ?_|simp[A8,oN,su]);(refine cD.ob (key) (by first|exact p0 _|exact p0 ‹_› _) (by simp only[gf,ax,ay,bm.grey,bO,bS];exact aE) (by simp only[gf,ax,ay,bm.grey,bO,bS];exact aE) (by simp[inObs,Pv.look,gf,ax,ay,bm.grey]) ?_;rintro r ah ⟨rfl,rfl⟩;refine⟨(Same.keys (by simp[gf,ax,ay,bm.grey]) (by simp[gf,ax,ay,bm.grey])),?_⟩;simp[bR,gf,ax,ay,bm.grey]);(with_reducible repeat' first|refine aj ?_|simp);(refine fu.ob (vn) (by first|exact ca _|exact ca ‹_› _) (by first|exact ca _|exact ca ‹_› _) (Same.keys (by simp[aM,ax,ay]) (by simp[aM,ax,ay])) (by simp only[aM,ax,ay,bO,bS];exact aE) (by simp only[aM,ax,ay,bO,bS];exact aE) (by simp[inObs,Pv.look,aM,ax,ay]) ?_;simp[bR,aM,ax,ay]);(with_reducible repeat' first|refine aj ?_|simp);(refine cG.at (aM (({aA with size:=eN x k aA.size}:bm).black x)) (by simp) (by first|exact ca _|exact ca ‹_› _) (Same.keys (by simp[aM,ax,ay,bm.black]) (by simp[aM,ax,ay,bm.black])) (by simp only[aM,ax,ay,bm.black,bO,bS];exact aE) (by simp only[aM,ax,ay,bm.black,bO,bS];exact aE) ?_;simp[cM,zM,aV,aY,aT,inObs,Pv.look,aM,ax,ay,bm.black])
theorem abV(n:Nat)(vc:∀x c p,pT n x c=some p→bB az 247 [ay,.int .i64 x] (aM c) fun r ah=>r=p.1.e∧ah=aM p.2)
  (v:Int) (c:bm) (p:T×bm) (he:Am (pT n) v c=some p):bB az 276 [.int .i64 v,.eptr ay] (aM c) fun r ah=>r= .tuple [p.1.e,.bool true]∧ah=aM p.2:=by
 have af:=ca c;simp only[Am,hI]at he;obtain⟨⟨r,bL⟩,J,U⟩:=he;have key:=vc _ _ _ U;simp only[aM,ax]at af⊢;refine bB.mk mixed jg ZI af5 (by simp) af.obj fun aU cH=>?_;unfold NW;simp[ay];(with_reducible repeat' first|refine aj ?_|simp);(refine fu.ob (qZ c v r bL J) (by first|exact ca _|exact ca ‹_› _) (by first|exact ca _|exact ca ‹_› _) (Same.keys (by simp[aM,ax,ay]) (by simp[aM,ax,ay])) (by simp only[aM,ax,ay,bO,bS];exact aE) (by simp only[aM,ax,ay,bO,bS];exact aE) (by simp[inObs,Pv.look,aM,ax,ay]) ?_;simp[bR,aM,ax,ay]);(with_reducible repeat' first|refine aj ?_|simp);(refine fu.ob (key) (by first|exact ca _|exact ca ‹_› _) (by first|exact ca _|exact ca ‹_› _) (Same.keys (by simp[aM,ax,ay]) (by simp[aM,ax,ay])) (by simp only[aM,ax,ay,bO,bS];exact aE) (by simp only[aM,ax,ay,bO,bS];exact aE) (by simp[inObs,Pv.look,aM,ax,ay]) ?_;simp[bR,aM,ax,ay]);(with_reducible repeat' first|refine aj ?_|simp);(refine cG.at (aM p.2) (by simp) (by first|exact ca _|exact ca ‹_› _) (Same.keys (by simp[aM,ax,ay]) (by simp[aM,ax,ay])) (by simp only[aM,ax,ay,bO,bS];exact aE) (by simp only[aM,ax,ay,bO,bS];exact aE) ?_;simp[cM,UB,aV,aY,aT,inObs,Pv.look,aM,ax,ay])
theorem kK(n:Int):b7 az 96 [.int .i64 n] (T.var n).e:=by refine bE jg Z1 agp fun aU=>?_;unfold Og;exact cZ
theorem abU(n:Nat):∀(x:Int) (c:bm) (p:T×bm),pT n x c=some p→bB az 247 [ay,.int .i64 x] (aM c) fun r ah=>r=p.1.e∧ah=aM p.2:=by
 induction n with
 |zero=>intro x c p h;simp[pT]at h
 |succ n bW=>
  intro x c p he;have af:=ca c;simp only[pT]at he;cases aQ:tg x c.full with
  |some t=>rw[aQ]at he;cases he;simp only[aM,ax]at af⊢;refine bB.mk mixed jg Ih KJ (by simp) af.obj fun aU cH=>?_;unfold DE;simp[ay];(with_reducible repeat' first|refine aj ?_|simp[aQ]);(refine cG.at (aM c) (by simp) (by first|exact ca _|exact ca ‹_› _) (Same.keys (by simp[aM,ax,ay]) (by simp[aM,ax,ay])) (by simp only[aM,ax,ay,bO,bS];exact aE) (by simp only[aM,ax,ay,bO,bS];exact aE) ?_;simp[cM,FR,aV,aY,aT,inObs,Pv.look,aM,ax,ay])
  |none=>
   rw[aQ]at he;simp only at he;cases ki:c.shd x with
   |false=>have su:(tg x c.shaped).getD false=false:=ki;rw[if_pos ki]at he;cases he;simp only[aM,ax]at af⊢;refine bB.mk mixed jg Ih KJ (by simp) af.obj fun aU cH=>?_;unfold DE;simp[ay];(with_reducible repeat' first|refine aj ?_|refine aC (kK _) ?_|refine aD (kK _) ?_|simp[aQ,su]);(refine cG.at (aM {c with full:=eN x (.var x) c.full}) (by simp) (by first|exact ca _|exact ca ‹_› _) (Same.keys (by simp[aM,ax,ay]) (by simp[aM,ax,ay])) (by simp only[aM,ax,ay,bO,bS];exact aE) (by simp only[aM,ax,ay,bO,bS];exact aE) ?_;simp[cM,FR,aV,aY,aT,inObs,Pv.look,aM,ax,ay])
   |true=>have su:(tg x c.shaped).getD false=true:=ki;rw[if_neg (by simp[ki]),gd]at he;obtain⟨⟨t,bL⟩,J,rfl⟩:=he;have key:=abA aM ca Dj 276 [.eptr ay] (fun a=>by simp[aM,ax,ay,inObs,Pv.look]) rfl (Am (pT n)) (fun v a p h=>abV n bW v a p h) _ _ _ J;rw[show c.shp x=(tg x c.shape).getD .nil from rfl]at key;simp only[aM,ax]at af⊢;refine bB.mk mixed jg Ih KJ (by simp) af.obj fun aU cH=>?_;unfold DE;simp[ay];(with_reducible repeat' first|refine aj ?_|refine aC (kK _) ?_|refine aD (kK _) ?_|simp[aQ,su]);(refine cD.ob (key) (by first|exact ca _|exact ca ‹_› _) (by simp only[aM,ax,ay,bO,bS];exact aE) (by simp only[aM,ax,ay,bO,bS];exact aE) (by simp[inObs,Pv.look,aM,ax,ay]) ?_;rintro r ah ⟨rfl,rfl⟩;refine⟨(Same.keys (by simp[aM,ax,ay]) (by simp[aM,ax,ay])),?_⟩;simp[bR,aM,ax,ay]);(with_reducible repeat' first|refine aj ?_|simp);(refine cG.at (aM {bL with full:=eN x t bL.full}) (by simp) (by first|exact ca _|exact ca ‹_› _) (Same.keys (by simp[aM,ax,ay]) (by simp[aM,ax,ay])) (by simp only[aM,ax,ay,bO,bS];exact aE) (by simp only[aM,ax,ay,bO,bS];exact aE) ?_;simp[cM,FR,aV,aY,aT,inObs,Pv.look,aM,ax,ay])
theorem abC:bB az 195 [] ⟨[],[]⟩ fun r ah=>r=ay∧ah=aM bm.new:=by have af:dG ⟨[],[]⟩:=dG.of uf (by simp) (by simp);refine bB.mk mixed jg ZQ agd (by simp) af.obj fun aU cH=>?_;unfold N4;simp;refine cG.new (aM bm.new) (.inl rfl) (ca _) ⟨trivial,trivial⟩ (by simp only[aM,ax,bm.new];exact aE) (by simp only[aM,ax,bm.new];exact aE) ?_;simp[cM,UJ,aV,aY,aT,inObs,Pv.look,aM,ax,ay]
theorem VQ{a b:List Int}(h:a.Perm b):qA a=qA b:=by
 have aN:∀a b c:Int,(decide (a≤b))=true→(decide (b≤c))=true→(decide (a≤c))=true:=by intro a b c;simp;omega
 have y1:∀a b:Int,(decide (a≤b)||decide (b≤a))=true:=by intro a b;simp;omega
 have J:=List.pairwise_mergeSort aN y1 a;have U:=List.pairwise_mergeSort aN y1 b;refine ML (le:=fun x y:Int=>(decide (x≤y))=true) (fun x y _ _ J U=>by simp at J U;omega) J U ?_;exact(List.mergeSort_perm a _).trans (h.trans (List.mergeSort_perm b _).symm)
def aek(l:List Int)(k:Nat)(st:bj):Prop:=∃(seen:List Nat) (xs:List Int),seen.Nodup∧(∀b∈seen,b<l.length)∧k=l.length-seen.length∧xs=seen.filterMap (fun b=>l[b]?)∧xs.length=seen.length∧st=⟨[(3,.row 1 (.obj 306) xs.length),(7,.ptr (.loc 0) 0)],[(.obj 304,nI l),(.loc 0,cl l.length seen (.obj 304))],[(.obj 306,⟨xs.length,3,1,some (eg xs)⟩)],1,[.obj 306,.obj 304]⟩
@[simp] theorem amJ(xs:List Int):(eg xs).length=xs.length:=by simp[eg]
@[simp] theorem apA(xs:List Int):df (eg xs)=eg xs:=by
 induction xs with
 |nil=>rfl
 |cons x r bW=>simp only[eg,gI,df,dO]at bW⊢;rw[bW]
@[simp] theorem amK:eg []=[]:=rfl
theorem aed(xs:List Int)(x:Int):eg xs++[ai.int .i64 x]=eg (xs++[x]):=by simp[eg]
theorem abT(l:List Int)(aq:l.length≤1000000):bB az 189 [.gmap (.obj 304)] (td l) fun r ah=>r= .slice 1 .no (eg (qA l))∧ah=td l:=by
 have af:=MT l;unfold td at af⊢;refine bB.mk mixed fs Z0 ago (by simp) af.obj fun aU cH=>?_;unfold Oe;simp;refine nj (aek l) l.length _ ⟨by simp[fresh,aO,aF,cl,inObs,Pv.look,ma,sC],eF (by simp[fresh,aO,aF,cl,inObs,Pv.look,ma,sC]),eG (by simp[fresh,aO,aF,eb,inObs,Pv.look,ma,sC]),by simp⟩ ⟨[],[],by simp,by simp,by simp,by simp,by simp,rfl⟩ ?_;rintro k st ⟨seen,xs,aK,bq,ab,gL,oU,rfl⟩ js cH;clear js cH;have hle:=Gq aK bq;simp;refine Yr (mk:= .obj 304) (seen:=seen) (l:=l) (by simp) (by simp) rfl (fun la=>?_) (fun b x ad ae=>?_)
 ·simp;have vb:=LS aK bq la;rw[←gL]at vb;refine cD.ob (abR 306 xs (by omega)) (G5 306 xs) (by unfold mn;exact aE) (by unfold mn;exact aE) (by simp[mn,inObs,Pv.look]) ?_;rintro r ah ⟨rfl,rfl⟩;refine⟨⟨fun _=>rfl,fun k=>by simp only[mn,Pv.look];split<;>rfl⟩,?_⟩;unfold mn;simp[bR,VP];refine cG.at _ (.inl rfl) af (Same.refl _) aE aE ?_;simp[cM,UO,aV,aY,aT];rw[VQ vb];simp[aF,sC]
 ·have yR:∀f:aH→Option (List ai),f (.loc 0)=some (cl l.length (seen++[b]) (.obj 304))→f (.obj 304)=some (nI l)→oY f (.ptr (.loc 0) 0)=some (True,.tuple [.int .i64 x,.bool true]):=fun f J U=>ae7 f (.loc 0) (.obj 304) l.length seen b l x J U rfl ad;have fp:b<l.length:=(fG.1 ad).1;have pB:=LU aK bq fp ae;simp[yR,aed];refine⟨by unfold lim;omega,?_⟩;refine bT.next (l.length-(seen.length+1)) (by omega) ⟨seen++[b],xs++[x],KC aK ae,(by simp;intro c av;rcases av with av|rfl;exact bq c av;exact fp),by simp,by rw[List.filterMap_append,←gL];simp[ad],by simp[oU],rfl⟩ ⟨by simp[fresh,aO,aF,cl,inObs,Pv.look,ma,sC],eF (by simp[fresh,aO,aF,cl,inObs,Pv.look,ma,sC]),eG (by simp[fresh,aO,aF,eb,inObs,Pv.look,ma,sC]),by simp⟩
@[simp] theorem amX(S:aH→Prop)(xs:List Int):aO S (eg xs)=True:=eq_true (sC S xs)
@[simp] theorem alz:cells .junk=[.junk]:=rfl
def Od:C:=(aa [eC 6 5,bH 7 false] (aa [cX 12 195 [],I 8 12] (.seq (aa [I 13 0,cS 14 13,cr 15 0] (fY 16 15 14 (.seq (.block 1 (aa [cN 17 5 13 15,ba 18 5 17,cU 10 kE,bG 5 10 18] (aa [I 19 8,aP 20 0 1 10,aB 21 1 20,cw 22 196 19 21] (aa [I 23 8,iW 24 1 4 10,ba 25 4 24,cw 26 197 23 25] (.seq (.drawn false 69 [I 27 8,aP 28 0 1 10,aB 29 1 28,cL 30 96 29,iW 31 1 4 10,ba 32 4 31,cX 33 198 [.t 27,.t 30,.t 32],cI 34 33]) (a8 34 (aa [eC 6 5,bH 7 false] .ret) .skip)))))) (.region [aW 35 .add 15 1,I 15 35])))) (.seq (aa [I 36 1,cS 37 36,cr 38 0] (.block 2 (.loop (aa [bA 39 .lss 38 37] (.seq (a8 39 .skip (.exit 2)) (.seq (.block 3 (aa [I 40 38,I 11 40] (aa [I 41 8,I 42 1,I 43 11,cN 44 4 42 43,ba 45 4 44,cw 46 197 41 45] (aa [I 47 8,I 48 2,I 49 11,cN 50 4 48 49,ba 51 4 50,cw 52 197 47 51] (.seq (.drawn false 69 [I 53 8,I 54 1,I 55 11,cN 56 4 54 55,ba 57 4 56,I 58 2,I 59 11,cN 60 4 58 59,ba 61 4 60,cX 62 198 [.t 53,.t 57,.t 61],cI 63 62]) (a8 63 (aa [eC 6 5,bH 7 false] .ret) .skip)))))) (.region [aW 64 .add 38 1,I 38 64]))))))) (aa [I 65 8,cL 66 199 65,cq 67 0 66,cq 68 1 66,I 6 67,I 7 68] .ret)))))
@[simp] def Ld:List bu:=[.tmp 6,.tmp 7]
def NV:C:=(aa [eC 2 5,bH 3 false] (aa [c4 (.mkmap 12 (some 304)),I 4 12] (.seq (aa [I 13 0,eB 14 13,aP 15 0 1 14,aB 16 1 15,c4 (.range 17 none (.t 16))] (.block 0 (.loop (aa [⟨none,.next 18 (.t 17)⟩,cq 19 0 18] (.seq (a8 19 .skip (.exit 0)) (.block 1 (aa [bX 20 (.ment (.t 17)),cq 21 0 20,I 5 21] (.region [I 22 4,I 23 5,c4 (.mput .i (.t 22) (.t 23) (.c (.bool true)))])))))))) (aa [I 24 4,cL 25 189 24,I 6 25] (aa [c4 (.bslm 26 none 5 61 []),I 7 26] (.seq (aa [I 27 6,cS 28 27,cr 29 0] (.block 2 (.loop (aa [bA 30 .lss 29 28] (.seq (a8 30 .skip (.exit 2)) (.seq (.block 3 (aa [cN 31 1 27 29,aB 32 1 31,I 9 32] (aa [I 33 0,I 34 9,cw 35 196 33 34,I 10 35] (.seq (aa [I 36 0,I 37 10,cw 38 246 36 37,cI 39 38] (a8 39 (aa [eC 2 5,bH 3 false] .ret) .skip)) (.seq (aa [I 40 10,I 41 9,bA 42 .eql 40 41,I 43 42,bU 43 true 44 0,aw 43 true (eB 45 44),aw 43 true (aP 46 2 1 45),aw 43 true (aB 47 1 46),bU 43 true 48 10,aw 43 true (bX 49 (.mget .i (.bool false) false (.t 47) (.t 48))),aw 43 true (cI 50 49),dr 51 43 50] (a8 51 (.exit 3) .skip)) (aa [I 52 7,I 53 9,gB 54 kE [(0,1,(.t 53))],dR 55 5 61 [.t 54],c4 (.appm 56 none 5 61 (.t 52) (.t 55)),I 7 56] (aa [I 57 0,eB 58 57,aP 59 4 1 58,aB 60 1 59,I 61 10,bX 62 (.mget .i (.int .i64 0) false (.t 60) (.t 61)),aW 63 .gtr 62 5000,I 64 63,bU 64 false 65 7,aw 64 false (cS 66 65),aw 64 false (aW 67 .gtr 66 400),dj 68 64 67] (a8 68 (aa [eC 2 5,bH 3 false] .ret) .skip)))))))) (.region [aW 69 .add 29 1,I 29 69]))))))) (.seq (aa [I 70 7,cS 71 70,cr 72 0] (.block 4 (.loop (aa [bA 73 .lss 72 71] (.seq (a8 73 .skip (.exit 4)) (.seq (.block 5 (aa [I 74 72,I 11 74] (.region [I 75 7,I 76 11,I 77 0,I 78 0,I 79 7,I 80 11,cN 81 5 79 80,aP 82 0 1 81,aB 83 1 82,cw 84 196 78 83,cw 85 247 77 84,cL 86 200 85,cN 87 5 75 76,iW 88 1 4 87,bG 4 88 86]))) (.region [aW 89 .add 72 1,I 72 89]))))))) (.seq (.pub 7 (.region [I 90 7,I 2 90,bH 3 true])) .ret))))))))
@[simp] def FQ:List bu:=[.tmp 2,.tmp 3]
def Mi:List (Nat×du):=[
 (3,⟨1,8,.int .i64,.int .i64 0⟩),
 (4,⟨1,1,.bool,.bool false⟩),
 (23,⟨1,24,.slice 61,.slice 5 .nil []⟩),
 (30,⟨1,24,.slice 32,.slice 4 .nil []⟩),
 (32,⟨4,56,.struct [(0,3),(1,3),(2,9),(3,30)],.agg [.int .i64 0,.int .i64 0,.str [],.slice 4 .nil []]⟩),
 (61,⟨5,64,.struct [(0,3),(1,32)],.agg [.int .i64 0,.int .i64 0,.int .i64 0,.str [],.slice 4 .nil []]⟩),
 (112,⟨1,24,.slice 3,.slice 1 .nil []⟩),
 (154,⟨1,8,.map 3 4,.junk⟩),
 (182,⟨1,8,.map 3 3,.junk⟩),
 (245,⟨6,48,.struct [(0,182),(1,127),(2,154),(3,182),(4,182),(5,127)],.agg [.junk,.junk,.junk,.junk,.junk,.junk]⟩)]
theorem V2:fA az Mi=true:=by kernel_rfl
theorem agn:cc Mi Od Ld 3 Tryz.f118=true:=by kernel_rfl
theorem ZZ:az.funcs[(118:Nat)]? =some Tryz.f118:=Tryz.func118
theorem af4:cc Mi NV FQ 1 Tryz.f199=true:=by kernel_rfl
theorem ZH:az.funcs[(199:Nat)]? =some Tryz.f199:=Tryz.func199
def eZ(o:Option (List al)):ai:= .tuple [.slice 5 .no ((o.getD []).map al.e),.bool o.isSome]
theorem ae9(f:aH→Option (List ai))(fb mk:aH)(n:Nat)(seen:List Nat)(b:Nat)(l:List (Int×Int))(x:Int×Int)(hi:f fb=some (cl n (seen++[b]) mk))(hm:f mk=some (mI l))(ar:n=l.length)(ad:l[b]? =some x):oY f (.ptr fb 0)=some (True,.tuple [.int .i64 x.1,.int .i64 x.2]):=by rw[Tt f fb mk n seen b _ hi hm (by simpa using ar)];simp[ad]
theorem Ys{st:bj}{d:Nat}{K:bj→Prop}{fb mk:aH}{n:Nat}{seen:List Nat}{l:List (Int×Int)}(hi:Pv.look fb st.b=some (cl n seen mk))(hm:Pv.look mk st.b=some (mI l))(ar:n=l.length)
  (J:(∀b,b<l.length→b∈seen)→K {st with t:=Pv.put d (.tuple [.bool false]) st.t}) (U:∀b x,l[b]? =some x→b∉seen→K {st with t:=Pv.put d (.tuple [.bool true,.int .i64 x.1,.int .i64 x.2]) st.t,b:=ct fb (cl n (seen++[b]) mk) st.b}):
  sa st d (.ptr fb 0) K:=by
 refine PU hi hm (by simpa using ar) (fun h=>J fun b ae=>h b (by omega)) (fun b k v ae af=>?_);simp only[List.getElem?_map,gd]at ae;obtain⟨x,ak,aA⟩:=ae;simp only[jm]at aA;obtain⟨rfl,rfl⟩:=aA;exact U b x ak af
@[simp] theorem aoV(m:aH)(l:List (Int×Int)):vL m (mI l)=some (cl l.length [] m):=by simp[mI,rv]
def nf(v:Int):ai:= .agg [.int .i64 v,.int .i64 0,.int .i64 0,.str [],.slice 4 .nil []]
@[simp] theorem aeC(S:aH→Prop)(l:List Int):aO S (l.map nf)=True:=by
 apply eq_true;induction l with
 |nil=>simp[aO]
 |cons x r bW=>simp only[gI,aO];exact⟨by simp[nf,aF,aO],bW⟩
@[simp] theorem am7(S:aH→Prop)(v:Int):aF S (nf v)=True:=by simp[nf,aF,aO]
@[simp] theorem ao3(v:Int):eE (nf v)=true:=rfl
@[simp] theorem alk(v:Int):cells (nf v)=[.int .i64 v,.int .i64 0,.int .i64 0,.str [],.slice 4 .nil []]:=rfl
theorem aiw(v:Int)(f:Nat)(cs:List ai):o5 (nf v) f cs= .agg (nu [.int .i64 v,.int .i64 0,.int .i64 0,.str [],.slice 4 .nil []] f cs):=rfl
theorem iT{S:aH→Prop}:∀{a b:List ai},aO S (a++b)↔(aO S a∧aO S b)
 |[],b=>by simp[aO]
 |x::a,b=>by simp[aO,iT (a:=a),and_assoc]
@[simp] theorem amV(S:aH→Prop)(k:Nat)(l:List Int):aO S (List.drop k (l.map nf))=True:=by rw[←List.map_drop];exact aeC S _
@[simp] theorem ang(S:aH→Prop)(o:Option (List al)):aF S (eZ o)=True:=by simp[eZ]
theorem Hl(l:List Int)(v:Int):l.map nf++[.agg [.int .i64 v,.int .i64 0,.int .i64 0,.str [],.slice 4 .nil []]]=(l++[v]).map nf:=by simp[nf]
def aef(c:bm)(k:Nat)(st:bj):Prop:=∃(seen:List Nat) (xs:List Int),seen.Nodup∧(∀b∈seen,b<c.up.length)∧k=c.up.length-seen.length∧xs=seen.filterMap (fun b=>(c.up[b]?).map (·.1))∧xs.length=seen.length∧st=⟨[(0,ay),(4,.gmap (.obj 304)),(17,.ptr (.loc 0) 0)],ax c++[(.obj 304,nI xs),(.loc 0,cl c.up.length seen (.obj 702))],[],1,[.obj 304,.obj 702,.obj 703,.obj 704,.obj 705,.obj 706,.obj 707]⟩
theorem aiI{c:bm}{seen:List Nat}(aK:seen.Nodup)(bq:∀b∈seen,b<c.up.length)(la:∀b,b<c.up.length→b∈seen):(seen.filterMap fun b=>(c.up[b]?).map (·.1)).Perm (ch c.up):=by have:=LS (l:=ch c.up) aK (by simpa[ch]using bq) (by simpa[ch]using la);simpa[ch]using this
theorem aiJ{c:bm}(ar:(ch c.up).Nodup){seen:List Nat}{b:Nat}(ae:b∉seen){x:Int×Int}(ad:c.up[b]? =some x):x.1∉seen.filterMap fun b=>(c.up[b]?).map (·.1):=by
 intro hm;rw[List.mem_filterMap]at hm;obtain⟨b0,J,U⟩:=hm;obtain⟨y,ao,aZ⟩:=gd.1 U;have ak:(ch c.up)[b]? =some x.1:=by simp[ch,ad]
 have aA:(ch c.up)[b0]? =some x.1:=by simp[ch,ao,aZ]
 have bq:=(fG.1 ak).1;have u9:=(fG.1 aA).1;have f1:=(fG.1 ak).2;have f2:=(fG.1 aA).2;rcases Nat.lt_trichotomy b b0 with h|h|h
 ·exact pb.1 ar b b0 bq u9 h (f1.trans f2.symm)
 ·subst h;exact ae J
 ·exact pb.1 ar b0 b u9 bq h (f2.trans f1.symm)
set_option maxRecDepth 4000 in
theorem abP(n:Nat)(c:bm)(o:Option (List al))(he:CS n (qB (ch c.up)) c=some o)(Bv:(ch c.up).Nodup)(hlen:c.up.length≤1000000)(bf:lU c):bB az 199 [ay] (aM c) fun r ah=>r=eZ o∧∃cd,ah=aM cd:=by
 have af:=ca c;simp only[aM,ax]at af⊢;refine bB.mk mixed V2 ZH af4 (by simp) af.obj fun aU cH=>?_;unfold NV;simp[ay];have Br:∀S:aH→Prop,aO S (jx []):=fun S=>ma S [];refine nj (aef c) c.up.length _ ⟨by simp[fresh,aO,aF,cl,inObs,Pv.look,ma,ay,ax,Br],eF (by simp[fresh,aO,aF,cl,inObs,Pv.look,ma,ay,ax,Br]),eG (by simp[fresh,aO,aF,eb,inObs,Pv.look,ma,ay,ax,Br]),by simp⟩ ⟨[],[],by simp,by simp,by simp,by simp,by simp,rfl⟩ ?_;rintro k st ⟨seen,xs,aK,bq,ab,gL,oU,rfl⟩ js cH;clear js cH;have hle:=Gq aK bq;simp[ax,ay];refine Ys (mk:= .obj 702) (seen:=seen) (l:=c.up) (by simp) (by simp) rfl (fun la=>?_) (fun b x ad ae=>?_);rotate_left
 ·have yR:∀f:aH→Option (List ai),f (.loc 0)=some (cl c.up.length (seen++[b]) (.obj 702))→f (.obj 702)=some (mI c.up)→oY f (.ptr (.loc 0) 0)=some (True,.tuple [.int .i64 x.1,.int .i64 x.2]):=fun f J U=>ae9 f (.loc 0) (.obj 702) c.up.length seen b c.up x J U rfl ad;have fp:b<c.up.length:=(fG.1 ad).1;have pB:=LU aK bq fp ae;have iR:=aiJ Bv ae ad;rw[←gL]at iR;simp[yR,Hf,iR];refine bT.next (c.up.length-(seen.length+1)) (by omega) ⟨seen++[b],xs++[x.1],KC aK ae,(by simp;intro c av;rcases av with av|rfl;exact bq c av;exact fp),by simp,by rw[List.filterMap_append,←gL];simp[ad],by simp[oU],rfl⟩ ⟨by simp[fresh,aO,aF,cl,inObs,Pv.look,ma,ay,ax],eF (by simp[fresh,aO,aF,cl,inObs,Pv.look,ma,ay,ax]),eG (by simp[fresh,aO,aF,eb,inObs,Pv.look,ma,ay,ax]),by simp⟩
 ·simp;have vb:=aiI aK bq la;rw[←gL]at vb;have adW:xs.length≤1000000:=by omega
  refine cD.ob (abT xs adW) (MT _) (by simp only[td];exact aE) (by simp only[td];exact aE) (by simp[inObs,td,Pv.look]) ?_;rintro r ah ⟨rfl,rfl⟩;refine⟨Same.refl _,?_⟩;have yZ:qA xs=qB (ch c.up):=VQ vb;rw[yZ];obtain⟨a7,kj⟩:∃a7,a7=qB (ch c.up):=⟨_,rfl⟩;rw[←kj]at he⊢;simp[td,bR];simp only[CS,hI]at he;obtain⟨res,u2,nT⟩:=he;have n4:a7.length≤1000000:=by rw[kj,(CV _).length_eq];simpa[ch]using hlen
  refine ir (α:=bm×List Int) (fun i a=>⟨[(0,ay),(27,.slice 1 .no (eg a7)),(28,.int .i64 a7.length),(7,.row 5 (.loc 1) a.2.length),(29,.int .i64 i)],ax a.1,[(.loc 1,⟨a.2.length,61,5,some (a.2.map nf)⟩)],2,[.obj 702,.obj 703,.obj 704,.obj 705,.obj 706,.obj 707]⟩) a7.length (fun i a=>rK n (a7.drop i) a.1 a.2=some res∧lU a.1∧a.2.length≤400) (c,[]) (by simp[ay,ax];exact⟨by simp[fresh,aO,aF,cl,inObs,Pv.look,ma,ay,ax],eF (by simp[fresh,aO,aF,cl,inObs,Pv.look,ma,ay,ax]),eG (by simp[fresh,aO,aF,eb,inObs,Pv.look,ma,ay,ax]),by simp⟩) ⟨by simpa using u2,bf,by simp⟩ ?_ ?_
  ·rintro⟨bL,out⟩ ⟨J,U,ao⟩ ae;simp only at J U ao ae⊢;simp[rK]at J;subst J;simp only[gd]at nT;obtain⟨⟨L,X1⟩,acE,rfl⟩:=nT;simp[ay,ax];refine ir (α:=bm×List al) (fun j a=>⟨[(0,ay),(7,.row 5 (.loc 1) out.length),(71,.int .i64 out.length),(72,.int .i64 j)],ax a.1,[(.loc 1,⟨out.length,61,5,some (a.2.map al.e++(out.drop j).map nf)⟩)],2,[.obj 702,.obj 703,.obj 704,.obj 705,.obj 706,.obj 707]⟩) out.length (fun j a=>a.2.length=j∧∃rest,xI n (out.drop j) a.1=some (rest,X1)∧a.2++rest=L) (bL,[]) (by simp[ay,ax];exact⟨by simp[fresh,aO,aF,cl,inObs,Pv.look,ay,ax],eF (by simp[fresh,aO,aF,cl,inObs,Pv.look,ay,ax]),eG (by simp[fresh,aO,aF,eb,inObs,Pv.look,ay,ax]),by simp⟩) ⟨rfl,L,by simpa using acE,rfl⟩ ?_ ?_
   ·rintro⟨cn,done⟩ ⟨aZ,rest,b1,c6⟩ ae;simp only at aZ b1 c6 ae⊢;simp[xI]at b1;obtain⟨rfl,rfl⟩:=b1;simp at c6;subst c6;simp[ay,ax,aZ];refine cG.at (aM cn) (by simp) (ca _) (Same.keys (by simp[aM,ax]) (by simp[aM,ax])) (by simp only[aM,ax];exact aE) (by simp only[aM,ax];exact aE) ?_;simp[cM,FQ,aV,aY,aT,aM,ax,eZ];exact⟨cn,by simp⟩
   ·rintro j ⟨cn,done⟩ ag ⟨aZ,rest,b1,c6⟩ ae;simp only at aZ b1 c6 ae⊢;obtain⟨v,aJ⟩:∃v,out[j]? =some v:=⟨_,cv ag⟩;have aK:out.drop j=v::out.drop (j+1):=by rw[kN ag];rw[cv ag]at aJ;cases aJ;rfl
    rw[aK]at b1;simp only[xI,hI,gd,jm]at b1;obtain⟨⟨x,dp⟩,dP,⟨t,jU⟩,hy,⟨ait,alH⟩,pq,rfl,rfl⟩:=b1;simp only at hy pq;have key:=abU n x dp _ hy;rw[aK];have hp:∀R,(done.map al.e++nf v::R)[j]? =some (nf v):=fun R=>by rw[List.getElem?_append_right (by simp;omega)];simp[aZ]
    have rj:∀R x,(done.map al.e++nf v::R).set j x=done.map al.e++x::R:=fun R x=>by rw[List.set_append_right _ _ (by simp;omega)];simp[aZ]
    simp[ay,ax];(with_reducible repeat' first|refine aj ?_|simp[hp,ag]);(refine cD.ob (qZ cn v x dp dP) (by first|exact ca _|exact ca ‹_› _) (by simp only[aM,ax,ay,bO,bS];exact aE) (by simp only[aM,ax,ay,bO,bS];exact aE) (by simp[inObs,Pv.look,aM,ax,ay]) ?_;rintro r ah ⟨rfl,rfl⟩;refine⟨(Same.keys (by simp[aM,ax,ay]) (by simp[aM,ax,ay])),?_⟩;simp[bR,aM,ax,ay]);(with_reducible repeat' first|refine aj ?_|simp);(refine cD.ob (key) (by first|exact ca _|exact ca ‹_› _) (by simp only[aM,ax,ay,bO,bS];exact aE) (by simp only[aM,ax,ay,bO,bS];exact aE) (by simp[inObs,Pv.look,aM,ax,ay]) ?_;rintro r ah ⟨rfl,rfl⟩;refine⟨(Same.keys (by simp[aM,ax,ay]) (by simp[aM,ax,ay])),?_⟩;simp[bR,aM,ax,ay]);(with_reducible repeat' first|refine aj ?_|refine aC (sX _) ?_|refine aD (sX _) ?_|simp[hp,rj,ag,aiw,-o5]);refine bT.rng (jU,done++[⟨v,t⟩]) ag ⟨by simp[aZ],ait,pq,by simpa using c6⟩ ?_;simp[ay,ax];exact⟨by simp[fresh,aO,aF,cl,inObs,Pv.look,ay,ax,iT],eF (by simp[fresh,aO,aF,cl,inObs,Pv.look,ay,ax,iT]),eG (by simp[fresh,aO,aF,eb,inObs,Pv.look,ay,ax,iT]),by simp⟩
  ·rintro i ⟨bL,out⟩ hi ⟨J,U,ao⟩ ae;simp only at J U ao ae⊢;obtain⟨v,aJ⟩:∃v,a7[i]? =some v:=⟨_,cv hi⟩;have aK:a7.drop i=v::a7.drop (i+1):=by rw[kN hi];rw[cv hi]at aJ;cases aJ;rfl
   rw[aK]at J;simp only[rK,hI]at J;obtain⟨⟨x,cn⟩,aZ,⟨f,dp⟩,b1,c6⟩:=J;simp only at b1 c6;obtain⟨z3,key⟩:=abW n x cn _ b1 (U.rt aZ);have acU:∀h,(eg a7)[i]'h= .int .i64 v:=fun h=>by rw[cv hi]at aJ;simp only[dt]at aJ;simp[eg,aJ]
   simp[ay,ax];(with_reducible repeat' first|refine aj ?_|simp[acU,hi]);(refine cD.ob (qZ bL v x cn aZ) (by first|exact ca _|exact ca ‹_› _) (by simp only[aM,ax,ay,bO,bS];exact aE) (by simp only[aM,ax,ay,bO,bS];exact aE) (by simp[inObs,Pv.look,aM,ax,ay]) ?_;rintro r ah ⟨rfl,rfl⟩;refine⟨(Same.keys (by simp[aM,ax,ay]) (by simp[aM,ax,ay])),?_⟩;simp[bR,aM,ax,ay]);(with_reducible repeat' first|refine aj ?_|simp);(refine cD.ob (key) (by first|exact ca _|exact ca ‹_› _) (by simp only[aM,ax,ay,bO,bS];exact aE) (by simp only[aM,ax,ay,bO,bS];exact aE) (by simp[inObs,Pv.look,aM,ax,ay]) ?_;rintro r ah ⟨rfl,rfl⟩;refine⟨(Same.keys (by simp[aM,ax,ay]) (by simp[aM,ax,ay])),?_⟩;simp[bR,aM,ax,ay]);cases f with
   |false=>simp at c6;subst c6;simp at nT;subst nT;(with_reducible repeat' first|refine aj ?_|simp);refine cG.at (aM dp) (by simp) (ca _) (Same.keys (by simp[aM,ax]) (by simp[aM,ax])) (by simp only[aM,ax];exact aE) (by simp only[aM,ax];exact aE) ?_;simp[cM,FQ,aV,aY,aT,aM,ax,eZ];exact⟨dp,by simp⟩
   |true=>
    simp only[Bool.true_eq_false,if_false]at c6;by_cases av:x=v∧dp.shd x=false
    ·rw[if_pos av]at c6;obtain⟨adX,ki⟩:=av;subst adX;have su:(tg x dp.shaped).getD false=false:=ki;(with_reducible repeat' first|refine aj ?_|simp[su]);refine bT.rng (dp,out) hi ⟨c6,z3,ao⟩ ?_;exact⟨by simp[fresh,aO,aF,cl,inObs,Pv.look,ay,ax],eF (by simp[fresh,aO,aF,cl,inObs,Pv.look,ay,ax]),eG (by simp[fresh,aO,aF,eb,inObs,Pv.look,ay,ax]),by simp⟩
    ·rw[if_neg av]at c6;have RS:(x==v)=false∨((x==v)=true∧(tg x dp.shaped).getD false=true):=by
      by_cases e:x=v
      ·right;refine⟨by simp[e],?_⟩;cases aA:dp.shd x with
       |false=>exact absurd ⟨e,aA⟩ av
       |true=>exact aA
      ·left;simp[e]
     by_cases aq:5000<dp.sz x∨400<out.length+1
     ·rw[if_pos aq]at c6;cases c6;simp at nT;subst nT;have nW:(decide (5000<iI dp.size x))=true∨(decide (5000<iI dp.size x)=false∧400<out.length+1):=by
       by_cases e:5000<iI dp.size x
       ·left;simp[e]
       ·right;exact⟨by simp[e],aq.resolve_left e⟩
      have yV:True:=trivial;have kg:True:=trivial;rcases RS with bF|⟨bF,yV⟩;all_goals
       rcases nW with bn|⟨bn,kg⟩
       all_goals
        ((with_reducible repeat' first|refine aj ?_|simp[bF,yV,bn,kg]|((first|apply bI|apply bK|apply bJ)<;>intro h<;>try simp at h))<;>(try exact cm))
        refine cG.at (aM dp) (by simp) (ca _) (Same.keys (by simp[aM,ax]) (by simp[aM,ax])) (by simp only[aM,ax];exact aE) (by simp only[aM,ax];exact aE) ?_
        simp[cM,FQ,aV,aY,aT,aM,ax,eZ]
        exact⟨dp,by simp⟩
     ·rw[if_neg aq]at c6;have bn:decide (5000<iI dp.size x)=false:=by simp;exact Int.not_lt.1 fun h=>aq (.inl h)
      have kg:¬400<out.length+1:=fun h=>aq (.inr h);have yV:True:=trivial;rcases RS with bF|⟨bF,yV⟩;all_goals
       ((with_reducible repeat' first|refine aj ?_|simp[bF,yV,bn,kg]|((first|apply bI|apply bK|apply bJ)<;>intro h<;>try simp at h))<;>(try exact cm))
       all_goals first|(refine⟨by unfold lim;omega,?_⟩)|skip
       ((with_reducible repeat' first|refine aj ?_|simp[bF,yV,bn,kg]|((first|apply bI|apply bK|apply bJ)<;>intro h<;>try simp at h))<;>(try exact cm))
       refine bT.rng (dp,out++[v]) hi ⟨c6,z3,by simp;omega⟩ ?_
       exact⟨by simp[fresh,aO,aF,cl,inObs,Pv.look,ay,ax,Hl,iT],eF (by simp[fresh,aO,aF,cl,inObs,Pv.look,ay,ax,Hl,iT]),eG (by simp[fresh,aO,aF,eb,inObs,Pv.look,ay,ax,Hl,iT]),by simp⟩
theorem Mf:∀{a b:T},a.tm=b.tm→a=b:=by
 intro a;induction a with
 |pair x y oV rr=>intro b h;cases b<;>simp[T.tm]at h;rw[oV h.1,rr h.2]
 |_=>intro b h;cases b<;>simp[T.tm]at h⊢ <;>exact h
def Xp(l:List dU):Prop:= ∃s:List al,l=s.map al.b∧o2 s∧h5 s∧gy s
def G9(l:List dU):Prop:= ∃s:List al,l=s.map al.b∧o2 s∧ff s∧gy s
theorem Nn:∀{l:List dU},(∀b∈l,b.t.fits=true)→∃s:List al,l=s.map al.b∧yu s
 |[],_=>⟨[],rfl,fun b ae=>by simp at ae⟩
 |b::l,h=>by
  obtain⟨s,J,U⟩:=Nn (l:=l) fun c av=>h c (by simp[av]);obtain⟨x,ao,aZ⟩:=bQ.fits_ex (h b (by simp));refine⟨⟨b.v,x⟩::s,by rw[J];simp[al.b,ao],fun c av=>?_⟩;rcases ga.1 av with rfl|av
  ·exact aZ
  ·exact U c av
theorem GR{l:List dU}:x4 l↔Xp l:=by
 constructor
 ·rintro⟨J,U⟩;obtain⟨s,rfl,acH⟩:=Nn (l:=l) fun b ae=>by obtain⟨i,hi,e⟩:=ov ae;exact(U i hi b (by rw[cv hi,e])).2.2
  have Ro:∀b∈s,b.t.ok=true∧b.t.size≤5000:=fun b ae=>by have:=acH b ae;simpa[T.fit]using this
  refine⟨s,rfl,fun b ae=>⟨?_,(Ro b ae).1⟩,?_,by simpa using J,fun b ae=>(Ro b ae).2⟩
  ·obtain⟨i,hi,e⟩:=ov ae;have:=(U i (by simpa using hi) b.b (by simp[cv hi,e])).1;exact this
  ·rw[h5,pb];have jw:∀i (h:i+1<s.length),s[i].v<s[i+1].v:=fun i h=>by have:=(U (i+1) (by simpa using h) s[i+1].b (by simp[cv h])).2.1 s[i].b (by omega) (by simp[cv (show i<s.length by omega)]);exact this
   have:∀(d i:Nat) (h:i+d+1<s.length),s[i].v<s[i+d+1].v:=by
    intro d;induction d with
    |zero=>intro i h;exact jw i h
    |succ d bW=>intro i h;have bp:=bW i (by omega);have a2:=jw (i+d+1) (by omega);simp only[Nat.add_assoc]at bp a2⊢;omega
   intro i j hi ag lH;have:=this (j-i-1) i (by omega);simpa[show i+(j-i-1)+1=j from by omega]using this
 ·rintro⟨s,rfl,au,br,aQ⟩;refine⟨by simpa using aQ.1,fun i hi b ae=>?_⟩;simp only[List.getElem?_map,gd]at ae;obtain⟨c,av,rfl⟩:=ae;have hm:=gb av;refine⟨(au c hm).1,fun d bV aK=>?_,?_⟩
  ·simp only[List.getElem?_map,gd]at aK;obtain⟨e,he,rfl⟩:=aK;obtain⟨J,ak⟩:=fG.1 he;obtain⟨U,aA⟩:=fG.1 av;have:=pb.1 br (i-1) i J U (by omega);rw[ak,aA]at this;exact this
  ·show c.t.tm.fits=true;rw[bQ.fits_T];simp[T.fit,(au c hm).2,aQ.2 c hm]
def uQ(s:List al)(v:Int)(f:Bool):Bool:=if 0≤mv s v then false else f
def lV(s:List al)(b:al):Bool:=b.t.fold (uQ s) true&& !(b.t.kind==1&&decide (b.v≤b.t.int))
theorem Qp{s:List al}(br:h5 s)(t:T):∀f:Bool,t.fold (uQ s) f=true↔f=true∧∀w,t.occ w=true→c0 s w=none:=by
 induction t with
 |var n=>
  intro f;simp only[T.fold,T.occ,dH,uQ];have:=Qn br n;by_cases h:0≤mv s n
  ·rw[if_pos h];constructor
   ·intro h;cases h
   ·rintro⟨_,U⟩;have:=this.2 (U n rfl);omega
  ·rw[if_neg h];exact⟨fun aQ=>⟨aQ,fun w hw=>by subst hw;exact this.1 (by omega)⟩,fun h=>h.1⟩
 |pair a b ee ef=>
  intro f;simp only[T.fold,ee,ef,T.occ,lQ];constructor
  ·rintro⟨⟨J,U⟩,ao⟩;exact⟨J,fun w hw=>hw.elim (U w) (ao w)⟩
  ·rintro⟨J,U⟩;exact⟨⟨J,fun w hw=>U w (.inl hw)⟩,fun w hw=>U w (.inr hw)⟩
 |_=>intro f;simp[T.fold,T.occ]
theorem Hn{s:List al}(br:h5 s)(b:al):lV s b=true↔(∀w,b.t.occ w=true→c0 s w=none)∧∀w,b.t= .var w→w<b.v:=by
 unfold lV;rw[cx,Qp br];simp only[true_and];refine and_congr_right fun _=>?_;constructor
 ·intro h w hw;have ab:(b.t.kind==1)=true:=by rw[hw];rfl
  have hi:b.t.int=w:=by rw[hw];rfl
  rw[ab,hi]at h;simpa using h
 ·intro h;cases ab:(b.t.kind==1)with
  |false=>rfl
  |true=>
   obtain⟨w,hw⟩:∃w,b.t= .var w:=by
    cases e:b.t with
    |var w=>exact⟨w,rfl⟩
    |_=>rw[e]at ab;simp at ab
   have hi:b.t.int=w:=by rw[hw];rfl
   have:=h w hw;rw[hi];simpa using this
theorem VO{s:List al}(br:h5 s):ff s↔∀b∈s,lV s b=true:=by
 constructor
 ·intro h b ae;exact(Hn br b).2 ⟨h.free b ae,h.ori b ae⟩
 ·intro h;exact⟨br,fun b ae=>((Hn br b).1 (h b ae)).1,fun b ae=>((Hn br b).1 (h b ae)).2⟩
def qq{α:Type}(p:α→Bool)(s:List α)(i:Nat)(_:Unit):Prop:= ∀k b,k<i→s[k]? =some b→p b=true
theorem qq.step{α:Type}{p:α→Bool}{s:List α}{i:Nat}(h:qq p s i ()){b:α}(ae:s[i]? =some b)(bF:p b=true):qq p s (i+1) ():=fun k c ab av=>by
 rcases(by omega:k<i∨k=i)with J|rfl
 ·exact h k c J av
 ·rw[ae]at av;cases av;exact bF
open Classical in
noncomputable def hQ(l:List dU):Bool:=decide (G9 l)
theorem vT{l:List dU}:hQ l=true↔G9 l:=by unfold hQ;simp
def ih(f:Bool):cF:=⟨[(.obj 731,[.bool f])],[]⟩
theorem uJ(f:Bool):dG (ih f):=by unfold ih;exact dG.of ⟨by intro m;simp[Pv.look],by intro m;simp[Pv.look]⟩ (by simp) (by simp)
theorem Xg(a b:Bool):Same (ih a) (ih b):=Same.keys (by simp[ih]) (by simp[ih])
theorem abm(s:List al)(aq:s.length≤1000000)(v:Int)(f:Bool):bB az 133 [.int .i64 v,.eptr (.slice 5 .no (s.map al.e)),.ptr (.obj 731) 0] (ih f) fun r ah=>r= .tuple []∧ah=ih (uQ s v f):=by
 have af:=uJ f;simp only[ih]at af⊢;by_cases h:0≤mv s v
 ·rw[uQ,if_pos h];refine bB.mk mixed qD P2 TW (by simp) af.obj fun aU cH=>?_;unfold Hw;simp;(with_reducible repeat' first|refine aj ?_|refine aC (sZ s v aq) ?_|refine aD (sZ s v aq) ?_|simp[h]);(refine cG.at (ih false) (by simp) (by first|exact uJ _|exact uJ ‹_› _) (Same.keys (by simp[ih]) (by simp[ih])) (by simp only[ih,bO,bS];exact aE) (by simp only[ih,bO,bS];exact aE) ?_;simp[cM,K8,aV,aY,aT,inObs,Pv.look,ih])
 ·rw[uQ,if_neg h];refine bB.mk mixed qD P2 TW (by simp) af.obj fun aU cH=>?_;unfold Hw;simp;(with_reducible repeat' first|refine aj ?_|refine aC (sZ s v aq) ?_|refine aD (sZ s v aq) ?_|simp[h]);(refine cG.at (ih f) (by simp) (by first|exact uJ _|exact uJ ‹_› _) (Same.keys (by simp[ih]) (by simp[ih])) (by simp only[ih,bO,bS];exact aE) (by simp only[ih,bO,bS];exact aE) ?_;simp[cM,K8,aV,aY,aT,inObs,Pv.look,ih])
theorem Mp(l:List dU):b7 az 55 [.slice 5 .no (l.map dU.e)] (.bool (hQ l)):=by
 have aJ:=ajU l;by_cases h:x4 l;rotate_left
 ·have bV:hQ l=false:=by unfold hQ;simp only[j4];rintro⟨s,J,U,ao,aZ⟩;exact h (GR.2 ⟨s,J,U,ao.asc,aZ⟩)
  rw[bV];refine bE qD P1 TV fun aU=>?_;unfold Hv;exact cZ
 ·obtain⟨s,rfl,au,br,aQ⟩:=GR.1 h;have aq:s.length≤1000000:=by have:=aQ.1;omega
  have ak:(s.map al.b).map dU.e=s.map al.e:=by rw[List.map_map];exact List.map_congr_left fun b _=>al.b_e b
  have bV:hQ (s.map al.b)=s.all (lV s):=by
   rw[pV,jD,vT,←VO br];constructor
   ·rintro⟨ah,J,U,ao,aZ⟩;have:ah=s:=by
     have acT:∀a b:List al,a.map al.b=b.map al.b→a=b:=by
      intro a;induction a with
      |nil=>intro b ae;cases b<;>simp at ae⊢
      |cons x a bW=>
       intro b ae;cases b with
       |nil=>simp at ae
       |cons y b=>simp only[gI,xX,al.b,dU.mk.injEq]at ae;rw[bW b ae.2];have:=Mf ae.1.2;obtain⟨⟨lb,_⟩,_⟩:=ae;cases x;cases y;simp_all
     exact(acT _ _ J).symm
    rw[←this];exact ao
   ·intro ao;exact⟨s,rfl,au,ao,aQ⟩
  rw[bV];rw[ak]at aJ⊢;refine bE qD P1 TV fun aU=>?_;unfold Hv;simp;(with_reducible repeat' first|refine aj ?_|refine aC aJ ?_|refine aD aJ ?_|simp[h]);refine ir (α:=Unit) (fun i _=>⟨[(1,.eptr (.slice 5 .no (s.map al.e))),(9,.slice 5 .no (s.map al.e)),(10,.int .i64 s.length),(11,.int .i64 i)],[],[],1,[]⟩) s.length (qq (lV s) s) () cu (fun k b ab=>by omega) (fun _ ag _=>?_) (fun i _ hi ag _=>?_)
  ·have:s.all (lV s)=true:=by rw[jD];intro b ae;obtain⟨k,ab,e⟩:=ov ae;exact ag k b ab (by rw[cv ab,e])
   rw[this];exact cZ
  ·obtain⟨b,lL⟩:∃b,s[i]? =some b:=⟨_,cv hi⟩;have gk:∀h,(s[i]'h)=b:=fun h=>by rw[cv hi]at lL;exact fP lL
   have key:=Qx ih uJ Xg 133 [.eptr (.slice 5 .no (s.map al.e)),.ptr (.obj 731) 0] (fun a=>by simp[ih,inObs,Pv.look]) (by simp) (uQ s) (fun v a=>abm s aq v a) b.t true;have hN:lV s b=false→s.all (lV s)=false:=fun h=>by rw[Bool.eq_false_iff];intro cA;rw[jD]at cA;rw[cA b (gb lL)]at h;cases h
   simp[hi,gk];(with_reducible repeat' first|refine aj ?_|simp[gk,hi]);(refine cD.ob (key) (by first|exact uJ _|exact uJ ‹_› _) (by simp only[ih,bO,bS];exact aE) (by simp only[ih,bO,bS];exact aE) (by simp[inObs,Pv.look,ih]) ?_;rintro r ah ⟨rfl,rfl⟩;refine⟨(Same.keys (by simp[ih]) (by simp[ih])),?_⟩;simp[bR,ih]);generalize acJ:b.t.fold (uQ s) true=sb;have wM:lV s b=(sb&& !(b.t.kind==1&&decide (b.v≤b.t.int))):=by unfold lV;rw[acJ]
   cases sb with
   |false=>rw[hN (by rw[wM];rfl)];exact cZ
   |true=>
    cases ab:(b.t.kind==1)with
    |false=>(with_reducible repeat' first|refine aj ?_|simp[ab]);refine bT.rng () hi (ag.step lL (by rw[wM,ab];rfl)) ?_;exact cu
    |true=>
     by_cases hle:b.v≤b.t.int
     ·rw[hN (by rw[wM,ab];simp[hle])];exact cZ
     ·(with_reducible repeat' first|refine aj ?_|simp[ab,hle]);refine bT.rng () hi (ag.step lL (by rw[wM,ab];simp[hle])) ?_;exact cu
@[simp] theorem am3(S:aH→Prop):aO S (jx [])=True:=eq_true (ma S [])
set_option maxRecDepth 4000 in
theorem abO(n:Nat)(s:List al)(l r:List T)(aq:l.length=r.length)(kh:s.length≤1000000)(wU:l.length≤1000000)(o:Option (List al))(he:z7 n (fN s++l.zip r)=some o)
  (hinv:∀c,pj n (fN s++l.zip r) bm.new=some (true,c)→(ch c.up).Nodup∧c.up.length≤1000000∧lU c):b7 az 118 [.slice 5 .no (s.map al.e),.slice 4 .no (l.map T.e),.slice 4 .no (r.map T.e)] (eZ o):=by
 obtain⟨E,dA⟩:∃E,E=fN s++l.zip r:=⟨_,rfl⟩;rw[←dA]at he hinv;simp only[z7,hI]at he;obtain⟨fin,u2,nT⟩:=he;have hlen:E.length=s.length+l.length:=by rw[dA];simp[fN,aq]
 have acd:∀i b,s[i]? =some b→E.drop i=(.var b.v,b.t)::E.drop (i+1):=fun i b ae=>by
  have hi:=(fG.1 ae).1;have aS:E[i]? =some (.var b.v,b.t):=by rw[dA,List.getElem?_append_left (by simp[fN];exact hi)];simp[fN,ae]
  rw[kN (by omega)];rw[cv (by omega)]at aS;simp only[dt]at aS;rw[aS]
 have acb:∀i a b,l[i]? =some a→r[i]? =some b→E.drop (s.length+i)=(a,b)::E.drop (s.length+(i+1)):=fun i a b br ae=>by
  have hi:=(fG.1 br).1;have aS:E[s.length+i]? =some (a,b):=by rw[dA,List.getElem?_append_right (by simp[fN])];simp[fN,List.getElem?_zip_eq_some,br,ae]
  rw[kN (by omega)];rw[cv (by omega)]at aS;simp only[dt]at aS;rw[aS];rfl
 refine bE V2 ZZ agn fun aU=>?_;unfold Od;simp;refine cD.new abC (dG.of uf (by simp) (by simp)) (fun k cs h=>by simp[Pv.look]at h) (fun k cs h=>by simp[Pv.look]at h) (by simp) ?_;rintro r0 s0 ⟨rfl,rfl⟩;refine⟨fun m hm=>.inr (by simp),?_⟩;simp[aM,ax,bR,ay];refine ir (α:=bm) (fun i c=>⟨[(1,.slice 4 .no (l.map T.e)),(2,.slice 4 .no (r.map T.e)),(8,ay),(13,.slice 5 .no (s.map al.e)),(14,.int .i64 s.length),(15,.int .i64 i)],ax c,[],0,[.obj 702,.obj 703,.obj 704,.obj 705,.obj 706,.obj 707]⟩) s.length (fun i c=>pj n (E.drop i) c=some fin) bm.new (by simp[ay,ax];exact⟨by simp[fresh,aO,aF,cl,inObs,Pv.look,ay,ax,bm.new],eF (by simp[fresh,aO,aF,cl,inObs,Pv.look,ay,ax,bm.new]),eG (by simp[fresh,aO,aF,eb,inObs,Pv.look,ay,ax,bm.new]),by simp⟩) (by simpa using u2) ?_ ?_
 ·rintro c J ae;simp[ay,ax];refine ir (α:=bm) (fun i c=>⟨[(1,.slice 4 .no (l.map T.e)),(2,.slice 4 .no (r.map T.e)),(8,ay),(37,.int .i64 l.length),(38,.int .i64 i)],ax c,[],0,[.obj 702,.obj 703,.obj 704,.obj 705,.obj 706,.obj 707]⟩) l.length (fun i c=>pj n (E.drop (s.length+i)) c=some fin) c (by simp[ay,ax];exact⟨by simp[fresh,aO,aF,cl,inObs,Pv.look,ay,ax],eF (by simp[fresh,aO,aF,cl,inObs,Pv.look,ay,ax]),eG (by simp[fresh,aO,aF,eb,inObs,Pv.look,ay,ax]),by simp⟩) J ?_ ?_
  ·rintro bL J ae;rw[List.drop_eq_nil_of_le (by omega)]at J;simp[pj]at J;subst J;simp at nT;obtain⟨a1,bt,b2⟩:=hinv bL u2;simp[ay,ax];refine cD.ob (abP n bL o nT a1 bt b2) (ca _) (by simp only[aM,ax];exact aE) (by simp only[aM,ax];exact aE) (by simp[inObs,Pv.look,aM,ax,ay]) ?_;rintro r0 s0 ⟨rfl,cd,rfl⟩;refine⟨Same.keys (by simp[aM,ax]) (by simp[aM,ax]),?_⟩;simp[bR,aM,ax,eZ];exact cZ
  ·rintro i c hi J ae;simp only at J ae⊢;obtain⟨a,br⟩:∃a,l[i]? =some a:=⟨_,cv hi⟩;obtain⟨b,gz⟩:∃b,r[i]? =some b:=⟨_,cv (by omega)⟩;have mA:∀h,(l[i]'h)=a:=fun h=>by rw[cv hi]at br;exact fP br
   have dk:∀h,(r[i]'h)=b:=fun h=>by rw[cv h]at gz;exact fP gz
   have ra:i<r.length:=by omega
   rw[acb i a b br gz]at J;simp only[pj,hI]at J;obtain⟨bL,U,cn,ao,⟨f,dp⟩,aZ,b1⟩:=J;simp only at aZ b1;have key:=Qz n _ _ _ _ aZ;simp[ay,ax];(with_reducible repeat' first|refine aj ?_|simp[mA,dk,hi,ra]);(refine cD.ob (IG c a bL U) (by first|exact ca _|exact ca ‹_› _) (by simp only[aM,ax,ay,bO,bS];exact aE) (by simp only[aM,ax,ay,bO,bS];exact aE) (by simp[inObs,Pv.look,aM,ax,ay]) ?_;rintro r ah ⟨rfl,rfl⟩;refine⟨(Same.keys (by simp[aM,ax,ay]) (by simp[aM,ax,ay])),?_⟩;simp[bR,aM,ax,ay]);(with_reducible repeat' first|refine aj ?_|simp[mA,dk,hi,ra]);(refine cD.ob (IG bL b cn ao) (by first|exact ca _|exact ca ‹_› _) (by simp only[aM,ax,ay,bO,bS];exact aE) (by simp only[aM,ax,ay,bO,bS];exact aE) (by simp[inObs,Pv.look,aM,ax,ay]) ?_;rintro r ah ⟨rfl,rfl⟩;refine⟨(Same.keys (by simp[aM,ax,ay]) (by simp[aM,ax,ay])),?_⟩;simp[bR,aM,ax,ay]);(with_reducible repeat' first|refine aj ?_|simp[mA,dk,hi,ra]);(refine fu.ob (key) (by first|exact ca _|exact ca ‹_› _) (by first|exact ca _|exact ca ‹_› _) (Same.keys (by simp[aM,ax,ay]) (by simp[aM,ax,ay])) (by simp only[aM,ax,ay,bO,bS];exact aE) (by simp only[aM,ax,ay,bO,bS];exact aE) (by simp[inObs,Pv.look,aM,ax,ay]) ?_;simp[bR,aM,ax,ay]);cases f with
   |false=>simp at b1;subst b1;simp at nT;subst nT;(with_reducible repeat' first|refine aj ?_|simp);simp[bz,Ld,aV,aY,aT];simp[eZ]
   |true=>simp at b1;(with_reducible repeat' first|refine aj ?_|simp);refine bT.rng dp hi b1 ?_;simp[ay,ax];exact⟨by simp[fresh,aO,aF,cl,inObs,Pv.look,ay,ax],eF (by simp[fresh,aO,aF,cl,inObs,Pv.look,ay,ax]),eG (by simp[fresh,aO,aF,eb,inObs,Pv.look,ay,ax]),by simp⟩
 ·rintro i c hi J ae;simp only at J ae⊢;obtain⟨b,aJ,gk⟩:=fE hi;rw[acd i b aJ]at J;simp only[pj,hI]at J;obtain⟨bL,U,cn,ao,⟨f,dp⟩,aZ,b1⟩:=J;simp only[zo,T.foldO,gd]at U;obtain⟨⟨x,Nt⟩,U,rfl⟩:=U;simp only at U ao aZ b1;have key:=Qz n _ _ _ _ aZ;simp[ay,ax];(with_reducible repeat' first|refine aj ?_|simp[gk,hi]);(refine cD.ob (qZ c b.v x Nt U) (by first|exact ca _|exact ca ‹_› _) (by simp only[aM,ax,ay,bO,bS];exact aE) (by simp only[aM,ax,ay,bO,bS];exact aE) (by simp[inObs,Pv.look,aM,ax,ay]) ?_;rintro r ah ⟨rfl,rfl⟩;refine⟨(Same.keys (by simp[aM,ax,ay]) (by simp[aM,ax,ay])),?_⟩;simp[bR,aM,ax,ay]);(with_reducible repeat' first|refine aj ?_|simp);(refine cD.ob (IG Nt b.t cn ao) (by first|exact ca _|exact ca ‹_› _) (by simp only[aM,ax,ay,bO,bS];exact aE) (by simp only[aM,ax,ay,bO,bS];exact aE) (by simp[inObs,Pv.look,aM,ax,ay]) ?_;rintro r ah ⟨rfl,rfl⟩;refine⟨(Same.keys (by simp[aM,ax,ay]) (by simp[aM,ax,ay])),?_⟩;simp[bR,aM,ax,ay]);(with_reducible repeat' first|refine aj ?_|refine aC (kK _) ?_|refine aD (kK _) ?_|simp);(refine fu.ob (key) (by first|exact ca _|exact ca ‹_› _) (by first|exact ca _|exact ca ‹_› _) (Same.keys (by simp[aM,ax,ay]) (by simp[aM,ax,ay])) (by simp only[aM,ax,ay,bO,bS];exact aE) (by simp only[aM,ax,ay,bO,bS];exact aE) (by simp[inObs,Pv.look,aM,ax,ay]) ?_;simp[bR,aM,ax,ay]);cases f with
  |false=>simp at b1;subst b1;simp at nT;subst nT;(with_reducible repeat' first|refine aj ?_|simp);simp[bz,Ld,aV,aY,aT];simp[eZ]
  |true=>simp at b1;(with_reducible repeat' first|refine aj ?_|simp);refine bT.rng dp hi b1 ?_;simp[ay,ax];exact⟨by simp[fresh,aO,aF,cl,inObs,Pv.look,ay,ax],eF (by simp[fresh,aO,aF,cl,inObs,Pv.look,ay,ax]),eG (by simp[fresh,aO,aF,eb,inObs,Pv.look,ay,ax]),by simp⟩
theorem WJ(s:List al)(l r:List T)(aq:l.length=r.length)(af:ff s)(aQ:gy s)(au:o2 s)(wU:l.length≤1000000)(J:∀t∈l,t.ok=true)(U:∀t∈r,t.ok=true):
  b7 az 118 [.slice 5 .no (s.map al.e),.slice 4 .no (l.map T.e),.slice 4 .no (r.map T.e)] (eZ (mgu s (l.zip r))):=by
 have dA:∀e∈fN s++l.zip r,e.1.ok=true∧e.2.ok=true:=fun e he=>by
  rcases ja.1 he with he|he
  ·obtain⟨b,ae,rfl⟩:=hH.1 he;have:=au b ae;exact⟨by simpa[T.ok]using this.1,this.2⟩
  ·exact⟨J _ (List.of_mem_zip he).1,U _ (List.of_mem_zip he).2⟩
 have bV:KD (fN s++l.zip r):=fun e he v aJ=>by
  rcases aJ with aJ|aJ
  ·exact(v7 (dA e he).1 aJ).1
  ·exact(v7 (dA e he).2 aJ).1
 obtain⟨n,o,a1,bt,b2⟩:=ai7 _ bV;rw[oZ (Xn.1 bt)];refine abO n s l r aq (by have:=aQ.1;omega) wU o a1 fun c av=>?_;obtain⟨bp,a2,a3⟩:=b2 c av;have:=SN bp fun v aJ=>by
  obtain⟨e,he,aJ⟩:=a2 v aJ;rcases aJ with aJ|aJ
  ·exact v7 (dA e he).1 aJ
  ·exact v7 (dA e he).2 aJ
 refine⟨bp,by simp[ch]at this;omega,fun x=>?_⟩;simp[bm.sz,a3,tg]
structure en (s:List al):Prop where
 ok:o2 s
 sol:ff s
 fits:gy s
theorem en.len{s:List al}(h:en s):s.length≤1000000:=by have:=h.fits.1;omega
theorem en.fit{s:List al}(h:en s):yu s:=fun b ae=>by simp[T.fit,(h.ok b ae).2,h.fits.2 b ae]
theorem en.mgu{s:List al}(h:en s){E:List (T×T)}(dA:∀e∈E,e.1.ok=true∧e.2.ok=true){ah:List al}(hm:mgu s E=some ah):en ah:=⟨afh h.sol h.fits h.ok dA hm,(rz h.sol h.fits hm).1,(rz h.sol h.fits hm).2⟩
theorem zn(s:List al):(s.map al.b).map dU.e=s.map al.e:=by rw[List.map_map];exact List.map_congr_left fun b _=>al.b_e b
theorem oo{s:List al}(h:en s):b7 az 55 [.slice 5 .no (s.map al.e)] (.bool true):=by have:=Mp (s.map al.b);rw[zn,vT.2 ⟨s,rfl,h.ok,h.sol,h.fits⟩]at this;exact this
def aeu(t:List al)(i:Nat)(p:List T×List T):Prop:=p.1=(t.take i).map (fun b=>T.var b.v)∧p.2=(t.take i).map (·.t)
theorem ajW(t:List al)(aN:t.length≤1000000):b7 az 201 [.slice 5 .no (t.map al.e)] (.tuple [.slice 4 .no ((t.map fun b=>T.var b.v).map T.e),.slice 4 .no ((t.map (·.t)).map T.e)]):=by
 generalize b4:((t.map fun b=>T.var b.v).map T.e)=R1;generalize QX:((t.map fun x=>x.t).map T.e)=R2;have gj:∀S:aH→Prop,aO S R1=True:=fun S=>by rw[←b4];exact SV S _
 have jX:∀S:aH→Prop,aO S R2=True:=fun S=>by rw[←QX];exact SV S _
 refine b7.mk mixed qD ZM af9 (by simp) (by simp[aF,gj,jX]) fun aU=>?_;unfold N0;simp;refine ir (α:=List T×List T) (fun i p=>⟨[(10,.slice 5 .no (t.map al.e)),(11,.int .i64 t.length),(4,.slice 4 (.own (.loc 0)) (p.1.map T.e)),(5,.slice 4 (.own (.loc 1)) (p.2.map T.e)),(12,.int .i64 i)],[],[(.loc 0,⟨p.1.length,32,4,none⟩),(.loc 1,⟨p.2.length,32,4,none⟩)],2,[]⟩) t.length (aeu t) ([],[]) cu ⟨by simp,by simp⟩ (fun p ag _=>?_) (fun i p hi ag _=>?_)
 ·obtain⟨A,B⟩:=p;obtain⟨bd,iP⟩:=ag;simp only at bd iP⊢;rw[ha (e1 _)]at bd iP;rw[←b4,←QX,←bd,←iP];simp;(with_reducible repeat' first|refine aj ?_|simp);simp[bz,UG,aV,aY,aT]
 ·obtain⟨A,B⟩:=p;obtain⟨bd,iP⟩:=ag;simp only at bd iP⊢;obtain⟨b,aJ,gk⟩:=fE hi;have ve:t.take (i+1)=t.take i++[b]:=by rw[List.take_succ,aJ];rfl
  have ab7:A.length≤1000000:=by rw[bd];simp;omega
  have ab8:B.length≤1000000:=by rw[iP];simp;omega
  simp[hi,gk];((with_reducible repeat' first|refine aj ?_|refine aC (kK _) ?_|refine aD (kK _) ?_|simp[gk,hi]|((first|apply bI|apply bK|apply bJ)<;>intro h<;>try simp at h))<;>(try exact cm));all_goals first|(refine⟨by unfold lim;omega,?_⟩)|skip
  (with_reducible repeat' first|refine aj ?_|simp);all_goals first|(refine⟨by unfold lim;omega,?_⟩)|skip
  (with_reducible repeat' first|refine aj ?_|simp);refine bT.rng (A++[.var b.v],B++[b.t]) hi ⟨by rw[ve,bd];simp,by rw[ve,iP];simp⟩ ?_;simp;exact⟨by simp[fresh,aO,aF,cl,inObs,Pv.look,iT],eF (by simp[fresh,aO,aF,cl,inObs,Pv.look,iT]),eG (by simp[fresh,aO,aF,eb,inObs,Pv.look,iT]),by simp⟩
theorem ajK{s t:List al}(af:en s)(aN:en t):b7 az 122 [.slice 5 .no (s.map al.e),.slice 5 .no (t.map al.e)] (eZ (mgu s (fN t))):=by
 have bf:(t.map fun b=>T.var b.v).zip (t.map (·.t))=fN t:=by rw[fN,List.zip_map']
 have key:=WJ s (t.map fun b=>T.var b.v) (t.map (·.t)) (by simp) af.sol af.fits af.ok (by simpa using aN.len) (fun x ad=>by
  obtain⟨b,ae,rfl⟩:=hH.1 ad;have:=aN.ok b ae;simpa[T.ok]using this.1) (fun x ad=>by
  obtain⟨b,ae,rfl⟩:=hH.1 ad;exact(aN.ok b ae).2)
 rw[bf]at key;have heq:=ajW t aN.len;generalize (t.map fun b=>T.var b.v)=A at key heq;generalize (t.map fun x=>x.t)=B at key heq;refine bE qD Zo afL fun aU=>?_;unfold NB;simp;(with_reducible repeat' first|refine aj ?_|refine aC (oo af) ?_|refine aD (oo af) ?_|refine aC (oo aN) ?_|refine aD (oo aN) ?_|refine aC heq ?_|refine aD heq ?_|refine aC key ?_|refine aD key ?_|simp);simp[bz,Us,aV,aY,aT];simp[eZ]
end Go.Proofs.YtohaalphocaebaaGreat
namespace Go.Pv
open Go
structure jn {α:Type} (c:α→α→Int):Prop where
 neg:∀a b,c b a= -c a b
 tr:∀a b d,c a b≤0→c b d≤0→c a d≤0
 zero:∀a b,c a b=0↔a=b
section
variable {α:Type} {c:α→α→Int}
def iD(c:α→α→Int)(a b:α):Bool:=decide (c a b<0)
theorem jn.ltOk(h:jn c):pY (iD c):=by
 refine⟨fun x y hB=>?_,fun x y z J U=>?_⟩
 ·simp only[iD,fI,j4]at hB⊢;rw[h.neg x y];omega
 ·simp only[iD,j4]at J U⊢;have ak:=h.neg x y;have aA:=h.neg y z;have bs:=h.neg x z;have:=h.tr x y z (by omega) (by omega);omega
theorem jn.refl(h:jn c)(a:α):c a a=0:=(h.zero a a).2 rfl
theorem jn.ltr(h:jn c){a b d:α}(J:c a b<0)(U:c b d≤0):c a d<0:=by
 have ao:=h.tr a b d (by omega) U;rcases(by omega:c a d<0∨c a d=0)with aZ|aZ
 ·exact aZ
 ·obtain rfl:=(h.zero a d).1 aZ;have:=h.neg a b;omega
def nv(c:α→α→Int)(l:List α):List α:=l.mergeSort fun x y=>decide (c x y≤0)
theorem vR(c:α→α→Int)(l:List α):(nv c l).Perm l:=List.mergeSort_perm l _
theorem L3(h:jn c)(l:List α):(nv c l).Pairwise fun x y=>c x y≤0:=by have:=List.pairwise_mergeSort (le:=fun x y=>decide (c x y≤0)) (fun a b d J U=>by simp at J U⊢;exact h.tr a b d J U) (fun a b=>by simp;have:=h.neg a b;omega) l;exact this.imp (by simp)
theorem VS(h:jn c){l aX:List α}(bF:aX.Perm l)(af:aX.Pairwise fun x y=>iD c y x=false):aX=nv c l:=by refine ML (le:=fun x y=>c x y≤0) (fun x y _ _ J U=>(h.zero x y).1 (by have:=h.neg x y;omega)) (af.imp fun{x y} hB=>?_) (L3 h l) (bF.trans (vR c l).symm);simp only[iD,j4]at hB;have:=h.neg x y;omega
def cB[DecidableEq α](p:Option α):List α→List α
 |[]=>[]
 |x::r=>if p=some x then cB (some x) r else x::cB (some x) r
def asc[DecidableEq α](c:α→α→Int)(l:List α):List α:=cB none (nv c l)
def hb(c:α→α→Int)(l:List α):Prop:=l.Pairwise fun x y=>c x y<0
variable [DecidableEq α]
theorem PA:∀(l:List α) (p:Option α),(cB p l).length≤l.length
 |[],_=>by simp[cB]
 |x::r,p=>by have:=PA r (some x);simp only[cB];split<;>simp<;>omega
theorem XJ(c:α→α→Int)(l:List α):(asc c l).length≤l.length:=by have J:=PA (nv c l) none;have U:=(vR c l).length_eq;unfold asc;omega
theorem HU:∀(l:List α) (p:Option α) (x:α),x∈cB p l→x∈l
 |[],_,_,h=>by simp[cB]at h
 |y::r,p,x,h=>by
  simp only[cB]at h;split at h
  ·exact mX _ (HU r _ x h)
  ·rcases ga.1 h with rfl|h
   ·simp
   ·exact mX _ (HU r _ x h)
theorem Km:∀(l:List α) (p:Option α) (x:α),x∈l→x∈cB p l∨p=some x
 |y::r,p,x,h=>by
  simp only[cB];rcases ga.1 h with rfl|h
  ·split
   ·rename_i U;exact .inr U
   ·simp
  ·split
   ·rename_i U;rcases Km r (some y) x h with ao|ao
    ·exact .inl ao
    ·cases ao;exact .inr U
   ·rcases Km r (some y) x h with ao|ao
    ·exact .inl (mX _ ao)
    ·cases ao;simp
theorem PB(av:jn c):∀(l:List α) (p:Option α),l.Pairwise (fun x y=>c x y≤0)→(∀y,p=some y→∀x∈l,c y x≤0)→hb c (cB p l)∧∀y,p=some y→∀x∈cB p l,c y x<0
 |[],p,_,_=>⟨apU,fun y _ x ad=>by simp[cB]at ad⟩
 |z::r,p,h,bF=>by
  obtain⟨J,U⟩:=ml.1 h;have bW:=PB av r (some z) U (fun y aG x ad=>by cases aG;exact J x ad);simp only[cB];split
  ·rename_i ao;subst ao;exact bW
  ·rename_i ao;refine⟨ml.2 ⟨fun x ad=>bW.2 z rfl x ad,bW.1⟩,fun y aG x ad=>?_⟩;subst aG;have rp:c y z<0:=by
    have aZ:=bF y rfl z (by simp);rcases(by omega:c y z<0∨c y z=0)with b1|b1
    ·exact b1
    ·exact absurd (eO some ((av.zero y z).1 b1)) ao
   rcases ga.1 ad with rfl|ad
   ·exact rp
   ·exact av.ltr rp (by have:=bW.2 z rfl x ad;omega)
theorem Hk(av:jn c)(l:List α):hb c (asc c l):=(PB av _ none (L3 av l) (fun y h=>by cases h)).1
theorem Tr(l:List α)(x:α):x∈asc c l↔x∈l:=by
 constructor
 ·intro h;exact(vR c l).mem_iff.1 (HU _ _ _ h)
 ·intro h;rcases Km (nv c l) none x ((vR c l).mem_iff.2 h)with h|h
  ·exact h
  ·cases h
omit [DecidableEq α]in
theorem hb.ext(av:jn c){l aX:List α}(h:hb c l)(cA:hb c aX)(hm:∀x,x∈l↔x∈aX):l=aX:=by
 have aK:∀{l:List α},hb c l→l.Nodup:=fun{l} h=>h.imp fun{a b} h e=>by subst e;have:=av.refl a;omega
 refine ML (le:=fun x y=>c x y≤0) (fun x y _ _ J U=>(av.zero x y).1 (by have:=av.neg x y;omega)) (h.imp fun h=>by omega) (cA.imp fun h=>by omega) ?_;exact(List.perm_ext_iff_of_nodup (aK h) (aK cA)).2 hm
omit [DecidableEq α]in
theorem hb.nodup(av:jn c){l:List α}(h:hb c l):l.Nodup:=h.imp fun{a b} h e=>by subst e;have:=av.refl a;omega
end
theorem Hp:∀a b:List cV,gZ a b=true→gZ b a=false
 |_,[],h=>by simp[gZ]at h
 |[],_::_,_=>by simp[gZ]
 |x::a,y::b,h=>by
  simp only[gZ,lQ,fI,cx,dH]at h;simp only[gZ,Bool.or_eq_false_iff,j4,Bool.and_eq_false_iff];rcases h with h|⟨rfl,h⟩
  ·refine⟨fun U=>?_,.inl ?_⟩
   ·rw[UInt8.lt_iff_toNat_lt]at h U;omega
   ·simp;intro e;subst e;rw[UInt8.lt_iff_toNat_lt]at h;omega
  ·exact⟨fun U=>by rw[UInt8.lt_iff_toNat_lt]at U;omega,.inr (Hp a b h)⟩
theorem Ni:∀a b:List cV,a≠b→gZ a b=false→gZ b a=true
 |[],[],h,_=>absurd rfl h
 |x::a,[],_,_=>by simp[gZ]
 |[],_::_,_,h=>by simp[gZ]at h
 |x::a,y::b,cC,h=>by
  simp only[gZ,Bool.or_eq_false_iff,j4,Bool.and_eq_false_iff]at h;simp only[gZ,lQ,fI,cx,dH];by_cases e:x=y
  ·subst e;right;refine⟨rfl,Ni a b (fun e=>cC (by rw[e])) ?_⟩;rcases h.2 with U|U
   ·simp at U
   ·exact U
  ·left;have J:=h.1;rw[UInt8.lt_iff_toNat_lt]at J⊢;have:x.toNat≠y.toNat:=fun h=>e (UInt8.toNat_inj.1 h);omega
theorem Nh:∀a b d:List cV,gZ a b=true→gZ b d=true→gZ a d=true
 |_,[],_,h,_=>by simp[gZ]at h
 |_,_::_,[],_,h=>by simp[gZ]at h
 |[],_::_,_::_,_,_=>by simp[gZ]
 |x::a,y::b,z::d,J,U=>by
  simp only[gZ,lQ,fI,cx,dH,UInt8.lt_iff_toNat_lt]at J U⊢;rcases J with J|⟨rfl,J⟩<;>rcases U with U|⟨rfl,U⟩
  ·left;omega
  ·left;exact J
  ·left;exact U
  ·exact .inr ⟨rfl,Nh a b d J U⟩
theorem j1:jn ek:=by
 refine⟨fun a b=>?_,fun a b d=>?_,fun a b=>?_⟩
 ·simp only[ek];repeat' split
  all_goals omega
 ·simp only[ek];repeat' split
  all_goals omega
 ·simp only[ek];repeat' split
  all_goals omega
theorem Cm:jn kn:=by
 have ar:∀a b,kn b a= -kn a b:=fun a b=>by
  simp only[kn];by_cases e:a=b
  ·subst e;simp
  ·rw[if_neg e,if_neg (kO e)];cases h:gZ a b with
   |true=>simp[Hp a b h]
   |false=>simp[Ni a b e h]
 refine⟨ar,fun a b d J U=>?_,fun a b=>?_⟩
 ·simp only[kn]at J U⊢;by_cases ak:a=b
  ·subst ak;exact U
  ·by_cases aA:b=d
   ·subst aA;exact J
   ·rw[if_neg ak]at J;rw[if_neg aA]at U;have g1:gZ a b=true:=by cases h:gZ a b<;>simp[h]at J⊢
    have g2:gZ b d=true:=by cases h:gZ b d<;>simp[h]at U⊢
    rw[Nh a b d g1 g2];split<;>simp
 ·simp only[kn];by_cases e:a=b
  ·simp[e]
  ·rw[if_neg e];simp[e];split<;>omega
theorem rD{a b:T}(h:a.kind≠b.kind):ei a b=ek a.kind b.kind:=by cases a<;>cases b<;>simp at h<;>simp[ei]
theorem FH:∀a b:T,ei b a= -ei a b
 | .pair a b,.pair c d=>by
  simp only[ei];have J:=FH a c;have U:=FH b d;by_cases e:ei a c=0
  ·rw[if_pos e,if_pos (by omega),U]
  ·rw[if_neg e,if_neg (by omega),J]
 | .nil,y=>by
  by_cases ab:T.nil.kind=y.kind
  ·cases y<;>simp at ab;simp[ei,kn]
  ·rw[rD ab,rD (kO ab),j1.neg]
 | .var n,y=>by
  by_cases ab:(T.var n).kind=y.kind
  ·cases y<;>simp at ab;rename_i m;by_cases e:n=m
   ·subst e;simp[ei,kn]
   ·simp[ei,e,kO e,j1.neg n m]
  ·rw[rD ab,rD (kO ab),j1.neg]
 | .sym s,y=>by
  by_cases ab:(T.sym s).kind=y.kind
  ·cases y<;>simp at ab;rename_i m;simp[ei,Cm.neg s m]
  ·rw[rD ab,rD (kO ab),j1.neg]
 | .num n,y=>by
  by_cases ab:(T.num n).kind=y.kind
  ·cases y<;>simp at ab;rename_i m;by_cases e:n=m
   ·subst e;simp[ei,kn]
   ·simp[ei,e,kO e,j1.neg n m]
  ·rw[rD ab,rD (kO ab),j1.neg]
 | .pair a b,.nil| .pair a b,.var _| .pair a b,.sym _| .pair a b,.num _=>by simp[ei,ek]
theorem FG{a b:T}(h:ei a b≤0):a.kind≤b.kind:=by
 by_cases ab:a.kind=b.kind
 ·omega
 ·rw[rD ab]at h;simp only[ek]at h;repeat' split at h
  all_goals omega
theorem Ue(n m:Int):ei (.var n) (.var m)=ek n m:=by
 simp only[ei,T.kind,T.int,T.name,kn];by_cases e:n=m
 ·subst e;simp[ek]
 ·simp[e]
theorem Ud(n m:Int):ei (.num n) (.num m)=ek n m:=by
 simp only[ei,T.kind,T.int,T.name,kn];by_cases e:n=m
 ·subst e;simp[ek]
 ·simp[e]
theorem ahq(n m:List cV):ei (.sym n) (.sym m)=kn n m:=by simp[ei]
theorem FI(a b d:T)(br:a.kind≠4)(J:ei a b≤0)(U:ei b d≤0):ei a d≤0:=by
 have aR:=FG J;have be:=FG U;by_cases ab:a.kind=d.kind
 ·cases a<;>cases d<;>simp at ab br;all_goals(cases b<;>simp at aR be)
  ·simp[ei,kn]
  ·rw[Ue]at J U⊢;exact j1.tr _ _ _ J U
  ·rw[ahq]at J U⊢;exact Cm.tr _ _ _ J U
  ·rw[Ud]at J U⊢;exact j1.tr _ _ _ J U
 ·rw[rD ab];simp only[ek];repeat' split
  all_goals omega
theorem ahr:∀a b d:T,ei a b≤0→ei b d≤0→ei a d≤0:=by
 intro a;induction a with
 |pair bp a2 EY EZ=>
  intro b d J U;have aR:=FG J;have be:=FG U;cases b<;>simp at aR;all_goals(cases d<;>simp at be)
  rename_i b8 b3 d1 d2;simp only[ei]at J U⊢;by_cases ak:ei bp b8=0
  ·obtain rfl:=(qx bp b8).1 ak;rw[if_pos ak]at J;by_cases aA:ei bp d1=0
   ·rw[if_pos aA]at U⊢;exact EZ b3 d2 J U
   ·rw[if_neg aA]at U⊢;exact U
  ·rw[if_neg ak]at J;by_cases aA:ei b8 d1=0
   ·obtain rfl:=(qx b8 d1).1 aA;rw[if_neg ak];exact J
   ·rw[if_neg aA]at U;have ao:=EY b8 d1 J U;by_cases bs:ei bp d1=0
    ·obtain rfl:=(qx bp d1).1 bs;have:=FH bp b8;omega
    ·rw[if_neg bs];exact ao
 |nil=>exact fun b d=>FI _ b d (by simp)
 |var n=>exact fun b d=>FI _ b d (by simp)
 |sym n=>exact fun b d=>FI _ b d (by simp)
 |num n=>exact fun b d=>FI _ b d (by simp)
theorem KV:jn ei:=⟨FH,ahr,qx⟩
end Go.Pv
namespace Go.Proofs.YtohaalphocaebaaGreat
open Go Go.Pv
theorem oi{α:Type}{t:List α}{i:Nat}{b:α}(aJ:t[i]? =some b):t.take (i+1)=t.take i++[b]:=by rw[List.take_succ,aJ];rfl
def ds(s t:List al):List al:=t.filter fun b=>(c0 s b.v).isNone
def qs(s t:List al)(i:Nat)(out:List al):Prop:=out=ds s (t.take i)
theorem Wg{s t:List al}(af:en s)(aN:en t):b7 az 123 [.slice 5 .no (s.map al.e),.slice 5 .no (t.map al.e)] (.slice 5 .no ((ds s t).map al.e)):=by
 have adK:=aN.len;generalize b4:ds s t=R;refine bE qD Zt afQ fun aU=>?_;unfold NH;simp;(with_reducible repeat' first|refine aj ?_|refine aC (oo af) ?_|refine aD (oo af) ?_|refine aC (oo aN) ?_|refine aD (oo aN) ?_|simp);refine ir (α:=List al) (fun i out=>⟨[(0,.slice 5 .no (s.map al.e)),(17,.slice 5 .no (t.map al.e)),(18,.int .i64 t.length),(5,.slice 5 (.own (.loc 0)) (out.map al.e)),(19,.int .i64 i)],[],[(.loc 0,⟨out.length,61,5,none⟩)],1,[]⟩) t.length (qs s t) [] cu (by simp[qs,ds]) (fun out ag _=>?_) (fun i out hi ag _=>?_)
 ·rw[qs,ha (e1 _),b4]at ag;rw[←ag];exact cZ
 ·obtain⟨b,aJ,gk⟩:=fE hi;have yT:out.length≤1000000:=by
   have:out.length≤(t.take i).length:=by rw[ag];exact List.length_filter_le _ _
   simp at this;omega
  have qg:=Qn af.sol.asc b.v;simp[hi,gk];by_cases ae:mv s b.v<0
  ·(with_reducible repeat' first|refine aj ?_|refine aC (sZ s b.v af.len) ?_|refine aD (sZ s b.v af.len) ?_|refine aC (sX _) ?_|refine aD (sX _) ?_|simp[gk,hi,ae]);all_goals first|(refine⟨by unfold lim;omega,?_⟩)|skip
   (with_reducible repeat' first|refine aj ?_|simp);refine bT.rng (out++[b]) hi (by rw[qs,oi aJ,ds,List.filter_append,ag];simp[ds,qg.1 ae]) ?_;simp;exact⟨by simp[fresh,aO,aF,cl,inObs,Pv.look,iT],eF (by simp[fresh,aO,aF,cl,inObs,Pv.look,iT]),eG (by simp[fresh,aO,aF,eb,inObs,Pv.look,iT]),by simp⟩
  ·(with_reducible repeat' first|refine aj ?_|refine aC (sZ s b.v af.len) ?_|refine aD (sZ s b.v af.len) ?_|simp[gk,hi,ae]);refine bT.rng out hi (by
    have:c0 s b.v≠none:=fun e=>ae (qg.2 e);rw[qs,oi aJ,ds,List.filter_append,ag];cases e:c0 s b.v with
    |none=>exact absurd e this
    |some x=>simp[ds,e]) ?_
   exact cu
def E4(t:List al)(i:Nat)(out:List al):Prop:=out=t.take i
theorem C1(t:List al)(aN:t.length≤1000000):b7 az 119 [.slice 5 .no (t.map al.e)] (.slice 5 .no (t.map al.e)):=by
 refine bE qD ZK af7 fun aU=>?_;unfold NY;simp;refine ir (α:=List al) (fun i out=>⟨[(7,.slice 5 .no (t.map al.e)),(8,.int .i64 t.length),(3,.slice 5 (.own (.loc 0)) (out.map al.e)),(9,.int .i64 i)],[],[(.loc 0,⟨out.length,61,5,none⟩)],1,[]⟩) t.length (E4 t) [] cu (by simp[E4]) (fun out ag _=>?_) (fun i out hi ag _=>?_)
 ·rw[E4,ha (e1 _)]at ag;subst ag;exact cZ
 ·obtain⟨b,aJ,gk⟩:=fE hi;have yT:out.length≤1000000:=by rw[ag];simp;omega
  simp[hi,gk];(with_reducible repeat' first|refine aj ?_|refine aC (sX _) ?_|refine aD (sX _) ?_|simp[gk,hi]);all_goals first|(refine⟨by unfold lim;omega,?_⟩)|skip
  (with_reducible repeat' first|refine aj ?_|simp);refine bT.rng (out++[b]) hi (by rw[E4,oi aJ,ag]) ?_;simp;exact⟨by simp[fresh,aO,aF,cl,inObs,Pv.look,iT],eF (by simp[fresh,aO,aF,cl,inObs,Pv.look,iT]),eG (by simp[fresh,aO,aF,eb,inObs,Pv.look,iT]),by simp⟩
def qv(t:List al)(b:al):Bool:=decide (bP t b.v=b.t.ap (bP t))
def ls(s t:List al):Bool:=s.all (qv t)
theorem CP{t:List al}(aN:en t)(v:Int):(bP t v).size≤5000:=by
 unfold bP;cases e:c0 t v with
 |none=>simp[T.size]
 |some x=>exact aN.fits.2 _ (jT e)
theorem WD(s:List al){t:List al}(af:s.length≤1000000)(aN:en t):b7 az 205 [.slice 5 .no (s.map al.e),.slice 5 .no (t.map al.e)] (.bool (ls s t)):=by
 refine bE qD ZP agc fun aU=>?_;unfold N3;simp;refine gh [1,11,12] (fun i (_:Unit)=>[(13,.int .i64 i)]) s.length (qq (qv t) s) () cu (fun k b ab=>by omega) (fun _ ag _=>?_) (fun i _ hi ag _=>?_)
 ·have:ls s t=true:=by rw[ls,jD];intro b ae;obtain⟨k,ab,e⟩:=ov ae;exact ag k b ab (by rw[cv ab,e])
  rw[this];exact cZ
 ·obtain⟨b,aJ,gk⟩:=fE hi;have hN:qv t b=false→ls s t=false:=fun h=>by rw[Bool.eq_false_iff];intro cA;rw[ls,jD]at cA;rw[cA b (gb aJ)]at h;cases h
  have aR:=GQ t (.var b.v) aN.len aN.sol.asc aN.fit;have be:=GQ t b.t aN.len aN.sol.asc aN.fit;have w4:=CP aN b.v;have EW:((T.var b.v).ap (bP t)).size≤5000:=w4;rw[if_pos EW,lA EW]at aR;rw[show(T.var b.v).ap (bP t)=bP t b.v from rfl]at aR;simp[hi,gk];by_cases bf:(b.t.ap (bP t)).size≤5000
  ·rw[if_pos bf,lA bf]at be;by_cases he:bP t b.v=b.t.ap (bP t)
   ·rw[he]at aR;(with_reducible repeat' first|refine aj ?_|refine aC (kK _) ?_|refine aD (kK _) ?_|refine aC aR ?_|refine aD aR ?_|refine aC be ?_|refine aD be ?_|refine aC (sY _ _) ?_|refine aD (sY _ _) ?_|simp[gk,hi,he]);exact bT.rng () hi (ag.step aJ (by simp[qv,he])) cu
   ·rw[hN (by simp[qv,he])];(with_reducible repeat' first|refine aj ?_|refine aC (kK _) ?_|refine aD (kK _) ?_|refine aC aR ?_|refine aD aR ?_|refine aC be ?_|refine aD be ?_|refine aC (sY _ _) ?_|refine aD (sY _ _) ?_|simp[gk,hi,he]);simp[bz,La,aV,aY,aT]
  ·rw[if_neg bf,lS bf]at be;rw[hN (by simp only[qv,j4];intro e;rw[←e]at bf;exact bf w4)];(with_reducible repeat' first|refine aj ?_|refine aC (kK _) ?_|refine aD (kK _) ?_|refine aC aR ?_|refine aD aR ?_|refine aC be ?_|refine aD be ?_|refine aC (sY _ _) ?_|refine aD (sY _ _) ?_|simp[gk,hi]);simp[bz,La,aV,aY,aT]
def Hu:C:=(aa [cW 3 0,cW 4 1,cW 5 2,cU 6 e7,bH 7 false] (.seq (aa [ba 13 5 3,ba 14 4 4,ba 15 4 5,dR 16 4 32 [.t 14,.t 15],cw 17 47 13 16,cI 18 17] (a8 18 (aa [gB 19 e7 [],bG 5 6 19,bH 7 false] .ret) .skip)) (aa [aP 21 1 1 3,aB 22 1 21,ba 23 4 4,ba 24 4 5,cX 25 48 [.t 22,.t 23,.t 24],I 20 25,cq 26 0 20,cq 27 1 20,I 8 26,I 9 27] (.seq (aa [I 28 9,cI 29 28] (a8 29 (aa [gB 30 e7 [],bG 5 6 30,bH 7 false] .ret) .skip)) (aa [ba 31 5 3,cL 32 49 31,cU 10 e7,bG 5 10 32] (aa [I 33 8,aP 34 1 1 10,bG 1 34 33] (aa [ba 36 5 10,cL 37 50 36,I 35 37,cq 38 0 35,cq 39 1 35,cU 11 e7,bG 5 11 38,I 12 39] (aa [ba 40 5 11,I 41 12,bG 5 6 40,I 7 41] .ret))))))))
@[simp] def K4:List bu:=[.cell 6 true 5,.tmp 7]
def DA:C:=(aa [cW 3 0,cW 4 1,cW 5 2,cU 6 e7,bH 7 false] (.seq (aa [ba 13 5 3,ba 14 4 4,ba 15 4 5,dR 16 4 32 [.t 14,.t 15],cw 17 47 13 16,cI 18 17] (a8 18 (aa [gB 19 e7 [],bG 5 6 19,bH 7 false] .ret) .skip)) (aa [aP 21 1 1 3,aB 22 1 21,ba 23 4 4,ba 24 4 5,cX 25 51 [.t 22,.t 23,.t 24],I 20 25,cq 26 0 20,cq 27 1 20,I 8 26,I 9 27] (.seq (aa [I 28 9,aW 29 .gtr 28 1] (a8 29 (aa [gB 30 e7 [],bG 5 6 30,bH 7 false] .ret) .skip)) (aa [ba 31 5 3,cL 32 49 31,cU 10 e7,bG 5 10 32] (.seq (aa [I 33 9,aW 34 .eql 33 0] (a8 34 (.region [aP 35 2 1 10,aB 36 1 35,I 37 8,dR 38 1 23 [.t 37],gC 39 1 23 36 38,aP 40 2 1 10,bG 1 40 39]) .skip)) (aa [ba 42 5 10,cL 43 50 42,I 41 43,cq 44 0 41,cq 45 1 41,cU 11 e7,bG 5 11 44,I 12 45] (aa [ba 46 5 11,I 47 12,bG 5 6 46,I 7 47] .ret))))))))
@[simp] def Ur:List bu:=[.cell 6 true 5,.tmp 7]
def DB:C:=(aa [cW 3 0,cW 4 1,cU 6 e7,bH 7 false] (.seq (aa [ba 13 5 3,ba 14 4 4,dR 15 4 32 [.t 14],cw 16 47 13 15,cI 17 16] (a8 17 (aa [gB 18 e7 [],bG 5 6 18,bH 7 false] .ret) .skip)) (aa [aP 20 1 1 3,aB 21 1 20,aP 22 3 1 3,aB 23 1 22,ba 24 4 4,I 25 2,cX 26 52 [.t 21,.t 23,.t 24,.t 25],I 19 26,cq 27 0 19,cq 28 1 19,I 8 27,I 9 28] (.seq (aa [I 29 9,cI 30 29] (a8 30 (aa [gB 31 e7 [],bG 5 6 31,bH 7 false] .ret) .skip)) (aa [ba 32 5 3,cL 33 49 32,cU 10 e7,bG 5 10 33] (aa [I 34 8,aP 35 3 1 10,bG 1 35 34] (aa [ba 37 5 10,cL 38 50 37,I 36 38,cq 39 0 36,cq 40 1 36,cU 11 e7,bG 5 11 39,I 12 40] (aa [ba 41 5 11,I 42 12,bG 5 6 41,I 7 42] .ret))))))))
@[simp] def ahO:List bu:=[.cell 6 true 5,.tmp 7]
def DC:C:=(aa [cW 3 0,cW 4 1,cU 6 e7,bH 7 false] (.seq (aa [ba 13 5 3,ba 14 4 4,dR 15 4 32 [.t 14],cw 16 47 13 15,cI 17 16] (a8 17 (aa [gB 18 e7 [],bG 5 6 18,bH 7 false] .ret) .skip)) (aa [aP 20 1 1 3,aB 21 1 20,aP 22 4 1 3,aB 23 1 22,ba 24 4 4,I 25 2,cX 26 54 [.t 21,.t 23,.t 24,.t 25],I 19 26,cq 27 0 19,cq 28 1 19,I 8 27,I 9 28] (.seq (aa [I 29 9,cI 30 29] (a8 30 (aa [gB 31 e7 [],bG 5 6 31,bH 7 false] .ret) .skip)) (aa [ba 32 5 3,cL 33 49 32,cU 10 e7,bG 5 10 33] (aa [I 34 8,aP 35 4 1 10,bG 1 35 34] (aa [ba 37 5 10,cL 38 50 37,I 36 38,cq 39 0 36,cq 40 1 36,cU 11 e7,bG 5 11 39,I 12 40] (aa [ba 41 5 11,I 42 12,bG 5 6 41,I 7 42] .ret))))))))
@[simp] def ahP:List bu:=[.cell 6 true 5,.tmp 7]
@[simp] def aoB:List bu:=[.cell 6 true 5,.tmp 7]
@[simp] def aoz:List bu:=[.tmp 4]
@[simp] def aoF:List bu:=[.tmp 4]
@[simp] def aob:List bu:=[.tmp 4]
def DF:C:=(aa [cW 2 0,bH 4 false] (.seq (.drawn true 18 [ba 5 5 2,cL 6 18 5,I 7 6,bU 7 true 8 1,aw 7 true (cL 9 68 8),dr 10 7 9,I 11 10,bU 11 true 12 1,aw 11 true (cL 13 116 12),aw 11 true (aP 14 0 1 2),aw 11 true (aB 15 1 14),aw 11 true (bA 16 .leq 13 15),dr 17 11 16,I 4 17]) .ret))
@[simp] def ah0:List bu:=[.tmp 4]
def NL:C:=(aa [cW 4 1,cW 5 2,eC 6 5,bH 7 false] (.seq (aa [I 8 0,cL 9 55 8,cI 10 9,I 11 10,aw 11 false (ba 12 4 4),aw 11 false (cL 13 117 12),aw 11 false (cI 14 13),dj 15 11 14,I 16 15,aw 16 false (ba 17 4 5),aw 16 false (cL 18 117 17),aw 16 false (cI 19 18),dj 20 16 19] (a8 20 (aa [eC 6 5,bH 7 false] .ret) .skip)) (aa [I 21 0,ba 22 4 4,dR 23 4 32 [.t 22],ba 24 4 5,dR 25 4 32 [.t 24],cX 26 118 [.t 21,.t 23,.t 25],cq 27 0 26,cq 28 1 26,I 6 27,I 7 28] .ret)))
@[simp] def ahU:List bu:=[.tmp 6,.tmp 7]
def Hz:C:=(aa [cW 1 0,cU 2 e7] (.seq (.drawn true 39 [aP 6 0 1 1,aB 7 1 6,aP 8 1 1 1,aB 9 1 8,cL 10 119 9,dR 11 1 23 [],gB 12 e7 [(0,1,(.t 7)),(1,1,(.t 10)),(2,1,(.t 11))],cU 3 e7,bG 5 3 12]) (.seq (aa [aP 13 2 1 1,aB 14 1 13,cS 15 14,cr 16 0] (fY 17 16 15 (.seq (.block 1 (aa [cN 18 1 14 16,aB 19 1 18,I 5 19] (.drawn true 39 [aP 20 2 1 3,aB 21 1 20,I 22 5,cL 23 119 22,dR 24 1 23 [.t 23],gC 25 1 23 21 24,aP 26 2 1 3,bG 1 26 25]))) (.region [aW 27 .add 16 1,I 16 27])))) (aa [dR 28 2 104 [],aP 29 3 1 1,aB 30 1 29,gC 31 2 104 28 30,aP 32 3 1 3,bG 1 32 31] (aa [dR 33 2 106 [],aP 34 4 1 1,aB 35 1 34,gC 36 2 106 33 35,aP 37 4 1 3,bG 1 37 36] (aa [ba 38 5 3,bG 5 2 38] .ret))))))
@[simp] def UD:List bu:=[.cell 2 true 5]
def Ht:C:=(aa [cW 4 1,cW 5 2,eC 6 5,cr 7 0] (.seq (aa [I 12 0,cL 13 55 12,cI 14 13,I 15 14,aw 15 false (ba 16 4 4),aw 15 false (cL 17 117 16),aw 15 false (cI 18 17),dj 19 15 18,I 20 19,aw 20 false (ba 21 4 5),aw 20 false (cL 22 117 21),aw 20 false (cI 23 22),dj 24 20 23] (a8 24 (aa [eC 6 5,cr 7 3] .ret) .skip)) (aa [I 26 0,ba 27 4 4,ba 28 4 5,cX 29 48 [.t 26,.t 27,.t 28],I 25 29,cq 30 0 25,cq 31 1 25,I 8 30,I 9 31] (aa [I 33 0,I 34 8,I 35 9,cX 36 125 [.t 33,.t 34,.t 35],I 32 36,cq 37 0 32,cq 38 1 32,I 10 37,I 11 38] (aa [I 39 10,I 40 11,I 6 39,I 7 40] .ret)))))
@[simp] def ahM:List bu:=[.tmp 6,.tmp 7]
@[simp] def aoP:List bu:=[.cell 12 true 5,.tmp 13]
@[simp] def aoK:List bu:=[.tmp 2]
@[simp] def aoE:List bu:=[.tmp 2]
@[simp] def aoR:List bu:=[.tmp 4]
@[simp] def aok:List bu:=[.tmp 4]
def p6:C:=(aa [cW 6 0,cW 8 2,cW 9 3,cU 12 e7,bH 13 false] (aa [ba 21 5 6,cU 14 e7,bG 5 14 21] (aa [bH 15 true] (.seq (aa [I 22 1,aW 23 .lss 22 2] (a8 23 (aa [aP 25 1 1 6,aB 26 1 25,ba 27 4 8,ba 28 4 9,cX 29 176 [.t 26,.t 27,.t 28],I 24 29,cq 30 0 24,cq 31 1 24,I 16 30,I 17 31] (aa [I 32 1,aW 33 .eql 32 0] (a8 33 (aa [I 34 16,aP 35 1 1 14,bG 1 35 34] (.region [I 36 17,I 15 36])) (aa [I 37 17] (a8 37 (aa [aP 38 1 1 6,aB 39 1 38,I 40 16,cw 41 177 39 40,I 18 41] (aa [I 42 18,cS 43 42,aW 44 .gtr 43 0,I 15 44] (.region [dR 45 1 23 [],aP 46 2 1 6,aB 47 1 46,gC 48 1 23 45 47,I 49 18,dR 50 1 23 [.t 49],gC 51 1 23 48 50,aP 52 2 1 14,bG 1 52 51]))) .skip))))) (aa [aP 54 1 1 6,aB 55 1 54,ba 56 4 8,cw 57 166 55 56,I 53 57,cq 58 0 53,cq 59 1 53,cU 19 dz,bG 4 19 58,I 20 59] (aa [I 60 20,I 15 60] (aa [I 61 15,I 62 61,bU 62 true 63 1,aw 62 true (aW 64 .eql 63 2),dr 65 62 64] (a8 65 (.region [aP 67 3 1 6,aB 68 1 67,ba 69 4 19,I 70 4,cX 71 178 [.t 68,.t 69,.t 70],I 66 71,cq 72 0 66,cq 73 1 66,aP 74 3 1 14,bG 1 74 72,I 15 73]) (aa [I 75 15] (a8 75 (.region [aP 77 4 1 6,aB 78 1 77,ba 79 4 19,I 80 5,cX 81 179 [.t 78,.t 79,.t 80],I 76 81,cq 82 0 76,cq 83 1 76,aP 84 4 1 14,bG 1 84 82,I 15 83]) .skip)))))))) (.seq (aa [I 85 15,cI 86 85] (a8 86 (aa [gB 87 e7 [],bG 5 12 87,bH 13 false] .ret) .skip)) (aa [ba 88 5 14,cL 89 147 88,cq 90 0 89,cq 91 1 89,bG 5 12 90,I 13 91] .ret))))))
@[simp] def F3:List bu:=[.cell 12 true 5,.tmp 13]
def Pe:C:=(aa [cW 1 0,cU 2 e7] (.seq (.drawn true 20 [aP 3 0 1 1,aB 4 1 3,aP 5 1 1 1,aB 6 1 5,cL 7 190 6,aP 8 2 1 1,aB 9 1 8,cL 10 191 9,dR 11 2 104 [],aP 12 3 1 1,aB 13 1 12,gC 14 2 104 11 13,dR 15 2 106 [],aP 16 4 1 1,aB 17 1 16,gC 18 2 106 15 17,gB 19 e7 [(0,1,(.t 4)),(1,1,(.t 7)),(2,1,(.t 10)),(3,1,(.t 14)),(4,1,(.t 18))],bG 5 2 19]) .ret))
@[simp] def aim:List bu:=[.cell 2 true 5]
def DI:C:=(aa [eC 6 5,cr 7 0] (.seq (aa [I 8 2,cI 9 8] (a8 9 (aa [eC 6 5,cr 7 1] .ret) .skip)) (.seq (aa [I 10 0,I 11 1,cw 12 135 10 11] (a8 12 (aa [eC 6 5,cr 7 2] .ret) .skip)) (aa [I 13 0,I 14 1,cw 15 123 13 14,I 6 15,cr 7 0] .ret))))
@[simp] def ah1:List bu:=[.tmp 6,.tmp 7]
@[simp] def aoA:List bu:=[.tmp 4]
@[simp] def aoc:List bu:=[.tmp 4]
def O2:C:=(aa [eC 2 5] (aa [dR 6 5 61 [],I 3 6] (.seq (aa [I 7 0,cS 8 7,cr 9 0] (fY 10 9 8 (.seq (.block 1 (aa [cN 11 5 7 9,ba 12 5 11,cU 5 kE,bG 5 5 12] (.drawn true 24 [I 13 3,aP 14 0 1 5,aB 15 1 14,iW 16 1 4 5,ba 17 4 16,cL 18 74 17,gB 19 kE [(0,1,(.t 15)),(1,4,(.t 18))],dR 20 5 61 [.t 19],gC 21 5 61 13 20,I 3 21]))) (.region [aW 22 .add 9 1,I 9 22])))) (aa [I 23 3,I 2 23] .ret))))
@[simp] def aih:List bu:=[.tmp 2]
def Pa:C:=(aa [eC 2 1] (aa [dR 6 1 23 [],I 3 6] (.seq (aa [I 7 0,cS 8 7,cr 9 0] (fY 10 9 8 (.seq (.block 1 (aa [cN 11 1 7 9,aB 12 1 11,I 5 12] (.region [I 13 3,I 14 5,cL 15 190 14,dR 16 1 23 [.t 15],gC 17 1 23 13 16,I 3 17]))) (.region [aW 18 .add 9 1,I 9 18])))) (aa [I 19 3,I 2 19] .ret))))
@[simp] def aij:List bu:=[.tmp 2]
@[simp] def aoD:List bu:=[.cell 4 true 4,.tmp 5]
def o6:List (Nat×du):=[
 (3,⟨1,8,.int .i64,.int .i64 0⟩),
 (9,⟨1,16,.str,.str []⟩),
 (23,⟨1,24,.slice 61,.slice 5 .nil []⟩),
 (24,⟨1,24,.slice 23,.slice 1 .nil []⟩),
 (25,⟨1,24,.slice 104,.slice 2 .nil []⟩),
 (26,⟨1,24,.slice 106,.slice 2 .nil []⟩),
 (28,⟨5,104,.struct [(0,3),(1,23),(2,24),(3,25),(4,26)],.agg [.int .i64 0,.slice 5 .nil [],.slice 1 .nil [],.slice 2 .nil [],.slice 2 .nil []]⟩),
 (30,⟨1,24,.slice 32,.slice 4 .nil []⟩),
 (32,⟨4,56,.struct [(0,3),(1,3),(2,9),(3,30)],.agg [.int .i64 0,.int .i64 0,.str [],.slice 4 .nil []]⟩),
 (61,⟨5,64,.struct [(0,3),(1,32)],.agg [.int .i64 0,.int .i64 0,.int .i64 0,.str [],.slice 4 .nil []]⟩),
 (104,⟨2,16,.struct [(0,3),(1,3)],.agg [.int .i64 0,.int .i64 0]⟩),
 (106,⟨2,24,.struct [(0,3),(1,9)],.agg [.int .i64 0,.str []]⟩),
 (112,⟨1,24,.slice 3,.slice 1 .nil []⟩)]
theorem gY:fA az o6=true:=by kernel_rfl
theorem TU:cc o6 Hu K4 3 Tryz.f12=true:=by kernel_rfl
theorem P0:az.funcs[(12:Nat)]? =some Tryz.f12:=Tryz.func12
theorem KF:cc o6 DA Ur 3 Tryz.f13=true:=by kernel_rfl
theorem Ic:az.funcs[(13:Nat)]? =some Tryz.f13:=Tryz.func13
theorem KG:cc o6 DB ahO 3 Tryz.f14=true:=by kernel_rfl
theorem Ie:az.funcs[(14:Nat)]? =some Tryz.f14:=Tryz.func14
theorem KH:cc o6 DC ahP 3 Tryz.f16=true:=by kernel_rfl
theorem If:az.funcs[(16:Nat)]? =some Tryz.f16:=Tryz.func16
theorem KK:cc o6 DF ah0 2 Tryz.f47=true:=by kernel_rfl
theorem Ii:az.funcs[(47:Nat)]? =some Tryz.f47:=Tryz.func47
theorem afU:cc o6 NL ahU 3 Tryz.f48=true:=by kernel_rfl
theorem Zx:az.funcs[(48:Nat)]? =some Tryz.f48:=Tryz.func48
theorem TZ:cc o6 Hz UD 1 Tryz.f49=true:=by kernel_rfl
theorem P5:az.funcs[(49:Nat)]? =some Tryz.f49:=Tryz.func49
theorem TT:cc o6 Ht ahM 3 Tryz.f51=true:=by kernel_rfl
theorem PZ:az.funcs[(51:Nat)]? =some Tryz.f51:=Tryz.func51
theorem rC:cc o6 p6 F3 6 Tryz.f93=true:=by kernel_rfl
theorem qX:az.funcs[(93:Nat)]? =some Tryz.f93:=Tryz.func93
theorem ahj:cc o6 Pe aim 1 Tryz.f112=true:=by kernel_rfl
theorem aaV:az.funcs[(112:Nat)]? =some Tryz.f112:=Tryz.func112
theorem KN:cc o6 DI ah1 3 Tryz.f125=true:=by kernel_rfl
theorem Il:az.funcs[(125:Nat)]? =some Tryz.f125:=Tryz.func125
theorem ag7:cc o6 O2 aih 1 Tryz.f190=true:=by kernel_rfl
theorem aaJ:az.funcs[(190:Nat)]? =some Tryz.f190:=Tryz.func190
theorem ahf:cc o6 Pa aij 1 Tryz.f191=true:=by kernel_rfl
theorem aaR:az.funcs[(191:Nat)]? =some Tryz.f191:=Tryz.func191
def BO(t:T)(k:Nat)(st:bj):Prop:=
 (k=t.args.length∧st=⟨[(2,.ptr (.loc 1) 0),(3,.ptr (.loc 2) 0),(14,.slice 4 .no (t.args.map T.e)),(15,.int .i64 t.args.length),(16,.int .i64 0)],[(.loc 1,[.int .i64 0,.int .i64 0,.str [],.slice 4 .nil []]),(.loc 2,[.int .i64 t.kind,.int .i64 t.int,.str t.name,.slice 4 .nil []])],[],3,[]⟩)∨
 ∃i:Nat,1≤i∧i≤t.args.length∧k=t.args.length-i∧st=⟨[(2,.ptr (.loc 1) 0),(3,.ptr (.loc 2) 0),(14,.slice 4 .no (t.args.map T.e)),(15,.int .i64 t.args.length),(16,.int .i64 i)],[(.loc 1,[.int .i64 0,.int .i64 0,.str [],.slice 4 .nil []]),(.loc 2,[.int .i64 t.kind,.int .i64 t.int,.str t.name,.slice 4 (.own (.loc 29)) ((t.args.take i).map T.e)])],[(.loc 29,⟨i,32,4,none⟩)],30,[]⟩
set_option maxRecDepth 4000 in
theorem Ws(t:T):b7 az 74 [t.e] t.e:=by
 induction t with
 |pair a b ee ef=>
  refine bE fs AV Ci fun aU=>?_;unfold yd;simp;refine nj (BO (.pair a b)) 2 _ cu (.inl ⟨rfl,rfl⟩) ?_;rintro k st (⟨ab,rfl⟩|⟨i,J,U,ab,rfl⟩) js cH;all_goals clear js cH
  ·simp;(with_reducible repeat' first|refine aj ?_|refine aC ee ?_|refine aD ee ?_|simp);refine bT.next 1 (by rw[ab];simp) (.inr ⟨1,by omega,by simp,rfl,rfl⟩) cu
  ·rcases(by simp at U;omega:i=1∨i=2)with rfl|rfl
   ·simp;(with_reducible repeat' first|refine aj ?_|refine aC ef ?_|refine aD ef ?_|simp);refine bT.next 0 (by rw[ab];simp) (.inr ⟨2,by omega,by simp,rfl,rfl⟩) cu
   ·exact cZ
 |nil=>
  refine bE fs AV Ci fun aU=>?_;unfold yd;simp;refine nj (BO (.nil)) 0 _ cu (.inl ⟨rfl,rfl⟩) ?_;rintro k st (⟨ab,rfl⟩|⟨i,J,U,ab,rfl⟩) js cH;all_goals clear js cH
  ·exact cZ
  ·simp at U;omega
 |var n=>
  refine bE fs AV Ci fun aU=>?_;unfold yd;simp;refine nj (BO (.var n)) 0 _ cu (.inl ⟨rfl,rfl⟩) ?_;rintro k st (⟨ab,rfl⟩|⟨i,J,U,ab,rfl⟩) js cH;all_goals clear js cH
  ·exact cZ
  ·simp at U;omega
 |sym s=>
  refine bE fs AV Ci fun aU=>?_;unfold yd;simp;refine nj (BO (.sym s)) 0 _ cu (.inl ⟨rfl,rfl⟩) ?_;rintro k st (⟨ab,rfl⟩|⟨i,J,U,ab,rfl⟩) js cH;all_goals clear js cH
  ·exact cZ
  ·simp at U;omega
 |num n=>
  refine bE fs AV Ci fun aU=>?_;unfold yd;simp;refine nj (BO (.num n)) 0 _ cu (.inl ⟨rfl,rfl⟩) ?_;rintro k st (⟨ab,rfl⟩|⟨i,J,U,ab,rfl⟩) js cH;all_goals clear js cH
  ·exact cZ
  ·simp at U;omega
theorem Wy(t:List al)(aN:t.length≤1000000):b7 az 190 [.slice 5 .no (t.map al.e)] (.slice 5 .no (t.map al.e)):=by
 refine bE gY aaJ ag7 fun aU=>?_;unfold O2;simp;(with_reducible repeat' first|refine aj ?_|simp);refine ir (α:=List al) (fun i out=>⟨[(7,.slice 5 .no (t.map al.e)),(8,.int .i64 t.length),(3,.slice 5 (.own (.loc 0)) (out.map al.e)),(9,.int .i64 i)],[],[(.loc 0,⟨out.length,61,5,none⟩)],1,[]⟩) t.length (fun i out=>out=t.take i) [] cu (by simp) (fun out ag _=>?_) (fun i out hi ag _=>?_)
 ·rw[ha (e1 _)]at ag;subst ag;exact cZ
 ·obtain⟨b,aJ,gk⟩:=fE hi;have yT:out.length≤1000000:=by rw[ag];simp;omega
  simp[hi,gk];(with_reducible repeat' first|refine aj ?_|refine aC (Ws _) ?_|refine aD (Ws _) ?_|simp[gk,hi]);all_goals first|(refine⟨by unfold lim;omega,?_⟩)|skip
  all_goals(with_reducible repeat' first|refine aj ?_|simp)
  all_goals refine bT.rng (out++[b]) hi (by rw[oi aJ,ag]) ?_
  all_goals simp
  all_goals exact⟨by simp[fresh,aO,aF,cl,inObs,Pv.look,iT],eF (by simp[fresh,aO,aF,cl,inObs,Pv.look,iT]),eG (by simp[fresh,aO,aF,eb,inObs,Pv.look,iT]),by simp⟩
end Go.Proofs.YtohaalphocaebaaGreat
namespace Go.Pv
open Go
section
variable {α:Type} {c:α→α→Int}
def jK(c:α→α→Int):List α→List α→Int
 |[],[]=>0
 |[],_::_=> -1
 |_::_,[]=>1
 |x::xs,y::ys=>if c x y=0 then jK c xs ys else c x y
theorem Ta(h:jn c):∀a b:List α,jK c b a= -jK c a b
 |[],[]=>rfl
 |[],_::_=>rfl
 |_::_,[]=>rfl
 |x::xs,y::ys=>by
  simp only[jK];have J:=h.neg x y;by_cases e:c x y=0
  ·rw[if_pos e,if_pos (by omega),Ta h xs ys]
  ·rw[if_neg e,if_neg (by omega),J]
theorem Tc(h:jn c):∀a b:List α,jK c a b=0↔a=b
 |[],[]=>by simp[jK]
 |[],_::_=>by simp[jK]
 |_::_,[]=>by simp[jK]
 |x::xs,y::ys=>by
  simp only[jK,xX];by_cases e:c x y=0
  ·rw[if_pos e,Tc h xs ys];simp[(h.zero x y).1 e]
  ·rw[if_neg e];exact⟨fun cA=>absurd cA e,fun cA=>absurd ((h.zero x y).2 cA.1) e⟩
theorem Tb(h:jn c):∀a b d:List α,jK c a b≤0→jK c b d≤0→jK c a d≤0
 |[],_,[],_,_=>by simp[jK]
 |[],_,_::_,_,_=>by simp[jK]
 |_::_,[],_,J,_=>by simp[jK]at J
 |_::_,_::_,[],_,U=>by simp[jK]at U
 |x::xs,y::ys,z::c4,J,U=>by
  simp only[jK]at J U⊢;by_cases ak:c x y=0
  ·have:=(h.zero x y).1 ak;subst this;rw[if_pos ak]at J;by_cases aA:c x z=0
   ·rw[if_pos aA]at U⊢;exact Tb h xs ys c4 J U
   ·rw[if_neg aA]at U⊢;exact U
  ·rw[if_neg ak]at J;have bq:c x y<0:=by omega
   by_cases aA:c y z=0
   ·have:=(h.zero y z).1 aA;subst this;rw[if_neg ak];omega
   ·rw[if_neg aA]at U;have:=h.ltr bq U;rw[if_neg (by omega)];omega
theorem aeS(h:jn c):jn (jK c):=⟨Ta h,Tb h,Tc h⟩
end
def xr(x y:al):Int:=if ek x.v y.v=0 then ei x.t y.t else ek x.v y.v
theorem aho:jn xr:=by
 refine⟨fun x y=>?_,fun x y z J U=>?_,fun x y=>?_⟩
 ·unfold xr;have:=j1.neg x.v y.v;have:=KV.neg x.t y.t;by_cases e:ek x.v y.v=0
  ·rw[if_pos e,if_pos (by omega)];omega
  ·rw[if_neg e,if_neg (by omega)];omega
 ·unfold xr at J U⊢;by_cases ak:ek x.v y.v=0
  ·rw[if_pos ak]at J;rw[(j1.zero _ _).1 ak];by_cases aA:ek y.v z.v=0
   ·rw[if_pos aA]at U⊢;exact KV.tr _ _ _ J U
   ·rw[if_neg aA]at U⊢;exact U
  ·rw[if_neg ak]at J;have bq:ek x.v y.v<0:=by omega
   by_cases aA:ek y.v z.v=0
   ·rw[←(j1.zero _ _).1 aA,if_neg ak];exact J
   ·rw[if_neg aA]at U;have:=j1.ltr bq U;rw[if_neg (by omega)];omega
 ·unfold xr;by_cases e:ek x.v y.v=0
  ·rw[if_pos e,KV.zero];have:=(j1.zero _ _).1 e;cases x;cases y;simp_all
  ·rw[if_neg e];exact⟨fun h=>absurd h e,fun h=>by rw[h]at e;exact absurd (j1.refl _) e⟩
def eM:List al→List al→Int:=jK xr
theorem mN:jn eM:=aeS aho
end Go.Pv
namespace Go.Pv
open Go
structure b6 where
 v:Int
 k:Int
 deriving DecidableEq,Inhabited
def b6.e(b:b6):ai:= .agg [.int .i64 b.v,.int .i64 b.k]
@[simp] theorem b6.eta(b:b6):b6.mk b.v b.k=b:=rfl
@[simp] theorem M0(v k:Int):ai.agg [.int .i64 v,.int .i64 k]=(b6.mk v k).e:=rfl
@[simp] theorem anf(S:aH→Prop)(b:b6):aF S b.e=True:=by simp[b6.e,-M0]
@[simp] theorem apB(b:b6):dO b.e=b.e:=by simp[b6.e,-M0]
theorem SY(S:aH→Prop):∀l:List b6,aO S (l.map b6.e)
 |[]=>by simp[aO]
 |x::xs=>by simp[aO,SY S xs]
@[simp] theorem am5(S:aH→Prop)(l:List b6):aO S (l.map b6.e)=True:=eq_true (SY S l)
@[simp] theorem L7:∀l:List b6,df (l.map b6.e)=l.map b6.e
 |[]=>rfl
 |x::xs=>by simp[df,L7 xs]
@[simp] theorem apj(b:b6):eE b.e=true:=rfl
@[simp] theorem alA(b:b6):cells b.e=[.int .i64 b.v,.int .i64 b.k]:=rfl
@[simp] theorem amP(b:b6):Pv.isAgg 2 b.e:=⟨_,rfl,rfl⟩
@[simp] theorem al5(off:Nat)(eW:Bool)(sz:Nat)(b:b6):qY off eW sz b.e=if eW then some (off+sz≤2,.agg (([.int .i64 b.v,.int .i64 b.k].drop off).take sz))else(([.int .i64 b.v,.int .i64 b.k]:List ai)[off]?).map fun p=>(True,p):=rfl
@[simp] theorem alV(off:Nat)(eW:Bool)(sz:Nat)(b:b6):po off eW sz (.eptr b.e)=if eW then some (off+sz≤2,.eptr (.agg (([.int .i64 b.v,.int .i64 b.k].drop off).take sz)))else(([.int .i64 b.v,.int .i64 b.k]:List ai)[off]?).map fun p=>(eE p=true∧cells p=[p],.eptr p):=rfl
structure bk where
 v:Int
 s:List cV
 deriving DecidableEq,Inhabited
def bk.e(b:bk):ai:= .agg [.int .i64 b.v,.str b.s]
@[simp] theorem bk.eta(b:bk):bk.mk b.v b.s=b:=rfl
@[simp] theorem Hh(v:Int)(s:List cV):ai.agg [.int .i64 v,.str s]=(bk.mk v s).e:=rfl
@[simp] theorem aeE(S:aH→Prop)(b:bk):aF S b.e=True:=by simp[bk.e,-Hh]
@[simp] theorem apC(b:bk):dO b.e=b.e:=by simp[bk.e,-Hh]
theorem J4(S:aH→Prop):∀l:List bk,aO S (l.map bk.e)
 |[]=>by simp[aO]
 |x::xs=>by simp[aO,J4 S xs]
@[simp] theorem SZ(S:aH→Prop)(l:List bk):aO S (l.map bk.e)=True:=eq_true (J4 S l)
@[simp] theorem L8:∀l:List bk,df (l.map bk.e)=l.map bk.e
 |[]=>rfl
 |x::xs=>by simp[df,L8 xs]
@[simp] theorem apk(b:bk):eE b.e=true:=rfl
@[simp] theorem alB(b:bk):cells b.e=[.int .i64 b.v,.str b.s]:=rfl
@[simp] theorem amQ(b:bk):Pv.isAgg 2 b.e:=⟨_,rfl,rfl⟩
@[simp] theorem al6(off:Nat)(eW:Bool)(sz:Nat)(b:bk):qY off eW sz b.e=if eW then some (off+sz≤2,.agg (([.int .i64 b.v,.str b.s].drop off).take sz))else(([.int .i64 b.v,.str b.s]:List ai)[off]?).map fun p=>(True,p):=rfl
@[simp] theorem alW(off:Nat)(eW:Bool)(sz:Nat)(b:bk):po off eW sz (.eptr b.e)=if eW then some (off+sz≤2,.eptr (.agg (([.int .i64 b.v,.str b.s].drop off).take sz)))else(([.int .i64 b.v,.str b.s]:List ai)[off]?).map fun p=>(eE p=true∧cells p=[p],.eptr p):=rfl
def fj(x y:bk):Int:=if ek x.v y.v=0 then kn x.s y.s else ek x.v y.v
theorem lv:jn fj:=by
 refine⟨fun x y=>?_,fun x y z J U=>?_,fun x y=>?_⟩
 ·unfold fj;have:=j1.neg x.v y.v;have:=Cm.neg x.s y.s;by_cases e:ek x.v y.v=0
  ·rw[if_pos e,if_pos (by omega)];omega
  ·rw[if_neg e,if_neg (by omega)];omega
 ·unfold fj at J U⊢;by_cases ak:ek x.v y.v=0
  ·rw[if_pos ak]at J;rw[(j1.zero _ _).1 ak];by_cases aA:ek y.v z.v=0
   ·rw[if_pos aA]at U⊢;exact Cm.tr _ _ _ J U
   ·rw[if_neg aA]at U⊢;exact U
  ·rw[if_neg ak]at J;have bq:ek x.v y.v<0:=by omega
   by_cases aA:ek y.v z.v=0
   ·rw[←(j1.zero _ _).1 aA,if_neg ak];exact J
   ·rw[if_neg aA]at U;have:=j1.ltr bq U;rw[if_neg (by omega)];omega
 ·unfold fj;by_cases e:ek x.v y.v=0
  ·rw[if_pos e,Cm.zero];have:=(j1.zero _ _).1 e;cases x;cases y;simp_all
  ·rw[if_neg e];exact⟨fun h=>absurd h e,fun h=>by rw[h]at e;exact absurd (j1.refl _) e⟩
def sI(x y:bk):Bool:=decide (x.v<y.v)||(x.v==y.v&&gZ x.s y.s)
theorem XT(a:List cV):gZ a a=false:=by
 cases h:gZ a a with
 |false=>rfl
 |true=>rw[Hp a a h]at h;cases h
theorem TI(x y:bk):sI x y=iD fj x y:=by
 unfold sI iD fj;rw[pV];simp only[lQ,fI,cx,dH];by_cases e:x.v=y.v
 ·have:ek x.v y.v=0:=(j1.zero _ _).2 e;rw[if_pos this];simp only[e,Int.lt_irrefl,false_or,true_and,kn];by_cases aA:x.s=y.s
  ·rw[if_pos aA,aA,XT];simp
  ·rw[if_neg aA];split<;>simp_all
 ·have bV:¬ek x.v y.v=0:=fun h=>e ((j1.zero _ _).1 h);rw[if_neg bV];simp only[e,false_and,or_false];unfold ek;(repeat' split)<;>omega
def nb{α:Type}(p:α→Prop)(r:α→α→Prop)(l:List α)(i:Nat):Prop:= ∀b,l[i]? =some b→p b∧∀c,0<i→l[i-1]? =some c→r c b
theorem MW{α:Type}{p:α→Prop}{r:α→α→Prop}(aN:∀a b c,r a b→r b c→r a c){l:List α}:(∀i,i<l.length→nb p r l i)↔(∀b∈l,p b)∧l.Pairwise r:=by
 constructor
 ·intro h;refine⟨fun b ae=>?_,?_⟩
  ·obtain⟨i,hi,e⟩:=ov ae;exact(h i hi b (by rw[cv hi,e])).1
  ·rw[pb];have jw:∀i (h:i+1<l.length),r l[i] l[i+1]:=fun i hi=>(h (i+1) hi l[i+1] (by simp[cv hi])).2 l[i] (by omega) (by simp[cv (show i<l.length by omega)]);have:∀(d i:Nat) (h:i+d+1<l.length),r l[i] l[i+d+1]:=by
    intro d;induction d with
    |zero=>intro i h;exact jw i h
    |succ d bW=>intro i h;exact aN _ _ _ (bW i (by omega)) (jw (i+d+1) (by omega))
   intro i j hi ag lH;have:=this (j-i-1) i (by omega);simpa[show i+(j-i-1)+1=j from by omega]using this
 ·rintro⟨J,U⟩ i hi b ae;refine⟨J b (gb ae),fun c bV av=>?_⟩;obtain⟨g1,ak⟩:=fG.1 av;obtain⟨g2,aA⟩:=fG.1 ae;have:=pb.1 U (i-1) i g1 g2 (by omega);rw[ak,aA]at this;exact this
def jY{α:Type}(c:α→α→Int)(x:α):List α→List α
 |[]=>[x]
 |y::l=>if c y x<0 then y::jY c x l else if c y x=0 then y::l else x::y::l
section
variable {α:Type} {c:α→α→Int}
theorem Ft(av:jn c){x z:α}:∀{l:List α},z∈jY c x l↔z=x∨z∈l
 |[]=>by simp[jY]
 |y::l=>by
  simp only[jY];split
  ·simp only[ga,Ft av (l:=l)];constructor
   ·rintro(h|h|h)
    ·exact .inr (.inl h)
    ·exact .inl h
    ·exact .inr (.inr h)
   ·rintro(h|h|h)
    ·exact .inr (.inl h)
    ·exact .inl h
    ·exact .inr (.inr h)
  ·split
   ·rename_i h;obtain rfl:=(av.zero _ _).1 h;simp
   ·simp
theorem JM(av:jn c){x:α}:∀{l:List α},hb c l→hb c (jY c x l)
 |[],_=>by simp[jY,hb]
 |y::l,h=>by
  obtain⟨J,U⟩:=ml.1 h;simp only[jY];split
  ·rename_i ao;refine ml.2 ⟨fun z bf=>?_,JM av U⟩;rcases(Ft av).1 bf with rfl|bf
   ·exact ao
   ·exact J z bf
  ·split
   ·exact h
   ·rename_i ao aZ;have hB:c x y<0:=by have:=av.neg x y;omega
    refine ml.2 ⟨fun z bf=>?_,h⟩;rcases ga.1 bf with rfl|bf
    ·exact hB
    ·exact av.ltr hB (by have:=J z bf;omega)
theorem JO(x:α):∀l:List α,(jY c x l).length≤l.length+1
 |[]=>by simp[jY]
 |y::l=>by
  have:=JO x l;simp only[jY];split
  ·simp;omega
  ·split<;>simp
theorem JN(av:jn c)(x:α):∀(l:List α) (k:Nat),(∀i y,i<k→l[i]? =some y→c y x<0)→(∀y,l[k]? =some y→0≤c y x)→k≤l.length→jY c x l=if(match l[k]? with|some y=>decide (c y x=0)|none=>false)=true then l else l.take k++x::l.drop k
 |[],k,_,_,ab=>by simp at ab;subst ab;simp[jY]
 |y::l,0,_,U,_=>by
  have:=U y rfl;by_cases e:c y x=0
  ·simp[jY,e]
  ·have ao:¬c y x<0:=by omega
   simp[jY,ao,e]
 |y::l,k+1,J,U,ab=>by
  have bV:=J 0 y (by omega) rfl;simp only[jY,if_pos bV,List.take_succ_cons,List.drop_succ_cons,bO,List.getElem?_cons_succ];rw[JN av x l k (fun i d hi aK=>J (i+1) d (by omega) (by simpa using aK)) (fun d aK=>U d (by simpa using aK)) (by simpa using ab)];cases l[k]? with
  |none=>rfl
  |some z=>simp only[];split<;>rfl
end
structure jH (l:List b6):Prop where
 at':∀x∈l,(0≤x.v∧x.v≤100000)∧(x.k=2∨x.k=3)
 asc:l.Pairwise fun x y=>x.v<y.v
def kW(l:List b6)(v:Int):Option Int:=(l.find? fun x=>x.v==v).map (·.k)
def ln(x:b6):List b6→List b6
 |[]=>[x]
 |y::l=>if y.v<x.v then y::ln x l else x::y::l
theorem Fu{x z:b6}:∀{l:List b6},z∈ln x l↔z=x∨z∈l
 |[]=>by simp[ln]
 |y::l=>by
  simp only[ln];split
  ·simp only[ga,Fu (l:=l)];constructor
   ·rintro(h|h|h)
    ·exact .inr (.inl h)
    ·exact .inl h
    ·exact .inr (.inr h)
   ·rintro(h|h|h)
    ·exact .inr (.inl h)
    ·exact .inl h
    ·exact .inr (.inr h)
  ·simp
theorem JP(x:b6):∀l:List b6,(ln x l).Perm (x::l)
 |[]=>.refl _
 |y::l=>by
  simp only[ln];split
  ·exact((JP x l).cons y).trans (apW _ _ _)
  ·exact .refl _
theorem E0{x:b6}:∀{l:List b6},l.Pairwise (fun x y=>x.v<y.v)→(∀y∈l,y.v≠x.v)→(ln x l).Pairwise fun x y=>x.v<y.v
 |[],_,_=>by simp[ln]
 |y::l,h,ar=>by
  obtain⟨J,U⟩:=ml.1 h;have aG:=ar y (by simp);simp only[ln];split
  ·rename_i ao;refine ml.2 ⟨fun z bf=>?_,E0 U fun z bf=>ar z (by simp[bf])⟩;rcases Fu.1 bf with rfl|bf
   ·exact ao
   ·exact J z bf
  ·refine ml.2 ⟨fun z bf=>?_,h⟩;rcases ga.1 bf with rfl|bf
   ·omega
   ·have:=J z bf;omega
theorem Sq(x:b6):∀(l:List b6) (k:Nat),(∀i y,i<k→l[i]? =some y→y.v<x.v)→(∀y,l[k]? =some y→¬y.v<x.v)→k≤l.length→ln x l=l.take k++x::l.drop k
 |[],k,_,_,ab=>by simp at ab;subst ab;rfl
 |y::l,0,_,U,_=>by have:=U y rfl;simp[ln,this]
 |y::l,k+1,J,U,ab=>by have bV:=J 0 y (by omega) rfl;simp only[ln,if_pos bV,List.take_succ_cons,List.drop_succ_cons,bO];rw[Sq x l k (fun i d hi aK=>J (i+1) d (by omega) (by simpa using aK)) (fun d aK=>U d (by simpa using aK)) (by simpa using ab)]
theorem SH{l aX:List b6}(bF:aX.Perm l)(aK:l.Pairwise fun x y=>x.v<y.v)(af:aX.Pairwise fun x y=>decide (y.v<x.v)=false):aX=l:=by
 refine ML (le:=fun x y:b6=>x.v≤y.v) (fun x y ad aG J U=>?_) (af.imp (by simp)) (aK.imp (by omega)) bF;have hY:x∈l:=bF.mem_iff.1 ad;have rn:y∈l:=aG;obtain⟨i,hi,rfl⟩:=ov hY;obtain⟨j,ag,rfl⟩:=ov rn;have:=pb.1 aK;rcases Nat.lt_trichotomy i j with h|h|h
 ·have:=this i j hi ag h;omega
 ·subst h;rfl
 ·have:=this j i ag hi h;omega
theorem xb{l:List b6}{v:Int}:kW l v=none↔∀x∈l,x.v≠v:=by simp[kW]
theorem SP{l:List b6}{v k:Int}(h:kW l v=some k):(⟨v,k⟩:b6)∈l:=by unfold kW at h;rw[gd]at h;obtain⟨x,J,rfl⟩:=h;have U:=List.find?_some J;simp at U;subst U;exact List.mem_of_find?_eq_some J
theorem Fa{l:List b6}(br:l.Pairwise fun x y=>x.v<y.v){x:b6}(h:x∈l):kW l x.v=some x.k:=by
 induction l with
 |nil=>simp at h
 |cons y l bW=>
  obtain⟨J,U⟩:=ml.1 br;rcases ga.1 h with rfl|h
  ·simp[kW]
  ·have:=J x h;have e:=bW U h;unfold kW at e⊢;rw[List.find?_cons_of_neg (by simp;omega)];exact e
def iq(l:List b6)(t:T)(k:Int):Option (List b6):=match t with
 | .var n=>match kW l n with
  |some bD=>if bD=k then some l else none
  |none=>some (ln ⟨n,k⟩ l)
 |t=>if t.kind=k then some l else none
theorem Dr{l aX:List b6}{t:T}{k:Int}(h:jH l)(aN:t.ok=true)(ab:k=2∨k=3)(he:iq l t k=some aX):jH aX:=by
 unfold iq at he;split at he
 ·rename_i n;split at he
  ·split at he
   ·cases he;exact h
   ·cases he
  ·rename_i ar;cases he;rw[xb]at ar;refine⟨fun x ad=>?_,E0 h.asc ar⟩;rcases Fu.1 ad with rfl|ad
   ·exact⟨by simpa[T.ok]using aN,ab⟩
   ·exact h.at' x ad
 ·split at he
  ·cases he;exact h
  ·cases he
theorem oX{l:List b6}(h:jH l):l.length≤100001:=by
 have J:(l.map (·.v)).Nodup:=by rw[List.nodup_iff_pairwise_ne,List.pairwise_map];exact h.asc.imp fun h e=>by omega
 have:=SN J fun v aJ=>by obtain⟨x,ad,rfl⟩:=hH.1 aJ;exact(h.at' x ad).1
 simpa using this
def fF(s:List al):List b6→List b6→Option (List b6)
 |[],acc=>some acc
 |x::r,acc=>match iq acc (bP s x.v) x.k with
  |some a=>fF s r a
  |none=>none
structure j0 (l:List bk):Prop where
 at':∀x∈l,(0≤x.v∧x.v≤100000)∧iB x.s=true
 asc:hb fj l
def _root_.Go.Pv.T.has(s:List cV):T→Bool
 | .sym n=>n==s
 | .pair a b=>a.has s||b.has s
 |_=>false
def jr(l:List bk)(t:T)(s:List cV):Option (List bk):=if t.has s then none else some (asc fj (l++(mV t).map fun v=>⟨v,s⟩))
theorem C6{t:T}{v:Int}:v∈mV t↔t.occ v=true:=by
 refine⟨fun h=>?_,xh⟩;induction t with
 |var n=>simp[mV]at h;simp[T.occ,h]
 |pair a b ee ef=>simp only[mV,ja]at h;simp only[T.occ,lQ];exact h.imp ee ef
 |_=>simp[mV]at h
theorem zp{l aX:List bk}{t:T}{s:List cV}(h:jr l t s=some aX)(x:bk):x∈aX↔x∈l∨(x.s=s∧t.occ x.v=true):=by
 unfold jr at h;split at h
 ·cases h
 ·cases h;rw[Tr,ja,hH];refine or_congr_right ?_;constructor
  ·rintro⟨v,aJ,rfl⟩;exact⟨rfl,C6.1 aJ⟩
  ·rintro⟨J,U⟩;exact⟨x.v,C6.2 U,by rw[←J]⟩
theorem He{l aX:List bk}{t:T}{s:List cV}(cP:t.has s=false)(br:hb fj aX)(hm:∀x,x∈aX↔x∈l∨(x.s=s∧t.occ x.v=true)):jr l t s=some aX:=by
 have h:jr l t s=some (asc fj (l++(mV t).map fun v=>⟨v,s⟩)):=by unfold jr;rw[cP];rfl
 rw[h];congr 1;exact(Hk lv _).ext lv br fun x=>by rw[hm,←zp h]
theorem Ds{l aX:List bk}{t:T}{s:List cV}(h:j0 l)(aN:t.ok=true)(af:iB s=true)(he:jr l t s=some aX):j0 aX:=by
 refine⟨fun x ad=>?_,?_⟩
 ·rcases(zp he x).1 ad with J|⟨J,U⟩
  ·exact h.at' x J
  ·exact⟨v7 aN U,by rw[J];exact af⟩
 ·unfold jr at he;split at he
  ·cases he
  ·cases he;exact Hk lv _
def fx(s:List al):List bk→List bk→Option (List bk)
 |[],acc=>some acc
 |x::r,acc=>match jr acc (bP s x.v) x.s with
  |some a=>fx s r a
  |none=>none
end Go.Pv
namespace Go.Proofs.YtohaalphocaebaaGreat
open Go Go.Pv
theorem B0(c:al→al→Int):∀a b:List al,a=[]∨b=[]→jK c a b=ek a.length b.length
 |[],[],_=>by simp[jK,ek]
 |[],_::_,_=>by simp[jK,ek]<;>omega
 |_::_,[],_=>by simp[jK,ek]<;>omega
 |_::_,_::_,h=>by simp at h
theorem Ub(x y:al)(xs ys:List al):eM (x::xs) (y::ys)=if ek x.v y.v=0 then(if ei x.t y.t=0 then eM xs ys else ei x.t y.t)else ek x.v y.v:=by
 by_cases a1:ek x.v y.v=0
 ·by_cases bt:ei x.t y.t=0<;>simp[eM,jK,xr,a1,bt]
 ·simp[eM,jK,xr,a1]
theorem Uc(a b k:Int):ek (a-k) (b-k)=ek a b:=by unfold ek;(repeat' split)<;>omega
def JR(d e:List al)(i:Nat):Prop:=i≤d.length∧i≤e.length∧eM (d.drop i) (e.drop i)=eM d e
theorem GO(d e:List al):b7 az 204 [.slice 5 .no (d.map al.e),.slice 5 .no (e.map al.e)] (.int .i64 (eM d e)):=by
 generalize b4:eM d e=R;refine bE qD ZS agf fun aU=>?_;unfold N6;have aK:d.length≤68719476736:=by simp[h9,ho,hV,lim]at aU;omega
 have he:e.length≤68719476736:=by simp[h9,ho,hV,lim]at aU;omega
 simp;refine uU [0,1] (fun(i:Nat)=>[(5,.int .i64 i)]) (fun i=>d.length-i) (JR d e) 0 cu ⟨by omega,by omega,by simp⟩ (fun i ag _=>?_);obtain⟨J,U,ao⟩:=ag;rw[b4]at ao;by_cases hi:i<d.length
 ·by_cases hj:i<e.length
  ·obtain⟨x,ad⟩:∃x,d[i]? =some x:=⟨_,cv hi⟩;obtain⟨y,aG⟩:∃y,e[i]? =some y:=⟨_,cv hj⟩;have di:∀h,(d[i]'h)=x:=fun h=>by rw[cv hi]at ad;exact fP ad
   have gl:∀h,(e[i]'h)=y:=fun h=>by rw[cv hj]at aG;exact fP aG
   have yH:d.drop i=x::d.drop (i+1):=by rw[kN hi,di]
   have yI:e.drop i=y::e.drop (i+1):=by rw[kN hj,gl]
   rw[yH,yI]at ao;rw[Ub]at ao;simp[hi,hj,di,gl];by_cases a1:ek x.v y.v=0
   ·rw[if_pos a1]at ao;by_cases bt:ei x.t y.t=0
    ·rw[if_pos bt]at ao;(with_reducible repeat' first|refine aj ?_|refine aC (nz _ _) ?_|refine aD (nz _ _) ?_|refine aC (Ak _ _) ?_|refine aD (Ak _ _) ?_|simp[di,gl,hi,hj,a1,bt]);refine bT.whl (i+1) (by omega) ⟨by omega,by omega,by rw[b4];exact ao⟩ ?_;exact cu
    ·rw[if_neg bt]at ao;((with_reducible repeat' first|refine aj ?_|refine aC (nz _ _) ?_|refine aD (nz _ _) ?_|refine aC (Ak _ _) ?_|refine aD (Ak _ _) ?_|simp[di,gl,hi,hj,a1,bt]|((first|apply bI|apply bK|apply bJ)<;>intro h<;>try simp at h))<;>(try exact cm));simp[bz,Cv,aV,aY,aT];exact ao
   ·rw[if_neg a1]at ao;((with_reducible repeat' first|refine aj ?_|refine aC (nz _ _) ?_|refine aD (nz _ _) ?_|simp[di,gl,hi,hj,a1]|((first|apply bI|apply bK|apply bJ)<;>intro h<;>try simp at h))<;>(try exact cm));simp[bz,Cv,aV,aY,aT];exact ao
  ·have:ek d.length e.length=R:=by rw[←ao,eM,B0 _ _ _ (.inr (List.drop_eq_nil_of_le (by omega)))];rw[←Uc d.length e.length i];simp only[rV];congr 1<;>omega
   simp[hi,hj];(with_reducible repeat' first|refine aj ?_|refine aC (nz _ _) ?_|refine aD (nz _ _) ?_|simp[hi,hj]);simp[bz,Cv,aV,aY,aT];exact this
 ·have:ek d.length e.length=R:=by rw[←ao,eM,B0 _ _ _ (.inl (List.drop_eq_nil_of_le (by omega)))];rw[←Uc d.length e.length i];simp only[rV];congr 1<;>omega
  simp[hi];(with_reducible repeat' first|refine aj ?_|refine aC (nz _ _) ?_|refine aD (nz _ _) ?_|simp[hi]);simp[bz,Cv,aV,aY,aT];exact this
theorem Mq(a b:List al)(br:a.length≤1000000):b7 az 135 [.slice 5 .no (a.map al.e),.slice 5 .no (b.map al.e)] (.bool (decide (a=b))):=by
 by_cases aq:a.length=b.length;rotate_left
 ·have bV:decide (a=b)=false:=by simp only[j4];rintro rfl;exact aq rfl
  have sq:((a.length:Int) !=(b.length:Int))=true:=by simp;omega
  have nW:¬(a.length:Int)=b.length:=by omega
  rw[bV];refine bE qD P7 T1 fun aU=>?_;unfold HB;exact cZ
 ·generalize b4:decide (a=b)=R;refine bE qD P7 T1 fun aU=>?_;unfold HB;simp;(with_reducible repeat' first|refine aj ?_|simp[aq]);refine gh [0,1,12] (fun i (_:Unit)=>[(13,.int .i64 i)]) b.length (fun i (_:Unit)=> ∀k,k<i→a[k]? =b[k]?) () cu (fun k ab=>by omega) (fun _ ag _=>?_) (fun i _ hi ag _=>?_)
  ·have:R=true:=by
    rw[←b4,fI];apply List.ext_getElem?;intro k;by_cases ab:k<b.length
    ·exact ag k ab
    ·rw[pW (by omega),pW (by omega)]
   rw[this];exact cZ
  ·obtain⟨x,ad⟩:∃x,a[i]? =some x:=⟨_,cv (by omega)⟩;obtain⟨y,aG⟩:∃y,b[i]? =some y:=⟨_,cv hi⟩;have jF:i<a.length:=by omega
   have di:∀h,(a[i]'h)=x:=fun h=>by rw[cv jF]at ad;exact fP ad
   have gl:∀h,(b[i]'h)=y:=fun h=>by rw[cv hi]at aG;exact fP aG
   have hN:x≠y→R=false:=fun h=>by rw[←b4,j4];rintro rfl;rw[ad]at aG;cases aG;exact h rfl
   simp[hi,jF,di,gl];by_cases a1:x.v=y.v
   ·have uk:(x.v !=y.v)=false:=by simp[a1]
    by_cases bt:x.t=y.t
    ·(with_reducible repeat' first|refine aj ?_|refine aC (sY _ _) ?_|refine aD (sY _ _) ?_|simp[di,gl,hi,jF,a1,uk,bt]);refine bT.rng () hi (fun k ab=>?_) ?_
     ·rcases(by omega:k<i∨k=i)with h|rfl
      ·exact ag k h
      ·rw[ad,aG];cases x;cases y;simp_all
     ·exact cu
    ·rw[hN (fun e=>bt (by rw[e]))];(with_reducible repeat' first|refine aj ?_|refine aC (sY _ _) ?_|refine aD (sY _ _) ?_|simp[di,gl,hi,jF,a1,uk,bt]);simp[bz,UE,aV,aY,aT]
   ·have uk:(x.v !=y.v)=true:=by simp[a1]
    rw[hN (fun e=>a1 (by rw[e]))];exact cZ
def hP(l:List (List al))(e:List al):Bool:=l.all fun d=>decide (d=e)|| !ls d e
theorem aey{l aX:List (List al)}(h:∀x,x∈l↔x∈aX)(e:List al):hP l e=hP aX e:=by rw[pV,hP,hP,jD,jD];exact⟨fun J x ad=>J x ((h x).2 ad),fun J x ad=>J x ((h x).1 ad)⟩
def iE(l:List (List al)):List (List al):=(asc eM l).filter (hP l)
theorem sH{l:List (List al)}{x:List al}:x∈iE l↔x∈l∧hP l x=true:=by rw[iE,k3,Tr]
theorem Kt(l:List (List al)):hb eM (iE l):=(Hk mN l).filter _
theorem Tz{l aX:List (List al)}(br:hb eM aX)(hm:∀x,x∈aX↔x∈l∧hP l x=true):iE l=aX:=(Kt l).ext mN br fun x=>by rw[hm,sH]
theorem TA(l:List (List al)):(iE l).length≤l.length:=ji (List.length_filter_le _ _) (XJ _ _)
structure bM where
 n:Int
 b:List al
 d:List (List al)
 k:List b6
 m:List bk
 deriving DecidableEq,Inhabited
noncomputable def ey(b:List al)(k:List b6)(m:List bk):List (List al)→Option (List (List al))
 |[]=>some []
 |d::r=>match mgu b (fN d)with
  |none=>ey b k m r
  |some x=>if fF x k []=none∨fx x m []=none then ey b k m r else if ds b x=[]then none else(ey b k m r).map (ds b x:: ·)
def jf(k:List b6)(x:bk):Bool:=kW k x.v !=some 3
noncomputable def eU(s:bM):Option bM:=match fF s.b s.k []with
 |none=>none
 |some k=>match fx s.b s.m []with
  |none=>none
  |some m=>match ey s.b k (m.filter (jf k)) s.d with
   |none=>none
   |some L=>if(iE L).length≤30 then some ⟨s.n,s.b,iE L,k,m.filter (jf k)⟩else none
def wq(t:T)(n:Int):Prop:= ∀v,t.occ v=true→v<n
def pf(l:List al)(n:Int):Prop:= ∀b∈l,b.v<n∧wq b.t n
structure h2 (s:bM):Prop where
 n:0≤s.n∧s.n≤100000
 b:en s.b
 d:∀x∈s.d,en x
 k:jH s.k
 m:j0 s.m
 bb:pf s.b s.n
 db:∀x∈s.d,pf x s.n
 kb:∀x∈s.k,x.v<s.n
 mb:∀x∈s.m,x.v<s.n
def jO(s:bM):Prop:=h2 s∧eU s=some s
theorem z1{s:List al}(af:en s){v:Int}(aJ:0≤v∧v≤100000):(bP s v).ok=true:=by have:=CO af.ok (t:= .var v) (by simpa[T.ok]using aJ);exact this
theorem F5{s:List al}(af:en s):∀{l acc a:List b6},(∀x∈l,(0≤x.v∧x.v≤100000)∧(x.k=2∨x.k=3))→jH acc→fF s l acc=some a→jH a
 |[],acc,a,_,h,he=>by simp only[fF,dt]at he;rw[←he];exact h
 |x::r,acc,a,aq,h,he=>by
  simp only[fF]at he;split at he
  ·rename_i bp ak;have ad:=aq x (by simp);exact F5 af (fun y aG=>aq y (by simp[aG])) (Dr h (z1 af ad.1) ad.2 ak) he
  ·cases he
theorem Cy{s:List al}(af:en s):∀{l acc a:List bk},(∀x∈l,(0≤x.v∧x.v≤100000)∧iB x.s=true)→j0 acc→fx s l acc=some a→j0 a
 |[],acc,a,_,h,he=>by simp only[fx,dt]at he;rw[←he];exact h
 |x::r,acc,a,aq,h,he=>by
  simp only[fx]at he;split at he
  ·rename_i bp ak;have ad:=aq x (by simp);exact Cy af (fun y aG=>aq y (by simp[aG])) (Ds h (z1 af ad.1) ad.2 ak) he
  ·cases he
def kH(G:List (List cV))(l:List bk):Prop:= ∀x∈l,x.s∈G
theorem AD{G:List (List cV)}{l aX:List bk}{t:T}{s:List cV}(h:kH G l)(af:s∈G)(he:jr l t s=some aX):kH G aX:=fun x ad=>by
 rcases(zp he x).1 ad with J|⟨J,_⟩
 ·exact h x J
 ·rw[J];exact af
theorem Cz{G:List (List cV)}{s:List al}:∀{l acc a:List bk},kH G l→kH G acc→fx s l acc=some a→kH G a
 |[],acc,a,_,h,he=>by simp only[fx,dt]at he;rw[←he];exact h
 |x::r,acc,a,aq,h,he=>by
  simp only[fx]at he;split at he
  ·rename_i bp ak;exact Cz (fun y aG=>aq y (by simp[aG])) (AD h (aq x (by simp)) ak) he
  ·cases he
theorem ahy{α:Type}[DecidableEq α]:∀{G:List α} {l:List (Nat×α)},l.Nodup→(∀x∈l,x.1<100001∧x.2∈G)→l.length≤100001*G.length:=by
 intro G l ar h;have:=GX ar (l₂:=(List.range 100001).flatMap fun i=>G.map fun g=>(i,g)) (fun x ad=>by obtain⟨J,U⟩:=h x ad;rw[List.mem_flatMap];exact⟨x.1,List.mem_range.2 J,hH.2 ⟨x.2,U,rfl⟩⟩)
 have e:((List.range 100001).flatMap fun i=>G.map fun g=>(i,g)).length=100001*G.length:=by
  generalize 100001=n;induction n with
  |zero=>simp
  |succ n bW=>rw[List.range_succ,List.flatMap_append,pa,bW];simp[Nat.succ_mul]
 omega
theorem B6{G:List (List cV)}{l:List bk}(h:j0 l)(aS:kH G l):l.length≤100001*G.length:=by
 have J:(l.map fun x=>(x.v.toNat,x.s)).Nodup:=by rw[List.nodup_iff_pairwise_ne,List.pairwise_map];refine akI (fun{a b} br ae cC e=>cC ?_) (h.asc.nodup lv);have:=(h.at' a br).1;have:=(h.at' b ae).1;simp only[jm]at e;cases a;cases b;simp only[bk.mk.injEq];simp only at*;exact⟨by omega,e.2⟩
 have:=ahy (G:=G) J fun x ad=>by obtain⟨y,aG,rfl⟩:=hH.1 ad;have:=(h.at' y aG).1;exact⟨by simp;omega,aS y aG⟩
 simpa using this
def iZ(m:List bk):Prop:= ∃G:List (List cV),G.length≤687000∧kH G m
theorem iZ.len{m:List bk}(h:iZ m)(hm:j0 m):m.length≤68719470000:=by obtain⟨G,J,U⟩:=h;have:=B6 hm U;omega
theorem aiF{s:List al}(h:en s)(p:al→Bool):en (s.filter p):=by
 have lK:∀b∈s.filter p,b∈s:=fun b ae=>(k3.1 ae).1;have ar:∀w,c0 s w=none→c0 (s.filter p) w=none:=fun w hw=>by rw[r4]at hw⊢;exact fun b ae=>hw b (lK b ae)
 exact⟨fun b ae=>h.ok b (lK b ae),⟨GY p h.sol.asc,fun b ae w hw=>ar w (h.sol.free b (lK b ae) w hw),fun b ae=>h.sol.ori b (lK b ae)⟩,
  ji (List.length_filter_le _ _) h.fits.1,fun b ae=>h.fits.2 b (lK b ae)⟩
theorem Cd{b x:List al}(h:en x):en (ds b x):=aiF h _
theorem afB{b x:List al}(ae:ff b)(ad:ff x)(aQ:gy x)(h:∀aL,fV x aL→fV b aL):il b (fN (ds b x)) (some x):=by
 refine⟨⟨ad,aQ⟩,fun aL=>⟨fun fT=>⟨h aL fT,fun e he=>?_⟩,fun⟨J,U⟩ c av=>?_⟩⟩
 ·obtain⟨c,av,rfl⟩:=hH.1 he;exact fT c (k3.1 av).1
 ·have iR:∀c∈x,c0 b c.v=none→aL c.v=c.t.ap aL:=fun c av ar=>by have:=U (.var c.v,c.t) (hH.2 ⟨c,k3.2 ⟨av,by simp[ar]⟩,rfl⟩);exact this
  have qh:∀w,c0 b w=none→(bP x w).ap aL=aL w:=fun w hw=>by
   unfold bP;cases e:c0 x w with
   |none=>rfl
   |some t=>have hm:=jT e;exact(iR _ hm hw).symm
  cases e:c0 b c.v with
  |none=>exact iR c av e
  |some t=>
   have ak:aL c.v=t.ap aL:=J _ (jT e);have aA:=h (bP x) (vP ad) _ (jT e);simp only at aA;have bs:bP x c.v=c.t:=by unfold bP;rw[qP ad.asc av];rfl
   rw[bs]at aA;rw[ak,aA,x6];exact qN fun w hw=>(qh w (ae.free _ (jT e) w hw)).symm
theorem vw{s:List al}(af:ff s)(aQ:gy s){E:List (T×T)}{x:List al}(h:mgu s E=some x):∀aL,fV x aL↔fV s aL∧iN E aL:=by have:=xi af aQ E;rw[h]at this;exact this.2
theorem B9{s:List al}(af:ff s)(aQ:gy s){E:List (T×T)}{x:List al}(h:mgu s E=some x):mgu s (fN (ds s x))=some x:=oZ (afB af (rz af aQ h).1 (rz af aQ h).2 fun aL fT=>((vw af aQ h aL).1 fT).1)
theorem Ty(p:Int→Prop){E:List (T×T)}:∀{s ah:List al},ff s→gy s→(∀b∈s,p b.v∧∀w,b.t.occ w=true→p w)→(∀e∈E,(∀w,e.1.occ w=true→p w)∧∀w,e.2.occ w=true→p w)→mgu s E=some ah→∀b∈ah,p b.v∧∀w,b.t.occ w=true→p w:=by
 induction E with
 |nil=>intro s ah af aQ J _ h;rw[Ca af aQ]at h;cases h;exact J
 |cons e E bW=>
  intro s ah af aQ J U h;rw[Ks af aQ]at h;split at h
  ·rename_i s1 ak;obtain⟨V,jd⟩:∃V,V=s.flatMap (fun b=>b.v::mV b.t)++mV e.1++mV e.2:=⟨_,rfl⟩;have QZ:∀w∈V,p w:=by
    intro w hw;rw[jd]at hw;simp only[ja,List.mem_flatMap,ga]at hw;rcases hw with(⟨b,ae,rfl|hw⟩|hw)|hw
    ·exact(J b ae).1
    ·exact(J b ae).2 w (C6.1 hw)
    ·exact(U e (by simp)).1 w (C6.1 hw)
    ·exact(U e (by simp)).2 w (C6.1 hw)
   obtain⟨n,o,iH,jh,pS⟩:=V4 V _ _ s e.1 e.2 af aQ (fun c av=>⟨by rw[jd];simp only[ja,List.mem_flatMap];exact .inl (.inl ⟨c,av,by simp⟩),fun w hw=>by rw[jd];simp only[ja,List.mem_flatMap];exact .inl (.inl ⟨c,av,by simp[xh hw]⟩)⟩)
    (fun w hw=>by rw[jd];simp only[ja];exact .inl (.inr (xh hw))) (fun w hw=>by rw[jd];simp only[ja];exact .inr (xh hw)) rfl rfl
   have xP:=oZ jh;rw[ak]at xP;subst xP;obtain⟨V3,_⟩:=pS s1 rfl;have oS:=rz af aQ ak;exact bW oS.1 oS.2 (fun b ae=>⟨QZ _ (V3 b ae).1,fun w hw=>QZ w ((V3 b ae).2 w hw)⟩) (fun fD he=>U fD (by simp[he])) h
  ·cases h
theorem aiO{s:List al}(af:ff s){v n:Int}(h:bP s v= .var n):c0 s n=none:=by have:=LX af (t:= .var v) (w:=n) (by show(bP s v).occ n=true;rw[h];simp[T.occ]);exact this
theorem Hd{l aX:List b6}{t:T}{k:Int}(h:iq l t k=some aX):∀x∈aX,x∈l∨t= .var x.v:=by
 unfold iq at h;split at h
 ·rename_i n;split at h
  ·split at h
   ·cases h;exact fun x ad=>.inl ad
   ·cases h
  ·cases h;intro x ad;rcases Fu.1 ad with rfl|ad
   ·exact .inr rfl
   ·exact .inl ad
 ·split at h
  ·cases h;exact fun x ad=>.inl ad
  ·cases h
theorem Vh{s:List al}(af:ff s):∀{l acc a:List b6},(∀x∈acc,c0 s x.v=none)→fF s l acc=some a→∀x∈a,c0 s x.v=none
 |[],acc,a,h,he=>by simp only[fF,dt]at he;rw[←he];exact h
 |y::r,acc,a,h,he=>by
  simp only[fF]at he;split at he
  ·rename_i bp ak;refine Vh af (fun x ad=>?_) he;rcases Hd ak x ad with J|J
   ·exact h x J
   ·exact aiO af J
  ·cases he
theorem Sr{x:b6}:∀{l:List b6},(∀y∈l,y.v<x.v)→ln x l=l++[x]
 |[],_=>rfl
 |y::l,h=>by simp only[ln,if_pos (h y (by simp)),Sr (l:=l) fun z bf=>h z (by simp[bf]),bO]
theorem Vi{s:List al}:∀{l acc:List b6},(acc++l).Pairwise (fun x y=>x.v<y.v)→(∀x∈l,c0 s x.v=none)→fF s l acc=some (acc++l)
 |[],acc,_,_=>by simp[fF]
 |x::r,acc,br,aQ=>by
  have J:∀y∈acc,y.v<x.v:=fun y aG=>(List.pairwise_append.1 br).2.2 y aG x (by simp);have U:kW acc x.v=none:=xb.2 fun y aG=>by have:=J y aG;omega
  have ao:iq acc (bP s x.v) x.k=some (acc++[x]):=by rw[zZ (aQ x (by simp))];simp only[iq,U];rw[Sr J]
  simp only[fF,ao];rw[Vi (by simpa using br) fun y aG=>aQ y (by simp[aG])];simp
theorem Lw{s:List al}(af:ff s):∀{l acc a:List bk},(∀x∈acc,c0 s x.v=none)→fx s l acc=some a→∀x∈a,c0 s x.v=none
 |[],acc,a,h,he=>by simp only[fx,dt]at he;rw[←he];exact h
 |y::r,acc,a,h,he=>by
  simp only[fx]at he;split at he
  ·rename_i bp ak;refine Lw af (fun x ad=>?_) he;rcases(zp ak x).1 ad with J|⟨_,J⟩
   ·exact h x J
   ·exact LX af (t:= .var y.v) J
  ·cases he
theorem Lx{s:List al}:∀{l acc:List bk},hb fj (acc++l)→(∀x∈l,c0 s x.v=none)→fx s l acc=some (acc++l)
 |[],acc,_,_=>by simp[fx]
 |x::r,acc,br,aQ=>by
  have ao:jr acc (bP s x.v) x.s=some (acc++[x]):=by
   rw[zZ (aQ x (by simp))];refine He rfl (apV ?_ br) fun z=>?_
   ·simp
   ·simp only[ja,rW,T.occ,dH];refine or_congr_right ⟨fun h=>by rw[h];exact⟨rfl,rfl⟩,fun⟨J,U⟩=>?_⟩;cases z;cases x;simp_all
  simp only[fx,ao];rw[Lx (by simpa using br) fun y aG=>aQ y (by simp[aG])];simp
def xJ(b:List al)(k:List b6)(m:List bk)(d:List al):Prop:= ∃x,mgu b (fN d)=some x∧¬(fF x k []=none∨fx x m []=none)∧ds b x=d∧d≠[]
theorem BZ{b:List al}(ae:en b){k:List b6}{m:List bk}:∀{l L:List (List al)},ey b k m l=some L→∀d∈L,xJ b k m d
 |[],L,h=>by simp only[ey,dt]at h;rw[←h];simp
 |d0::r,L,h=>by
  simp only[ey]at h;split at h
  ·exact BZ ae h
  ·rename_i x ad;split at h
   ·exact BZ ae h
   ·rename_i ab;split at h
    ·cases h
    ·rename_i ar;rw[gd]at h;obtain⟨Ar,J,rfl⟩:=h;intro d aK;rcases ga.1 aK with rfl|aK
     ·exact⟨x,B9 ae.sol ae.fits ad,ab,rfl,ar⟩
     ·exact BZ ae J d aK
theorem J9{b:List al}{k:List b6}{m:List bk}:∀{L:List (List al)},(∀d∈L,xJ b k m d)→ey b k m L=some L
 |[],_=>rfl
 |d::L,h=>by obtain⟨x,J,U,ao,aZ⟩:=h d (by simp);simp only[ey,J,if_neg U,ao,if_neg aZ,J9 (L:=L) fun e he=>h e (by simp[he]),nC]
theorem Fk{b:List al}(ae:en b){k:List b6}{m:List bk}:∀{l L:List (List al)},(∀d∈l,en d)→ey b k m l=some L→∀d∈L,en d
 |[],L,_,h=>by simp only[ey,dt]at h;rw[←h];simp
 |d0::r,L,aq,h=>by
  simp only[ey]at h;split at h
  ·exact Fk ae (fun d aK=>aq d (by simp[aK])) h
  ·rename_i x ad;split at h
   ·exact Fk ae (fun d aK=>aq d (by simp[aK])) h
   ·split at h
    ·cases h
    ·rw[gd]at h;obtain⟨Ar,J,rfl⟩:=h;intro d aK;rcases ga.1 aK with rfl|aK
     ·exact Cd (ae.mgu (fun e he=>by obtain⟨c,av,rfl⟩:=hH.1 he;have:=(aq d0 (by simp)).ok c av;exact⟨by simpa[T.ok]using this.1,this.2⟩) ad)
     ·exact Fk ae (fun d aK=>aq d (by simp[aK])) J d aK
theorem Fh{b:List al}(ae:en b){n:Int}(ar:pf b n){k:List b6}{m:List bk}:∀{l L:List (List al)},(∀d∈l,pf d n)→ey b k m l=some L→∀d∈L,pf d n
 |[],L,_,h=>by simp only[ey,dt]at h;rw[←h];simp
 |d0::r,L,aq,h=>by
  simp only[ey]at h;split at h
  ·exact Fh ae ar (fun d aK=>aq d (by simp[aK])) h
  ·rename_i x ad;split at h
   ·exact Fh ae ar (fun d aK=>aq d (by simp[aK])) h
   ·split at h
    ·cases h
    ·rw[gd]at h;obtain⟨Ar,J,rfl⟩:=h;intro d aK;rcases ga.1 aK with rfl|aK
     ·have:=Ty (fun v=>v<n) ae.sol ae.fits ar (fun e he=>by obtain⟨c,av,rfl⟩:=hH.1 he;have:=aq d0 (by simp) c av;exact⟨fun w hw=>by simp[T.occ]at hw;subst hw;exact this.1,this.2⟩) ad
      exact fun c av=>this c (k3.1 av).1
     ·exact Fh ae ar (fun d aK=>aq d (by simp[aK])) J d aK
theorem TB{L:List (List al)}:iE (iE L)=iE L:=Tz (Kt L) fun x=>by rw[sH,and_assoc];refine⟨fun⟨J,U⟩=>⟨J,U,?_⟩,fun⟨J,U,_⟩=>⟨J,U⟩⟩;rw[hP,jD]at U⊢;exact fun d aK=>U d (sH.1 aK).1
theorem JY{b:List al}(ae:en b){n:Int}(ar:pf b n){v w:Int}(aJ:v<n)(h:(bP b v).occ w=true):w<n:=by
 unfold bP at h;cases e:c0 b v with
 |none=>rw[e]at h;simp[T.occ]at h;omega
 |some t=>rw[e]at h;exact(ar _ (jT e)).2 w h
theorem Vg{b:List al}(ae:en b){n:Int}(ar:pf b n):∀{l acc a:List b6},(∀x∈l,x.v<n)→(∀x∈acc,x.v<n)→fF b l acc=some a→∀x∈a,x.v<n
 |[],acc,a,_,h,he=>by simp only[fF,dt]at he;rw[←he];exact h
 |y::r,acc,a,aq,h,he=>by
  simp only[fF]at he;split at he
  ·rename_i bp ak;refine Vg ae ar (fun x ad=>aq x (by simp[ad])) (fun x ad=>?_) he;rcases Hd ak x ad with J|J
   ·exact h x J
   ·exact JY ae ar (aq y (by simp)) (by rw[J];simp[T.occ])
  ·cases he
theorem Vj{b:List al}(ae:en b){n:Int}(ar:pf b n):∀{l acc a:List bk},(∀x∈l,x.v<n)→(∀x∈acc,x.v<n)→fx b l acc=some a→∀x∈a,x.v<n
 |[],acc,a,_,h,he=>by simp only[fx,dt]at he;rw[←he];exact h
 |y::r,acc,a,aq,h,he=>by
  simp only[fx]at he;split at he
  ·rename_i bp ak;refine Vj ae ar (fun x ad=>aq x (by simp[ad])) (fun x ad=>?_) he;rcases(zp ak x).1 ad with J|⟨_,J⟩
   ·exact h x J
   ·exact JY ae ar (aq y (by simp)) J
  ·cases he
theorem xG{s ah:bM}(h:h2 s)(he:eU s=some ah):jO ah∧ah.n=s.n∧ah.b=s.b:=by
 unfold eU at he;split at he
 ·cases he
 rename_i k ab;split at he
 ·cases he
 rename_i m hm;split at he
 ·cases he
 rename_i L hz;split at he;rotate_left
 ·cases he
 rename_i k9;cases he;have aR:=F5 h.b h.k.at' ⟨by simp,by simp⟩ ab;have m1:=Cy h.b h.m.at' ⟨by simp,by simp[hb]⟩ hm;have m2:j0 (m.filter (jf k)):=⟨fun x ad=>m1.at' x (k3.1 ad).1,GY _ m1.asc⟩;have dh:=BZ h.b hz;have w1:=Fk h.b h.d hz;refine⟨⟨⟨h.n,h.b,fun x ad=>w1 x (sH.1 ad).1,aR,m2,h.bb,fun x ad=>Fh h.b h.bb h.db hz x (sH.1 ad).1,Vg h.b h.bb h.kb (by simp) ab,fun x ad=>Vj h.b h.bb h.mb (by simp) hm x (k3.1 ad).1⟩,?_⟩,rfl,rfl⟩;unfold eU;have ak:fF s.b k []=some k:=Vi (acc:=[]) aR.asc (Vh h.b.sol (by simp) ab);have aA:fx s.b (m.filter (jf k)) []=some (m.filter (jf k)):=Lx (acc:=[]) m2.asc fun x ad=>Lw h.b.sol (by simp) hm x (k3.1 ad).1;have bs:(m.filter (jf k)).filter (jf k)=m.filter (jf k):=by rw[List.filter_filter];simp
 have dq:ey s.b k (m.filter (jf k)) (iE L)=some (iE L):=J9 fun d aK=>dh d (sH.1 aK).1;simp only[ak,aA,bs,dq,TB,if_pos k9]
def p5:C:=(aa [cW 6 2,eC 8 2,bH 9 false] (.seq (aa [I 15 0,cL 16 55 15,cI 17 16,I 18 17,aw 18 false (ba 19 4 6),aw 18 false (cL 20 117 19),aw 18 false (cI 21 20),dj 22 18 21,I 23 22,bU 23 false 24 1,aw 23 false (cL 25 56 24),aw 23 false (cI 26 25),dj 27 23 26,I 28 27,bU 28 false 29 3,aw 28 false (aW 30 .neq 29 2),bU 28 false 31 30,bU 31 true 32 3,aw 31 true (aW 33 .neq 32 3),aw 28 false (dr 34 31 33),dj 35 28 34] (a8 35 (aa [eC 8 2,bH 9 false] .ret) .skip)) (aa [I 37 0,ba 38 4 6,cw 39 95 37 38,I 36 39,cq 40 0 36,cq 41 1 36,cU 10 dz,bG 4 10 40,I 11 41] (.seq (aa [I 42 11,cI 43 42] (a8 43 (aa [eC 8 2,bH 9 false] .ret) .skip)) (aa [c4 (.bslm 44 (some 803) 2 104 []),I 45 1,c4 (.appm 46 none 2 104 (.t 44) (.t 45)),c4 (.alloc 12 (some 804) (.slice 2 .nil [])),bG 1 12 46] (.seq (aa [aP 47 0 1 10,aB 48 1 47,aW 49 .neq 48 1] (a8 49 (.seq (aa [aP 50 0 1 10,aB 51 1 50,I 52 3,bA 53 .neq 51 52] (a8 53 (aa [eC 8 2,bH 9 false] .ret) .skip)) (.seq (.pubB 12 (.region [aB 54 1 12,I 8 54,bH 9 true])) .ret)) .skip)) (.seq (aa [I 55 1,cS 56 55,cr 57 0] (fY 58 57 56 (.seq (.block 1 (aa [cN 59 2 55 57,ba 60 2 59,c4 (.alloc 14 none (.agg [.int .i64 0,.int .i64 0])),bG 2 14 60] (aa [aP 61 0 1 14,aB 62 1 61,aP 63 1 1 10,aB 64 1 63,bA 65 .eql 62 64] (a8 65 (.seq (aa [aP 66 1 1 14,aB 67 1 66,I 68 3,bA 69 .neq 67 68] (a8 69 (aa [eC 8 2,bH 9 false] .ret) .skip)) (.seq (.pubB 12 (.region [aB 70 1 12,I 8 70,bH 9 true])) .ret)) .skip)))) (.region [aW 71 .add 57 1,I 57 71])))) (aa [aB 72 1 12,aP 73 1 1 10,aB 74 1 73,I 75 3,bX 76 (.build [.int .i64 0,.int .i64 0] [(0,1,(.t 74)),(1,1,(.t 75))]),dR 77 2 104 [.t 76],c4 (.appm 78 none 2 104 (.t 72) (.t 77)),bG 1 12 78] (aa [aB 79 1 12,bX 80 (.mkif 25 (.t 79)),bX 81 (.mkf 127 [.t 12]),cw 82 126 80 81] (.seq (.pubB 12 (.region [aB 83 1 12,I 8 83,bH 9 true])) .ret))))))))))
@[simp] def jM:List bu:=[.tmp 8,.tmp 9]
def Dz:C:=(aa [cW 6 2,c4 (.box 7 (some 811) (.t 3)),eC 8 2,bH 9 false] (.seq (aa [I 17 0,cL 18 55 17,cI 19 18,I 20 19,aw 20 false (ba 21 4 6),aw 20 false (cL 22 117 21),aw 20 false (cI 23 22),dj 24 20 23,I 25 24,bU 25 false 26 1,aw 25 false (cL 27 57 26),aw 25 false (cI 28 27),dj 29 25 28,I 30 29,aw 30 false (aB 31 1 7),aw 30 false (cL 32 128 31),aw 30 false (cI 33 32),dj 34 30 33] (a8 34 (aa [eC 8 2,bH 9 false] .ret) .skip)) (aa [I 36 0,ba 37 4 6,cw 38 95 36 37,I 35 38,cq 39 0 35,cq 40 1 35,cU 10 dz,bG 4 10 39,I 11 40] (.seq (aa [I 41 11,cI 42 41,I 43 42,aw 43 false (ba 44 4 10),aw 43 false (aB 45 1 7),aw 43 false (cw 46 109 44 45),dj 47 43 46] (a8 47 (aa [eC 8 2,bH 9 false] .ret) .skip)) (aa [c4 (.mkmap 48 (some 812)),c4 (.alloc 12 (some 813) (.junk)),bG 1 12 48] (.seq (aa [I 49 1,cS 50 49,cr 51 0] (fY 52 51 50 (.seq (.block 1 (aa [cN 53 2 49 51,ba 54 2 53,c4 (.alloc 14 none (.agg [.int .i64 0,.str []])),bG 2 14 54] (.region [aB 55 1 12,ba 56 2 14,c4 (.mput (.a [false,true]) (.t 55) (.t 56) (.c (.bool true)))]))) (.region [aW 57 .add 51 1,I 51 57])))) (aa [ba 58 4 10,bX 59 (.mkf 130 [.t 12,.t 7]),cw 60 129 58 59] (aa [c4 (.bslm 61 (some 814) 2 106 []),c4 (.alloc 15 (some 815) (.slice 2 .nil [])),bG 1 15 61] (.seq (aa [aB 62 1 12,c4 (.range 63 none (.t 62))] (.block 2 (.loop (aa [⟨none,.next 64 (.t 63)⟩,cq 65 0 64] (.seq (a8 65 .skip (.exit 2)) (.block 3 (aa [bX 66 (.ment (.t 63)),cq 67 0 66,c4 (.alloc 16 none (.agg [.int .i64 0,.str []])),bG 2 16 67] (.region [aB 68 1 15,ba 69 2 16,dR 70 2 106 [.t 69],c4 (.appm 71 none 2 106 (.t 68) (.t 70)),bG 1 15 71])))))))) (aa [aB 72 1 15,bX 73 (.mkif 26 (.t 72)),bX 74 (.mkf 131 [.t 15]),cw 75 126 73 74] (.seq (.pubB 15 (.region [aB 76 1 15,I 8 76,bH 9 true])) .ret)))))))))))
@[simp] def FN:List bu:=[.tmp 8,.tmp 9]
def NC:C:=(aa [bH 2 false] (.seq (aa [I 5 0,cS 6 5,cr 7 0] (fY 8 7 6 (.seq (.block 1 (aa [I 9 7,cN 10 2 5 7,ba 11 2 10,c4 (.alloc 4 none (.agg [.int .i64 0,.int .i64 0])),I 3 9,bG 2 4 11] (.seq (.drawn true 46 [aP 12 0 1 4,aB 13 1 12,aW 14 .lss 13 0,I 15 14,aw 15 false (aP 16 0 1 4),aw 15 false (aB 17 1 16),aw 15 false (aW 18 .gtr 17 100000),dj 19 15 18,I 20 19,aw 20 false (aP 21 1 1 4),aw 20 false (aB 22 1 21),aw 20 false (aW 23 .neq 22 2),bU 20 false 24 23,aw 24 true (aP 25 1 1 4),aw 24 true (aB 26 1 25),aw 24 true (aW 27 .neq 26 3),aw 20 false (dr 28 24 27),dj 29 20 28,I 30 29,bU 30 false 31 3,aw 30 false (aW 32 .gtr 31 0),bU 30 false 33 32,bU 33 true 34 0,bU 33 true 35 3,aw 33 true (aW 36 .sub 35 1),aw 33 true (cN 37 2 34 36),aw 33 true (aP 38 0 1 37),aw 33 true (aB 39 1 38),aw 33 true (aP 40 0 1 4),aw 33 true (aB 41 1 40),aw 33 true (bA 42 .geq 39 41),aw 30 false (dr 43 33 42),dj 44 30 43]) (a8 44 (aa [bH 2 false] .ret) .skip)))) (.region [aW 45 .add 7 1,I 7 45])))) (aa [bH 2 true] .ret)))
@[simp] def Ut:List bu:=[.tmp 2]
def ND:C:=(aa [bH 2 false] (.seq (aa [I 5 0,cS 6 5,cr 7 0] (fY 8 7 6 (.seq (.block 1 (aa [I 9 7,cN 10 2 5 7,ba 11 2 10,c4 (.alloc 4 none (.agg [.int .i64 0,.str []])),I 3 9,bG 2 4 11] (.seq (.drawn true 41 [aP 12 0 1 4,aB 13 1 12,aW 14 .lss 13 0,I 15 14,aw 15 false (aP 16 0 1 4),aw 15 false (aB 17 1 16),aw 15 false (aW 18 .gtr 17 100000),dj 19 15 18,I 20 19,aw 20 false (aP 21 1 1 4),aw 20 false (aB 22 1 21),aw 20 false (cL 23 128 22),aw 20 false (cI 24 23),dj 25 20 24,I 26 25,bU 26 false 27 3,aw 26 false (aW 28 .gtr 27 0),bU 26 false 29 28,bU 29 true 30 0,bU 29 true 31 3,aw 29 true (aW 32 .sub 31 1),aw 29 true (cN 33 2 30 32),aw 29 true (ba 34 2 33),aw 29 true (ba 35 2 4),aw 29 true (cw 36 132 34 35),aw 29 true (cI 37 36),aw 26 false (dr 38 29 37),dj 39 26 38]) (a8 39 (aa [bH 2 false] .ret) .skip)))) (.region [aW 40 .add 7 1,I 7 40])))) (aa [bH 2 true] .ret)))
@[simp] def K5:List bu:=[.tmp 2]
def DG:C:=(aa [cW 2 0,bH 4 false] (.seq (aa [aP 5 0 1 2,aB 6 1 5,aW 7 .eql 6 4] (a8 7 (aa [aP 8 3 1 2,aB 9 1 8,jC 10 4 9 0,ba 11 4 10,I 12 1,cw 13 109 11 12,I 14 13,aw 14 false (aP 15 3 1 2),aw 14 false (aB 16 1 15),aw 14 false (jC 17 4 16 1),aw 14 false (ba 18 4 17),bU 14 false 19 1,aw 14 false (cw 20 109 18 19),dj 21 14 20,I 4 21] .ret) .skip)) (aa [aP 22 0 1 2,aB 23 1 22,aW 24 .eql 23 2,I 25 24,aw 25 true (aP 26 2 1 2),aw 25 true (aB 27 1 26),bU 25 true 28 1,aw 25 true (bA 29 .eql 27 28),dr 30 25 29,I 4 30] .ret)))
@[simp] def FU:List bu:=[.tmp 4]
def Ny:C:=(aa [bH 5 false] (.seq (.drawn true 17 [aB 6 1 2,I 7 0,cN 8 2 6 7,aP 9 0 1 8,aB 10 1 9,aB 11 1 2,I 12 1,cN 13 2 11 12,aP 14 0 1 13,aB 15 1 14,bA 16 .lss 10 15,I 5 16]) .ret))
@[simp] def Uq:List bu:=[.tmp 5]
def Nw:C:=(.region [aB 4 1 1,I 5 0,aB 6 1 2,bX 7 (.build [.int .i64 0,.str []] [(0,1,(.t 5)),(1,1,(.t 6))]),c4 (.mput (.a [false,true]) (.t 4) (.t 7) (.c (.bool true)))])
@[simp] def Uo:List bu:=[]
def Nx:C:=(aa [bH 5 false] (.seq (.drawn true 15 [aB 6 1 2,I 7 0,cN 8 2 6 7,ba 9 2 8,aB 10 1 2,I 11 1,cN 12 2 10 11,ba 13 2 12,cw 14 132 9 13,I 5 14]) .ret))
@[simp] def Up:List bu:=[.tmp 5]
def DD:C:=(aa [cW 2 0,cW 3 1,bH 4 false] (aa [aP 5 0 1 2,aB 6 1 5,aP 7 0 1 3,aB 8 1 7,bA 9 .lss 6 8,I 10 9,aw 10 false (aP 11 0 1 2),aw 10 false (aB 12 1 11),aw 10 false (aP 13 0 1 3),aw 10 false (aB 14 1 13),aw 10 false (bA 15 .eql 12 14),bU 10 false 16 15,aw 16 true (aP 17 1 1 2),aw 16 true (aB 18 1 17),aw 16 true (aP 19 1 1 3),aw 16 true (aB 20 1 19),aw 16 true (bA 21 .lss 18 20),aw 10 false (dr 22 16 21),dj 23 10 22,I 4 23] .ret))
@[simp] def ahW:List bu:=[.tmp 4]
def sV:List (Nat×du):=[
 (3,⟨1,8,.int .i64,.int .i64 0⟩),
 (9,⟨1,16,.str,.str []⟩),
 (25,⟨1,24,.slice 104,.slice 2 .nil []⟩),
 (26,⟨1,24,.slice 106,.slice 2 .nil []⟩),
 (30,⟨1,24,.slice 32,.slice 4 .nil []⟩),
 (32,⟨4,56,.struct [(0,3),(1,3),(2,9),(3,30)],.agg [.int .i64 0,.int .i64 0,.str [],.slice 4 .nil []]⟩),
 (104,⟨2,16,.struct [(0,3),(1,3)],.agg [.int .i64 0,.int .i64 0]⟩),
 (106,⟨2,24,.struct [(0,3),(1,9)],.agg [.int .i64 0,.str []]⟩),
 (165,⟨1,8,.map 106 4,.junk⟩)]
theorem jP:fA az sV=true:=by kernel_rfl
theorem rB:cc sV p5 jM 4 Tryz.f52=true:=by kernel_rfl
theorem qW:az.funcs[(52:Nat)]? =some Tryz.f52:=Tryz.func52
theorem KE:cc sV Dz FN 4 Tryz.f54=true:=by kernel_rfl
theorem Ib:az.funcs[(54:Nat)]? =some Tryz.f54:=Tryz.func54
theorem afM:cc sV NC Ut 1 Tryz.f56=true:=by kernel_rfl
theorem Zp:az.funcs[(56:Nat)]? =some Tryz.f56:=Tryz.func56
theorem afN:cc sV ND K5 1 Tryz.f57=true:=by kernel_rfl
theorem Zq:az.funcs[(57:Nat)]? =some Tryz.f57:=Tryz.func57
theorem KL:cc sV DG FU 2 Tryz.f109=true:=by kernel_rfl
theorem Ij:az.funcs[(109:Nat)]? =some Tryz.f109:=Tryz.func109
theorem afI:cc sV Ny Uq 3 Tryz.f127=true:=by kernel_rfl
theorem Zl:az.funcs[(127:Nat)]? =some Tryz.f127:=Tryz.func127
theorem afG:cc sV Nw Uo 3 Tryz.f130=true:=by kernel_rfl
theorem Zj:az.funcs[(130:Nat)]? =some Tryz.f130:=Tryz.func130
theorem afH:cc sV Nx Up 3 Tryz.f131=true:=by kernel_rfl
theorem Zk:az.funcs[(131:Nat)]? =some Tryz.f131:=Tryz.func131
theorem KI:cc sV DD ahW 2 Tryz.f132=true:=by kernel_rfl
theorem Ig:az.funcs[(132:Nat)]? =some Tryz.f132:=Tryz.func132
def tQ(x:b6):Prop:=(0≤x.v∧x.v≤100000)∧(x.k=2∨x.k=3)
def sy(x y:b6):Prop:=x.v<y.v
theorem SF{l:List b6}:jH l↔∀i,i<l.length→nb tQ sy l i:=by rw[MW (p:=tQ) (r:=sy) (fun a b c J U=>by unfold sy at*;omega)];exact⟨fun h=>⟨h.at',h.asc⟩,fun h=>⟨h.1,h.2⟩⟩
def pK(x:bk):Prop:=(0≤x.v∧x.v≤100000)∧iB x.s=true
def pM(x y:bk):Prop:=fj x y<0
theorem Tl{l:List bk}:j0 l↔∀i,i<l.length→nb pK pM l i:=by rw[MW (p:=pK) (r:=pM) (fun a b c J U=>by unfold pM at*;exact lv.ltr J (Int.le_of_lt U))];exact⟨fun h=>⟨h.at',h.asc⟩,fun h=>⟨h.1,h.2⟩⟩
open Classical in
theorem Wb(l:List b6):b7 az 56 [.slice 2 .no (l.map b6.e)] (.bool (decide (jH l))):=by
 generalize b4:decide (jH l)=R;refine bE jP Zp afM fun aU=>?_;unfold NC;have ib:l.length≤68719476736:=by simp[h9,ho,hV,lim]at aU;omega
 simp;refine gh [0,5,6] (fun i (_:Unit)=>[(7,.int .i64 i)]) l.length (fun i _=> ∀j,j<i→nb tQ sy l j) () cu (fun k ab=>by omega) (fun _ ag _=>?_) (fun i _ hi ag _=>?_)
 ·have:R=true:=by rw[←b4,fI,SF];exact ag
  rw[this];exact cZ
 ·obtain⟨b,ae⟩:∃b,l[i]? =some b:=⟨_,cv hi⟩;obtain⟨c,av⟩:∃c,l[i-1]? =some c:=⟨_,cv (by omega)⟩;have dk:∀h,(l[i]'h)=b:=fun h=>by rw[cv hi]at ae;exact fP ae
  have dT:¬nb tQ sy l i→R=false:=fun h=>by rw[←b4,j4];exact fun cA=>h (SF.1 cA i hi)
  have dh:nb tQ sy l i→∀j,j<i+1→nb tQ sy l j:=fun h j jG=>by
   by_cases e:j=i
   ·rw[e];exact h
   ·exact ag j (by omega)
  simp[hi,dk,av];((with_reducible repeat' first|refine aj ?_|simp[dk,av,hi]|((first|apply bI|apply bK|apply bJ)<;>intro h<;>try simp at h))<;>(try exact cm));all_goals first
   |(have ar:¬nb tQ sy l i:=by(intro cA;have J:=cA b ae;have U:=J.2 c;have ao:=J.1;unfold tQ sy at*;first|omega|(have aZ:=U (by omega) av;omega)|(simp_all;done)|(simp_all;omega))
     rw[dT ar]
     simp[bz,Ut,aV,aY,aT]
     done)
   |(refine bT.rng () hi (dh fun b0 gz=>?_) ?_
     ·rw[ae]at gz;cases gz
      refine⟨?_,fun cd bV hW=>?_⟩
      ·unfold tQ;first|(simp_all;done)|(simp_all;omega)
      ·rw[av]at hW;cases hW;unfold sy;simp_all
     ·exact cu)
theorem Ag(a b:bk):b7 az 132 [a.e,b.e] (.bool (iD fj a b)):=by
 rw[←TI];have b4:sI a b=(decide (a.v<b.v)||(a.v==b.v&&gZ a.s b.s)):=rfl;rcases Int.lt_trichotomy a.v b.v with h|h|h
 ·have:sI a b=true:=by rw[b4];simp[h]
  rw[this];refine bE jP Ig KI fun aU=>?_;unfold DD;exact cZ
 ·have J:¬a.v<b.v:=by omega
  have U:(a.v==b.v)=true:=by simp[h]
  have:sI a b=gZ a.s b.s:=by rw[b4];simp[h]
  rw[this];refine bE jP Ig KI fun aU=>?_;unfold DD;exact cZ
 ·have J:¬a.v<b.v:=by omega
  have U:¬a.v=b.v:=by omega
  have ao:(a.v==b.v)=false:=by simp[U]
  have:sI a b=false:=by rw[b4];simp[J,U]
  rw[this];refine bE jP Ig KI fun aU=>?_;unfold DD;exact cZ
open Classical in
theorem We(l:List bk):b7 az 57 [.slice 2 .no (l.map bk.e)] (.bool (decide (j0 l))):=by
 generalize b4:decide (j0 l)=R;refine bE jP Zq afN fun aU=>?_;unfold ND;have ib:l.length≤68719476736:=by simp[h9,ho,hV,lim]at aU;omega
 simp;refine gh [0,5,6] (fun i (_:Unit)=>[(7,.int .i64 i)]) l.length (fun i _=> ∀j,j<i→nb pK pM l j) () cu (fun k ab=>by omega) (fun _ ag _=>?_) (fun i _ hi ag _=>?_)
 ·have:R=true:=by rw[←b4,fI,Tl];exact ag
  rw[this];exact cZ
 ·obtain⟨b,ae⟩:∃b,l[i]? =some b:=⟨_,cv hi⟩;obtain⟨c,av⟩:∃c,l[i-1]? =some c:=⟨_,cv (by omega)⟩;have dk:∀h,(l[i]'h)=b:=fun h=>by rw[cv hi]at ae;exact fP ae
  have dT:¬nb pK pM l i→R=false:=fun h=>by rw[←b4,j4];exact fun cA=>h (Tl.1 cA i hi)
  have dh:nb pK pM l i→∀j,j<i+1→nb pK pM l j:=fun h j jG=>by
   by_cases e:j=i
   ·rw[e];exact h
   ·exact ag j (by omega)
  have hN:∀p:Prop,(p→ej)→(nb pK pM l i→p)→R=false:=fun p J U=>dT fun h=>J (U h);have En:nb pK pM l i→pK b:=fun h=>(h b ae).1;have bq:nb pK pM l i→0<i→iD fj c b=true:=fun h bV=>by simpa[iD,pM]using(h b ae).2 c bV av
  have eu:pK b→(0<i→iD fj c b=true)→nb pK pM l i:=fun J U b0 gz=>by rw[ae]at gz;cases gz;exact⟨J,fun cd bV hW=>by rw[av]at hW;cases hW;simpa[iD,pM]using U bV⟩
  unfold pK at En eu;by_cases g1:b.v<0
  ·rw[hN _ (fun h=>by omega) (fun h=>(En h).1.1)];exact cZ
  by_cases g2:100000<b.v
  ·rw[hN _ (fun h=>by omega) (fun h=>(En h).1.2)];exact cZ
  cases g3:iB b.s
  ·rw[hN _ (fun h=>by rw[h]at g3;cases g3) (fun h=>(En h).2)];simp[hi,dk,av];(with_reducible repeat' first|refine aj ?_|refine aC (sW _) ?_|refine aD (sW _) ?_|simp[dk,av,hi,g1,g2,g3]);simp[bz,K5,aV,aY,aT]
  by_cases g4:0<i
  ·cases g5:iD fj c b
   ·rw[hN _ (fun h=>by rw[h]at g5;cases g5) (fun h=>bq h g4)];simp[hi,dk,av];(with_reducible repeat' first|refine aj ?_|refine aC (sW _) ?_|refine aD (sW _) ?_|refine aC (Ag _ _) ?_|refine aD (Ag _ _) ?_|simp[dk,av,hi,g1,g2,g3,g4,g5]);simp[bz,K5,aV,aY,aT]
   ·simp[hi,dk,av];(with_reducible repeat' first|refine aj ?_|refine aC (sW _) ?_|refine aD (sW _) ?_|refine aC (Ag _ _) ?_|refine aD (Ag _ _) ?_|simp[dk,av,hi,g1,g2,g3,g4,g5]);exact bT.rng () hi (dh (eu ⟨⟨by omega,by omega⟩,g3⟩ fun _=>g5)) cu
  ·obtain rfl:i=0:=by omega
   simp[hi,dk,av];(with_reducible repeat' first|refine aj ?_|refine aC (sW _) ?_|refine aD (sW _) ?_|simp[dk,av,hi,g1,g2,g3,g4]);exact bT.rng () hi (dh (eu ⟨⟨by omega,by omega⟩,g3⟩ fun h=>by omega)) cu
theorem ajX(s:List cV):∀t:T,b7 az 109 [t.e,.str s] (.bool (t.has s)):=by
 intro t;induction t with
 |pair a b ee ef=>
  refine bE jP Ij KL fun aU=>?_;unfold DG;simp;cases br:a.has s<;>cases ae:b.has s<;>rw[br]at ee<;>rw[ae]at ef;all_goals(with_reducible repeat' first|refine aj ?_|refine aC ee ?_|refine aD ee ?_|refine aC ef ?_|refine aD ef ?_|simp)
  all_goals simp[bz,FU,aV,aY,aT]
  all_goals simp[T.has,br,ae]
 |sym n=>
  refine bE jP Ij KL fun aU=>?_;unfold DG;simp;(with_reducible repeat' first|refine aj ?_|simp);all_goals simp[bz,FU,aV,aY,aT]
  all_goals simp[T.has]
 |_=>
  refine bE jP Ij KL fun aU=>?_;unfold DG;simp;(with_reducible repeat' first|refine aj ?_|simp);all_goals simp[bz,FU,aV,aY,aT]
  all_goals simp[T.has]
def OC:C:=(aa [cW 2 0] (aa [cr 4 20] (aa [I 8 4,cr 5 0,I 6 8] (.seq (.block 0 (.loop (.seq (aa [I 9 6,I 10 1,bA 11 .leq 9 10] (a8 11 .skip (.exit 0))) (.block 1 (aa [ba 12 2 2,I 13 5,I 14 6,cX 15 260 [.t 12,.t 13,.t 14]] (aa [I 16 6,I 5 16] (.region [I 17 6,I 18 4,bA 19 .add 17 18,I 6 19]))))))) (aa [ba 20 2 2,I 21 5,I 22 1,cX 23 260 [.t 20,.t 21,.t 22]] (.block 2 (.loop (.seq (aa [I 24 4,I 25 1,bA 26 .lss 24 25] (a8 26 .skip (.exit 2))) (.block 3 (aa [I 27 4,bX 28 (.bin .mul false (et 2) (.t 27)),cr 5 0,I 6 28] (.seq (.block 4 (.loop (.seq (aa [I 29 6,I 30 1,bA 31 .leq 29 30] (a8 31 .skip (.exit 4))) (.block 5 (aa [ba 32 2 2,I 33 5,I 34 5,I 35 4,bA 36 .add 34 35,I 37 6,cX 38 277 [.t 32,.t 33,.t 36,.t 37]] (aa [I 39 6,I 5 39] (.region [I 40 6,I 41 4,bX 42 (.bin .mul false (et 2) (.t 41)),bA 43 .add 40 42,I 6 43]))))))) (.seq (aa [I 44 5,I 45 4,bA 46 .add 44 45,I 7 46] (aa [I 47 7,I 48 1,bA 49 .lss 47 48] (a8 49 (.region [ba 50 2 2,I 51 5,I 52 7,I 53 1,cX 54 277 [.t 50,.t 51,.t 52,.t 53]]) .skip))) (.region [I 55 4,aW 56 .mul 55 2,I 4 56])))))))))))))
@[simp] def aia:List bu:=[]
def HE:C:=(aa [cW 3 0] (aa [I 8 1,aW 9 .add 8 1,I 6 9] (.block 0 (.loop (.seq (aa [I 10 6,I 11 2,bA 12 .lss 10 11] (a8 12 .skip (.exit 0))) (.seq (.block 1 (aa [I 15 6,I 7 15] (.block 2 (.loop (.seq (aa [I 16 7,I 17 1,bA 18 .gtr 16 17,I 19 18,aw 19 true (aP 20 0 1 3),aw 19 true (aB 21 1 20),bU 19 true 22 7,bU 19 true 23 7,aw 19 true (aW 24 .sub 23 1),aw 19 true (gw 25 21 [.t 22,.t 24]),dr 26 19 25] (a8 26 .skip (.exit 2))) (.seq (.block 3 (.region [aP 29 1 1 3,aB 30 1 29,I 31 7,I 32 7,aW 33 .sub 32 1,gw 34 30 [.t 31,.t 33]])) (.region [I 27 7,aW 28 .sub 27 1,I 7 28]))))))) (.region [I 13 6,aW 14 .add 13 1,I 6 14])))))))
@[simp] def ah6:List bu:=[]
def DK:C:=(aa [I 164 16,I 165 22,bA 166 .lss 164 165,I 167 166,bU 167 true 168 22,bU 167 true 169 3,aw 167 true (bA 170 .lss 168 169),dr 171 167 170] (a8 171 (.region [ba 172 2 4,I 173 16,I 174 22,I 175 3,cX 176 277 [.t 172,.t 173,.t 174,.t 175]]) .skip))
def DL:C:=(.seq (aa [I 151 1,I 152 18,bA 153 .lss 151 152,I 154 153,bU 154 true 155 18,bU 154 true 156 16,aw 154 true (bA 157 .lss 155 156),dr 158 154 157] (a8 158 (.region [ba 159 2 4,I 160 1,I 161 18,I 162 16,cX 163 277 [.t 159,.t 160,.t 161,.t 162]]) .skip)) DK)
def HI:C:=(.seq (aa [I 138 18,I 139 2,bA 140 .lss 138 139,I 141 140,bU 141 true 142 2,bU 141 true 143 22,aw 141 true (bA 144 .lss 142 143),dr 145 141 144] (a8 145 (.region [ba 146 2 4,I 147 18,I 148 2,I 149 22,cX 150 284 [.t 146,.t 147,.t 148,.t 149]]) .skip)) DL)
def HJ:C:=(aa [I 113 17,aW 114 .sub 113 1,I 20 114] (.seq (.block 8 (.loop (.seq (aa [I 115 18,I 116 19,bA 117 .lss 115 116] (a8 117 .skip (.exit 8))) (.block 9 (aa [I 118 18,I 119 19,bA 120 .add 118 119,bX 121 (.conv .u64 (.t 120)),bX 122 (.bin .shr false (.t 121) (.c (.int .u64 1))),bX 123 (.conv .i64 (.t 122)),I 21 123] (aa [aP 124 0 1 4,aB 125 1 124,I 126 20,I 127 21,bA 128 .sub 126 127,I 129 21,gw 130 125 [.t 128,.t 129],cI 131 130] (a8 131 (.region [I 132 21,aW 133 .add 132 1,I 18 133]) (.region [I 134 21,I 19 134])))))))) (aa [I 135 17,I 136 18,bA 137 .sub 135 136,I 22 137] HI)))
def OE:C:=(aa [cW 4 0] (.seq (aa [I 23 2,I 24 1,bA 25 .sub 23 24,aW 26 .eql 25 1] (a8 26 (aa [I 27 2,I 8 27] (aa [I 28 3,I 9 28] (.seq (.block 0 (.loop (.seq (aa [I 29 8,I 30 9,bA 31 .lss 29 30] (a8 31 .skip (.exit 0))) (.block 1 (aa [I 32 8,I 33 9,bA 34 .add 32 33,bX 35 (.conv .u64 (.t 34)),bX 36 (.bin .shr false (.t 35) (.c (.int .u64 1))),bX 37 (.conv .i64 (.t 36)),I 10 37] (aa [aP 38 0 1 4,aB 39 1 38,I 40 10,I 41 1,gw 42 39 [.t 40,.t 41]] (a8 42 (.region [I 43 10,aW 44 .add 43 1,I 8 44]) (.region [I 45 10,I 9 45])))))))) (.seq (aa [I 46 1,I 11 46] (.block 2 (.loop (.seq (aa [I 47 11,I 48 8,aW 49 .sub 48 1,bA 50 .lss 47 49] (a8 50 .skip (.exit 2))) (.seq (.block 3 (.region [aP 53 1 1 4,aB 54 1 53,I 55 11,I 56 11,aW 57 .add 56 1,gw 58 54 [.t 55,.t 57]])) (.region [I 51 11,aW 52 .add 51 1,I 11 52])))))) .ret)))) .skip)) (.seq (aa [I 59 3,I 60 2,bA 61 .sub 59 60,aW 62 .eql 61 1] (a8 62 (aa [I 63 1,I 12 63] (aa [I 64 2,I 13 64] (.seq (.block 4 (.loop (.seq (aa [I 65 12,I 66 13,bA 67 .lss 65 66] (a8 67 .skip (.exit 4))) (.block 5 (aa [I 68 12,I 69 13,bA 70 .add 68 69,bX 71 (.conv .u64 (.t 70)),bX 72 (.bin .shr false (.t 71) (.c (.int .u64 1))),bX 73 (.conv .i64 (.t 72)),I 14 73] (aa [aP 74 0 1 4,aB 75 1 74,I 76 2,I 77 14,gw 78 75 [.t 76,.t 77],cI 79 78] (a8 79 (.region [I 80 14,aW 81 .add 80 1,I 12 81]) (.region [I 82 14,I 13 82])))))))) (.seq (aa [I 83 2,I 15 83] (.block 6 (.loop (.seq (aa [I 84 15,I 85 12,bA 86 .gtr 84 85] (a8 86 .skip (.exit 6))) (.seq (.block 7 (.region [aP 89 1 1 4,aB 90 1 89,I 91 15,I 92 15,aW 93 .sub 92 1,gw 94 90 [.t 91,.t 93]])) (.region [I 87 15,aW 88 .sub 87 1,I 15 88])))))) .ret)))) .skip)) (aa [I 95 1,I 96 3,bA 97 .add 95 96,bX 98 (.conv .u64 (.t 97)),bX 99 (.bin .shr false (.t 98) (.c (.int .u64 1))),bX 100 (.conv .i64 (.t 99)),I 16 100] (aa [I 101 16,I 102 2,bA 103 .add 101 102,I 17 103] (aa [cr 18 0,cr 19 0] (.seq (aa [I 104 2,I 105 16,bA 106 .gtr 104 105] (a8 106 (aa [I 107 17,I 108 3,bA 109 .sub 107 108,I 18 109] (.region [I 110 16,I 19 110])) (aa [I 111 1,I 18 111] (.region [I 112 2,I 19 112])))) HJ)))))))
@[simp] def aib:List bu:=[]
def OA:C:=(aa [cW 4 0] (aa [I 10 2,I 11 1,bA 12 .sub 10 11,I 8 12] (aa [I 13 3,I 14 2,bA 15 .sub 13 14,I 9 15] (.seq (.block 0 (.loop (.seq (aa [I 16 8,I 17 9,bA 18 .neq 16 17] (a8 18 .skip (.exit 0))) (.block 1 (aa [I 19 8,I 20 9,bA 21 .gtr 19 20] (a8 21 (aa [ba 22 2 4,I 23 2,I 24 8,bA 25 .sub 23 24,I 26 2,I 27 9,cX 28 295 [.t 22,.t 25,.t 26,.t 27]] (.region [I 29 8,I 30 9,bA 31 .sub 29 30,I 8 31])) (aa [ba 32 2 4,I 33 2,I 34 8,bA 35 .sub 33 34,I 36 2,I 37 9,bA 38 .add 36 37,I 39 8,bA 40 .sub 38 39,I 41 8,cX 42 295 [.t 32,.t 35,.t 40,.t 41]] (.region [I 43 9,I 44 8,bA 45 .sub 43 44,I 9 45])))))))) (.region [ba 46 2 4,I 47 2,I 48 8,bA 49 .sub 47 48,I 50 2,I 51 8,cX 52 295 [.t 46,.t 49,.t 50,.t 51]])))))
@[simp] def ah8:List bu:=[]
def OD:C:=(aa [cW 4 0] (aa [cr 8 0] (.block 0 (.loop (.seq (aa [I 9 8,I 10 3,bA 11 .lss 9 10] (a8 11 .skip (.exit 0))) (.seq (.block 1 (.region [aP 14 1 1 4,aB 15 1 14,I 16 1,I 17 8,bA 18 .add 16 17,I 19 2,I 20 8,bA 21 .add 19 20,gw 22 15 [.t 18,.t 21]])) (.region [I 12 8,aW 13 .add 12 1,I 8 13])))))))
@[simp] def UX:List bu:=[]
def Aa:List (Nat×du):=[
 (3,⟨1,8,.int .i64,.int .i64 0⟩),
 (160,⟨1,8,.other,.junk⟩),
 (163,⟨1,8,.int .u64,.int .u64 0⟩),
 (216,⟨1,8,.other,.junk⟩),
 (222,⟨2,16,.struct [(0,160),(1,216)],.agg [.junk,.junk]⟩)]
theorem Ac:fA az Aa=true:=by kernel_rfl
theorem agH:cc Aa OC aia 2 Tryz.f248=true:=by kernel_rfl
theorem aaj:az.funcs[(248:Nat)]? =some Tryz.f248:=Tryz.func248
theorem T4:cc Aa HE ah6 3 Tryz.f260=true:=by kernel_rfl
theorem Qa:az.funcs[(260:Nat)]? =some Tryz.f260:=Tryz.func260
theorem agJ:cc Aa OE aib 4 Tryz.f277=true:=by kernel_rfl
theorem aal:az.funcs[(277:Nat)]? =some Tryz.f277:=Tryz.func277
theorem agF:cc Aa OA ah8 4 Tryz.f284=true:=by kernel_rfl
theorem aah:az.funcs[(284:Nat)]? =some Tryz.f284:=Tryz.func284
theorem agI:cc Aa OD UX 4 Tryz.f295=true:=by kernel_rfl
theorem aak:az.funcs[(295:Nat)]? =some Tryz.f295:=Tryz.func295
end Go.Proofs.YtohaalphocaebaaGreat
