/- From a contract of a law of bytes to its row. -/
import Derived.ProofKit
import Derived.Carry
import Derived.WalkKit
import Derived.Test.YtohaalphocaebaaGreatP5
set_option linter.all false
set_option maxHeartbeats 4000000
set_option maxRecDepth 4000
open Bool renaming and_eq_true->ct,eq_iff_iff->pN,false_eq_true->gF
open Go.IntKind renaming bits->nD,signed->rf
open Go.Proofs.Tryz renaming prog->ay
open Go.Value renaming cells->oV
open List renaming all_eq_true->gH,getElem?_eq_some_iff->fp,map_cons->eO,map_nil->hn,mem_cons->fI,mem_of_getElem?->eZ,take_of_length_le->hv
open Nat renaming le_trans->gZ
open Option renaming bind_some->hU,getD_none->jq,getD_some->hV,isSome_none->iL,isSome_some->kM
open _root_ renaming False->eN,UInt8->c4,decide_eq_false->lT,decide_eq_false_iff_not->hx,decide_eq_true->jS,decide_eq_true_eq->eF
namespace Go.Proofs.YtohaalphocaebaaGreat
section
open Go Go.Pv
open Classical in
theorem amO{s:cC}(af:gK s){v:List ak}(av:iz s.n v):bZ ay 80 [s.e,.slice 5 .no (v.map ak.e)] (.bool (decide (q6 s v))):=by
 generalize bS:decide (q6 s v)=R;have kE:v.length<=1000000:=by have:=av.fits.1;omega
 have p1:=j7.fit av.ok av.fits;obtain⟨n,yA,wN,yC,sm⟩:=s;have c8:¬q6 ⟨n,yA,wN,yC,sm⟩ v->R=false:=fun h=>by rw[<-bS,hx];exact h
 have nn:q6 ⟨n,yA,wN,yC,sm⟩ v->R=true:=fun h=>by rw[<-bS,eF];exact h
 clear bS;have nU:=af.b;have fk:=nU.len;have cE:=af.bb;have jg:=af.d;have vJ:=af.k;have vH:=af.kb;have rR:=af.mb;have Cp:=af.m;have im:=uG vJ;simp only at nU fk cE jg vJ vH rR Cp im av;clear af;simp only[cC.e];refine bE n9 acR ajH fun aR=>?_;unfold Qt;have Fx:wN.length<=68719476736:=by simp[ij,ho,hN,lim]at aR;omega
 have mE:sm.length<=68719476736:=by simp[ij,ho,hN,lim]at aR;omega
 clear aR;simp;(with_reducible repeat' first|refine aj ?_|simp);refine eQ [1,2,22,23] (fun i (_:Unit)=>[(24,.int .i64 i)]) yA.length (np (tA v) yA) () cb (fun k b ad=>Ω) (fun _ ag _=>?_) (fun i _ hi ag _=>?_);rotate_left
 ·obtain⟨b,ab,cq⟩:=fb hi;have lZ:=eZ ab;obtain⟨c,aq,aW,qP⟩:=av.get (nU.ok b (eZ ab)).1.1 (cE b (eZ ab)).1;have aX:=re v b.v kE;rw[aW]at aX;simp only[hV,kM]at aX;have bg:=D4 v kE b.t;have b6:=HM c.t (b.t.ap (aY v));have cw:tA v b=(decide ((b.t.ap (aY v)).size<=5000)&&decide (c.t=b.t.ap (aY v))):=by rw[tA,qP];congr 1;exact decide_eq_decide.2 eq_comm
  have fY:tA v b=false->R=false:=fun h=>c8 fun ck=>by have:=gH.1 ck.b b lZ;rw[h]at this;cases this
  have er:=fun h:tA v b=true=>ag.step ab h;clear ag ab lZ c8 nn av p1 aW aq qP;generalize tA v b=H at cw fY er;by_cases bk:(b.t.ap (aY v)).size<=5000
  ·rw[jS bk]at bg;rw[jS bk,Bool.true_and]at cw;generalize b.t.ap (aY v)=y at bg b6 cw;generalize decide (c.t=y)=q at b6 cw;cases q
   ·rw[fY cw];exact c0
   ·have az:=er cw;exact h6
  ·rw[lT bk]at bg;rw[lT bk,Bool.false_and]at cw;rw[fY cw];generalize b.t.ap (aY v)=y at bg;clear b6;exact c0
 have kj:yA.all (tA v)=true:=gH.2 ag.fin;clear ag;simp;(with_reducible repeat' first|refine aj ?_|simp);refine eQ [1,2,52,53] (fun i (_:Unit)=>[(54,.int .i64 i)]) wN.length (np (pT v) wN) () cb (fun k b ad=>Ω) (fun _ ag _=>?_) (fun i _ hi ag _=>?_);rotate_left
 ·obtain⟨b,ab,cq⟩:=fb hi;have lZ:=eZ ab;have aX:bZ ay 168 [cQ b,.slice 5 .no (v.map ak.e)] (.bool (pT v b)):=amW av.ok av.fits av.asc (jg b lZ);have fY:pT v b=false->R=false:=fun h=>c8 fun ck=>by have:=gH.1 ck.d b lZ;rw[h]at this;cases this
  have er:=fun h:pT v b=true=>ag.step ab h;clear ag ab lZ c8 nn av p1;generalize pT v b=q at aX fY er;cases q
  ·rw[fY rfl];exact c0
  ·have az:=er rfl;exact h6
 have B2:wN.all (pT v)=true:=gH.2 ag.fin;clear ag;simp;(with_reducible repeat' first|refine aj ?_|simp);refine eQ [1,2,64,65] (fun i (_:Unit)=>[(66,.int .i64 i)]) yC.length (np (fun k=>decide ((aY v k.v).kind=k.k)) yC) () cb (fun k b ad=>Ω) (fun _ ag _=>?_) (fun i _ hi ag _=>?_);rotate_left
 ·obtain⟨b,ab,cq⟩:=fb hi;have lZ:=eZ ab;obtain⟨c,aq,aW,qP⟩:=av.get (vJ.at' b (eZ ab)).1.1 (vH b (eZ ab));have aX:=re v b.v kE;rw[aW]at aX;simp only[hV,kM]at aX;by_cases g:c.t.kind=b.k
  ·have az:=ag.step ab (by rw[qP];exact jS g);clear ag ab lZ c8 nn av p1 aW aq qP;exact h6
  ·rw[c8 fun ck=>by have:=gH.1 ck.k b lZ;rw[qP]at this;exact g (of_decide_eq_true this)]
   clear ag ab lZ c8 nn av p1 aW aq qP;simp[hi,cq];((with_reducible repeat' first|refine aj ?_|refine aC aX ?_|refine aD aX ?_|simp[cq,hi,g]|((first|apply bD|apply bH|apply bG)<;>intro h<;>try simp at h))<;>(try exact b2));all_goals simp[bn,Wi,aT,aU,aS]
 have c2:yC.all (fun k=>decide ((aY v k.v).kind=k.k))=true:=gH.2 ag.fin;clear ag;simp;(with_reducible repeat' first|refine aj ?_|simp);refine eQ [1,84,85] (fun i (_:Unit)=>[(86,.int .i64 i)]) sm.length (np (fun m=> !(aY v m.v).has m.s) sm) () cb (fun k b ad=>Ω) (fun _ ag _=>?_) (fun i _ hi ag _=>?_);rotate_left
 ·obtain⟨b,ab,cq⟩:=fb hi;have lZ:=eZ ab;obtain⟨c,aq,aW,qP⟩:=av.get (Cp.at' b (eZ ab)).1.1 (rR b (eZ ab));have aX:=re v b.v kE;rw[aW]at aX;simp only[hV,kM]at aX;have bg:=amV (p1 c (eZ aq)) b.s;cases g:c.t.has b.s
  ·rw[g]at bg;have az:=ag.step ab (by rw[qP,g];rfl);clear ag ab lZ c8 nn av p1 aW aq qP;exact h6
  ·rw[g]at bg;rw[c8 fun ck=>by have:=gH.1 ck.m b lZ;rw[qP,g]at this;cases this]
   clear ag ab lZ c8 nn av p1 aW aq qP;exact c0
 rw[nn ⟨kj,B2,c2,gH.2 ag.fin⟩];clear ag;exact c0
def MW(r:pR)(l:List dO):Prop:= ∃s:cC,r=s.r/\q8 s/\CO s l
theorem WW{s:cC}(h:q8 s)(l:List dO):MW s.r l↔CO s l:=by
 constructor
 ·rintro⟨ah,e,_,U⟩;rw[cC.r_inj e];exact U
 ·intro U;exact⟨s,rfl,h,U⟩
open Classical in
theorem amZ(r:pR)(il:jM r.m->wV r.m)(l:List dO):bZ ay 30 [r.e,.slice 5 .no (l.map dO.e)] (.bool (decide (MW r l))):=by
 have c9:=am2 r il;by_cases g:yE r;rotate_left
 ·rw[lT g]at c9;rw[lT fun⟨s,J,U,_⟩=>g ⟨s,J,U⟩];obtain⟨n,b,d,k,m⟩:=r;simp only[pR.e]at c9⊢;refine bE n9 E6 GF fun aR=>?_;unfold By;exact c0
 rw[jS g]at c9;obtain⟨s,rfl,af⟩:=g;have e:decide (MW s.r l)=decide (CO s l):=decide_eq_decide.2 (WW af l);rw[e];rw[W3]at c9⊢;have gS:=XL l;generalize bS:decide (CO s l)=R;by_cases g1:vj l;rotate_left
 ·rw[lT g1]at gS;have:R=false:=by rw[<-bS,hx];rintro⟨v,rfl,h,_⟩;exact g1 (wY.2 ⟨v,rfl,h.ok,h.asc,h.fits⟩)
  subst this;clear bS g1 af;obtain⟨n,b,d,k,m⟩:=s;simp only[cC.e]at c9 gS⊢;refine bE n9 E6 GF fun aR=>?_;unfold By;exact c0
 rw[jS g1]at gS;obtain⟨v,rfl,FY,Ky,nm⟩:=wY.1 g1;clear g1;rw[tv]at gS⊢;by_cases g2:(v.length:Int)=s.n;rotate_left
 ·have:R=false:=by rw[<-bS,hx];rintro⟨w,e,h,_⟩;rw[sK e]at g2;exact g2 h.len
  subst this;have Fg:s.n≠(v.length:Int):=fun h=>g2 h.symm;clear bS af FY Ky nm;obtain⟨n,b,d,k,m⟩:=s;simp only[cC.e]at c9 gS g2 Fg⊢;refine bE n9 E6 GF fun aR=>?_;unfold By;simp;((with_reducible repeat' first|refine aj ?_|refine aC c9 ?_|refine aD c9 ?_|refine aC gS ?_|refine aD gS ?_|simp[g2,Fg]|((first|apply bD|apply bH|apply bG)<;>intro h<;>try simp at h))<;>(try exact b2));all_goals simp[bn,Me,aT,aU,aS]
 have c8:¬(iz s.n v/\q6 s v)->R=false:=fun h=>by rw[<-bS,hx];rintro⟨w,e,J,U⟩;rw[sK e]at h;exact h ⟨J,U⟩
 have nn:iz s.n v->decide (q6 s v)=R:=fun J=>by rw[<-bS];exact decide_eq_decide.2 ⟨fun U=>⟨v,rfl,J,U⟩,fun⟨w,e,_,U⟩=>by rw[sK e];exact U⟩
 clear bS;have kE:v.length<=1000000:=by have:=nm.1;omega
 have p1:=j7.fit FY nm;have CV:=fun av:iz s.n v=>amO af.1 av;obtain⟨n,yA,wN,yC,sm⟩:=s;simp only[cC.e]at g2 c8 nn CV c9⊢;subst g2;clear af;refine bE n9 E6 GF fun aR=>?_;unfold By;clear aR;simp;(with_reducible repeat' first|refine aj ?_|refine aC c9 ?_|refine aD c9 ?_|refine aC gS ?_|refine aD gS ?_|simp);refine eQ [1,2,22,23] (fun i (_:Unit)=>[(24,.int .i64 i)]) v.length (F9 v) () cb (fun k b ad=>Ω) (fun _ ag _=>?_) (fun i _ hi ag _=>?_);rotate_left
 ·obtain⟨b,ab,cq⟩:=fb hi;have aX:=amX (p1 b (eZ ab));clear CV nn c9 gS FY Ky nm p1;by_cases g:b.v=(i:Int)/\b.t.gnd=true
  ·have az:=ag.step ab g;obtain⟨g1,g2⟩:=g;rw[g2]at aX;clear ag ab c8;exact h6
  ·rw[c8 fun h=>g ⟨h.1.at' _ _ ab,h.1.gnd _ (eZ ab)⟩];clear ag ab c8;by_cases g1:b.v=(i:Int)
   ·have g2:b.t.gnd=false:=by
     cases e:b.t.gnd with
     |false=>rfl
     |true=>exact absurd ⟨g1,e⟩ g
    rw[g2]at aX;exact c0
   ·simp[hi,cq];((with_reducible repeat' first|refine aj ?_|simp[cq,hi,g1]|((first|apply bD|apply bH|apply bG)<;>intro h<;>try simp at h))<;>(try exact b2));all_goals simp[bn,Me,aT,aU,aS]
 have av:iz v.length v:=⟨FY,Ky,nm,rfl,fun i b ab=>(ag i b (fp.1 ab).1 ab).1,fun b ab=>by obtain⟨i,hi⟩:=List.mem_iff_getElem?.1 ab;exact(ag i b (fp.1 hi).1 hi).2⟩
 have CV:=CV av;rw[nn av]at CV;clear ag gS c9 nn c8 av;exact c0
theorem agw{s:cC}{v:List ak}(h:iz s.n v):CO s (v.map ak.b)↔q6 s v:=by
 constructor
 ·rintro⟨w,e,_,U⟩;rw[sK e];exact U
 ·intro U;exact⟨v,rfl,h,U⟩
theorem Ew{n:Nat}{v:List ak}(av:iz n v)(au:∀w,ef (aY v w)<=3){t:T}(aI:jU n t):(t.ap (aY v)).fit=true:=by
 have J:=Aa (θ:=aY v) (t:=t) (m:=3) Ω fun u _=>au u;have U:=aI.l;have al:ef t*3<=6:=Ω
 have:=MS (gZ J al);simp only[T.fit,ct,eF];exact⟨AT av.ok (T.fit_ok aI.f),Ω⟩
def dV:cC:=⟨3,[],[],[],[]⟩
theorem wM:sR 3 0 dV:=ZK 3 Ω
theorem akZ(θ:Int->T):jr dV θ:=⟨fun c aq=>by simp[dV]at aq,fun c aq=>by simp[dV]at aq,fun c aq=>by simp[dV]at aq,fun c aq=>by simp[dV]at aq⟩
noncomputable def h7(kd:Int)(a b:T):Option cC:=if kd=0 then some dV else if kd=1 then none else if kd=2 then ox dV a b else if kd=3 then pb dV a b else if kd=4 then l9 dV a 2 else if kd=5 then l9 dV a 3 else pE dV b [97]
def jv(kd:Int)(p q:T):Bool:=if kd=0 then true else if kd=1 then false else if kd=2 then decide (p=q)else if kd=3 then !decide (p=q)else if kd=4 then p.kind==2 else if kd=5 then p.kind==3 else !(q.has [97])
theorem WK{kd:Int}{a b:T}(a7:jU 3 a)(ab:jU 3 b){t:cC}(he:h7 kd a b=some t):sR 3 1 t:=by
 unfold h7 at he;split at he
 ·cases he;exact wM.le Ω
 split at he
 ·cases he
 split at he
 ·exact wM.add (kd:=0) (x:=a) (y:=b) (kk:=3) (g:=[97]) a7 ab Ψ (by unfold qy;exact he)
 split at he
 ·exact wM.add (kd:=1) (x:=a) (y:=b) (kk:=3) (g:=[97]) a7 ab Ψ (by unfold qy;exact he)
 split at he
 ·exact wM.add (kd:=2) (x:=a) (y:=a) (kk:=2) (g:=[97]) a7 a7 Ψ (by unfold qy;exact he)
 split at he
 ·exact wM.add (kd:=2) (x:=a) (y:=a) (kk:=3) (g:=[97]) a7 a7 Ψ (by unfold qy;exact he)
 ·exact wM.add (kd:=3) (x:=b) (y:=b) (kk:=3) (g:=[97]) ab ab Ψ (by unfold qy;exact he)
theorem akS{kd:Int}{a b:T}(a7:jU 3 a)(ab:jU 3 b){v:List ak}(av:iz (3:Nat) v):
  match h7 kd a b with|some t=>jr t (aY v)↔jv kd (a.ap (aY v)) (b.ap (aY v))=true|none=>jv kd (a.ap (aY v)) (b.ap (aY v))=false:=by
 have s5:=wM;have vS:dV.n=(3:Nat):=rfl;rw[<-vS]at av;have eW:dV.d.length=0:=rfl;have jT:=a7.b;have bb:=ab.b;have cw:=akZ (aY v);have az:2 ^ 3<=1000:=Ω
 by_cases bA:kd=0
 ·rw[show h7 kd a b=some dV by simp[h7,bA],show jv kd (a.ap (aY v)) (b.ap (aY v))=true by simp[jv,bA]];simp[cw]
 by_cases J:kd=1
 ·rw[show h7 kd a b=none by simp[h7,J],show jv kd (a.ap (aY v)) (b.ap (aY v))=false by simp[jv,J]]
 by_cases U:kd=2
 ·rw[show h7 kd a b=ox dV a b by simp[h7,U],show jv kd (a.ap (aY v)) (b.ap (aY v))=decide (a.ap (aY v)=b.ap (aY v)) by simp[jv,U]];have:=Z2 s5.s.ok.1 av a7.f ab.f jT bb;cases e:ox dV a b with
  |none=>rw[e]at this;simpa[cw]using this Ω
  |some t=>rw[e]at this;simpa[cw]using this
 by_cases al:kd=3
 ·rw[show h7 kd a b=pb dV a b by simp[h7,al],show jv kd (a.ap (aY v)) (b.ap (aY v))= !decide (a.ap (aY v)=b.ap (aY v)) by simp[jv,al]];have:=ZJ s5.s.ok.1 av a7.f ab.f jT bb;cases e:pb dV a b with
  |none=>rw[e]at this;simpa[cw]using this Ω
  |some t=>rw[e]at this;simpa[cw]using this
 by_cases a1:kd=4
 ·rw[show h7 kd a b=l9 dV a 2 by simp[h7,a1],show jv kd (a.ap (aY v)) (b.ap (aY v))=((a.ap (aY v)).kind==2) by simp[jv,a1]];have:=T3 s5.s.ok.1 av a7.f jT (k:=2) (.inl rfl) (K1 s5 a7 az);cases e:l9 dV a 2 with
  |none=>rw[e]at this;simpa[cw]using this Ω
  |some t=>rw[e]at this;simpa[cw]using this
 by_cases bW:kd=5
 ·rw[show h7 kd a b=l9 dV a 3 by simp[h7,bW],show jv kd (a.ap (aY v)) (b.ap (aY v))=((a.ap (aY v)).kind==3) by simp[jv,bW]];have:=T3 s5.s.ok.1 av a7.f jT (k:=3) (.inr rfl) (K1 s5 a7 az);cases e:l9 dV a 3 with
  |none=>rw[e]at this;simpa[cw]using this Ω
  |some t=>rw[e]at this;simpa[cw]using this
 ·rw[show h7 kd a b=pE dV b [97] by simp[h7,bA,J,U,al,a1,bW],show jv kd (a.ap (aY v)) (b.ap (aY v))= !((b.ap (aY v)).has [97]) by simp[jv,bA,J,U,al,a1,bW]];have:=ahB s5.s.ok.1 av ab.f bb (g:=[97]) (by decide) (K1 s5 ab az);cases e:pE dV b [97]with
  |none=>rw[e]at this;simpa[cw]using this Ω
  |some t=>rw[e]at this;simpa[cw]using this
theorem ahv{x y z:T}(ae:ef x<=3)(aM:ef y<=3)(bk:ef z<=3)(w:Int):ef (aY (Ac x y z) w)<=3:=by
 unfold aY;cases e:dc (Ac x y z) w with
 |none=>simp[ef]
 |some t=>have:=jH e;simp only[Ac,fI,List.mem_nil_iff,or_false,ak.mk.injEq]at this;rcases this with⟨_,rfl⟩|⟨_,rfl⟩|⟨_,rfl⟩<;>assumption
open Classical in
theorem akT{kd:Int}{a b:T}(a7:jU 3 a)(ab:jU 3 b){v:List ak}(av:iz (3:Nat) v)(au:∀w,ef (aY v w)<=3):
  match h7 kd a b with|some t=>q8 t/\wV t.m/\t.n=(3:Nat)/\decide (q6 t v)=jv kd (a.ap (aY v)) (b.ap (aY v))|none=>jv kd (a.ap (aY v)) (b.ap (aY v))=false:=by
 have J:=akS (kd:=kd) a7 ab av;cases e:h7 kd a b with
 |none=>rw[e]at J;exact J
 |some t=>rw[e]at J;have aI:=WK a7 ab e;refine⟨aI.s.ok,aI.s.tg.w,aI.s.n,?_⟩;obtain⟨E,c6⟩:=aI.p;have sm:MV t v:=alv (m:=3) (K:=8) c6 aI.s.ok.1 aI.s.n Ω Ω au Ω Ω;rw[pN,decide_eq_true_iff,alA av.fits sm];exact J
theorem JF(c:dz):(dY 3 0 c).1.fit=true/\(dY 3 0 c).1.gnd=true/\ef (dY 3 0 c).1<=3:=by
 have h:=IX (n:=0) Ω (z:=3) Ω c;refine⟨h.f,?_,by have:=h.l;omega⟩;exact(ad3 _).2 fun v=>by
  cases e:(dY 3 0 c).1.occ v with
  |false=>rfl
  |true=>have:=h.o v e;omega
end
end Go.Proofs.YtohaalphocaebaaGreat
namespace Go.Pv
section
open Go Go.RowKit
section
variable {w:World} {Z lq:bc} {k:aL} {m:Nat} (aw:oi (fun _=>eN) w Z w lq) (ad:∀n v,Z.ow k=some (n,v)->lq.ow (.obj m)=some (n,v))
include aw ad
end
end
end Go.Pv
namespace Go.Proofs.YtohaalphocaebaaGreat
section
open Go Go.Pv
open Classical in
theorem amT{s b:List ak}(af:eB s)(ab:eB b){E:List (T×T)}(hm:mgu s E=some b):bZ ay 125 [.slice 5 .no (s.map ak.e),.slice 5 .no (b.map ak.e),.bool true] (.tuple [.slice 5 .no ((dR s b).map ak.e),.int .i64 (EV s (some b))]):=by
 have aX:=amt s b af.len;have bg:=Xq af ab;have az:=Lx af hm;simp only[EV];by_cases g:s=b
 ·rw[jS g]at aX;rw[if_pos (az.2 g),az.2 g];clear bg af ab hm az g;refine bE n9 Je LK fun aR=>?_;unfold EI;exact c0
 ·rw[lT g]at aX;rw[if_neg fun h=>g (az.1 h)];generalize dR s b=w at bg;clear af ab hm az g;refine bE n9 Je LK fun aR=>?_;unfold EI;exact c0
theorem amU(s:List ak):bZ ay 125 [.slice 5 .no (s.map ak.e),.slice 5 .no [],.bool false] (.tuple [.slice 5 .no [],.int .i64 1]):=by refine bE n9 Je LK fun aR=>?_;unfold EI;exact c0
theorem lQ:dV.e= .agg [.int .i64 3,.slice 5 .no [],.slice 1 .no [],.slice 2 .no [],.slice 2 .no []]:=rfl
theorem sx:pM.e= .agg [.int .i64 0,.slice 5 .no [],.slice 1 .no [],.slice 2 .no [],.slice 2 .no []]:=rfl
theorem aml:bZ ay 104 [.int .i64 3] dV.e:=by rw[lQ];refine bE fG aba ah2 fun aR=>?_;unfold ON;exact c0
theorem amS{kd:Int}(ad:0<=kd/\kd<=6){a b:T}(a7:jU 3 a)(ab:jU 3 b):bZ ay 105 [dV.e,ju kd a b] (hg (h7 kd a b)):=by
 have h:gK dV:=wM.s.ok.1;have lb:([]:List (List c4)).length<=687000:=by simp
 have aW:kY ([]:List (List c4)) dV.m:=fun x ae=>by cases ae
 have jT:=a7.b;have bb:=ab.b;have iE:=a7.f;have hz:=ab.f;have key:=XM [] [a] [b] rfl h.b.sol h.b.fits h.b.ok Ψ (by simpa using T.fit_ok a7.f) (by simpa using T.fit_ok ab.f);simp only[eO,hn,List.zip_cons_cons,List.zip_nil_left]at key;unfold ju;rw[lQ];rcases KS ad with rfl|rfl|rfl|rfl|rfl|rfl|rfl
 ·rw[show h7 0 a b=some dV from rfl,show fA 0 a b=[]from rfl];simp only[hg,hV,kM,lQ,hn];clear h key aW ad a7 ab jT bb iE hz;refine bE fG nO nZ fun aR=>?_;unfold mX;clear aR;exact c0
 ·rw[show h7 1 a b=none from rfl,show fA 1 a b=[]from rfl];simp only[hg,jq,iL,lQ,sx,hn];clear h key aW ad a7 ab jT bb iE hz;refine bE fG nO nZ fun aR=>?_;unfold mX;clear aR;exact c0
 ·rw[show h7 2 a b=ox dV a b from rfl,show fA 2 a b=[a,b]from rfl];unfold ox;rw[show dV.b=[]from rfl];cases hu:mgu [] [(a,b)]with
  |none=>
   rw[hu]at key;simp only[fE,hg,Option.bind_none,jq,iL,hn,eO,lQ,sx]at key⊢;clear aW ad a7 ab jT bb iE hz;clear h hu;refine bE fG nO nZ fun aR=>?_;unfold mX;clear aR;try simp
   ((with_reducible repeat' first|refine aj ?_|refine aC key ?_|refine aD key ?_|simp|((first|apply bD|apply bH|apply bG)<;>intro h<;>try simp at h))<;>(try exact b2));all_goals simp[bn,pH,aT,aU,aS]
  |some b0=>
   rw[hu]at key;have cT:=Ba (h.bind iE hz jT bb hu) lb aW;rw[hU];show bZ _ _ _ (hg (fu {dV with b:=b0}));generalize fu {dV with b:=b0}=O at cT⊢;replace cT:bZ ay 50 [.agg [.int .i64 3,.slice 5 .no (b0.map ak.e),.slice 1 .no [],.slice 2 .no [],.slice 2 .no []]] (hg O):=cT;simp only[cC.e,fE,hg,hV,kM,hn,eO,lQ]at key cT⊢;clear aW ad a7 ab jT bb iE hz;clear h hu;refine bE fG nO nZ fun aR=>?_;unfold mX;clear aR;try simp
   ((with_reducible repeat' first|refine aj ?_|refine aC key ?_|refine aD key ?_|refine aC cT ?_|refine aD cT ?_|simp|((first|apply bD|apply bH|apply bG)<;>intro h<;>try simp at h))<;>(try exact b2));all_goals simp[bn,pH,aT,aU,aS]
 ·rw[show h7 3 a b=pb dV a b from rfl,show fA 3 a b=[a,b]from rfl];unfold pb;rw[show dV.b=[]from rfl];cases hu:mgu [] [(a,b)]with
  |none=>
   rw[hu]at key;have bg:=amU [];have cT:=Ba h lb aW;rw[lQ]at cT;simp only;generalize fu dV=O at cT;simp only[cC.e,fE,hg,jq,iL,hn,eO,lQ]at key bg cT⊢;clear aW ad a7 ab jT bb iE hz;clear h hu;refine bE fG nO nZ fun aR=>?_;unfold mX;clear aR;try simp
   ((with_reducible repeat' first|refine aj ?_|refine aC key ?_|refine aD key ?_|refine aC bg ?_|refine aD bg ?_|refine aC cT ?_|refine aD cT ?_|simp|((first|apply bD|apply bH|apply bG)<;>intro h<;>try simp at h))<;>(try exact b2));all_goals simp[bn,pH,aT,aU,aS]
  |some b0=>
   rw[hu]at key;have bg:=amT h.b (h.b.mgu (by simp[T.fit_ok iE,T.fit_ok hz]) hu) hu;rw[show dV.b=[]from rfl]at bg;by_cases az:dR [] b0=[]
   ·simp only[if_pos az];simp only[EV,if_pos az,az,hn]at bg;simp only[fE,hg,hV,kM,jq,iL,hn,eO,lQ,sx]at key⊢;clear aW ad a7 ab jT bb iE hz az;clear h hu;refine bE fG nO nZ fun aR=>?_;unfold mX;clear aR;try simp
    ((with_reducible repeat' first|refine aj ?_|refine aC key ?_|refine aD key ?_|refine aC bg ?_|refine aD bg ?_|simp|((first|apply bD|apply bH|apply bG)<;>intro h<;>try simp at h))<;>(try exact b2));all_goals simp[bn,pH,aT,aU,aS]
   ·simp only[if_neg az];simp only[EV,if_neg az,hn]at bg;have cT:bZ ay 50 [({dV with d:=dV.d++[dR [] b0]}:cC).e] (hg (fu {dV with d:=dV.d++[dR [] b0]})):=Ba (h.dif iE hz jT bb hu) lb aW;generalize dR [] b0=w at bg cT;show bZ _ _ _ (hg (fu {dV with d:=dV.d++[w]}));generalize fu {dV with d:=dV.d++[w]}=O at cT⊢;replace cT:bZ ay 50 [.agg [.int .i64 3,.slice 5 .no [],.slice 1 .no [.slice 5 .no (w.map ak.e)],.slice 2 .no [],.slice 2 .no []]] (hg O):=cT;simp only[cC.e,fE,hg,hV,kM,hn,eO,lQ]at key cT⊢;clear aW ad a7 ab jT bb iE hz az;clear h hu;refine bE fG nO nZ fun aR=>?_;unfold mX;clear aR;try simp
    exact c0
 ·rw[show h7 4 a b=l9 dV a 2 from rfl,show fA 4 a b=[a]from rfl];have bg:=Nk h.b h.k a iE 2;unfold l9;rw[show dV.b=[]from rfl,show dV.k=[]from rfl]at bg⊢;by_cases g:((2:Int)=2\/(2:Int)=3)/\(a.ap (aY [])).size<=5000
  ·rw[if_pos g]at bg⊢;cases hu:hM [] (a.ap (aY [])) 2 with
   |none=>
    rw[hu]at bg;simp only[fo,hg,Option.bind_none,jq,iL,hn,eO,lQ,sx]at bg⊢;clear aW ad a7 ab jT bb iE hz key g;clear h hu;refine bE fG nO nZ fun aR=>?_;unfold mX;clear aR;try simp
    ((with_reducible repeat' first|refine aj ?_|refine aC bg ?_|refine aD bg ?_|simp|((first|apply bD|apply bH|apply bG)<;>intro h<;>try simp at h))<;>(try exact b2));all_goals simp[bn,pH,aT,aU,aS]
   |some l=>
    rw[hu]at bg;have cT:=Ba (h.knd iE jT g.1 hu) lb aW;rw[hU];show bZ _ _ _ (hg (fu {dV with k:=l}));generalize fu {dV with k:=l}=O at cT⊢;replace cT:bZ ay 50 [.agg [.int .i64 3,.slice 5 .no [],.slice 1 .no [],.slice 2 .no (l.map b4.e),.slice 2 .no []]] (hg O):=cT;simp only[cC.e,fo,hg,hV,kM,hn,eO,lQ]at bg cT⊢;clear aW ad a7 ab jT bb iE hz key g;clear h hu;refine bE fG nO nZ fun aR=>?_;unfold mX;clear aR;try simp
    ((with_reducible repeat' first|refine aj ?_|refine aC bg ?_|refine aD bg ?_|refine aC cT ?_|refine aD cT ?_|simp|((first|apply bD|apply bH|apply bG)<;>intro h<;>try simp at h))<;>(try exact b2));all_goals simp[bn,pH,aT,aU,aS]
  ·rw[if_neg g]at bg⊢;have hu:=g;simp only[fo,hg,jq,iL,hn,eO,lQ,sx]at bg⊢;clear aW ad a7 ab jT bb iE hz key g;clear h hu;refine bE fG nO nZ fun aR=>?_;unfold mX;clear aR;try simp
   (with_reducible repeat' first|refine aj ?_|refine aC bg ?_|refine aD bg ?_|simp);all_goals simp[bn,pH,aT,aU,aS]
 ·rw[show h7 5 a b=l9 dV a 3 from rfl,show fA 5 a b=[a]from rfl];have bg:=Nk h.b h.k a iE 3;unfold l9;rw[show dV.b=[]from rfl,show dV.k=[]from rfl]at bg⊢;by_cases g:((3:Int)=2\/(3:Int)=3)/\(a.ap (aY [])).size<=5000
  ·rw[if_pos g]at bg⊢;cases hu:hM [] (a.ap (aY [])) 3 with
   |none=>
    rw[hu]at bg;simp only[fo,hg,Option.bind_none,jq,iL,hn,eO,lQ,sx]at bg⊢;clear aW ad a7 ab jT bb iE hz key g;clear h hu;refine bE fG nO nZ fun aR=>?_;unfold mX;clear aR;try simp
    ((with_reducible repeat' first|refine aj ?_|refine aC bg ?_|refine aD bg ?_|simp|((first|apply bD|apply bH|apply bG)<;>intro h<;>try simp at h))<;>(try exact b2));all_goals simp[bn,pH,aT,aU,aS]
   |some l=>
    rw[hu]at bg;have cT:=Ba (h.knd iE jT g.1 hu) lb aW;rw[hU];show bZ _ _ _ (hg (fu {dV with k:=l}));generalize fu {dV with k:=l}=O at cT⊢;replace cT:bZ ay 50 [.agg [.int .i64 3,.slice 5 .no [],.slice 1 .no [],.slice 2 .no (l.map b4.e),.slice 2 .no []]] (hg O):=cT;simp only[cC.e,fo,hg,hV,kM,hn,eO,lQ]at bg cT⊢;clear aW ad a7 ab jT bb iE hz key g;clear h hu;refine bE fG nO nZ fun aR=>?_;unfold mX;clear aR;try simp
    ((with_reducible repeat' first|refine aj ?_|refine aC bg ?_|refine aD bg ?_|refine aC cT ?_|refine aD cT ?_|simp|((first|apply bD|apply bH|apply bG)<;>intro h<;>try simp at h))<;>(try exact b2));all_goals simp[bn,pH,aT,aU,aS]
  ·rw[if_neg g]at bg⊢;have hu:=g;simp only[fo,hg,jq,iL,hn,eO,lQ,sx]at bg⊢;clear aW ad a7 ab jT bb iE hz key g;clear h hu;refine bE fG nO nZ fun aR=>?_;unfold mX;clear aR;try simp
   (with_reducible repeat' first|refine aj ?_|refine aC bg ?_|refine aD bg ?_|simp);all_goals simp[bn,pH,aT,aU,aS]
 ·rw[show h7 6 a b=pE dV b [97]from rfl,show fA 6 a b=[.sym [97],b]from rfl];have bg:=Xm h.b h.m (by simp[dV]) b hz (g:=[97]) (by decide);unfold pE;rw[show dV.b=[]from rfl,show dV.m=[]from rfl]at bg⊢;by_cases g:(b.ap (aY [])).size<=5000
  ·rw[if_pos g]at bg⊢;cases hu:iQ [] (b.ap (aY [])) [97]with
   |none=>
    rw[hu]at bg;simp only[ix,hg,Option.bind_none,jq,iL,hn,eO,lQ,sx]at bg⊢;clear aW ad a7 ab jT bb iE hz key g;clear h hu;refine bE fG nO nZ fun aR=>?_;unfold mX;clear aR;try simp
    ((with_reducible repeat' first|refine aj ?_|refine aC bg ?_|refine aD bg ?_|simp|((first|apply bD|apply bH|apply bG)<;>intro h<;>try simp at h))<;>(try exact b2));all_goals simp[bn,pH,aT,aU,aS]
   |some l=>
    rw[hu]at bg;obtain⟨ann,aen,Su⟩:=(show AY dV.m from⟨[],Ψ,aW⟩).mrk hu;have cT:=Ba (h.mrk hz bb (by decide) hu) aen Su;rw[hU];show bZ _ _ _ (hg (fu {dV with m:=l}));generalize fu {dV with m:=l}=O at cT⊢;replace cT:bZ ay 50 [.agg [.int .i64 3,.slice 5 .no [],.slice 1 .no [],.slice 2 .no [],.slice 2 .no (l.map br.e)]] (hg O):=cT;simp only[cC.e,ix,hg,hV,kM,hn,eO,lQ]at bg cT⊢;clear aW ad a7 ab jT bb iE hz key g Su;clear h hu;refine bE fG nO nZ fun aR=>?_;unfold mX;clear aR;try simp
    ((with_reducible repeat' first|refine aj ?_|refine aC bg ?_|refine aD bg ?_|refine aC cT ?_|refine aD cT ?_|simp|((first|apply bD|apply bH|apply bG)<;>intro h<;>try simp at h))<;>(try exact b2));all_goals simp[bn,pH,aT,aU,aS]
  ·rw[if_neg g]at bg⊢;have hu:=g;simp only[ix,hg,jq,iL,hn,eO,lQ,sx]at bg⊢;clear aW ad a7 ab jT bb iE hz key g;clear h hu;refine bE fG nO nZ fun aR=>?_;unfold mX;clear aR;try simp
   (with_reducible repeat' first|refine aj ?_|refine aC bg ?_|refine aD bg ?_|simp);all_goals simp[bn,pH,aT,aU,aS]
open Classical in
theorem amq{n:Int}{v:List ak}(av:iz n v):bZ ay 100 [.slice 5 .no (v.map ak.e)] (.bool true):=by have:=Xt (v.map ak.b);rw[jS (wY.2 ⟨v,rfl,av.ok,av.asc,av.fits⟩)]at this;rwa[tv]at this
def mn(l:List ak):cM:=⟨[(.obj 205,[.slice 5 .no (l.map ak.e)])],[]⟩
theorem Bk(l:List ak):dN (mn l):=by unfold mn;exact(dN.of ⟨by intro m;simp[Pv.look],by intro m;simp[Pv.look]⟩ f8 f8)
theorem adj(l:List ak)(au:l.length<=1000000)(a7:gN l)(aO:vu l)(t:T)(aI:(t.ap (aY l)).size<=5000):bJ ay 102 [t.e,.ptr (.obj 205) 0] (mn l) fun r ah=>r= .tuple [(t.ap (aY l)).e,.bool true]/\ah=mn l:=by
 have af:=Bk l;have ir:=D5 l t au a7 aO;rw[if_pos aI,jS aI]at ir;unfold mn at af⊢;refine bJ.mk mixed fG aa2 ahU Ψ af.obj fun aR cE=>?_;unfold OF;simp;((with_reducible repeat' first|refine aj ?_|refine aC ir ?_|refine aD ir ?_|simp|((first|apply bD|apply bH|apply bG)<;>intro h<;>try simp at h))<;>(try exact b2));all_goals refine cI.at _ (.inl rfl) af (Same.refl _) aE aE ?_
 all_goals simp[cL,Vr,aT,aU,aS]
theorem adv(l:List ak)(kd:Int)(ea:List T)(CF:ea.length<=2)(F:T->T)(aO:∀t∈ea,bJ ay 102 [t.e,.ptr (.obj 205) 0] (mn l) fun r ah=>r= .tuple [(F t).e,.bool true]/\ah=mn l):bJ ay 101 [.agg [.int .i64 kd,.str [],.slice 4 .no (ea.map T.e),.slice 4 .no []],.func 102 [.ptr (.obj 205) 0]] (mn l) fun r ah=>r= .tuple [.agg [.int .i64 kd,.str [],.slice 4 .no ((ea.map F).map T.e),.slice 4 .no []],.bool true]/\ah=mn l:=by
 have af:=Bk l;unfold mn at af;refine bJ.mk mixed fG abB ait Ψ af.obj fun aR cE=>?_;unfold Pd;unfold mn;simp;(with_reducible repeat' first|refine aj ?_|simp);refine ik (fun i (x:Bool×List T)=>⟨[(1,.func 102 [.ptr (.obj 205) 0]),(2,.ptr (.loc 0) 0),(4,.ptr (.loc 1) 0),(6,.ptr (.loc 2) 0),(21,.slice 4 .no (ea.map T.e)),(22,.int .i64 ea.length),(23,.int .i64 i)],[(.obj 205,[.slice 5 .no (l.map ak.e)]),(.loc 0,[.int .i64 kd,.str [],.slice 4 .no (ea.map T.e),.slice 4 .no []]),(.loc 1,[.int .i64 0,.str [],.slice 4 .nil [],.slice 4 .nil []]),(.loc 2,[.int .i64 kd,.str [],.slice 4 (if x.1 then .own (.loc 6)else .nil) (x.2.map T.e),.slice 4 .nil []])],if x.1 then [(.loc 6,⟨x.2.length,32,4,none⟩)]else [],if x.1 then 20 else 3,[.obj 205]⟩) ea.length (fun i x=>(x.1=true↔0<i)/\x.2=(ea.map F).take i) (false,[]) cb Ψ ?_ ?_
 ·rintro⟨q,L⟩ ⟨ag,fe⟩ _;simp only at ag fe;rw[hv Ψ]at fe;clear aO;cases q
  ·have bA:ea=[]:=by cases ea with|nil=>rfl|cons x l=>simp at ag
   subst bA;subst fe;simp;(with_reducible repeat' first|refine aj ?_|simp);refine ik (fun i (_:Unit)=>⟨[(1,.func 102 [.ptr (.obj 205) 0]),(4,.ptr (.loc 1) 0),(6,.ptr (.loc 2) 0),(44,.slice 4 .no []),(45,.int .i64 0),(46,.int .i64 i)],[(.obj 205,[.slice 5 .no (l.map ak.e)]),(.loc 1,[.int .i64 0,.str [],.slice 4 .nil [],.slice 4 .nil []]),(.loc 2,[.int .i64 kd,.str [],.slice 4 .nil [],.slice 4 .nil []])],[],3,[.obj 205]⟩) 0 (fun _ _=>True) () cb trivial (fun _ _ _=>?_) (fun i _ hi _ _=>absurd hi Ω);simp;(with_reducible repeat' first|refine aj ?_|simp);all_goals refine cI.at _ (.inl rfl) af (Same.refl _) aE aE ?_
   all_goals simp[cL,L6,aT,aU,aS]
  ·clear ag;simp;(with_reducible repeat' first|refine aj ?_|simp);refine ik (fun i (_:Unit)=>⟨[(1,.func 102 [.ptr (.obj 205) 0]),(4,.ptr (.loc 1) 0),(6,.ptr (.loc 2) 0),(44,.slice 4 .no []),(45,.int .i64 0),(46,.int .i64 i)],[(.obj 205,[.slice 5 .no (l.map ak.e)]),(.loc 1,[.int .i64 0,.str [],.slice 4 .nil [],.slice 4 .nil []]),(.loc 2,[.int .i64 kd,.str [],.slice 4 (.own (.loc 6)) (L.map T.e),.slice 4 .nil []])],[(.loc 6,⟨L.length,32,4,none⟩)],20,[.obj 205]⟩) 0 (fun _ _=>True) () cb trivial (fun _ _ _=>?_) (fun i _ hi _ _=>absurd hi Ω);simp;(with_reducible repeat' first|refine aj ?_|simp);all_goals refine cI.at _ (.inl rfl) af (Same.refl _) aE aE ?_
   all_goals simp[cL,L6,aT,aU,aS]
   all_goals rw[fe,List.map_map]
 ·rintro i ⟨q,L⟩ hi ⟨ag,fe⟩ _;simp only at ag fe⊢;obtain⟨b,ab,cq⟩:=fb hi;have tn:=aO b (eZ ab);have R7:L++[F b]=(ea.map F).take (i+1):=by rw[fe,<-List.map_take,<-List.map_take,List.take_succ,ab];simp
  have tc:L.length<=2:=by rw[fe];simp;omega
  unfold mn at tn;clear aO;cases q
  ·have bA:i=0:=by cases i with|zero=>rfl|succ n=>simp at ag
   have aeq:L=[]:=by rw[fe,bA];rfl
   clear ag fe;subst aeq;simp[hi,cq];(with_reducible repeat' first|refine aj ?_|simp[hi,cq]);refine cA.ob tn (Bk _) aE aE (by simp[inObs,mn,Pv.look]) ?_;rintro r ah ⟨rfl,rfl⟩;refine⟨Same.refl _,?_⟩;simp[bX];(with_reducible repeat' first|refine aj ?_|simp);refine bR.rng (true,[F b]) hi ⟨Ψ,R7⟩ ?_;exact cb
  ·clear ag fe;simp[hi,cq];(with_reducible repeat' first|refine aj ?_|simp[hi,cq]);refine cA.ob tn (Bk _) aE aE (by simp[inObs,mn,Pv.look]) ?_;rintro r ah ⟨rfl,rfl⟩;refine⟨Same.refl _,?_⟩;simp[bX];(with_reducible repeat' first|refine aj ?_|simp);refine bR.rng (true,L++[F b]) hi ⟨Ψ,R7⟩ ?_;simp;exact⟨by simp[fresh,aP,aJ,cx,inObs,Pv.look,xZ],eS (by simp[fresh,aP,aJ,cx,inObs,Pv.look,xZ]),eT (by simp[fresh,aP,aJ,et,inObs,Pv.look,xZ]),Ψ⟩
theorem adf(F:T->T)(gw:F (.sym [97])= .sym [97])(kd:Int)(a b:T):(fA kd a b).map F=fA kd (F a) (F b):=by
 unfold fA;repeat' split
 all_goals simp[gw]
theorem ama{kd:Int}(ad:0<=kd/\kd<=6){a b:T}(a7:jU 3 a)(ab:jU 3 b){v:List ak}(av:iz (3:Nat) v)(au:∀w,ef (aY v w)<=3):bZ ay 41 [ju kd a b,.slice 5 .no (v.map ak.e)] (.tuple [ju kd (a.ap (aY v)) (b.ap (aY v)),.bool true]):=by
 have aX:=Nl ad a7.f ab.f;have bg:=amq av;have hlen:v.length<=1000000:=by have:=av.len;omega
 have S5:∀t∈fA kd a b,(t.ap (aY v)).size<=5000:=fun t aI=>by
  have iE:=Ew av au a7;have hz:=Ew av au ab;simp only[T.fit,ct,eF]at iE hz;unfold fA at aI;repeat' split at aI
  all_goals simp at aI
  all_goals first
   |(rcases aI with rfl|rfl<;>first|exact iE.2|exact hz.2|(simp[T.ap,T.size]))
   |(subst aI;exact iE.2)
 have b6:=adv v kd (fA kd a b) (BT kd a b) (fun t=>t.ap (aY v)) fun t aI=>adj v hlen av.asc (j7.fit av.ok av.fits) t (S5 t aI);rw[adf (fun t=>t.ap (aY v)) rfl]at b6;unfold ju at aX;unfold ju;clear S5;generalize fA kd a b=us at aX b6⊢;generalize fA kd (a.ap (aY v)) (b.ap (aY v))=ba at b6⊢;clear ad a7 ab av au;refine bE fG aa1 ahT fun aR=>?_;unfold OE;clear aR;simp;((with_reducible repeat' first|refine aj ?_|refine aC aX ?_|refine aD aX ?_|refine aC bg ?_|refine aD bg ?_|simp|((first|apply bD|apply bH|apply bG)<;>intro h<;>try simp at h))<;>(try exact b2));refine cA.ob b6 (Bk _) (by unfold mn;exact aE) (by unfold mn;exact aE) (by simp[inObs,mn,Pv.look]) ?_;rintro r ah ⟨rfl,rfl⟩;refine⟨Same.refl _,?_⟩;unfold mn;simp[bX];((with_reducible repeat' first|refine aj ?_|simp|((first|apply bD|apply bH|apply bG)<;>intro h<;>try simp at h))<;>(try exact b2));all_goals simp[bn,Vq,aT,aU,aS]
theorem ad7{ea:List T}(h:∀t∈ea,t.gnd=true):jV ea=[]:=by
 rw[List.eq_nil_iff_forall_not_mem];intro v av;rcases JH ea [] v av with J|⟨t,aI,J⟩
 ·cases J
 ·rw[BV (h t aI) v]at J;cases J
theorem amp{kd:Int}(ad:0<=kd/\kd<=6){a b:T}(a7:a.fit=true)(ab:b.fit=true)(aoL:a.gnd=true)(aoM:b.gnd=true):bZ ay 43 [ju kd a b] (.int .i64 (if jv kd a b=true then 1 else 0)):=by
 have aX:=Nl ad a7 ab;have zx:jV (fA kd a b)=[]:=ad7 fun t aI=>by
  unfold fA at aI;repeat' split at aI
  all_goals simp at aI
  all_goals(first|(rcases aI with rfl|rfl<;>first|assumption|rfl)|(subst aI;assumption))
 have bg:=Xu kd (fA kd a b) (BT kd a b) (by rw[zx];simp);rw[zx,show mf []=[]from by simp[mf],show dX []=[]from rfl]at bg;have b6:=ss a b;have cT:=Xv [97] b;unfold ju at aX⊢;clear zx;rcases KS ad with rfl|rfl|rfl|rfl|rfl|rfl|rfl
 ·rw[show jv 0 a b=true from rfl];rw[show fA 0 a b=[]from rfl]at aX bg⊢;simp only[hn]at aX bg⊢;clear b6 cT;refine bE fG xl yd fun aR=>?_;unfold vm;clear aR;simp;((with_reducible repeat' first|refine aj ?_|refine aC aX ?_|refine aD aX ?_|refine aC bg ?_|refine aD bg ?_|simp|((first|apply bD|apply bH|apply bG)<;>intro h<;>try simp at h))<;>(try exact b2));all_goals simp[bn,yl,aT,aU,aS]
 ·rw[show jv 1 a b=false from rfl];rw[show fA 1 a b=[]from rfl]at aX bg⊢;simp only[hn]at aX bg⊢;clear b6 cT;refine bE fG xl yd fun aR=>?_;unfold vm;clear aR;exact c0
 ·rw[show jv 2 a b=decide (a=b)from rfl];rw[show fA 2 a b=[a,b]from rfl]at aX bg⊢;simp only[hn,eO]at aX bg⊢;generalize decide (a=b)=q at b6⊢;clear cT;cases q;all_goals refine bE fG xl yd fun aR=>?_;unfold vm
  all_goals clear aR
  all_goals simp
  all_goals(with_reducible repeat' first|refine aj ?_|refine aC aX ?_|refine aD aX ?_|refine aC bg ?_|refine aD bg ?_|refine aC b6 ?_|refine aD b6 ?_|simp)
  all_goals simp[bn,yl,aT,aU,aS]
 ·rw[show jv 3 a b= !decide (a=b)from rfl];rw[show fA 3 a b=[a,b]from rfl]at aX bg⊢;simp only[hn,eO]at aX bg⊢;generalize decide (a=b)=q at b6⊢;clear cT;cases q;all_goals refine bE fG xl yd fun aR=>?_;unfold vm
  all_goals clear aR
  all_goals simp
  all_goals(with_reducible repeat' first|refine aj ?_|refine aC aX ?_|refine aD aX ?_|refine aC bg ?_|refine aD bg ?_|refine aC b6 ?_|refine aD b6 ?_|simp)
  all_goals simp[bn,yl,aT,aU,aS]
 ·rw[show jv 4 a b=(a.kind==2)from rfl];rw[show fA 4 a b=[a]from rfl]at aX bg⊢;simp only[hn,eO]at aX bg⊢;clear b6 cT;cases q:(a.kind==2);all_goals refine bE fG xl yd fun aR=>?_;unfold vm
  all_goals clear aR
  all_goals simp[q]
  all_goals(with_reducible repeat' first|refine aj ?_|refine aC aX ?_|refine aD aX ?_|refine aC bg ?_|refine aD bg ?_|simp[q])
  all_goals simp[bn,yl,aT,aU,aS]
 ·rw[show jv 5 a b=(a.kind==3)from rfl];rw[show fA 5 a b=[a]from rfl]at aX bg⊢;simp only[hn,eO]at aX bg⊢;clear b6 cT;cases q:(a.kind==3);all_goals refine bE fG xl yd fun aR=>?_;unfold vm
  all_goals clear aR
  all_goals simp[q]
  all_goals(with_reducible repeat' first|refine aj ?_|refine aC aX ?_|refine aD aX ?_|refine aC bg ?_|refine aD bg ?_|simp[q])
  all_goals simp[bn,yl,aT,aU,aS]
 ·rw[show jv 6 a b= !(b.has [97])from rfl];rw[show fA 6 a b=[.sym [97],b]from rfl]at aX bg⊢;simp only[hn,eO]at aX bg⊢;generalize b.has [97]=q at cT⊢;clear b6;cases q;all_goals refine bE fG xl yd fun aR=>?_;unfold vm
  all_goals clear aR
  all_goals simp
  all_goals(with_reducible repeat' first|refine aj ?_|refine aC aX ?_|refine aD aX ?_|refine aC bg ?_|refine aD bg ?_|refine aC cT ?_|refine aD cT ?_|simp)
  all_goals simp[bn,yl,aT,aU,aS]
theorem amm{kd:Int}(ad:0<=kd/\kd<=6){a b:T}(a7:jU 3 a)(ab:jU 3 b):bZ ay 42 [.int .i64 3,.slice 4 .no [ju kd a b]] (.tuple [((h7 kd a b).getD pM).e,.slice 4 .no [],.bool (h7 kd a b).isSome]):=by
 have aX:=Nl ad a7.f ab.f;have bg:=am5 (kd:=kd) a7 ab;have b6:=aml;have cT:=amS ad a7 ab;have bS:∀t,h7 kd a b=some t->bZ ay 49 [t.e] t.e:=fun t e=>by have h:=(WK a7 ab e).s;exact ams t h.ok.1.b.len (fun z bk=>(h.ok.1.d z bk).len) (by have:=uG h.ok.1.k;omega) (h.tg.w.len h.ok.1.m)
 generalize h7 kd a b=O at cT bS;clear a7 ab;have ahC:¬kd=7:=Ω
 have n8:¬kd=8:=Ω
 have n6:¬6<kd:=Ω
 have aqr:kd<=6:=Ω
 unfold ju at aX bg cT⊢;generalize fA kd a b=us at aX bg cT⊢;rw[lQ]at b6 cT;simp only[hg]at cT;refine bE fG abd ah5 fun aR=>?_;unfold OQ;clear aR;simp;((with_reducible repeat' first|refine aj ?_|simp|((first|apply bD|apply bH|apply bG)<;>intro h<;>try simp at h))<;>(try exact b2));refine eQ [0,1,4,26,27] (fun i (_:Unit)=>[(28,.int .i64 i)]) 1 (fun _ _=>True) () cb trivial (fun _ _ _=>?_) (fun i _ hi _ _=>?_);rotate_left
 ·have cq:∀h,([ai.agg [.int .i64 kd,.str [],.slice 4 .no (us.map T.e),.slice 4 .no []]][i]'h)=ai.agg [.int .i64 kd,.str [],.slice 4 .no (us.map T.e),.slice 4 .no []]:=fun h=>by
   have:i=0:=Ω
   subst this;rfl
  have FB:(i:Int)<1:=Ω
  have qL:Pv.isAgg 4 (ai.agg [.int .i64 kd,.str [],.slice 4 .no (us.map T.e),.slice 4 .no []]):=⟨_,rfl,rfl⟩;simp[hi,cq,qL];((with_reducible repeat' first|refine aj ?_|refine aC aX ?_|refine aD aX ?_|refine aC bg ?_|refine aD bg ?_|simp[hi,FB,cq,qL,ahC,n8]|((first|apply bD|apply bH|apply bG)<;>intro h<;>try simp at h))<;>(try exact b2));all_goals exact bR.rng () hi trivial cb
 simp;((with_reducible repeat' first|refine aj ?_|refine aC b6 ?_|refine aD b6 ?_|simp|((first|apply bD|apply bH|apply bG)<;>intro h<;>try simp at h))<;>(try exact b2));refine ik (fun i (s:cC)=>⟨[(1,.slice 4 .no [.agg [.int .i64 kd,.str [],.slice 4 .no (us.map T.e),.slice 4 .no []]]),(4,.ptr (.loc 0) 0),(9,.ptr (.loc 1) 0),(55,.slice 4 .no [.agg [.int .i64 kd,.str [],.slice 4 .no (us.map T.e),.slice 4 .no []]]),(56,.int .i64 1),(57,.int .i64 i)],[(.loc 0,[.int .i64 0,.slice 5 .nil [],.slice 1 .nil [],.slice 2 .nil [],.slice 2 .nil []]),(.loc 1,[.int .i64 s.n,.slice 5 .no (s.b.map ak.e),.slice 1 .no (s.d.map cQ),.slice 2 .no (s.k.map b4.e),.slice 2 .no (s.m.map br.e)])],[],2,[]⟩) 1 (fun i s=>(i=0->s=dV)/\(0<i->O=some s)) dV (by simp[dV];exact cb) Ψ (fun s ag _=>?_) (fun i s hi ag _=>?_);rotate_left
 ·have bA:i=0:=Ω
  obtain rfl:=ag.1 bA;clear ag;have cq:∀h,([ai.agg [.int .i64 kd,.str [],.slice 4 .no (us.map T.e),.slice 4 .no []]][i]'h)=ai.agg [.int .i64 kd,.str [],.slice 4 .no (us.map T.e),.slice 4 .no []]:=fun h=>by
   have:i=0:=Ω
   subst this;rfl
  have FB:(i:Int)<1:=Ω
  have qL:Pv.isAgg 4 (ai.agg [.int .i64 kd,.str [],.slice 4 .no (us.map T.e),.slice 4 .no []]):=⟨_,rfl,rfl⟩;cases O with
  |none=>simp only[jq,iL,sx]at cT⊢;clear aX bg b6 bS;simp[hi,cq,qL,dV];exact c0
  |some t=>simp only[hV,kM,cC.e]at cT⊢;clear aX bg b6 bS;simp[hi,cq,qL,dV];(with_reducible repeat' first|refine aj ?_|refine aC cT ?_|refine aD cT ?_|simp[hi,FB,cq,qL,n6]);refine bR.rng t hi ⟨Ω,fun _=>rfl⟩ ?_;exact cb
 have c7:=ag.2 Ω;clear ag;subst c7;have jZ:=bS s rfl;simp only[hV,kM,cC.e]at jZ⊢;clear bS aX bg b6 cT;simp;(with_reducible repeat' first|refine aj ?_|simp);refine ik (fun i (_:Unit)=>⟨[(4,.ptr (.loc 0) 0),(9,.ptr (.loc 1) 0),(14,.slice 4 (.own (.loc 2)) []),(76,.slice 4 .no [.agg [.int .i64 kd,.str [],.slice 4 .no (us.map T.e),.slice 4 .no []]]),(77,.int .i64 1),(78,.int .i64 i)],[(.loc 0,[.int .i64 0,.slice 5 .nil [],.slice 1 .nil [],.slice 2 .nil [],.slice 2 .nil []]),(.loc 1,[.int .i64 s.n,.slice 5 .no (s.b.map ak.e),.slice 1 .no (s.d.map cQ),.slice 2 .no (s.k.map b4.e),.slice 2 .no (s.m.map br.e)])],[(.loc 2,⟨0,75,4,none⟩)],3,[]⟩) 1 (fun _ _=>True) () cb trivial (fun _ _ _=>?_) (fun i _ hi _ _=>?_)
 ·exact c0
 ·have cq:∀h,([ai.agg [.int .i64 kd,.str [],.slice 4 .no (us.map T.e),.slice 4 .no []]][i]'h)=ai.agg [.int .i64 kd,.str [],.slice 4 .no (us.map T.e),.slice 4 .no []]:=fun h=>by
   have:i=0:=Ω
   subst this;rfl
  have FB:(i:Int)<1:=Ω
  have qL:Pv.isAgg 4 (ai.agg [.int .i64 kd,.str [],.slice 4 .no (us.map T.e),.slice 4 .no []]):=⟨_,rfl,rfl⟩;exact h6
theorem JE{θ:Int->T}:∀{t:T},(∀v,t.occ v=true->(θ v).gnd=true)->(t.ap θ).gnd=true
 | .pair a b,h=>by simp only[T.ap,T.gnd,ct];exact⟨JE fun v av=>h v (by simp[T.occ,av]),JE fun v av=>h v (by simp[T.occ,av])⟩
 | .var n,h=>h n (by simp[T.occ])
 | .nil,_=>rfl
 | .sym _,_=>rfl
 | .num _,_=>rfl
theorem ahw{x y z:T}(ae:x.fit=true/\x.gnd=true/\ef x<=3)(aM:y.fit=true/\y.gnd=true/\ef y<=3)(bk:z.fit=true/\z.gnd=true/\ef z<=3):iz (3:Nat) (Ac x y z)/\∀w,ef (aY (Ac x y z) w)<=3:=by
 refine⟨iz.of (n:=3) Ω (u:=[x,y,z]) (fun t aI=>?_) rfl fun b ab=>?_,ahv ae.2.2 aM.2.2 bk.2.2⟩
 ·simp only[fI,List.mem_nil_iff,or_false]at aI;rcases aI with rfl|rfl|rfl
  ·exact⟨ae.1,ae.2.1⟩
  ·exact⟨aM.1,aM.2.1⟩
  ·exact⟨bk.1,bk.2.1⟩
 ·simp only[Ac,fI,List.mem_nil_iff,or_false]at ab;rcases ab with rfl|rfl|rfl<;>simp
theorem N6{v:List ak}(av:iz (3:Nat) v){t:T}(aI:jU 3 t):(t.ap (aY v)).gnd=true:=JE fun w hw=>by obtain⟨bA,J⟩:=aI.o w hw;obtain⟨b,e,_,aF⟩:=av.get bA J;rw[aF];exact av.gnd b (eZ e)
open Classical in
theorem amY{s:cC}(h:q8 s)(hm:wV s.m){n:Nat}(az:s.n=n){v:List ak}(av:iz n v):bZ ay 30 [s.e,.slice 5 .no (v.map ak.e)] (.bool (decide (q6 s v))):=by rw[<-az]at av;have:=amZ s.r (fun _=>hm) (v.map ak.b);rw[decide_eq_decide.2 ((WW h _).trans (agw av)),W3]at this;rwa[tv]at this
open Classical in
theorem Xn(d:List Int)(aG:sL d):bZ ay 9 [.slice 1 .no (hZ d)] (.bool true):=by
 by_cases Ca:1048576<d.length
 ·have cq:(1048576:Int)<d.length:=Ω
  refine bE fG Jg LM fun aR=>?_;unfold EK;exact c0
 ·have au:d.length<=10000000:=Ω
  have aey:¬(1048576:Int)<d.length:=Ω
  have m1:bZ ay 39 [.slice 1 .no (hZ d),.int .i64 0] _:=amh d aG au 0 Ω;have aV:=ali (c:=pS d 0);have w3:=alg (pS d 0);have w4:=alh (pS d 0);generalize q4 (pS d 0)=w at m1 aV w3 w4;obtain⟨kd,a,b⟩:=w;simp only at m1 aV w3 w4;have m2:bZ ay 40 [.slice 1 .no (hZ d),.int .i64 60,.int .i64 3] (.slice 5 .no ((nP 3 0 (pS d 60)).map ak.e)):=amg d aG au 60 Ω 3 Ω;obtain⟨v,e,av,Co⟩:∃v,nP 3 0 (pS d 60)=v/\iz (3:Nat) v/\∀w,ef (aY v w)<=3:=⟨_,rfl,ahw (JF _) (JF _) (JF _)⟩;rw[e]at m2;clear e;have iE:=Ew av Co w3;have hz:=Ew av Co w4;have qb:=ama aV w3 w4 av Co;have c9:=amm aV w3 w4;have du:=amp aV iE hz (N6 av w3) (N6 av w4);have law:=akT (kd:=kd) w3 w4 av Co;clear aV w3 w4 iE hz Co;generalize jv kd (a.ap (aY v)) (b.ap (aY v))=q at du law;cases c7:h7 kd a b with
  |none=>rw[c7]at law c9;simp only at law;subst law;simp only[jq,iL,sx]at c9;simp only[gF,if_false]at du;unfold ju at m1 qb c9 du;generalize fA kd a b=us at m1 qb c9;generalize fA kd (a.ap (aY v)) (b.ap (aY v))=ba at qb du;clear c7 av;refine bE fG Jg LM fun aR=>?_;unfold EK;exact c0
  |some t=>
   rw[c7]at law c9;obtain⟨ok,tg,az,af⟩:=law;have gS:=amY ok tg az av;rw[af]at gS;simp only[hV,kM]at c9;unfold ju at m1 qb c9 du;generalize fA kd a b=us at m1 qb c9;generalize fA kd (a.ap (aY v)) (b.ap (aY v))=ba at qb du;clear c7 av af ok tg;obtain⟨wP,yA,wN,yC,sm⟩:=t;have az:wP=3:=az;subst az;simp only[cC.e]at c9 gS;cases q;all_goals simp only[gF,if_false,if_true]at du
   all_goals refine bE fG Jg LM fun aR=>?_;unfold EK
   all_goals simp
   all_goals(with_reducible repeat' first|refine aj ?_|refine aC m1 ?_|refine aD m1 ?_|refine aC m2 ?_|refine aD m2 ?_|refine aC qb ?_|refine aD qb ?_|refine aC c9 ?_|refine aD c9 ?_|refine aC du ?_|refine aD du ?_|refine aC gS ?_|refine aD gS ?_|simp[aey])
   all_goals simp[bn,VU,aT,aU,aS]
end
section
open Go Go.Pv Go.ChangeShapes Go.WideShapes Go.ChangeAt Go.RowKit
theorem akO:ownKnob ay.godebug=none:=by kernel_rfl
theorem akN:laidOutB ay=true:=by kernel_rfl
theorem Y3:ay.cellsOf 5=1:=by kernel_rfl
theorem Ow(w:World)(Z:bc):∀xs:List Int,dx w Z 1 (hZ xs) (xs.map (Value.int .u8))
 |[]=>by simp[hZ,dx]
 |x::xs=>by simp only[hZ,eO,dx];exact⟨.int .u8 x,_,rfl,⟨by simp[bd],rfl,by intro c aq;simp[oV]at aq;subst aq;rfl⟩,Ow w Z xs⟩
def zb(b off n:Nat):bc:=⟨fun b0 o=>b0=b/\off<=o/\o<off+n,fun _=>none,fun _=>none,fun _ _ _=>eN⟩
theorem zZ(w:World)(A:Nat->Nat->Prop)(b:Nat):∀(us:List Value) (off:Nat),(∀i u,us[i]? =some u->A b (off+i)/\w.cell? ⟨b,off+i,none⟩=some u)->lK w A b off us
 |[],_,_=>trivial
 |u::us,off,h=>⟨by simpa using h 0 u rfl,zZ w A b us (off+1) fun i e3 hu=>by have:=h (i+1) e3 (by simpa using hu);rwa[show off+(i+1)=off+1+i from by omega]at this⟩
theorem IL{f:FuncId}{fn:Func}(qM:ay.funcs[f]? =some fn)(ZV:∀args w,(callFunc f args).run ay w= .ok (.enter f args) w){w:World}{Z:bc}{args:List ai}{ba:Array Value}(h:bZ ay f args (.bool true))(aI:∀k j b,¬Z.tr k j b)(bj:∀b o,Z.A b o->b<w.heap.size)(ab:∀k,Z.bx k=none)(aw:∀k,Z.ow k=none)(aK:cR w Z args ba.toList):
  Calls ay f ba w fun e w'=>e= .returned (.bool true)/\Below w.heap.size w w':=by
 have aW:Pv.Good (fx Z ⟨[],[]⟩) w Z [] []:=⟨bj,fun k cs ad=>by simp[Pv.look]at ad,fun k bN bl J=>by simp[Pv.look]at J,fun g o ad=>by simp[Pv.look]at ad,fun g fc n n' v v' bl J=>by simp[Pv.look]at J,fun g k n v bl J=>by simp[Pv.look]at J,fun k=>.inl (ab k),fun _ _ k j=>aI k j _⟩;rcases h w Z ba aW (fun k=>⟨fun _=>ab k,fun _=>aw k,aI k⟩) aK with⟨_,aq⟩|⟨v,w',aq,_⟩
 ·refine aq.mono ?_;rintro e w' ⟨v,r,ah,bq,rfl,⟨rfl,rfl⟩,mG,_,_,_,l2⟩;simp only[bd]at mG;subst mG;refine⟨rfl,l2.os,l2.tape,l2.output,l2.size,fun k ad=>l2.block k ad ?_⟩;simp[fx,Pv.look]
 ·rw[ZV]at aq;cases aq
theorem am9{n:Int}(h:(Lit.int .u8 n).wf=true):0<=n/\n<256:=by simp[Lit.wf,IntKind.min,IntKind.max,rf,nD]at h;omega
end
end Go.Proofs.YtohaalphocaebaaGreat
