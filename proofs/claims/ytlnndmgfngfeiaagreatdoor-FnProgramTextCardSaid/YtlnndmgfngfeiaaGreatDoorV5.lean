/- Contracts: FormatTerm, Join. -/
import Derived.Lib.ItoaLen
import Derived.Test.YtlnndmgfngfeiaaGreatDoorV4
set_option linter.all false
set_option maxHeartbeats 4000000
set_option maxRecDepth 4000
open Bool renaming and_eq_true->bF,false_eq_true->kE
open Decidable renaming not_not->amL
open Go renaming Program->b3,program->iT
open Go.Proofs.Tryz renaming prog->aQ
open List renaming all_eq_true->hq,append_assoc->iI,append_nil->mg,cons_append->ds,drop_eq_getElem_cons->uk,eq_nil_of_length_eq_zero->n5,getElem?_eq_getElem->cS,getElem?_eq_some_iff->eV,length_append->fU,length_cons->ga,length_map->pR,length_nil->mh,length_take->n7,map_cons->ek,map_nil->mQ,mem_append->fM,mem_cons->gb,mem_map->n8,mem_singleton->mi,nil_append->eW,nodup_append->rG,prefix_refl->sZ,take_add_one->kV,take_length->kH,take_of_length_le->rH,take_succ_cons->rI
open List.cons renaming injEq->w9
open Nat renaming le_refl->c7,zero_add->n9
open Option renaming getD->lV,map_eq_some_iff->hc,map_some->oa
open Option.some renaming injEq->dH
open Prod.mk renaming injEq->gz
open _root_ renaming Option->a1,UInt8->ah,beq_iff_eq->dK,congrArg->dZ,decide_eq_true_eq->ea,if_neg->bo,if_pos->bP
namespace Go.Proofs.YtlnndmgfngfeiaaGreatDoor
section
open Go Go.Pv
theorem Wf:Same bN s4:=⟨fun k=>by simp only[bN,s4,Pv.look];split<;>rfl,fun k=>rfl⟩
theorem bc.two{P:b3}{n:Nat}{args:List al}{st:a6}{d:a1 Nat}{K:a6->Prop}{s:dF}{Q:al->dF->Prop}(aY:bJ P n args s Q)(au:gJ s)(ao:∀k cs,Pv.look k s.b=some cs->Pv.look k st.b=some cs)(he:∀k o,Pv.look k s.e=some o->Pv.look k st.e=some o)
  (aa:aj (ag s) args) (h:∀r aq,Q r aq->((∀m,(Pv.look (.obj m) aq.b).isSome->(Pv.look (.obj m) s.b).isSome\/ .obj m∉st.o)/\(∀m,(Pv.look (.obj m) aq.e).isSome->(Pv.look (.obj m) s.e).isSome\/ .obj m∉st.o))/\K ⟨fk d r st.t,aX s.b st.b++aq.b,aX s.e st.e++aq.e,st.n,st.o++gj aq⟩):bc P n args st d K:=
 .inl ⟨s,Q,fun k cs aH=>⟨ao k cs aH,.inl (by simp[aH]),au.kb k cs aH⟩,fun k o az=>⟨he k o az,.inr (by simp[az]),au.ke k o az⟩,au.obj,aa,aY,fun r aq bA=>h r aq bA⟩
theorem xo(a b:List ah):fW (a++b)=fW a++fW b:=by simp[fW]
theorem aaE(t:List ah)(aI:t≠[])(aG:t.length<=bs):bJ aQ 62 [br,.str t] bN fun r aq=>r= .tuple [.int .i64 t.length,.junk]/\aq=be t:=by have au:=DT;simp only[bN]at au⊢;refine bJ.mk mixed jZ PN Tr Ψ au.obj fun aL bT=>?_;unfold HX;simp[br];refine bc.ob aaI DT (by simp only[bN];exact ai) (by simp only[bN];exact ai) (by simp[ag,Pv.look,bN,br,aj,ak]) ?_;rintro r aq ⟨rfl,rfl⟩;refine⟨Wf,?_⟩;simp[aX,bN,s4,br,aI,aG];refine bL.new (be t) (.inl rfl) (j3 t) (by simp[gE,be,ag,Pv.look]) (by simp only[be,br];exact ai) (by simp only[be,br];exact ai) ?_;simp[bV,K4,bg,bh,bf,be,br,ag,Pv.look,ak,aj]
theorem aaF(l t:List ah)(aG:(l++t).length<=bs):bJ aQ 62 [br,.str t] (be l) fun r aq=>r= .tuple [.int .i64 t.length,.junk]/\aq=be (l++t):=by
 have au:=j3 l;have sd:l.length+t.length<=bs:=by simpa using aG
 have eE:(fW l).length=l.length:=by simp[fW]
 simp only[be]at au⊢;refine bJ.mk mixed jZ PN Tr Ψ au.obj fun aL bT=>?_;unfold HX;simp[br];refine bc.ob (aaJ l) (j3 l) (by simp only[be,br];exact ai) (by simp only[be,br];exact ai) (by simp[ag,Pv.look,be,br,aj,ak]) ?_;rintro r aq ⟨rfl,rfl⟩;refine⟨Same.refl _,?_⟩;simp[aX,be,br,sd,eE];refine bL.at (be (l++t)) (.inl rfl) (j3 _) (Wh l (l++t)) (by simp only[be,br];exact ai) (by simp only[be,br,xo];exact ai) ?_;simp[bV,K4,bg,bh,bf,be,br,ag,Pv.look,ak,aj]
theorem Mb(n:Int)(h:aZ n):ct aQ 63 [.int .i64 n] (.str (Lib.itoa n)):=by have k:=VG n h;refine bW jZ Zm ae1 fun aL=>?_;unfold Ny;exact cB
end
end Go.Proofs.YtlnndmgfngfeiaaGreatDoor
namespace Go.Pv
section
open Go
inductive aV where
 |mk (kind n:Int) (name:List ah) (args:List aV)
def aV.kind:aV->Int| .mk k _ _ _=>k
def aV.num:aV->Int| .mk _ n _ _=>n
def aV.name:aV->List ah| .mk _ _ s _=>s
def aV.args:aV->List aV| .mk _ _ _ a=>a
mutual
def enc:aV->al
 | .mk k n s a=>.agg [.int .i64 k,.int .i64 n,.str s,.slice 4 .no (qU a)]
def qU:List aV->List al
 |[]=>[]
 |x::xs=>enc x::qU xs
end
theorem Er:∀l,qU l=l.map enc
 |[]=>rfl
 |x::xs=>by simp[qU,Er xs]
theorem zk(t:aV):enc t= .agg [.int .i64 t.kind,.int .i64 t.num,.str t.name,.slice 4 .no (t.args.map enc)]:=by cases t;simp[enc,Er,aV.kind,aV.num,aV.name,aV.args]
mutual
theorem Sg(S:aO->Prop):∀t:aV,ak S (enc t)
 | .mk k n s a=>by simp[enc,ak,aj,J8 S a]
theorem J8(S:aO->Prop):∀l:List aV,aj S (qU l)
 |[]=>by simp[qU,aj]
 |x::xs=>by simp[qU,aj,Sg S x,J8 S xs]
end
mutual
theorem U9:∀t:aV,cm (enc t)=enc t
 | .mk k n s a=>by simp[enc,cm,ca,LN a]
theorem LN:∀l:List aV,ca (qU l)=qU l
 |[]=>by simp[qU,ca]
 |x::xs=>by simp[qU,ca,U9 x,LN xs]
end
@[simp]theorem ali(S:aO->Prop)(t:aV):ak S (enc t)=True:=eq_true (Sg S t)
@[simp]theorem ale(S:aO->Prop)(l:List aV):aj S (l.map enc)=True:=by rw[<-Er];exact eq_true (J8 S l)
theorem ahA(l:List aV):ca (l.map enc)=l.map enc:=by rw[<-Er];exact LN l
attribute [simp] U9 ahA
@[simp]theorem amd(t:aV):eG (enc t)=true:=by rw[zk];rfl
@[simp]theorem ajF(t:aV):cells (enc t)=[.int .i64 t.kind,.int .i64 t.num,.str t.name,.slice 4 .no (t.args.map enc)]:=by rw[zk];rfl
@[simp]theorem ai0(t:aV):al.agg [.int .i64 t.kind,.int .i64 t.num,.str t.name,.slice 4 .no (t.args.map enc)]=enc t:=(zk t).symm
@[simp]theorem aj8(off:Nat)(eJ:Bool)(sz:Nat)(t:aV):ov off eJ sz (.eptr (enc t))=if eJ then some (off+sz<=4,.eptr (.agg (([.int .i64 t.kind,.int .i64 t.num,.str t.name,.slice 4 .no (t.args.map enc)].drop off).take sz)))else(([.int .i64 t.kind,.int .i64 t.num,.str t.name,.slice 4 .no (t.args.map enc)]:List al)[off]?).map fun p=>(eG p=true/\cells p=[p],.eptr p):=by rw[zk];rfl
@[simp]theorem ak4(t:aV):Pv.isAgg 4 (enc t):=by rw[zk];exact⟨_,rfl,rfl⟩
inductive T where
 |nil
 |var (n:Int)
 |sym (s:List ah)
 |num (n:Int)
 |pair (a b:T)
 deriving DecidableEq,Inhabited
def T.tm:T->aV
 | .nil=>.mk 0 0 [] []
 | .var n=>.mk 1 n [] []
 | .sym s=>.mk 2 0 s []
 | .num n=>.mk 3 n [] []
 | .pair a b=>.mk 4 0 [] [a.tm,b.tm]
def T.e:T->al
 | .nil=>.agg [.int .i64 0,.int .i64 0,.str [],.slice 4 .no []]
 | .var n=>.agg [.int .i64 1,.int .i64 n,.str [],.slice 4 .no []]
 | .sym s=>.agg [.int .i64 2,.int .i64 0,.str s,.slice 4 .no []]
 | .num n=>.agg [.int .i64 3,.int .i64 n,.str [],.slice 4 .no []]
 | .pair a b=>.agg [.int .i64 4,.int .i64 0,.str [],.slice 4 .no [a.e,b.e]]
theorem tq:∀t:T,enc t.tm=t.e
 | .nil| .var _| .sym _| .num _=>rfl
 | .pair a b=>by simp[T.tm,enc,qU,T.e,tq a,tq b]
def T.kind:T->Int
 | .nil=>0| .var _=>1| .sym _=>2| .num _=>3| .pair _ _=>4
def T.int:T->Int
 | .var n=>n| .num n=>n|_=>0
def T.name:T->List ah
 | .sym s=>s|_=>[]
def T.args:T->List T
 | .pair a b=>[a,b]|_=>[]
theorem T.e_eq(t:T):t.e= .agg [.int .i64 t.kind,.int .i64 t.int,.str t.name,.slice 4 .no (t.args.map T.e)]:=by cases t<;>rfl
@[simp]theorem aiZ(t:T):al.agg [.int .i64 t.kind,.int .i64 t.int,.str t.name,.slice 4 .no (t.args.map T.e)]=t.e:=(T.e_eq t).symm
@[simp]theorem ai4:al.agg [.int .i64 0,.int .i64 0,.str [],.slice 4 .no []]=T.nil.e:=rfl
@[simp]theorem aja(n:Int):al.agg [.int .i64 1,.int .i64 n,.str [],.slice 4 .no []]=(T.var n).e:=rfl
@[simp]theorem ai9(s:List ah):al.agg [.int .i64 2,.int .i64 0,.str s,.slice 4 .no []]=(T.sym s).e:=rfl
@[simp]theorem ai5(n:Int):al.agg [.int .i64 3,.int .i64 n,.str [],.slice 4 .no []]=(T.num n).e:=rfl
@[simp]theorem ai6(a b:T):al.agg [.int .i64 4,.int .i64 0,.str [],.slice 4 .no [a.e,b.e]]=(T.pair a b).e:=rfl
@[simp]theorem alm:(T.nil).kind=0:=rfl
@[simp]theorem akV:(T.nil).int=0:=rfl
@[simp]theorem alI:(T.nil).name=[]:=rfl
@[simp]theorem ajb:(T.nil).args=[]:=rfl
@[simp]theorem alq(n:Int):(T.var n).kind=1:=rfl
@[simp]theorem akZ(n:Int):(T.var n).int=n:=rfl
@[simp]theorem alM(n:Int):(T.var n).name=[]:=rfl
@[simp]theorem ajf(n:Int):(T.var n).args=[]:=rfl
@[simp]theorem alp(s:List ah):(T.sym s).kind=2:=rfl
@[simp]theorem akY(s:List ah):(T.sym s).int=0:=rfl
@[simp]theorem alL(s:List ah):(T.sym s).name=s:=rfl
@[simp]theorem aje(s:List ah):(T.sym s).args=[]:=rfl
@[simp]theorem aln(n:Int):(T.num n).kind=3:=rfl
@[simp]theorem akW(n:Int):(T.num n).int=n:=rfl
@[simp]theorem alJ(n:Int):(T.num n).name=[]:=rfl
@[simp]theorem ajc(n:Int):(T.num n).args=[]:=rfl
@[simp]theorem alo(a b:T):(T.pair a b).kind=4:=rfl
@[simp]theorem akX(a b:T):(T.pair a b).int=0:=rfl
@[simp]theorem alK(a b:T):(T.pair a b).name=[]:=rfl
@[simp]theorem ajd(a b:T):(T.pair a b).args=[a,b]:=rfl
@[simp]theorem alh(S:aO->Prop)(t:T):ak S t.e=True:=by rw[<-tq];simp
@[simp]theorem amx(t:T):cm t.e=t.e:=by rw[<-tq];simp
theorem Se(S:aO->Prop):∀l:List T,aj S (l.map T.e)
 |[]=>by simp[aj]
 |x::xs=>by simp[aj,Se S xs]
@[simp]theorem ald(S:aO->Prop)(l:List T):aj S (l.map T.e)=True:=eq_true (Se S l)
@[simp]theorem ahz:∀l:List T,ca (l.map T.e)=l.map T.e
 |[]=>rfl
 |x::xs=>by simp[ca,ahz xs]
@[simp]theorem amc(t:T):eG t.e=true:=by rw[T.e_eq];rfl
@[simp]theorem Xc(t:T):cells t.e=[.int .i64 t.kind,.int .i64 t.int,.str t.name,.slice 4 .no (t.args.map T.e)]:=by rw[T.e_eq];rfl
@[simp]theorem ak3(t:T):Pv.isAgg 4 t.e:=by rw[T.e_eq];exact⟨_,rfl,rfl⟩
def T.size:T->Nat
 | .pair a b=>1+a.size+b.size
 |_=>1
theorem T.size_pos(t:T):1<=t.size:=by cases t<;>simp[T.size]<;>omega
def low(b:ah):Bool:=decide (97<=b.toNat/\b.toNat<=122)
def kv(b:ah):Bool:=low b||decide (48<=b.toNat/\b.toNat<=57)||b.toNat==45
def fA(s:List ah):Bool:=decide (1<=s.length/\s.length<=12)&&low (s.getD 0 0)&&(s.drop 1).all kv
def T.ok:T->Bool
 | .nil=>true
 | .var n=>decide (0<=n/\n<=100000)
 | .sym s=>fA s
 | .num n=>decide (-1000000000<=n/\n<=1000000000)
 | .pair a b=>a.ok&&b.ok
def la(k n:Int)(s:List ah):Bool:=if k=0 then n==0&&s==[]else if k=1 then decide (0<=n/\n<=100000)&&s==[]else if k=2 then n==0&&fA s else if k=3 then decide (-1000000000<=n/\n<=1000000000)&&s==[]else false
def fE:aV->Int->Int
 | .mk k n s [a,b],room=>if room<1\/k≠4\/n≠0\/s≠[]then-1 else if fE a (room-1)<0 then-1 else if fE b (room-1-fE a (room-1))<0 then-1 else 1+fE a (room-1)+fE b (room-1-fE a (room-1))
 | .mk k n s args,room=>if room<1\/k=4\/args≠[]\/la k n s=false then-1 else 1
theorem Kv(k n:Int)(s:List ah)(args:List aV)(room:Int):fE (.mk k n s args) room=if room<1 then-1 else if k≠4 then(if args≠[]then-1 else if la k n s then 1 else-1)else if n≠0\/s≠[]then-1 else match args with
  |[a,b]=>if fE a (room-1)<0 then-1 else if fE b (room-1-fE a (room-1))<0 then-1 else 1+fE a (room-1)+fE b (room-1-fE a (room-1))
  |_=> -1:=by
 match args with
 |[]=>simp only[fE];by_cases I:room<1<;>by_cases J:k=4<;>by_cases aA:la k n s=true<;>simp[I,J,aA]
 |[a]=>simp[fE]
 |[a,b]=>simp only[fE];by_cases I:room<1<;>by_cases J:k=4<;>simp[I,J]
 |a::b::c::r=>simp[fE]
theorem Ku:∀(t:T) (room:Int),fE t.tm room=if t.ok=true/\(t.size:Int)<=room then(t.size:Int)else-1
 | .nil,room=>by simp[T.tm,fE,T.ok,T.size,la];split<;>rename_i h<;>simp_all<;>omega
 | .var n,room=>by simp[T.tm,fE,T.ok,T.size,la];split<;>split<;>simp_all<;>omega
 | .sym s,room=>by simp[T.tm,fE,T.ok,T.size,la];by_cases I:room<1<;>by_cases J:fA s=true<;>simp[I,J]<;>omega
 | .num n,room=>by simp[T.tm,fE,T.ok,T.size,la];split<;>split<;>simp_all<;>omega
 | .pair a b,room=>by
  have bM:=a.size_pos;have ao:=b.size_pos;simp only[T.tm,fE,Ku a,Ku b,T.ok,T.size,bF];by_cases I:room<1
  ·simp[I];omega
  ·by_cases J:a.ok=true/\(a.size:Int)<=room-1
   ·rw[bP J];by_cases aA:b.ok=true/\(b.size:Int)<=room-1-a.size
    ·rw[bP aA];simp[I,J.1,aA.1];split<;>omega
    ·rw[bo aA];simp[I,J.1];intro jn;have:=aA;simp[jn]at this;omega
   ·rw[bo J];simp[I];intro abE;have:=J;simp[abE]at this;omega
theorem F6:∀(t:aV) (room:Int),fE t room= -1\/1<=fE t room
 | .mk k n s [a,b],room=>by
  simp only[fE];split
  ·exact .inl rfl
  ·split
   ·exact .inl rfl
   ·split
    ·exact .inl rfl
    ·right;omega
 | .mk k n s [],room=>by simp only[fE];split<;>simp
 | .mk k n s [a],room=>by simp[fE]
 | .mk k n s (a::b::c::r),room=>by simp[fE]
theorem Kx:∀(t:aV) (room:Int),0<fE t room->∃x:T,x.tm=t
 | .mk k n s [a,b],room,h=>by
  simp only[fE]at h;split at h
  ·omega
  ·rename_i I;simp only[not_or,Int.not_lt,ne_eq,amL]at I;obtain⟨I,rfl,rfl,rfl⟩:=I;split at h
   ·omega
   ·split at h
    ·omega
    ·obtain⟨x,rfl⟩:=Kx a (room-1) (by rcases F6 a (room-1)with h|h<;>omega);obtain⟨y,rfl⟩:=Kx b (room-1-fE x.tm (room-1)) (by rcases F6 b (room-1-fE x.tm (room-1))with h|h<;>omega);exact⟨.pair x y,rfl⟩
 | .mk k n s [],room,h=>by
  simp only[fE]at h;split at h
  ·omega
  ·rename_i I;simp only[not_or,ne_eq,not_true_eq_false,not_false_eq_true,true_and,Bool.not_eq_false]at I;obtain⟨_,_,I⟩:=I;unfold la at I;split at I
   ·rename_i e;subst e;simp at I;obtain⟨rfl,rfl⟩:=I;exact⟨.nil,rfl⟩
   ·split at I
    ·rename_i e;subst e;simp at I;obtain⟨_,rfl⟩:=I;exact⟨.var n,rfl⟩
    ·split at I
     ·rename_i e;subst e;simp at I;obtain⟨rfl,_⟩:=I;exact⟨.sym s,rfl⟩
     ·split at I
      ·rename_i e;subst e;simp at I;obtain⟨_,rfl⟩:=I;exact⟨.num n,rfl⟩
      ·cases I
 | .mk k n s [a],room,h=>by simp[fE]at h
 | .mk k n s (a::b::c::r),room,h=>by simp[fE]at h
theorem Kw:∀(t:aV) (room:Int),fE t room<=room\/fE t room= -1
 | .mk k n s [a,b],room=>by
  simp only[fE];split
  ·exact .inr rfl
  ·split
   ·exact .inr rfl
   ·split
    ·exact .inr rfl
    ·rcases Kw b (room-1-fE a (room-1))with h|h<;>omega
 | .mk k n s [],room=>by simp only[fE];split<;>simp;rename_i h;omega
 | .mk k n s [a],room=>by simp[fE]
 | .mk k n s (a::b::c::r),room=>by simp[fE]
mutual
def aV.sz:aV->Nat
 | .mk _ _ _ a=>1+aV.szL a
def aV.szL:List aV->Nat
 |[]=>0
 |x::xs=>x.sz+aV.szL xs
end
theorem Vc:∀{l:List aV} {x:aV},x∈l->x.sz<=aV.szL l
 |y::l,x,h=>by
  rcases gb.1 h with rfl|h
  ·simp[aV.szL]
  ·have:=Vc h;simp[aV.szL];omega
theorem ahE{t x:aV}(h:x∈t.args):x.sz<t.sz:=by cases t;simp[aV.args]at h;have:=Vc h;simp[aV.sz];omega
def T.fit(t:T):Bool:=t.ok&&decide (t.size<=5000)
def aV.fits(t:aV):Bool:=decide (0<fE t 5000)
theorem aV.fits_T(t:T):t.tm.fits=t.fit:=by
 unfold aV.fits T.fit;rw[Ku];have:=t.size_pos;by_cases I:t.ok=true<;>by_cases J:t.size<=5000
 ·rw[bP ⟨I,Ω⟩];simp[I,J];omega
 ·rw[bo Ω];simp[J]
 ·rw[bo (by simp[I])];simp[I]
 ·rw[bo (by simp[I])];simp[I]
theorem aV.fits_ex{t:aV}(h:t.fits=true):∃x:T,x.tm=t/\x.fit=true:=by obtain⟨x,rfl⟩:=Kx t 5000 (by simpa[aV.fits]using h);exact⟨x,rfl,by rw[<-aV.fits_T];exact h⟩
structure j4 where
 v:Int
 t:T
 deriving DecidableEq,Inhabited
def j4.e(b:j4):al:= .agg [.int .i64 b.v,.int .i64 b.t.kind,.int .i64 b.t.int,.str b.t.name,.slice 4 .no (b.t.args.map T.e)]
@[simp]theorem j4.eta(b:j4):j4.mk b.v b.t=b:=rfl
@[simp]theorem aiR(v:Int)(t:T):al.agg [.int .i64 v,.int .i64 t.kind,.int .i64 t.int,.str t.name,.slice 4 .no (t.args.map T.e)]=(j4.mk v t).e:=rfl
@[simp]theorem aiS(v:Int):al.agg [.int .i64 v,.int .i64 0,.int .i64 0,.str [],.slice 4 .no []]=(j4.mk v .nil).e:=rfl
@[simp]theorem aiW(v n:Int):al.agg [.int .i64 v,.int .i64 1,.int .i64 n,.str [],.slice 4 .no []]=(j4.mk v (.var n)).e:=rfl
@[simp]theorem aiV(v:Int)(s:List ah):al.agg [.int .i64 v,.int .i64 2,.int .i64 0,.str s,.slice 4 .no []]=(j4.mk v (.sym s)).e:=rfl
@[simp]theorem aiT(v n:Int):al.agg [.int .i64 v,.int .i64 3,.int .i64 n,.str [],.slice 4 .no []]=(j4.mk v (.num n)).e:=rfl
@[simp]theorem aiU(v:Int)(a b:T):al.agg [.int .i64 v,.int .i64 4,.int .i64 0,.str [],.slice 4 .no [a.e,b.e]]=(j4.mk v (.pair a b)).e:=rfl
@[simp]theorem al6(b:j4):eG b.e=true:=rfl
@[simp]theorem ajB(b:j4):cells b.e=[.int .i64 b.v,.int .i64 b.t.kind,.int .i64 b.t.int,.str b.t.name,.slice 4 .no (b.t.args.map T.e)]:=rfl
@[simp]theorem akh(off:Nat)(eJ:Bool)(sz:Nat)(b:j4):rX off eJ sz b.e=if eJ then some (off+sz<=5,.agg (([.int .i64 b.v,.int .i64 b.t.kind,.int .i64 b.t.int,.str b.t.name,.slice 4 .no (b.t.args.map T.e)].drop off).take sz))else(([.int .i64 b.v,.int .i64 b.t.kind,.int .i64 b.t.int,.str b.t.name,.slice 4 .no (b.t.args.map T.e)]:List al)[off]?).map fun p=>(True,p):=rfl
@[simp]theorem aj5(off:Nat)(eJ:Bool)(sz:Nat)(b:j4):ov off eJ sz (.eptr b.e)=if eJ then some (off+sz<=5,.eptr (.agg (([.int .i64 b.v,.int .i64 b.t.kind,.int .i64 b.t.int,.str b.t.name,.slice 4 .no (b.t.args.map T.e)].drop off).take sz)))else(([.int .i64 b.v,.int .i64 b.t.kind,.int .i64 b.t.int,.str b.t.name,.slice 4 .no (b.t.args.map T.e)]:List al)[off]?).map fun p=>(eG p=true/\cells p=[p],.eptr p):=rfl
def T.occ(v:Int):T->Bool
 | .var n=>n==v
 | .pair a b=>a.occ v||b.occ v
 |_=>false
structure s5 where
 v:Int
 t:aV
def s5.e(b:s5):al:= .agg [.int .i64 b.v,.int .i64 b.t.kind,.int .i64 b.t.num,.str b.t.name,.slice 4 .no (b.t.args.map enc)]
@[simp]theorem s5.eta(b:s5):s5.mk b.v b.t=b:=rfl
@[simp]theorem aiX(v:Int)(t:aV):al.agg [.int .i64 v,.int .i64 t.kind,.int .i64 t.num,.str t.name,.slice 4 .no (t.args.map enc)]=(s5.mk v t).e:=rfl
@[simp]theorem al8(b:s5):eG b.e=true:=rfl
@[simp]theorem ajD(b:s5):cells b.e=[.int .i64 b.v,.int .i64 b.t.kind,.int .i64 b.t.num,.str b.t.name,.slice 4 .no (b.t.args.map enc)]:=rfl
@[simp]theorem aki(off:Nat)(eJ:Bool)(sz:Nat)(b:s5):rX off eJ sz b.e=if eJ then some (off+sz<=5,.agg (([.int .i64 b.v,.int .i64 b.t.kind,.int .i64 b.t.num,.str b.t.name,.slice 4 .no (b.t.args.map enc)].drop off).take sz))else(([.int .i64 b.v,.int .i64 b.t.kind,.int .i64 b.t.num,.str b.t.name,.slice 4 .no (b.t.args.map enc)]:List al)[off]?).map fun p=>(True,p):=rfl
@[simp]theorem aj6(off:Nat)(eJ:Bool)(sz:Nat)(b:s5):ov off eJ sz (.eptr b.e)=if eJ then some (off+sz<=5,.eptr (.agg (([.int .i64 b.v,.int .i64 b.t.kind,.int .i64 b.t.num,.str b.t.name,.slice 4 .no (b.t.args.map enc)].drop off).take sz)))else(([.int .i64 b.v,.int .i64 b.t.kind,.int .i64 b.t.num,.str b.t.name,.slice 4 .no (b.t.args.map enc)]:List al)[off]?).map fun p=>(eG p=true/\cells p=[p],.eptr p):=rfl
def WO(l:List j4)(v:Int):a1 T:=(l.find? fun b=>b.v==v).map (·.t)
end
section
open Go Go.Lib
def jN(c:ah):Bool:=c==32||c==10||c==40||c==41||c==59
def mJ(c:ah):Bool:= !(c==10)
def fR(c:ah):Bool:= !jN c
theorem zh{α:Type}(p:α->Bool):∀l:List α,(l.dropWhile p).length<=l.length
 |[]=>by simp
 |x::r=>by
  simp only[List.dropWhile];split
  ·have:=zh p r;simp;omega
  ·simp
def dp:List ah->List (List ah)
 |[]=>[]
 |c::r=>if c=32\/c=10 then dp r else if c=59 then dp (r.dropWhile mJ)else if c=40\/c=41 then [c]::dp r else(c::r.takeWhile fR)::dp (r.dropWhile fR)
termination_by l=>l.length
decreasing_by
 all_goals simp
 all_goals exact Nat.lt_succ_of_le (zh _ _)
theorem rs:dp []=[]:=by rw[dp]
theorem sL(c:ah)(r:List ah):dp (c::r)=if c=32\/c=10 then dp r else if c=59 then dp (r.dropWhile mJ)else if c=40\/c=41 then [c]::dp r else(c::r.takeWhile fR)::dp (r.dropWhile fR):=by rw[dp]
def nX(c:ah):Bool:=c==10||(decide (32<=c.toNat)&&decide (c.toNat<=126))
def gG(s:List ah):a1 (List (List ah)):=if s.length<=100000/\(∀c∈s,nX c=true)/\(dp s).length<=20000 then some (dp s)else none
theorem fH{α:Type}{l:List α}{i:Nat}{x:α}(h:l[i]? =some x):l.drop i=x::l.drop (i+1):=by obtain⟨aE,rfl⟩:=eV.1 h;exact uk aE
theorem yN:∀(n:Nat) (s:List ah),s.length<=n->(dp s).length<=s.length
 |_,[],_=>by simp[rs]
 |0,_::_,h=>by simp at h
 |n+1,c::r,h=>by
  rw[sL];simp at h;have I:=zh mJ r;have J:=zh fR r;split
  ·have:=yN n r h;simp;omega
  ·split
   ·have:=yN n (r.dropWhile mJ) Ω;simp;omega
   ·split
    ·have:=yN n r h;simp;omega
    ·have:=yN n (r.dropWhile fR) Ω;simp;omega
theorem AN:∀(n:Nat) (s:List ah),s.length<=n->∀t∈dp s,t≠[]
 |_,[],_=>by simp[rs]
 |0,_::_,h=>by simp at h
 |n+1,c::r,h=>by
  rw[sL];simp at h;have I:=zh mJ r;have J:=zh fR r;split
  ·exact AN n r h
  ·split
   ·exact AN n _ Ω
   ·split
    ·intro t aI;rcases gb.1 aI with rfl|aI
     ·simp
     ·exact AN n r h t aI
    ·intro t aI;rcases gb.1 aI with rfl|aI
     ·simp
     ·exact AN n _ Ω t aI
def gi:List T->T->T
 |[],t=>t
 |x::r,t=>.pair x (gi r t)
theorem Sr(a b:List T)(t:T):gi (a++b) t=gi a (gi b t):=by
 induction a with
 |nil=>rfl
 |cons x r bp=>simp[gi,bp]
def fs(w:List ah):a1 T:=
 match w with
 |63::r=>match gw r with
  |some n=>if 0<=n/\n<=100000 then some (.var n)else none
  |none=>none
 |w=>if fA w then some (.sym w)else(gw w).map .num
mutual
def rd(at':List ah->a1 T):Nat->List (List ah)->a1 (T×List (List ah))
 |0,_=>none
 |_+1,[]=>none
 |n+1,w::r=>if w=[40]then b5 at' n r []else if w=[41]\/w=[46]then none else(at' w).map fun t=>(t,r)
def b5(at':List ah->a1 T):Nat->List (List ah)->List T->a1 (T×List (List ah))
 |0,_,_=>none
 |_+1,[],_=>none
 |n+1,w::r,acc=>if w=[41]then some (gi acc .nil,r)
  else if w=[46]then(if acc=[]then none else match rd at' n r with
   |some (t,v::dh)=>if v=[41]then some (gi acc t,dh)else none
   |_=>none)
  else match rd at' n (w::r)with
   |some (t,dh)=>b5 at' n dh (acc++[t])
   |none=>none
end
mutual
theorem tX{at':List ah->a1 T}:∀(n:Nat) (l:List (List ah)) (t:T) (r:List (List ah)),rd at' n l=some (t,r)->r<:+l/\r.length<l.length
 |0,_,_,_,h=>by simp[rd]at h
 |_+1,[],_,_,h=>by simp[rd]at h
 |n+1,w::l,t,r,h=>by
  simp only[rd]at h;split at h
  ·obtain⟨I,J⟩:=RR n l [] t r h;exact⟨I.trans (List.suffix_cons _ _),by simp;omega⟩
  ·split at h
   ·cases h
   ·cases bM:at' w with
    |none=>rw[bM]at h;cases h
    |some x=>rw[bM]at h;cases h;exact⟨List.suffix_cons _ _,Ψ⟩
theorem RR{at':List ah->a1 T}:∀(n:Nat) (l:List (List ah)) (acc:List T) (t:T) (r:List (List ah)),b5 at' n l acc=some (t,r)->r<:+l/\r.length<l.length
 |0,_,_,_,_,h=>by simp[b5]at h
 |_+1,[],_,_,_,h=>by simp[b5]at h
 |n+1,w::l,acc,t,r,h=>by
  simp only[b5]at h;split at h
  ·cases h;exact⟨List.suffix_cons _ _,Ψ⟩
  ·split at h
   ·split at h
    ·cases h
    ·split at h
     ·rename_i x v dh hr;split at h
      ·cases h;obtain⟨I,J⟩:=tX n l x (v::r) hr;simp at J;exact⟨((List.suffix_cons _ _).trans I).trans (List.suffix_cons _ _),by simp;omega⟩
      ·cases h
     ·cases h
   ·split at h
    ·rename_i x dh hr;obtain⟨I,J⟩:=tX n (w::l) x dh hr;obtain⟨aA,aS⟩:=RR n dh _ t r h;exact⟨aA.trans I,Ω⟩
    ·cases h
end
theorem X9{α:Type}{l r:List α}(h:r<:+l):l.drop (l.length-r.length)=r:=by obtain⟨p,rfl⟩:=h;simp
mutual
def dw:T->List ah
 | .nil=>[40,41]
 | .var n=>63::itoa n
 | .sym s=>s
 | .num n=>itoa n
 | .pair a b=>40::(dw a++e9 b)
def e9:T->List ah
 | .nil=>[41]
 | .pair a b=>32::(dw a++e9 b)
 | .var n=>32::46::32::63::(itoa n++[41])
 | .sym s=>32::46::32::(s++[41])
 | .num n=>32::46::32::(itoa n++[41])
end
mutual
def fF:T->List (List ah)
 | .nil=>[[40],[41]]
 | .var n=>[63::itoa n]
 | .sym s=>[s]
 | .num n=>[itoa n]
 | .pair a b=>[40]::(fF a++gM b)
def gM:T->List (List ah)
 | .nil=>[[41]]
 | .pair a b=>fF a++gM b
 | .var n=>[[46],63::itoa n,[41]]
 | .sym s=>[[46],s,[41]]
 | .num n=>[[46],itoa n,[41]]
end
def im:List ah->Prop
 |[]=>True
 |c::_=>jN c=true
theorem Vd:∀(w r:List ah),(∀c∈w,fR c=true)->im r->(w++r).takeWhile fR=w/\(w++r).dropWhile fR=r
 |[],[],_,_=>by simp
 |[],c::r,_,h=>by
  have:fR c=false:=by simp only[im]at h;simp[fR,h]
  simp[this]
 |c::w,r,h,he=>by have I:=h c Ψ;obtain⟨J,aA⟩:=Vd w r (fun x ad=>h x (by simp[ad])) he;simp[I,J,aA]
theorem ye(c:ah):fR c=true↔ ¬(c=32\/c=10)/\¬c=59/\¬(c=40\/c=41):=by unfold fR jN;simp;grind
theorem qx{w r:List ah}(h:∀c∈w,fR c=true)(hw:w≠[])(he:im r):dp (w++r)=w::dp r:=by
 cases w with
 |nil=>exact absurd rfl hw
 |cons c w=>obtain⟨I,J,aA⟩:=(ye c).1 (h c Ψ);obtain⟨aS,bG⟩:=Vd w r (fun x ad=>h x (by simp[ad])) he;rw[ds,sL,bo I,bo J,bo aA,aS,bG]
theorem zV(n:Int):∀c∈itoa n,fR c=true:=by intro c aH;rw[ye];have:=yh n c aH;refine⟨?_,?_,?_⟩<;>(intro e;first|(rcases e with rfl|rfl<;>revert this<;>decide)|(subst e;revert this;decide))
theorem adz{c:ah}(h:kv c=true):fR c=true:=by rw[ye];refine⟨?_,?_,?_⟩<;>(intro e;first|(rcases e with rfl|rfl<;>revert h<;>decide)|(subst e;revert h;decide))
theorem aem{c:ah}(h:low c=true):fR c=true:=by rw[ye];refine⟨?_,?_,?_⟩<;>(intro e;first|(rcases e with rfl|rfl<;>revert h<;>decide)|(subst e;revert h;decide))
theorem yo{s:List ah}(h:fA s=true):∃c r,s=c::r/\low c=true/\(∀x∈r,kv x=true)/\r.length<=11:=by
 unfold fA at h;simp only[bF,ea,hq]at h;cases s with
 |nil=>simp at h
 |cons c r=>exact⟨c,r,rfl,by simpa using h.1.2,by simpa using h.2,by have:=h.1.1.2;simp at this;omega⟩
theorem u0{s:List ah}(h:fA s=true):∀c∈s,fR c=true:=by
 obtain⟨c,r,rfl,I,J,_⟩:=yo h;intro x ad;rcases gb.1 ad with rfl|ad
 ·exact aem I
 ·exact adz (J x ad)
theorem Ab{s:List ah}(h:fA s=true):s≠[]:=by obtain⟨c,r,rfl,_⟩:=yo h;simp
theorem rv{c:ah}(h:c=40\/c=41)(r:List ah):dp (c::r)=[c]::dp r:=by rw[sL,bo (by rcases h with rfl|rfl<;>decide),bo (by rcases h with rfl|rfl<;>decide),bP h]
theorem yO(r:List ah):dp (32::r)=dp r:=by rw[sL,bP (by decide)]
theorem ahK(r:List ah):dp (10::r)=dp r:=by rw[sL,bP (by decide)]
theorem LY(r:List ah):dp (32::46::32::r)=[46]::dp r:=by rw[yO];have:=qx (w:=[46]) (r:=32::r) (by decide) Ψ (by simp[im,jN]);rw[List.singleton_append]at this;rw[this,yO]
theorem Pu(t:T)(r:List ah):im (e9 t++r):=by cases t<;>simp[e9,im,jN]
theorem DM(n:Int):∀c∈63::itoa n,fR c=true:=by
 intro c aH;rcases gb.1 aH with rfl|aH
 ·decide
 ·exact zV n c aH
mutual
theorem L0:∀(t:T) (r:List ah),t.ok=true->im r->dp (dw t++r)=fF t++dp r
 | .nil,r,_,_=>by simp[dw,fF,rv]
 | .var n,r,_,he=>by simp only[dw,fF];rw[qx (DM n) Ψ he];rfl
 | .sym s,r,h,he=>by simp only[dw,fF,T.ok]at h⊢;rw[qx (u0 h) (Ab h) he];rfl
 | .num n,r,_,he=>by simp only[dw,fF];rw[qx (zV n) (pq n) he];rfl
 | .pair a b,r,h,he=>by simp only[T.ok,bF]at h;simp only[dw,fF,ds,iI];rw[rv (.inl rfl),L0 a _ h.1 (Pu b r),Vl b r h.2]
theorem Vl:∀(t:T) (r:List ah),t.ok=true->dp (e9 t++r)=gM t++dp r
 | .nil,r,_=>by simp[e9,gM,rv]
 | .var n,r,_=>by simp only[e9,gM,ds,iI,eW];rw[LY,<-ds,qx (DM n) Ψ (by simp[im,jN]),rv (.inr rfl)]
 | .sym s,r,h=>by simp only[T.ok]at h;simp only[e9,gM,ds,iI,eW];rw[LY,qx (u0 h) (Ab h) (by simp[im,jN]),rv (.inr rfl)]
 | .num n,r,_=>by simp only[e9,gM,ds,iI,eW];rw[LY,qx (zV n) (pq n) (by simp[im,jN]),rv (.inr rfl)]
 | .pair a b,r,h=>by simp only[T.ok,bF]at h;simp only[e9,gM,ds,iI];rw[yO,L0 a _ h.1 (Pu b r),Vl b r h.2]
end
theorem WI{n:Int}(h:0<=n/\n<=100000):fs (63::itoa n)=some (.var n):=by have:gw (itoa n)=some n:=wP.2 ⟨by unfold aZ;omega,rfl⟩;simp[fs,this,h]
theorem F0{s:List ah}(h:fA s=true):∀r,s≠63::r:=by obtain⟨c,r,rfl,I,_⟩:=yo h;intro dh e;simp only[w9]at e;obtain⟨rfl,_⟩:=e;revert I;decide
theorem WG{s:List ah}(h:fA s=true):fs s=some (.sym s):=by
 have:=F0 h;unfold fs;split
 ·rename_i r;exact absurd rfl (this r)
 ·simp[h]
theorem aeS{n:Int}:fA (itoa n)=false:=by
 cases ao:fA (itoa n)with
 |false=>rfl
 |true=>obtain⟨c,r,I,J,_⟩:=yo ao;have:=yh n c (by rw[I];simp);unfold low at J;simp at J;omega
theorem WE{n:Int}(h:aZ n):fs (itoa n)=some (.num n):=by
 have I:∀r,itoa n≠63::r:=fun r e=>by have:=yh n 63 (by rw[e];simp);revert this;decide
 have J:gw (itoa n)=some n:=wP.2 ⟨h,rfl⟩;unfold fs;split
 ·rename_i r e;exact absurd e (I r)
 ·simp[aeS,J]
theorem vi{w:List ah}(h:∀c∈w,fR c=true):w≠[40]/\w≠[41]:=by constructor<;>(rintro rfl;have:=h _ (mi.2 rfl);revert this;decide)
theorem SP(n:Int):itoa n≠[46]:=fun e=>by have:=yh n 46 (by rw[e];simp);revert this;decide
theorem SK{s:List ah}(h:fA s=true):s≠[46]:=by rintro rfl;revert h;decide
theorem Ha:∀t:T,1<=(fF t).length
 | .nil=>by simp[fF]
 | .var _=>by simp[fF]
 | .sym _=>by simp[fF]
 | .num _=>by simp[fF]
 | .pair _ _=>by simp[fF]
theorem aiD:∀t:T,1<=(gM t).length
 | .nil=>by simp[gM]
 | .var _=>by simp[gM]
 | .sym _=>by simp[gM]
 | .num _=>by simp[gM]
 | .pair a _=>by have:=Ha a;simp[gM];omega
mutual
theorem Dl:∀(t:T) (r:List (List ah)) (n:Nat),t.ok=true->(fF t).length<=n->rd fs n (fF t++r)=some (t,r)
 | .nil,r,n,_,aJ=>by obtain⟨n,rfl⟩:∃m,n=m+2:=⟨n-2,by simp[fF]at aJ;omega⟩;simp[fF,rd,b5,gi]
 | .var m,r,n,h,aJ=>by obtain⟨n,rfl⟩:∃m,n=m+1:=⟨n-1,by simp[fF]at aJ;omega⟩;have I:=vi (DM m);simp only[T.ok,ea]at h;simp[fF,rd,I,pq,WI h]
 | .sym s,r,n,h,aJ=>by obtain⟨n,rfl⟩:∃m,n=m+1:=⟨n-1,by simp[fF]at aJ;omega⟩;simp only[T.ok]at h;have I:=vi (u0 h);simp[fF,rd,I,SK h,WG h]
 | .num m,r,n,h,aJ=>by obtain⟨n,rfl⟩:∃m,n=m+1:=⟨n-1,by simp[fF]at aJ;omega⟩;simp only[T.ok,ea]at h;have I:=vi (zV m);simp[fF,rd,I,SP,WE (n:=m) (by unfold aZ;omega)]
 | .pair a b,r,n,h,aJ=>by obtain⟨n,rfl⟩:∃m,n=m+1:=⟨n-1,by simp[fF]at aJ;omega⟩;simp only[T.ok,bF]at h;have:=RT a b [] r n h.1 h.2 (by simp[fF]at aJ;omega);simp only[fF,ds,iI,rd,if_true];rw[this];simp[gi]
termination_by _ _ n=>(n,0)
theorem RT:∀(a b:T) (acc:List T) (r:List (List ah)) (n:Nat),a.ok=true->b.ok=true->(fF a).length+(gM b).length<=n->b5 fs n (fF a++(gM b++r)) acc=some (gi acc (.pair a b),r)
 |a,b,acc,r,n,bM,ao,aJ=>by
  obtain⟨n,rfl⟩:∃m,n=m+1:=⟨n-1,by have:=Ha a;omega⟩;obtain⟨w,l,hw,JS,Cz⟩:∃w l,fF a=w::l/\w≠[41]/\w≠[46]:=by
   cases a with
   |nil=>exact⟨_,_,rfl,by decide,by decide⟩
   |var m=>exact⟨_,_,rfl,(vi (DM m)).2,by simp[pq]⟩
   |sym s=>exact⟨_,_,rfl,(vi (u0 bM)).2,SK bM⟩
   |num m=>exact⟨_,_,rfl,(vi (zV m)).2,SP m⟩
   |pair x y=>exact⟨_,_,rfl,by decide,by decide⟩
  have I:=Dl a (gM b++r) n bM (by have:=aiD b;omega);rw[hw,ds]at I⊢;simp only[b5];rw[bo JS,bo Cz,I];simp only;rw[adP b (acc++[a]) r n ao (by have:=Ha a;omega) Ψ,Sr];rfl
termination_by _ _ _ _ n=>(n,0)
theorem adP:∀(b:T) (acc:List T) (r:List (List ah)) (n:Nat),b.ok=true->(gM b).length<=n->acc≠[]->b5 fs n (gM b++r) acc=some (gi acc b,r)
 | .nil,acc,r,n,_,aJ,_=>by obtain⟨n,rfl⟩:∃m,n=m+1:=⟨n-1,by simp[gM]at aJ;omega⟩;simp[gM,b5]
 | .var m,acc,r,n,h,aJ,bM=>by obtain⟨n,rfl⟩:∃m,n=m+1:=⟨n-1,by simp[gM]at aJ;omega⟩;have I:=Dl (.var m) ([41]::r) n h (by simp[gM]at aJ;simp[fF];omega);simp only[fF,List.singleton_append]at I;simp[gM,b5,bM,I]
 | .sym m,acc,r,n,h,aJ,bM=>by obtain⟨n,rfl⟩:∃m,n=m+1:=⟨n-1,by simp[gM]at aJ;omega⟩;have I:=Dl (.sym m) ([41]::r) n h (by simp[gM]at aJ;simp[fF];omega);simp only[fF,List.singleton_append]at I;simp[gM,b5,bM,I]
 | .num m,acc,r,n,h,aJ,bM=>by obtain⟨n,rfl⟩:∃m,n=m+1:=⟨n-1,by simp[gM]at aJ;omega⟩;have I:=Dl (.num m) ([41]::r) n h (by simp[gM]at aJ;simp[fF];omega);simp only[fF,List.singleton_append]at I;simp[gM,b5,bM,I]
 | .pair x y,acc,r,n,h,aJ,bM=>by simp only[T.ok,bF]at h;simp only[gM,iI];exact RT x y acc r n h.1 h.2 (by simp[gM]at aJ;omega)
termination_by _ _ _ n=>(n,1)
end
end
end Go.Pv
namespace Go.Proofs.YtlnndmgfngfeiaaGreatDoor
section
open Go Go.Pv
def adH(s:List ah)(k:Nat)(st:a6):Prop:=∃i:Nat,1<=i/\i<=s.length/\k=s.length-i/\((s.drop 1).all kv=(s.drop i).all kv)/\st=⟨[(0,.str s),(3,.int .i64 i)],[],[],0,[]⟩
theorem G6(s:List ah):ct aQ 170 [.str s] (.bool (fA s)):=by
 refine ct.mk mixed sQ Zs ae7 Ψ (by simp[ak]) fun ao=>?_;unfold NF;simp;(with_reducible repeat' first|((first|refine cN (fun h=>?_) fun h=>?_|refine cP (fun h=>?_) fun h=>?_|refine cO (fun h=>?_) fun h=>?_)<;>try simp at h)|refine av ?_|simp);case refine_1.refine_1.refine_1.refine_2=>
  have tE:fA s=(s.drop 1).all kv:=by simp[fA,low];omega
  rw[tE];refine xB (adH s) (s.length-1) _ ⟨Ψ,by simp[oX],by simp[oY],Ψ⟩ ⟨1,Ω,Ω,rfl,rfl,rfl⟩ ?_;rintro k st ⟨i,nf,zJ,aa,j9,rfl⟩ qZ bT;rw[j9];simp;refine cN (fun bY=>?_) (fun iK=>?_)
  ·simp at bY;have aP:s.drop i=s[i]?.getD 0::s.drop (i+1):=by rw[uk bY];simp[bY]
   simp;(with_reducible repeat' first|((first|refine cN (fun h=>?_) fun h=>?_|refine cP (fun h=>?_) fun h=>?_|refine cO (fun h=>?_) fun h=>?_)<;>try simp at h)|refine av ?_|simp);all_goals first
    |(simp[b8,Gq,bg,bh,bf,aP,kv,low];omega)
    |(simp only[Wp];refine⟨s.length-(i+1),_,Ω,⟨Ψ,by simp[oX],by simp[oY],Ψ⟩,i+1,Ω,Ω,rfl,?_,rfl⟩;rw[j9,aP];simp[kv,low];omega)
  ·simp at iK;have:s.drop i=[]:=by simp;omega
   simp[b8,Gq,bg,bh,bf,this]
 all_goals simp[b8,Gq,bg,bh,bf,fA,low]
 all_goals omega
theorem aii(m:Nat):∀(t:aV),t.sz<=m->∀(room:Int),0<=room/\room<=10000->ct aQ 150 [enc t,.int .i64 room] (.int .i64 (fE t room)):=by
 induction m with
 |zero=>intro t aI;cases t;simp[aV.sz]at aI
 |succ m bp=>
 rintro⟨k,n,s,args⟩ aI room nS;refine bW sQ ZC afh fun aL=>?_;unfold NP;simp[aV.kind,aV.num,aV.name,aV.args];(with_reducible repeat' first|((first|refine cN (fun h=>?_) fun h=>?_|refine cP (fun h=>?_) fun h=>?_|refine cO (fun h=>?_) fun h=>?_)<;>try simp at h)|refine av ?_|simp);all_goals try refine bc.val Ψ (G6 _) ?_
 all_goals try simp
 (with_reducible repeat' first|((first|refine cN (fun h=>?_) fun h=>?_|refine cP (fun h=>?_) fun h=>?_|refine cO (fun h=>?_) fun h=>?_)<;>try simp at h)|refine av ?_|simp);all_goals try simp[b8,Gs,bg,bh,bf]
 case succ.refine_2.refine_2.refine_1.refine_1.refine_2=>
  rename_i bK I J aA;match args,h with
  |[a,b],_=>
  simp[aV.sz,aV.szL]at aI;subst I J aA;simp;(with_reducible repeat' first|((first|refine cN (fun h=>?_) fun h=>?_|refine cP (fun h=>?_) fun h=>?_|refine cO (fun h=>?_) fun h=>?_)<;>try simp at h)|refine av ?_|simp);refine bc.val Ψ (bp a Ω (room-1) Ω) ?_;simp;have bM:=Kw a (room-1);have zB:=F6 a (room-1);(with_reducible repeat' first|((first|refine cN (fun h=>?_) fun h=>?_|refine cP (fun h=>?_) fun h=>?_|refine cO (fun h=>?_) fun h=>?_)<;>try simp at h)|refine av ?_|simp)
  ·simp[b8,Gs,bg,bh,bf];rw[Kv];simp;omega
  ·refine bc.val Ψ (bp b Ω (room-1-fE a (room-1)) Ω) ?_;simp;have ao:=Kw b (room-1-fE a (room-1));have hL:=F6 b (room-1-fE a (room-1));(with_reducible repeat' first|((first|refine cN (fun h=>?_) fun h=>?_|refine cP (fun h=>?_) fun h=>?_|refine cO (fun h=>?_) fun h=>?_)<;>try simp at h)|refine av ?_|simp);all_goals simp[b8,Gs,bg,bh,bf]
   all_goals rw[Kv];simp;omega
 all_goals rw[Kv]
 all_goals simp_all[la]
 all_goals first|omega|(split<;>simp at h⊢)
theorem VJ(t:aV):ct aQ 77 [enc t] (.bool t.fits):=by refine bW sQ Zv afa fun aL=>?_;unfold NI;simp;refine bc.val Ψ (aii t.sz t (c7 _) 5000 Ω) ?_;simp;simp[b8,TO,bg,bh,bf];simp[aV.fits]
theorem VK(t:T):ct aQ 77 [t.e] (.bool t.fit):=by have:=VJ t.tm;rwa[tq,aV.fits_T]at this
theorem VU(a b:T):ct aQ 206 [a.e,b.e] (T.pair a b).e:=by refine bW sQ ZE afj fun aL=>?_;unfold NR;simp;(with_reducible repeat' first|((first|refine cN (fun h=>?_) fun h=>?_|refine cP (fun h=>?_) fun h=>?_|refine cO (fun h=>?_) fun h=>?_)<;>try simp at h)|refine av ?_|simp);all_goals try simp[b8,TT,bg,bh,bf]
theorem Mi(a b:T):ct aQ 141 [a.e,b.e] (T.pair a b).e:=by refine bW sQ Z8 afN fun aL=>?_;unfold Oo;simp;(with_reducible repeat' first|((first|refine cN (fun h=>?_) fun h=>?_|refine cP (fun h=>?_) fun h=>?_|refine cO (fun h=>?_) fun h=>?_)<;>try simp at h)|refine av ?_|simp);all_goals try simp[b8,T6,bg,bh,bf]
def bR:a1 (List ah)->dF
 |none=>bN
 |some l=>be l
theorem MJ:∀o,gJ (bR o)
 |none=>DT
 |some l=>j3 l
theorem bc.bd{P:b3}{n:Nat}{args:List al}{st:a6}{d:a1 Nat}{K:a6->Prop}{o:a1 (List ah)}{r:al}{cF:List ah}(aY:bJ P n args (bR o) fun dh aq=>dh=r/\aq=be cF)(ao:∀k cs,Pv.look k (bR o).b=some cs->Pv.look k st.b=some cs)(he:∀k p,Pv.look k (bR o).e=some p->Pv.look k st.e=some p)
  (aa:aj (ag (bR o)) args) (aJ:o=none->aO.obj 862∉st.o) (h:K ⟨fk d r st.t,aX (bR o).b st.b++(be cF).b,aX (bR o).e st.e++(be cF).e,st.n,st.o++[.obj 861,.obj 862]⟩):bc P n args st d K:=by
 refine bc.two aY (MJ o) ao he aa ?_;rintro dh aq ⟨rfl,rfl⟩;refine⟨⟨fun m hm=>.inl ?_,fun m hm=>?_⟩,h⟩
 ·simp only[be,Pv.look]at hm;split at hm
  ·rename_i e;rw[<-e];cases o<;>simp[bR,bN,be,Pv.look]
  ·cases hm
 ·simp only[be,Pv.look]at hm;split at hm
  ·rename_i e;rw[<-e];cases o with
   |none=>exact .inr (aJ rfl)
   |some l=>exact .inl (by simp[bR,be,Pv.look])
  ·cases hm
theorem jC(o:a1 (List ah))(t:List ah)(aI:o=none->t≠[])(aG:(o.getD []++t).length<=bs):bJ aQ 62 [br,.str t] (bR o) fun r aq=>r= .tuple [.int .i64 t.length,.junk]/\aq=be (o.getD []++t):=by
 cases o with
 |none=>exact aaE t (aI rfl) (by simpa using aG)
 |some l=>exact aaF l t aG
theorem pq(n:Int):Lib.itoa n≠[]:=by
 unfold Lib.itoa;split
 ·simp
 ·exact oq _
def nF(l:List ah)(u:T):a6:=⟨[(0,.ptr (.obj 861) 0),(3,.ptr (.loc 0) 0)],(be l).b++[(.loc 0,cells u.e)],(be l).e,1,[.obj 861,.obj 862]⟩
theorem aa2(n:Nat):∀t:T,t.size<=n->t.ok=true->∀o:a1 (List ah),(o.getD []++dw t).length<=bs->bJ aQ 153 [br,t.e] (bR o) fun r aq=>r= .tuple []/\aq=be (o.getD []++dw t):=by
 induction n with
 |zero=>intro t h;have:=t.size_pos;omega
 |succ n bp=>
  intro t aJ dS o aG;have au:=MJ o;have cD:(40:ah)=40:=rfl;cases t with
  |nil=>
   clear bp;simp only[dw]at aG⊢;cases o with
   |none=>simp only[bR,bN,be,lV]at au aG⊢;refine bJ.mk mixed jZ tu tS Ψ au.obj fun aL bT=>?_;unfold rO;clear aL bT;simp[br];(with_reducible repeat' first|refine av ?_|simp);refine bc.bd (o:=_) (jC (none) ([40,41]) (by simp[pq,cD]) aG) (by simp only[bR,bN,be,br];exact ai) (by simp only[bR,bN,be,br];exact ai) (by simp[ag,Pv.look,bR,bN,be,br,aj,ak]) Ψ ?_;simp[aX,bR,bN,be,br];refine bL.new (be ([]++([40,41]))) Ψ (j3 _) (by simp[gE,be,ag,Pv.look]) (by simp only[be,br];exact ai) (by simp only[be,br];exact ai) ?_;simp[bV,nx,bg,bh,bf,be,br,ag,Pv.look,ak,aj]
   |some l=>simp only[bR,bN,be,lV]at au aG⊢;refine bJ.mk mixed jZ tu tS Ψ au.obj fun aL bT=>?_;unfold rO;clear aL bT;simp[br];(with_reducible repeat' first|refine av ?_|simp);refine bc.bd (o:=_) (jC (some l) ([40,41]) (by simp[pq,cD]) aG) (by simp only[bR,bN,be,br];exact ai) (by simp only[bR,bN,be,br];exact ai) (by simp[ag,Pv.look,bR,bN,be,br,aj,ak]) Ψ ?_;simp[aX,bR,bN,be,br];refine bL.new (be (l++([40,41]))) Ψ (j3 _) (by simp[gE,be,ag,Pv.look]) (by simp only[be,br];exact ai) (by simp only[be,br];exact ai) ?_;simp[bV,nx,bg,bh,bf,be,br,ag,Pv.look,ak,aj]
  |var v=>
   clear bp;have en:aZ v:=by simp[T.ok]at dS;unfold aZ;omega
   have cZ:=Mb v en;have h2:=RM en;have E7:(Lib.itoa v).length+1<=bs:=by have:=Lib.itoa_length_le v (by unfold aZ at en;omega) (by unfold aZ at en;omega);unfold bs;omega
   simp only[dw]at aG⊢;cases o with
   |none=>simp only[bR,bN,be,lV]at au aG⊢;refine bJ.mk mixed jZ tu tS Ψ au.obj fun aL bT=>?_;unfold rO;clear aL bT;simp[br];(with_reducible repeat' first|refine av ?_|refine ba cZ ?_|refine bb cZ ?_|simp[E7]);refine bc.bd (o:=_) (jC (none) (63::Lib.itoa v) (by simp[pq,cD]) aG) (by simp only[bR,bN,be,br];exact ai) (by simp only[bR,bN,be,br];exact ai) (by simp[ag,Pv.look,bR,bN,be,br,aj,ak]) Ψ ?_;simp[aX,bR,bN,be,br];refine bL.new (be ([]++(63::Lib.itoa v))) Ψ (j3 _) (by simp[gE,be,ag,Pv.look]) (by simp only[be,br];exact ai) (by simp only[be,br];exact ai) ?_;simp[bV,nx,bg,bh,bf,be,br,ag,Pv.look,ak,aj]
   |some l=>simp only[bR,bN,be,lV]at au aG⊢;refine bJ.mk mixed jZ tu tS Ψ au.obj fun aL bT=>?_;unfold rO;clear aL bT;simp[br];(with_reducible repeat' first|refine av ?_|refine ba cZ ?_|refine bb cZ ?_|simp[E7]);refine bc.bd (o:=_) (jC (some l) (63::Lib.itoa v) (by simp[pq,cD]) aG) (by simp only[bR,bN,be,br];exact ai) (by simp only[bR,bN,be,br];exact ai) (by simp[ag,Pv.look,bR,bN,be,br,aj,ak]) Ψ ?_;simp[aX,bR,bN,be,br];refine bL.new (be (l++(63::Lib.itoa v))) Ψ (j3 _) (by simp[gE,be,ag,Pv.look]) (by simp only[be,br];exact ai) (by simp only[be,br];exact ai) ?_;simp[bV,nx,bg,bh,bf,be,br,ag,Pv.look,ak,aj]
  |sym s=>
   clear bp;have cD:s≠[]:=Ab (by simpa[T.ok]using dS);simp only[dw]at aG⊢;cases o with
   |none=>simp only[bR,bN,be,lV]at au aG⊢;refine bJ.mk mixed jZ tu tS Ψ au.obj fun aL bT=>?_;unfold rO;clear aL bT;simp[br];(with_reducible repeat' first|refine av ?_|simp);refine bc.bd (o:=_) (jC (none) (s) (by simp[pq,cD]) aG) (by simp only[bR,bN,be,br];exact ai) (by simp only[bR,bN,be,br];exact ai) (by simp[ag,Pv.look,bR,bN,be,br,aj,ak]) Ψ ?_;simp[aX,bR,bN,be,br];refine bL.new (be ([]++(s))) Ψ (j3 _) (by simp[gE,be,ag,Pv.look]) (by simp only[be,br];exact ai) (by simp only[be,br];exact ai) ?_;simp[bV,nx,bg,bh,bf,be,br,ag,Pv.look,ak,aj]
   |some l=>simp only[bR,bN,be,lV]at au aG⊢;refine bJ.mk mixed jZ tu tS Ψ au.obj fun aL bT=>?_;unfold rO;clear aL bT;simp[br];(with_reducible repeat' first|refine av ?_|simp);refine bc.bd (o:=_) (jC (some l) (s) (by simp[pq,cD]) aG) (by simp only[bR,bN,be,br];exact ai) (by simp only[bR,bN,be,br];exact ai) (by simp[ag,Pv.look,bR,bN,be,br,aj,ak]) Ψ ?_;simp[aX,bR,bN,be,br];refine bL.new (be (l++(s))) Ψ (j3 _) (by simp[gE,be,ag,Pv.look]) (by simp only[be,br];exact ai) (by simp only[be,br];exact ai) ?_;simp[bV,nx,bg,bh,bf,be,br,ag,Pv.look,ak,aj]
  |num v=>
   clear bp;have en:aZ v:=by simp[T.ok]at dS;unfold aZ;omega
   have cZ:=Mb v en;simp only[dw]at aG⊢;cases o with
   |none=>simp only[bR,bN,be,lV]at au aG⊢;refine bJ.mk mixed jZ tu tS Ψ au.obj fun aL bT=>?_;unfold rO;clear aL bT;simp[br];(with_reducible repeat' first|refine av ?_|refine ba cZ ?_|refine bb cZ ?_|simp);refine bc.bd (o:=_) (jC (none) (Lib.itoa v) (by simp[pq,cD]) aG) (by simp only[bR,bN,be,br];exact ai) (by simp only[bR,bN,be,br];exact ai) (by simp[ag,Pv.look,bR,bN,be,br,aj,ak]) Ψ ?_;simp[aX,bR,bN,be,br];refine bL.new (be ([]++(Lib.itoa v))) Ψ (j3 _) (by simp[gE,be,ag,Pv.look]) (by simp only[be,br];exact ai) (by simp only[be,br];exact ai) ?_;simp[bV,nx,bg,bh,bf,be,br,ag,Pv.look,ak,aj]
   |some l=>simp only[bR,bN,be,lV]at au aG⊢;refine bJ.mk mixed jZ tu tS Ψ au.obj fun aL bT=>?_;unfold rO;clear aL bT;simp[br];(with_reducible repeat' first|refine av ?_|refine ba cZ ?_|refine bb cZ ?_|simp);refine bc.bd (o:=_) (jC (some l) (Lib.itoa v) (by simp[pq,cD]) aG) (by simp only[bR,bN,be,br];exact ai) (by simp only[bR,bN,be,br];exact ai) (by simp[ag,Pv.look,bR,bN,be,br,aj,ak]) Ψ ?_;simp[aX,bR,bN,be,br];refine bL.new (be (l++(Lib.itoa v))) Ψ (j3 _) (by simp[gE,be,ag,Pv.look]) (by simp only[be,br];exact ai) (by simp only[be,br];exact ai) ?_;simp[bV,nx,bg,bh,bf,be,br,ag,Pv.look,ak,aj]
  |pair a b=>
   simp only[T.size]at aJ;simp only[T.ok,bF]at dS;have E9:=bp a Ω dS.1;have Ci:(o.getD []).length+(1+((dw a).length+(e9 b).length))<=bs:=by simpa[dw,Nat.add_comm 1]using aG
   simp only[dw]at aG⊢;obtain⟨G2,hY⟩:∃G2,G2=o.getD []++40::(dw a++e9 b):=⟨_,rfl⟩;rw[<-hY]at aG⊢;have ef:=b.size_pos;cases o with
   |none=>
    have kw:=jC none [40] Ψ (by unfold bs;simp);have CK:=E9 (some [40]) (by simp at Ci⊢;omega);simp only[bR,bN,be,lV]at au⊢;refine bJ.mk mixed jZ tu tS Ψ au.obj fun aL bT=>?_;unfold rO;clear aL bT;simp[br];(with_reducible repeat' first|refine av ?_|simp);refine bc.bd (o:=_) (kw) (by simp only[bR,bN,be,br];exact ai) (by simp only[bR,bN,be,br];exact ai) (by simp[ag,Pv.look,bR,bN,be,br,aj,ak]) Ψ ?_;simp[aX,bR,bN,be,br];(with_reducible repeat' first|refine av ?_|simp);refine bc.bd (o:=_) (CK) (by simp only[bR,bN,be,br];exact ai) (by simp only[bR,bN,be,br];exact ai) (by simp[ag,Pv.look,bR,bN,be,br,aj,ak]) Ψ ?_;simp[aX,bR,bN,be,br];(with_reducible repeat' first|refine av ?_|simp);refine gf (fun x:T×List ah=>nF x.2 x.1) (fun x=>x.1.size) (fun x=>x.1.ok=true/\x.1.size<=n/\x.2++e9 x.1=G2) (b,[]++40::dw a) (by simp[nF,be,br];exact⟨by simp[fresh,aj,ak,bj,ag,Pv.look,kS],cg (by simp[fresh,aj,ak,bj,ag,Pv.look,kS]),ch (by simp[fresh,aj,ak,cc,ag,Pv.look,kS]),Ψ⟩) ⟨dS.2,(by show b.size<=n;omega),by rw[hY];simp⟩ ?_;rintro⟨u,acc⟩ ⟨oI,sl,Cx⟩ qZ;clear qZ kw CK E9 hY Ci;simp only at oI sl Cx;subst Cx;cases u with
    |pair x y=>
     simp only[T.size]at sl;simp only[T.ok,bF]at oI;have hz:acc.length+(1+((dw x).length+(e9 y).length))<=bs:=by simpa[e9,Nat.add_comm 1]using aG
     have kw:=jC (some acc) [32] Ψ (by simp;omega);have fD:=bp x Ω oI.1 (some (acc++[32])) (by simp;omega);simp[nF,be,br];(with_reducible repeat' first|refine av ?_|simp);refine bc.bd (o:=_) (kw) (by simp only[bR,bN,be,br];exact ai) (by simp only[bR,bN,be,br];exact ai) (by simp[ag,Pv.look,bR,bN,be,br,aj,ak]) Ψ ?_;simp[aX,bR,bN,be,br];(with_reducible repeat' first|refine av ?_|simp);refine bc.bd (o:=_) (fD) (by simp only[bR,bN,be,br];exact ai) (by simp only[bR,bN,be,br];exact ai) (by simp[ag,Pv.look,bR,bN,be,br,aj,ak]) Ψ ?_;simp[aX,bR,bN,be,br];(with_reducible repeat' first|refine av ?_|simp);refine bU.whl (y,acc++32::dw x) (by show y.size<1+x.size+y.size;omega) ⟨oI.2,(by show y.size<=n;omega),by simp[e9]⟩ ?_;simp[nF,be,br];exact⟨by simp[fresh,aj,ak,bj,ag,Pv.look,kS],cg (by simp[fresh,aj,ak,bj,ag,Pv.look,kS]),ch (by simp[fresh,aj,ak,cc,ag,Pv.look,kS]),Ψ⟩
    |nil=>have kw:=jC (some acc) [41] Ψ (by simpa[e9]using aG);simp only[e9];simp[nF,be,br];(with_reducible repeat' first|refine av ?_|simp);refine bc.bd (o:=_) (kw) (by simp only[bR,bN,be,br];exact ai) (by simp only[bR,bN,be,br];exact ai) (by simp[ag,Pv.look,bR,bN,be,br,aj,ak]) Ψ ?_;simp[aX,bR,bN,be,br];refine bL.new (be (acc++[41])) Ψ (j3 _) (by simp[gE,be,ag,Pv.look]) (by simp only[be,br];exact ai) (by simp only[be,br];exact ai) ?_;simp[bV,nx,bg,bh,bf,be,br,ag,Pv.look,ak,aj]
    |var v=>
     have hz:acc.length+(3+((dw (T.var v)).length+1))<=bs:=by simp[e9,dw]at aG⊢;omega
     have kw:=jC (some acc) [32,46,32] Ψ (by simp;omega);have fD:=bp (T.var v) sl oI (some (acc++[32,46,32])) (by simp;omega);have fj:=jC (some (acc++[32,46,32]++dw (T.var v))) [41] Ψ (by simp;omega);have he:acc++e9 (T.var v)=acc++[32,46,32]++dw (T.var v)++[41]:=by simp[e9,dw]
     rw[he];simp[nF,be,br];(with_reducible repeat' first|refine av ?_|simp);refine bc.bd (o:=_) (kw) (by simp only[bR,bN,be,br];exact ai) (by simp only[bR,bN,be,br];exact ai) (by simp[ag,Pv.look,bR,bN,be,br,aj,ak]) Ψ ?_;simp[aX,bR,bN,be,br];(with_reducible repeat' first|refine av ?_|simp);refine bc.bd (o:=_) (fD) (by simp only[bR,bN,be,br];exact ai) (by simp only[bR,bN,be,br];exact ai) (by simp[ag,Pv.look,bR,bN,be,br,aj,ak]) Ψ ?_;simp[aX,bR,bN,be,br];(with_reducible repeat' first|refine av ?_|simp);refine bc.bd (o:=_) (fj) (by simp only[bR,bN,be,br];exact ai) (by simp only[bR,bN,be,br];exact ai) (by simp[ag,Pv.look,bR,bN,be,br,aj,ak]) Ψ ?_;simp[aX,bR,bN,be,br];refine bL.new (be (acc++[32,46,32]++dw (T.var v)++[41])) Ψ (j3 _) (by simp[gE,be,ag,Pv.look]) (by simp only[be,br];exact ai) (by simp only[be,br];exact ai) ?_;simp[bV,nx,bg,bh,bf,be,br,ag,Pv.look,ak,aj]
    |sym v=>
     have hz:acc.length+(3+((dw (T.sym v)).length+1))<=bs:=by simp[e9,dw]at aG⊢;omega
     have kw:=jC (some acc) [32,46,32] Ψ (by simp;omega);have fD:=bp (T.sym v) sl oI (some (acc++[32,46,32])) (by simp;omega);have fj:=jC (some (acc++[32,46,32]++dw (T.sym v))) [41] Ψ (by simp;omega);have he:acc++e9 (T.sym v)=acc++[32,46,32]++dw (T.sym v)++[41]:=by simp[e9,dw]
     rw[he];simp[nF,be,br];(with_reducible repeat' first|refine av ?_|simp);refine bc.bd (o:=_) (kw) (by simp only[bR,bN,be,br];exact ai) (by simp only[bR,bN,be,br];exact ai) (by simp[ag,Pv.look,bR,bN,be,br,aj,ak]) Ψ ?_;simp[aX,bR,bN,be,br];(with_reducible repeat' first|refine av ?_|simp);refine bc.bd (o:=_) (fD) (by simp only[bR,bN,be,br];exact ai) (by simp only[bR,bN,be,br];exact ai) (by simp[ag,Pv.look,bR,bN,be,br,aj,ak]) Ψ ?_;simp[aX,bR,bN,be,br];(with_reducible repeat' first|refine av ?_|simp);refine bc.bd (o:=_) (fj) (by simp only[bR,bN,be,br];exact ai) (by simp only[bR,bN,be,br];exact ai) (by simp[ag,Pv.look,bR,bN,be,br,aj,ak]) Ψ ?_;simp[aX,bR,bN,be,br];refine bL.new (be (acc++[32,46,32]++dw (T.sym v)++[41])) Ψ (j3 _) (by simp[gE,be,ag,Pv.look]) (by simp only[be,br];exact ai) (by simp only[be,br];exact ai) ?_;simp[bV,nx,bg,bh,bf,be,br,ag,Pv.look,ak,aj]
    |num v=>
     have hz:acc.length+(3+((dw (T.num v)).length+1))<=bs:=by simp[e9,dw]at aG⊢;omega
     have kw:=jC (some acc) [32,46,32] Ψ (by simp;omega);have fD:=bp (T.num v) sl oI (some (acc++[32,46,32])) (by simp;omega);have fj:=jC (some (acc++[32,46,32]++dw (T.num v))) [41] Ψ (by simp;omega);have he:acc++e9 (T.num v)=acc++[32,46,32]++dw (T.num v)++[41]:=by simp[e9,dw]
     rw[he];simp[nF,be,br];(with_reducible repeat' first|refine av ?_|simp);refine bc.bd (o:=_) (kw) (by simp only[bR,bN,be,br];exact ai) (by simp only[bR,bN,be,br];exact ai) (by simp[ag,Pv.look,bR,bN,be,br,aj,ak]) Ψ ?_;simp[aX,bR,bN,be,br];(with_reducible repeat' first|refine av ?_|simp);refine bc.bd (o:=_) (fD) (by simp only[bR,bN,be,br];exact ai) (by simp only[bR,bN,be,br];exact ai) (by simp[ag,Pv.look,bR,bN,be,br,aj,ak]) Ψ ?_;simp[aX,bR,bN,be,br];(with_reducible repeat' first|refine av ?_|simp);refine bc.bd (o:=_) (fj) (by simp only[bR,bN,be,br];exact ai) (by simp only[bR,bN,be,br];exact ai) (by simp[ag,Pv.look,bR,bN,be,br,aj,ak]) Ψ ?_;simp[aX,bR,bN,be,br];refine bL.new (be (acc++[32,46,32]++dw (T.num v)++[41])) Ψ (j3 _) (by simp[gE,be,ag,Pv.look]) (by simp only[be,br];exact ai) (by simp only[be,br];exact ai) ?_;simp[bV,nx,bg,bh,bf,be,br,ag,Pv.look,ak,aj]
   |some l=>
    have kw:=jC (some l) [40] Ψ (by simp at Ci⊢;omega);have CK:=E9 (some (l++[40])) (by simp at Ci⊢;omega);simp only[bR,bN,be,lV]at au⊢;refine bJ.mk mixed jZ tu tS Ψ au.obj fun aL bT=>?_;unfold rO;clear aL bT;simp[br];(with_reducible repeat' first|refine av ?_|simp);refine bc.bd (o:=_) (kw) (by simp only[bR,bN,be,br];exact ai) (by simp only[bR,bN,be,br];exact ai) (by simp[ag,Pv.look,bR,bN,be,br,aj,ak]) Ψ ?_;simp[aX,bR,bN,be,br];(with_reducible repeat' first|refine av ?_|simp);refine bc.bd (o:=_) (CK) (by simp only[bR,bN,be,br];exact ai) (by simp only[bR,bN,be,br];exact ai) (by simp[ag,Pv.look,bR,bN,be,br,aj,ak]) Ψ ?_;simp[aX,bR,bN,be,br];(with_reducible repeat' first|refine av ?_|simp);refine gf (fun x:T×List ah=>nF x.2 x.1) (fun x=>x.1.size) (fun x=>x.1.ok=true/\x.1.size<=n/\x.2++e9 x.1=G2) (b,l++40::dw a) (by simp[nF,be,br];exact⟨by simp[fresh,aj,ak,bj,ag,Pv.look,kS],cg (by simp[fresh,aj,ak,bj,ag,Pv.look,kS]),ch (by simp[fresh,aj,ak,cc,ag,Pv.look,kS]),Ψ⟩) ⟨dS.2,(by show b.size<=n;omega),by rw[hY];simp⟩ ?_;rintro⟨u,acc⟩ ⟨oI,sl,Cx⟩ qZ;clear qZ kw CK E9 hY Ci;simp only at oI sl Cx;subst Cx;cases u with
    |pair x y=>
     simp only[T.size]at sl;simp only[T.ok,bF]at oI;have hz:acc.length+(1+((dw x).length+(e9 y).length))<=bs:=by simpa[e9,Nat.add_comm 1]using aG
     have kw:=jC (some acc) [32] Ψ (by simp;omega);have fD:=bp x Ω oI.1 (some (acc++[32])) (by simp;omega);simp[nF,be,br];(with_reducible repeat' first|refine av ?_|simp);refine bc.bd (o:=_) (kw) (by simp only[bR,bN,be,br];exact ai) (by simp only[bR,bN,be,br];exact ai) (by simp[ag,Pv.look,bR,bN,be,br,aj,ak]) Ψ ?_;simp[aX,bR,bN,be,br];(with_reducible repeat' first|refine av ?_|simp);refine bc.bd (o:=_) (fD) (by simp only[bR,bN,be,br];exact ai) (by simp only[bR,bN,be,br];exact ai) (by simp[ag,Pv.look,bR,bN,be,br,aj,ak]) Ψ ?_;simp[aX,bR,bN,be,br];(with_reducible repeat' first|refine av ?_|simp);refine bU.whl (y,acc++32::dw x) (by show y.size<1+x.size+y.size;omega) ⟨oI.2,(by show y.size<=n;omega),by simp[e9]⟩ ?_;simp[nF,be,br];exact⟨by simp[fresh,aj,ak,bj,ag,Pv.look,kS],cg (by simp[fresh,aj,ak,bj,ag,Pv.look,kS]),ch (by simp[fresh,aj,ak,cc,ag,Pv.look,kS]),Ψ⟩
    |nil=>have kw:=jC (some acc) [41] Ψ (by simpa[e9]using aG);simp only[e9];simp[nF,be,br];(with_reducible repeat' first|refine av ?_|simp);refine bc.bd (o:=_) (kw) (by simp only[bR,bN,be,br];exact ai) (by simp only[bR,bN,be,br];exact ai) (by simp[ag,Pv.look,bR,bN,be,br,aj,ak]) Ψ ?_;simp[aX,bR,bN,be,br];refine bL.new (be (acc++[41])) Ψ (j3 _) (by simp[gE,be,ag,Pv.look]) (by simp only[be,br];exact ai) (by simp only[be,br];exact ai) ?_;simp[bV,nx,bg,bh,bf,be,br,ag,Pv.look,ak,aj]
    |var v=>
     have hz:acc.length+(3+((dw (T.var v)).length+1))<=bs:=by simp[e9,dw]at aG⊢;omega
     have kw:=jC (some acc) [32,46,32] Ψ (by simp;omega);have fD:=bp (T.var v) sl oI (some (acc++[32,46,32])) (by simp;omega);have fj:=jC (some (acc++[32,46,32]++dw (T.var v))) [41] Ψ (by simp;omega);have he:acc++e9 (T.var v)=acc++[32,46,32]++dw (T.var v)++[41]:=by simp[e9,dw]
     rw[he];simp[nF,be,br];(with_reducible repeat' first|refine av ?_|simp);refine bc.bd (o:=_) (kw) (by simp only[bR,bN,be,br];exact ai) (by simp only[bR,bN,be,br];exact ai) (by simp[ag,Pv.look,bR,bN,be,br,aj,ak]) Ψ ?_;simp[aX,bR,bN,be,br];(with_reducible repeat' first|refine av ?_|simp);refine bc.bd (o:=_) (fD) (by simp only[bR,bN,be,br];exact ai) (by simp only[bR,bN,be,br];exact ai) (by simp[ag,Pv.look,bR,bN,be,br,aj,ak]) Ψ ?_;simp[aX,bR,bN,be,br];(with_reducible repeat' first|refine av ?_|simp);refine bc.bd (o:=_) (fj) (by simp only[bR,bN,be,br];exact ai) (by simp only[bR,bN,be,br];exact ai) (by simp[ag,Pv.look,bR,bN,be,br,aj,ak]) Ψ ?_;simp[aX,bR,bN,be,br];refine bL.new (be (acc++[32,46,32]++dw (T.var v)++[41])) Ψ (j3 _) (by simp[gE,be,ag,Pv.look]) (by simp only[be,br];exact ai) (by simp only[be,br];exact ai) ?_;simp[bV,nx,bg,bh,bf,be,br,ag,Pv.look,ak,aj]
    |sym v=>
     have hz:acc.length+(3+((dw (T.sym v)).length+1))<=bs:=by simp[e9,dw]at aG⊢;omega
     have kw:=jC (some acc) [32,46,32] Ψ (by simp;omega);have fD:=bp (T.sym v) sl oI (some (acc++[32,46,32])) (by simp;omega);have fj:=jC (some (acc++[32,46,32]++dw (T.sym v))) [41] Ψ (by simp;omega);have he:acc++e9 (T.sym v)=acc++[32,46,32]++dw (T.sym v)++[41]:=by simp[e9,dw]
     rw[he];simp[nF,be,br];(with_reducible repeat' first|refine av ?_|simp);refine bc.bd (o:=_) (kw) (by simp only[bR,bN,be,br];exact ai) (by simp only[bR,bN,be,br];exact ai) (by simp[ag,Pv.look,bR,bN,be,br,aj,ak]) Ψ ?_;simp[aX,bR,bN,be,br];(with_reducible repeat' first|refine av ?_|simp);refine bc.bd (o:=_) (fD) (by simp only[bR,bN,be,br];exact ai) (by simp only[bR,bN,be,br];exact ai) (by simp[ag,Pv.look,bR,bN,be,br,aj,ak]) Ψ ?_;simp[aX,bR,bN,be,br];(with_reducible repeat' first|refine av ?_|simp);refine bc.bd (o:=_) (fj) (by simp only[bR,bN,be,br];exact ai) (by simp only[bR,bN,be,br];exact ai) (by simp[ag,Pv.look,bR,bN,be,br,aj,ak]) Ψ ?_;simp[aX,bR,bN,be,br];refine bL.new (be (acc++[32,46,32]++dw (T.sym v)++[41])) Ψ (j3 _) (by simp[gE,be,ag,Pv.look]) (by simp only[be,br];exact ai) (by simp only[be,br];exact ai) ?_;simp[bV,nx,bg,bh,bf,be,br,ag,Pv.look,ak,aj]
    |num v=>
     have hz:acc.length+(3+((dw (T.num v)).length+1))<=bs:=by simp[e9,dw]at aG⊢;omega
     have kw:=jC (some acc) [32,46,32] Ψ (by simp;omega);have fD:=bp (T.num v) sl oI (some (acc++[32,46,32])) (by simp;omega);have fj:=jC (some (acc++[32,46,32]++dw (T.num v))) [41] Ψ (by simp;omega);have he:acc++e9 (T.num v)=acc++[32,46,32]++dw (T.num v)++[41]:=by simp[e9,dw]
     rw[he];simp[nF,be,br];(with_reducible repeat' first|refine av ?_|simp);refine bc.bd (o:=_) (kw) (by simp only[bR,bN,be,br];exact ai) (by simp only[bR,bN,be,br];exact ai) (by simp[ag,Pv.look,bR,bN,be,br,aj,ak]) Ψ ?_;simp[aX,bR,bN,be,br];(with_reducible repeat' first|refine av ?_|simp);refine bc.bd (o:=_) (fD) (by simp only[bR,bN,be,br];exact ai) (by simp only[bR,bN,be,br];exact ai) (by simp[ag,Pv.look,bR,bN,be,br,aj,ak]) Ψ ?_;simp[aX,bR,bN,be,br];(with_reducible repeat' first|refine av ?_|simp);refine bc.bd (o:=_) (fj) (by simp only[bR,bN,be,br];exact ai) (by simp only[bR,bN,be,br];exact ai) (by simp[ag,Pv.look,bR,bN,be,br,aj,ak]) Ψ ?_;simp[aX,bR,bN,be,br];refine bL.new (be (acc++[32,46,32]++dw (T.num v)++[41])) Ψ (j3 _) (by simp[gE,be,ag,Pv.look]) (by simp only[be,br];exact ai) (by simp only[be,br];exact ai) ?_;simp[bV,nx,bg,bh,bf,be,br,ag,Pv.look,ak,aj]
end
end Go.Proofs.YtlnndmgfngfeiaaGreatDoor
namespace Go.Pv
section
open Go Go.Lib
inductive Gm where
 |mk (kind:Int) (name:List ah) (ts:List aV) (gs:List Gm)
 deriving Inhabited
def Gm.kind:Gm->Int| .mk k _ _ _=>k
def Gm.name:Gm->List ah| .mk _ s _ _=>s
def Gm.ts:Gm->List aV| .mk _ _ t _=>t
def Gm.gs:Gm->List Gm| .mk _ _ _ g=>g
mutual
def vZ:Gm->al
 | .mk k s t g=>.agg [.int .i64 k,.str s,.slice 4 .no (t.map enc),.slice 4 .no (rY g)]
def rY:List Gm->List al
 |[]=>[]
 |x::xs=>vZ x::rY xs
end
def Gm.e(g:Gm):al:=vZ g
theorem EH:∀l,rY l=l.map Gm.e
 |[]=>rfl
 |x::xs=>by simp[rY,EH xs,Gm.e]
theorem Gm.e_eq(g:Gm):g.e= .agg [.int .i64 g.kind,.str g.name,.slice 4 .no (g.ts.map enc),.slice 4 .no (g.gs.map Gm.e)]:=by cases g;simp[Gm.e,vZ,EH,Gm.kind,Gm.name,Gm.ts,Gm.gs]
mutual
theorem Sh(S:aO->Prop):∀g:Gm,ak S (vZ g)
 | .mk k s t g=>by simp[vZ,ak,aj,J9 S g]
theorem J9(S:aO->Prop):∀l:List Gm,aj S (rY l)
 |[]=>by simp[rY,aj]
 |x::xs=>by simp[rY,aj,Sh S x,J9 S xs]
end
mutual
theorem Va:∀g:Gm,cm (vZ g)=vZ g
 | .mk k s t g=>by simp[vZ,cm,ca,LO g]
theorem LO:∀l:List Gm,ca (rY l)=rY l
 |[]=>by simp[rY,ca]
 |x::xs=>by simp[rY,ca,Va x,LO xs]
end
@[simp]theorem alj(S:aO->Prop)(g:Gm):ak S g.e=True:=eq_true (Sh S g)
@[simp]theorem ad0(S:aO->Prop)(l:List Gm):aj S (l.map Gm.e)=True:=by rw[<-EH];exact eq_true (J9 S l)
@[simp]theorem amy(g:Gm):cm g.e=g.e:=Va g
@[simp]theorem U8(l:List Gm):ca (l.map Gm.e)=l.map Gm.e:=by rw[<-EH];exact LO l
@[simp]theorem amh(g:Gm):eG g.e=true:=by rw[Gm.e_eq];rfl
@[simp]theorem ajJ(g:Gm):cells g.e=[.int .i64 g.kind,.str g.name,.slice 4 .no (g.ts.map enc),.slice 4 .no (g.gs.map Gm.e)]:=by rw[Gm.e_eq];rfl
@[simp]theorem ai2(g:Gm):al.agg [.int .i64 g.kind,.str g.name,.slice 4 .no (g.ts.map enc),.slice 4 .no (g.gs.map Gm.e)]=g.e:=(Gm.e_eq g).symm
@[simp]theorem aka(off:Nat)(eJ:Bool)(sz:Nat)(g:Gm):ov off eJ sz (.eptr g.e)=if eJ then some (off+sz<=4,.eptr (.agg (([.int .i64 g.kind,.str g.name,.slice 4 .no (g.ts.map enc),.slice 4 .no (g.gs.map Gm.e)].drop off).take sz)))else(([.int .i64 g.kind,.str g.name,.slice 4 .no (g.ts.map enc),.slice 4 .no (g.gs.map Gm.e)]:List al)[off]?).map fun p=>(eG p=true/\cells p=[p],.eptr p):=by rw[Gm.e_eq];rfl
@[simp]theorem ak5(g:Gm):Pv.isAgg 4 g.e:=by rw[Gm.e_eq];exact⟨_,rfl,rfl⟩
def hb:List ah:=[116,114,117,101]
def hQ:List ah:=[102,97,105,108]
def sW:List ah:=[61]
def sV:List ah:=[47,61]
def pO:List ah:=[115,121,109,98,111,108]
def pM:List ah:=[110,117,109,98,101,114]
def pJ:List ah:=[97,98,115,101,110,116]
def pK:List ah:=[97,110,100]
def pN:List ah:=[111,114]
def pL:List ah:=[110,111,116]
def ha:List ah:=[100,101,102,105,110,101]
def hN:List (List ah):=[hb,hQ,pO,pM,pJ,pK,pN,pL,ha]
def eS(s:List ah):Bool:= !hN.contains s&&fA s
def lb(k:Int):Int:=if k=2 then 2 else if k=3 then 2 else if k=4 then 1 else if k=5 then 1 else if k=6 then 2 else 0
mutual
def Gm.sz:Gm->Nat
 | .mk _ _ _ g=>1+jQ g
def jQ:List Gm->Nat
 |[]=>0
 |x::xs=>x.sz+jQ xs
end
theorem Qu{x:Gm}:∀{l:List Gm},x∈l->x.sz<=jQ l
 |[],h=>by simp at h
 |y::l,h=>by
  simp only[jQ];rcases gb.1 h with rfl|h
  ·omega
  ·have:=Qu h;omega
theorem Gm.gs_lt{g x:Gm}(h:x∈g.gs):x.sz<g.sz:=by
 cases g with
 |mk k s t gs=>have:=Qu (l:=gs) h;simp only[Gm.sz];omega
theorem Gm.sz_pos(g:Gm):1<=g.sz:=by cases g;simp[Gm.sz]
mutual
def Gm.shape:Gm->Bool
 | .mk k s t g=>t.all aV.fits&&(
  if 0<=k/\k<=6 then s==[]&&g.isEmpty&&decide ((t.length:Int)=lb k)&&(k !=6||(match t with|x::_=>decide (x.kind=2)|[]=>false))
  else if k=9 then eS s&&g.isEmpty&&decide (t.length<=4)
  else if k=7\/k=8 then s==[]&&t.isEmpty&&decide (g.length<=8)&&hO g
  else if k=10 then s==[]&&t.isEmpty&&(match g with|[x]=>decide (x.kind=9)|_=>false)&&hO g
  else false)
def hO:List Gm->Bool
 |[]=>true
 |x::xs=>x.shape&&hO xs
end
def Gm.fits(n:Nat)(g:Gm):Bool:=g.shape&&decide (g.sz<=n)
def mC(w:List ah):a1 Int:=if w=sW then some 2 else if w=sV then some 3 else if w=pO then some 4 else if w=pM then some 5 else if w=pJ then some 6 else if w=pK then some 7 else if w=pN then some 8 else if w=pL then some 10 else none
def jU(k:Int):Bool:=k==7||k==8||k==10
mutual
def ed(tr:List (List ah)->a1 (T×List (List ah)))(aP:List ah->a1 (Int×List ah)):Nat->List (List ah)->a1 (Gm×List (List ah))
 |0,_=>none
 |_+1,[]=>none
 |n+1,w::r=>if w=hb then some (.mk 0 [] [] [],r)else if w=hQ then some (.mk 1 [] [] [],r)
  else if w=[40]then(match r with
   |[]=>none
   |h::dh=>match aP h with
    |some (k,s)=>eh tr aP n k s [] [] dh
    |none=>none)
  else none
def eh(tr:List (List ah)->a1 (T×List (List ah)))(aP:List ah->a1 (Int×List ah)):Nat->Int->List ah->List T->List Gm->List (List ah)->a1 (Gm×List (List ah))
 |0,_,_,_,_,_=>none
 |_+1,_,_,_,_,[]=>none
 |n+1,k,s,ts,gs,w::r=>if w=[41]then(if 1<k then some (.mk k s (ts.map T.tm) gs,r)else none)
  else if jU k then(match ed tr aP n (w::r)with
   |some (g,dh)=>eh tr aP n k s ts (gs++[g]) dh
   |none=>none)
  else match tr (w::r)with
   |some (t,dh)=>eh tr aP n k s (ts++[t]) gs dh
   |none=>none
end
def G4(tr:List (List ah)->a1 (T×List (List ah))):Prop:= ∀l t r,tr l=some (t,r)->r<:+l/\r.length<l.length
mutual
theorem yx{tr:List (List ah)->a1 (T×List (List ah))}(aI:G4 tr){aP:List ah->a1 (Int×List ah)}:∀(n:Nat) (l:List (List ah)) (g:Gm) (r:List (List ah)),ed tr aP n l=some (g,r)->r<:+l/\r.length<l.length
 |0,_,_,_,h=>by simp[ed]at h
 |_+1,[],_,_,h=>by simp[ed]at h
 |n+1,w::l,g,r,h=>by
  simp only[ed]at h;split at h
  ·cases h;exact⟨List.suffix_cons _ _,Ψ⟩
  ·split at h
   ·cases h;exact⟨List.suffix_cons _ _,Ψ⟩
   ·split at h
    ·split at h
     ·cases h
     ·split at h
      ·obtain⟨I,J⟩:=K8 aI n _ _ _ _ _ g r h;exact⟨(I.trans (List.suffix_cons _ _)).trans (List.suffix_cons _ _),by simp;omega⟩
      ·cases h
    ·cases h
theorem K8{tr:List (List ah)->a1 (T×List (List ah))}(aI:G4 tr){aP:List ah->a1 (Int×List ah)}:∀(n:Nat) (k:Int) (s:List ah) (ts:List T) (gs:List Gm) (l:List (List ah)) (g:Gm) (r:List (List ah)),eh tr aP n k s ts gs l=some (g,r)->r<:+l/\r.length<l.length
 |0,_,_,_,_,_,_,_,h=>by simp[eh]at h
 |_+1,_,_,_,_,[],_,_,h=>by simp[eh]at h
 |n+1,k,s,ts,gs,w::l,g,r,h=>by
  simp only[eh]at h;split at h
  ·split at h
   ·cases h;exact⟨List.suffix_cons _ _,Ψ⟩
   ·cases h
  ·split at h
   ·split at h
    ·rename_i x dh hr;obtain⟨I,J⟩:=yx aI n (w::l) x dh hr;obtain⟨aA,aS⟩:=K8 aI n _ _ _ _ _ g r h;exact⟨aA.trans I,Ω⟩
    ·cases h
   ·split at h
    ·rename_i x dh hr;obtain⟨I,J⟩:=aI (w::l) x dh hr;obtain⟨aA,aS⟩:=K8 aI n _ _ _ _ _ g r h;exact⟨aA.trans I,Ω⟩
    ·cases h
end
def hS(w:List ah):a1 T:=match fs w with
 |some t=>if t.ok then some t else none
 |none=>none
theorem CV:∀(a:List T) (t:T),(gi a t).ok=(a.all T.ok&&t.ok)
 |[],t=>by simp[gi]
 |x::r,t=>by simp[gi,T.ok,CV r t,Bool.and_assoc]
theorem RN:∀(n:Nat) (l:List (List ah)) (acc:List T) (t:T) (r:List (List ah)),b5 fs n l acc=some (t,r)->t.ok=true->acc.all T.ok=true
 |0,_,_,_,_,h,_=>by simp[b5]at h
 |_+1,[],_,_,_,h,_=>by simp[b5]at h
 |n+1,w::l,acc,t,r,h,az=>by
  simp only[b5]at h;split at h
  ·cases h;rw[CV]at az;simp only[bF]at az;exact az.1
  ·split at h
   ·split at h
    ·cases h
    ·split at h
     ·split at h
      ·cases h;rw[CV]at az;simp only[bF]at az;exact az.1
      ·cases h
     ·cases h
   ·split at h
    ·have:=RN n _ _ t r h az;simp only[List.all_append,bF]at this;exact this.1
    ·cases h
def oQ:a1 (T×List (List ah))->a1 (T×List (List ah))
 |some (t,r)=>if t.ok then some (t,r)else none
 |none=>none
mutual
theorem GB:∀(n:Nat) (l:List (List ah)),rd hS n l=oQ (rd fs n l)
 |0,_=>by simp[rd,oQ]
 |_+1,[]=>by simp[rd,oQ]
 |n+1,w::l=>by
  simp only[rd];split
  ·exact RO n l [] rfl
  ·split
   ·rfl
   ·unfold hS;cases fs w with
    |none=>rfl
    |some t=>by_cases h:t.ok=true<;>simp[oQ,h]
theorem RO:∀(n:Nat) (l:List (List ah)) (acc:List T),acc.all T.ok=true->b5 hS n l acc=oQ (b5 fs n l acc)
 |0,_,_,_=>by simp[b5,oQ]
 |_+1,[],_,_=>by simp[b5,oQ]
 |n+1,w::l,acc,bM=>by
  simp only[b5];split
  ·simp[oQ,CV,bM,T.ok]
  ·split
   ·split
    ·rfl
    ·rw[GB n l];cases hr:rd fs n l with
     |none=>rfl
     |some x=>
      obtain⟨t,r⟩:=x;cases r with
      |nil=>by_cases h:t.ok=true<;>simp[oQ,h]
      |cons v dh=>by_cases h:t.ok=true<;>by_cases aK:v=[41]<;>simp[oQ,h,aK,CV,bM]
   ·rw[GB n (w::l)];cases hr:rd fs n (w::l)with
    |none=>rfl
    |some x=>
     obtain⟨t,r⟩:=x;by_cases h:t.ok=true
     ·simp only[oQ,h,if_true];exact RO n r _ (by simp[bM,h])
     ·simp only[oQ,h,kE,if_false];cases aE:b5 fs n r (acc++[t])with
      |none=>rfl
      |some y=>
       obtain⟨u,e3⟩:=y;by_cases hu:u.ok=true
       ·have:=RN n r _ u e3 aE hu;simp at this;exact absurd this.2 h
       ·simp[oQ,hu]
end
def er(l:List (List ah)):a1 (T×List (List ah)):=match rd fs (2*l.length+1) l with
 |some (t,r)=>if t.fit then some (t,r)else none
 |none=>none
def jw(l:List (List ah)):a1 (T×List (List ah)):=rd hS (2*l.length+1) l
theorem p4{t:T}(h:t.fit=true):t.ok=true:=by unfold T.fit at h;simp only[bF]at h;exact h.1
theorem ahN{l:List (List ah)}{t:T}{r:List (List ah)}(h:er l=some (t,r)):jw l=some (t,r)/\t.fit=true:=by
 unfold er at h;unfold jw;rw[GB];cases hr:rd fs (2*l.length+1) l with
 |none=>rw[hr]at h;cases h
 |some x=>
  obtain⟨u,dh⟩:=x;rw[hr]at h;simp only at h;split at h
  ·rename_i aY;cases h;simp[oQ,p4 aY,aY]
  ·cases h
theorem ahQ{l:List (List ah)}{t:T}{r:List (List ah)}(h:jw l=some (t,r))(aY:t.fit=true):er l=some (t,r):=by
 unfold jw at h;unfold er;rw[GB]at h;cases hr:rd fs (2*l.length+1) l with
 |none=>rw[hr]at h;cases h
 |some x=>
  obtain⟨u,dh⟩:=x;rw[hr]at h;simp only[oQ]at h;split at h
  ·cases h;simp[aY]
  ·cases h
theorem G3:G4 er:=fun l t r h=>by
 unfold er at h;split at h
 ·rename_i x y hr;split at h
  ·cases h;exact tX _ _ _ _ hr
  ·cases h
 ·cases h
theorem DE:G4 jw:=fun l t r h=>tX _ _ _ _ h
def eY(h:List ah):a1 (Int×List ah):=match mC h with
 |some k=>some (k,[])
 |none=>if eS h then some (9,h)else none
def hdS(h:List ah):a1 (Int×List ah):=if h=hb then some (0,[])else if h=hQ then some (1,[])else match mC h with
 |some k=>some (k,[])
 |none=>some (9,h)
theorem abY{h:List ah}{x:Int×List ah}(e:eY h=some x):hdS h=some x:=by
 unfold eY at e;unfold hdS;have I:h≠hb:=by rintro rfl;revert e;simp[mC,hb,sW,sV,pO,pM,pJ,pK,pN,pL,eS,hN]
 have J:h≠hQ:=by rintro rfl;revert e;simp[mC,hQ,sW,sV,pO,pM,pJ,pK,pN,pL,eS,hN,hb]
 rw[bo I,bo J];cases aa:mC h with
 |some k=>rw[aa]at e;exact e
 |none=>
  rw[aa]at e;simp only at e⊢;split at e
  ·exact e
  ·cases e
mutual
theorem Ug:∀(n:Nat) (l:List (List ah)) (g:Gm) (r:List (List ah)),ed er eY n l=some (g,r)->ed jw hdS n l=some (g,r)
 |0,_,_,_,h=>by simp[ed]at h
 |_+1,[],_,_,h=>by simp[ed]at h
 |n+1,w::l,g,r,h=>by
  simp only[ed]at h⊢;split at h
  ·rename_i e;rw[bP e];exact h
  ·rename_i aB;rw[bo aB];split at h
   ·rename_i e;rw[bP e];exact h
   ·rename_i aU;rw[bo aU];split at h
    ·rename_i b1;rw[bP b1];cases l with
     |nil=>exact h
     |cons v l=>
      simp only at h⊢;cases bX:eY v with
      |none=>rw[bX]at h;cases h
      |some x=>obtain⟨k,s⟩:=x;rw[bX]at h;rw[abY bX];exact K5 n k s [] [] l g r h
    ·cases h
theorem K5:∀(n:Nat) (k:Int) (s:List ah) (ts:List T) (gs:List Gm) (l:List (List ah)) (g:Gm) (r:List (List ah)),eh er eY n k s ts gs l=some (g,r)->eh jw hdS n k s ts gs l=some (g,r)
 |0,_,_,_,_,_,_,_,h=>by simp[eh]at h
 |_+1,_,_,_,_,[],_,_,h=>by simp[eh]at h
 |n+1,k,s,ts,gs,w::l,g,r,h=>by
  simp only[eh]at h⊢;split at h
  ·rename_i e;rw[bP e];exact h
  ·rename_i e;rw[bo e];split at h
   ·rename_i aJ;rw[bP aJ];cases hr:ed er eY n (w::l)with
    |none=>rw[hr]at h;cases h
    |some x=>obtain⟨eP,dh⟩:=x;rw[hr]at h;rw[Ug n _ _ _ hr];exact K5 n k s ts _ dh g r h
   ·rename_i aJ;rw[bo aJ];cases hr:er (w::l)with
    |none=>rw[hr]at h;cases h
    |some x=>obtain⟨eH,dh⟩:=x;rw[hr]at h;rw[(ahN hr).1];exact K5 n k s _ gs dh g r h
end
theorem Dk{tr:List (List ah)->a1 (T×List (List ah))}{aP:List ah->a1 (Int×List ah)}:∀(n:Nat) (k:Int) (s:List ah) (ts:List T) (gs:List Gm) (l:List (List ah)) (g:Gm) (r:List (List ah)),eh tr aP n k s ts gs l=some (g,r)->
  g.kind=k/\1<k/\g.name=s/\(∀t∈ts,t.tm∈g.ts)/\∀x∈gs,x∈g.gs
 |0,_,_,_,_,_,_,_,h=>by simp[eh]at h
 |_+1,_,_,_,_,[],_,_,h=>by simp[eh]at h
 |n+1,k,s,ts,gs,w::l,g,r,h=>by
  simp only[eh]at h;split at h
  ·split at h
   ·rename_i aa;cases h;exact⟨rfl,aa,rfl,fun t aI=>List.mem_map_of_mem aI,fun x ad=>ad⟩
   ·cases h
  ·split at h
   ·split at h
    ·obtain⟨I,J,aA,aS,bG⟩:=Dk n k s ts _ _ g r h;exact⟨I,J,aA,aS,fun x ad=>bG x (by simp[ad])⟩
    ·cases h
   ·split at h
    ·obtain⟨I,J,aA,aS,bG⟩:=Dk n k s _ gs _ g r h;exact⟨I,J,aA,fun t aI=>aS t (by simp[aI]),bG⟩
    ·cases h
theorem LF:∀{l:List Gm},hO l=true->∀x∈l,x.shape=true
 |[],_,x,h=>by simp at h
 |y::l,h,x,ad=>by
  simp only[hO,bF]at h;rcases gb.1 ad with rfl|ad
  ·exact h.1
  ·exact LF h.2 x ad
theorem ua{g:Gm}(h:g.shape=true):∀t∈g.ts,t.fits=true:=by
 cases g with
 |mk k s ts gs=>simp only[Gm.shape,bF,hq]at h;exact h.1
theorem sI{g:Gm}(h:g.shape=true)(aa:jU g.kind=true):∀x∈g.gs,x.shape=true:=by
 cases g with
 |mk k s ts gs=>
  have aa:(k=7\/k=8)\/k=10:=by simpa[jU,Gm.kind]using aa
  simp only[Gm.shape,bF]at h;have J:=h.2;rw[bo Ω,bo Ω]at J;split at J
  ·simp only[bF]at J;exact LF J.2
  ·rw[bP Ω]at J;simp only[bF]at J;exact LF J.2
theorem LG{g:Gm}(h:g.shape=true)(aa:g.kind=9):eS g.name=true:=by
 cases g with
 |mk k s ts gs=>simp only[Gm.kind]at aa;subst aa;simp only[Gm.shape,bF]at h;have J:=h.2;simp at J;exact J.1.1
mutual
theorem Uh:∀(n:Nat) (l:List (List ah)) (g:Gm) (r:List (List ah)),ed jw hdS n l=some (g,r)->g.shape=true->ed er eY n l=some (g,r)
 |0,_,_,_,h,_=>by simp[ed]at h
 |_+1,[],_,_,h,_=>by simp[ed]at h
 |n+1,w::l,g,r,h,aR=>by
  simp only[ed]at h⊢;split at h
  ·rename_i e;rw[bP e];exact h
  ·rename_i aB;rw[bo aB];split at h
   ·rename_i e;rw[bP e];exact h
   ·rename_i aU;rw[bo aU];split at h
    ·rename_i b1;rw[bP b1];cases l with
     |nil=>exact h
     |cons v l=>
      simp only at h⊢;cases bX:hdS v with
      |none=>rw[bX]at h;cases h
      |some x=>
       obtain⟨k,s⟩:=x;rw[bX]at h;simp only at h;obtain⟨m1,m2,m3,_⟩:=Dk n k s [] [] l g r h;have aE:eY v=some (k,s):=by
        unfold hdS at bX;unfold eY;split at bX
        ·cases bX;omega
        ·split at bX
         ·cases bX;omega
         ·cases aa:mC v with
          |some bz=>rw[aa]at bX;exact bX
          |none=>rw[aa]at bX;cases bX;have:=LG aR m1;rw[m3]at this;simp[this]
       rw[aE];exact K6 n k s [] [] l g r h aR
    ·cases h
theorem K6:∀(n:Nat) (k:Int) (s:List ah) (ts:List T) (gs:List Gm) (l:List (List ah)) (g:Gm) (r:List (List ah)),eh jw hdS n k s ts gs l=some (g,r)->g.shape=true->eh er eY n k s ts gs l=some (g,r)
 |0,_,_,_,_,_,_,_,h,_=>by simp[eh]at h
 |_+1,_,_,_,_,[],_,_,h,_=>by simp[eh]at h
 |n+1,k,s,ts,gs,w::l,g,r,h,aR=>by
  simp only[eh]at h⊢;split at h
  ·rename_i e;rw[bP e];exact h
  ·rename_i e;rw[bo e];split at h
   ·rename_i aJ;rw[bP aJ];cases hr:ed jw hdS n (w::l)with
    |none=>rw[hr]at h;cases h
    |some x=>obtain⟨eP,dh⟩:=x;rw[hr]at h;simp only at h;obtain⟨m1,_,_,_,m5⟩:=Dk n k s ts _ dh g r h;rw[Uh n _ _ _ hr (sI aR (by rw[m1];exact aJ) eP (m5 eP Ψ))];exact K6 n k s ts _ dh g r h aR
   ·rename_i aJ;rw[bo aJ];cases hr:jw (w::l)with
    |none=>rw[hr]at h;cases h
    |some x=>obtain⟨eH,dh⟩:=x;rw[hr]at h;simp only at h;obtain⟨_,_,_,m4,_⟩:=Dk n k s _ gs dh g r h;have aY:=ua aR _ (m4 eH Ψ);rw[aV.fits_T]at aY;rw[ahQ hr aY];exact K6 n k s _ gs dh g r h aR
end
def Aq(s:List ah):a1 Gm:=match gG s with
 |none=>none
 |some l=>match ed er eY (2*l.length+1) l with
  |some (g,[])=>if g.fits 80 then some g else none
  |_=>none
theorem G0:∀{a b:T},a.tm=b.tm->a=b:=by
 intro a;induction a with
 |nil=>intro b h;cases b<;>simp[T.tm]at h⊢
 |var n=>intro b h;cases b<;>simp[T.tm]at h⊢;exact h
 |sym s=>intro b h;cases b<;>simp[T.tm]at h⊢;exact h
 |num n=>intro b h;cases b<;>simp[T.tm]at h⊢;exact h
 |pair x y JY JZ=>intro b h;cases b<;>simp[T.tm]at h⊢;exact⟨JY h.1,JZ h.2⟩
open Classical in
noncomputable def iu(t:aV):List ah:=if h:∃x:T,x.tm=t then dw (Classical.choose h)else []
theorem GY(x:T):iu x.tm=dw x:=by have h:∃y:T,y.tm=x.tm:=⟨x,rfl⟩;unfold iu;rw[dif_pos h,G0 (Classical.choose_spec h)]
def fK(b:List ah):List (List ah)->List ah
 |[]=>[]
 |[x]=>x
 |x::y::r=>x++b++fK b (y::r)
theorem R0(b:List ah)(x:List ah):∀l:List (List ah),l≠[]->fK b (l++[x])=fK b l++b++x
 |[],h=>absurd rfl h
 |[y],_=>by simp[fK]
 |y::z::r,_=>by have:=R0 b x (z::r) Ψ;simp only[ds,fK]at this⊢;rw[this];simp
theorem adV(b:List ah)(l:List (List ah)){k:Nat}{x:List ah}(h:l[k]? =some x):fK b (l.take (k+1))=if k=0 then x else fK b (l.take k)++b++x:=by
 have aa:=(eV.1 h).1;have aI:l.take (k+1)=l.take k++[x]:=by rw[kV,h];rfl
 rw[aI];by_cases bK:k=0
 ·subst bK;simp[fK]
 ·rw[bo bK,R0];intro e;have:=dZ List.length e;rw[n7]at this;simp only[mh]at this;omega
def h0(k:Int):List ah:=if k=0 then hb else if k=1 then hQ else if k=2 then sW else if k=3 then sV else if k=4 then pO else if k=5 then pM else if k=6 then pJ else if k=7 then pK else if k=8 then pN else if k=10 then pL else []
mutual
noncomputable def ff:Gm->List ah
 | .mk k s t g=>if k=0\/k=1 then h0 k else 40::(fK [32] ((if k=9 then s else h0 k)::(t.map iu++p3 g))++[41])
noncomputable def p3:List Gm->List (List ah)
 |[]=>[]
 |x::xs=>ff x::p3 xs
end
theorem Ew:∀l,p3 l=l.map ff
 |[]=>rfl
 |x::xs=>by simp[p3,Ew xs]
theorem zl(g:Gm):ff g=if g.kind=0\/g.kind=1 then h0 g.kind else 40::(fK [32] ((if g.kind=9 then g.name else h0 g.kind)::(g.ts.map iu++g.gs.map ff))++[41]):=by cases g;rw[ff,Ew];rfl
theorem Vq{t:T}(h:t.fit=true)(r:List (List ah)):er (fF t++r)=some (t,r):=by unfold er;rw[Dl t r _ (p4 h) (by simp;omega)];simp[h]
theorem L1:∀(l:List (List ah)) (w:List ah->List (List ah)) (r:List ah),(∀x∈l,∀r,im r->dp (x++r)=w x++dp r)->im r->l≠[]->dp (fK [32] l++r)=l.flatMap w++dp r
 |[],_,_,_,_,h=>absurd rfl h
 |[x],w,r,ad,he,_=>by simpa[fK]using ad x Ψ r he
 |x::y::l,w,r,ad,he,_=>by have bp:=L1 (y::l) w r (fun z cp=>ad z (by simp only[gb]at cp⊢;exact .inr cp)) he Ψ;simp only[fK,iI,List.singleton_append,ds];rw[ad x Ψ _ (by simp[im,jN]),yO];simp only[eW];rw[bp];simp
theorem V0{v:Int}(h:0<=v/\v<=100000):(T.var v).fit=true:=by unfold T.fit T.ok T.size;simp[h]
def fv(w:List ah):Int:=if w=[40]then 1 else if w=[41]then-1 else 0
def ej:List (List ah)->Int
 |[]=>0
 |w::r=>fv w+ej r
theorem vV:∀(a b:List (List ah)),ej (a++b)=ej a+ej b
 |[],b=>by simp[ej]
 |w::a,b=>by simp only[ds,ej,vV a b];omega
def p5(p:List (List ah)):Prop:=p≠[]/\ej p=0/\∀k,0<k->k<p.length->0<ej (p.take k)
def mo(p:List (List ah)):Prop:=ej p= -1/\∀k,k<p.length->0<=ej (p.take k)
theorem tB{w:List ah}(I:w≠[40])(J:w≠[41]):p5 [w]:=by refine⟨Ψ,by simp[ej,fv,I,J],fun k aA aS=>?_⟩;simp at aS;omega
theorem ze{p:List (List ah)}(h:mo p):p5 ([40]::p):=by refine⟨Ψ,by simp only[ej,h.1];rfl,fun k I J=>?_⟩;obtain⟨k,rfl⟩:∃j,k=j+1:=⟨k-1,Ω⟩;have:=h.2 k (by simpa using J);simp only[rI,ej];have:fv [40]=1:=rfl;omega
theorem abm{p:List (List ah)}(h:p5 p)(k:Nat):0<=ej (p.take k):=by
 rcases Nat.eq_zero_or_pos k with rfl|aa
 ·simp[ej]
 ·by_cases aG:k<p.length
  ·have:=h.2.2 k aa aG;omega
  ·rw[rH Ω,h.2.1];exact Int.le_refl _
theorem oz{p q:List (List ah)}(h:p5 p)(bA:mo q):mo (p++q):=by
 refine⟨by rw[vV,h.2.1,bA.1];rfl,fun k aa=>?_⟩;rw[List.take_append,vV];have I:=abm h k;by_cases aG:k<=p.length
 ·rw[show k-p.length=0 by omega];simp[ej];exact I
 ·have e:p.take k=p:=rH Ω;rw[e,h.2.1];have:=bA.2 (k-p.length) (by simp at aa;omega);omega
theorem zd:mo [[41]]:=⟨rfl,fun k aa=>by
 have:k=0:=by simp at aa;omega
 subst this;simp[ej]⟩
mutual
theorem Lb{at':List ah->a1 T}:∀(n:Nat) (l:List (List ah)) (t:T) (r:List (List ah)),rd at' n l=some (t,r)->∃p,l=p++r/\p5 p
 |0,_,_,_,h=>by simp[rd]at h
 |_+1,[],_,_,h=>by simp[rd]at h
 |n+1,w::l,t,r,h=>by
  simp only[rd]at h;split at h
  ·rename_i e;obtain⟨p,I,J⟩:=RP n l [] t r h;exact⟨[40]::p,by rw[e,I];rfl,ze J⟩
  ·rename_i aB;split at h
   ·cases h
   ·rename_i aU;cases bM:at' w with
    |none=>rw[bM]at h;cases h
    |some x=>rw[bM]at h;cases h;exact⟨[w],rfl,tB aB fun e=>aU (.inl e)⟩
theorem RP{at':List ah->a1 T}:∀(n:Nat) (l:List (List ah)) (acc:List T) (t:T) (r:List (List ah)),b5 at' n l acc=some (t,r)->∃p,l=p++r/\mo p
 |0,_,_,_,_,h=>by simp[b5]at h
 |_+1,[],_,_,_,h=>by simp[b5]at h
 |n+1,w::l,acc,t,r,h=>by
  simp only[b5]at h;split at h
  ·rename_i e;cases h;exact⟨[[41]],by rw[e];rfl,zd⟩
  ·split at h
   ·rename_i e;split at h
    ·cases h
    ·split at h
     ·rename_i x v dh hr;split at h
      ·rename_i Yl;cases h;obtain⟨p,I,J⟩:=Lb n l x (v::r) hr;refine⟨[46]::(p++[[41]]),by rw[e,I,Yl];simp,?_⟩;have:=oz (tB (w:=[46]) (by decide) (by decide)) (oz J zd);simpa using this
      ·cases h
     ·cases h
   ·split at h
    ·rename_i x dh hr;obtain⟨p,I,J⟩:=Lb n (w::l) x dh hr;obtain⟨q,aA,aS⟩:=RP n dh _ t r h;exact⟨p++q,by rw[I,aA];simp,oz J aS⟩
    ·cases h
end
def L4(tr:List (List ah)->a1 (T×List (List ah))):Prop:= ∀l t r,tr l=some (t,r)->∃p,l=p++r/\p5 p
def I2(aP:List ah->a1 (Int×List ah)):Prop:= ∀h x,aP h=some x->h≠[40]/\h≠[41]
theorem L5:L4 er:=fun l t r h=>by
 unfold er at h;split at h
 ·rename_i x y hr;split at h
  ·cases h;exact Lb _ _ _ _ hr
  ·cases h
 ·cases h
theorem I3:I2 eY:=fun h x e=>by constructor<;>(rintro rfl;revert e;simp[eY,mC,eS,hN,fA,sW,sV,pO,pM,pJ,pK,pN,pL,hb,hQ,ha,low])
mutual
theorem Gz{tr:List (List ah)->a1 (T×List (List ah))}(aI:L4 tr){aP:List ah->a1 (Int×List ah)}(bX:I2 aP):∀(n:Nat) (l:List (List ah)) (g:Gm) (r:List (List ah)),ed tr aP n l=some (g,r)->∃p,l=p++r/\p5 p
 |0,_,_,_,h=>by simp[ed]at h
 |_+1,[],_,_,h=>by simp[ed]at h
 |n+1,w::l,g,r,h=>by
  simp only[ed]at h;split at h
  ·rename_i e;cases h;exact⟨[w],rfl,by rw[e];exact tB (by decide) (by decide)⟩
  ·split at h
   ·rename_i e;cases h;exact⟨[w],rfl,by rw[e];exact tB (by decide) (by decide)⟩
   ·split at h
    ·rename_i e;split at h
     ·cases h
     ·rename_i v cF;split at h
      ·rename_i k s aa;obtain⟨p,I,J⟩:=K7 aI bX n _ _ _ _ _ g r h;have aA:=bX _ _ aa;refine⟨[40]::v::p,by rw[e,I];rfl,ze ?_⟩;have:=oz (tB aA.1 aA.2) J;simpa using this
      ·cases h
    ·cases h
theorem K7{tr:List (List ah)->a1 (T×List (List ah))}(aI:L4 tr){aP:List ah->a1 (Int×List ah)}(bX:I2 aP):∀(n:Nat) (k:Int) (s:List ah) (ts:List T) (gs:List Gm) (l:List (List ah)) (g:Gm) (r:List (List ah)),eh tr aP n k s ts gs l=some (g,r)->∃p,l=p++r/\mo p
 |0,_,_,_,_,_,_,_,h=>by simp[eh]at h
 |_+1,_,_,_,_,[],_,_,h=>by simp[eh]at h
 |n+1,k,s,ts,gs,w::l,g,r,h=>by
  simp only[eh]at h;split at h
  ·rename_i e;split at h
   ·cases h;exact⟨[[41]],by rw[e];rfl,zd⟩
   ·cases h
  ·split at h
   ·split at h
    ·rename_i x dh hr;obtain⟨p,I,J⟩:=Gz aI bX n (w::l) x dh hr;obtain⟨q,aA,aS⟩:=K7 aI bX n _ _ _ _ _ g r h;exact⟨p++q,by rw[I,aA];simp,oz J aS⟩
    ·cases h
   ·split at h
    ·rename_i x dh hr;obtain⟨p,I,J⟩:=aI (w::l) x dh hr;obtain⟨q,aA,aS⟩:=K7 aI bX n _ _ _ _ _ g r h;exact⟨p++q,by rw[I,aA];simp,oz J aS⟩
    ·cases h
end
def sT(s:List ah):Bool:=fA s||(match gw s with|some n=>decide (0<=n/\n<=100000)|none=>false)
def num:List (List ah)->List (List ah)->a1 (List (List ah)×List (List ah))
 |ns,[]=>some ([],ns)
 |ns,w::r=>match w with
  |63::s=>if sT s then(num (if w∈ns then ns else ns++[w]) r).map fun x=>((63::itoa (ns.idxOf w))::x.1,x.2)else none
  |_=>(num ns r).map fun x=>(w::x.1,x.2)
theorem iF(ns r:List (List ah))(w:List ah)(h:∀s,w≠63::s):num ns (w::r)=(num ns r).map fun x=>(w::x.1,x.2):=by
 conv=>lhs;unfold num
 split
 ·rename_i s;exact absurd rfl (h s)
 ·rfl
theorem Ah(ns r:List (List ah))(s:List ah):num ns ((63::s)::r)=if sT s then(num (if(63::s)∈ns then ns else ns++[63::s]) r).map fun x=>((63::itoa (ns.idxOf (63::s)))::x.1,x.2)else none:=by rw[num]
theorem X8(s:List ah):fv (63::s)=0:=by simp[fv]
theorem FD(w:List ah):(∃s,w=63::s)\/ ∀s,w≠63::s:=by
 cases w with
 |nil=>exact .inr Ψ
 |cons c s=>
  by_cases h:c=63
  ·exact .inl ⟨s,by rw[h]⟩
  ·exact .inr (by intro t e;cases e;exact h rfl)
theorem wJ:∀(l ns cF ms:List (List ah)),num ns l=some (cF,ms)->cF.length=l.length/\∀k,ej (cF.take k)=ej (l.take k)
 |[],ns,cF,ms,h=>by simp only[num,dH,gz]at h;obtain⟨rfl,rfl⟩:=h;simp
 |w::r,ns,cF,ms,h=>by
  rcases FD w with⟨s,rfl⟩|hw
  ·rw[Ah]at h;split at h
   ·simp only[hc]at h;obtain⟨⟨w7,w8⟩,ad,e⟩:=h;simp only[gz]at e;obtain⟨rfl,rfl⟩:=e;obtain⟨I,J⟩:=wJ r _ w7 w8 ad;refine⟨by simp[I],fun k=>?_⟩;cases k with
    |zero=>rfl
    |succ k=>simp only[rI,ej,J k,X8]
   ·cases h
  ·rw[iF _ _ _ hw]at h;simp only[hc]at h;obtain⟨⟨w7,w8⟩,ad,e⟩:=h;simp only[gz]at e;obtain⟨rfl,rfl⟩:=e;obtain⟨I,J⟩:=wJ r _ w7 w8 ad;refine⟨by simp[I],fun k=>?_⟩;cases k with
   |zero=>rfl
   |succ k=>simp only[rI,ej,J k]
def jP:Int->List (List ah)->Nat
 |_,[]=>0
 |d,w::r=>if d+fv w<0 then 1 else jP (d+fv w) r+1
theorem H6:∀(d:Int) (l:List (List ah)),jP d l<=l.length
 |_,[]=>by simp[jP]
 |d,w::r=>by simp only[jP];have:=H6 (d+fv w) r;split<;>simp<;>omega
theorem OU:∀(p r:List (List ah)) (d:Int),0<=d->d+ej p<0->(∀k,k<p.length->0<=d+ej (p.take k))->jP d (p++r)=p.length
 |[],r,d,bK,I,J=>by exfalso;simp[ej]at I;omega
 |w::p,r,d,bK,I,J=>by
  simp only[ds,jP];by_cases h:d+fv w<0
  ·rw[bP h];cases p with
   |nil=>rfl
   |cons v q=>exfalso;have:=J 1 Ψ;simp[ej]at this;omega
  ·rw[bo h,OU p r (d+fv w) Ω (by simp only[ej]at I;omega) fun k aa=>by have:=J (k+1) (by simp;omega);simp only[rI,ej]at this;omega]
   rfl
theorem OT{p:List (List ah)}(h:mo p)(r:List (List ah)):jP 0 (p++r)=p.length:=OU p r 0 (Int.le_refl _) (by rw[h.1];decide) fun k aa=>by have:=h.2 k aa;omega
def hp:Int->List (List ah)->a1 (Int×List (List ah))
 |_,[]=>none
 |k,w::r=>if w=[41]then some (k,r)else if w=63::itoa k then hp (k+1) r else none
theorem Db:∀(l:List (List ah)) (k j:Int) (r:List (List ah)),hp k l=some (j,r)->∃p,l=p++r/\mo p
 |[],_,_,_,h=>by simp[hp]at h
 |w::l,k,j,r,h=>by
  simp only[hp]at h;split at h
  ·rename_i e;cases h;exact⟨[[41]],by rw[e];rfl,zd⟩
  ·split at h
   ·rename_i e;obtain⟨p,I,J⟩:=Db l _ j r h;refine⟨w::p,by rw[I];rfl,?_⟩;have:=oz (tB (w:=w) (by rw[e];simp) (by rw[e];simp)) J;simpa using this
   ·cases h
structure Rl where
 name:List ah
 ar:Int
 loc:Int
 body:Gm
 deriving Inhabited
def ot(name:List ah)(c:Nat)(l:List (List ah)):a1 (Rl×List (List ah)):=match hp 0 l with
 |some (k,r)=>match ed er eY (2*r.length+1) r with
  |some (g,[41]::e3)=>some (⟨name,k,c-k,g⟩,e3)
  |_=>none
 |none=>none
def mu(l:List (List ah)):Nat:=jP 0 l+jP 0 (l.drop (jP 0 l))
def mv:List (List ah)->a1 (Rl×List (List ah))
 |[40]::d::[40]::name::l=>if d=ha then match num [] (l.take (mu l))with
   |some (cF,ms)=>(ot name ms.length cF).map fun x=>(x.1,l.drop (mu l-x.2.length))
   |none=>none
  else none
 |_=>none
theorem Eg{name:List ah}{c:Nat}{l r:List (List ah)}{x:Rl}(h:ot name c l=some (x,r)):∃p q,l=p++q++r/\mo p/\mo q/\x.name=name:=by
 unfold ot at h;cases bn:hp 0 l with
 |none=>rw[bn]at h;cases h
 |some y=>
  obtain⟨k,eU⟩:=y;rw[bn]at h;simp only at h;obtain⟨p,I,J⟩:=Db l 0 k eU bn;split at h
  ·rename_i g e3 aR;cases h;obtain⟨q,aA,aS⟩:=Gz L5 I3 _ _ _ _ aR;exact⟨p,q++[[41]],by rw[I,aA];simp,J,oz aS zd,rfl⟩
  ·cases h
theorem Ie{l r:List (List ah)}{name:List ah}{x:Rl}(aJ:eS name=true):
  (mv ([40]::ha::[40]::name::l)=some (x,r))↔∃p ms cF,l=p++r/\num [] p=some (cF,ms)/\ot name ms.length cF=some (x,[])/\p5 ([40]::ha::[40]::name::p):=by
 have tE:name≠[40]/\name≠[41]:=by constructor<;>(rintro rfl;revert aJ;simp[eS,hN,fA,low,pO,pM,pJ,pK,pN,pL,hb,hQ,ha])
 have acp:∀p q,mo p->mo q->p5 ([40]::ha::[40]::name::(p++q)):=by intro p q bn bA;have I:=oz (tB tE.1 tE.2) bn;have J:=ze I;have aA:=oz J bA;have aS:=ze (oz (tB (w:=ha) (by decide) (by decide)) aA);simpa using aS
 have key:∀(p:List (List ah)) (ms cF e3:List (List ah)),num [] p=some (cF,ms)->ot name ms.length cF=some (x,e3)->∃u v,p.take (u+v)=p.take (u+v)/\u+v+e3.length=p.length/\mo (p.take u)/\mo ((p.drop u).take v):=by
  intro p ms cF e3 I J;obtain⟨aA,aS⟩:=wJ p _ _ _ I;obtain⟨a,b,e,bM,ao,_⟩:=Eg J;refine⟨a.length,b.length,rfl,by rw[<-aA,e];simp;omega,?_,?_⟩
  ·refine⟨by rw[<-aS,e,iI,List.take_left];exact bM.1,fun k aa=>?_⟩;have gV:k<a.length:=by simp at aa;omega
   rw[List.take_take,Nat.min_eq_left Ω,<-aS,e,iI,List.take_append_of_le_length Ω];exact bM.2 k gV
  ·have aP:∀k,ej ((p.drop a.length).take k)=ej ((cF.drop a.length).take k):=by
    intro k;have aB:ej (p.take (a.length+k))=ej (p.take a.length)+ej ((p.drop a.length).take k):=by rw[List.take_add,vV]
    have aU:ej (cF.take (a.length+k))=ej (cF.take a.length)+ej ((cF.drop a.length).take k):=by rw[List.take_add,vV]
    have:=aS (a.length+k);have:=aS a.length;omega
   have aG:cF.drop a.length=b++e3:=by rw[e,iI,List.drop_left]
   refine⟨by rw[aP,aG,List.take_left];exact ao.1,fun k aa=>?_⟩;have gV:k<b.length:=by simp at aa;omega
   rw[List.take_take,Nat.min_eq_left Ω,aP,aG,List.take_append_of_le_length Ω];exact ao.2 k gV
 have im:∀(m:List (List ah)) (u v:Nat),mo (m.take u)->mo ((m.drop u).take v)->u+v<=m.length->mu m=u+v:=by
  intro m u v I J aA;unfold mu;have aB:jP 0 m=u:=by have:=OT I (m.drop u);rw[List.take_append_drop]at this;rw[this];simp;omega
  rw[aB];have:=OT J ((m.drop u).drop v);rw[List.take_append_drop]at this;rw[this];simp;omega
 simp only[mv,if_true];constructor
 ·intro h;cases gS:num [] (l.take (mu l))with
  |none=>rw[gS]at h;cases h
  |some y=>
   obtain⟨cF,ms⟩:=y;rw[gS]at h;simp only[hc]at h;obtain⟨⟨Hd,e3⟩,ad,e⟩:=h;simp only[gz]at e;obtain⟨rfl,aU⟩:=e;obtain⟨u,v,_,Fu,hu,aK⟩:=key _ _ _ _ gS ad;have hle:(l.take (mu l)).length<=mu l:=by simp;omega
   have Cg:(l.take (mu l)).length<=l.length:=by simp;omega
   have Rt:mo (l.take u):=by rw[List.take_take,Nat.min_eq_left Ω]at hu;exact hu
   have Rx:mo ((l.drop u).take v):=by rw[List.drop_take,List.take_take,Nat.min_eq_left Ω]at aK;exact aK
   have cQ:=im l u v Rt Rx Ω;have hlen:(l.take (mu l)).length=u+v:=by simp;omega
   have l5:e3=[]:=n5 Ω;subst l5;refine⟨l.take (mu l),ms,cF,by rw[<-aU];simp,gS,ad,?_⟩;have:l.take (mu l)=l.take u++(l.drop u).take v:=by rw[cQ,List.take_add]
   rw[this];exact acp _ _ Rt Rx
 ·rintro⟨p,ms,cF,rfl,I,J,_⟩;obtain⟨u,v,_,Fu,hu,aK⟩:=key _ _ _ _ I J;simp only[mh,Nat.add_zero]at Fu;have cQ:=im (p++r) u v (by rw[List.take_append_of_le_length Ω];exact hu) (by rw[List.drop_append_of_le_length Ω,List.take_append_of_le_length (by simp;omega)];exact aK) (by simp;omega)
  have aI:(p++r).take (mu (p++r))=p:=by rw[cQ,Fu,List.take_left]
  rw[aI,I];simp only[J,oa];rw[cQ,Fu];simp
def mX(p:List (List ah)):a1 Rl:=match num [] p with
 |some (_::d::b::name::l,ms)=>if d=ha/\b=[40]then match hp 0 l with
   |some (k,r)=>match ed jw hdS (2*r.length+1) r with
    |some (g,[_])=>some ⟨name,k,ms.length-k,g⟩
    |_=>none
   |none=>none
  else none
 |_=>none
def pW:Int->List (List ah)->a1 Nat
 |_,[]=>none
 |d,w::r=>if d+fv w<=0 then some 1 else(pW (d+fv w) r).map (· +1)
theorem H3:∀(p r:List (List ah)) (d:Int),p≠[]->d+ej p<=0->(∀k,0<k->k<p.length->0<d+ej (p.take k))->pW d (p++r)=some p.length
 |[],_,_,h,_,_=>absurd rfl h
 |w::p,r,d,_,I,J=>by
  simp only[ds,pW];cases p with
  |nil=>rw[bP (by simp[ej]at I;omega)];rfl
  |cons v q=>
   have:=J 1 Ω Ψ;simp[ej]at this;rw[bo Ω,H3 (v::q) r (d+fv w) Ψ (by simp only[ej]at I⊢;omega) fun k aa h4=>by have:=J (k+1) Ω (by simp at h4⊢;omega);simp only[rI,ej]at this;omega]
   rfl
theorem H4:∀(l:List (List ah)) (d:Int) (n:Nat),pW d l=some n->0<n/\n<=l.length/\d+ej (l.take n)<=0/\∀k,0<k->k<n->0<d+ej (l.take k)
 |[],_,_,h=>by simp[pW]at h
 |w::r,d,n,h=>by
  simp only[pW]at h;split at h
  ·cases h;exact⟨Ω,Ψ,by simp[ej];omega,fun k I J=>Ω⟩
  ·rename_i hw;simp only[hc]at h;obtain⟨m,hm,rfl⟩:=h;obtain⟨I,J,aA,aS⟩:=H4 r _ m hm;refine⟨Ω,by simp;omega,by simp only[rI,ej];omega,fun k aa h4=>?_⟩;obtain⟨j,rfl⟩:∃j,k=j+1:=⟨k-1,Ω⟩;simp only[rI,ej];rcases Nat.eq_zero_or_pos j with rfl|aD
   ·simp[ej];omega
   ·have:=aS j aD Ω;omega
theorem X6(w:List ah): -1<=fv w:=by unfold fv;split<;>(try split)<;>omega
theorem Xf{l:List (List ah)}{n:Nat}(h:pW 0 l=some n):p5 (l.take n)\/l.take n=[[41]]:=by
 obtain⟨I,J,aA,aS⟩:=H4 l 0 n h;have hlen:(l.take n).length=n:=by simp;omega
 obtain⟨m,rfl⟩:∃m,n=m+1:=⟨n-1,Ω⟩;have Fc:l.take (m+1)=l.take m++[l[m]]:=by rw[kV,cS Ω];rfl
 have aR:=X6 l[m];have Rr:ej (l.take (m+1))=ej (l.take m)+fv l[m]:=by rw[Fc,vV];simp[ej]
 rcases Nat.eq_zero_or_pos m with rfl|hm
 ·rw[Rr]at aA;simp[ej]at aA;by_cases cp:fv l[0]=0
  ·left;exact⟨by rw[Fc];simp,by rw[Rr,cp];simp[ej],fun k aa h4=>Ω⟩
  ·right;rw[Fc];unfold fv at aA cp;split at aA
   ·omega
   ·split at aA
    ·rename_i e;simp[e]
    ·rename_i bG cq;rw[bo bG,bo cq]at cp;omega
 ·left;have:=aS m hm Ω;refine⟨by rw[Fc];exact List.append_ne_nil_of_right_ne_nil _ Ψ,Ω,fun k aa h4=>?_⟩;rw[hlen]at h4;rw[List.take_take,Nat.min_eq_left Ω];have:=aS k aa h4;omega
theorem SQ{l ns cF ms:List (List ah)}(h:num ns l=some (cF,ms)):cF.length=l.length:=(wJ l ns cF ms h).1
theorem Kz{w:List ah}{r ns ms cF:List (List ah)}{v:List ah}(h:num ns (w::r)=some (v::cF,ms))(aK:∀s,v≠63::s):w=v/\num ns r=some (cF,ms):=by
 rcases FD w with⟨s,rfl⟩|hw
 ·rw[Ah]at h;split at h
  ·simp only[hc]at h;obtain⟨x,_,e⟩:=h;simp only[gz,w9]at e;exact absurd e.1.1.symm (aK _)
  ·cases h
 ·rw[iF _ _ _ hw]at h;simp only[hc]at h;obtain⟨⟨w7,w8⟩,ad,e⟩:=h;simp only[gz,w9]at e;obtain⟨⟨rfl,rfl⟩,rfl⟩:=e;exact⟨rfl,ad⟩
theorem Lg{s:List ah}(h:eS s=true):∀r,s≠63::r:=by unfold eS at h;simp only[bF]at h;exact F0 h.2
theorem aiy:∀s,ha≠63::s:=by simp[ha]
theorem af6:∀s,([40]:List ah)≠63::s:=by simp
theorem O8{p:List (List ah)}{x:Rl}(aR:p5 p)(aJ:eS x.name=true)(ao:x.body.shape=true):
  mX p=some x↔∃l ms cF,p=[40]::ha::[40]::x.name::l/\num [] l=some (cF,ms)/\ot x.name ms.length cF=some (x,[]):=by
 constructor
 ·intro h;unfold mX at h;split at h
  ·rename_i w0 d b name cF ms tF;split at h
   ·rename_i ab2;obtain⟨rfl,rfl⟩:=ab2;split at h
    ·rename_i k r bn;split at h
     ·rename_i g z hr;cases h;simp only at aJ ao;have hlen:=SQ tF;simp at hlen;obtain⟨me,ik,hF,w5,l,rfl⟩:∃me ik hF w5 l,p=me::ik::hF::w5::l:=by
       match p,hlen with
       |[],h=>simp at h
       |[_],h=>simp at h
       |[_,_],h=>simp at h
       |[_,_,_],h=>simp at h
       |me::ik::hF::w5::l,_=>exact⟨me,ik,hF,w5,l,rfl⟩
      have Cw:me=[40]:=by
       have:=aR.2.2 1 Ω Ψ;simp[ej]at this;unfold fv at this;split at this
       ·assumption
       ·split at this<;>omega
      subst Cw;rw[iF _ _ _ Ψ]at tF;simp only[hc]at tF;obtain⟨⟨He,Hf⟩,bB,e⟩:=tF;simp only[gz,w9]at e;obtain⟨⟨_,rfl⟩,rfl⟩:=e;obtain⟨aB,RA⟩:=Kz bB aiy;obtain⟨aU,ku⟩:=Kz RA af6;obtain⟨b1,adt⟩:=Kz ku (Lg aJ);clear bB RA ku;subst aB;subst aU;subst b1;have bB:=adt;refine⟨l,_,cF,rfl,bB,?_⟩;have uL:=Uh _ _ _ _ hr ao;obtain⟨cz,aB,Co⟩:=Db cF 0 k r bn;obtain⟨db,aU,zP⟩:=Gz L5 I3 _ _ _ _ uL;have cp:z=[41]:=by
       have bK:=aR.2.1;have aG:=(wJ l [] cF _ bB).2 l.length;rw[kH,rH (by rw[SQ bB];exact c7 _)]at aG;rw[aB,vV,Co.1,aU,vV,zP.2.1]at aG;simp only[ej]at bK aG;have aP:fv ha=0:=by decide
       have oA:fv [40]=1:=rfl;have iD:fv w5=0:=by unfold eS at aJ;simp only[bF]at aJ;have:=vi (u0 aJ.2);simp[fv,this]
       have JW:fv z= -1:=Ω
       unfold fv at JW;split at JW
       ·omega
       ·split at JW
        ·assumption
        ·omega
      subst cp;unfold ot;rw[bn];simp only;rw[uL];rfl
     ·cases h
    ·cases h
   ·cases h
  ·cases h
 ·rintro⟨l,ms,cF,rfl,I,J⟩;unfold ot at J;cases bn:hp 0 cF with
  |none=>rw[bn]at J;cases J
  |some y=>
   obtain⟨k,r⟩:=y;rw[bn]at J;simp only at J;split at J
   ·rename_i g e3 uL;simp only[dH,gz]at J;obtain⟨ad,rfl⟩:=J;unfold mX;rw[iF _ _ _ Ψ,iF _ _ _ (by simp[ha]),iF _ _ _ Ψ,iF _ _ _ (Lg aJ),I];simp only[oa,and_self,if_true,bn,Ug _ _ _ _ uL,ad]
   ·cases J
def lN:Nat->List (List ah)->a1 (List Rl)
 |_,[]=>some []
 |0,_=>none
 |n+1,l=>match mv l with
  |some (x,r)=>(lN n r).map (x:: ·)
  |none=>none
def oR:Nat->List (List ah)->a1 (List Rl)
 |_,[]=>some []
 |0,_=>none
 |n+1,l=>match pW 0 l with
  |some k=>match mX (l.take k)with
   |some x=>(oR n (l.drop k)).map (x:: ·)
   |none=>none
  |none=>none
def Qq(P:List Rl):Prop:= ∀x∈P,eS x.name=true/\x.body.shape=true
theorem Gy:∀(n:Nat) (l:List (List ah)) (P:List Rl),Qq P->(lN n l=some P↔oR n l=some P)
 |n,[],P,_=>by cases n<;>simp[lN,oR]
 |0,w::l,P,_=>by simp[lN,oR]
 |n+1,w::l,P,hW=>by
  simp only[lN,oR];constructor
  ·intro h;cases aP:mv (w::l)with
   |none=>rw[aP]at h;cases h
   |some y=>
    obtain⟨x,r⟩:=y;rw[aP]at h;simp only[hc]at h;obtain⟨Q,jm,rfl⟩:=h;obtain⟨aJ,ao⟩:=hW x Ψ;have ie:=aP;unfold mv at ie;split at ie
    ·rename_i d name FL e;split at ie
     ·rename_i fI;subst fI;have iD:x.name=name:=by
       split at ie
       ·simp only[hc]at ie;obtain⟨⟨Hd,e3⟩,I,J⟩:=ie;cases J;exact(Eg I).choose_spec.choose_spec.2.2.2
       ·cases ie
      subst iD;rw[e]at aP;obtain⟨p,ms,cF,I,J,aA,aS⟩:=(Ie aJ).1 aP;have nK:pW 0 (w::l)=some ([40]::ha::[40]::x.name::p).length:=by rw[e,I];exact H3 ([40]::ha::[40]::x.name::p) r 0 aS.1 (by rw[aS.2.1];decide) fun k aa h4=>by have:=aS.2.2 k aa h4;omega
      have zS:w::l=([40]::ha::[40]::x.name::p)++r:=by rw[e,I];rfl
      rw[nK];simp only;rw[zS,List.take_left,List.drop_left];rw[(O8 aS aJ ao).2 ⟨p,ms,cF,rfl,J,aA⟩];simp only;rw[(Gy n r Q fun y bB=>hW y (by simp[bB])).1 jm];rfl
     ·cases ie
    ·cases ie
  ·intro h;cases aH:pW 0 (w::l)with
   |none=>rw[aH]at h;cases h
   |some k=>
    rw[aH]at h;simp only at h;cases aP:mX ((w::l).take k)with
    |none=>rw[aP]at h;cases h
    |some x=>
     rw[aP]at h;simp only[hc]at h;obtain⟨Q,jm,rfl⟩:=h;obtain⟨aJ,ao⟩:=hW x Ψ;rcases Xf aH with aR|aR
     ·obtain⟨q,ms,cF,I,J,aA⟩:=(O8 aR aJ ao).1 aP;have zS:w::l=[40]::ha::[40]::x.name::(q++(w::l).drop k):=by have:=List.take_append_drop k (w::l);rw[I]at this;exact this.symm
      have uL:=(Ie (l:=q++(w::l).drop k) (r:=(w::l).drop k) (x:=x) aJ).2 ⟨q,ms,cF,rfl,J,aA,by rw[<-I];exact aR⟩;rw[<-zS]at uL;rw[uL];simp only;rw[(Gy n _ Q fun y bB=>hW y (by simp[bB])).2 jm];rfl
     ·rw[aR]at aP;simp[mX,num]at aP
mutual
def aV.vs:aV->List Int
 | .mk k n _ a=>if k=1 then [n]else aV.vsL a
def aV.vsL:List aV->List Int
 |[]=>[]
 |x::xs=>x.vs++aV.vsL xs
end
mutual
def Gm.vs:Gm->List Int
 | .mk _ _ t g=>aV.vsL t++Gm.vsL g
def Gm.vsL:List Gm->List Int
 |[]=>[]
 |x::xs=>x.vs++Gm.vsL xs
end
mutual
def Gm.cf(P:List Rl):Gm->Bool
 | .mk k s t g=>if k=9 then(match P.find? fun r=>r.name==s with|some r=>r.ar==(t.length:Int)|none=>false)else Gm.cfL P g
def Gm.cfL(P:List Rl):List Gm->Bool
 |[]=>true
 |x::xs=>x.cf P&&Gm.cfL P xs
end
def Rl.ok(P:List Rl)(x:Rl):Bool:=eS x.name&&decide (0<=x.ar/\x.ar<=4)&&decide (0<=x.loc/\x.loc<=8)&&x.body.fits 60&&(x.body.vs.all fun v=>decide (v<x.ar+x.loc))&&x.body.cf P
def gC(P:List Rl):Bool:=decide (P.length<=8)&&decide ((P.map Rl.name).Nodup)&&P.all (Rl.ok P)
theorem S3{P:List Rl}(h:gC P=true):Qq P:=by intro x ad;simp only[gC,bF,hq]at h;have I:=h.2 x ad;simp only[Rl.ok,Gm.fits,bF]at I;exact⟨I.1.1.1.1.1,I.1.1.2.1⟩
def nA(o:a1 (List Rl)):a1 (List Rl):=o.bind fun P=>if gC P then some P else none
theorem DN{o:a1 (List Rl)}{P:List Rl}:nA o=some P↔o=some P/\gC P=true:=by
 cases o with
 |none=>simp[nA]
 |some Q=>
  simp only[nA,Option.bind_some];by_cases jm:gC Q=true
  ·rw[bP jm];simp only[dH];exact⟨fun e=>⟨e,e▸jm⟩,fun e=>e.1⟩
  ·rw[bo jm];simp only[dH,reduceCtorEq,false_iff];intro h;exact jm (h.1▸h.2)
theorem aga(n:Nat)(l:List (List ah)):nA (lN n l)=nA (oR n l):=by apply Option.ext;intro P;rw[DN,DN];exact⟨fun h=>⟨(Gy n l P (S3 h.2)).1 h.1,h.2⟩,fun h=>⟨(Gy n l P (S3 h.2)).2 h.1,h.2⟩⟩
open Classical in
noncomputable def ui(t:aV):List (List ah):=if h:∃x:T,x.tm=t then fF (Classical.choose h)else []
theorem Mz(x:T):ui x.tm=fF x:=by have h:∃y:T,y.tm=x.tm:=⟨x,rfl⟩;unfold ui;rw[dif_pos h,G0 (Classical.choose_spec h)]
def q0(k:Int)(s:List ah):List ah:=if k=9 then s else h0 k
mutual
noncomputable def j0:Gm->List (List ah)
 | .mk k s t g=>if k=0\/k=1 then [h0 k]else [40]::q0 k s::(t.flatMap ui++(lQ g++[[41]]))
noncomputable def lQ:List Gm->List (List ah)
 |[]=>[]
 |x::xs=>j0 x++lQ xs
end
theorem vq{s:List ah}(h:eS s=true):fA s=true:=by unfold eS at h;simp only[bF]at h;exact h.2
theorem qv{k:Int}{s:List ah}{t:List aV}{g:List Gm}(h:(Gm.mk k s t g).shape=true):
  (∀x∈t,x.fits=true)/\hO g=true/\((k=0\/k=1)/\s=[]/\t=[]/\g=[]\/(2<=k/\k<=6)/\s=[]/\g=[]\/k=9/\eS s=true/\g=[]\/(k=7\/k=8\/k=10)/\s=[]/\t=[]):=by
 simp only[Gm.shape,bF]at h;obtain⟨I,J⟩:=h;refine⟨fun x ad=>hq.1 I x ad,?_⟩;split at J
 ·rename_i aa;simp only[bF,dK,List.isEmpty_iff,ea]at J;obtain⟨⟨⟨rfl,rfl⟩,aA⟩,_⟩:=J;refine⟨rfl,?_⟩;by_cases h4:k=0\/k=1
  ·refine .inl ⟨h4,rfl,?_,rfl⟩;rcases h4 with rfl|rfl<;>simpa[lb]using aA
  ·exact .inr (.inl ⟨Ω,rfl,rfl⟩)
 ·split at J
  ·rename_i _ aa;simp only[bF,List.isEmpty_iff]at J;obtain⟨⟨aA,rfl⟩,_⟩:=J;exact⟨rfl,.inr (.inr (.inl ⟨aa,aA,rfl⟩))⟩
  ·split at J
   ·rename_i _ _ aa;simp only[bF,List.isEmpty_iff,dK]at J;obtain⟨⟨⟨rfl,rfl⟩,_⟩,aA⟩:=J;exact⟨aA,.inr (.inr (.inr ⟨Ω,rfl,rfl⟩))⟩
   ·split at J
    ·rename_i _ _ _ aa;simp only[bF,List.isEmpty_iff,dK]at J;obtain⟨⟨⟨rfl,rfl⟩,_⟩,aA⟩:=J;exact⟨aA,.inr (.inr (.inr ⟨Ω,rfl,rfl⟩))⟩
    ·cases J
theorem FJ{k:Int}(h:2<=k/\k<=6\/k=7\/k=8\/k=10):k=2\/k=3\/k=4\/k=5\/k=6\/k=7\/k=8\/k=10:=Ω
theorem zH{k:Int}(h:k=0\/k=1\/k=2\/k=3\/k=4\/k=5\/k=6\/k=7\/k=8\/k=10):(∀c∈h0 k,fR c=true)/\h0 k≠[]:=by rcases h with rfl|rfl|rfl|rfl|rfl|rfl|rfl|rfl|rfl|rfl<;>decide
theorem QQ{k:Int}(h:k=2\/k=3\/k=4\/k=5\/k=6\/k=7\/k=8\/k=10):eY (h0 k)=some (k,[]):=by rcases h with rfl|rfl|rfl|rfl|rfl|rfl|rfl|rfl<;>rfl
theorem agU{s:List ah}(h:eS s=true):eY s=some (9,s):=by
 have aa:mC s=none:=by
  have aJ:=vq h;have aH:hN.contains s=false:=by unfold eS at h;simp only[bF,Bool.not_eq_true']at h;exact h.1
  have hr:∀w∈hN,s≠w:=by rintro w hw rfl;rw[List.contains_iff_mem.2 hw]at aH;cases aH
  have he:s≠sW:=by rintro rfl;revert aJ;decide
  have aP:s≠sV:=by rintro rfl;revert aJ;decide
  unfold mC;rw[bo he,bo aP,bo (hr _ (by simp[hN])),bo (hr _ (by simp[hN])),bo (hr _ (by simp[hN])),bo (hr _ (by simp[hN])),bo (hr _ (by simp[hN])),bo (hr _ (by simp[hN]))]
 unfold eY;rw[aa,bP h]
theorem QS{k:Int}{s:List ah}{t:List aV}{g:List Gm}(h:(Gm.mk k s t g).shape=true)(aa:¬(k=0\/k=1)):
  (∀c∈q0 k s,fR c=true)/\q0 k s≠[]/\eY (q0 k s)=some (k,s)/\1<k:=by
 obtain⟨_,_,au⟩:=qv h;clear h;unfold q0;rcases au with⟨h,_⟩|⟨h,rfl,_⟩|⟨rfl,h,_⟩|⟨h,rfl,_⟩
 ·exact absurd h aa
 ·rw[bo Ω];have:=FJ (k:=k) (.inl h);exact⟨(zH Ω).1,(zH Ω).2,QQ this,Ω⟩
 ·rw[bP rfl];exact⟨u0 (vq h),Ab (vq h),agU h,Ω⟩
 ·rw[bo Ω];have:=FJ (k:=k) (.inr h);exact⟨(zH Ω).1,(zH Ω).2,QQ this,Ω⟩
theorem L2{t:aV}(h:t.fits=true)(r:List ah)(he:im r):dp (iu t++r)=ui t++dp r:=by obtain⟨x,rfl,ad⟩:=aV.fits_ex h;rw[GY,Mz,L0 x r (p4 ad) he]
theorem Ik:im []:=trivial
theorem PU{α β:Type}{f g:α->List β}:∀{l:List α},(∀x∈l,f x=g x)->l.flatMap f=l.flatMap g
 |[],_=>rfl
 |x::xs,h=>by simp only[List.flatMap_cons];rw[h x Ψ,PU fun y bB=>h y (by simp[bB])]
theorem DD{x:List ah}{w:List (List ah)}(h:∀r,im r->dp (x++r)=w++dp r):dp x=w:=by have:=h [] Ik;simpa[rs]using this
mutual
theorem DB:∀(g:Gm) (r:List ah),g.shape=true->im r->dp (ff g++r)=j0 g++dp r
 | .mk k s t g,r,h,he=>by
  have aR:=qv h;rw[ff,j0];by_cases aa:k=0\/k=1
  ·rw[bP aa,bP aa];have:=zH (k:=k) Ω;rw[qx this.1 this.2 he];rfl
  ·rw[bo aa,bo aa];obtain⟨I,J,_⟩:=QS h aa;rw[ds,rv (.inl rfl),iI];have j9:∀x∈(q0 k s::(t.map iu++p3 g)),∀r,im r->dp (x++r)=dp x++dp r:=by
    intro x ad r hr;simp only[gb,fM,n8]at ad;rcases ad with rfl|⟨y,bB,rfl⟩|ad
    ·rw[qx I J hr];have:=qx I J Ik;rw[mg,rs]at this;rw[this];rfl
    ·rw[L2 (aR.1 y bB) r hr,DD fun r hr=>L2 (aR.1 y bB) r hr]
    ·rw[Ew,n8]at ad;obtain⟨y,bB,rfl⟩:=ad;rw[LZ g aR.2.1 y bB r hr,DD fun r hr=>LZ g aR.2.1 y bB r hr]
   have:=L1 (q0 k s::(t.map iu++p3 g)) dp ([41]++r) j9 (by simp[im,jN]) Ψ;rw[show(if k=9 then s else h0 k)=q0 k s from rfl,this];simp only[List.singleton_append,List.flatMap_cons,List.flatMap_append,ds,iI];rw[rv (.inr rfl)];have aB:dp (q0 k s)=[q0 k s]:=by have:=qx I J Ik;rwa[mg,rs]at this
   have aU:(t.map iu).flatMap dp=t.flatMap ui:=by rw[List.flatMap_map];refine PU fun y bB=>?_;exact DD fun r hr=>L2 (aR.1 y bB) r hr
   have b1:(p3 g).flatMap dp=lQ g:=by exact Vk g aR.2.1
   rw[aB,aU,b1];simp
theorem LZ:∀(g:List Gm),hO g=true->∀x∈g,∀r,im r->dp (ff x++r)=j0 x++dp r
 |[],_,x,ad,_,_=>by cases ad
 |y::ys,h,x,ad,r,hr=>by
  simp only[hO,bF]at h;rcases gb.1 ad with e|ad
  ·rw[e];exact DB y r h.1 hr
  ·exact LZ ys h.2 x ad r hr
theorem Vk:∀(g:List Gm),hO g=true->(p3 g).flatMap dp=lQ g
 |[],_=>by simp[p3,lQ]
 |y::ys,h=>by simp only[hO,bF]at h;simp only[p3,lQ,List.flatMap_cons];rw[Vk ys h.2,DD fun r hr=>DB y r h.1 hr]
end
theorem Kt{w:List ah}(h:∀c∈w,fR c=true):w≠[41]:=(vi h).2
theorem aiC:∀{x:T},x.ok=true->∃w l,fF x=w::l/\w≠[41]
 | .nil,_=>⟨_,_,rfl,by decide⟩
 | .var n,_=>⟨_,_,rfl,Ψ⟩
 | .sym s,h=>⟨_,_,rfl,Kt (u0 h)⟩
 | .num n,_=>⟨_,_,rfl,Kt (zV n)⟩
 | .pair a b,_=>⟨_,_,rfl,by decide⟩
theorem V3(g:Gm):1<=(j0 g).length:=by cases g;rw[j0];split<;>simp
theorem aiA{g:Gm}(h:g.shape=true):∃w l,j0 g=w::l/\w≠[41]:=by
 cases g;rw[j0];split
 ·rename_i aa;exact⟨_,_,rfl,Kt (zH Ω).1⟩
 ·exact⟨_,_,rfl,by decide⟩
theorem K9{k:Int}{s:List ah}{gs:List Gm}(aa:jU k=false)(I:1<k):∀(t:List aV) (acc:List T) (r:List (List ah)) (n:Nat),(∀x∈t,x.fits=true)->(t.flatMap ui).length+1<=n->
  eh er eY n k s acc gs (t.flatMap ui++[41]::r)=some (.mk k s (acc.map T.tm++t) gs,r)
 |[],acc,r,n,_,aJ=>by
  cases n with
  |zero=>omega
  |succ n=>simp[eh,I]
 |x::t,acc,r,n,ad,aJ=>by
  cases n with
  |zero=>omega
  |succ n=>obtain⟨y,rfl,bB⟩:=aV.fits_ex (ad x Ψ);obtain⟨w,l,e,hw⟩:=aiC (p4 bB);have fy:=Vq bB (t.flatMap ui++[41]::r);have bn:=Ha y;simp only[List.flatMap_cons,Mz,iI,fU]at aJ⊢;rw[e]at fy⊢;simp only[ds]at fy⊢;rw[eh,bo hw,aa,bo Ψ,fy];simp only;rw[K9 aa I t (acc++[y]) r n (fun z cp=>ad z (by simp[cp])) Ω];simp
mutual
theorem GA:∀(g:Gm) (r:List (List ah)) (n:Nat),g.shape=true->(j0 g).length<=n->ed er eY n (j0 g++r)=some (g,r)
 | .mk k s t g,r,n,h,aJ=>by
  cases n with
  |zero=>have:=V3 (.mk k s t g);omega
  |succ n=>
   rw[j0]at aJ⊢;obtain⟨I,J,aA⟩:=qv h;by_cases aa:k=0\/k=1
   ·rw[bP aa];rcases aA with⟨_,rfl,rfl,rfl⟩|aA|aA|aA
    ·rcases aa with rfl|rfl
     ·simp[ed,h0]
     ·simp[ed,h0,hb,hQ]
    ·omega
    ·omega
    ·omega
   ·rw[bo aa]at aJ⊢;obtain⟨_,_,bG,cq⟩:=QS h aa;simp only[ds,iI,eW];rw[ed,bo (by decide),bo (by decide),bP rfl];simp only[bG];simp only[ga,fU,mh]at aJ;rcases aA with aA|⟨aA,rfl,rfl⟩|⟨rfl,aA,rfl⟩|⟨aA,rfl,rfl⟩
    ·exact absurd aA.1 aa
    ·have cp:jU k=false:=by unfold jU;simp;omega
     have:=K9 (s:=[]) (gs:=[]) cp cq t [] r n I (by simp only[lQ,mh]at aJ;omega);simpa[lQ]using this
    ·have:=K9 (k:=9) (s:=s) (gs:=[]) rfl cq t [] r n I (by simp only[lQ,mh]at aJ;omega);simpa[lQ]using this
    ·have cp:jU k=true:=by unfold jU;simp;omega
     have:=Uf g k [] [] r n cp cq J (by simp only[List.flatMap_nil,mh]at aJ;omega);simpa using this
theorem Uf:∀(g:List Gm) (k:Int) (s:List ah) (acc:List Gm) (r:List (List ah)) (n:Nat),jU k=true->1<k->hO g=true->(lQ g).length+1<=n->
  eh er eY n k s [] acc (lQ g++[41]::r)=some (.mk k s [] (acc++g),r)
 |[],k,s,acc,r,n,_,I,_,aJ=>by
  cases n with
  |zero=>omega
  |succ n=>simp[eh,lQ,I]
 |x::g,k,s,acc,r,n,aa,I,h,aJ=>by
  cases n with
  |zero=>omega
  |succ n=>simp only[hO,bF]at h;obtain⟨w,l,e,hw⟩:=aiA h.1;have bn:=V3 x;simp only[lQ,iI,fU]at aJ⊢;have hr:=GA x (lQ g++[41]::r) n h.1 Ω;rw[e]at hr⊢;simp only[ds]at hr⊢;rw[eh,bo hw,aa,bP rfl,hr];simp only;rw[Uf g k s (acc++[x]) r n aa I h.2 Ω];simp
end
def hP(n:Int):List ah:=63::itoa n
def km(ns:List (List ah))(w:List ah):List (List ah):=if w∈ns then ns else ns++[w]
theorem Hu(ns:List (List ah))(w:List ah):ns<+:km ns w:=by
 unfold km;split
 ·exact sZ _
 ·exact List.prefix_append _ _
theorem DW(ns:List (List ah))(w:List ah):w∈km ns w:=by
 unfold km;split
 ·assumption
 ·simp
theorem Fy{ns ms:List (List ah)}(h:ns<+:ms){w:List ah}(hw:w∈ns):ms.idxOf w=ns.idxOf w:=by obtain⟨l,rfl⟩:=h;rw[List.idxOf_append,bP hw]
def ic:T->List (List ah)->List (List ah)
 | .var n,ns=>km ns (hP n)
 | .pair a b,ns=>ic b (ic a ns)
 |_,ns=>ns
theorem xh:∀(t:T) (ns:List (List ah)),ns<+:ic t ns
 | .nil,ns=>sZ _
 | .num _,ns=>sZ _
 | .sym _,ns=>sZ _
 | .var n,ns=>Hu ns _
 | .pair a b,ns=>(xh a ns).trans (xh b _)
def gX(ms:List (List ah)):T->T
 | .var n=>.var (ms.idxOf (hP n))
 | .pair a b=>.pair (gX ms a) (gX ms b)
 |t=>t
theorem aiu{n:Int}(h:0<=n/\n<=100000):sT (itoa n)=true:=by unfold sT;rw[wP.2 ⟨by unfold aZ;omega,rfl⟩];simp[h]
theorem KB{n:Int}(h:0<=n/\n<=100000)(ns r:List (List ah)){ms:List (List ah)}(hm:km ns (hP n)<+:ms):
  num ns (hP n::r)=(num (km ns (hP n)) r).map fun x=>(hP (ms.idxOf (hP n))::x.1,x.2):=by
 unfold hP at*;rw[Ah,bP (aiu h)];have e:ms.idxOf (63::itoa n)=ns.idxOf (63::itoa n):=by
  rw[Fy hm (DW _ _)];unfold km;split
  ·rfl
  ·rename_i hw;rw[List.idxOf_append,bo hw,List.idxOf_cons_self,List.idxOf_eq_length hw];omega
 rw[e];rfl
mutual
theorem KC:∀(t:T) (ns r ms:List (List ah)),t.ok=true->ic t ns<+:ms->num ns (fF t++r)=(num (ic t ns) r).map fun x=>(fF (gX ms t)++x.1,x.2)
 | .nil,ns,r,ms,_,_=>by simp only[fF,ds,eW,gX,ic];rw[iF _ _ _ Ψ,iF _ _ _ Ψ];cases num ns r<;>rfl
 | .var n,ns,r,ms,h,hm=>by simp only[T.ok,ea]at h;have:=KB h ns r (ms:=ms) hm;simpa[fF,ic,gX,hP]using this
 | .sym s,ns,r,ms,h,_=>by simp only[fF,ds,eW,gX,ic];rw[iF _ _ _ (F0 (by simpa[T.ok]using h))]
 | .num n,ns,r,ms,_,_=>by simp only[fF,ds,eW,gX,ic];rw[iF _ _ _ (fun r e=>by have:=yh n 63 (by rw[e];simp);revert this;decide)]
 | .pair a b,ns,r,ms,h,hm=>by simp only[T.ok,bF]at h;simp only[fF,ds,iI,gX,ic];rw[iF _ _ _ Ψ,KC a ns _ ms h.1 ((xh b _).trans hm),SX b _ r ms h.2 hm];cases num (ic b (ic a ns)) r<;>rfl
theorem SX:∀(t:T) (ns r ms:List (List ah)),t.ok=true->ic t ns<+:ms->num ns (gM t++r)=(num (ic t ns) r).map fun x=>(gM (gX ms t)++x.1,x.2)
 | .nil,ns,r,ms,_,_=>by simp only[gM,ds,eW,gX,ic];rw[iF _ _ _ Ψ]
 | .var n,ns,r,ms,h,hm=>by simp only[T.ok,ea]at h;have:=KB h ns ([41]::r) (ms:=ms) hm;simp only[hP]at this;simp only[gM,ds,eW,gX,ic];rw[iF _ _ _ Ψ,this,iF _ _ _ Ψ];simp only[hP];cases num (km ns (63::itoa n)) r<;>rfl
 | .sym s,ns,r,ms,h,_=>by simp only[gM,ds,eW,gX,ic];rw[iF _ _ _ Ψ,iF _ _ _ (F0 (by simpa[T.ok]using h)),iF _ _ _ Ψ];cases num ns r<;>rfl
 | .num n,ns,r,ms,_,_=>by simp only[gM,ds,eW,gX,ic];rw[iF _ _ _ Ψ,iF _ _ _ (fun r e=>by have:=yh n 63 (by rw[e];simp);revert this;decide),iF _ _ _ Ψ];cases num ns r<;>rfl
 | .pair a b,ns,r,ms,h,hm=>by simp only[T.ok,bF]at h;simp only[gM,iI,gX,ic];rw[KC a ns _ ms h.1 ((xh b _).trans hm),SX b _ r ms h.2 hm];cases num (ic b (ic a ns)) r<;>simp
end
open Classical in
noncomputable def Bg(t:aV)(ns:List (List ah)):List (List ah):=if h:∃x:T,x.tm=t then ic (Classical.choose h) ns else ns
open Classical in
noncomputable def oS(ms:List (List ah))(t:aV):aV:=if h:∃x:T,x.tm=t then(gX ms (Classical.choose h)).tm else t
theorem Bh(x:T)(ns:List (List ah)):Bg x.tm ns=ic x ns:=by have h:∃y:T,y.tm=x.tm:=⟨x,rfl⟩;unfold Bg;rw[dif_pos h,G0 (Classical.choose_spec h)]
theorem Az(x:T)(ms:List (List ah)):oS ms x.tm=(gX ms x).tm:=by have h:∃y:T,y.tm=x.tm:=⟨x,rfl⟩;unfold oS;rw[dif_pos h,G0 (Classical.choose_spec h)]
theorem WA(t:aV)(ns:List (List ah)):ns<+:Bg t ns:=by
 unfold Bg;split
 ·exact xh _ _
 ·exact sZ _
noncomputable def kW:List aV->List (List ah)->List (List ah)
 |[],ns=>ns
 |x::xs,ns=>kW xs (Bg x ns)
theorem Bi:∀(t:List aV) (ns:List (List ah)),ns<+:kW t ns
 |[],ns=>sZ _
 |x::xs,ns=>(WA x ns).trans (Bi xs _)
mutual
noncomputable def lr:Gm->List (List ah)->List (List ah)
 | .mk _ _ t g,ns=>jM g (kW t ns)
noncomputable def jM:List Gm->List (List ah)->List (List ah)
 |[],ns=>ns
 |x::xs,ns=>jM xs (lr x ns)
end
mutual
noncomputable def ir(ms:List (List ah)):Gm->Gm
 | .mk k s t g=>.mk k s (t.map (oS ms)) (gL ms g)
noncomputable def gL(ms:List (List ah)):List Gm->List Gm
 |[]=>[]
 |x::xs=>ir ms x::gL ms xs
end
mutual
theorem MX:∀(g:Gm) (ns:List (List ah)),ns<+:lr g ns
 | .mk _ _ t g,ns=>by rw[lr];exact(Bi t ns).trans (vN g _)
theorem vN:∀(g:List Gm) (ns:List (List ah)),ns<+:jM g ns
 |[],ns=>by rw[jM];exact sZ _
 |x::xs,ns=>by rw[jM];exact(MX x ns).trans (vN xs _)
end
theorem ab0{k:Int}{s:List ah}{t:List aV}{g:List Gm}(h:(Gm.mk k s t g).shape=true)(aa:¬(k=0\/k=1)):∀r,q0 k s≠63::r:=by
 obtain⟨_,_,au⟩:=qv h;clear h;unfold q0;rcases au with⟨h,_⟩|⟨h,rfl,_⟩|⟨rfl,h,_⟩|⟨h,rfl,_⟩
 ·exact absurd h aa
 ·rw[bo Ω];rcases FJ (k:=k) (.inl h)with rfl|rfl|rfl|rfl|rfl|rfl|rfl|rfl<;>simp[h0,sW,sV,pO,pM,pJ,pK,pN,pL]
 ·rw[bP rfl];exact Lg h
 ·rw[bo Ω];rcases FJ (k:=k) (.inr h)with rfl|rfl|rfl|rfl|rfl|rfl|rfl|rfl<;>simp[h0,sW,sV,pO,pM,pJ,pK,pN,pL]
theorem SS:∀(t:List aV) (ns r ms:List (List ah)),(∀x∈t,x.fits=true)->kW t ns<+:ms->
  num ns (t.flatMap ui++r)=(num (kW t ns) r).map fun x=>((t.map (oS ms)).flatMap ui++x.1,x.2)
 |[],ns,r,ms,_,_=>by simp[kW]
 |x::t,ns,r,ms,ad,hm=>by obtain⟨y,rfl,bB⟩:=aV.fits_ex (ad x Ψ);simp only[kW]at hm;simp only[List.flatMap_cons,ek,iI,kW,Mz,Az];rw[Bh]at hm⊢;rw[KC y ns _ ms (p4 bB) ((Bi t _).trans hm),SS t _ r ms (fun z cp=>ad z (by simp[cp])) hm];cases num (kW t (ic y ns)) r<;>simp
mutual
theorem SU:∀(g:Gm) (ns r ms:List (List ah)),g.shape=true->lr g ns<+:ms->num ns (j0 g++r)=(num (lr g ns) r).map fun x=>(j0 (ir ms g)++x.1,x.2)
 | .mk k s t g,ns,r,ms,h,hm=>by
  obtain⟨I,J,aA⟩:=qv h;rw[ir,j0,j0,lr];rw[lr]at hm;by_cases aa:k=0\/k=1
  ·rw[bP aa,bP aa];have hw:∀r,h0 k≠63::r:=by rcases aa with rfl|rfl<;>simp[h0,hb,hQ]
   have aS:t=[]/\g=[]:=by
    rcases aA with aA|aA|aA|aA
    ·exact aA.2.2
    ·omega
    ·omega
    ·omega
   obtain⟨rfl,rfl⟩:=aS;simp only[ds,eW,kW,jM];rw[iF _ _ _ hw]
  ·rw[bo aa,bo aa];simp only[ds,iI,eW];rw[iF _ _ _ Ψ,iF _ _ _ (ab0 h aa),SS t ns _ ms I ((vN g _).trans hm),SV g _ _ ms J hm,iF _ _ _ Ψ];cases num (jM g (kW t ns)) r<;>simp
theorem SV:∀(g:List Gm) (ns r ms:List (List ah)),hO g=true->jM g ns<+:ms->num ns (lQ g++r)=(num (jM g ns) r).map fun x=>(lQ (gL ms g)++x.1,x.2)
 |[],ns,r,ms,_,_=>by simp[lQ,jM,gL]
 |x::g,ns,r,ms,h,hm=>by simp only[hO,bF]at h;rw[jM]at hm;rw[gL,lQ,lQ,jM,iI];rw[SU x ns _ ms h.1 ((vN g _).trans hm),SV g _ r ms h.2 hm];cases num (jM g (lr x ns)) r<;>simp
end
theorem Lm(ms:List (List ah)):∀t:T,(gX ms t).size=t.size
 | .nil=>rfl
 | .var _=>rfl
 | .sym _=>rfl
 | .num _=>rfl
 | .pair a b=>by simp only[gX,T.size,Lm ms a,Lm ms b]
theorem Ll{ms:List (List ah)}(h:ms.length<=100000):∀t:T,t.ok=true->(gX ms t).ok=true
 | .nil,_=>rfl
 | .var n,_=>by have:ms.idxOf (hP n)<=ms.length:=List.idxOf_le_length;simp only[gX,T.ok,ea];omega
 | .sym _,h=>h
 | .num _,h=>h
 | .pair a b,J=>by simp only[T.ok,gX,bF]at J⊢;exact⟨Ll h a J.1,Ll h b J.2⟩
theorem agV{ms:List (List ah)}(h:ms.length<=100000){t:T}(aI:t.fit=true):(gX ms t).fit=true:=by unfold T.fit at aI⊢;rw[Lm];simp only[bF]at aI⊢;exact⟨Ll h t aI.1,aI.2⟩
theorem Uy{ms:List (List ah)}(h:ms.length<=100000){t:aV}(aI:t.fits=true):(oS ms t).fits=true/\(oS ms t).kind=t.kind:=by obtain⟨x,rfl,ad⟩:=aV.fits_ex aI;rw[Az,aV.fits_T];exact⟨agV h ad,by cases x<;>rfl⟩
theorem Uq(ms:List (List ah)):∀g:List Gm,(gL ms g).length=g.length
 |[]=>by simp[gL]
 |x::xs=>by simp[gL,Uq ms xs]
mutual
theorem Lk(ms:List (List ah)):∀g:Gm,(ir ms g).sz=g.sz
 | .mk k s t g=>by rw[ir,Gm.sz,Gm.sz,Us ms g]
theorem Us(ms:List (List ah)):∀g:List Gm,jQ (gL ms g)=jQ g
 |[]=>by simp[gL]
 |x::xs=>by simp only[gL,jQ];rw[Lk ms x,Us ms xs]
end
theorem Uv(ms:List (List ah))(g:Gm):(ir ms g).kind=g.kind:=by cases g;rw[ir];rfl
mutual
theorem Lj{ms:List (List ah)}(h:ms.length<=100000):∀g:Gm,g.shape=true->(ir ms g).shape=true
 | .mk k s t g,aR=>by
  have I:=(qv aR).1;have J:=Ur h g (qv aR).2.1;have aA:(t.map (oS ms)).all aV.fits=true:=by rw[List.all_map,hq];exact fun x ad=>(Uy h (I x ad)).1
  have aS:(gL ms g).isEmpty=g.isEmpty:=by cases g<;>simp[gL]
  have bG:∀x∈t,(oS ms x).kind=x.kind:=fun x ad=>(Uy h (I x ad)).2;have dW:(t.map (oS ms)).isEmpty=t.isEmpty:=by cases t<;>rfl
  have fZ:hO (gL ms g)=hO g:=by rw[J,(qv aR).2.1]
  rw[ir];simp only[Gm.shape]at aR⊢;rw[aA,aS,dW,fZ,pR,Uq];rw[show t.all aV.fits=true from hq.2 I]at aR;clear I J aA aS dW fZ;cases t with
  |nil=>
   match g with
   |[]=>simpa only[gL,mQ]using aR
   |[x]=>simpa only[gL,mQ,Uv]using aR
   |x::y::l=>simpa only[gL,mQ]using aR
  |cons z t=>
   have ee:=bG z Ψ;match g with
   |[]=>simpa only[gL,ek,ee]using aR
   |[x]=>simpa only[gL,ek,ee,Uv]using aR
   |x::y::l=>simpa only[gL,ek,ee]using aR
theorem Ur{ms:List (List ah)}(h:ms.length<=100000):∀g:List Gm,hO g=true->hO (gL ms g)=true
 |[],_=>by simp[gL,hO]
 |x::xs,aR=>by simp only[hO,gL,bF]at aR⊢;exact⟨Lj h x aR.1,Ur h xs aR.2⟩
end
theorem aiz{g:Gm}(h:g.shape=true):p5 (j0 g):=by have:=GA g [] _ h (c7 _);obtain⟨p,I,J⟩:=Gz L5 I3 _ _ _ _ this;simp only[mg]at I;rw[I];exact J
def dz:Nat->Nat->List (List ah)
 |_,0=>[]
 |k,n+1=>hP k::dz (k+1) n
theorem wR:∀(n k:Nat),dz k (n+1)=dz k n++[hP ((k+n:Nat):Int)]
 |0,k=>by simp[dz]
 |n+1,k=>by rw[dz,wR n (k+1),dz];simp only[ds];rw[show k+1+n=k+(n+1)from by omega]
theorem yu:∀(n k:Nat),(dz k n).length=n
 |0,_=>rfl
 |n+1,k=>by simp[dz,yu n]
theorem Gl:∀(n k:Nat) (w:List ah),w∈dz k n->∃i,k<=i/\i<k+n/\w=hP (i:Nat)
 |0,_,_,h=>by simp[dz]at h
 |n+1,k,w,h=>by
  simp only[dz,gb]at h;rcases h with rfl|h
  ·exact⟨k,c7 _,Ω,rfl⟩
  ·obtain⟨i,I,J,aA⟩:=Gl n (k+1) w h;exact⟨i,Ω,Ω,aA⟩
theorem G9{k:Nat}(h:k<=100000):hP (k:Int)∉dz 0 k:=by intro hm;obtain⟨i,_,I,J⟩:=Gl k 0 _ hm;unfold hP at J;simp only[w9,true_and]at J;have:=adO (by unfold aZ;omega) (by unfold aZ;omega) J;omega
theorem KR:∀(n k:Nat) (r:List (List ah)),hp k (dz k n++[41]::r)=some (((k+n:Nat):Int),r)
 |0,k,r=>by simp[dz,hp]
 |n+1,k,r=>by simp only[dz,ds];rw[hp,bo (by simp[hP]),bP (show hP (k:Int)=63::itoa k from rfl),show((k:Int)+1)=((k+1:Nat):Int)from by omega,KR n (k+1) r];rw[show k+1+n=k+(n+1)from by omega]
theorem SR:∀(n k:Nat) (r:List (List ah)),k+n<=100000->num (dz 0 k) (dz k n++r)=(num (dz 0 (k+n)) r).map fun x=>(dz k n++x.1,x.2)
 |0,k,r,_=>by simp[dz]
 |n+1,k,r,h=>by
  have aJ:=G9 (k:=k) Ω;have bM:km (dz 0 k) (hP k)=dz 0 (k+1):=by unfold km;rw[bo aJ,wR];simp
  have aE:(dz 0 (k+1)).idxOf (hP (k:Int))=k:=by rw[wR,List.idxOf_append,bo aJ,yu,n9,List.idxOf_cons_self];omega
  have e:dz k (n+1)=hP k::dz (k+1) n:=rfl;rw[e];simp only[ds];rw[KB (n:=(k:Int)) Ω (dz 0 k) _ (ms:=dz 0 (k+1)) (by rw[bM];exact sZ _),bM,aE,SR n (k+1) r Ω];rw[show k+1+n=k+(n+1)from by omega];cases num (dz 0 (k+(n+1))) r<;>rfl
noncomputable def rC(a:Nat)(body:Gm):List (List ah):=dz 0 a++[41]::(j0 body++[[41]])
noncomputable def uh(name:List ah)(a:Nat)(body:Gm):List (List ah):=[40]::ha::[40]::name::rC a body
noncomputable def iv(a:Nat)(body:Gm):List (List ah):=lr body (dz 0 a)
theorem aeT{a:Nat}{body:Gm}(bM:a<=100000)(ao:body.shape=true):num [] (rC a body)=some (rC a (ir (iv a body) body),iv a body):=by unfold rC;have I:=SR a 0 ([41]::(j0 body++[[41]])) Ω;rw[show dz 0 0=[]from rfl,n9]at I;rw[I,iF _ _ _ Ψ,SU body (dz 0 a) [[41]] (iv a body) ao (sZ _),iF _ _ _ Ψ];simp[num,iv]
theorem XX{name:List ah}{a c:Nat}{g:Gm}(aR:g.shape=true):ot name c (rC a g)=some (⟨name,a,c-a,g⟩,[]):=by unfold ot rC;have I:=KR a 0 (j0 g++[[41]]);rw[show((0:Nat):Int)=0 from rfl,n9]at I;rw[I];simp only;rw[GA g [[41]] _ aR (by simp;omega)];rfl
theorem Ul{name:List ah}(h:eS name=true):name≠[40]/\name≠[41]:=vi (u0 (vq h))
theorem aix{name:List ah}(aJ:eS name=true){a:Nat}{body:Gm}(ao:body.shape=true):p5 (uh name a body):=by have bK:=KR a 0 [];obtain⟨p,I,bn⟩:=Db _ _ _ _ bK;rw[mg]at I;subst I;have bA:=oz (aiz ao) zd;have I:=oz (tB (Ul aJ).1 (Ul aJ).2) bn;have aA:=oz (ze I) bA;have aS:=ze (oz (tB (w:=ha) (by decide) (by decide)) aA);simpa[uh,rC]using aS
theorem X2{name:List ah}{a:Nat}{body:Gm}(aJ:eS name=true)(bM:a<=4)(ao:body.shape=true)(aG:(iv a body).length<=100000)(r:List (List ah)):
  mv (uh name a body++r)=some (⟨name,a,(iv a body).length-a,ir (iv a body) body⟩,r):=by
 have:=(Ie (l:=rC a body++r) (r:=r) (x:=⟨name,a,(iv a body).length-a,ir (iv a body) body⟩) aJ).2
  ⟨rC a body,iv a body,rC a (ir (iv a body) body),rfl,aeT Ω ao,XX (Lj aG body ao),aix aJ ao⟩
 simpa[uh]using this
noncomputable def nB:List Rl->List (List ah)
 |[]=>[]
 |x::xs=>uh x.name x.ar.toNat x.body++nB xs
noncomputable def Rl.num(x:Rl):Rl:=⟨x.name,x.ar,(iv x.ar.toNat x.body).length-x.ar,ir (iv x.ar.toNat x.body) x.body⟩
theorem Ue:∀(P:List Rl) (n:Nat),(∀x∈P,eS x.name=true/\(0<=x.ar/\x.ar<=4)/\x.body.shape=true/\(iv x.ar.toNat x.body).length<=100000)->P.length<=n->lN n (nB P)=some (P.map Rl.num)
 |[],n,_,_=>by cases n<;>rfl
 |x::P,n,h,aJ=>by
  cases n with
  |zero=>simp at aJ
  |succ n=>
   obtain⟨I,J,aA,aS⟩:=h x Ψ;have aP:=X2 I (a:=x.ar.toNat) Ω aA aS (nB P);have bp:=Ue P n (fun y bB=>h y (by simp[bB])) (by simpa using aJ);have e:((x.ar.toNat:Nat):Int)=x.ar:=Ω
   rw[e]at aP;have aU:nB (x::P)=[40]::(ha::[40]::x.name::rC x.ar.toNat x.body++nB P):=by simp[nB,uh]
   have b1:uh x.name x.ar.toNat x.body++nB P=nB (x::P):=rfl;rw[b1]at aP;rw[aU]at aP⊢;rw[lN,aP]
   ·simp only[bp];rfl
   ·intro e;cases e
noncomputable def tt(x:Rl):List ah:=[40]++ha++[32,40]++fK [32] (x.name::dz 0 x.ar.toNat)++[41,32]++ff x.body++[41,10]
noncomputable def hi:List Rl->List ah
 |[]=>[]
 |x::xs=>tt x++hi xs
theorem agh{n k:Nat}{w:List ah}(h:w∈dz k n):(∀c∈w,fR c=true)/\w≠[]:=by obtain⟨i,_,_,rfl⟩:=Gl n k w h;exact⟨DM _,by simp[hP]⟩
theorem ahJ{x:Rl}(aJ:eS x.name=true)(ao:x.body.shape=true)(r:List ah):dp (tt x++r)=uh x.name x.ar.toNat x.body++dp r:=by
 have aP:(∀c∈ha,fR c=true)/\ha≠[]:=by decide
 have hw:∀w∈x.name::dz 0 x.ar.toNat,(∀c∈w,fR c=true)/\w≠[]:=by
  intro w h;rcases gb.1 h with rfl|h
  ·exact⟨u0 (vq aJ),Ab (vq aJ)⟩
  ·exact agh h
 have I:=L1 (x.name::dz 0 x.ar.toNat) (fun w=>[w]) ([41,32]++(ff x.body++([41,10]++r))) (fun w h r hr=>by rw[qx (hw w h).1 (hw w h).2 hr];rfl) (by simp[im,jN]) Ψ;have e:∀l:List (List ah),l.flatMap (fun w=>[w])=l:=by intro l;induction l with|nil=>rfl|cons x l bp=>simp[bp]
 rw[e]at I;unfold tt uh rC;simp only[iI];rw[List.singleton_append,rv (.inl rfl),qx aP.1 aP.2 (by simp[im,jN])];simp only[ds,eW]at I⊢;rw[yO,rv (.inl rfl),I,rv (.inr rfl),yO,DB x.body _ ao (by simp[im,jN]),rv (.inr rfl),ahK];simp
theorem GZ:∀(P:List Rl) (r:List ah),(∀x∈P,eS x.name=true/\x.body.shape=true)->dp (hi P++r)=nB P++dp r
 |[],_,_=>rfl
 |x::P,r,h=>by simp only[hi,nB,iI];rw[ahJ (h x Ψ).1 (h x Ψ).2,GZ P r fun y bB=>h y (by simp[bB])]
theorem Gk:∀(n k i:Nat),k<=i->i<k+n->hP (i:Int)∈dz k n
 |0,_,_,_,_=>Ω
 |n+1,k,i,I,J=>by
  rw[dz];by_cases e:i=k
  ·subst e;simp
  ·exact List.mem_cons_of_mem _ (Gk n (k+1) i Ω Ω)
theorem TH(k:Nat):∀m:Nat,dz 0 k<+:dz 0 (k+m)
 |0=>sZ _
 |m+1=>(TH k m).trans (by rw[show k+(m+1)=(k+m)+1 from rfl,wR];exact List.prefix_append _ _)
theorem age{n i:Nat}(h:i<n)(aJ:n<=100000):(dz 0 n).idxOf (hP (i:Int))=i:=by
 have bn:dz 0 (i+1)<+:dz 0 n:=by have:=TH (i+1) (n-(i+1));rwa[show i+1+(n-(i+1))=n from by omega]at this
 have hm:hP (i:Int)∈dz 0 (i+1):=Gk _ _ _ Ω Ω;rw[Fy bn hm,wR,List.idxOf_append,bo (G9 Ω),yu,n9,List.idxOf_cons_self];omega
theorem TC{ns ms:List (List ah)}(h:ns<+:ms):ns.length<=ms.length:=h.length_le
theorem WB{ns ms:List (List ah)}{w:List ah}(h:km ns w<+:ms)(aG:ms.length<=100000):km (dz 0 ns.length) (hP (ms.idxOf w:Nat))=dz 0 (km ns w).length:=by
 have bK:=TC ((Hu ns w).trans h);by_cases hw:w∈ns
 ·have e:km ns w=ns:=by unfold km;rw[bP hw]
  rw[e];have aE:ms.idxOf w=ns.idxOf w:=Fy ((Hu ns w).trans h) hw;have J:ns.idxOf w<ns.length:=List.idxOf_lt_length_of_mem hw;unfold km;rw[aE,bP (Gk _ _ _ Ω Ω)]
 ·have e:km ns w=ns++[w]:=by unfold km;rw[bo hw]
  have aE:ms.idxOf w=ns.length:=by rw[Fy h (DW _ _),e,List.idxOf_append,bo hw,List.idxOf_cons_self];omega
  rw[aE,e];unfold km;rw[bo (G9 Ω),fU,List.length_singleton,wR,n9]
theorem Hr{ms:List (List ah)}(aG:ms.length<=100000):∀(t:T) (ns:List (List ah)),ic t ns<+:ms->ic (gX ms t) (dz 0 ns.length)=dz 0 (ic t ns).length/\gX (dz 0 ms.length) (gX ms t)=gX ms t
 | .nil,_,_=>⟨rfl,rfl⟩
 | .sym _,_,_=>⟨rfl,rfl⟩
 | .num _,_,_=>⟨rfl,rfl⟩
 | .var n,ns,h=>by refine⟨WB h aG,?_⟩;simp only[gX];have hm:hP n∈ms:=h.subset (DW ns (hP n));rw[age (List.idxOf_lt_length_of_mem hm) aG]
 | .pair a b,ns,h=>by
  have I:=Hr aG a ns ((xh b _).trans h);have J:=Hr aG b (ic a ns) h;refine⟨?_,?_⟩
  ·simp only[ic,gX];rw[I.1,J.1]
  ·simp only[gX];rw[I.2,J.2]
theorem M0{ms:List (List ah)}(aG:ms.length<=100000):∀(t:List aV) (ns:List (List ah)),(∀x∈t,x.fits=true)->kW t ns<+:ms->kW (t.map (oS ms)) (dz 0 ns.length)=dz 0 (kW t ns).length/\(t.map (oS ms)).map (oS (dz 0 ms.length))=t.map (oS ms)
 |[],_,_,_=>⟨rfl,rfl⟩
 |x::t,ns,ad,h=>by
  obtain⟨y,rfl,bB⟩:=aV.fits_ex (ad x Ψ);simp only[kW,Bh]at h;have I:=Hr aG y ns ((Bi t _).trans h);have J:=M0 aG t (ic y ns) (fun z cp=>ad z (by simp[cp])) h;refine⟨?_,?_⟩
  ·simp only[ek,kW,Az,Bh];rw[I.1,J.1]
  ·simp only[ek,Az];rw[I.2,J.2]
mutual
theorem MY{ms:List (List ah)}(aG:ms.length<=100000):∀(g:Gm) (ns:List (List ah)),g.shape=true->lr g ns<+:ms->lr (ir ms g) (dz 0 ns.length)=dz 0 (lr g ns).length/\ir (dz 0 ms.length) (ir ms g)=ir ms g
 | .mk k s t g,ns,aR,h=>by
  obtain⟨I,J,_⟩:=qv aR;rw[lr]at h;have aA:=M0 aG t ns I ((vN g _).trans h);have aS:=MV aG g (kW t ns) J h;refine⟨?_,?_⟩
  ·rw[ir,lr,lr,aA.1,aS.1]
  ·rw[ir,ir,aA.2,aS.2]
theorem MV{ms:List (List ah)}(aG:ms.length<=100000):∀(g:List Gm) (ns:List (List ah)),hO g=true->jM g ns<+:ms->jM (gL ms g) (dz 0 ns.length)=dz 0 (jM g ns).length/\gL (dz 0 ms.length) (gL ms g)=gL ms g
 |[],_,_,_=>by simp[gL,jM]
 |x::g,ns,aR,h=>by
  simp only[hO,bF]at aR;rw[jM]at h;have aA:=MY aG x ns aR.1 ((vN g _).trans h);have aS:=MV aG g (lr x ns) aR.2 h;refine⟨?_,?_⟩
  ·rw[gL,jM,jM,aA.1,aS.1]
  ·rw[gL,gL,aA.2,aS.2]
end
theorem Rl.num_num{x:Rl}(h:x.body.shape=true)(aG:(iv x.ar.toNat x.body).length<=100000):x.num.num=x.num/\iv x.num.ar.toNat x.num.body=dz 0 (iv x.ar.toNat x.body).length:=by have I:=MY aG x.body (dz 0 x.ar.toNat) h (sZ _);rw[yu]at I;have J:iv x.num.ar.toNat x.num.body=dz 0 (iv x.ar.toNat x.body).length:=I.1;refine⟨?_,J⟩;show Rl.mk x.num.name x.num.ar ((iv x.num.ar.toNat x.num.body).length-x.num.ar) (ir (iv x.num.ar.toNat x.num.body) x.num.body)=x.num;rw[J,yu];show Rl.mk x.name x.ar ((iv x.ar.toNat x.body).length-x.ar) (ir (dz 0 (iv x.ar.toNat x.body).length) (ir (iv x.ar.toNat x.body) x.body))=x.num;rw[I.2];rfl
theorem SN{α:Type}[DecidableEq α]:∀(l m:List α),l.Nodup->(∀x∈l,x∈m)->l.length<=m.length
 |[],_,_,_=>by simp
 |x::l,m,h,hm=>by
  rw[List.nodup_cons]at h;have I:=SN l (m.erase x) h.2 fun y bB=>by have cD:y≠x:=fun e=>h.1 (e▸bB);rw[List.mem_erase_of_ne cD];exact hm y (by simp[bB])
  rw[List.length_erase_of_mem (hm x Ψ)]at I;have:0<m.length:=List.length_pos_of_mem (hm x Ψ);simp only[ga];omega
def rr(b:Int)(ns:List (List ah)):Prop:=ns.Nodup/\∀w∈ns,∃v:Int,w=hP v/\0<=v/\v<b
theorem M3{b:Int}{ns:List (List ah)}(h:rr b ns){v:Int}(bK:0<=v)(I:v<b):rr b (km ns (hP v)):=by
 unfold km;split
 ·exact h
 ·rename_i aJ;refine⟨?_,fun w hw=>?_⟩
  ·rw[rG];refine⟨h.1,Ψ,fun a bM c aH e=>?_⟩;rw[mi]at aH;subst aH;subst e;exact aJ bM
  ·rcases fM.1 hw with hw|hw
   ·exact h.2 w hw
   ·exact⟨v,mi.1 hw,bK,I⟩
theorem Hs{b:Int}:∀(t:T) (ns:List (List ah)),t.ok=true->(∀v∈t.tm.vs,v<b)->rr b ns->rr b (ic t ns)
 | .nil,_,_,_,h=>h
 | .sym _,_,_,_,h=>h
 | .num _,_,_,_,h=>h
 | .var n,ns,az,aK,h=>by simp only[T.ok,ea]at az;exact M3 h az.1 (aK n (by simp[T.tm,aV.vs]))
 | .pair x y,ns,az,aK,h=>by simp only[T.ok,bF]at az;simp only[T.tm,aV.vs,aV.vsL,mg,fM]at aK;exact Hs y _ az.2 (fun v h=>aK v (by simp[h])) (Hs x ns az.1 (fun v h=>aK v (by simp[h])) h)
theorem M1{b:Int}:∀(t:List aV) (ns:List (List ah)),(∀x∈t,x.fits=true)->(∀v∈aV.vsL t,v<b)->rr b ns->rr b (kW t ns)
 |[],_,_,_,h=>h
 |x::t,ns,ad,aK,h=>by obtain⟨y,rfl,bB⟩:=aV.fits_ex (ad x Ψ);simp only[aV.vsL,fM]at aK;simp only[kW,Bh];exact M1 t _ (fun z cp=>ad z (by simp[cp])) (fun v h=>aK v (.inr h)) (Hs y ns (p4 bB) (fun v h=>aK v (.inl h)) h)
mutual
theorem MZ{b:Int}:∀(g:Gm) (ns:List (List ah)),g.shape=true->(∀v∈g.vs,v<b)->rr b ns->rr b (lr g ns)
 | .mk k s t g,ns,aR,aK,h=>by obtain⟨I,J,_⟩:=qv aR;simp only[Gm.vs,fM]at aK;rw[lr];exact MW g _ J (fun v h=>aK v (.inr h)) (M1 t ns I (fun v h=>aK v (.inl h)) h)
theorem MW{b:Int}:∀(g:List Gm) (ns:List (List ah)),hO g=true->(∀v∈Gm.vsL g,v<b)->rr b ns->rr b (jM g ns)
 |[],ns,_,_,h=>by rw[jM];exact h
 |x::g,ns,aR,aK,h=>by simp only[hO,bF]at aR;simp only[Gm.vsL,fM]at aK;rw[jM];exact MW g _ aR.2 (fun v h=>aK v (.inr h)) (MZ x ns aR.1 (fun v h=>aK v (.inl h)) h)
end
theorem TI{b:Int}:∀a:Nat,(a:Int)<=b->a<=100000->rr b (dz 0 a)
 |0,_,_=>⟨by simp[dz],by simp[dz]⟩
 |a+1,h,aG=>by have:=M3 (b:=b) (TI a Ω Ω) (v:=(a:Int)) Ω Ω;unfold km at this;rw[bo (G9 Ω)]at this;rw[wR,n9];exact this
theorem ahH{b:Int}{ns:List (List ah)}(h:rr b ns)(bK:0<=b):(ns.length:Int)<=b:=by
 have:=SN ns (dz 0 b.toNat) h.1 fun w hw=>by obtain⟨v,rfl,I,J⟩:=h.2 w hw;have:=Gk b.toNat 0 v.toNat Ω Ω;rwa[show((v.toNat:Nat):Int)=v from by omega]at this
 rw[yu]at this;omega
theorem Vg{x:Rl}(h:x.body.shape=true)(bM:0<=x.ar/\x.ar<=4)(aG:0<=x.loc)(aK:∀v∈x.body.vs,v<x.ar+x.loc):x.ar<=(iv x.ar.toNat x.body).length/\((iv x.ar.toNat x.body).length:Int)<=x.ar+x.loc:=by refine⟨?_,ahH (MZ x.body _ h aK (TI _ Ω Ω)) Ω⟩;have:=TC (MX x.body (dz 0 x.ar.toNat));rw[yu]at this;unfold iv;omega
theorem Ln{ms:List (List ah)}:∀(t:T) (ns:List (List ah)),ic t ns<+:ms->∀v∈(gX ms t).tm.vs,v<ms.length
 | .nil,_,_,v,h=>by simp[gX,T.tm,aV.vs,aV.vsL]at h
 | .sym _,_,_,v,h=>by simp[gX,T.tm,aV.vs,aV.vsL]at h
 | .num _,_,_,v,h=>by simp[gX,T.tm,aV.vs,aV.vsL]at h
 | .var n,ns,hm,v,h=>by simp only[gX,T.tm,aV.vs,if_true,mi]at h;have:=List.idxOf_lt_length_of_mem (hm.subset (DW ns (hP n)));omega
 | .pair a b,ns,hm,v,h=>by
  simp[gX,T.tm,aV.vs,aV.vsL]at h;rcases h with h|h
  ·exact Ln a ns ((xh b _).trans hm) v h
  ·exact Ln b _ hm v h
theorem Uz{ms:List (List ah)}:∀(t:List aV) (ns:List (List ah)),(∀x∈t,x.fits=true)->kW t ns<+:ms->∀v∈aV.vsL (t.map (oS ms)),v<ms.length
 |[],_,_,_,v,h=>by simp[aV.vsL]at h
 |x::t,ns,ad,hm,v,h=>by
  obtain⟨y,rfl,bB⟩:=aV.fits_ex (ad x Ψ);simp only[kW,Bh]at hm;simp only[ek,aV.vsL,Az,fM]at h;rcases h with h|h
  ·exact Ln y ns ((Bi t _).trans hm) v h
  ·exact Uz t _ (fun z cp=>ad z (by simp[cp])) hm v h
mutual
theorem Uw{ms:List (List ah)}:∀(g:Gm) (ns:List (List ah)),g.shape=true->lr g ns<+:ms->∀v∈(ir ms g).vs,v<ms.length
 | .mk k s t g,ns,aR,hm,v,h=>by
  obtain⟨I,J,_⟩:=qv aR;rw[lr]at hm;rw[ir]at h;simp only[Gm.vs,fM]at h;rcases h with h|h
  ·exact Uz t ns I ((vN g _).trans hm) v h
  ·exact Ut g _ J hm v h
theorem Ut{ms:List (List ah)}:∀(g:List Gm) (ns:List (List ah)),hO g=true->jM g ns<+:ms->∀v∈Gm.vsL (gL ms g),v<ms.length
 |[],_,_,_,v,h=>by simp[gL,Gm.vsL]at h
 |x::g,ns,aR,hm,v,h=>by
  simp only[hO,bF]at aR;rw[jM]at hm;rw[gL]at h;simp only[Gm.vsL,fM]at h;rcases h with h|h
  ·exact Uw x ns aR.1 ((vN g _).trans hm) v h
  ·exact Ut g _ aR.2 hm v h
end
theorem PS(s:List ah):∀P:List Rl,(P.map Rl.num).find? (fun r=>r.name==s)=(P.find? fun r=>r.name==s).map Rl.num
 |[]=>rfl
 |x::P=>by
  simp only[ek,List.find?_cons,show x.num.name=x.name from rfl];cases x.name==s with
  |true=>rfl
  |false=>exact PS s P
mutual
theorem OP(P:List Rl)(ms:List (List ah)):∀g:Gm,(ir ms g).cf (P.map Rl.num)=g.cf P
 | .mk k s t g=>by rw[ir,Gm.cf,Gm.cf,ON P ms g,PS,pR];cases P.find? fun r=>r.name==s<;>rfl
theorem ON(P:List Rl)(ms:List (List ah)):∀g:List Gm,Gm.cfL (P.map Rl.num) (gL ms g)=Gm.cfL P g
 |[]=>by rw[gL,Gm.cfL,Gm.cfL]
 |x::g=>by rw[gL,Gm.cfL,Gm.cfL,OP P ms x,ON P ms g]
end
theorem Th{P:List Rl}{x:Rl}(h:x.ok P=true):x.num.ok (P.map Rl.num)=true/\x.num.loc<=x.loc:=by simp only[Rl.ok,Gm.fits,bF,hq,ea]at h;obtain⟨⟨⟨⟨⟨I,J⟩,aA⟩,aS,bG⟩,cq⟩,dW⟩:=h;have aG:=Vg aS J aA.1 cq;have aB:x.num.loc=(iv x.ar.toNat x.body).length-x.ar:=rfl;have aU:x.num.body=ir (iv x.ar.toNat x.body) x.body:=rfl;have b1:x.num.ar=x.ar:=rfl;refine⟨?_,Ω⟩;simp only[Rl.ok,Gm.fits,bF,hq,ea];rw[aU,b1,aB];refine⟨⟨⟨⟨⟨I,J⟩,Ω⟩,Lj Ω _ aS,by rw[Lk];exact bG⟩,fun v aK=>?_⟩,by rw[OP];exact dW⟩;have:=Uw x.body _ aS (sZ _) v aK;unfold iv at*;omega
theorem S5{P:List Rl}(h:gC P=true):gC (P.map Rl.num)=true:=by
 simp only[gC,bF,hq,ea]at h⊢;refine⟨⟨by rw[pR];exact h.1.1,?_⟩,fun x ad=>?_⟩
 ·rw[List.map_map];exact h.1.2
 ·obtain⟨y,bB,rfl⟩:=n8.1 ad;exact(Th (h.2 y bB)).1
theorem nv{P:List Rl}(h:gC P=true){x:Rl}(ad:x∈P):eS x.name=true/\(0<=x.ar/\x.ar<=4)/\x.body.shape=true/\(iv x.ar.toNat x.body).length<=100000:=by simp only[gC,bF,hq]at h;have h:=h.2 x ad;simp only[Rl.ok,Gm.fits,bF,hq,ea]at h;obtain⟨⟨⟨⟨⟨I,J⟩,aA⟩,aS,bG⟩,cq⟩,dW⟩:=h;have aG:=Vg aS J aA.1 cq;exact⟨I,J,aS,Ω⟩
theorem agT{P:List Rl}(h:gC P=true){n:Nat}(aJ:P.length<=n){r:List ah}(hr:dp r=[]):nA (lN n (dp (hi P++r)))=some (P.map Rl.num):=by rw[GZ P r fun x ad=>⟨(nv h ad).1,(nv h ad).2.2.1⟩,hr,mg,Ue P n (fun x ad=>nv h ad) aJ];exact DN.2 ⟨rfl,S5 h⟩
theorem aeR{P:List Rl}(h:gC P=true):(P.map Rl.num).map Rl.num=P.map Rl.num:=by rw[List.map_map];exact List.map_congr_left fun x ad=>(Rl.num_num (nv h ad).2.2.1 (nv h ad).2.2.2).1
theorem ahL(s:List ah)(h:∀c∈s,mJ c=true):dp (59::s)=[]:=by
 rw[sL,bo (by decide),bP rfl];have:s.dropWhile mJ=[]:=by
  induction s with
  |nil=>rfl
  |cons c s bp=>rw[List.dropWhile_cons,bP (h c Ψ)];exact bp fun d aP=>h d (by simp[aP])
 rw[this,rs]
def jd(s:List ah):Prop:= ∀c∈s,nX c=true
theorem nV{a b:List ah}(bM:jd a)(ao:jd b):jd (a++b):=fun c h=>(fM.1 h).elim (bM c) (ao c)
theorem nW{x:ah}{b:List ah}(bM:nX x=true)(ao:jd b):jd (x::b):=fun c h=>by
 rcases gb.1 h with rfl|h
 ·exact bM
 ·exact ao c h
theorem KE(n:Int):jd (itoa n):=fun c h=>by have:=yh n c h;simp only[nX,Bool.or_eq_true,dK,bF,ea];exact .inr Ω
theorem Ga{s:List ah}(h:fA s=true):jd s:=fun c aH=>by
 obtain⟨x,r,rfl,I,J,_⟩:=yo h;have:kv c=true:=by
  rcases gb.1 aH with rfl|aH
  ·unfold kv;rw[I];rfl
  ·exact J c aH
 simp only[kv,low,Bool.or_eq_true,ea,dK]at this;simp only[nX,Bool.or_eq_true,dK,bF,ea];omega
theorem KG(n:Int):jd (63::itoa n):=nW (by decide) (KE n)
theorem yp{x:ah}(h:nX x=true):jd [x]:=nW h (fun _ h=>by cases h)
mutual
theorem KD:∀t:T,t.ok=true->jd (dw t)
 | .nil,_=>by rw[dw];exact nW (by decide) (yp (by decide))
 | .var n,_=>by rw[dw];exact KG n
 | .sym s,h=>by rw[dw];exact Ga (by simpa[T.ok]using h)
 | .num n,_=>by rw[dw];exact KE n
 | .pair a b,h=>by simp only[T.ok,bF]at h;rw[dw];exact nW (by decide) (nV (KD a h.1) (S0 b h.2))
theorem S0:∀t:T,t.ok=true->jd (e9 t)
 | .nil,_=>by rw[e9];exact yp (by decide)
 | .var n,_=>by rw[e9];exact nW (by decide) (nW (by decide) (nW (by decide) (nV (KG n) (yp (by decide)))))
 | .sym s,h=>by rw[e9];exact nW (by decide) (nW (by decide) (nW (by decide) (nV (Ga (by simpa[T.ok]using h)) (yp (by decide)))))
 | .num n,_=>by rw[e9];exact nW (by decide) (nW (by decide) (nW (by decide) (nV (KE n) (yp (by decide)))))
 | .pair a b,h=>by simp only[T.ok,bF]at h;rw[e9];exact nW (by decide) (nV (KD a h.1) (S0 b h.2))
end
theorem KF:∀l:List (List ah),(∀x∈l,jd x)->jd (fK [32] l)
 |[],_=>fun _ h=>by cases h
 |[x],h=>h x Ψ
 |x::y::r,h=>by rw[fK];exact nV (nV (h x Ψ) (yp (by decide))) (KF (y::r) fun z cp=>h z (by simp only[gb]at cp⊢;exact .inr cp))
theorem S1(k:Int):jd (h0 k):=by
 unfold h0 jd;repeat' split
 all_goals decide
mutual
theorem F9:∀g:Gm,g.shape=true->jd (ff g)
 | .mk k s t g,h=>by
  obtain⟨I,J,aA⟩:=qv h;rw[ff];split
  ·exact S1 k
  ·refine nW (by decide) (nV (KF _ fun x ad=>?_) (yp (by decide)));simp only[gb,fM,n8]at ad;rcases ad with rfl|⟨y,bB,rfl⟩|ad
   ·split
    ·rename_i aa;have:eS s=true:=by
      rcases aA with aA|aA|aA|aA
      ·omega
      ·omega
      ·exact aA.2.1
      ·omega
     exact Ga (vq this)
    ·exact S1 k
   ·obtain⟨z,rfl,cp⟩:=aV.fits_ex (I y bB);rw[GY];exact KD z (p4 cp)
   ·exact SY g J x ad
theorem SY:∀g:List Gm,hO g=true->∀x∈p3 g,jd x
 |[],_,x,ad=>by simp[p3]at ad
 |y::g,h,x,ad=>by
  simp only[hO,bF]at h;simp only[p3,gb]at ad;rcases ad with rfl|ad
  ·exact F9 y h.1
  ·exact SY g h.2 x ad
end
theorem af2{g:Gm}(h:g.fits 80=true)(aG:(ff g).length<100000)(hw:(j0 g).length<=20000):Aq (ff g)=some g/\Aq (32::ff g)=some g:=by
 have au:g.shape=true:=by unfold Gm.fits at h;simp only[bF]at h;exact h.1
 have aI:dp (ff g)=j0 g:=DD fun r hr=>DB g r au hr;have hr:=GA g [] (2*(j0 g).length+1) au Ω;rw[mg]at hr;have I:gG (ff g)=some (j0 g):=by unfold gG;rw[aI,bP ⟨Ω,F9 g au,hw⟩]
 have J:gG (32::ff g)=some (j0 g):=by unfold gG;rw[yO,aI,bP ⟨by simp only[ga];omega,nW (by decide) (F9 g au),hw⟩]
 constructor<;>unfold Aq
 ·rw[I];simp only;rw[hr];simp only;rw[bP h]
 ·rw[J];simp only;rw[hr];simp only;rw[bP h]
end
section
open Go
def T.ap(uj:Int->T):T->T
 | .var n=>uj n
 | .pair a b=>.pair (a.ap uj) (b.ap uj)
 |t=>t
def ahf(s:List j4)(v:Int):T:=(WO s v).getD (.var v)
abbrev MI(s:List j4):Prop:=s.Pairwise fun x y=>x.v<y.v
def one(v:Int)(x:T)(w:Int):T:=if w=v then x else .var w
def Vj{α:Type}(k:Int):List (Int×α)->a1 α
 |[]=>none
 |(i,v)::r=>if k=i then some v else Vj k r
def J7{α:Type}(m:List (Int×α)):List Int:=m.map (·.1)
structure MK where
 up:List (Int×Int)
 shape:List (Int×T)
 shaped:List (Int×Bool)
 color:List (Int×Int)
 size:List (Int×Int)
 full:List (Int×T)
structure Wu (m:List (Int×Int)) (hR:Int->Int):Prop where
 up:∀v u,Vj v m=some u->(0<=u/\u<=v/\u∈J7 m)/\hR u=hR v/\(hR v=v↔u=v)
 no:∀v,v∉J7 m->hR v=v
def Wx(ph:Int->a1 T)(hR:Int->Int)(uj:Int->T):Prop:=(∀v,uj v=uj (hR v))/\∀x t,hR x=x->ph x=some t->uj x=t.ap uj
def Ww(V:List Int)(ph:Int->a1 T):Prop:= ∀x t,ph x=some t->t.kind≠1/\(∀w,t.occ w=true->w∈V)/\x∈V
end
section
open Go
section
variable {ph:Int->a1 T} {hR:Int->Int} {r:Int->Nat}
end
section
variable {c:MK} {hR:Int->Int} {x y:Int}
end
end
section
open Go
def cut(n:Nat):Int:=if 5001<(n:Int)then 5001 else n
section
variable {V:List Int} {ph:Int->a1 T} {hR:Int->Int} {r:Int->Nat}
end
end
section
open Go
section
variable {V:List Int} {ph:Int->a1 T} {hR:Int->Int} {r:Int->Nat}
end
end
section
open Go
end
section
open Go Go.Lib
theorem F1{s:List ah}(h:fA s=true):s.length<=12:=by obtain⟨c,r,rfl,_,_,aA⟩:=yo h;simp;omega
mutual
theorem Ex:∀t:T,t.ok=true->(dw t).length<=26*t.size
 | .nil,_=>by simp[dw,T.size]
 | .var n,h=>by simp only[T.ok,ea]at h;have:=itoa_length_le n Ω Ω;simp only[dw,T.size,ga];omega
 | .sym s,h=>by have:=F1 (s:=s) (by simpa[T.ok]using h);simp only[dw,T.size];omega
 | .num n,h=>by simp only[T.ok,ea]at h;have:=itoa_length_le n Ω Ω;simp only[dw,T.size];omega
 | .pair a b,h=>by simp only[T.ok,bF]at h;have I:=Ex a h.1;have J:=Pw b h.2;simp only[dw,T.size,ga,fU];omega
theorem Pw:∀t:T,t.ok=true->(e9 t).length<=26*t.size
 | .nil,_=>by simp[e9,T.size]
 | .var n,h=>by simp only[T.ok,ea]at h;have:=itoa_length_le n Ω Ω;simp only[e9,T.size,ga,fU,mh];omega
 | .sym s,h=>by have:=F1 (s:=s) (by simpa[T.ok]using h);simp only[e9,T.size,ga,fU,mh];omega
 | .num n,h=>by simp only[T.ok,ea]at h;have:=itoa_length_le n Ω Ω;simp only[e9,T.size,ga,fU,mh];omega
 | .pair a b,h=>by simp only[T.ok,bF]at h;have I:=Ex a h.1;have J:=Pw b h.2;simp only[e9,T.size,ga,fU];omega
end
structure MM (s t:List j4):Prop where
 sa:MI s
 sv:∀b∈s,4<=b.v/\b.v<8
 so:∀b∈s,b.t.ok=true/\b.t.size<=16/\∀w,b.t.occ w=true->0<=w/\w<4
 ta:MI t
 tk:∃k:Int,∀b∈t,0<=b.v/\b.v<4/\k<=b.v/\∀w,b.t.occ w=true->0<=w/\w<k
 to:∀b∈t,b.t.ok=true/\b.t.size<=16
def Hv(t:List j4)(b:j4):j4:=⟨b.v,b.t.ap (ahf t)⟩
section
variable {s t:List j4} (h:MM s t)
include h
end
section
variable {s t:List j4} (h:MM s t)
include h
end
end
end Go.Pv
namespace Go.Proofs.YtlnndmgfngfeiaaGreatDoor
section
open Go Go.Pv
theorem Zk(t:T)(h:t.ok=true):dw t≠[]:=by
 cases t with
 |sym s=>simp only[dw];exact Ab (by simpa[T.ok]using h)
 |num n=>simp only[dw];exact pq n
 |_=>simp[dw]
theorem Zj{t:T}(h:t.fit=true):(dw t).length<=bs:=by
 have I:=Ex t (p4 h);have J:t.size<=5000:=by unfold T.fit at h;simp at h;exact h.2
 unfold bs;omega
theorem VE(t:T)(h:t.fit=true):ct aQ 85 [t.e] (.str (dw t)):=by have hY:=VK t;rw[h]at hY;have kw:=aa2 t.size t (c7 _) (p4 h) none (by simpa using Zj h);have cD:=Zk t (p4 h);refine bW jZ Zo ae3 fun aL=>?_;unfold NA;simp;((with_reducible repeat' first|refine av ?_|refine ba hY ?_|refine bb hY ?_|simp|((first|apply cN|apply cP|apply cO)<;>intro h<;>try simp at h))<;>(try exact dr));refine bc.bd (o:=none) kw (by simp only[bR,bN,be,br];exact ai) (by simp only[bR,bN,be,br];exact ai) (by simp[ag,Pv.look,bR,bN,be,br,aj,ak]) Ψ ?_;simp[aX,bR,bN,be,br];refine aeU (dw t) cD (by simp[br,Pv.look]) (by simp[Pv.look]) ?_;simp;simp[b8,TJ,bg,bh,bf]
theorem VD(t:aV)(h:t.fits=true):ct aQ 85 [enc t] (.str (iu t)):=by obtain⟨x,rfl,ad⟩:=aV.fits_ex h;rw[GY,tq];exact VE x ad
theorem Nr:∀l:List ah,pa (fW l)=some l
 |[]=>rfl
 |c::l=>by have:=Nr l;simp only[fW,ek,pa]at this⊢;rw[this];simp
def cl(l:List (List ah)):List al:=l.map al.str
@[simp]theorem dO(S:aO->Prop)(l:List (List ah)):aj S (cl l)=True:=by
 apply eq_true;induction l with
 |nil=>simp[cl,aj]
 |cons x r bp=>simp only[cl,ek,aj,ak]at bp⊢;exact⟨trivial,bp⟩
@[simp]theorem amv(l:List (List ah)):ca (cl l)=cl l:=by
 induction l with
 |nil=>rfl
 |cons x r bp=>simp only[cl,ek,ca,cm]at bp⊢;rw[bp]
@[simp]theorem amB(l:List (List ah)):(cl l).length=l.length:=by simp[cl]
theorem mc{l:List (List ah)}{i:Nat}(h:i<l.length):∀cx,(cl l)[i]'cx= .str l[i]:=fun _=>by simp[cl]
theorem bC(S:aO->Prop):∀a b:List al,aj S (a++b)=(aj S a/\aj S b)
 |[],b=>by simp[aj]
 |x::a,b=>by simp only[ds,aj,bC S a b,and_assoc]
theorem RY(b:List ah):∀(l:List (List ah)) (k:Nat),(fK b (l.take k)).length<=(fK b l).length
 |[],k=>by simp
 |[x],k=>by cases k<;>simp[fK]
 |x::y::r,0=>by simp[fK]
 |x::y::r,1=>by simp[fK]
 |x::y::r,k+2=>by have:=RY b (y::r) (k+1);simp only[rI,fK,fU]at this⊢;omega
theorem Me(l:List (List ah))(b:List ah)(aG:(fK b l).length<=bs):ct aQ 87 [.slice 1 .no (cl l),.str b] (.str (fK b l)):=by
 refine bW jZ Zt ae8 fun aL=>?_;unfold NG;have ao:l.length<=bs/\b.length<=bs:=by simpa[lY,kn,kX]using aL
 clear aL;simp;((with_reducible repeat' first|refine av ?_|simp|((first|apply cN|apply cP|apply cO)<;>intro h<;>try simp at h))<;>(try exact dr));refine gP (fun i (acc:List ah)=>⟨[(1,.str b),(9,.slice 1 .no (cl l)),(10,.int .i64 l.length),(5,.row 1 (.loc 0) acc.length),(11,.int .i64 i)],[],[(.loc 0,⟨acc.length,5,1,some (fW acc)⟩)],1,[]⟩) l.length (fun i acc=>acc=fK b (l.take i)) [] (by simp[show fW []=[]from rfl];exact⟨by simp[fresh,aj,ak,bj,ag,Pv.look,kS],cg (by simp[fresh,aj,ak,bj,ag,Pv.look,kS]),ch (by simp[fresh,aj,ak,cc,ag,Pv.look,kS]),Ψ⟩) (by simp[fK]) (fun acc aD _=>?_) (fun i acc aE aD _=>?_)
 ·rw[rH (c7 _)]at aD;subst aD;simp;(with_reducible repeat' first|refine av ?_|simp);simp[vG,vk,Nr];simp[b8,TL,bg,bh,bf]
 ·obtain⟨x,ad⟩:∃x,l[i]? =some x:=⟨_,cS aE⟩;have q4:∀h,(cl l)[i]'h= .str x:=fun h=>by rw[mc aE,cS aE]at*;cases ad;rfl
  have hle:=RY b l (i+1);have zK:=adV b l ad;rw[zK]at hle;have eE:(fW acc).length=acc.length:=by simp[fW]
  have cb:aZ ((i:Int)+1):=by unfold aZ;have:=ao.1;unfold bs at this;omega
  by_cases bK:i=0
  ·rw[bP bK]at hle zK;have BR:¬0<i:=Ω
   have mA:acc=[]:=by rw[aD,bK];simp[fK]
   have jo:acc.length+x.length<=bs:=by rw[mA];simp;omega
   simp[aE,q4];(with_reducible repeat' first|refine av ?_|simp[aE,q4,BR,eE,jo]);refine bU.rng (acc++x) aE (by rw[mA];exact zK.symm) ?_;exact⟨by simp[fresh,aj,ak,bj,ag,Pv.look,kS,xo,bC],cg (by simp[fresh,aj,ak,bj,ag,Pv.look,kS,xo,bC]),ch (by simp[fresh,aj,ak,cc,ag,Pv.look,kS,xo,bC]),Ψ⟩
  ·rw[bo bK]at hle zK;have BR:0<i:=Ω
   rw[<-aD]at hle zK;simp only[fU]at hle;have jo:acc.length+b.length<=bs:=Ω
   have hj:acc.length+b.length+x.length<=bs:=Ω
   have abJ:(fW acc++fW b).length=acc.length+b.length:=by simp[fW]
   simp[aE,q4];(with_reducible repeat' first|refine av ?_|simp[aE,q4,BR,eE,jo,hj,abJ]);refine bU.rng (acc++b++x) aE zK.symm ?_;exact⟨by simp[fresh,aj,ak,bj,ag,Pv.look,kS,xo,Nat.add_assoc,bC],cg (by simp[fresh,aj,ak,bj,ag,Pv.look,kS,xo,Nat.add_assoc,bC]),ch (by simp[fresh,aj,ak,cc,ag,Pv.look,kS,xo,Nat.add_assoc,bC]),Ψ⟩
end
end Go.Proofs.YtlnndmgfngfeiaaGreatDoor
