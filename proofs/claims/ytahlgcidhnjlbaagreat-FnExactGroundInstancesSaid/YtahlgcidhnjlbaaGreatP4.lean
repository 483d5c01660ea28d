/- From a contract to the row: terms. -/
import Derived.Test.YtahlgcidhnjlbaaGreatProg
import Derived.Test.YtahlgcidhnjlbaaGreatP3
set_option linter.all false
set_option maxHeartbeats 4000000
set_option maxRecDepth 4000
open Bool renaming and_eq_true->bN
open Go renaming TypeId->ey
open Go.IntKind renaming i64->nW
open Go.Proofs.Tryz renaming f3->hn,prog->aG
open List renaming drop_eq_getElem_cons->l9,getElem?_append_left->ks,getElem?_eq_getElem->cl,getElem?_eq_some_iff->eQ,length->lE,length_append->kt,length_cons->jX,length_map->k8,map_cons->gG,mem_append->lF,mem_cons->gw,mem_map->k9,mem_of_getElem?->mY,nodup_append->ma,take_of_length_le->lG
open List.Pairwise renaming and->X3,nil->ym
open Nat renaming add_mul->ku,le_refl->di,le_trans->jB,mul_le_mul_right->kv
open Option renaming map_eq_some_iff->ih
open Option.some renaming inj->jg
open _root_ renaming beq_iff_eq->c2,congrArg->eR,decide_eq_true_eq->e3,if_neg->bH
namespace Go.Proofs.YtahlgcidhnjlbaaGreat
section
open Go Go.Pv
def gj(u:List T):Nat->List Int->List bc
 |_,[]=>[]
 |k,v::aJ=>⟨v,u.getD (k%u.length) .nil⟩::gj u (k/u.length) aJ
def ext1(u:List T)(v:Int)(r:List bc):List (List bc):=u.map fun t=>r++[⟨v,t⟩]
def eS(u:List T):List Int->List (List bc)->List (List bc)
 |[],rows=>rows
 |v::aJ,rows=>eS u aJ (rows.flatMap (ext1 u v))
def EF(u:List T)(v:Int)(r:List bc):(ext1 u v r).length=u.length:=by simp[ext1]
def tt(u:List T)(v:Int):∀rows:List (List bc),(rows.flatMap (ext1 u v)).length=rows.length*u.length
 |[]=>by simp
 |r::rows=>by simp[tt u v rows,EF,Nat.succ_mul,Nat.add_comm]
def gr(f:Nat->Nat):Nat->Nat
 |0=>0
 |n+1=>gr f n+f n
def I5(f g:Nat->Nat):∀n,gr (fun i=>f i+g i) n=gr f n+gr g n
 |0=>rfl
 |n+1=>by simp only[gr,I5 f g n];omega
def vC(p:Nat->Bool)(n:Nat):Nat:=gr (fun i=>(p i).toNat) n
def P0(b:Bool):(if b=true then 1 else 0)=b.toNat:=by cases b<;>rfl
def I6(f:Nat->Nat)(L:Nat):∀M,gr f (L*M)=gr (fun i=>gr (fun j=>f (i+L*j)) M) L
 |0=>by
  have:∀L,gr (fun _=>0) L=0:=fun L=>by induction L with
   |zero=>rfl
   |succ n a=>simp[gr,a]
  simp[gr,this]
 |M+1=>by
  have h:∀K,gr f (L*M+K)=gr f (L*M)+gr (fun i=>f (i+L*M)) K:=fun K=>by
   induction K with
   |zero=>rfl
   |succ n a=>rw[<-Nat.add_assoc,gr,a,gr,Nat.add_assoc,Nat.add_comm (L*M) n]
  rw[Nat.mul_succ,h,I6 f L M,<-I5];rfl
def Cd{f g:Nat->Nat}:∀{n:Nat},(∀i,i<n->f i=g i)->gr f n=gr g n
 |0,_=>rfl
 |n+1,h=>by rw[gr,gr,Cd fun i az=>h i Ω,h n Ω]
def yC(u:List T)(c:List bc->Bool):∀(aJ:List Int) (rows:List (List bc)),(eS u aJ rows).countP c=(rows.map fun r=>(eS u aJ [[]]).countP fun w=>c (r++w)).sum
 |[],rows=>by
  simp only[eS];induction rows with
  |nil=>rfl
  |cons r rows a=>rw[List.countP_cons,a,gG,List.sum_cons,List.countP_cons,List.countP_nil,Nat.zero_add,List.append_nil,Nat.add_comm]
 |v::aJ,rows=>by
  simp only[eS];rw[yC u c aJ];have b:∀r:List bc,(eS u aJ ([[]].flatMap (ext1 u v))).countP (fun w=>c (r++w))=((ext1 u v r).map fun q=>(eS u aJ [[]]).countP fun w=>c (q++w)).sum:=fun r=>by rw[yC u _ aJ];simp[ext1,List.map_map,Function.comp_def]
  simp only[b];induction rows with
  |nil=>rfl
  |cons r rows a=>rw[List.flatMap_cons,List.map_append,List.sum_append,a,gG,List.sum_cons]
def SO(F:T->Nat):∀u:List T,(u.map F).sum=gr (fun i=>F (u.getD i .nil)) u.length:=fun u=>by
 have h:∀n,n<=u.length->((u.take n).map F).sum=gr (fun i=>F (u.getD i .nil)) n:=fun n=>by
  induction n with
  |zero=>intro _;rfl
  |succ n b=>intro c;have a:u[n]? =some u[n]:=cl Ω;rw[uX a,List.map_append,List.sum_append,b Ω,gr];simp[List.getD,a]
 have:=h u.length (di _);rwa[List.take_length]at this
def CY(u:List T)(hu:0<u.length):∀(aJ:List Int) (c:List bc->Bool),(eS u aJ [[]]).countP c=vC (fun k=>c (gj u k aJ)) (u.length ^ aJ.length)
 |[],c=>by simp[eS,vC,gr,gj,List.countP_cons,P0]
 |v::aJ,c=>by
  have I:(eS u (v::aJ) [[]]).countP c=(u.map fun t=>(eS u aJ [[]]).countP fun w=>c (⟨v,t⟩::w)).sum:=by simp only[eS];rw[yC u c aJ];simp[ext1,List.map_map,Function.comp_def]
  rw[I,SO,jX,Nat.pow_succ,Nat.mul_comm,vC,I6];refine Cd fun i az=>?_;rw[CY u hu aJ];refine Cd fun j _=>?_;simp only[gj];rw[Nat.add_mul_mod_self_left,Nat.mod_eq_of_lt az,Nat.add_mul_div_left _ _ hu,Nat.div_eq_of_lt az,Nat.zero_add]
def yE(u:List T):∀(aJ:List Int) (rows:List (List bc)),∀r∈eS u aJ rows,∃q∈rows,∃w:List bc,r=q++w/\w.map (·.v)=aJ/\∀b∈w,b.t∈u
 |[],rows,r,h=>⟨r,h,[],Ψ⟩
 |v::aJ,rows,r,h=>by
  obtain⟨q,e,w,rfl,J,g⟩:=yE u aJ _ r h;obtain⟨d,c,i⟩:=List.mem_flatMap.1 e;obtain⟨t,f,rfl⟩:=k9.1 i;refine⟨d,c,⟨v,t⟩::w,Ψ,by simp[J],fun b a=>?_⟩;rcases gw.1 a with rfl|a
  ·exact f
  ·exact g b a
def JM(u:List T)(hu:0<u.length):∀(k:Nat) (aJ:List Int),(gj u k aJ).map (·.v)=aJ/\∀b∈gj u k aJ,b.t∈u
 |k,[]=>by simp[gj]
 |k,v::aJ=>by
  obtain⟨I,J⟩:=JM u hu (k/u.length) aJ;refine⟨by simp[gj,I],fun b a=>?_⟩;simp only[gj,gw]at a;rcases a with rfl|a
  ·have:=Nat.mod_lt k hu;simp only[List.getD,cl this,Option.getD_some];exact List.getElem_mem _
  ·exact J b a
def yD(u:List T):∀(vars:List Int) (rows:List (List bc)),(eS u vars rows).length=rows.length*u.length ^ vars.length
 |[],rows=>by simp[eS]
 |v::aJ,rows=>by simp only[eS,yD u aJ,tt,jX,Nat.pow_succ];rw[Nat.mul_assoc,Nat.mul_comm u.length]
def CZ{u:List T}(hu:0<u.length):∀(aJ:List Int) (rows:List (List bc)),∀r∈rows,∃w,r++w∈eS u aJ rows
 |[],rows,r,h=>⟨[],by simpa[eS]using h⟩
 |v::aJ,rows,r,h=>by obtain⟨w,hw⟩:=CZ hu aJ (rows.flatMap (ext1 u v)) (r++[⟨v,u[0]⟩]) (List.mem_flatMap.2 ⟨r,h,k9.2 ⟨u[0],List.getElem_mem hu,rfl⟩⟩);exact⟨⟨v,u[0]⟩::w,by simpa[eS]using hw⟩
def Kn{u:List T}(hu:0<u.length){vars:List Int}{i:Nat}{rows:List (List bc)}(h:eS u (vars.drop i) rows=eS u vars [[]]){r:List bc}(b:r∈rows):r.length<=vars.length:=by obtain⟨w,hw⟩:=CZ hu (vars.drop i) rows r b;rw[h]at hw;obtain⟨q,a,w',e,J,_⟩:=yE u vars [[]] _ hw;rw[List.mem_singleton.1 a,List.nil_append]at e;have c:=eR lE J;have d:=eR lE e;simp at c d;omega
def fw(b:Nat):Nat->Nat->Nat
 |0,out=>out
 |k+1,out=>if out<=512 then fw b k (out*b)else out
def yj{b:Nat}(a:0<b):∀(n out:Nat),fw b n out<=512->fw b n out=out*b ^ n
 |0,out,_=>by simp[fw]
 |n+1,out,h=>by
  unfold fw at h⊢;split
  ·rename_i g;rw[if_pos g]at h;rw[yj a n _ h,Nat.pow_succ,Nat.mul_assoc,Nat.mul_comm b]
  ·rename_i g;rw[bH g]at h;omega
def lu(S:ar->Prop):∀a b:List aa,aV S (a++b)↔aV S a/\aV S b
 |[],b=>by simp[aV]
 |x::r,b=>by simp only[List.cons_append,aV,lu S r b,and_assoc]
def q6:∀a b:List aa,bt (a++b)=bt a++bt b
 |[],b=>by simp[bt]
 |x::r,b=>by simp[bt,q6 r b]
def mO(b:Nat):Nat->Nat->Nat
 |0,out=>out
 |k+1,out=>if out<=512/\b≠1 then mO b k (out*b)else out
def sv(b n:Nat):Nat:=min (mO b n 1) 513
def P3(b n:Nat)(i out:Nat):Prop:=out<=512*b/\mO b (n-i) out=mO b n 1
def Tx(b n:Nat)(l:0<b/\b<=1000)(m:n<=1000000):ct aG 67 [aB b,aB n] (aB (sv b n)):=by
 refine cb bC Tryz.func67 Rl fun j=>?_;unfold Dw;simp;refine lf [0,1] (fun i (out:Nat)=>[(5,aB out),(6,aB i)]) n (P3 b n) 1 dh ⟨Ω,Ψ⟩ (fun out d _=>?_) (fun i out az d _=>?_)
 ·obtain⟨I,J⟩:=d;simp[mO]at J;(repeat' first|refine aS ?_|simp);simp[b3,bq,bD,ba];simp[sv,<-J];omega
 ·obtain⟨I,J⟩:=d;have a:mO b (n-i) out=if out<=512/\b≠1 then mO b (n-(i+1)) (out*b)else out:=by obtain⟨k,U⟩:∃k,n-i=k+1:=⟨n-i-1,Ω⟩;rw[U,show n-(i+1)=k by omega];rfl
  by_cases aA:out<=512/\b≠1
  ·rw[if_pos aA]at a;have hmul:out*b<=512*b:=kv b aA.1;have o:512*b<=512000:=Ω
   have g:0<=((out:Int)*b)/\(out:Int)*b<=512000:=by
    have I:((out*b:Nat):Int)<=512000:=Ω
    have J:(0:Int)<=((out*b:Nat):Int):=Ω
    rw[Int.natCast_mul]at I J;exact⟨J,I⟩
   have e:(out:Int)<=512:=Ω
   have c:=aA.2;((repeat' first|refine aS ?_|simp[az,e,c]|((first|apply cN|apply cT|apply cS)<;>intro h<;>try simp at h))<;>(try exact ev));refine cP.rng (out*b) az ⟨hmul,by rw[<-J,a]⟩ dh
  ·rw[bH aA]at a;have f:sv b n=min out 513:=by unfold sv;rw[<-J,a]
   by_cases e:out<=512
   ·have c:b=1:=Ω
    subst c;((repeat' first|refine aS ?_|simp[az]|((first|apply cN|apply cT|apply cS)<;>intro h<;>try simp at h))<;>(try exact ev));simp[b3,bq,bD,ba];rw[f];omega
   ·((repeat' first|refine aS ?_|simp[az]|((first|apply cN|apply cT|apply cS)<;>intro h<;>try simp at h))<;>(try exact ev));all_goals simp[b3,bq,bD,ba]
    all_goals rw[f];omega
def gC(r:List bc):aa:=gv (r.map bc.e)
@[simp]def W0(S:ar->Prop)(r:List bc):aR S (gC r)=True:=by simp[gC]
@[simp]def W2(r:List bc):bE (gC r)=gC r:=by simp[gC]
@[simp]def W6(S:ar->Prop)(l:List (List bc)):aV S (l.map gC)=True:=by
 apply eq_true;induction l with
 |nil=>simp
 |cons x r a=>simp[aV,a]
@[simp]def W7(l:List (List bc)):bt (l.map gC)=l.map gC:=by
 induction l with
 |nil=>simp
 |cons x r a=>simp[bt,a]
@[simp]def W1(r:List bc):dd (gC r)=true:=rfl
@[simp]def WZ(r:List bc):cells (gC r)=[gC r]:=rfl
def P1(u:List T)(vars:List Int)(i:Nat)(rows:List (List bc)):Prop:=eS u (vars.drop i) rows=eS u vars [[]]/\rows.length=u.length ^ i
def Gv(u:List T)(v:Int)(rows:List (List bc))(j:Nat)(acc:List (List bc)):Prop:=acc=(rows.take j).flatMap (ext1 u v)
def AJ(u:List T)(v:Int)(rows:List (List bc))(j:Nat)(r:List bc)(k:Nat)(acc:List (List bc)):Prop:=acc=(rows.take j).flatMap (ext1 u v)++ext1 (u.take k) v r
set_option maxRecDepth 8000 in
def Ti(vars:List Int)(u:List T)(hu:0<u.length/\u.length<=1000)(K:vars.length<=1000000)(y:u.length ^ vars.length<=1000000)(x:∀i rows,eS u (vars.drop i) rows=eS u vars [[]]->∀r∈rows,r.length<=1000000):ct aG 68 [hW (c0 vars),b8 (u.map T.e)] (hW ((eS u vars [[]]).map gC)):=by
 have q:∀i,i<=vars.length->u.length ^ i<=1000000:=fun i az=>jB (Nat.pow_le_pow_right hu.1 az) y;refine cb bC Tryz.func68 Rb fun H=>?_;unfold Dm;simp;refine kG (fun i (rows:List (List bc))=>⟨[(1,b8 (u.map T.e)),(15,hW (c0 vars)),(16,aB vars.length),(5,hW (rows.map gC)),(17,aB i)],[],[],2,[]⟩) vars.length (P1 u vars) [[]] ⟨by simp[fresh,aV,aR,ep,a7,ab,gC],k1 (by simp[fresh,aV,aR,ep,a7,ab,gC]),k2 (by simp[fresh,aV,aR,hh,a7,ab,gC]),Ψ⟩ ⟨Ψ,Ψ⟩ (fun rows a _=>?_) (fun i rows az a _=>?_)
 ·(repeat' first|refine aS ?_|simp);simp[b3,bq,bD,ba];have I:=a.1;rw[List.drop_length]at I;simp[eS]at I;rw[I]
 ·obtain⟨v,b⟩:∃v,vars[i]? =some v:=⟨_,cl az⟩;have s:∀h,(c0 vars)[i]'h=aB v:=fun h=>by simp only[c0,List.getElem_map];rw[cl az]at b;simp at b;rw[b]
  have z:vars.drop i=v::vars.drop (i+1):=by rw[l9 az];rw[cl az]at b;simp at b;rw[b]
  have A:=q (i+1) Ω;rw[Nat.pow_succ,<-a.2]at A;have F:rows.length<=1000000:=by rw[a.2];exact q i Ω
  (repeat' first|refine aS ?_|simp[az,s]);refine kG (fun j (acc:List (List bc))=>⟨[(1,b8 (u.map T.e)),(7,aB v),(15,hW (c0 vars)),(16,aB vars.length),(17,aB i),(22,hW (rows.map gC)),(23,aB rows.length),(8,.slice 1 (.own (.loc 2)) (acc.map gC)),(24,aB j)],[],[(.loc 2,⟨acc.length,46,1,none⟩)],3,[]⟩) rows.length (Gv u v rows) [] dh rfl (fun acc g _=>?_) (fun j acc m g _=>?_)
  ·have p:acc=rows.flatMap (ext1 u v):=by rw[g,List.take_length]
   (repeat' first|refine aS ?_|simp);refine cP.rng acc az ⟨?_,?_⟩ dh
   ·rw[p,<-a.1,z];rfl
   ·rw[p,tt,a.2,Nat.pow_succ]
  ·obtain⟨r,c⟩:∃r,rows[j]? =some r:=⟨_,cl m⟩;have w:∀h,rows[j]'h=r:=fun h=>by rw[cl h]at c;simpa using c
   have L:r.length<=1000000:=x i rows a.1 r (mY c);have E:(j+1)*u.length<=rows.length*u.length:=kv _ Ω;have G:acc.length=j*u.length:=by rw[g,tt,List.length_take,Nat.min_eq_left Ω]
   rw[ku,Nat.one_mul]at E;(repeat' first|refine aS ?_|simp[m,c,w]);refine kG (fun k (acc:List (List bc))=>⟨[(1,b8 (u.map T.e)),(7,aB v),(10,gC r),(15,hW (c0 vars)),(16,aB vars.length),(17,aB i),(22,hW (rows.map gC)),(23,aB rows.length),(24,aB j),(28,b8 (u.map T.e)),(29,aB u.length),(8,.slice 1 (.own (.loc 2)) (acc.map gC)),(30,aB k)],[],[(.loc 2,⟨acc.length,46,1,none⟩)],3,[]⟩) u.length (AJ u v rows j r) acc dh (by have I:acc=_:=g;unfold AJ;rw[I];simp[ext1]) (fun e f _=>?_) (fun k e n f _=>?_)
   ·(repeat' first|refine aS ?_|simp);refine cP.rng e m ?_ dh;unfold Gv;rw[f,List.take_length,List.take_succ,c];simp
   ·obtain⟨t,l⟩:∃t,u[k]? =some t:=⟨_,cl n⟩;have B:∀h,u[k]'h=t:=fun h=>by rw[cl h]at l;simpa using l
    have M:e.length=j*u.length+k:=by
     have I:(rows.take j).length=j:=by simp;omega
     have J:(u.take k).length=k:=by simp;omega
     rw[f,kt,tt,EF,I,J]
    have d:gC r=gv (r.map bc.e):=rfl;have o:gC (r++[⟨v,t⟩])=gv (r.map bc.e++[(bc.mk v t).e]):=by simp[gC]
    (repeat' first|refine aS ?_|simp[n,l,B,d]);refine cP.rng (e++[r++[⟨v,t⟩]]) n ?_ ⟨by simp[fresh,aV,aR,ep,a7,ab,d,o,q6,lu],k1 (by simp[fresh,aV,aR,ep,a7,ab,d,o,q6,lu]),k2 (by simp[fresh,aV,aR,hh,a7,ab,d,o,q6,lu]),Ψ⟩;unfold AJ;rw[f,List.take_succ,l];simp[ext1]
def HH(b:Nat):∀n out,b≠1->mO b n out=fw b n out
 |0,_,_=>rfl
 |n+1,out,h=>by
  unfold mO fw;by_cases g:out<=512
  ·rw[if_pos ⟨g,h⟩,if_pos g,HH b n _ h]
  ·rw[bH fun x=>g x.1,bH g]
def JR:∀n,fw 1 n 1=1
 |0=>rfl
 |n+1=>by unfold fw;simp[JR n]
def R2(b n:Nat):sv b n=min (fw b n 1) 513:=by
 unfold sv;by_cases h:b=1
 ·subst h;rw[JR];have:∀n,mO 1 n 1=1:=fun n=>by cases n<;>simp[mO]
  rw[this]
 ·rw[HH b n 1 h]
def NS(t:T):t.gnd=true↔cC t []=[]:=by
 have I:∀t:T,t.gnd=true↔∀w,t.occ w=false:=by
  intro t;induction t with
  |var n=>simp[T.gnd,T.occ]
  |pair a b d c=>simp only[T.gnd,T.occ,bN,Bool.or_eq_false_iff,d,c];exact⟨fun h w=>⟨h.1 w,h.2 w⟩,fun h=>⟨fun w=>(h w).1,fun w=>(h w).2⟩⟩
  |_=>simp[T.gnd,T.occ]
 rw[I,List.eq_nil_iff_forall_not_mem];simp[xi]
def TC{t:T}(b:t.fit=true):ct aG 99 [t.e] (.bool t.gnd):=by
 have d:=yh t.tm;rw[fQ,Tm.fits_T,b]at d;have f:t.size<=5000:=by simp only[T.fit,bN,e3]at b;exact b.2
 have c:=u4 t [];have a:=yg t [] (by simp;omega) (by simp[pa]);have e:c0 []=[]:=rfl;rw[e]at a;have aM:=NS t;generalize cC t []=aJ at a c aM;cases aJ with
 |nil=>rw[aM.2 rfl];rw[e]at a;refine cb bC Tryz.func99 Bs fun g=>?_;unfold vA;exact eA
 |cons w aJ=>
  rw[show t.gnd=false from by rw[<-Bool.not_eq_true,aM];simp];have h:¬((aJ.length:Int)+1=0):=Ω
  have i:aJ.length<=5000:=by simp at c;omega
  clear aM c f b;refine cb bC Tryz.func99 Bs fun g=>?_;unfold vA;simp;(repeat' first|refine aS ?_|refine be d ?_|refine bf d ?_|refine be a ?_|refine bf a ?_|simp[PS,h]);all_goals simp[b3,bq,bD,ba]
  all_goals omega
def mU(u:List T)(i:Nat):Bool:=match u[i]? with
 |some t=>t.fit&&t.gnd&&(i==0||match u[i-1]? with|some s=>decide (ca s t<0)|none=>true)
 |none=>true
def sP(u:List T):Bool:=decide (1<=u.length/\u.length<=8)&&(List.range u.length).all (mU u)
def sQ(u:List T):sP u=true↔(1<=u.length/\u.length<=8)/\∀k,k<u.length->mU u k=true:=by simp[sP]
def gu(l:List Tm):Prop:= ∃u:List T,l=u.map T.tm/\sP u=true
def yf{u:List T}(h:sP u=true):∀t∈u,t.fit=true/\t.gnd=true:=fun t a=>by obtain⟨i,az⟩:=List.mem_iff_getElem?.1 a;have:=((sQ u).1 h).2 i (eQ.1 az).1;simp only[mU,az,bN]at this;exact this.1
structure lZ (l:List Tm) (i:Nat) (_:Unit):Prop where
 ex:∃u:List T,l.take i=u.map T.tm/\∀k,k<i->mU u k=true
def Ta{u w:List T}{k:Nat}(U:k<u.length):mU (u++w) k=mU u k:=by
 unfold mU;rw[ks U];cases u[k]? with
 |none=>rfl
 |some t=>
  rcases Nat.eq_zero_or_pos k with rfl|h
  ·rfl
  ·simp only;rw[ks Ω]
def lZ.step{l:List Tm}{i:Nat}(h:lZ l i ()){t:T}(b:l[i]? =some t.tm)(c:∀u:List T,l.take i=u.map T.tm->mU (u++[t]) i=true):lZ l (i+1) ():=by
 obtain⟨u,I,J⟩:=h.ex;have d:u.length=i:=by have a:=eR lE I;have:=(eQ.1 b).1;simp at a;omega
 refine⟨u++[t],by rw[uX b,I,List.map_append];rfl,fun k U=>?_⟩;rcases(by omega:k<i\/k=i)with a|rfl
 ·rw[Ta Ω];exact J k a
 ·exact c u I
def lZ.fin{l:List Tm}(h:lZ l l.length ())(b:1<=l.length/\l.length<=8):gu l:=by obtain⟨u,I,J⟩:=h.ex;rw[List.take_length]at I;have a:=eR lE I;rw[k8]at a;exact⟨u,I,(sQ u).2 ⟨Ω,fun k U=>J k Ω⟩⟩
def lZ.prev{l:List Tm}{i:Nat}(h:lZ l i ())(az:0<i)(d:i<=l.length):∃s:T,l[i-1]? =some s.tm/\s.fit=true:=by
 obtain⟨u,I,J⟩:=h.ex;have e:u.length=i:=by have c:=eR lE I;simp at c;omega
 have hu:u[i-1]? =some u[i-1]:=cl Ω;have a:(l.take i)[i-1]? =some (T.tm u[i-1]):=by rw[I,List.getElem?_map,hu];rfl
 rw[List.getElem?_take,if_pos Ω]at a;have b:=J (i-1) Ω;simp only[mU,hu,bN]at b;exact⟨_,a,b.1.1⟩
def gu.no{l:List Tm}{i:Nat}{t:T}(a:l[i]? =some t.tm)(c:(t.fit&&t.gnd)=false):¬gu l:=fun⟨u,I,J⟩=>by subst I;rw[List.getElem?_map]at a;obtain⟨s,b,e⟩:=ih.1 a;rw[uY e]at b;have:=yf J t (mY b);rw[this.1,this.2]at c;cases c
def gu.no2{l:List Tm}{i:Nat}{s t:T}(az:0<i)(d:l[i-1]? =some s.tm)(c:l[i]? =some t.tm)(g:¬ca s t<0):¬gu l:=fun⟨u,I,J⟩=>by
 subst I;rw[List.getElem?_map]at c d;obtain⟨j,b,e⟩:=ih.1 d;obtain⟨t',a,f⟩:=ih.1 c;rw[uY e]at b;rw[uY f]at a;have:=((sQ u).1 J).2 i (eQ.1 a).1;simp only[mU,a,b,bN,Bool.or_eq_true,c2,e3]at this;rcases this.2 with h|h
 ·omega
 ·exact g h
def gu.no3{l:List Tm}{t:Tm}(b:t∈l)(a:t.fits=false):¬gu l:=fun⟨u,I,J⟩=>by subst I;obtain⟨s,c,rfl⟩:=k9.1 b;rw[Tm.fits_T,(yf J s c).1]at a;cases a
def gu.len{l:List Tm}(h:gu l):1<=l.length/\l.length<=8:=by obtain⟨u,rfl,J⟩:=h;rw[k8];exact((sQ u).1 J).1
def lZ.go{l:List Tm}{i:Nat}(h:lZ l i ()){t:T}(b:l[i]? =some t.tm)(g:(t.fit&&t.gnd)=true)(ag:∀s:T,0<i->l[i-1]? =some s.tm->ca s t<0):lZ l (i+1) ():=
 h.step b fun u hu=>by
  have j:=(eQ.1 b).1;have e:u.length=i:=by have f:=eR lE hu;simp at f;omega
  have I:(u++[t])[i]? =some t:=by rw[<-e];simp
  simp only[mU,I,g,Bool.true_and,Bool.or_eq_true,c2];rcases Nat.eq_zero_or_pos i with a|a
  ·exact .inl a
  ·right;have c:u[i-1]? =some u[i-1]:=cl Ω;rw[ks Ω,c];have d:(l.take i)[i-1]? =some (T.tm u[i-1]):=by rw[hu,List.getElem?_map,c];rfl
   rw[List.getElem?_take,if_pos Ω]at d;exact decide_eq_true (ag _ a d)
def Te{t:T}(h:t.fit=true):ct aG 132 [t.e] (.bool t.gnd):=by
 have b:=Jt h;have a:=Tl t;generalize t.gnd=q at a;cases q;all_goals refine cb bC Tryz.func132 Hp fun c=>?_;unfold yI
 all_goals simp
 all_goals(repeat' first|refine aS ?_|refine be b ?_|refine bf b ?_|refine be a ?_|refine bf a ?_|simp)
 all_goals simp[b3,bq,bD,ba]
def Tf{t:Tm}(h:t.fits=false):ct aG 132 [enc t] (.bool false):=by have a:=Cs t;rw[h]at a;refine cb bC Tryz.func132 Hp fun b=>?_;unfold yI;exact eA
def TD{t:Tm}(h:t.fits=false):ct aG 99 [enc t] (.bool false):=by have a:=yh t;rw[h]at a;refine cb bC Tryz.func99 Bs fun b=>?_;unfold vA;exact eA
open Classical in
def Ju(l:List Tm):ct aG 65 [b8 (l.map enc)] (.bool (decide (gu l))):=by
 generalize cR:decide (gu l)=R;have b:¬gu l->R=false:=fun h=>by rw[<-cR,decide_eq_false_iff_not];exact h
 have j:gu l->R=true:=fun h=>by rw[<-cR,e3];exact h
 clear cR;by_cases g1:l.length<1
 ·rw[b fun h=>by have:=h.len;omega];have v:(l.length:Int)<1:=Ω
  refine cb bC Tryz.func65 Bm fun r=>?_;unfold vr;exact eA
 have v:¬(l.length:Int)<1:=Ω
 by_cases g2:8<l.length
 ·rw[b fun h=>by have:=h.len;omega];have G:(8:Int)<(l.length:Int):=Ω
  refine cb bC Tryz.func65 Bm fun r=>?_;unfold vr;exact eA
 have G:¬(8:Int)<(l.length:Int):=Ω
 refine cb bC Tryz.func65 Bm fun r=>?_;unfold vr;clear r;simp;(repeat' first|refine aS ?_|simp[v,G,g1,g2]);refine lf [0,13,14] (fun i (_:Unit)=>[(15,aB i)]) l.length (lZ l) () dh ⟨[],Ψ,fun k U=>Ω⟩ (fun _ e _=>?_) (fun i _ az e _=>?_)
 ·rw[j (e.fin Ω)];clear e b j;exact eA
 ·obtain⟨t,a⟩:∃t,l[i]? =some t:=⟨_,cl az⟩;cases g:t.fits
  ·have f:∀h,(l[i]'h)=t:=fun h=>by rw[cl az]at a;exact jg a
   have d:=Tf g;rw[b (gu.no3 (mY a) g)];clear e a b j;exact eA
  obtain⟨x,rfl,B⟩:=Tm.fits_ex g;have f:∀h,(l[i]'h)=x.tm:=fun h=>by rw[cl az]at a;exact jg a
  have d:=Te B;cases g2:x.gnd
  ·rw[g2]at d;rw[b (gu.no a (by rw[g2,Bool.and_false]))];clear e a b j;simp[az,f,fQ];(repeat' first|refine aS ?_|refine be d ?_|refine bf d ?_|simp[az,f,fQ]);all_goals simp[b3,bq,bD,ba]
  rw[g2]at d;have q:=e.go a (by rw[B,g2];rfl);rcases Nat.eq_zero_or_pos i with m|m
  ·subst m;have u:=q fun s h=>absurd h Ω;clear e a b j q;simp[az,f,fQ];(repeat' first|refine aS ?_|refine be d ?_|refine bf d ?_|simp[az,f,fQ]);all_goals exact cP.rng () az u dh
  ·obtain⟨s,o,_⟩:=e.prev m Ω;have w:∀h,(l[i-1]'h)=s.tm:=fun h=>by rw[cl h]at o;exact jg o
   have A:((i:Int)-1).toNat=i-1:=Ω
   have F:i-1<l.length:=Ω
   have E:(0:Int)<i:=Ω
   have z:(0:Int)<=(i:Int)-1:=Ω
   have n:=u1 s x;by_cases ag:ca s x<0
   ·have u:=q fun H _ y=>by rw[o]at y;rw[<-uY (jg y)];exact ag
    have p:¬0<=ca s x:=Ω
    clear e a b j q o;generalize ca s x=c at n ag p;simp[az,f,fQ];(repeat' first|refine aS ?_|refine be d ?_|refine bf d ?_|refine be n ?_|refine bf n ?_|simp[az,f,fQ,A,F,E,z,w,p,m]);all_goals exact cP.rng () az u dh
   ·rw[b (gu.no2 m o a ag)];have p:0<=ca s x:=Ω
    clear e a b j q o;generalize ca s x=c at n ag p;simp[az,f,fQ];(repeat' first|refine aS ?_|refine be d ?_|refine bf d ?_|refine be n ?_|refine bf n ?_|simp[az,f,fQ,A,F,E,z,w,p,m]);all_goals simp[b3,bq,bD,ba]
open Classical in
def JK(l:List Tm):ct aG 57 [b8 (l.map enc)] (.bool (decide (gu l))):=by
 generalize cR:decide (gu l)=R;have b:¬gu l->R=false:=fun h=>by rw[<-cR,decide_eq_false_iff_not];exact h
 have j:gu l->R=true:=fun h=>by rw[<-cR,e3];exact h
 clear cR;refine cb bC Tryz.func57 RE fun z=>?_;unfold DP;have H:l.length<=68719476736:=by simp[gQ,gZ,gR,cH]at z;omega
 clear z;simp;(repeat' first|refine aS ?_|simp);refine lf [0,5,6] (fun i (_:Unit)=>[(7,aB i)]) l.length (lZ l) () dh ⟨[],Ψ,fun k U=>Ω⟩ (fun _ e _=>?_) (fun i _ az e _=>?_)
 ·have w:=dx l.length 1 8;by_cases g:1<=l.length/\l.length<=8
  ·rw[j (e.fin g)];have r:(1:Int)<=(l.length:Int)/\(l.length:Int)<=8:=Ω
   rw[decide_eq_true r]at w;clear e b j g r;exact eA
  ·rw[b fun h=>g h.len];have r:¬((1:Int)<=(l.length:Int)/\(l.length:Int)<=8):=Ω
   rw[decide_eq_false r]at w;clear e b j g r;exact eA
 ·obtain⟨t,a⟩:∃t,l[i]? =some t:=⟨_,cl az⟩;cases g:t.fits
  ·have f:∀h,(l[i]'h)=t:=fun h=>by rw[cl az]at a;exact jg a
   have d:=TD g;rw[b (gu.no3 (mY a) g)];clear e a b j;exact eA
  obtain⟨x,rfl,E⟩:=Tm.fits_ex g;have f:∀h,(l[i]'h)=x.tm:=fun h=>by rw[cl az]at a;exact jg a
  have d:=TC E;cases g2:x.gnd
  ·rw[g2]at d;rw[b (gu.no a (by rw[g2,Bool.and_false]))];clear e a b j;simp[az,f,fQ];(repeat' first|refine aS ?_|refine be d ?_|refine bf d ?_|simp[az,f,fQ]);all_goals simp[b3,bq,bD,ba]
  rw[g2]at d;have q:=e.go a (by rw[E,g2];rfl);rcases Nat.eq_zero_or_pos i with m|m
  ·subst m;have u:=q fun s h=>absurd h Ω;clear e a b j q;simp[az,f,fQ];(repeat' first|refine aS ?_|refine be d ?_|refine bf d ?_|simp[az,f,fQ]);all_goals exact cP.rng () az u dh
  ·obtain⟨s,o,_⟩:=e.prev m Ω;have v:∀h,(l[i-1]'h)=s.tm:=fun h=>by rw[cl h]at o;exact jg o
   have B:((i:Int)-1).toNat=i-1:=Ω
   have G:i-1<l.length:=Ω
   have F:(0:Int)<i:=Ω
   have A:(0:Int)<=(i:Int)-1:=Ω
   have n:=jx s x;by_cases ag:ca s x<0
   ·have u:=q fun I _ y=>by rw[o]at y;rw[<-uY (jg y)];exact ag
    have p:¬0<=ca s x:=Ω
    clear e a b j q o;generalize ca s x=c at n ag p;simp[az,f,fQ];(repeat' first|refine aS ?_|refine be d ?_|refine bf d ?_|refine be n ?_|refine bf n ?_|simp[az,f,fQ,B,G,F,A,v,p,m]);all_goals exact cP.rng () az u dh
   ·rw[b (gu.no2 m o a ag)];have p:0<=ca s x:=Ω
    clear e a b j q o;generalize ca s x=c at n ag p;simp[az,f,fQ];(repeat' first|refine aS ?_|refine be d ?_|refine bf d ?_|refine be n ?_|refine bf n ?_|simp[az,f,fQ,B,G,F,A,v,p,m]);all_goals simp[b3,bq,bD,ba]
def Ku(a b:Int):qg .quo false (aB a) (aB b)=some (b≠0,aB (nW.wrap (a.tdiv b))):=rfl
def Kv(a b:Int):qg .rem false (aB a) (aB b)=some (b≠0,aB (a.tmod b)):=rfl
def P4(b n:Nat)(i out:Nat):Prop:=out<=512*b/\fw b (n-i) out=fw b n 1
def Tv(b n:Nat)(g:0<b/\b<=1000)(j:n<=1000000):ct aG 59 [aB b,aB n,aB 512] (aB (fw b n 1)):=by
 generalize cR:fw b n 1=R;refine cb bC Tryz.func59 RR fun e=>?_;unfold D2;clear e;simp;(repeat' first|refine aS ?_|simp);refine lf [0,1,2] (fun i (out:Nat)=>[(7,aB out),(8,aB i)]) n (P4 b n) 1 dh ⟨Ω,Ψ⟩ (fun out d _=>?_) (fun i out az d _=>?_)
 ·obtain⟨I,J⟩:=d;rw[Nat.sub_self]at J;simp only[fw]at J;have:out=R:=by rw[<-cR,<-J]
  subst this;simp;((repeat' first|refine aS ?_|simp|((first|apply cN|apply cT|apply cS)<;>intro h<;>try simp at h))<;>(try exact ev));all_goals simp[b3,bq,bD,ba]
 ·obtain⟨I,J⟩:=d;have a:fw b (n-i) out=if out<=512 then fw b (n-(i+1)) (out*b)else out:=by obtain⟨k,U⟩:∃k,n-i=k+1:=⟨n-i-1,Ω⟩;rw[U,show n-(i+1)=k by omega];rfl
  by_cases aA:out<=512
  ·rw[if_pos aA]at a;have hmul:out*b<=512*b:=kv b aA;have l:512*b<=512000:=Ω
   have f:0<=((out:Int)*b)/\(out:Int)*b<=512000:=by
    have I:((out*b:Nat):Int)<=512000:=Ω
    have J:(0:Int)<=((out*b:Nat):Int):=Ω
    rw[Int.natCast_mul]at I J;exact⟨J,I⟩
   have c:(out:Int)<=512:=Ω
   simp[az,aA,c];((repeat' first|refine aS ?_|simp[az,c,aA]|((first|apply cN|apply cT|apply cS)<;>intro h<;>try simp at h))<;>(try exact ev));all_goals exact cP.rng (out*b) az ⟨hmul,by rw[<-J,a]⟩ dh
  ·rw[bH aA]at a;have:out=R:=by rw[<-cR,<-J,a]
   subst this;have c:¬(out:Int)<=512:=Ω
   clear a J cR;exact eA
def Gw(u:List T)(k:Nat)(aJ:List Int)(i:Nat)(x:Nat×List bc):Prop:=(x.1<=k/\x.2.length=i)/\gj u k aJ=x.2++gj u x.1 (aJ.drop i)
def Tu(u:List T)(hu:0<u.length/\u.length<=1000)(aJ:List Int)(A:aJ.length<=1000000)(k:Nat)(U:k<=1000000):ct aG 61 [hW (c0 aJ),b8 (u.map T.e),aB k] (gv ((gj u k aJ).map bc.e)):=by
 generalize cR:gj u k aJ=R;refine cb bC Tryz.func61 RQ fun r=>?_;unfold D1;clear r;simp;(repeat' first|refine aS ?_|simp);refine kG (α:=Nat×List bc) (fun i x=>⟨[(1,b8 (u.map T.e)),(11,hW (c0 aJ)),(12,aB aJ.length),(2,aB x.1),(7,.slice 5 (.own (.loc 0)) (x.2.map bc.e)),(13,aB i)],[],[(.loc 0,⟨x.2.length,113,5,none⟩)],1,[]⟩) aJ.length (Gw u k aJ) (k,[]) dh ⟨Ψ,Ψ⟩ (fun x b _=>?_) (fun i x az b _=>?_)
 ·obtain⟨a,acc⟩:=x;obtain⟨_,b⟩:=b;rw[List.drop_length,gj,List.append_nil]at b;have:acc=R:=by rw[<-cR,b]
  subst this;simp;((repeat' first|refine aS ?_|simp|((first|apply cN|apply cT|apply cS)<;>intro h<;>try simp at h))<;>(try exact ev));simp[b3,bq,bD,ba]
 ·obtain⟨a,acc⟩:=x;obtain⟨⟨q,l⟩,b⟩:=b;simp only at q l b;obtain⟨v,c⟩:∃v,aJ[i]? =some v:=⟨_,cl az⟩;have j:∀h,(c0 aJ)[i]'h=aB v:=fun h=>by simp only[c0,List.getElem_map];rw[cl az]at c;simp at c;rw[c]
  have o:aJ.drop i=v::aJ.drop (i+1):=by rw[l9 az];rw[cl az]at c;simp at c;rw[c]
  have hm:(a:Int).tmod (u.length:Int)=((a%u.length:Nat):Int):=by rw[Int.tmod_eq_emod_of_nonneg Ω];simp
  have f:nW.wrap ((a:Int).tdiv (u.length:Int))=((a/u.length:Nat):Int):=by
   have I:(a:Int).tdiv (u.length:Int)=((a/u.length:Nat):Int):=by rw[Int.tdiv_eq_ediv_of_nonneg Ω];simp
   have J:=Nat.div_le_self a u.length;have s:∀z:Nat,z<=a->nW.wrap (z:Int)=z:=fun z y=>IntWalk.i64_in _ Ω;exact(eR nW.wrap I).trans (s _ J)
  have g:nW.wrap ((a:Int)/(u.length:Int))=((a/u.length:Nat):Int):=by rw[<-f,Int.tdiv_eq_ediv_of_nonneg Ω]
  have e:a%u.length<u.length:=Nat.mod_lt _ hu.1;have t:=Nat.div_le_self a u.length;have p:u≠[]:=fun h=>by rw[h]at hu;simp at hu
  obtain⟨x,d⟩:∃x,u[a%u.length]? =some x:=⟨_,cl e⟩;have m:∀h,(u[a%u.length]'h)=x:=fun h=>by rw[cl h]at d;exact jg d
  have n:Gw u k aJ (i+1) (a/u.length,acc++[⟨v,x⟩]):=⟨⟨by simp only;omega,by simp[l]⟩,by rw[b,o,gj,List.append_assoc];simp[List.getD,d]⟩
  clear b o d c cR;generalize a%u.length=w at hm e m;generalize a/u.length=z at f g t n;simp[az,j];((repeat' first|refine aS ?_|simp[az,j,Kv,Ku,hm,f,g,e,m,p]|((first|apply cN|apply cT|apply cS)<;>intro h<;>try simp at h))<;>(try exact ev));all_goals refine cP.rng (z,acc++[⟨v,x⟩]) az n ?_
  all_goals exact⟨by simp[fresh,aV,aR,ep,a7,ab,lu,q6],k1 (by simp[fresh,aV,aR,ep,a7,ab,lu,q6]),k2 (by simp[fresh,aV,aR,hh,a7,ab,lu,q6]),Ψ⟩
def vw:fN:=(.sq (.region [ed 2 0,dg 4 false]) (.sq (.region [cp 5 1048576]) (.sq (.region [bP 14 4 2,ae 15 5,c8 16 15 14 15,ae 5 16]) (.sq (al [ae 17 5,br 18 .lss 17 0] (bz 18 (al [dg 4 true] .ret) .skip)) (.sq (.region [ae 19 1,ae 20 5,c8 21 16 19 20,ae 5 21]) (.sq (al [ae 22 5,br 23 .lss 22 0] (bz 23 (al [dg 4 true] .ret) .skip)) (.sq (.region [bP 24 4 2,eJ 25 18 24,ae 26 1,eJ 27 19 26,c8 28 17 25 27,ae 6 28]) (.sl (.sq (.region [bP 29 4 2,eJ 30 18 29,fM 7 e0,cZ 4 7 30]) (.sq (.region [ae 31 1,eJ 32 19 31,ae 8 32]) (.sq (.region [bP 33 4 7,ae 34 8,c8 35 20 33 34,ae 9 35]) (.sq (al [ae 36 9,ae 37 6,c8 38 21 36 37,gU 39 38] (bz 39 (al [dg 4 false] .ret) .skip)) (.sq (.seq (.drawn true 92 [bP 40 4 7,bP 41 4 2,eJ 42 18 41,c8 43 22 40 42,gU 44 43]) (bz 44 (al [dg 4 false] .ret) .skip)) (.sq (al [ae 45 8,ae 46 1,eJ 47 19 46,c8 48 21 45 47,gU 49 48] (bz 49 (al [dg 4 false] .ret) .skip)) (.sq (.region [cp 10 1]) (.th 7 (.sq (.region [bP 50 4 7,ae 51 10,c8 52 23 50 51,ae 10 52]) (.th 8 (.sq (.region [ae 53 8,ae 54 10,c8 55 24 53 54,ae 10 55]) (.sq (al [ae 56 10,br 57 .lss 56 0,ae 58 57,dc 58 false 59 9,dc 58 false 60 6,bk 58 false (c8 61 21 59 60),bk 58 false (gU 62 61),hj 63 58 62] (bz 63 (al [dg 4 false] .ret) .skip)) (.sq (.region [cp 11 1]) (.th 9 (.sq (.region [ae 64 9,ae 65 11,c8 66 24 64 65,ae 11 66]) (.sq (.region [cp 12 1]) (.sq (.region [ae 67 9,ae 68 12,c8 69 25 67 68,ae 12 69]) (.sq (al [ae 70 12,br 71 .lss 70 0] (bz 71 (al [dg 4 false] .ret) .skip)) (.sq (al [ae 72 12,ae 73 11,bV 74 .neq 72 73] (bz 74 (al [dg 4 false] .ret) .skip)) (.sq (.region [bP 75 4 2,eJ 76 18 75,ae 77 1,eJ 78 19 77,c8 79 20 76 78,ae 13 79]) (.sq (al [ae 80 13,ae 81 6,c8 82 21 80 81,gU 83 82] (bz 83 (al [dg 4 false] .ret) .skip)) (.sq (.region [cp 12 1]) (.sq (.region [ae 84 9,ae 85 12,c8 86 25 84 85,ae 12 86]) (.sq (al [ae 87 12,br 88 .lss 87 0] (bz 88 (al [dg 4 false] .ret) .skip)) (.sq (al [ae 89 12,ae 90 11,bV 91 .neq 89 90] (bz 91 (al [dg 4 false] .ret) .skip)) (.sq (.region [dg 4 true]) (.of .ret)))))))))))))))))))))))))))))))))))
def te:C:=(al [ed 2 0,iK 4 4] (.seq (al [bP 11 4 2,eJ 12 56 11,gU 13 12,ae 14 13,dc 14 false 15 1,bk 14 false (eJ 16 57 15),bk 14 false (gU 17 16),hj 18 14 17] (bz 18 (al [iK 4 4] .ret) .skip)) (al [bP 19 4 2,gW 20 58 [.t 19,(.c (.slice 1 .nil []))],ae 5 20] (al [ae 21 1,eu 22 21,ae 23 5,eu 24 23,gW 25 59 [.t 22,.t 24,(fI 512)],ae 6 25] (.seq (al [ae 26 6,br 27 .gtr 26 512] (bz 27 (al [iK 4 4] .ret) .skip)) (al [gN 28 4 30 [],ae 7 28] (.seq (al [cp 8 0] (.block 0 (.loop (.seq (al [ae 29 8,ae 30 6,bV 31 .lss 29 30] (bz 31 .skip (.exit 0))) (.seq (.block 1 (.seq (.drawn true 50 [ae 35 5,ae 36 1,ae 37 8,gW 38 61 [.t 35,.t 36,.t 37],bP 39 4 2,c8 40 60 38 39,ae 34 40,kX 41 0 34,kX 42 1 34,fM 9 e0,cZ 4 9 41,ae 10 42]) (.seq (al [ae 43 10,gU 44 43] (bz 44 (al [iK 4 4] .ret) .skip)) (.region [ae 45 7,bP 46 4 9,c8 47 62 45 46,ae 7 47])))) (.region [ae 32 8,br 33 .add 32 1,ae 8 33])))))) (al [ae 48 7,eJ 49 63 48,ae 4 49] .ret))))))))
def D0:C:=(al [ed 3 1,iK 4 4] (al [ae 7 0,eu 8 7,ae 5 8] (.seq (.block 0 (.loop (.seq (.seq (.drawn true 50 [ae 9 5,br 10 .gtr 9 0,ae 11 10,dc 11 true 12 0,dc 11 true 13 5,bk 11 true (br 14 .sub 13 1),bk 11 true (eO 15 4 12 14),bk 11 true (bP 16 4 15),bk 11 true (bP 17 4 3),bk 11 true (c8 18 125 16 17),bk 11 true (br 19 .geq 18 0),fL 20 11 19]) (bz 20 .skip (.exit 0))) (.block 1 (.region [ae 21 5,br 22 .sub 21 1,ae 5 22]))))) (.seq (.seq (.drawn true 50 [ae 23 5,ae 24 0,eu 25 24,bV 26 .lss 23 25,ae 27 26,dc 27 true 28 0,dc 27 true 29 5,bk 27 true (eO 30 4 28 29),bk 27 true (bP 31 4 30),bk 27 true (bP 32 4 3),bk 27 true (c8 33 129 31 32),fL 34 27 33]) (bz 34 (al [ae 35 0,ae 4 35] .ret) .skip)) (al [gN 36 4 30 [],ae 37 0,ae 38 5,cd 39 (.lsl 4 (.t 37) none (some (.t 38))),k7 40 4 30 36 39,ae 6 40] (al [ae 41 6,bP 42 4 3,gN 43 4 30 [.t 42],k7 44 4 30 41 43,ae 6 44] (al [ae 45 6,ae 46 0,ae 47 5,cd 48 (.lsl 4 (.t 46) (some (.t 47)) none),k7 49 4 30 45 48,ae 4 49] .ret)))))))
def DR:C:=(al [iK 2 4] (al [gN 6 4 30 [],ae 3 6] (.seq (al [ae 7 0,eu 8 7,cp 9 0] (mW 10 9 8 (.seq (.block 1 (al [eO 11 4 7 9,bP 12 4 11,fM 5 e0,cZ 4 5 12] (.region [ae 13 3,bP 14 4 5,eJ 15 130 14,gN 16 4 30 [.t 15],k7 17 4 30 13 16,ae 3 17]))) (.region [br 18 .add 9 1,ae 9 18])))) (al [ae 19 3,ae 2 19] .ret))))
def Br:vS aE vw [.tmp 4] 2 hn=true:=ac
def zl:aG.funcs[(3:Nat)]? =some hn:=Tryz.func3
def xx:cJ aE te [.tmp 4] 2 Tryz.f17=true:=ac
def RP:cJ aE D0 [.tmp 4] 2 Tryz.f62=true:=ac
def RG:cJ aE DR [.tmp 2] 1 Tryz.f63=true:=ac
def hB(l:List T)(t:T):Nat->Nat
 |0=>0
 |k+1=>match l[k]? with
  |some x=>if 0<=ca x t then hB l t k else k+1
  |none=>0
def AG(l:List T)(t:T):∀k,hB l t k<=k
 |0=>by simp[hB]
 |k+1=>by
  simp only[hB];split
  ·split
   ·have:=AG l t k;omega
   ·omega
  ·omega
def iY(l:List T)(t:T):List T:=if l[hB l t l.length]? =some t then l else l.take (hB l t l.length)++t::l.drop (hB l t l.length)
def P2(l:List T)(t:T)(k:Nat):Prop:=k<=l.length/\hB l t k=hB l t l.length
def sL(a b:List aa):bt (a++b)=bt a++bt b:=by rw[ya,ya,ya,List.map_append]
def Tt(l:List T)(G:l.length<=1000000)(t:T):ct aG 62 [b8 (l.map T.e),t.e] (b8 ((iY l t).map T.e)):=by
 refine cb bC Tryz.func62 RP fun F=>?_;unfold D0;simp;refine zc [0,3] (fun(k:Nat)=>[(5,aB k)]) (fun k=>k) (P2 l t) l.length dh ⟨Ω,rfl⟩ (fun k E _=>?_);obtain⟨U,p⟩:=E;have f:(l.map T.e).take l.length=l.map T.e:=lG Ψ;have m:∀k,bt ((l.map T.e).take k)=(l.map T.e).take k:=fun k=>by rw[<-List.map_take,Ca]
 have j:∀k,bt ((l.map T.e).drop k)=(l.map T.e).drop k:=fun k=>by rw[<-List.map_drop,Ca]
 rcases Nat.eq_zero_or_pos k with B|n
 ·subst B;have b:hB l t l.length=0:=by rw[<-p];rfl
  by_cases d:0<l.length
  ·obtain⟨y,a⟩:∃y,l[0]? =some y:=⟨_,cl d⟩;have g:∀h,l[0]'h=y:=fun h=>by rw[cl h]at a;simpa using a
   by_cases c:y=t
   ·(repeat' first|refine aS ?_|refine be (jx _ _) ?_|refine bf (jx _ _) ?_|refine be (l6 _ _) ?_|refine bf (l6 _ _) ?_|simp[d,a,g,c,b]);simp[b3,bq,bD,ba];simp[iY,b,a,c,f,sL,m,j]
   ·(repeat' first|refine aS ?_|refine be (jx _ _) ?_|refine bf (jx _ _) ?_|refine be (l6 _ _) ?_|refine bf (l6 _ _) ?_|simp[d,a,g,c,b]);simp[b3,bq,bD,ba];simp[iY,b,a,c,f,sL,m,j]
  ·have v:l[0]? =none:=List.getElem?_eq_none Ω;have z:l.take 0=l:=lG Ω;have s:l.drop 0=[]:=List.drop_of_length_le Ω;(repeat' first|refine aS ?_|refine be (jx _ _) ?_|refine bf (jx _ _) ?_|refine be (l6 _ _) ?_|refine bf (l6 _ _) ?_|simp[d,b]);simp[b3,bq,bD,ba];have w:(l.map T.e).take 0=l.map T.e:=lG (by rw[k8];omega);have q:(l.map T.e).drop 0=[]:=List.drop_of_length_le (by rw[k8];omega);first
    |(simp[iY,b,v,z,s,f,sL,w,q];done)
    |(have r:l=[]:=List.length_eq_zero_iff.1 Ω
      subst r;simp[iY,hB];done)
 ·obtain⟨x,e⟩:∃x,l[k-1]? =some x:=⟨_,cl Ω⟩;have i:∀h,l[k-1]'h=x:=fun h=>by rw[cl h]at e;simpa using e
  have o:((k:Int)-1).toNat=k-1:=Ω
  have u:((k-1:Nat):Int)=(k:Int)-1:=Ω
  have A:hB l t k=if 0<=ca x t then hB l t (k-1)else k:=by obtain⟨aQ,rfl⟩:∃aQ,k=aQ+1:=⟨k-1,Ω⟩;simp at e;simp[hB,e]
  by_cases ag:0<=ca x t
  ·(repeat' first|refine aS ?_|refine be (jx _ _) ?_|refine bf (jx _ _) ?_|simp[n,e,i,o,ag]);refine cP.whl (k-1) Ω ⟨Ω,?_⟩ ⟨by simp[fresh,aV,aR,ep,a7,ab,u],k1 (by simp[fresh,aV,aR,ep,a7,ab,u]),k2 (by simp[fresh,aV,aR,hh,a7,ab,u]),Ψ⟩;rw[<-p,A,if_pos ag]
  ·have b:hB l t l.length=k:=by rw[<-p,A,bH ag]
   by_cases d:k<l.length
   ·obtain⟨y,a⟩:∃y,l[k]? =some y:=⟨_,cl d⟩;have g:∀h,l[k]'h=y:=fun h=>by rw[cl h]at a;simpa using a
    by_cases c:y=t
    ·(repeat' first|refine aS ?_|refine be (jx _ _) ?_|refine bf (jx _ _) ?_|refine be (l6 _ _) ?_|refine bf (l6 _ _) ?_|simp[d,a,g,c,n,e,i,o,ag]);simp[b3,bq,bD,ba];simp[iY,b,a,c,f,sL,m,j]
    ·(repeat' first|refine aS ?_|refine be (jx _ _) ?_|refine bf (jx _ _) ?_|refine be (l6 _ _) ?_|refine bf (l6 _ _) ?_|simp[d,a,g,c,n,e,i,o,ag]);simp[b3,bq,bD,ba];simp[iY,b,a,c,f,sL,m,j]
   ·have v:l[k]? =none:=List.getElem?_eq_none Ω;have z:l.take k=l:=lG Ω;have s:l.drop k=[]:=List.drop_of_length_le Ω;(repeat' first|refine aS ?_|refine be (jx _ _) ?_|refine bf (jx _ _) ?_|refine be (l6 _ _) ?_|refine bf (l6 _ _) ?_|simp[d,n,e,i,o,ag]);simp[b3,bq,bD,ba];have w:(l.map T.e).take k=l.map T.e:=lG (by rw[k8];omega);have q:(l.map T.e).drop k=[]:=List.drop_of_length_le (by rw[k8];omega);first
     |(simp[iY,b,v,z,s,f,sL,w,q];done)
     |(have r:l=[]:=List.length_eq_zero_iff.1 Ω
       subst r;simp[iY,hB];done)
def Gm(l:List T)(t:T):∀n,n<=l.length->(hB l t n=0\/ ∃x,l[hB l t n-1]? =some x/\ca x t<0)/\∀j x,hB l t n<=j->j<n->l[j]? =some x->0<=ca x t
 |0,_=>by simp[hB]
 |n+1,h=>by
  obtain⟨x,a⟩:∃x,l[n]? =some x:=⟨_,cl Ω⟩;simp only[hB,a];by_cases ag:0<=ca x t
  ·rw[if_pos ag];obtain⟨I,J⟩:=Gm l t n Ω;refine⟨I,fun j y c d b=>?_⟩;rcases(by omega:j<n\/j=n)with e|rfl
   ·exact J j y c e b
   ·rw[a]at b;cases b;exact ag
  ·rw[bH ag];refine⟨.inr ⟨x,by simpa using a,Ω⟩,fun j y c d=>Ω⟩
def CN{l:List T}(h:lb ca l){i j:Nat}{x y:T}(a:i<j)(c:l[i]? =some x)(d:l[j]? =some y):ca x y<0:=by obtain⟨az,rfl⟩:=eQ.1 c;obtain⟨b,rfl⟩:=eQ.1 d;exact List.pairwise_iff_getElem.1 h i j az b a
def PN{l:List T}(h:lb ca l)(t:T):lb ca (iY l t)/\∀x,x∈iY l t↔x∈l\/x=t:=by
 obtain⟨k,U⟩:∃k,k=hB l t l.length:=⟨_,rfl⟩;have r:k<=l.length:=by rw[U];exact AG l t _
 obtain⟨I,J⟩:=Gm l t l.length (di _);unfold iY;rw[<-U]at I J⊢;split
 ·rename_i he;have hm:t∈l:=mY he;exact⟨h,fun x=>⟨fun a=>.inl a,fun a=>by rcases a with a|rfl;exact a;exact hm⟩⟩
 ·rename_i he;have f:∀x∈l.take k,ca x t<0:=by
   intro x a;obtain⟨i,az,rfl⟩:=List.mem_iff_getElem.1 a;have p:i<k:=by simp at az;omega
   rcases I with I|⟨y,b,m⟩
   ·omega
   ·simp only[List.getElem_take];rcases(by omega:i<k-1\/i=k-1)with j|rfl
    ·exact sr.ltr (CN h j (cl Ω) b) Ω
    ·rw[cl Ω]at b;simp at b;rw[b];exact m
  have e:∀x∈l.drop k,ca t x<0:=by
   intro x a;obtain⟨i,az,rfl⟩:=List.mem_iff_getElem.1 a;simp at az;simp only[List.getElem_drop];have c:l[k+i]? =some l[k+i]:=cl Ω;have j:=J (k+i) l[k+i] Ω Ω c;have u:=uw t l[k+i];rcases(by omega:ca t l[k+i]<0\/ca t l[k+i]=0)with d|d
   ·exact d
   ·exfalso;have g:=(ly _ _).1 d;rcases Nat.eq_zero_or_pos i with rfl|s
    ·apply he;rw[g];simpa using c
    ·obtain⟨y,b⟩:∃y,l[k]? =some y:=⟨_,cl Ω⟩;have n:=CN h (show k<k+i by omega) b c;have q:=J k y (di _) Ω b;rw[<-g]at n;omega
  have o:lb ca (l.take k++t::l.drop k):=by
   unfold lb;rw[List.pairwise_append];refine⟨h.sublist (List.take_sublist k l),?_,?_⟩
   ·rw[List.pairwise_cons];exact⟨e,h.sublist (List.drop_sublist k l)⟩
   ·intro x a y b;rcases gw.1 b with rfl|b
    ·exact f x a
    ·exact sr.ltr (f x a) (by have:=e y b;omega)
  refine⟨o,fun x=>?_⟩;conv=>rhs;rw[<-List.take_append_drop k l]
  simp only[lF,gw];constructor
  ·rintro(h|rfl|h)
   ·exact .inl (.inl h)
   ·exact .inr rfl
   ·exact .inl (.inr h)
  ·rintro((h|h)|rfl)
   ·exact .inl h
   ·exact .inr (.inr h)
   ·exact .inr (.inl rfl)
def Nq(t:T):∀(l:List Int) (v:Int),v∈t.fold iN l↔v∈l\/t.occ v=true:=by
 induction t with
 |var n=>
  intro l v;simp only[T.fold,iN,T.occ,c2];split
  ·rename_i h;constructor
   ·exact .inl
   ·rintro(e|rfl)
    ·exact e
    ·exact h
  ·simp only[lF,List.mem_singleton];exact or_congr Iff.rfl eq_comm
 |pair a b d c=>intro l v;simp only[T.fold,c,d,T.occ,Bool.or_eq_true,or_assoc]
 |_=>intro l v;simp[T.fold,T.occ]
def Nr(t:T):∀(l:List Int),l.Nodup->(t.fold iN l).Nodup:=by
 induction t with
 |var n=>
  intro l h;simp only[T.fold,iN];split
  ·exact h
  ·rename_i i;rw[ma];refine⟨h,Ψ,?_⟩;intro a g b c e;simp at c;subst c e;exact i g
 |pair a b f d=>intro l h;exact d _ (f _ h)
 |_=>intro l h;exact h
def S8{t:T}(d:t.fit=true):rb t=cC t []:=by
 have e:(rb t).Pairwise (· < ·):=by simp only[rb,d,if_true,k0];have I:=List.pairwise_mergeSort (le:=fun x y:Int=>decide (x<=y)) (fun a b c=>by simp;omega) (fun a b=>by simp;omega) (t.fold iN []);have J:((t.fold iN []).mergeSort fun x y=>decide (x<=y)).Nodup:=(List.mergeSort_perm _ _).nodup_iff.2 (Nr t [] Ψ);refine(X3 I J).imp fun{a b} h=>?_;have:=h.1;simp at this;omega
 have lt:∀{l:List Int},l.Pairwise (· < ·)->lb gg l:=fun h=>h.imp fun{a b} h=>by unfold gg;rw[if_pos h];omega
 refine(lt e).ext oT (lt (u3 t (l:=[]) ym)) fun x=>?_;rw[xi];simp only[rb,d,if_true,k0];rw[(List.mergeSort_perm _ _).mem_iff,Nq];simp
def To(l:List T)(f:l.length<=1000000):ct aG 63 [b8 (l.map T.e)] (b8 (l.map T.e)):=by
 refine cb bC Tryz.func63 RG fun e=>?_;unfold DR;simp;refine kG (fun i (_:Unit)=>⟨[(3,.slice 4 (.own (.loc 0)) ((l.map T.e).take i)),(7,b8 (l.map T.e)),(8,aB l.length),(9,aB i)],[],[(.loc 0,⟨i,30,4,none⟩)],1,[]⟩) l.length (fun _ _=>True) () dh trivial (fun _ _ _=>?_) (fun i _ az _ _=>?_)
 ·have c:(l.map T.e).take l.length=l.map T.e:=lG Ψ;simp;(repeat' first|refine aS ?_|simp);simp[b3,bq,bD,ba];simp[c]
 ·obtain⟨x,d,a⟩:=pg az;have I:(l.take i).length=i:=by rw[List.length_take];omega
  have U:∀S:ar->Prop,aV S ((l.map T.e).take i)=True:=fun S=>by rw[<-List.map_take];exact Qe S _
  have hm:min i l.length=i:=Ω
  have J:(l.map T.e).take (i+1)=(l.map T.e).take i++[x.e]:=uX (by rw[List.getElem?_map,d];rfl);have b:=Tn x;simp[az,a];(repeat' first|refine aS ?_|refine be b ?_|refine bf b ?_|simp[az,a,I,hm]);all_goals try refine⟨by unfold cH;omega,?_⟩
  all_goals(repeat' first|refine aS ?_|simp[az,a,I,hm])
  all_goals refine cP.rng () az trivial ?_
  all_goals rw[J]
  all_goals exact⟨by simp[fresh,aV,aR,ep,a7,ab,lu,I,hm,U],k1 (by simp[fresh,aV,aR,ep,a7,ab,lu,I,hm,U]),k2 (by simp[fresh,aV,aR,hh,a7,ab,lu,I,hm,U]),Ψ⟩
def zy(t:T)(u:List T):Prop:=fw u.length (cC t []).length 1<=512/\∀r∈eS u (cC t []) [[]],(t.ap (eI r)).size<=5000
open Classical in
noncomputable def kK(t:T)(u:List T):List T:=if zy t u then asc ca ((eS u (cC t []) [[]]).map fun r=>t.ap (eI r))else []
def vm{u:List T}(hu:0<u.length)(aJ:List Int)(r:List bc):r∈eS u aJ [[]]↔∃k,k<u.length ^ aJ.length/\gj u k aJ=r:=by
 have h:=CY u hu aJ fun x=>decide (x=r);have I:r∈eS u aJ [[]]↔0<(eS u aJ [[]]).countP fun x=>decide (x=r):=by rw[List.countP_pos_iff];exact⟨fun h=>⟨r,h,Ψ⟩,fun⟨x,b,e⟩=>by simp at e;rw[<-e];exact b⟩
 rw[I,h];generalize u.length ^ aJ.length=n;clear h I;unfold vC;induction n with
 |zero=>simp[gr]
 |succ n a=>
  simp only[gr];constructor
  ·intro h;by_cases q:gj u n aJ=r
   ·exact⟨n,Ω,q⟩
   ·simp[q]at h;obtain⟨k,U,e⟩:=a.1 h;exact⟨k,Ω,e⟩
  ·rintro⟨k,U,e⟩;by_cases q:k=n
   ·subst q;simp[e]
   ·exact Nat.lt_of_lt_of_le (a.2 ⟨k,Ω,e⟩) (Nat.le_add_right _ _)
def IG{t:T}{u:List T}(a:∀x∈u,x.fit=true/\x.gnd=true){r:List bc}(I:r.map (·.v)=cC t [])(J:∀b∈r,b.t∈u):mb r/\pj r/\r.length<=(cC t []).length:=by refine⟨?_,fun b c=>(a _ (J b c)).1,by rw[<-I];simp⟩;have h:=u3 t (l:=[]) ym;rw[<-I]at h;exact List.pairwise_map.1 h
def kh(t:T)(u:List T):Nat->List T
 |0=>[]
 |n+1=>iY (kh t u n) (t.ap (eI (gj u n (cC t []))))
def Gp(t:T)(u:List T):∀n,lb ca (kh t u n)/\(∀x,x∈kh t u n↔∃k,k<n/\t.ap (eI (gj u k (cC t [])))=x)
 |0=>⟨ym,fun x=>by simp[kh]⟩
 |n+1=>by
  obtain⟨I,J⟩:=Gp t u n;obtain⟨a,b⟩:=PN I (t.ap (eI (gj u n (cC t []))));refine⟨a,fun x=>?_⟩;rw[kh,b,J];constructor
  ·rintro(⟨k,U,e⟩|e)
   ·exact⟨k,Ω,e⟩
   ·exact⟨n,Ω,e.symm⟩
  ·rintro⟨k,U,e⟩;by_cases q:k=n
   ·subst q;exact .inr e.symm
   ·exact .inl ⟨k,Ω,e⟩
def PO(l:List T)(t:T):(iY l t).length<=l.length+1:=by
 unfold iY;split
 ·omega
 ·have:=AG l t l.length;simp;omega
def AH(t:T)(u:List T):∀n,(kh t u n).length<=n
 |0=>by simp[kh]
 |n+1=>by have:=PO (kh t u n) (t.ap (eI (gj u n (cC t []))));have:=AH t u n;rw[kh];omega
def Gn{t:T}{u:List T}(hu:0<u.length)(hw:fw u.length (cC t []).length 1<=512):kh t u (fw u.length (cC t []).length 1)=asc ca ((eS u (cC t []) [[]]).map fun r=>t.ap (eI r)):=by
 obtain⟨I,J⟩:=Gp t u (fw u.length (cC t []).length 1);refine I.ext sr (Km sr _) fun x=>?_;rw[J,Hd,k9];have e:=yj hu _ 1 hw;rw[Nat.one_mul]at e;rw[e];constructor
 ·rintro⟨k,U,rfl⟩;exact⟨_,(vm hu _ _).2 ⟨k,U,rfl⟩,rfl⟩
 ·rintro⟨r,a,rfl⟩;obtain⟨k,U,rfl⟩:=(vm hu _ _).1 a;exact⟨k,U,rfl⟩
def EL{t:T}(a:t.fit=true):(cC t []).length<=5000:=by have:=u4 t [];simp only[T.fit,bN,e3]at a;simp at this;omega
open Classical in
def Q1{t:T}(s:t.fit=true){u:List T}(hu:sP u=true):gO aG 20 [t.e,b8 (u.map T.e)] fun κ=>.slice 4 (.tr (.loc κ) 0) ((kK t u).map T.e):=by
 have U:=((sQ u).1 hu).1;have B:=yf hu;have L:=EL s;have E:∀r:List bc,r.map (·.v)=cC t []->(∀b∈r,b.t∈u)->mb r/\pj r/\r.length<=5000:=fun r I J=>by obtain⟨l,H,V⟩:=IG B I J;exact⟨l,H,Ω⟩
 have d:=Ju (u.map T.tm);rw[decide_eq_true ⟨u,rfl,hu⟩,vK]at d;obtain⟨R,cR⟩:∃R,kK t u=R:=⟨_,rfl⟩;rw[cR];have f:ct aG 64 [t.e] (.bool true):=Jt s;have a:=Th t;rw[S8 s]at a;have fu:=Tx u.length (cC t []).length Ω Ω;rw[R2]at fu;by_cases g:fw u.length (cC t []).length 1<=512;rotate_left
 ·have z:R=[]:=by rw[<-cR,kK,bH fun h=>g h.1]
  rw[show min (fw u.length (cC t []).length 1) 513=513 by omega]at fu;subst z;clear g cR E s B;generalize cC t []=aJ at a fu L;refine gO.mk mixed bC Tryz.func20 xv Ψ fun F κ=>?_;unfold tc;clear F;simp;(repeat' first|refine aS ?_|refine be f ?_|refine bf f ?_|refine be d ?_|refine bf d ?_|refine be a ?_|refine bf a ?_|refine be fu ?_|refine bf fu ?_|simp[w1]);all_goals(refine jD.val Ψ ?_;simp[bq,bD,ba,eN,hS,dN,gT,dr,gD,tnL,tn,e8,gq,fold,iw,ir,ld,ab,dU,bt,bE])
 have hw:=yj Ω _ 1 g;rw[Nat.one_mul]at hw;rw[show min (fw u.length (cC t []).length 1) 513=fw u.length (cC t []).length 1 by omega]at fu;have e:=Ti (cC t []) u Ω Ω (by rw[<-hw];omega) fun i rows h r j=>jB (Kn Ω h j) Ω;have Q:(eS u (cC t []) [[]]).length<=512:=by rw[yD,<-hw];simpa using g
 have n:∀v∈eS u (cC t []) [[]],mb v/\pj v/\v.length<=5000:=fun v P=>by obtain⟨q,O,w,rfl,J,l⟩:=yE u _ [[]] v P;rw[List.mem_singleton.1 O,List.nil_append];exact E w J l
 have p:(∀r∈eS u (cC t []) [[]],(t.ap (eI r)).size<=5000)->asc ca ((eS u (cC t []) [[]]).map fun r=>t.ap (eI r))=R:=fun h=>by rw[<-cR,kK,if_pos ⟨g,h⟩]
 have o:¬(∀r∈eS u (cC t []) [[]],(t.ap (eI r)).size<=5000)->R=[]:=fun h=>by rw[<-cR,kK,bH fun q=>h q.2]
 clear cR hw E s B;generalize eS u (cC t []) [[]]=A at e Q n p o;generalize fw u.length (cC t []).length 1=w at fu g;generalize cC t []=aJ at a fu e L;have N:¬(512:Int)<w:=Ω
 refine gO.mk mixed bC Tryz.func20 xv Ψ fun F κ=>?_;unfold tc;clear F;simp;(repeat' first|refine aS ?_|refine be f ?_|refine bf f ?_|refine be d ?_|refine bf d ?_|refine be a ?_|refine bf a ?_|refine be fu ?_|refine bf fu ?_|refine be e ?_|refine bf e ?_|simp[w1,N]);refine kG (fun i (acc:List T)=>⟨[(2,.ptr (.loc 0) 0),(30,hW (A.map gC)),(31,aB A.length),(6,.slice 4 (.own (.loc 1)) (acc.map T.e)),(32,aB i)],[(.loc 0,[aB t.kind,aB t.int,.str t.name,b8 (t.args.map T.e)])],[(.loc 1,⟨acc.length,30,4,none⟩)],2,[]⟩) A.length (fun i acc=>(∀r∈A.take i,(t.ap (eI r)).size<=5000)/\acc=(A.take i).map fun r=>t.ap (eI r)) [] dh ⟨Ψ,Ψ⟩ (fun acc G _=>?_) (fun i acc az G _=>?_)
 ·obtain⟨I,J⟩:=G;rw[List.take_length]at I J;have l:=p I;rw[<-J]at l;have H:acc.length<=1000000:=by rw[J,k8];omega
  clear I J p o n e f d a fu;simp;(repeat' first|refine aS ?_|simp);(refine CallDo.own Ψ (Q3 acc H) (by simp[dU]) ?_;simp);(repeat' first|refine aS ?_|simp);(refine jD.val Ψ ?_;simp[bq,bD,ba,eN,hS,dN,gT,dr,gD,tnL,tn,e8,gq,fold,iw,ir,ld,ab,dU,bt,bE,l])
 ·obtain⟨I,J⟩:=G;obtain⟨r,j,m⟩:=pg az;obtain⟨v1,v2,v3⟩:=n r (mY j);have c:=Tz r t Ω v1 v2;have S:acc.length<=512:=by rw[J];simp;omega
  have K:=uX j;have k:gv (r.map bc.e)=gC r:=rfl;rw[k]at c;by_cases q:(t.ap (eI r)).size<=5000
  ·rw[if_pos q,decide_eq_true q]at c;have M:(∀r∈A.take (i+1),(t.ap (eI r)).size<=5000)/\acc++[t.ap (eI r)]=(A.take (i+1)).map fun r=>t.ap (eI r):=by
    rw[K];refine⟨fun x k=>?_,by rw[J];simp⟩;rcases lF.1 k with k|k
    ·exact I x k
    ·rw[List.mem_singleton.1 k];exact q
   generalize t.ap (eI r)=y at c M q;clear I J p o n e f d a fu K v1 v2 v3 j;simp[az,m];(repeat' first|refine aS ?_|refine be c ?_|refine bf c ?_|simp[az,m]);all_goals try refine⟨by unfold cH;omega,?_⟩
   all_goals(repeat' first|refine aS ?_|simp[az,m])
   refine cP.rng (acc++[y]) az (by simpa only[List.map_take]using M) ?_;exact⟨by simp[fresh,aV,aR,ep,a7,ab,lu],k1 (by simp[fresh,aV,aR,ep,a7,ab,lu]),k2 (by simp[fresh,aV,aR,hh,a7,ab,lu]),Ψ⟩
  ·rw[bH q,decide_eq_false q]at c;have z:=o fun h=>q (h r (mY j));subst z;clear I J p o n e f d a fu K v1 v2 v3 j q;simp[az,m];(repeat' first|refine aS ?_|refine be c ?_|refine bf c ?_|simp[az,m]);all_goals(refine jD.val Ψ ?_;simp[bq,bD,ba,eN,hS,dN,gT,dr,gD,tnL,tn,e8,gq,fold,iw,ir,ld,ab,dU,bt,bE])
def Q2(a:Tm)(l:List Tm)(h:a.fits=false\/¬gu l):gO aG 20 [enc a,b8 (l.map enc)] fun κ=>.slice 4 (.tr (.loc κ) 0) []:=by
 classical
 have b:=Cs a;have c:=Ju l;cases d:a.fits
 ·rw[d]at b;clear h;refine gO.mk mixed bC Tryz.func20 xv Ψ fun e κ=>?_;unfold tc;simp;(repeat' first|refine aS ?_|refine be b ?_|refine bf b ?_|simp);all_goals(refine jD.val Ψ ?_;simp[bq,bD,ba,eN,hS,dN,gT,dr,gD,tnL,tn,e8,gq,fold,iw,ir,ld,ab,dU,bt,bE])
 ·rw[d]at b;rw[decide_eq_false (h.resolve_left (by simp[d]))]at c;refine gO.mk mixed bC Tryz.func20 xv Ψ fun e κ=>?_;unfold tc;simp;(repeat' first|refine aS ?_|refine be b ?_|refine bf b ?_|refine be c ?_|refine bf c ?_|simp);all_goals(refine jD.val Ψ ?_;simp[bq,bD,ba,eN,hS,dN,gT,dr,gD,tnL,tn,e8,gq,fold,iw,ir,ld,ab,dU,bt,bE])
open Classical in
def TA{t:T}(s:t.fit=true){u:List T}(hu:sP u=true):ct aG 17 [t.e,b8 (u.map T.e)] (b8 ((kK t u).map T.e)):=by
 have mC:=((sQ u).1 hu).1;have B:=yf hu;have N:=EL s;have P:∀r:List bc,r.map (·.v)=cC t []->(∀b∈r,b.t∈u)->mb r/\pj r/\r.length<=5000:=fun r I J=>by obtain⟨y,M,a6⟩:=IG B I J;exact⟨y,M,Ω⟩
 have c:=JK (u.map T.tm);rw[decide_eq_true ⟨u,rfl,hu⟩,vK]at c;obtain⟨R,cR⟩:∃R,kK t u=R:=⟨_,rfl⟩;rw[cR];have f:=yh t.tm;rw[show t.tm.fits=true from(Tm.fits_T t).trans s,fQ]at f;have a:=yg t [] (by simp only[T.fit,bN,e3]at s;simp;omega) ym;rw[show c0 []=[]from rfl]at a;have fu:=Tv u.length (cC t []).length Ω Ω;by_cases g:fw u.length (cC t []).length 1<=512;rotate_left
 ·have A:R=[]:=by rw[<-cR,kK,bH fun h=>g h.1]
  subst A;clear cR P s B;generalize fw u.length (cC t []).length 1=w at fu g;generalize cC t []=aJ at a fu N;have H:(512:Int)<w:=Ω
  refine cb bC Tryz.func17 xx fun K=>?_;unfold te;clear K;simp;(repeat' first|refine aS ?_|refine be f ?_|refine bf f ?_|refine be c ?_|refine bf c ?_|refine be a ?_|refine bf a ?_|refine be fu ?_|refine bf fu ?_|simp[w1,H]);all_goals simp[b3,bq,bD,ba]
 have m:=fun k U=>Tu u Ω (cC t []) Ω k U;have E:∀k,(gj u k (cC t [])).length<=1000000:=fun k=>by obtain⟨I,J⟩:=JM u Ω k (cC t []);have:=eR lE I;simp at this;omega
 have G:(∀k,k<fw u.length (cC t []).length 1->(t.ap (eI (gj u k (cC t [])))).size<=5000)↔zy t u:=by
  have e:=yj Ω _ 1 g;rw[Nat.one_mul]at e;rw[zy,e];constructor
  ·intro h;refine⟨Ω,fun r aq=>?_⟩;obtain⟨k,U,rfl⟩:=(vm Ω _ _).1 aq;exact h k U
  ·intro h k U;exact h.2 _ ((vm Ω _ _).2 ⟨k,U,rfl⟩)
 have d:(∀k,k<fw u.length (cC t []).length 1->(t.ap (eI (gj u k (cC t [])))).size<=5000)->kh t u (fw u.length (cC t []).length 1)=R:=fun h=>by rw[<-cR,kK,if_pos (G.1 h),Gn Ω g]
 have j:¬(∀k,k<fw u.length (cC t []).length 1->(t.ap (eI (gj u k (cC t [])))).size<=5000)->R=[]:=fun h=>by rw[<-cR,kK,bH fun q=>h (G.2 q)]
 clear cR G P s B;have l:∀k,kh t u (k+1)=iY (kh t u k) (t.ap (eI (gj u k (cC t [])))):=fun k=>rfl;have hlen:=AH t u;have V:kh t u 0=[]:=rfl;generalize kh t u=Q at d l hlen V;generalize fw u.length (cC t []).length 1=w at fu g d j;generalize cC t []=aJ at a fu N m E d j l;generalize S:(fun k=>gj u k aJ)=F;have O:∀k,gj u k aJ=F k:=fun k=>by rw[<-S]
 simp only[O]at m E d j l;clear S O;have H:¬(512:Int)<w:=Ω
 refine cb bC Tryz.func17 xx fun K=>?_;unfold te;clear K;simp;(repeat' first|refine aS ?_|refine be f ?_|refine bf f ?_|refine be c ?_|refine bf c ?_|refine be a ?_|refine bf a ?_|refine be fu ?_|refine bf fu ?_|simp[w1,H]);refine lf [1,2,5,6] (fun i (x:hI×List T)=>[(7,.slice 4 x.1 (x.2.map T.e)),(8,aB i)]) w (fun i x=>(x.1= .own (.loc 1)\/x.1= .no)/\x.2=Q i/\∀k,k<i->(t.ap (eI (F k))).size<=5000) (.own (.loc 1),[]) dh ⟨.inl rfl,V.symm,by intro k U;omega⟩ (fun x L _=>?_) (fun i x az L _=>?_)
 ·obtain⟨Ck,acc⟩:=x;obtain⟨o,I,J⟩:=L;simp only at o I J;have y:=d J;rw[<-I]at y;have M:acc.length<=1000000:=by rw[I];have:=hlen w;omega
  have X:=To acc M;clear I J d j f c a fu m l;rcases o with rfl|rfl;all_goals simp
  all_goals(repeat' first|refine aS ?_|refine be X ?_|refine bf X ?_|simp)
  all_goals simp[b3,bq,bD,ba]
  all_goals simp[y]
 ·obtain⟨Ck,acc⟩:=x;obtain⟨o,I,J⟩:=L;simp only at o I J;have v:=m i Ω;have n:=Tr (F i) (E i) t;have Y:acc.length<=1000000:=by rw[I];have:=hlen i;omega
  by_cases q:(t.ap (eI (F i))).size<=5000
  ·rw[decide_eq_true q]at n;have z:=Tt acc Y (t.ap (eI (F i)));have W:iY acc (t.ap (eI (F i)))=Q (i+1)/\∀k,k<i+1->(t.ap (eI (F k))).size<=5000:=by
    refine⟨by rw[l,I],fun k U=>?_⟩;rcases(by omega:k<i\/k=i)with h|rfl
    ·exact J k h
    ·exact q
   have p:(i:Int)<w:=Ω
   generalize iY acc (t.ap (eI (F i)))=Z at z W;clear I J d j f c a fu m l q;rcases o with rfl|rfl;all_goals simp[az,p]
   all_goals(repeat' first|refine aS ?_|refine be v ?_|refine bf v ?_|refine be n ?_|refine bf n ?_|refine be z ?_|refine bf z ?_|simp[az,p])
   all_goals exact cP.rng (.no,Z) az ⟨.inr rfl,W⟩ dh
  ·rw[decide_eq_false q]at n;have A:=j fun h=>q (h i az);subst A;have p:(i:Int)<w:=Ω
   clear I J d j f c a fu m l q;rcases o with rfl|rfl;all_goals simp[az,p]
   all_goals(repeat' first|refine aS ?_|refine be v ?_|refine bf v ?_|refine be n ?_|refine bf n ?_|simp[az,p])
   all_goals simp[b3,bq,bD,ba]
def TB(a:Tm)(l:List Tm)(h:a.fits=false\/¬gu l):ct aG 17 [enc a,b8 (l.map enc)] (b8 []):=by
 classical
 have c:=yh a;have d:=JK l;cases b:a.fits
 ·rw[b]at c;clear h;refine cb bC Tryz.func17 xx fun e=>?_;unfold te;exact eA
 ·rw[b]at c;rw[decide_eq_false (h.resolve_left (by simp[b]))]at d;refine cb bC Tryz.func17 xx fun e=>?_;unfold te;exact eA
def NR(t:T)(u:List T):(kK t u).length<=512/\∀x∈kK t u,x.size<=5000:=by
 unfold kK;split
 ·rename_i g;refine⟨?_,fun x a=>?_⟩
  ·by_cases hu:0<u.length
   ·rw[<-Gn hu g.1];exact jB (AH t u _) g.1
   ·have b:u=[]:=List.length_eq_zero_iff.1 Ω;subst b;have I:=Kl ca ((eS [] (cC t []) [[]]).map fun r=>t.ap (eI r));rw[k8,yD]at I;have J:([]:List T).length ^ (cC t []).length<=1:=by
     cases (cC t []).length with
     |zero=>simp
     |succ n=>simp
    simp at I J;omega
  ·rw[Hd,k9]at a;obtain⟨r,c,rfl⟩:=a;exact g.2 r c
 ·simp
open Classical in
def Mo(a:Tm)(l:List Tm):∃W:List T,(W.length<=512/\∀x∈W,x.size<=5000)/\ct aG 17 [enc a,b8 (l.map enc)] (b8 (W.map T.e))/\gO aG 20 [enc a,b8 (l.map enc)] fun κ=>.slice 4 (.tr (.loc κ) 0) (W.map T.e):=by
 by_cases g:a.fits=true/\gu l
 ·obtain⟨g1,u,rfl,hu⟩:=g;obtain⟨t,rfl,c⟩:=Tm.fits_ex g1;rw[fQ,vK];exact⟨kK t u,NR t u,TA c hu,Q1 c hu⟩
 ·have b:a.fits=false\/¬gu l:=by
   cases h:a.fits
   ·exact .inl rfl
   ·exact .inr fun q=>g ⟨h,q⟩
  exact⟨[],Ψ,TB a l b,Q2 a l b⟩
def S6(l:List Tm)(m:Int)(h:0<=o4 (.l (l.map kp)) m):(gM (l.map enc):Int)<=4*(m-o4 (.l (l.map kp)) m):=SS l m (fun x m h=>by
 have J:=Cg x m h;have a:=Cy x;have b:1<=x.sz:=by cases x;simp[Tm.sz]
 omega) h
def y7{xs:List aa}(h:ea xs):b6 (b8 xs):=⟨Ω,h⟩
def Ed(xs:List aa)(k:Int):bS (b8 (bI cB xs k).1)=bS (b8 xs):=rA (oS ..) (pd ..)
def Ls(b:Nat)(xs:List aa)(k:Int):ef b (b8 (bI cB xs k).1)=ef b (b8 xs):=Ew (oS ..)
def Td(a:bj)(l:dZ bj)(p:a.wf)(s:l.wf fun t=>t.wf):ct aG 3 [a.e,mT l] (.bool true):=by
 have i:=JL a p 1048576 Ω Ω;have r:=p6 a 1048576 Ω;by_cases g:eW a 1048576<0
 ·generalize eW a 1048576=q at i g;rw[bj.e_eq]at i⊢;clear r;refine ct.mkD mixed bC zl Br Ψ (by simp[aR]) fun H=>?_;unfold vw;exact eA
 obtain⟨a,rfl⟩:=Cf a 1048576 p Ω Ω Ω;have z:=S3 (a:=a) (q:=1048576) Ω Ω;rw[Cm]at i⊢;generalize eW (kp a) 1048576=b at i g r;have j:=TE l s b Ω Ω;have R:=SU l b Ω;by_cases g2:o4 l b<0
 ·generalize o4 l b=X at j g2;clear r R;refine ct.mkD mixed bC zl Br Ψ (by simp[aR]) fun H=>?_;unfold vw;exact eA
 obtain⟨l,rfl⟩:=SQ p6 (P:=fun t=>t.wf) (fun x m Z I V h=>Cf x m Z I V h) l b s Ω Ω (show 0<=jT eW l b by unfold o4 at g2;omega);have PK:=S6 l b Ω;rw[S5]at j⊢;generalize o4 (.l (l.map kp)) b=X at j g2 R PK;have t1:=TF a;have F:=xq a;have K:=Jw a;have t2:=TG l;have U:=Bh l fun x _=>xq x;have M:=Jy l;obtain⟨W,⟨Q,O⟩,s1,i1⟩:=Mo a l;have d:=Jy (W.map T.tm);rw[vK]at d;have N:ct aG 20 [enc a,b8 (l.map enc)] (b8 (W.map T.e)):=by have:=i1.val (by simp[bE,bt,aR,aV]);simpa[bE,bt]using this
 have Ve:gM (W.map T.e)<=15000*512:=by
  have:=JP (f:=T.e) (c:=15000) W fun x Y=>by rw[TH];have:=O x Y;omega
  have J:15000*W.length<=15000*512:=Nat.mul_le_mul_left _ Q;omega
 clear p s Q O;unfold Tm.k at F;refine ct.mkD mixed bC zl Br Ψ (by simp[aR]) fun H=>?_;unfold vw;simp;(repeat' first|refine aS ?_|refine be i ?_|refine bf i ?_|refine be j ?_|refine bf j ?_|refine be t1 ?_|refine bf t1 ?_|refine be t2 ?_|refine bf t2 ?_|refine be s1 ?_|refine bf s1 ?_|simp[g,g2]);refine Mc ⟨[(1,b8 (l.map enc)),(2,.ptr (.loc 0) 0),(6,b8 (W.map T.e))],
  [(.loc 0,tb SV a)],[],12,[]⟩ dh ?_ ?_
 ·simp[x0,x2,x1,p3,q3]
 simp[o1,x3,uQ,hk,p2];(repeat' first|refine aS ?_|simp);(refine CallDo.own Ψ (F) (by simp[dU]) ?_;simp);(repeat' first|refine aS ?_|simp);(refine CallDo.own Ψ (U) (by simp[dU]) ?_;simp);(repeat' first|refine aS ?_|simp);(refine CallDo.own Ψ (i1) (by simp[dU]) ?_;simp);(repeat' first|refine aS ?_|refine be d ?_|refine bf d ?_|refine be t1 ?_|refine bf t1 ?_|refine be t2 ?_|refine bf t2 ?_|refine be K ?_|refine bf K ?_|refine be M ?_|refine bf M ?_|simp);refine ze ⟨[(1,.slice 4 (.lo dU) (l.map enc)),(2,.ptr (.loc 0) 0),(6,.slice 4 (.lo dU) (W.map T.e)),(7,.ptr (.loc 13) 0),(8,.slice 4 (.tr (.loc 14) 0) (l.map enc)),(9,.slice 4 (.tr (.loc 15) 0) (W.map T.e)),(10,aB 1)],
  [(.loc 0,tb Ci a),(.loc 13,tb (SX 12) a)],[],20,[dU]⟩ 1000000 dh ?_ fun ε=>?_
 ·simp[q9,k4,e8,gq,tn,tnL,su,ab,dU]
 simp[l4,l3,nj,mg,fP,ji,bE,bt,tn,tnL,ab];(repeat' first|refine aS ?_|simp[Lq]);have f1:=NG a.kind a.num a.name (a.args.map enc) Lt 1 1000000 ε Ω (by have:=z 1;omega);have f2:aV (rng 1000000 _) [_,aB 1]:=⟨qM _ 1000000 (En a),by simp[aR],trivial⟩;rw[tl]at f1 f2;refine CallDo.tree (En a) (Lg ..) f1 (by first|rfl|rw[ql]) f2 ?_;have OP:=oR cB (a.args.map enc) 1;have OW:=z 1;clear f1 f2 z;generalize (bI cB (a.args.map enc) 1).2=e at OP OW⊢;simp;(repeat' first|refine aS ?_|simp);refine ze ⟨[(1,.slice 4 (.lo dU) (l.map enc)),(2,.ptr (.loc 0) 0),(6,.slice 4 (.lo dU) (W.map T.e)),(8,.slice 4 (.tr (.loc 14) 0) (l.map enc)),(9,.slice 4 (.tr (.loc 15) 0) (W.map T.e)),(10,aB e)],
  [(.loc 0,tb Ci a)],[],20,[dU]⟩ 1000000 dh ?_ fun ε=>?_
 ·simp[q9,k4,e8,gq,tn,tnL,su,ab,dU]
 simp[l4,l3,nj,mg,fP,ji,bE,bt,tn,tnL,ab];(repeat' first|refine aS ?_|simp);have Vp:(gM (l.map enc):Int)<=4194304:=Ω
 have hle:∀y∈l.map enc,fY y:=fun y v=>by obtain⟨u,_,rfl⟩:=k9.1 v;exact w4 u
 have E:(bI cB (l.map enc) e).2=e+gM (l.map enc):=sj ..;have f1:=zt (jw (l.map enc)) (l.map enc) (di _) hle e 1000000 ε Ω (by rw[E];omega);have f2:aV (rng 1000000 _) [_,aB e]:=⟨qM _ 1000000 (y7 (tj enc l|>.2 fun x _=>vI x)),by simp[aR],trivial⟩;refine CallDo.tree (y7 (tj enc l|>.2 fun x _=>vI x)) (Ed ..) f1 rfl f2 ?_;clear f1 f2;rw[E];obtain⟨o,N2⟩:∃o,e+(gM (l.map enc):Int)=o:=⟨_,rfl⟩;rw[N2];have L:¬o<0:=Ω
 simp[L];(repeat' first|refine aS ?_|refine be d ?_|refine bf d ?_|simp[L]);refine ze ⟨[(1,.slice 4 (.lo dU) (l.map enc)),(2,.ptr (.loc 0) 0),(6,.slice 4 (.lo dU) (W.map T.e)),(9,.slice 4 (.tr (.loc 15) 0) (W.map T.e)),(11,aB 1)],
  [(.loc 0,tb Ci a)],[],20,[dU]⟩ 1000000 dh ?_ fun ε=>?_
 ·simp[q9,k4,e8,gq,tn,tnL,su,ab,dU]
 simp[l4,l3,nj,mg,fP,ji,bE,bt,tn,tnL,ab];(repeat' first|refine aS ?_|simp);have B:∀y∈W.map T.e,fY y:=fun y v=>by obtain⟨u,_,rfl⟩:=k9.1 v;exact Gt u
 have k:(bI cB (W.map T.e) 1).2=1+gM (W.map T.e):=sj ..;have w:=y7 (xs:=W.map T.e) ((tj T.e W).2 fun x _=>fY.dt' _|>.1 x.e (di _) (Gt x));have f1:=zt (jw (W.map T.e)) (W.map T.e) (di _) B 1 1000000 ε Ω (by rw[k];omega);have f3:=NC (jw (W.map T.e)) (W.map T.e) (di _) B 1 1000000 ε Ω (by rw[k];omega);have f2:aV (rng 1000000 _) [_,aB 1]:=⟨qM _ 1000000 w,by simp[aR],trivial⟩;have f4:=f2;have f5:b6 (b8 (bI cB (W.map T.e) 1).1):=y6 cB _ 1 w;have f6:=Ed (W.map T.e) 1;rw[<-f6]at f4;rw[k]at f1 f3;obtain⟨n,N3⟩:∃n,1+(gM (W.map T.e):Int)=n:=⟨_,rfl⟩;rw[N3]at f1 f3;obtain⟨P,A⟩:∃P,P=b8 (bI cB (W.map T.e) 1).1:=⟨_,rfl⟩;rw[<-A]at f1 f3 f4 f5 f6;have S:ef 1000000 P=ef 1000000 (b8 (W.map T.e)):=by rw[A];exact Ls ..
 rw[S]at f3;refine CallDo.tree w f6 f1 rfl f2 ?_;have G:¬n<0:=Ω
 clear f1 f2 f6;simp;(repeat' first|refine aS ?_|simp);refine CallDo.tree f5 rfl f3 ?_ f4 ?_
 ·rfl
 simp[G];(repeat' first|refine aS ?_|refine be t1 ?_|refine bf t1 ?_|refine be t2 ?_|refine bf t2 ?_|refine be N ?_|refine bf N ?_|refine be d ?_|refine bf d ?_|simp[G]);refine CallDo.tree f5 rfl f3 ?_ f4 ?_
 ·rfl
 exact eA
end
section
open Go Go.Pv Go.ChangeShapes Go.WideShapes Go.ChangeAt Go.RowKit Go.Deep
def S0{H:Type}{enc:ey×Value->H}{W:World}{spare:Nat->Bool}{held:Bool}{v:Value}{x:DataW H×List MemPlace}{fuel:Nat}(h:DataW.trod enc aG W 0 spare held fuel 22 [v]=some x):∃d:dZ bj,d.wf (fun t=>t.wf)/\aw W (lN W) (mT d) v:=by
 obtain⟨l,a,u,e,c⟩:=IU bj.e bj.wf Tryz.underlying22 yR Ω (fun n' cs' f g b=>by obtain⟨t,t1,t2⟩:=Jg _ _ _ b;exact⟨t,t1,by rw[bj.e_eq];exact BK t2⟩) h
 cases e;exact⟨l,a,c.1⟩
end
end Go.Proofs.YtahlgcidhnjlbaaGreat
