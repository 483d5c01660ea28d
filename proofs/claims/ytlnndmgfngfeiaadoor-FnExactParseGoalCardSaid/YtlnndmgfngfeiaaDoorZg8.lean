/- From a contract to the row: texts that come in. -/
import Derived.Test.YtlnndmgfngfeiaaDoorProg
import Derived.Shelf.SlSortFuncK.WholeK
import Derived.Shelf.GgSortFunc.Tiny
import Derived.Ground.GgsProg
import Derived.Deep.QuietTactic
import Derived.Lib.OwnBridge
import Derived.ProofKit
import Derived.Carry
import Derived.WalkKit
import Derived.Deep.Slices
import Derived.Lib.LaidTab
import Derived.Stop.LaidErr
import Derived.Lib.ItoaNum
import Derived.Test.YtlnndmgfngfeiaaDoorZg7
set_option linter.all false
set_option maxHeartbeats 4000000
set_option maxRecDepth 4000
open Bool renaming false_eq_true->ib
open Go renaming TypeId->eO
open Go.Proofs.Tryd renaming prog->aP
open List renaming append_assoc->pI,drop_length->mb,getElem?_eq_getElem->eo,getElem?_eq_some_iff->gp,length_cons->mc,mem_append->hp,mem_cons->gZ,mem_map->lE,mem_of_getElem?->gL,take_add_one->nJ,take_length->ld
open Nat renaming eq_or_lt_of_le->jB,le_refl->cx
open Option.some renaming inj->iL
open _root_ renaming ByteArray->ic,False->cv,Option->aR,UInt8->az,if_neg->bh
namespace Go.Proofs.YtlnndmgfngfeiaaDoor
section
open Go Go.Pv
variable {ky:Nat}
def nN(ky:Nat)(l:List (List az))(k:Int)(j q:Nat):List (Gm×Nat)->aM
 |[]=>⟨[(0,.ptr (.obj ky) 0),(1,eU ky),(4,.ptr (.loc 0) 0),(5,.bool false),(10,.ptr (.loc 2) 0)],[(.loc 0,[.int .i64 0,.str [],.slice 4 .nil [],.slice 4 .nil []]),(.obj ky,[.slice 1 .no (dw l),.int .i64 j]),(.loc 2,[.int .i64 k,.str [],.slice 4 .nil [],.slice 4 .nil []])],[],3,[.obj ky]⟩
 |x::xs=>⟨[(0,.ptr (.obj ky) 0),(1,eU ky),(4,.ptr (.loc 0) 0),(5,.bool false),(10,.ptr (.loc 2) 0)],[(.loc 0,[.int .i64 0,.str [],.slice 4 .nil [],.slice 4 .nil []]),(.obj ky,[.slice 1 .no (dw l),.int .i64 j]),(.loc 2,[.int .i64 k,.str [],.slice 4 .nil [],.slice 4 (.own (.loc 6)) (dk Gm.k (x::xs))])],[(.loc 6,⟨xs.length+1,25,4,none⟩)],q+7,[.obj ky]⟩
theorem H5{l:List (List az)}{i p:Nat}{g:Gm}{rest:List (List az)}(h:s3 ky l i (some (g,rest)))(aV:l.length-rest.length=p)(κ:Nat):FnK aP 13 κ [aF ky,eU ky] (ah ky l i) fun r aj=>r= .tuple [g.k κ,.bool true]/\aj=ah ky l p:=(h κ).mono fun r aj bj=>by rw[<-aV];exact bj
theorem RB(l:List (List az))(aB:l.length<=100000){k:Int}(J:iY k=true){i0 i1 κ:Nat}(a8:∀j n:Nat,i1<=j->j<=l.length->2*(l.length-j)+1<=n->s3 ky l j (ek en ey n (l.drop j))){R:aR (Gm×List (List az))}(st:aM)(j n:Nat)(lp:i1<=j)(av:j<=l.length)(aU:2*(l.length-j)+2<=n)(bI:dJ en ey n k [] [] [] (l.drop j)=R)(l0:hi [.obj ky] st (nN ky l k j 0 [])):
  b6 aP [.obj ky] uJ (dX [.cell 4 true 4,.tmp 5] (ah ky l i0) κ (r2 ky l R κ)) st:=by
 have I:1<k:=by simp[iY]at J;omega
 have hy:k=7\/k=8\/k=10:=by simp[iY]at J;omega
 unfold uJ;simp;refine jI (fun x:List (Gm×Nat)×Nat×Nat×Nat=>nN ky l k x.2.1 x.2.2.2 x.1) (fun x=>l.length-x.2.1) (fun x=>i1<=x.2.1/\x.2.1<=l.length/\2*(l.length-x.2.1)+2<=x.2.2.1/\dJ en ey x.2.2.1 k [] [] (x.1.map (·.1)) (l.drop x.2.1)=R/\x.1.length<=x.2.1/\lg (x.2.2.2+7) x.1) ([],j,n,0) l0 ⟨lp,av,aU,bI,Nat.zero_le _,.nil _⟩ ?_;clear l0 bI aU av lp st;rintro⟨acc,j,n,q⟩ ⟨lp,av,aU,bI,h3,fL⟩ _;simp only at lp av aU bI h3 fL;subst bI;obtain⟨n,rfl⟩:∃m,n=m+1:=⟨n-1,Ω⟩;have o4:j<=1000000:=Ω
 have ke:=a8 j n lp av Ω;clear a8;rcases jB av with rfl|eR
 ·have ez:=j9 (ky:=ky) (l:=l) (i:=l.length) (s:=[41]) o4 Ψ;rw[mb]at ke⊢;rw[show ek en ey n []=none by cases n<;>simp[ek]]at ke;rw[show dJ en ey (n+1) k [] [] (acc.map (·.1)) []=none by simp[dJ]];rcases hy with rfl|rfl|rfl;all_goals cases acc with
  |nil=>simp[nN];refine CallDo.ob (ez) (bp _ _) (by simp only[ah];exact aS) (by simp only[ah];exact aS) (by simp[aI,Pv.look,ah,aF,kinL,kin]) ?_;rintro r aj ⟨rfl,rfl⟩;refine⟨cg _ _ _ _,?_⟩;simp[bA,ah,aF];(with_reducible repeat' first|refine aK ?_|simp);refine CallDo.obK (ke _) (bp _ _) (by simp only[ah];exact aS) (by simp only[ah];exact aS) (by simp[aI,Pv.look,ah,aF,eU,kinL,kin]) Ψ ?_;rintro r aj ⟨x,gw,bj,rfl,rfl⟩;refine⟨cg _ _ _ _,?_⟩;simp[bA,ah,aF];(with_reducible repeat' first|refine aK ?_|simp);refine dX.gm (gw) (.mk 0 [] [] []) false Ψ (oV bj _) (by simp only[ah];exact aS) ?_;simp[bd,bo,a6,cI,dZ,cc,dm,bW,di,tnL,tn,dt,ej,fold,eh,eg,eY,Pv.look,dj,bF,bC,Gm.k,Gm.kind,Gm.name,Gm.ts,Gm.gs]
  |cons a fl=>simp[nN];refine CallDo.ob (ez) (bp _ _) (by simp only[ah];exact aS) (by simp only[ah];exact aS) (by simp[aI,Pv.look,ah,aF,kinL,kin]) ?_;rintro r aj ⟨rfl,rfl⟩;refine⟨cg _ _ _ _,?_⟩;simp[bA,ah,aF];(with_reducible repeat' first|refine aK ?_|simp);refine CallDo.obK (ke _) (bp _ _) (by simp only[ah];exact aS) (by simp only[ah];exact aS) (by simp[aI,Pv.look,ah,aF,eU,kinL,kin]) Ψ ?_;rintro r aj ⟨x,gw,bj,rfl,rfl⟩;refine⟨cg _ _ _ _,?_⟩;simp[bA,ah,aF];(with_reducible repeat' first|refine aK ?_|simp);refine dX.gm (gw) (.mk 0 [] [] []) false Ψ (oV bj _) (by simp only[ah];exact aS) ?_;simp[bd,bo,a6,cI,dZ,cc,dm,bW,di,tnL,tn,dt,ej,fold,eh,eg,eY,Pv.look,dj,bF,bC,Gm.k,Gm.kind,Gm.name,Gm.ts,Gm.gs]
 obtain⟨v,aY⟩:∃v,l[j]? =some v:=⟨_,eo eR⟩;by_cases gq:v=[41]
 ·subst gq;have ez:=qi (ky:=ky) o4 aY;have aG:=tl aY;obtain⟨G,oZ⟩:∃G,G=Gm.mk k [] [] (acc.map (·.1)):=⟨_,rfl⟩;rw[fY aY,show dJ en ey (n+1) k [] [] (acc.map (·.1)) ([41]::l.drop (j+1))=some (G,l.drop (j+1)) by simp[dJ,I,oZ]];cases acc with
  |nil=>simp[nN];refine CallDo.ob (ez) (bp _ _) (by simp only[ah];exact aS) (by simp only[ah];exact aS) (by simp[aI,Pv.look,ah,aF,kinL,kin]) ?_;rintro r aj ⟨rfl,rfl⟩;refine⟨cg _ _ _ _,?_⟩;simp[bA,ah,aF];(with_reducible repeat' first|refine aK ?_|simp);refine dX.gm (j+1) (G) true Ψ (u2 aG) (by simp only[ah];exact aS) ?_;simp[bd,bo,a6,cI,dZ,cc,dm,bW,di,fold,eh,eg,eY,Pv.look,dj,Gm.k,Gm.kind,Gm.name,Gm.ts,Gm.gs,oZ,bF]
  |cons a fl=>have tN:=HY fL.nd;simp[nN];refine CallDo.ob (ez) (bp _ _) (by simp only[ah];exact aS) (by simp only[ah];exact aS) (by simp[aI,Pv.look,ah,aF,kinL,kin]) ?_;rintro r aj ⟨rfl,rfl⟩;refine⟨cg _ _ _ _,?_⟩;simp[bA,ah,aF];(with_reducible repeat' first|refine aK ?_|simp);refine dX.gm (j+1) (G) true Ψ (u2 aG) (by simp only[ah];exact aS) ?_;simp[bd,bo,a6,cI,dZ,cc,dm,bW,di,fold,eh,eg,eY,Pv.look,dj,Gm.k,Gm.kind,Gm.name,Gm.ts,Gm.gs,oZ,HZ,tN,H0,bF]
 have ez:=j9 (ky:=ky) (l:=l) (i:=j) o4 (show l[j]?≠some [41] by rw[aY];simpa using gq);rw[fY aY]at ke⊢;cases dN:ek en ey n (v::l.drop (j+1))with
 |none=>
  rw[dN]at ke;rw[show dJ en ey (n+1) k [] [] (acc.map (·.1)) (v::l.drop (j+1))=none by simp[dJ,gq,J,dN]];clear J;rcases hy with rfl|rfl|rfl;all_goals cases acc with
  |nil=>simp[nN];refine CallDo.ob (ez) (bp _ _) (by simp only[ah];exact aS) (by simp only[ah];exact aS) (by simp[aI,Pv.look,ah,aF,kinL,kin]) ?_;rintro r aj ⟨rfl,rfl⟩;refine⟨cg _ _ _ _,?_⟩;simp[bA,ah,aF];(with_reducible repeat' first|refine aK ?_|simp);refine CallDo.obK (ke _) (bp _ _) (by simp only[ah];exact aS) (by simp only[ah];exact aS) (by simp[aI,Pv.look,ah,aF,eU,kinL,kin]) Ψ ?_;rintro r aj ⟨x,gw,bj,rfl,rfl⟩;refine⟨cg _ _ _ _,?_⟩;simp[bA,ah,aF];(with_reducible repeat' first|refine aK ?_|simp);refine dX.gm (gw) (.mk 0 [] [] []) false Ψ (oV bj _) (by simp only[ah];exact aS) ?_;simp[bd,bo,a6,cI,dZ,cc,dm,bW,di,tnL,tn,dt,ej,fold,eh,eg,eY,Pv.look,dj,bF,bC,Gm.k,Gm.kind,Gm.name,Gm.ts,Gm.gs]
  |cons a fl=>simp[nN];refine CallDo.ob (ez) (bp _ _) (by simp only[ah];exact aS) (by simp only[ah];exact aS) (by simp[aI,Pv.look,ah,aF,kinL,kin]) ?_;rintro r aj ⟨rfl,rfl⟩;refine⟨cg _ _ _ _,?_⟩;simp[bA,ah,aF];(with_reducible repeat' first|refine aK ?_|simp);refine CallDo.obK (ke _) (bp _ _) (by simp only[ah];exact aS) (by simp only[ah];exact aS) (by simp[aI,Pv.look,ah,aF,eU,kinL,kin]) Ψ ?_;rintro r aj ⟨x,gw,bj,rfl,rfl⟩;refine⟨cg _ _ _ _,?_⟩;simp[bA,ah,aF];(with_reducible repeat' first|refine aK ?_|simp);refine dX.gm (gw) (.mk 0 [] [] []) false Ψ (oV bj _) (by simp only[ah];exact aS) ?_;simp[bd,bo,a6,cI,dZ,cc,dm,bW,di,tnL,tn,dt,ej,fold,eh,eg,eY,Pv.look,dj,bF,bC,Gm.k,Gm.kind,Gm.name,Gm.ts,Gm.gs]
 |some tr=>
  obtain⟨g,rest⟩:=tr;rw[dN]at ke;obtain⟨sr,ss⟩:=vW E7 _ _ _ _ dN;rw[<-fY aY]at sr ss;obtain⟨gh,n9⟩:=yk sr;obtain⟨p,aV⟩:∃p,p=l.length-rest.length:=⟨_,rfl⟩;rw[<-aV]at gh;have xS:=H5 ke aV.symm;have gE:p<=l.length:=Ω
  have IP:j<p:=by simp at ss;omega
  have hf:acc.length+1<=b0:=by unfold b0;omega
  have fE:∀L,dJ en ey (n+1) k [] [] L (v::l.drop (j+1))=dJ en ey n k [] [] (L++[g]) rest:=fun L=>by simp[dJ,gq,J,dN]
  clear J;cases acc with
  |nil=>
   rw[show dJ en ey (n+1) k [] [] (([]:List (Gm×Nat)).map (·.1)) (v::l.drop (j+1))=dJ en ey n k [] [] (([(g,3)]:List (Gm×Nat)).map (·.1)) rest from fE _];clear fE;rcases hy with rfl|rfl|rfl;all_goals
    simp[nN]
    refine CallDo.ob (ez) (bp _ _) (by simp only[ah];exact aS) (by simp only[ah];exact aS) (by simp[aI,Pv.look,ah,aF,kinL,kin]) ?_
    rintro r aj ⟨rfl,rfl⟩
    refine⟨cg _ _ _ _,?_⟩
    simp[bA,ah,aF]
    (with_reducible repeat' first|refine aK ?_|simp)
    refine CallDo.obK (xS _) (bp _ _) (by simp only[ah];exact aS) (by simp only[ah];exact aS) (by simp[aI,Pv.look,ah,aF,eU,kinL,kin]) Ψ ?_
    rintro r aj ⟨rfl,rfl⟩
    refine⟨cg _ _ _ _,?_⟩
    simp[bA,ah,aF]
    (with_reducible repeat' first|refine aK ?_|simp[hf])
    refine cQ.whl ([(g,3)],p,n,0) (by simp;omega) ⟨by simp;omega,gE,by simp;omega,by simp[<-gh],by simp;omega,⟨Ψ,Ψ⟩⟩ ?_
    simp[nN,dk]
    exact⟨by simp[fresh,kinL,kin,cA,aI,Pv.look,eU,aF,Gm.k],fh (by simp[fresh,kinL,kin,cA,aI,Pv.look,eU,aF,Gm.k]),fi (by simp[fresh,kinL,kin,eD,aI,Pv.look,eU,aF,Gm.k]),Ψ⟩
  |cons a fl=>
   simp only[mc]at hf;rw[show dJ en ey (n+1) k [] [] ((a::fl).map (·.1)) (v::l.drop (j+1))=dJ en ey n k [] [] ((a::fl++[(g,q+7)]).map (·.1)) rest by rw[fE];simp];clear fE;have ba:=fL.snoc g (cx (q+7)) (show q+7<q+3+7 by omega);have fK:=Px ba (cx _) [.obj ky];simp[fresh]at fK;have jO:dk Gm.k (a::fl)++[.agg [.int .i64 g.kind,.str g.name,.slice 4 (.tr (.loc (q+7)) 0) (g.ts.map enc),.slice 4 (.tr (.loc (q+7)) 1) (g.gs.map Gm.e)]]=dk Gm.k (a::(fl++[(g,q+7)])):=(D2 Gm.k (a::fl) g (q+7)).symm;rcases hy with rfl|rfl|rfl;all_goals
    simp[nN]
    refine CallDo.ob (ez) (bp _ _) (by simp only[ah];exact aS) (by simp only[ah];exact aS) (by simp[aI,Pv.look,ah,aF,kinL,kin]) ?_
    rintro r aj ⟨rfl,rfl⟩
    refine⟨cg _ _ _ _,?_⟩
    simp[bA,ah,aF]
    (with_reducible repeat' first|refine aK ?_|simp)
    refine CallDo.obK (xS _) (bp _ _) (by simp only[ah];exact aS) (by simp only[ah];exact aS) (by simp[aI,Pv.look,ah,aF,eU,kinL,kin]) Ψ ?_
    rintro r aj ⟨rfl,rfl⟩
    refine⟨cg _ _ _ _,?_⟩
    simp[bA,ah,aF]
    (with_reducible repeat' first|refine aK ?_|simp[hf])
    refine cQ.whl (a::fl++[(g,q+7)],p,n,q+3) (by simp;omega) ⟨by simp;omega,gE,by simp;omega,by simp[<-gh],by simp at h3⊢;omega,ba⟩ ?_
    simp[nN]
    exact⟨by simp[fresh,kinL,kin,cA,aI,Pv.look,jO,fK,eU,aF],fh (by simp[fresh,kinL,kin,cA,aI,Pv.look,jO,fK,eU,aF]),fi (by simp[fresh,kinL,kin,eD,aI,Pv.look,jO,fK,eU,aF]),Ψ⟩
theorem RF(l:List (List az))(aB:l.length<=100000)(hw:∀w∈l,w≠[]/\w.length<=b0):∀m i n:Nat,l.length-i<=m->i<=l.length->2*(l.length-i)+1<=n->s3 ky l i (ek en ey n (l.drop i)):=by
 intro m;induction m with
 |zero=>
  intro i n hm aD aU;obtain rfl:i=l.length:=Ω
  rw[mb,show ek en ey n []=none by cases n<;>simp[ek]];exact DC l aB (cx _) Ψ Ψ Ψ
 |succ m a8=>
 intro i n hm aD aU;obtain⟨n,rfl⟩:∃m,n=m+1:=⟨n-1,Ω⟩;rcases jB aD with rfl|kV
 ·rw[mb,show ek en ey (n+1) []=none by simp[ek]];exact DC l aB (cx _) Ψ Ψ Ψ
 obtain⟨v,h⟩:∃v,l[i]? =some v:=⟨_,eo kV⟩;rw[fY h];by_cases iz:v=gX
 ·subst iz;rw[show ek en ey (n+1) (gX::l.drop (i+1))=some (.mk 0 [] [] [],l.drop (i+1)) by simp[ek]];exact RI l aB h
 by_cases ev:v=hG
 ·subst ev;rw[show ek en ey (n+1) (hG::l.drop (i+1))=some (.mk 1 [] [] [],l.drop (i+1)) by simp[ek,iz]];exact RH l aB h
 by_cases aJ:v=[40];rotate_left
 ·rw[show ek en ey (n+1) (v::l.drop (i+1))=none by simp[ek,iz,ev,aJ]];exact DC l aB aD (by rw[h];simpa using iz) (by rw[h];simpa using ev) (by rw[h];simpa using aJ)
 subst aJ;clear iz ev;have Nn:∀r,ek en ey (n+1) ([40]::r)=(match r with
   |[]=>none
   |h::cr=>match ey h with
    |some (k,s)=>dJ en ey n k s [] [] cr
    |none=>none):=fun r=>by
  rcases r with _|⟨h,r⟩
  ·simp[ek,gX,hG]
  ·simp[ek,gX,hG];split<;>simp_all
 rw[Nn];rcases jB (show i+1<=l.length by omega)with he|Qr
 ·rw[he,mb];exact RG l aB h he
 obtain⟨w,bn⟩:∃w,l[i+1]? =some w:=⟨_,eo Qr⟩;rw[fY bn];simp only;intro κ;have iZ:=LH w;cases aG:ey w with
 |none=>
  simp only;obtain⟨J,hr⟩:lW w=none/\h6 w=false:=by
   unfold ey at aG;cases J:lW w with
   |some k=>rw[J]at aG;simp at aG
   |none=>rw[J]at aG;refine⟨rfl,?_⟩;cases hr:h6 w with
    |true=>simp[hr]at aG
    |false=>rfl
  rw[hr]at iZ;clear a8;have ao:=bp (ky:=ky) l i;have aD:=(gp.1 h).1;have er:=j9 (ky:=ky) (show i<=1000000 by omega) (s:=gX) (l:=l) (i:=i) (by rw[h];decide);have ct:=j9 (ky:=ky) (show i<=1000000 by omega) (s:=hG) (l:=l) (i:=i) (by rw[h];decide);have cN:=qi (ky:=ky) (show i<=1000000 by omega) h;have dh:=nZ (ky:=ky) (gp.1 bn).1;have mD:=lz (ky:=ky) bn;have cU:bk ((i:Int)+1+1):=by unfold bk;omega
  simp only[ah]at ao;simp only[gX]at er;simp only[hG]at ct;refine FnK.mk mixed oA tq uc Ψ ao.obj rfl fun aT dG=>?_;unfold rN;clear aT dG;simp[aF,ah];refine CallDo.ob (er) (bp _ _) (by simp only[ah];exact aS) (by simp only[ah];exact aS) (by simp[aI,Pv.look,ah,aF,kinL,kin]) ?_;rintro r aj ⟨rfl,rfl⟩;refine⟨cg _ _ _ _,?_⟩;simp[bA,ah,aF];(with_reducible repeat' first|refine aK ?_|simp);refine CallDo.ob (ct) (bp _ _) (by simp only[ah];exact aS) (by simp only[ah];exact aS) (by simp[aI,Pv.look,ah,aF,kinL,kin]) ?_;rintro r aj ⟨rfl,rfl⟩;refine⟨cg _ _ _ _,?_⟩;simp[bA,ah,aF];(with_reducible repeat' first|refine aK ?_|simp);refine CallDo.ob (cN) (bp _ _) (by simp only[ah];exact aS) (by simp only[ah];exact aS) (by simp[aI,Pv.look,ah,aF,kinL,kin]) ?_;rintro r aj ⟨rfl,rfl⟩;refine⟨cg _ _ _ _,?_⟩;simp[bA,ah,aF];(with_reducible repeat' first|refine aK ?_|simp);refine CallDo.ob (dh) (bp _ _) (by simp only[ah];exact aS) (by simp only[ah];exact aS) (by simp[aI,Pv.look,ah,aF,kinL,kin]) ?_;rintro r aj ⟨rfl,rfl⟩;refine⟨cg _ _ _ _,?_⟩;simp[bA,ah,aF];(with_reducible repeat' first|refine aK ?_|simp);refine CallDo.ob (mD) (bp _ _) (by simp only[ah];exact aS) (by simp only[ah];exact aS) (by simp[aI,Pv.look,ah,aF,kinL,kin]) ?_;rintro r aj ⟨rfl,rfl⟩;refine⟨cg _ _ _ _,?_⟩;simp[bA,ah,aF];(with_reducible repeat' first|refine aK ?_|refine bq iZ ?_|refine br iZ ?_|simp[cU,DY,J,-Ak]);refine dX.gm (i+1+1) (.mk 0 [] [] []) false Ψ (oV Ω _) (by simp only[ah];exact aS) ?_;simp[bd,bo,a6,cI,dZ,cc,dm,bW,di,tnL,tn,dt,ej,fold,eh,eg,eY,Pv.look,dj,bF,bC,Gm.k,Gm.kind,Gm.name,Gm.ts,Gm.gs]
 |some x=>
  obtain⟨k,s⟩:=x;simp only;obtain⟨I,aa,ak⟩:=P8 aG;have done:∀st,hi [.obj ky] st (lH ky l k s (i+2) 0 [])->b6 aP [.obj ky] uJ (dX [.cell 4 true 4,.tmp 5] (ah ky l i) κ (r2 ky l (dJ en ey n k s [] [] (l.drop (i+1+1))) κ)) st:=by
   intro st fE;cases n8:iY k with
   |false=>obtain⟨dR,hK,e5⟩:=ak n8;exact RC l aB hw I dR hK e5 st (i+2) n Ω Ω rfl fE
   |true=>obtain rfl:=aa n8;exact RB l aB n8 (i1:=i+2) (fun j n jM gr xq=>a8 j n Ω gr xq) st (i+2) n (cx _) Ω Ω rfl fE
  clear a8 I aa ak;cases J:lW w with
  |some aW=>
   obtain⟨rfl,rfl⟩:aW=k/\([]:List az)=s:=by unfold ey at aG;rw[J]at aG;simpa using aG
   have ao:=bp (ky:=ky) l i;have aD:=(gp.1 h).1;have er:=j9 (ky:=ky) (show i<=1000000 by omega) (s:=gX) (l:=l) (i:=i) (by rw[h];decide);have ct:=j9 (ky:=ky) (show i<=1000000 by omega) (s:=hG) (l:=l) (i:=i) (by rw[h];decide);have cN:=qi (ky:=ky) (show i<=1000000 by omega) h;have dh:=nZ (ky:=ky) (gp.1 bn).1;have mD:=lz (ky:=ky) bn;have cU:bk ((i:Int)+1+1):=by unfold bk;omega
   simp only[ah]at ao;simp only[gX]at er;simp only[hG]at ct;refine FnK.mk mixed oA tq uc Ψ ao.obj rfl fun aT dG=>?_;unfold rN;clear aT dG;simp[aF,ah];refine CallDo.ob (er) (bp _ _) (by simp only[ah];exact aS) (by simp only[ah];exact aS) (by simp[aI,Pv.look,ah,aF,kinL,kin]) ?_;rintro r aj ⟨rfl,rfl⟩;refine⟨cg _ _ _ _,?_⟩;simp[bA,ah,aF];(with_reducible repeat' first|refine aK ?_|simp);refine CallDo.ob (ct) (bp _ _) (by simp only[ah];exact aS) (by simp only[ah];exact aS) (by simp[aI,Pv.look,ah,aF,kinL,kin]) ?_;rintro r aj ⟨rfl,rfl⟩;refine⟨cg _ _ _ _,?_⟩;simp[bA,ah,aF];(with_reducible repeat' first|refine aK ?_|simp);refine CallDo.ob (cN) (bp _ _) (by simp only[ah];exact aS) (by simp only[ah];exact aS) (by simp[aI,Pv.look,ah,aF,kinL,kin]) ?_;rintro r aj ⟨rfl,rfl⟩;refine⟨cg _ _ _ _,?_⟩;simp[bA,ah,aF];(with_reducible repeat' first|refine aK ?_|simp);refine CallDo.ob (dh) (bp _ _) (by simp only[ah];exact aS) (by simp only[ah];exact aS) (by simp[aI,Pv.look,ah,aF,kinL,kin]) ?_;rintro r aj ⟨rfl,rfl⟩;refine⟨cg _ _ _ _,?_⟩;simp[bA,ah,aF];(with_reducible repeat' first|refine aK ?_|simp);refine CallDo.ob (mD) (bp _ _) (by simp only[ah];exact aS) (by simp only[ah];exact aS) (by simp[aI,Pv.look,ah,aF,kinL,kin]) ?_;rintro r aj ⟨rfl,rfl⟩;refine⟨cg _ _ _ _,?_⟩;simp[bA,ah,aF];(with_reducible repeat' first|refine aK ?_|simp[cU,DY,J,-Ak]);refine done _ ?_;simp[lH,show(i:Int)+2=i+1+1 by omega];exact⟨by simp[fresh,kinL,kin,cA,aI,Pv.look,mJ,jR,eU,aF],fh (by simp[fresh,kinL,kin,cA,aI,Pv.look,mJ,jR,eU,aF]),fi (by simp[fresh,kinL,kin,eD,aI,Pv.look,mJ,jR,eU,aF]),Ψ⟩
  |none=>
   obtain⟨hr,rfl,rfl⟩:h6 w=true/\k=9/\s=w:=by
    unfold ey at aG;rw[J]at aG;cases hr:h6 w with
    |false=>simp[hr]at aG
    |true=>simp[hr]at aG;exact⟨rfl,aG.1.symm,aG.2.symm⟩
   rw[hr]at iZ;have ao:=bp (ky:=ky) l i;have aD:=(gp.1 h).1;have er:=j9 (ky:=ky) (show i<=1000000 by omega) (s:=gX) (l:=l) (i:=i) (by rw[h];decide);have ct:=j9 (ky:=ky) (show i<=1000000 by omega) (s:=hG) (l:=l) (i:=i) (by rw[h];decide);have cN:=qi (ky:=ky) (show i<=1000000 by omega) h;have dh:=nZ (ky:=ky) (gp.1 bn).1;have mD:=lz (ky:=ky) bn;have cU:bk ((i:Int)+1+1):=by unfold bk;omega
   simp only[ah]at ao;simp only[gX]at er;simp only[hG]at ct;refine FnK.mk mixed oA tq uc Ψ ao.obj rfl fun aT dG=>?_;unfold rN;clear aT dG;simp[aF,ah];refine CallDo.ob (er) (bp _ _) (by simp only[ah];exact aS) (by simp only[ah];exact aS) (by simp[aI,Pv.look,ah,aF,kinL,kin]) ?_;rintro r aj ⟨rfl,rfl⟩;refine⟨cg _ _ _ _,?_⟩;simp[bA,ah,aF];(with_reducible repeat' first|refine aK ?_|simp);refine CallDo.ob (ct) (bp _ _) (by simp only[ah];exact aS) (by simp only[ah];exact aS) (by simp[aI,Pv.look,ah,aF,kinL,kin]) ?_;rintro r aj ⟨rfl,rfl⟩;refine⟨cg _ _ _ _,?_⟩;simp[bA,ah,aF];(with_reducible repeat' first|refine aK ?_|simp);refine CallDo.ob (cN) (bp _ _) (by simp only[ah];exact aS) (by simp only[ah];exact aS) (by simp[aI,Pv.look,ah,aF,kinL,kin]) ?_;rintro r aj ⟨rfl,rfl⟩;refine⟨cg _ _ _ _,?_⟩;simp[bA,ah,aF];(with_reducible repeat' first|refine aK ?_|simp);refine CallDo.ob (dh) (bp _ _) (by simp only[ah];exact aS) (by simp only[ah];exact aS) (by simp[aI,Pv.look,ah,aF,kinL,kin]) ?_;rintro r aj ⟨rfl,rfl⟩;refine⟨cg _ _ _ _,?_⟩;simp[bA,ah,aF];(with_reducible repeat' first|refine aK ?_|simp);refine CallDo.ob (mD) (bp _ _) (by simp only[ah];exact aS) (by simp only[ah];exact aS) (by simp[aI,Pv.look,ah,aF,kinL,kin]) ?_;rintro r aj ⟨rfl,rfl⟩;refine⟨cg _ _ _ _,?_⟩;simp[bA,ah,aF];(with_reducible repeat' first|refine aK ?_|refine bq iZ ?_|refine br iZ ?_|simp[cU,DY,J,-Ak]);refine done _ ?_;simp[lH,show(i:Int)+2=i+1+1 by omega];exact⟨by simp[fresh,kinL,kin,cA,aI,Pv.look,mJ,jR,eU,aF],fh (by simp[fresh,kinL,kin,cA,aI,Pv.look,mJ,jR,eU,aF]),fi (by simp[fresh,kinL,kin,eD,aI,Pv.look,mJ,jR,eU,aF]),Ψ⟩
end
section
open Go Go.Pv
end
end Go.Proofs.YtlnndmgfngfeiaaDoor

namespace Go.Proofs.YtlnndmgfngfeiaaDoor
section
open Go Go.Pv
end
section
end
section
open Go Go.Pv
end
end Go.Proofs.YtlnndmgfngfeiaaDoor

namespace Go.Proofs
section
open Go.Shelf
end
section
open Go.Shelf Go.RowKit Go.Lib Go.Sort
def FM:Type:={x:List Value//x.length=4/\∀v∈x,v.oneCell'=true}
instance:Inhabited FM:=⟨⟨[.int .i64 0,.int .i64 0,.int .i64 0,.int .i64 0],rfl,by intro v aY;simp at aY;subst aY;rfl⟩⟩
def Mb:Type:=Int×FM
instance:Inhabited Mb:=⟨(0,default)⟩
end
end Go.Proofs
namespace Go.Proofs.YtlnndmgfngfeiaaDoor
section
open Go Go.Pv Go.Sort Go.RowKit
end
section
open Go Go.Pv
theorem Up(s:List az)(ao:s.length<=b0):ca aP 12 [.str s] (ka (ho s)):=by
 by_cases I:s.length<=100000;rotate_left
 ·have:ho s=none:=by unfold ho;rw[bh (fun h=>I h.1)]
  rw[this,ka];have u5:(100000:Int)<s.length:=Ω
  refine bZ rq Hk J5 fun aT=>?_;unfold BH;simp[u5];simp[cC,vT,bd,bo,a6]
 have u5:¬(100000:Int)<s.length:=Ω
 generalize bI:ka (ho s)=R;have r7:kin (fun _=>cv) R:=by rw[<-bI];unfold ka;split<;>simp[kin,kinL]
 refine bZ rq Hk J5 (fun aT=>?_) (hr:=r7);unfold BH;clear aT;simp[u5];refine jI (fun i:Nat=>⟨[(0,.str s),(4,.int .i64 i)],[],[],0,[]⟩) (fun i=>s.length-i) (fun i=>i<=s.length/\∀c∈s.take i,ps c=true) 0 dQ ⟨Ω,Ψ⟩ ?_;rintro i ⟨aD,dI⟩ _;rcases jB aD with rfl|b4
 ·rw[ld]at dI;have mr:∀c∈s,ps c=true:=dI;simp;refine jI (fun x:List (List az)×Nat=>⟨[(0,.str s),(5,.slice 1 (.own (.loc 0)) (dw x.1)),(6,.int .i64 x.2)],[],[(.loc 0,⟨x.1.length,9,1,none⟩)],1,[]⟩) (fun x=>s.length-x.2) (fun x=>x.2<=s.length/\x.1++fO (s.drop x.2)=fO s/\x.1.length<=x.2) ([],0) (by simp[dw];exact dQ) ⟨Ψ,Ψ,Ψ⟩ ?_;rintro⟨out,i⟩ ⟨aD,hinv,zM⟩ _;simp only at aD hinv zM;rcases jB aD with rfl|b4
  ·rw[mb,Bj,List.append_nil]at hinv;subst hinv;by_cases aU:(fO s).length<=20000
   ·have gT:¬(20000:Int)<(fO s).length:=Ω
    have au:ho s=some (fO s):=by unfold ho;rw[if_pos ⟨I,mr,aU⟩]
    simp[gT];rw[<-bI,au,ka];simp[cC,vT,bd,bo,a6]
   ·have gT:(20000:Int)<(fO s).length:=Ω
    have au:ho s=none:=by unfold ho;rw[bh fun h=>aU h.2.2]
    simp[gT];rw[<-bI,au,ka];simp[cC,vT,bd,bo,a6]
  ·obtain⟨c,aA,eE⟩:=h0 b4;have cU:bk ((i:Int)+1):=by unfold bk;omega
   have tP:out.length+1<=b0:=by unfold b0;omega
   rw[fY aA,Bi]at hinv;by_cases kZ:c=32\/c=10
   ·rw[if_pos kZ]at hinv;rcases kZ with rfl|rfl;all_goals
     simp[b4,eE,aA,cU]
     refine cQ.whl (out,i+1) (by simp;omega) ⟨b4,hinv,by simp;omega⟩ dQ
   rw[bh kZ]at hinv;have n32:((c.toNat:Int)==32)=false:=mM (d:=32) fun h=>kZ (.inl h);have n10:((c.toNat:Int)==10)=false:=mM (d:=10) fun h=>kZ (.inr h);by_cases oX:c=59
   ·rw[if_pos oX]at hinv;subst oX;simp[b4,eE,aA,cU];refine jI (fun k:Nat=>⟨[(0,.str s),(5,.slice 1 (.own (.loc 0)) (dw out)),(6,.int .i64 k)],[],[(.loc 0,⟨out.length,9,1,none⟩)],1,[]⟩) (fun k=>s.length-k) (fun k=>i<=k/\k<=s.length/\∀c∈(s.drop i).take (k-i),mH c=true) i dQ ⟨cx _,aD,Ψ⟩ ?_;rintro k ⟨jl,hU,hy⟩ _;have hT:(∀c,s[k]? =some c->mH c=false)->i<k->k<=s.length/\out++fO (s.drop k)=fO s/\out.length<=k:=by intro he jk;refine⟨hU,?_,Ω⟩;have aG:=(A9 jl hU hy he).2;rw[fY aA]at aG;rw[<-hinv,<-aG];rfl
    have jk:(∀c,s[k]? =some c->mH c=false)->i<k:=by
     intro he;rcases Nat.lt_or_ge i k with h|h
     ·exact h
     ·have:k=i:=Ω
      subst this;exact absurd (he 59 aA) (by decide)
    rcases jB hU with rfl|iB
    ·have he:∀c,s[s.length]? =some c->mH c=false:=fun c h=>by simp at h
     simp;refine cQ.whl (out,s.length) (by simp;omega) (hT he (jk he)) dQ
    ·obtain⟨d,aG,hdi⟩:=h0 iB;have ng:bk ((k:Int)+1):=by unfold bk;omega
     by_cases e5:d=10
     ·subst e5;have he:∀c,s[k]? =some c->mH c=false:=fun c h=>by rw[aG]at h;cases h;rfl
      simp[iB,hdi,aG];refine cQ.whl (out,k) (by have:=jk he;simp;omega) (hT he (jk he)) dQ
     ·have aU:((d.toNat:Int) !=10)=true:=uv (d:=10) e5;simp[iB,hdi,aG,aU,ng];refine cQ.whl (k+1) Ω ⟨Ω,iB,fun x ad=>?_⟩ dQ;rw[show k+1-i=(k-i)+1 by omega,nJ,List.getElem?_drop,show i+(k-i)=k by omega,aG]at ad;rcases hp.1 ad with ad|ad
      ·exact hy x ad
      ·simp at ad;subst ad;simp[mH,e5]
   rw[bh oX]at hinv;have D0:((c.toNat:Int)==59)=false:=mM (d:=59) oX;by_cases pc:c=40\/c=41
   ·rw[if_pos pc]at hinv;have zR:(s.take (i+1)).drop i=[c]:=by rw[List.drop_take,fY aA];simp
    have hle:(i:Int)<=i+1:=Ω
    rcases pc with rfl|rfl;all_goals
     simp[b4,eE,aA,cU,zR,hle,tP]
     refine⟨Ω,?_⟩
     refine cQ.whl (out++[[_]],i+1) (by simp;omega) ⟨b4,(by simpa using hinv),by simp;omega⟩ (by simp[dw];exact⟨by simp[fresh,kinL,kin,cA,aI,Pv.look,c7,dB],fh (by simp[fresh,kinL,kin,cA,aI,Pv.look,c7,dB]),fi (by simp[fresh,kinL,kin,eD,aI,Pv.look,c7,dB]),Ψ⟩)
   rw[bh pc]at hinv;have vF:((c.toNat:Int)==40)=false:=mM (d:=40) fun h=>pc (.inl h);have tZ:((c.toNat:Int)==41)=false:=mM (d:=41) fun h=>pc (.inr h);have xi:h5 c=true:=(Dt c).2 ⟨kZ,oX,pc⟩;simp[b4,eE,aA,n32,n10,D0,vF,tZ];refine jI (fun k:Nat=>⟨[(0,.str s),(5,.slice 1 (.own (.loc 0)) (dw out)),(6,.int .i64 i),(8,.int .i64 k)],[],[(.loc 0,⟨out.length,9,1,none⟩)],1,[]⟩) (fun k=>s.length-k) (fun k=>i<=k/\k<=s.length/\∀c∈(s.drop i).take (k-i),h5 c=true) i dQ ⟨cx _,aD,Ψ⟩ ?_;rintro k ⟨jl,hU,hy⟩ _;have jk:(∀c,s[k]? =some c->h5 c=false)->i<k:=by
    intro he;rcases Nat.lt_or_ge i k with h|h
    ·exact h
    ·have:k=i:=Ω
     subst this;have:=he _ aA;rw[xi]at this;cases this
   have hT:(∀c,s[k]? =some c->h5 c=false)->k<=s.length/\(out++[(s.take k).drop i])++fO (s.drop k)=fO s/\(out++[(s.take k).drop i]).length<=k:=by intro he;have WU:=jk he;refine⟨hU,?_,by simp;omega⟩;obtain⟨au,aG⟩:=A9 jl hU hy he;rw[fY aA,List.takeWhile_cons,if_pos xi]at au;rw[fY aA,List.dropWhile_cons,if_pos xi]at aG;rw[au,aG,<-fY aA]at hinv;rw[List.drop_take,pI];exact hinv
   have IH:out.length+1<=b0:=tP;have fK:(i:Int)<=k:=Ω
   have xt:(k:Int)<=s.length:=Ω
   rcases jB hU with rfl|iB
   ·have he:∀c,s[s.length]? =some c->h5 c=false:=fun c h=>by simp at h
    have zQ:=jk he;simp[fK,xt,IH];refine cQ.whl (out++[(s.take s.length).drop i],s.length) (by simp;omega) (hT he) (by simp[dw];exact⟨by simp[fresh,kinL,kin,cA,aI,Pv.look,c7,dB],fh (by simp[fresh,kinL,kin,cA,aI,Pv.look,c7,dB]),fi (by simp[fresh,kinL,kin,eD,aI,Pv.look,c7,dB]),Ψ⟩)
   ·obtain⟨d,aG,hdi⟩:=h0 iB;have ng:bk ((k:Int)+1):=by unfold bk;omega
    by_cases hw:h5 d=true
    ·obtain⟨LP,UR,LQ⟩:=(Dt d).1 hw;have m32:((d.toNat:Int) !=32)=true:=uv (d:=32) fun h=>LP (.inl h);have m10:((d.toNat:Int) !=10)=true:=uv (d:=10) fun h=>LP (.inr h);have RX:((d.toNat:Int) !=59)=true:=uv (d:=59) UR;have RW:((d.toNat:Int) !=40)=true:=uv (d:=40) fun h=>LQ (.inl h);have k2:((d.toNat:Int) !=41)=true:=uv (d:=41) fun h=>LQ (.inr h);simp[iB,hdi,aG,m32,m10,RX,RW,k2,ng];refine cQ.whl (k+1) Ω ⟨Ω,iB,fun x ad=>?_⟩ dQ;rw[show k+1-i=(k-i)+1 by omega,nJ,List.getElem?_drop,show i+(k-i)=k by omega,aG]at ad;rcases hp.1 ad with ad|ad
     ·exact hy x ad
     ·simp at ad;subst ad;exact hw
    ·rw[Bool.not_eq_true]at hw;have he:∀c,s[k]? =some c->h5 c=false:=fun c h=>by rw[aG]at h;cases h;exact hw
     have fD:d=32\/d=10\/d=40\/d=41\/d=59:=by
      unfold h5 lM at hw;simp at hw;by_cases bt:d=32
      ·exact .inl bt
      by_cases a2:d=10
      ·exact .inr (.inl a2)
      by_cases a3:d=40
      ·exact .inr (.inr (.inl a3))
      by_cases a4:d=41
      ·exact .inr (.inr (.inr (.inl a4)))
      exact .inr (.inr (.inr (.inr (hw bt a2 a3 a4))))
     have cS:=hT he;have zQ:=jk he;rcases fD with rfl|rfl|rfl|rfl|rfl;all_goals
      simp[iB,hdi,aG,fK,xt,IH]
      refine cQ.whl (out++[(s.take k).drop i],k) (by simp;omega) cS (by simp[dw];exact⟨by simp[fresh,kinL,kin,cA,aI,Pv.look,c7,dB],fh (by simp[fresh,kinL,kin,cA,aI,Pv.look,c7,dB]),fi (by simp[fresh,kinL,kin,eD,aI,Pv.look,c7,dB]),Ψ⟩)
 ·obtain⟨c,aA,eE⟩:=h0 b4;have cU:bk ((i:Int)+1):=by unfold bk;omega
  have iE:=J1 c;by_cases e5:(c.toNat:Int)=10
  ·have lq:((c.toNat:Int) !=10)=false:=by simpa using e5
   simp[b4,eE,aA,lq,cU];refine cQ.whl (i+1) Ω ⟨b4,fun x ad=>?_⟩ dQ;rw[nJ,aA]at ad;rcases hp.1 ad with ad|ad
   ·exact dI x ad
   ·simp at ad;subst ad;rw[iE];omega
  ·have lq:((c.toNat:Int) !=10)=true:=by simpa using e5
   by_cases xb:(c.toNat:Int)<32
   ·have xg:ps c=false:=by rw[Bool.eq_false_iff];intro h;rw[iE]at h;omega
    simp[b4,eE,aA,lq,xb,cU];have au:ho s=none:=by unfold ho;rw[bh];intro h;have:=h.2.1 c (gL aA);rw[xg]at this;cases this
    rw[<-bI,au,ka];simp[cC,vT,bd,bo,a6]
   ·by_cases H8:126<(c.toNat:Int)
    ·have xg:ps c=false:=by rw[Bool.eq_false_iff];intro h;rw[iE]at h;omega
     simp[b4,eE,aA,lq,xb,H8,cU];have au:ho s=none:=by unfold ho;rw[bh];intro h;have:=h.2.1 c (gL aA);rw[xg]at this;cases this
     rw[<-bI,au,ka];simp[cC,vT,bd,bo,a6]
    ·simp[b4,eE,aA,lq,xb,H8,cU];refine cQ.whl (i+1) Ω ⟨b4,fun x ad=>?_⟩ dQ;rw[nJ,aA]at ad;rcases hp.1 ad with ad|ad
     ·exact dI x ad
     ·simp at ad;subst ad;rw[iE];omega
theorem yy:∀(n:Nat) (s:List az),s.length<=n->∀t∈fO s,t.length<=s.length
 |_,[],_=>by rw[Bj];simp
 |0,_::_,h=>by simp at h
 |n+1,c::r,h=>by
  simp only[mc]at h;have aG:(r.dropWhile mH).length<=r.length:=(List.dropWhile_suffix _).length_le;have hw:(r.dropWhile h5).length<=r.length:=(List.dropWhile_suffix _).length_le;have au:(r.takeWhile h5).length<=r.length:=(List.takeWhile_prefix _).length_le;rw[Bi];split
  ·intro t au;have:=yy n r Ω t au;simp;omega
  ·split
   ·intro t au;have:=yy n _ Ω t au;simp;omega
   ·split
    ·intro t au;simp only[gZ]at au;rcases au with rfl|au
     ·simp
     ·have:=yy n r Ω t au;simp;omega
    ·intro t au;simp only[gZ]at au;rcases au with rfl|au
     ·simp;omega
     ·have:=yy n _ Ω t au;simp;omega
theorem Lt{s:List az}{l:List (List az)}(h:ho s=some l):l.length<=20000/\∀w∈l,w≠[]/\w.length<=b0:=by
 unfold ho at h;split at h
 ·rename_i aA;cases h;refine⟨aA.2.2,fun w hw=>⟨yz _ s (cx _) w hw,?_⟩⟩;have:=yy _ s (cx _) w hw;unfold b0;omega
 ·cases h
def u4(o:aR Gm)(κ:Nat):ab:= .tuple [(o.getD kN).k κ,.bool o.isSome]
theorem Sk{s:List az}(ao:s.length<=b0):nM aP 5 [.str s] (u4 (nv s)):=by
 have b8:=Up s ao;unfold nv;cases J:ho s with
 |none=>rw[J]at b8;simp only[ka]at b8;refine nM.mk mixed oA w3 x2 Ψ fun aT κ=>?_;unfold uI;clear aT;simp;(with_reducible repeat' first|refine aK ?_|refine bq b8 ?_|refine br b8 ?_|simp);(refine dX.val Ψ ?_;simp[vS,bd,bo,a6,cI,dZ,cc,dm,bW,di,tnL,tn,dt,ej,fold,eh,eg,eY,Pv.look,dj,bF,bC,u4,Gm.k,kN,Gm.kind,Gm.name,Gm.ts,Gm.gs])
 |some l=>
  rw[J]at b8;simp only[ka]at b8⊢;obtain⟨iC,hd⟩:=Lt J;have xQ:=RF (ky:=871) l Ω hd l.length 0 (2*l.length+1) Ω Ω Ω;rw[List.drop_zero]at xQ;cases hr:ek en ey (2*l.length+1) l with
  |none=>rw[hr]at xQ;refine nM.mk mixed oA w3 x2 Ψ fun aT κ=>?_;unfold uI;clear aT;simp;(with_reducible repeat' first|refine aK ?_|refine bq b8 ?_|refine br b8 ?_|simp);refine CallDo.obK (xQ _) (bp _ _) (by simp only[ah];exact aS) (by simp only[ah];exact aS) (by simp[aI,Pv.look,ah,aF,eU,kinL,kin]) Ψ ?_;rintro r aj ⟨x,gw,bj,rfl,rfl⟩;refine⟨cg _ _ _ _,?_⟩;simp[bA,ah,aF];(with_reducible repeat' first|refine aK ?_|simp);(refine dX.val Ψ ?_;simp[vS,bd,bo,a6,cI,dZ,cc,dm,bW,di,tnL,tn,dt,ej,fold,eh,eg,eY,Pv.look,dj,bF,bC,u4,Gm.k,kN,Gm.kind,Gm.name,Gm.ts,Gm.gs])
  |some x=>
   obtain⟨g,rest⟩:=x;rw[hr]at xQ;obtain⟨p,aV⟩:∃p,p=l.length-rest.length:=⟨_,rfl⟩;have DB:=H5 xQ aV.symm;have qV:=Um g;have Dd:=vW E7 _ _ _ _ hr;cases rest with
   |cons w r=>have dh:c8 aP 15 [aF 871] (ah 871 l p) fun r aj=>r= .bool false/\aj=ah 871 l p:=nZ (by simp at aV Dd;omega);refine nM.mk mixed oA w3 x2 Ψ fun aT κ=>?_;unfold uI;clear aT;simp;(with_reducible repeat' first|refine aK ?_|refine bq b8 ?_|refine br b8 ?_|simp);refine CallDo.obK (DB _) (bp _ _) (by simp only[ah];exact aS) (by simp only[ah];exact aS) (by simp[aI,Pv.look,ah,aF,eU,kinL,kin]) Ψ ?_;rintro r aj ⟨rfl,rfl⟩;refine⟨cg _ _ _ _,?_⟩;simp[bA,ah,aF];(with_reducible repeat' first|refine aK ?_|simp);refine CallDo.ob (dh) (bp _ _) (by simp only[ah];exact aS) (by simp only[ah];exact aS) (by simp[aI,Pv.look,ah,aF,eU,kinL,kin]) ?_;rintro r aj ⟨rfl,rfl⟩;refine⟨cg _ _ _ _,?_⟩;simp[bA,ah,aF];(with_reducible repeat' first|refine aK ?_|simp);(refine dX.val Ψ ?_;simp[vS,bd,bo,a6,cI,dZ,cc,dm,bW,di,tnL,tn,dt,ej,fold,eh,eg,eY,Pv.look,dj,bF,bC,u4,Gm.k,kN,Gm.kind,Gm.name,Gm.ts,Gm.gs])
   |nil=>
    obtain rfl:p=l.length:=by simpa using aV
    have dh:=BY (ky:=871) l;simp only;cases aH:g.fits 80 with
    |false=>rw[aH]at qV;simp only[ib,if_false];refine nM.mk mixed oA w3 x2 Ψ fun aT κ=>?_;unfold uI;clear aT;simp;(with_reducible repeat' first|refine aK ?_|refine bq b8 ?_|refine br b8 ?_|simp);refine CallDo.obK (DB _) (bp _ _) (by simp only[ah];exact aS) (by simp only[ah];exact aS) (by simp[aI,Pv.look,ah,aF,eU,kinL,kin]) Ψ ?_;rintro r aj ⟨rfl,rfl⟩;refine⟨cg _ _ _ _,?_⟩;simp[bA,ah,aF];(with_reducible repeat' first|refine aK ?_|simp);refine CallDo.ob (dh) (bp _ _) (by simp only[ah];exact aS) (by simp only[ah];exact aS) (by simp[aI,Pv.look,ah,aF,eU,kinL,kin]) ?_;rintro r aj ⟨rfl,rfl⟩;refine⟨cg _ _ _ _,?_⟩;simp[bA,ah,aF];(with_reducible repeat' first|refine aK ?_|refine bq qV ?_|refine br qV ?_|simp);(refine dX.val Ψ ?_;simp[vS,bd,bo,a6,cI,dZ,cc,dm,bW,di,tnL,tn,dt,ej,fold,eh,eg,eY,Pv.look,dj,bF,bC,u4,Gm.k,kN,Gm.kind,Gm.name,Gm.ts,Gm.gs])
    |true=>rw[aH]at qV;simp only[if_true];refine nM.mk mixed oA w3 x2 Ψ fun aT κ=>?_;unfold uI;clear aT;simp;(with_reducible repeat' first|refine aK ?_|refine bq b8 ?_|refine br b8 ?_|simp);refine CallDo.obK (DB _) (bp _ _) (by simp only[ah];exact aS) (by simp only[ah];exact aS) (by simp[aI,Pv.look,ah,aF,eU,kinL,kin]) Ψ ?_;rintro r aj ⟨rfl,rfl⟩;refine⟨cg _ _ _ _,?_⟩;simp[bA,ah,aF];(with_reducible repeat' first|refine aK ?_|simp);refine CallDo.ob (dh) (bp _ _) (by simp only[ah];exact aS) (by simp only[ah];exact aS) (by simp[aI,Pv.look,ah,aF,eU,kinL,kin]) ?_;rintro r aj ⟨rfl,rfl⟩;refine⟨cg _ _ _ _,?_⟩;simp[bA,ah,aF];(with_reducible repeat' first|refine aK ?_|refine bq qV ?_|refine br qV ?_|simp);(refine dX.val Ψ ?_;simp[vS,bd,bo,a6,cI,dZ,cc,dm,bW,di,tnL,tn,dt,ej,fold,eh,eg,eY,Pv.look,dj,bF,bC,u4,Gm.k])
def u3(o:aR Gm):ab:=match o with|some g=>.tuple [g.e,.bool true]|none=>.tuple [kN.e,.bool false]
theorem UK{s:List az}(ao:s.length<=b0):ca aP 4 [.str s] (u3 (nv s)):=by
 have b8:=UM s ao;rw[SV];cases J:ho s with
 |none=>rw[J]at b8;simp only[ka,u3,na]at b8⊢;refine bZ fq w4 x3 fun aT=>?_;unfold uK;clear aT;simp;((with_reducible repeat' first|refine aK ?_|refine bq b8 ?_|refine br b8 ?_|simp|((first|apply dY|apply ed|apply ec)<;>intro h<;>try simp at h))<;>(try exact eM));simp[cC,AP,bd,bo,a6]
 |some l=>
  rw[J]at b8;simp only[ka]at b8⊢;obtain⟨iC,hd⟩:=Lt J;have cT:=Ps l Ω (fun w h=>(hd w h).1) (2*l.length+1) 0 Ω Ω;rw[List.drop_zero]at cT;cases dN:ek hF Go.Pv.hdS (2*l.length+1) l with
  |none=>rw[dN]at cT;simp only[u3,na];refine bZ fq w4 x3 fun aT=>?_;unfold uK;clear aT;simp;(with_reducible repeat' first|refine aK ?_|refine bq b8 ?_|refine br b8 ?_|simp);refine CallDo.ob cT ly (fun k cs h=>by simp[Pv.look]at h) (fun k cs h=>by simp[Pv.look]at h) (by simp[kinL,kin]) ?_;rintro r aj ⟨rfl,g,q,rfl⟩;refine⟨Same.refl _,?_⟩;simp[bA];((with_reducible repeat' first|refine aK ?_|simp|((first|apply dY|apply ed|apply ec)<;>intro h<;>try simp at h))<;>(try exact eM));simp[cC,AP,bd,bo,a6]
  |some x=>
   obtain⟨g,rest⟩:=x;rw[dN]at cT;have qV:=UI g;have Dd:=(vW yB _ _ _ _ dN).1.length_le;cases rest with
   |cons w r=>
    have b5:(((l.length-(r.length+1):Nat):Int) !=l.length)=true:=by simp at Dd⊢;omega
    simp only[u3,na];refine bZ fq w4 x3 fun aT=>?_;unfold uK;clear aT;simp;(with_reducible repeat' first|refine aK ?_|refine bq b8 ?_|refine br b8 ?_|simp);refine CallDo.ob cT ly (fun k cs h=>by simp[Pv.look]at h) (fun k cs h=>by simp[Pv.look]at h) (by simp[kinL,kin]) ?_;rintro cr aj ⟨rfl,rfl⟩;refine⟨Same.refl _,?_⟩;simp[bA];((with_reducible repeat' first|refine aK ?_|simp[b5]|((first|apply dY|apply ed|apply ec)<;>intro h<;>try simp at h))<;>(try exact eM));simp[cC,AP,bd,bo,a6]
   |nil=>
    simp only;cases aH:g.fits 80 with
    |false=>rw[aH]at qV;simp only[u3,na,ib,if_false];refine bZ fq w4 x3 fun aT=>?_;unfold uK;clear aT;simp;(with_reducible repeat' first|refine aK ?_|refine bq b8 ?_|refine br b8 ?_|simp);refine CallDo.ob cT ly (fun k cs h=>by simp[Pv.look]at h) (fun k cs h=>by simp[Pv.look]at h) (by simp[kinL,kin]) ?_;rintro cr aj ⟨rfl,rfl⟩;refine⟨Same.refl _,?_⟩;simp[bA];exact cH
    |true=>rw[aH]at qV;simp only[u3,if_true];refine bZ fq w4 x3 fun aT=>?_;unfold uK;clear aT;simp;(with_reducible repeat' first|refine aK ?_|refine bq b8 ?_|refine br b8 ?_|simp);refine CallDo.ob cT ly (fun k cs h=>by simp[Pv.look]at h) (fun k cs h=>by simp[Pv.look]at h) (by simp[kinL,kin]) ?_;rintro cr aj ⟨rfl,rfl⟩;refine⟨Same.refl _,?_⟩;simp[bA];exact cH
def _root_.Go.Pv.Ix.e(x:Ix):ab:= .agg [.int .i64 x.op,.int .i64 x.a,.int .i64 x.b,.int .i64 x.g.kind,.str x.g.name,.slice 4 .no (x.g.ts.map enc),.slice 4 .no (x.g.gs.map Gm.e)]
@[simp]theorem Ys(x:Ix):dK x.e=true:=rfl
@[simp]theorem V1(x:Ix):cells x.e=[.int .i64 x.op,.int .i64 x.a,.int .i64 x.b,.int .i64 x.g.kind,.str x.g.name,.slice 4 .no (x.g.ts.map enc),.slice 4 .no (x.g.gs.map Gm.e)]:=rfl
@[simp]theorem Vk(x:Ix):ab.agg [.int .i64 x.op,.int .i64 x.a,.int .i64 x.b,.int .i64 x.g.kind,.str x.g.name,.slice 4 .no (x.g.ts.map enc),.slice 4 .no (x.g.gs.map Gm.e)]=x.e:=rfl
@[simp]theorem WA(off:Nat)(ep:Bool)(sz:Nat)(x:Ix):pV off ep sz x.e=if ep then some (off+sz<=7,.agg (([.int .i64 x.op,.int .i64 x.a,.int .i64 x.b,.int .i64 x.g.kind,.str x.g.name,.slice 4 .no (x.g.ts.map enc),.slice 4 .no (x.g.gs.map Gm.e)].drop off).take sz))else(([.int .i64 x.op,.int .i64 x.a,.int .i64 x.b,.int .i64 x.g.kind,.str x.g.name,.slice 4 .no (x.g.ts.map enc),.slice 4 .no (x.g.gs.map Gm.e)]:List ab)[off]?).map fun p=>(True,p):=rfl
@[simp]theorem Wr(off:Nat)(ep:Bool)(sz:Nat)(x:Ix):mn off ep sz (.eptr x.e)=if ep then some (off+sz<=7,.eptr (.agg (([.int .i64 x.op,.int .i64 x.a,.int .i64 x.b,.int .i64 x.g.kind,.str x.g.name,.slice 4 .no (x.g.ts.map enc),.slice 4 .no (x.g.gs.map Gm.e)].drop off).take sz)))else(([.int .i64 x.op,.int .i64 x.a,.int .i64 x.b,.int .i64 x.g.kind,.str x.g.name,.slice 4 .no (x.g.ts.map enc),.slice 4 .no (x.g.gs.map Gm.e)]:List ab)[off]?).map fun p=>(dK p=true/\cells p=[p],.eptr p):=rfl
def _root_.Go.Pv.Ey.e(x:Ey):ab:= .agg [.str x.name,.int .i64 x.pos,.int .i64 x.ar,.int .i64 x.vars]
@[simp]theorem Yl(x:Ey):dK x.e=true:=rfl
@[simp]theorem VU(x:Ey):cells x.e=[.str x.name,.int .i64 x.pos,.int .i64 x.ar,.int .i64 x.vars]:=rfl
@[simp]theorem Vj(x:Ey):ab.agg [.str x.name,.int .i64 x.pos,.int .i64 x.ar,.int .i64 x.vars]=x.e:=rfl
@[simp]theorem Wz(off:Nat)(ep:Bool)(sz:Nat)(x:Ey):pV off ep sz x.e=if ep then some (off+sz<=4,.agg (([.str x.name,.int .i64 x.pos,.int .i64 x.ar,.int .i64 x.vars].drop off).take sz))else(([.str x.name,.int .i64 x.pos,.int .i64 x.ar,.int .i64 x.vars]:List ab)[off]?).map fun p=>(True,p):=rfl
@[simp]theorem Wp(off:Nat)(ep:Bool)(sz:Nat)(x:Ey):mn off ep sz (.eptr x.e)=if ep then some (off+sz<=4,.eptr (.agg (([.str x.name,.int .i64 x.pos,.int .i64 x.ar,.int .i64 x.vars].drop off).take sz)))else(([.str x.name,.int .i64 x.pos,.int .i64 x.ar,.int .i64 x.vars]:List ab)[off]?).map fun p=>(dK p=true/\cells p=[p],.eptr p):=rfl
def _root_.Go.Pv.Cd.e(c:Cd):ab:= .agg [.slice 7 .no (c.is.map Ix.e),.slice 4 .no (c.es.map Ey.e)]
@[simp]theorem Yf(c:Cd):dK c.e=true:=rfl
@[simp]theorem VQ(c:Cd):cells c.e=[.slice 7 .no (c.is.map Ix.e),.slice 4 .no (c.es.map Ey.e)]:=rfl
@[simp]theorem Vg(c:Cd):ab.agg [.slice 7 .no (c.is.map Ix.e),.slice 4 .no (c.es.map Ey.e)]=c.e:=rfl
@[simp]theorem Wy(off:Nat)(ep:Bool)(sz:Nat)(c:Cd):pV off ep sz c.e=if ep then some (off+sz<=2,.agg (([.slice 7 .no (c.is.map Ix.e),.slice 4 .no (c.es.map Ey.e)].drop off).take sz))else(([.slice 7 .no (c.is.map Ix.e),.slice 4 .no (c.es.map Ey.e)]:List ab)[off]?).map fun p=>(True,p):=rfl
@[simp]theorem Wn(off:Nat)(ep:Bool)(sz:Nat)(c:Cd):mn off ep sz (.eptr c.e)=if ep then some (off+sz<=2,.eptr (.agg (([.slice 7 .no (c.is.map Ix.e),.slice 4 .no (c.es.map Ey.e)].drop off).take sz)))else(([.slice 7 .no (c.is.map Ix.e),.slice 4 .no (c.es.map Ey.e)]:List ab)[off]?).map fun p=>(dK p=true/\cells p=[p],.eptr p):=rfl
inductive lf where
 |s (l:List az)
 |b (x:ic)
def lf.e:lf->ab
 | .s l=>.str l
 | .b x=>.cst (.string x)
def lf.len:lf->Int
 | .s l=>l.length
 | .b x=>x.size
def yA(n:Nat):Prop:=b0<n/\n<=9223372036854775807
def lf.wf:lf->Prop
 | .s _=>True
 | .b x=>yA x.size
inductive rI (α:Type) where
 |l (xs:List α)
 |b (p:aR Addr) (n cap:Nat)
def rI.e{α:Type}(sz:Nat)(f:α->ab):rI α->ab
 | .l xs=>.slice sz .no (xs.map f)
 | .b p n cap=>.cst (.slice p n cap)
def rI.wf{α:Type}(P:α->Prop):rI α->Prop
 | .l xs=> ∀x∈xs,P x
 | .b _ n _=>yA n
inductive gy where
 |mk (k n:Int) (s:lf) (a:List gy)
 |big (k n:Int) (s:lf) (p:aR Addr) (len cap:Nat)
mutual
def gy.e:gy->ab
 | .mk k n s a=>.agg [.int .i64 k,.int .i64 n,s.e,.slice 4 .no (gy.eL a)]
 | .big k n s p len cap=>.agg [.int .i64 k,.int .i64 n,s.e,.cst (.slice p len cap)]
def gy.eL:List gy->List ab
 |[]=>[]
 |x::xs=>x.e::gy.eL xs
end
def gy.kind:gy->Int| .mk k _ _ _=>k| .big k _ _ _ _ _=>k
def gy.num:gy->Int| .mk _ n _ _=>n| .big _ n _ _ _ _=>n
def gy.name:gy->lf| .mk _ _ s _=>s| .big _ _ s _ _ _=>s
def gy.args:gy->rI gy| .mk _ _ _ a=>.l a| .big _ _ _ p l c=>.b p l c
mutual
def gy.sz:gy->Nat
 | .mk _ _ _ a=>1+gy.szL a
 | .big _ _ _ _ _ _=>1
def gy.szL:List gy->Nat
 |[]=>0
 |x::xs=>x.sz+gy.szL xs
end
mutual
def gy.wf:gy->Prop
 | .mk _ _ s a=>s.wf/\gy.wfL a
 | .big _ _ s _ l _=>s.wf/\yA l
def gy.wfL:List gy->Prop
 |[]=>True
 |x::xs=>x.wf/\gy.wfL xs
end
def Lf{α:Type}(f:α->Int->Int):List α->Int->Int
 |[],m=>m
 |x::xs,m=>if f x m<0 then-1 else Lf f xs (f x m)
def T6{α:Type}(f:α->Int->Int)(l:List α)(m:Int):Int:=if m-l.length<0 then-1 else Lf f l (m-l.length)
def T5{α:Type}(f:α->Int->Int):rI α->Int->Int
 | .l xs,m=>T6 f xs m
 | .b _ _ _,_=> -1
mutual
def E0:gy->Int->Int
 | .mk _ _ s a,m=>if m-s.len<0 then-1 else if m-s.len-a.length<0 then-1 else Li a (m-s.len-a.length)
 | .big _ _ s _ _ _,m=>if m-s.len<0 then-1 else-1
def Li:List gy->Int->Int
 |[],m=>m
 |x::xs,m=>if E0 x m<0 then-1 else Li xs (E0 x m)
end
def Gr:C:=(al [bQ 4 false] (.seq (al [ae 6 0,ee 7 6,ae 8 1,ee 9 8,c6 10 .neq 7 9] (be 10 (al [bQ 4 false] .ret) .skip)) (.seq (al [cF 5 0] (.block 0 (.loop (.seq (al [ae 11 5,ae 12 0,ee 13 12,c6 14 .lss 11 13] (be 14 .skip (.exit 0))) (.seq (.block 1 (.seq (.drawn true 27 [ae 17 0,ae 18 5,eS 19 4 17 18,dv 20 4 19,ae 21 1,ae 22 5,eS 23 4 21 22,dv 24 4 23,gK 25 35 20 24,eK 26 25]) (be 26 (al [bQ 4 false] .ret) .skip))) (.region [ae 15 5,bc 16 .add 15 1,ae 5 16])))))) (al [bQ 4 true] .ret))))
@[simp] def Tk:List cG:=[.tmp 4]
def Gq:C:=(al [jA 2 0,jA 3 1,bQ 4 false] (.seq (al [bE 5 0 1 2,bB 6 1 5,bE 7 0 1 3,bB 8 1 7,c6 9 .neq 6 8] (be 9 (al [bQ 4 false] .ret) .skip)) (.seq (al [bE 10 1 1 2,bB 11 1 10,bE 12 1 1 3,bB 13 1 12,c6 14 .neq 11 13] (be 14 (al [bQ 4 false] .ret) .skip)) (.seq (al [bE 15 2 1 2,bB 16 1 15,bE 17 2 1 3,bB 18 1 17,c6 19 .neq 16 18] (be 19 (al [bQ 4 false] .ret) .skip)) (.seq (al [bE 20 3 1 2,bB 21 1 20,bE 22 3 1 3,bB 23 1 22,gK 24 17 21 23,eK 25 24] (be 25 (al [bQ 4 false] .ret) .skip)) (al [bQ 4 true] .ret))))))
@[simp] def Tj:List cG:=[.tmp 4]
def Fa:List (Nat×cm):=[
 (3,⟨1,8,.int .i64,.int .i64 0⟩),
 (9,⟨1,16,.str,.str []⟩),
 (22,⟨1,24,.slice 51,.slice 4 .nil []⟩),
 (51,⟨4,56,.struct [(0,3),(1,3),(2,9),(3,22)],.agg [.int .i64 0,.int .i64 0,.str [],.slice 4 .nil []]⟩)]
theorem LB:dE aP Fa=true:=by kernel_rfl
theorem SC:dA Fa Gr Tk 2 Tryd.f17=true:=by kernel_rfl
theorem OU:aP.funcs[(17:Nat)]? =some Tryd.f17:=Tryd.func17
theorem SB:dA Fa Gq Tj 2 Tryd.f35=true:=by kernel_rfl
theorem OT:aP.funcs[(35:Nat)]? =some Tryd.f35:=Tryd.func35
theorem LK(l:List aZ)(aH:∀x∈l,ca aP 35 [enc x,enc x] (.bool true)):ca aP 17 [.slice 4 .no (l.map enc),.slice 4 .no (l.map enc)] (.bool true):=by
 refine bZ LB OU SC fun aT=>?_;unfold Gr;have hf:l.length<=68719476736:=by simp[je,jE,jf,b0]at aT;omega
 simp;(with_reducible repeat' first|refine aK ?_|simp);refine Ca [0,1] (fun i (_:Unit)=>[(5,.int .i64 i)]) l.length (fun _ _=>True) () dQ trivial (fun _ _ _=>?_) (fun i _ aD _ _=>?_)
 ·exact cH
 ·obtain⟨x,ad,hX⟩:=h0 aD;have key:=aH x (gL ad);clear ad;exact vR
theorem Us(t:aZ):ca aP 35 [enc t,enc t] (.bool true):=by
 suffices H:∀(k:Nat) (t:aZ),t.sz<=k->ca aP 35 [enc t,enc t] (.bool true)from H _ t (cx _)
 intro k;induction k with
 |zero=>intro t au;cases t;simp[aZ.sz]at au
 |succ k a8=>intro t au;have key:=LK t.args (fun x ad=>a8 x (by have:=Lj ad;omega));clear a8;refine bZ LB OT SB fun aT=>?_;unfold Gq;exact cH
def iJ(t:rI gy):ab:=t.e 4 gy.e
def pD(t:rI gy)(m:Int):Int:=T5 E0 t m
def Gn:C:=(al [jA 2 0,jA 3 1,bQ 4 false] (.seq (al [bE 5 0 1 2,bB 6 1 5,bE 7 0 1 3,bB 8 1 7,c6 9 .neq 6 8] (be 9 (al [bQ 4 false] .ret) .skip)) (.seq (al [bE 10 1 1 2,bB 11 1 10,bE 12 1 1 3,bB 13 1 12,c6 14 .neq 11 13] (be 14 (al [bQ 4 false] .ret) .skip)) (.seq (al [bE 15 2 1 2,bB 16 1 15,bE 17 2 1 3,bB 18 1 17,gK 19 17 16 18,eK 20 19] (be 20 (al [bQ 4 false] .ret) .skip)) (.seq (al [bE 21 3 1 2,bB 22 1 21,bE 23 3 1 3,bB 24 1 23,gK 25 18 22 24,eK 26 25] (be 26 (al [bQ 4 false] .ret) .skip)) (al [bQ 4 true] .ret))))))
@[simp] def Th:List cG:=[.tmp 4]
def Gp:C:=(al [bQ 4 false] (.seq (al [ae 6 0,ee 7 6,ae 8 1,ee 9 8,c6 10 .neq 7 9] (be 10 (al [bQ 4 false] .ret) .skip)) (.seq (al [cF 5 0] (.block 0 (.loop (.seq (al [ae 11 5,ae 12 0,ee 13 12,c6 14 .lss 11 13] (be 14 .skip (.exit 0))) (.seq (.block 1 (.seq (.drawn true 27 [ae 17 0,ae 18 5,eS 19 4 17 18,dv 20 4 19,ae 21 1,ae 22 5,eS 23 4 21 22,dv 24 4 23,gK 25 6 20 24,eK 26 25]) (be 26 (al [bQ 4 false] .ret) .skip))) (.region [ae 15 5,bc 16 .add 15 1,ae 5 16])))))) (al [bQ 4 true] .ret))))
@[simp] def Ti:List cG:=[.tmp 4]
def Fb:List (Nat×cm):=[
 (3,⟨1,8,.int .i64,.int .i64 0⟩),
 (9,⟨1,16,.str,.str []⟩),
 (22,⟨1,24,.slice 51,.slice 4 .nil []⟩),
 (23,⟨1,24,.slice 25,.slice 4 .nil []⟩),
 (25,⟨4,72,.struct [(0,3),(1,9),(2,22),(3,23)],.agg [.int .i64 0,.str [],.slice 4 .nil [],.slice 4 .nil []]⟩)]
theorem LC:dE aP Fb=true:=by kernel_rfl
theorem Sz:dA Fb Gn Th 2 Tryd.f6=true:=by kernel_rfl
theorem OR:aP.funcs[(6:Nat)]? =some Tryd.f6:=Tryd.func6
theorem SA:dA Fb Gp Ti 2 Tryd.f18=true:=by kernel_rfl
theorem OS:aP.funcs[(18:Nat)]? =some Tryd.f18:=Tryd.func18
theorem Ut(d:List aZ):ca aP 17 [.slice 4 .no (d.map enc),.slice 4 .no (d.map enc)] (.bool true):=LK d fun x _=>Us x
theorem Ur(l:List Gm)(aH:∀x∈l,ca aP 6 [Gm.e x,Gm.e x] (.bool true)):ca aP 18 [.slice 4 .no (l.map Gm.e),.slice 4 .no (l.map Gm.e)] (.bool true):=by
 refine bZ LC OS SA fun aT=>?_;unfold Gp;have hf:l.length<=68719476736:=by simp[je,jE,jf,b0]at aT;omega
 simp;(with_reducible repeat' first|refine aK ?_|simp);refine Ca [0,1] (fun i (_:Unit)=>[(5,.int .i64 i)]) l.length (fun _ _=>True) () dQ trivial (fun _ _ _=>?_) (fun i _ aD _ _=>?_)
 ·exact cH
 ·obtain⟨x,ad,hX⟩:=h0 aD;have key:=aH x (gL ad);clear ad;exact vR
theorem Uq(t:Gm):ca aP 6 [t.e,t.e] (.bool true):=by
 suffices H:∀(k:Nat) (t:Gm),t.sz<=k->ca aP 6 [t.e,t.e] (.bool true)from H _ t (cx _)
 intro k;induction k with
 |zero=>intro t au;have:=t.sz_pos;omega
 |succ k a8=>intro t au;have key:=Ur t.gs (fun x ad=>a8 x (by have:=t.gs_lt ad;omega));have b8:=Ut t.ts;clear a8;refine bZ LC OR Sz fun aT=>?_;unfold Gn;exact cH
theorem Nu(b:Nat)(a:Int)(s:List az)(ts gs:List ab):fH b [.int .i64 a,.str s,.slice 4 .no ts,.slice 4 .no gs]=[.int .i64 a,.str s,dr b (.slice 4 .no ts),dr (b+bu (.slice 4 .no ts)) (.slice 4 .no gs)]:=rfl
theorem SX{s:List az}{g:Gm}(h:nv s=some g):g.fits 80=true:=by
 unfold nv at h;split at h
 ·cases h
 split at h
 ·split at h
  ·rename_i aH;cases h;exact aH
  ·cases h
 ·cases h
theorem SY{s:List az}(k:Int)(J:k<=1000):(fc (((nv s).getD kN).ts.map enc) (((nv s).getD kN).gs.map Gm.e) k).2<=4611686018427387904:=by
 unfold fc et;rw[xY,xY];cases h:nv s with
 |none=>simp[k8,kN,Gm.ts,Gm.gs];omega
 |some g=>have:=Pf (SX h);simp only[Option.getD];omega
theorem Ul(jJ:lf)(aL:jJ.wf):ca aP 3 [jJ.e] (.bool true):=by
 cases jJ with
 |b x=>
  have HR:(1048576:Int)<x.size:=by have:yA x.size:=aL;unfold yA b0 at this;omega
  simp only[lf.e];clear aL;refine ca.mkD mixed Ff Cj Ee Ψ (by simp[kin]) fun aT=>?_;unfold yU;exact cH
 |s jJ=>
 simp only[lf.e];by_cases HR:(1048576:Int)<jJ.length
 ·clear aL;refine ca.mkD mixed Ff Cj Ee Ψ (by simp[kin]) fun aT=>?_;unfold yU;have hf:jJ.length<=68719476736:=by simp[je,jE,jf,b0]at aT;omega
  exact cH
 have aB:jJ.length<=b0:=by unfold b0;omega
 have key:∃(x:Gm) (B:Bool),(∀k:Int,k<=1000->(fc (x.ts.map enc) (x.gs.map Gm.e) k).2<=4611686018427387904)/\ca aP 4 [.str jJ] (.tuple [x.e,.bool B])/\nM aP 5 [.str jJ] fun κ=>.tuple [x.k κ,.bool B]:=by
  refine⟨(nv jJ).getD kN,(nv jJ).isSome,fun k J=>SY k J,?_,Sk aB⟩;have:=UK aB;cases h:nv jJ with
  |none=>rw[h]at this;exact this
  |some g=>rw[h]at this;exact this
 obtain⟨x,B,hw,s1,i1⟩:=key;have zW:ca aP 5 [.str jJ] (.tuple [x.e,.bool B]):=by have:=i1.val (by simp[Gm.k,bC,bF,Pv.kin,Pv.kinL]);simpa[Gm.k,bC,bF]using this
 have rV:=Uq x;clear aL;obtain⟨a,N,ts,gs⟩:=x;simp only[Gm.k,Gm.kind,Gm.name,Gm.ts,Gm.gs]at i1 hw;rw[Gm.e_eq]at s1 zW rV;simp only[Gm.kind,Gm.name,Gm.ts,Gm.gs]at s1 zW rV;refine ca.mkD mixed Ff Cj Ee Ψ (by simp[kin]) fun aT=>?_;unfold yU;have hf:jJ.length<=68719476736:=Ω
 simp[-nS];(with_reducible repeat' first|refine aK ?_|refine bq s1 ?_|refine br s1 ?_|simp[HR,-nS]);refine Oj ⟨[(0,.str jJ),(3,.ptr (.loc 0) 0),(4,.bool B)],[(.loc 0,[.int .i64 a,.str N,.slice 4 .no (ts.map enc),.slice 4 .no (gs.map Gm.e)])],[],1,[]⟩ dQ ?_ ?_
 ·simp[Ba,Bc,Bb,sP,um]
 simp[qe,Bd,yr,iI,sO];(with_reducible repeat' first|refine aK ?_|simp);(refine CallDo.own Ψ (i1) (by simp[dj]) ?_;simp);(with_reducible repeat' first|refine aK ?_|refine bq rV ?_|refine br rV ?_|simp[-nS]);refine Ol ⟨[(0,.str jJ),(3,.ptr (.loc 0) 0),(4,.bool B),(5,.ptr (.loc 2) 0),(6,.bool B),(7,.int .i64 1)],[(.loc 0,[.int .i64 a,.str N,.slice 4 (.lo dj) (ts.map enc),.slice 4 (.lo dj) (gs.map Gm.e)]),(.loc 2,[.int .i64 a,.str N,.slice 4 (.tr (.loc 1) 0) (ts.map enc),.slice 4 (.tr (.loc 1) 1) (gs.map Gm.e)])],[],3,[dj]⟩ 1000000 dQ ?_ fun ε=>?_
 ·simp[yw,ox,dt,ej,tn,tnL,AJ,Pv.look,dj]
 simp[qk,qj,rM,qw,hJ,lL,bC,bF,tn,tnL,Pv.look,-nS];(with_reducible repeat' first|refine aK ?_|simp[Nu,-nS]);have CU:=hw 1 Ω;have f1:=Pt a N (ts.map enc) (gs.map Gm.e) Dv Du 1 1000000 ε Ω CU;have f3:=Pq a N (ts.map enc) (gs.map Gm.e) Dv Du 1 1000000 ε Ω CU;have d0:bN (.agg [.int .i64 a,.str N,.slice 4 .no (ts.map enc),.slice 4 .no (gs.map Gm.e)]):=by simp[bN,Pv.dtL,-nS]
 have d1:bN (.agg [.int .i64 a,.str N,.slice 4 .no (et (ts.map enc) 1).1,.slice 4 .no (fc (ts.map enc) (gs.map Gm.e) 1).1]):=by simp only[bN,Pv.dtL,true_and,and_true];exact⟨⟨Ω,n1 _ _ _ Ψ⟩,Ω,n1 _ _ _ Ψ⟩
 have f2:kinL (rng 1000000 (1000000+bu (.agg [.int .i64 a,.str N,.slice 4 .no (ts.map enc),.slice 4 .no (gs.map Gm.e)]))) [dr 1000000 (.agg [.int .i64 a,.str N,.slice 4 .no (ts.map enc),.slice 4 .no (gs.map Gm.e)]),.int .i64 1]:=⟨og _ _ d0,by simp[Pv.kin],trivial⟩;have bL:bu (.slice 4 .no (et (ts.map enc) 1).1)=bu (.slice 4 .no (ts.map enc)):=nW (j6 ..) (mT ..);have ck:bu (.slice 4 .no (fc (ts.map enc) (gs.map Gm.e) 1).1)=bu (.slice 4 .no (gs.map Gm.e)):=nW (j6 ..) (mT ..);have cJ:bu (.agg [.int .i64 a,.str N,.slice 4 .no (et (ts.map enc) 1).1,.slice 4 .no (fc (ts.map enc) (gs.map Gm.e) 1).1])=bu (.agg [.int .i64 a,.str N,.slice 4 .no (ts.map enc),.slice 4 .no (gs.map Gm.e)]):=by rw[ti,ti,bL,ck]
 have jl:1<=(fc (ts.map enc) (gs.map Gm.e) 1).2:=by have I:1<=(et (ts.map enc) 1).2:=jw ..;have aa:(et (ts.map enc) 1).2<=(fc (ts.map enc) (gs.map Gm.e) 1).2:=jw ..;omega
 have bb:dr 1000000 (.agg [.int .i64 a,.str N,.slice 4 .no (et (ts.map enc) 1).1,.slice 4 .no (fc (ts.map enc) (gs.map Gm.e) 1).1])=dr 1000000 (.agg [.int .i64 a,.str N,.slice 4 .no (ts.map enc),.slice 4 .no (gs.map Gm.e)]):=by have fx:∀b,dr b (.slice 4 .no (et (ts.map enc) 1).1)=dr b (.slice 4 .no (ts.map enc)):=fun b=>w2 (j6 ..);have fV:∀b,dr b (.slice 4 .no (fc (ts.map enc) (gs.map Gm.e) 1).1)=dr b (.slice 4 .no (gs.map Gm.e)):=fun b=>w2 (j6 ..);rw[rW,rW,bL,fx,fV]
 have f4:=f2;rw[<-cJ]at f4;rw[bb]at f3;obtain⟨P,Ic⟩:∃P,P=ab.agg [.int .i64 a,.str N,.slice 4 .no (et (ts.map enc) 1).1,.slice 4 .no (fc (ts.map enc) (gs.map Gm.e) 1).1]:=⟨_,rfl⟩;rw[<-Ic]at f1 f3 f4 d1 cJ;generalize (fc (ts.map enc) (gs.map Gm.e) 1).2=K at f1 f3 jl;rw[rW]at f1 f2 f3 f4;clear Ic hw bb CU bL ck;refine CallDo.tree d0 cJ f1 rfl f2 ?_;have cb:¬K<0:=Ω
 clear f1 f2 cJ d0 jl;simp[-nS];(with_reducible repeat' first|refine aK ?_|simp[-nS]);refine CallDo.tree d1 rfl f3 ?_ f4 ?_
 ·rfl
 simp[cb,-nS];(with_reducible repeat' first|refine aK ?_|refine bq zW ?_|refine br zW ?_|refine bq rV ?_|refine br rV ?_|simp[cb,-nS]);refine CallDo.tree d1 rfl f3 ?_ f4 ?_
 ·rfl
 simp[cb,-nS];(with_reducible repeat' first|refine aK ?_|simp[cb,-nS]);simp[cC,Kt,bd,bo,a6]
end
section
open Go Go.Pv Go.ChangeShapes Go.WideShapes Go.ChangeAt Go.RowKit Go.Deep
def uR(W:World):aC:=⟨fun b o=> ∃u,W.cell? ⟨b,o,none⟩=some u,fun _=>none,fun _=>none,fun _ _ _=>cv⟩
section
variable {H:Type} {enc:eO×Value->H} {W:World} {spare:Nat->Bool} {held:Bool}
def AU(W:World)(p:ab)(cs:List Value):Prop:= ∃v:Value,v.cells.toList=cs/\aw W (uR W) p v/\∀c∈cs,c.oneCell'=true
def Tt(W:World)(p:ab)(v:Value):Prop:=aw W (uR W) p v/\v.oneCell'=true/\v.cells= #[v]
end
end
section
open Go Go.Pv Go.ChangeShapes Go.WideShapes Go.ChangeAt Go.RowKit Go.Deep
section
variable {H:Type} {enc:eO×Value->H} {W:World} {spare:Nat->Bool} {held:Bool} {cs:List Value} {x:DataW H×List MemPlace} {fuel:Nat}
theorem T1(h:DataW.trod enc aP W 0 spare held fuel 9 cs=some x):∃(s:lf) (v:Value),s.wf/\cs=[v]/\Tt W s.e v:=by
 obtain⟨s,rfl,_,hm⟩:=DataW.trod_string Tryd.underlying9 h;by_cases ao:b0<s.size
 ·exact⟨.b s,_,⟨ao,by unfold maxLen at hm;omega⟩,rfl,by simp only[lf.e,aw],rfl,rfl⟩
 ·refine⟨.s s.data.toList,_,trivial,rfl,?_,rfl,rfl⟩;simp only[lf.e,aw];refine⟨Ψ,?_⟩;have:s.data.toList.length=s.size:=rfl;omega
end
end
section
open Go Go.Pv Go.ChangeShapes Go.WideShapes Go.ChangeAt Go.RowKit
theorem TC:ownKnob aP.godebug=none:=by kernel_rfl
theorem TB:laidOutB aP=true:=by kernel_rfl
def Pz(b o:Nat):Prop:= ∃x∈r1,x.1=b/\x.2.1=o
def w8(w:World):Prop:= ∀x∈r1,(∃v,w.cell? ⟨x.1,x.2.1,none⟩=some v/\x.2.2.2 v)/\∃el,Pv.shape w x.1=some (x.2.2.1,el)
theorem w8.gl{w:World}(h:w8 w){ν:aC}(aN:∀b o,Pz b o->ν.A b o):lG w ν:=fun x ad=>⟨aN _ _ ⟨x,ad,rfl,rfl⟩,h x ad⟩
theorem Fl{w:World}{n:String}{g:Nat}{cs:Array Value}(aL:aP.globalNamed n=some g)(h:w.var? aP n=some cs):∃el,Pv.shape w g=some (cs.size,el):=by
 simp only[World.var?,aL,Option.bind_some]at h;unfold Pv.shape;split at h
 ·rename_i c t fz e;cases h;rw[e];exact⟨_,rfl⟩
 ·cases h
theorem PA{w:World}(au:Lib.TabIs aP w "internal/strconv.uint64pow10" .u64 Lib.pow10Tab)(ao:∃u v,w.var? aP "strconv.ErrSyntax" =some #[.iface u v])(hr:∃u v,w.var? aP "strconv.ErrRange" =some #[.iface u v]):w8 w:=by
 have kN:aP.globalNamed "internal/strconv.uint64pow10" =some 2:=by kernel_rfl
 have g1:aP.globalNamed "strconv.ErrSyntax" =some 0:=by kernel_rfl
 have g2:aP.globalNamed "strconv.ErrRange" =some 1:=by kernel_rfl
 obtain⟨hY,v1,I⟩:=ao;obtain⟨hP,v2,aa⟩:=hr;intro x ad;unfold r1 at ad;rcases hp.1 ad with ad|ad
 ·obtain⟨i,aD,rfl⟩:=lE.1 ad;have aD:=List.mem_range.1 aD;refine⟨⟨_,au.cell kN i (by simpa[Lib.pow10Tab]using aD),?_⟩,?_⟩
  ·show Value.int .u64 _=_;rw[Lib.pow10Tab_at i aD]
  ·obtain⟨el,h⟩:=Fl kN au;exact⟨el,by simpa[Lib.pow10Tab]using h⟩
 ·simp only[gZ,List.not_mem_nil,or_false]at ad;rcases ad with rfl|rfl
  ·refine⟨⟨.iface hY v1,by simpa using World.var?_cell g1 I 0,_,_,rfl⟩,?_⟩;obtain⟨el,h⟩:=Fl g1 I;exact⟨el,by simpa using h⟩
  ·refine⟨⟨.iface hP v2,by simpa using World.var?_cell g2 aa 0,_,_,rfl⟩,?_⟩;obtain⟨el,h⟩:=Fl g2 aa;exact⟨el,by simpa using h⟩
theorem Jy{n gj:String}{d:DataW Unit}{r:List (String×DataW Unit)}{W:World}{g:Nat}{dx:eO}{ms:Array (String×eO)}(h:laidMet aP ((n,.iface gj d)::r) W)
  (aL:aP.globalNamed n=some g) (au:(aP.globals[g]?).map (·.type)=some dx) (aD:aP.underlying dx=some (.interface ms)):∃u v,W.var? aP n=some #[.iface u v]:=by
 obtain⟨aX,⟨kN,t0,Ni,f0,gw,Ko,Qk,Q8,zS,qJ,_,rT⟩,_,_⟩:=h;obtain rfl:=iL (aL.symm.trans Qk);obtain rfl:=iL (au.symm.trans Q8);obtain⟨Xu⟩:=Ni;obtain⟨_,u,v,aA,_,_⟩:=iface_of_trod aD qJ;simp only at aA;subst aA;exact⟨u,v,zS⟩
theorem vx(w:World)(A:Nat->Nat->Prop)(b:Nat):∀(us:List Value) (off:Nat),(∀i u,us[i]? =some u->A b (off+i)/\w.cell? ⟨b,off+i,none⟩=some u)->h7 w A b off us
 |[],_,_=>trivial
 |u::us,off,h=>⟨by simpa using h 0 u rfl,vx w A b us (off+1) fun i dn hu=>by have:=h (i+1) dn (by simpa using hu);rwa[show off+(i+1)=off+1+i from by omega]at this⟩
theorem Mx{f:FuncId}{fn:Func}(vd:aP.funcs[f]? =some fn)(Nr:∀args w,(callFunc f args).run aP w= .ok (.enter f args) w){w:World}{ν:aC}{args:List ab}{vs:Array Value}(gl:lG w ν)(h:ca aP f args (.bool true))(au:∀k j b,¬ν.tr k j b)(aN:∀b o,ν.A b o->b<w.heap.size)(af:∀k,ν.bx k=none)(ag:∀k,ν.ow k=none)(hr:bT w ν args vs.toList):
  Calls aP f vs w fun e w'=>e= .returned (.bool true)/\Below w.heap.size w w':=by
 have aL:Pv.Good (eX ν ⟨[],[]⟩) w ν [] []:=⟨aN,fun k cs J=>by simp[Pv.look]at J,fun k aW bl I=>by simp[Pv.look]at I,fun g o J=>by simp[Pv.look]at J,fun g dF n n' v v' bl I=>by simp[Pv.look]at I,fun g k n v bl I=>by simp[Pv.look]at I,fun k=>.inl (af k),fun _ _ k j=>au k j _⟩;rcases h w ν vs gl aL (fun k=>⟨fun _=>af k,fun _=>ag k,au k⟩) hr with⟨_,aA⟩|⟨v,w',aA,_⟩
 ·refine aA.mono ?_;rintro e w' ⟨v,r,aj,ν',rfl,⟨rfl,rfl⟩,hV,_,_,_,ks⟩;simp only[aw]at hV;subst hV;refine⟨rfl,ks.os,ks.tape,ks.output,ks.size,fun k J=>ks.block k J ?_⟩;simp[eX,Pv.look]
 ·rw[Nr]at aA;cases aA
theorem Nx{W:World}{b o:Nat}(h:(uR W).A b o):b<W.heap.size:=by
 obtain⟨u,hu⟩:=h;rcases Nat.lt_or_ge b W.heap.size with h|h
 ·exact h
 ·simp[World.cell?,Array.getElem?_eq_none h]at hu
theorem Nw{W:World}(h:w8 W):lG W (uR W):=h.gl fun b o aL=>by obtain⟨x,ad,rfl,rfl⟩:=aL;obtain⟨⟨v,aY,_⟩,_⟩:=h x ad;exact⟨v,aY⟩
theorem T0{H:Type}{enc:eO×Value->H}{W:World}{spare:Nat->Bool}{held:Bool}{u:ic}{x:DataW H×List MemPlace}{fuel:Nat}(h:DataW.trod enc aP W 0 spare held fuel 9 [.string u]=some x):∃s:lf,s.wf/\aw W (uR W) s.e (.string u):=by obtain⟨s,v,ao,e,hr⟩:=T1 h;cases e;exact⟨s,ao,hr.1⟩
end
end Go.Proofs.YtlnndmgfngfeiaaDoor
