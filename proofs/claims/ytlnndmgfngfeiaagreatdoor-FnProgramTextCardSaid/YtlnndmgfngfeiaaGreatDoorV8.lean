/- Contracts: a definition read. -/
import Derived.Test.YtlnndmgfngfeiaaGreatDoorProg
import Derived.Shelf.SlSortFuncK.WholeK
import Derived.Shelf.GgSortFunc.Tiny
import Derived.Ground.GgsProg
import Derived.Deep.QuietTactic
import Derived.Lib.OwnBridge
import Derived.Test.YtlnndmgfngfeiaaGreatDoorV7
set_option linter.all false
set_option maxHeartbeats 4000000
set_option maxRecDepth 4000
open Bool renaming and_eq_true->bF,false_eq_true->kE
open Go renaming program->iT
open Go.Proofs.Tryz renaming prog->aQ
open Int renaming add_assoc->pP
open List renaming all_eq_true->hq,append_assoc->iI,append_nil->mg,drop_eq_getElem_cons->uk,drop_length->kG,getElem?_drop->lT,getElem?_eq_getElem->cS,getElem?_eq_some_iff->eV,getElem?_map->pQ,length_append->fU,length_cons->ga,length_drop->hG,length_take->n7,map_cons->ek,mem_append->fM,mem_cons->gb,mem_of_getElem?->fq,mem_singleton->mi,nil_append->eW,take_add_one->kV,take_length->kH
open Nat renaming eq_or_lt_of_le->jJ,le_refl->c7,lt_or_ge->lU,zero_le->o3
open Option renaming getD->lV,map_some->oa
open Option.some renaming inj->hd,injEq->dH
open Prod.mk renaming injEq->gz
open _root_ renaming False->dD,Option->a1,UInt8->ah,beq_eq_false_iff_ne->jy,decide_eq_true_eq->ea,if_neg->bo,if_pos->bP
namespace Go.Pv
section
open Go Go.RowKit
def lh:List (List ah×al)->List al
 |[]=>[]
 |(k,v)::r=>.str k::v::lh r
def jv(l:List (List ah×al)):List al:= .hdm l.length (List.range l.length)::lh l
def rn(k:List ah):List (List ah×al)->a1 al
 |[]=>none
 |(i,v)::r=>if k=i then some v else rn k r
def sK(k:List ah)(v:al):List (List ah×al)->a1 (List (List ah×al))
 |[]=>none
 |(i,w)::r=>if k=i then some ((k,v)::r)else match sK k v r with|some dh=>some ((i,w)::dh)|none=>none
def pD(k:List ah)(v:al)(l:List (List ah×al)):List (List ah×al):=match sK k v l with|some cF=>cF|none=>l++[(k,v)]
theorem UZ:∀a b,lh (a++b)=lh a++lh b
 |[],_=>rfl
 |(k,v)::r,b=>by simp[lh,UZ r b]
theorem R9(a b:List ah):u3 .s (.str a) (.str b)=some (a==b):=rfl
theorem SB(k:List ah):∀l,tQ .s (.str k) (lh l)=some (rn k l)
 |[]=>rfl
 |(i,v)::r=>by
  simp only[lh,tQ,R9,rn];by_cases h:k=i
  ·simp[h]
  ·have:(k==i)=false:=by simp[h]
   simp[h,SB k r,this]
theorem U6{k:List ah}{v:al}:∀{l cF},sK k v l=some cF->cF.length=l.length
 |[],_,h=>by simp[sK]at h
 |(i,w)::r,cF,h=>by
  simp only[sK]at h;split at h
  ·cases h;rfl
  ·split at h
   ·rename_i dh hr;cases h;simp[U6 hr]
   ·cases h
theorem SJ(k:List ah)(v:al):∀l,vf .s (.str k) v (lh l)=some ((sK k v l).map lh)
 |[]=>rfl
 |(i,w)::r=>by
  simp only[lh,vf,R9,sK];by_cases h:k=i
  ·subst h;simp[lh]
  ·have:(k==i)=false:=by simp[h]
   simp only[this,h,if_false,SJ k v r];cases sK k v r<;>simp[lh]
@[simp]theorem aeB(k:List ah)(v:al)(l:List (List ah×al)):ra .s (.str k) v (jv l)=some (jv (pD k v l)):=by
 simp only[jv,ra,Sc,Bool.true_eq_false,reduceCtorEq,if_false,SJ,pD];cases h:sK k v l with
 |some cF=>simp[U6 h]
 |none=>simp[UZ,lh,List.range_succ]
@[simp]theorem alG(k:List ah)(v:al):ra .s (.str k) v (lJ [])=some (jv (pD k v [])):=aeB k v []
@[simp]theorem vd(f:aO->a1 (List al))(m:aO)(l:List (List ah×al))(z:al)(ok:Bool)(k:List ah)(hm:f m=some (jv l)):oN f .s z ok (.gmap m) (.str k)=(match rn k l with
  |some v=>some (True,if ok then .tuple [v,.bool true]else v)
  |none=>some (True,if ok then .tuple [z,.bool false]else z)):=by
 simp only[SD,hm,jv,Sc,Bool.true_eq_false,reduceCtorEq,if_false,SB];cases rn k l<;>rfl
@[simp]theorem aez(f:aO->a1 (List al))(m:aO)(l:List (List ah×al))(hm:f m=some (jv l)):ve f (.gmap m)=some (True,.int .i64 l.length):=by simp[aey,hm,jv]
@[simp]theorem alY(l:List (List ah×al)):iH (jv l)=false:=rfl
end
end Go.Pv
namespace Go.Proofs.YtlnndmgfngfeiaaGreatDoor
section
open Go Go.Pv
variable {ky:Nat}
def dx(ky:Nat):al:= .func 1000084 [aM ky]
def pd(ky:Nat)(l:List (List ah))(o:a1 (Gm×List (List ah)))(r:al)(aq:dF):Prop:=match o with
 |some (g,rest)=>r= .tuple [g.e,.bool true]/\aq=ae ky l (l.length-rest.length)
 |none=> ∃(g:Gm) (j:Nat),j<=l.length/\r= .tuple [g.e,.bool false]/\aq=ae ky l j
theorem r0{l:List (List ah)}{j:Nat}(h:j<=l.length)(g:Gm):pd ky l none (.tuple [g.e,.bool false]) (ae ky l j):=⟨g,j,h,rfl,rfl⟩
theorem zv{l:List (List ah)}{j:Nat}{g:Gm}{rest:List (List ah)}(h:l.length-rest.length=j):pd ky l (some (g,rest)) (.tuple [g.e,.bool true]) (ae ky l j):=⟨rfl,by rw[h]⟩
theorem bL.gm{l:List (List ah)}{i:Nat}{o:a1 (Gm×List (List ah))}{st:a6}{e:Exit}(j:Nat)(x:Gm)(b:Bool)(k0:e= .ret\/e= .normal)(jm:pd ky l o (.tuple [x.e,.bool b]) (ae ky l j))(ao:∀k cs,Pv.look k (ae ky l j).b=some cs->Pv.look k st.b=some cs)(cQ:∀k p,Pv.look k (ae ky l j).e=some p->Pv.look k st.e=some p)
  (h:bV st [.cell 4 true 4,.tmp 5] fun r=>r= .tuple [x.e,.bool b]):bL [.cell 4 true 4,.tmp 5] (ae ky l i) (pd ky l o) e st:=by
 refine bL.at (ae ky l j) k0 (bE _ _) (b9 _ _ _ _) ao cQ ?_;unfold bV at h⊢;split at h
 ·rename_i c b2 hr;refine⟨h.1,?_⟩;rw[h.2];exact⟨by simp[ak,aj],jm⟩
 ·exact h.elim
theorem abh(l:List (List ah))(aG:l.length<=100000){i:Nat}(h:l[i]? =some hb):bJ aQ 114 [aM ky,dx ky] (ae ky l i) (pd ky l (some (.mk 0 [] [] [],l.drop (i+1)))):=by have au:=bE (ky:=ky) l i;have aE:=(eV.1 h).1;have cW:=oZ (ky:=ky) (show i<=1000000 by omega) h;have aP:=xz h;simp only[ae]at au;simp only[hb]at cW;refine bJ.mk mixed qy xC yq Ψ au.obj fun aL bT=>?_;unfold vP;clear aL bT;simp[aM,ae];refine bc.ob (cW) (bE _ _) (by simp only[ae];exact ai) (by simp only[ae];exact ai) (by simp[ag,Pv.look,ae,aM,aj,ak]) ?_;rintro r aq ⟨rfl,rfl⟩;refine⟨b9 _ _ _ _,?_⟩;simp[aX,ae,aM];(with_reducible repeat' first|refine av ?_|simp);refine bL.gm (i+1) (.mk 0 [] [] []) true Ψ (zv aP) (by simp only[ae];exact ai) (by simp only[ae];exact ai) ?_;simp[bV,bg,bh,bf,cm,ca];exact(gQ 0 [] [] []).symm
theorem abg(l:List (List ah))(aG:l.length<=100000){i:Nat}(h:l[i]? =some hQ):bJ aQ 114 [aM ky,dx ky] (ae ky l i) (pd ky l (some (.mk 1 [] [] [],l.drop (i+1)))):=by have au:=bE (ky:=ky) l i;have aE:=(eV.1 h).1;have fc:=jY (ky:=ky) (show i<=1000000 by omega) (s:=hb) (l:=l) (i:=i) (by rw[h];decide);have cW:=oZ (ky:=ky) (show i<=1000000 by omega) h;have aP:=xz h;simp only[ae]at au;simp only[hb]at fc;simp only[hQ]at cW;refine bJ.mk mixed qy xC yq Ψ au.obj fun aL bT=>?_;unfold vP;clear aL bT;simp[aM,ae];refine bc.ob (fc) (bE _ _) (by simp only[ae];exact ai) (by simp only[ae];exact ai) (by simp[ag,Pv.look,ae,aM,aj,ak]) ?_;rintro r aq ⟨rfl,rfl⟩;refine⟨b9 _ _ _ _,?_⟩;simp[aX,ae,aM];(with_reducible repeat' first|refine av ?_|simp);refine bc.ob (cW) (bE _ _) (by simp only[ae];exact ai) (by simp only[ae];exact ai) (by simp[ag,Pv.look,ae,aM,aj,ak]) ?_;rintro r aq ⟨rfl,rfl⟩;refine⟨b9 _ _ _ _,?_⟩;simp[aX,ae,aM];(with_reducible repeat' first|refine av ?_|simp);refine bL.gm (i+1) (.mk 1 [] [] []) true Ψ (zv aP) (by simp only[ae];exact ai) (by simp only[ae];exact ai) ?_;simp[bV,bg,bh,bf,cm,ca];exact(gQ 1 [] [] []).symm
theorem IK(l:List (List ah))(aG:l.length<=100000){i:Nat}(aE:i<=l.length)(I:l[i]?≠some hb)(J:l[i]?≠some hQ)(aA:l[i]?≠some [40]):bJ aQ 114 [aM ky,dx ky] (ae ky l i) (pd ky l none):=by have au:=bE (ky:=ky) l i;have fc:=jY (ky:=ky) (show i<=1000000 by omega) I;have cE:=jY (ky:=ky) (show i<=1000000 by omega) J;have dj:=jY (ky:=ky) (show i<=1000000 by omega) aA;simp only[ae]at au;simp only[hb]at fc;simp only[hQ]at cE;refine bJ.mk mixed qy xC yq Ψ au.obj fun aL bT=>?_;unfold vP;clear aL bT;simp[aM,ae];refine bc.ob (fc) (bE _ _) (by simp only[ae];exact ai) (by simp only[ae];exact ai) (by simp[ag,Pv.look,ae,aM,aj,ak]) ?_;rintro r aq ⟨rfl,rfl⟩;refine⟨b9 _ _ _ _,?_⟩;simp[aX,ae,aM];(with_reducible repeat' first|refine av ?_|simp);refine bc.ob (cE) (bE _ _) (by simp only[ae];exact ai) (by simp only[ae];exact ai) (by simp[ag,Pv.look,ae,aM,aj,ak]) ?_;rintro r aq ⟨rfl,rfl⟩;refine⟨b9 _ _ _ _,?_⟩;simp[aX,ae,aM];(with_reducible repeat' first|refine av ?_|simp);refine bc.ob (dj) (bE _ _) (by simp only[ae];exact ai) (by simp only[ae];exact ai) (by simp[ag,Pv.look,ae,aM,aj,ak]) ?_;rintro r aq ⟨rfl,rfl⟩;refine⟨b9 _ _ _ _,?_⟩;simp[aX,ae,aM];(with_reducible repeat' first|refine av ?_|simp);refine bL.gm (i) (.mk 0 [] [] []) false Ψ (r0 aE _) (by simp only[ae];exact ai) (by simp only[ae];exact ai) ?_;simp[bV,bg,bh,bf,cm,ca];exact(gQ 0 [] [] []).symm
theorem abf(l:List (List ah))(aG:l.length<=100000){i:Nat}(h:l[i]? =some [40])(he:i+1=l.length):bJ aQ 114 [aM ky,dx ky] (ae ky l i) (pd ky l none):=by
 have cM:bJ aQ 83 [aM ky] (ae ky l (i+1)) fun r aq=>r= .bool true/\aq=ae ky l (i+1):=by rw[he];exact BA l
 have au:=bE (ky:=ky) l i;have aE:=(eV.1 h).1;have fc:=jY (ky:=ky) (show i<=1000000 by omega) (s:=hb) (l:=l) (i:=i) (by rw[h];decide);have cE:=jY (ky:=ky) (show i<=1000000 by omega) (s:=hQ) (l:=l) (i:=i) (by rw[h];decide);have dj:=oZ (ky:=ky) (show i<=1000000 by omega) h;simp only[ae]at au;simp only[hb]at fc;simp only[hQ]at cE;refine bJ.mk mixed qy xC yq Ψ au.obj fun aL bT=>?_;unfold vP;clear aL bT;simp[aM,ae];refine bc.ob (fc) (bE _ _) (by simp only[ae];exact ai) (by simp only[ae];exact ai) (by simp[ag,Pv.look,ae,aM,aj,ak]) ?_;rintro r aq ⟨rfl,rfl⟩;refine⟨b9 _ _ _ _,?_⟩;simp[aX,ae,aM];(with_reducible repeat' first|refine av ?_|simp);refine bc.ob (cE) (bE _ _) (by simp only[ae];exact ai) (by simp only[ae];exact ai) (by simp[ag,Pv.look,ae,aM,aj,ak]) ?_;rintro r aq ⟨rfl,rfl⟩;refine⟨b9 _ _ _ _,?_⟩;simp[aX,ae,aM];(with_reducible repeat' first|refine av ?_|simp);refine bc.ob (dj) (bE _ _) (by simp only[ae];exact ai) (by simp only[ae];exact ai) (by simp[ag,Pv.look,ae,aM,aj,ak]) ?_;rintro r aq ⟨rfl,rfl⟩;refine⟨b9 _ _ _ _,?_⟩;simp[aX,ae,aM];(with_reducible repeat' first|refine av ?_|simp);refine bc.ob (cM) (bE _ _) (by simp only[ae];exact ai) (by simp only[ae];exact ai) (by simp[ag,Pv.look,ae,aM,aj,ak]) ?_;rintro r aq ⟨rfl,rfl⟩;refine⟨b9 _ _ _ _,?_⟩;simp[aX,ae,aM];(with_reducible repeat' first|refine av ?_|simp);refine bL.gm (i+1) (.mk 0 [] [] []) false Ψ (r0 Ω _) (by simp only[ae];exact ai) (by simp only[ae];exact ai) ?_;simp[bV,bg,bh,bf,cm,ca];exact(gQ 0 [] [] []).symm
abbrev Vh:List (List ah×al):=pD [110,111,116] (.int .i64 10) (pD [111,114] (.int .i64 8) (pD [97,110,100] (.int .i64 7) (pD [97,98,115,101,110,116] (.int .i64 6) (pD [110,117,109,98,101,114] (.int .i64 5) (pD [115,121,109,98,111,108] (.int .i64 4) (pD [47,61] (.int .i64 3) (pD [61] (.int .i64 2) [])))))))
theorem Kn(f:aO->a1 (List al))(m:aO)(h:List ah)(hm:f m=some (jv Vh)):oN f .s (.int .i64 0) true (.gmap m) (.str h)=some (True,.tuple [.int .i64 ((mC h).getD 0),.bool (mC h).isSome]):=by
 rw[vd _ _ _ _ true h hm];have e:Vh=[(sW,.int .i64 2),(sV,.int .i64 3),(pO,.int .i64 4),(pM,.int .i64 5),(pJ,.int .i64 6),(pK,.int .i64 7),(pN,.int .i64 8),(pL,.int .i64 10)]:=rfl;rw[e];unfold mC;simp only[rn];repeat' split
 all_goals first|rfl|simp_all
def og(ky:Nat)(l:List (List ah))(k:Int)(s:List ah)(j:Nat):List T->a6
 |[]=>⟨[(0,.ptr (.obj ky) 0),(1,dx ky),(4,.ptr (.loc 0) 0),(5,.bool false),(10,.ptr (.loc 2) 0)],[(.loc 0,[.int .i64 0,.str [],.slice 4 .nil [],.slice 4 .nil []]),(.obj ky,[.slice 1 .no (cl l),.int .i64 j]),(.loc 2,[.int .i64 k,.str s,.slice 4 .nil [],.slice 4 .nil []])],[],3,[.obj ky]⟩
 |x::xs=>⟨[(0,.ptr (.obj ky) 0),(1,dx ky),(4,.ptr (.loc 0) 0),(5,.bool false),(10,.ptr (.loc 2) 0)],[(.loc 0,[.int .i64 0,.str [],.slice 4 .nil [],.slice 4 .nil []]),(.obj ky,[.slice 1 .no (cl l),.int .i64 j]),(.loc 2,[.int .i64 k,.str s,.slice 4 (.own (.loc 5)) (x.e::xs.map T.e),.slice 4 .nil []])],[(.loc 5,⟨xs.length+1,40,4,none⟩)],6,[.obj ky]⟩
theorem S8{l:List (List ah)}{i p:Nat}{t:T}{rest:List (List ah)}(h:bJ aQ 84 [aM ky] (ae ky l i) (ue ky l (some (t,rest))))(bn:l.length-rest.length=p):bJ aQ 84 [aM ky] (ae ky l i) fun r aq=>r= .tuple [t.e,.bool true]/\aq=ae ky l p:=h.mono fun r aq bA=>by rw[<-bn];exact bA
theorem ael(l:List (List ah))(aG:l.length<=100000)(hw:∀w∈l,w≠[]/\w.length<=bs){k:Int}{s:List ah}(I:1<k)(dW:(k==7)=false)(fZ:(k==8)=false)(fh:(k==10)=false){R:a1 (Gm×List (List ah))}{i0:Nat}(st:a6)(j n:Nat)(aD:j<=l.length)(aJ:l.length-j+1<=n)(bH:eh er eY n k s [] [] (l.drop j)=R)(CD:mm [.obj ky] st (og ky l k s j [])):
  cL aQ [.obj ky] y8 (bL [.cell 4 true 4,.tmp 5] (ae ky l i0) (pd ky l R)) st:=by
 have p6:jU k=false:=by simp[jU,dW,fZ,fh]
 unfold y8;simp;refine gf (fun x:List T×Nat×Nat=>og ky l k s x.2.1 x.1) (fun x=>l.length-x.2.1) (fun x=>x.2.1<=l.length/\l.length-x.2.1+1<=x.2.2/\eh er eY x.2.2 k s x.1 [] (l.drop x.2.1)=R/\x.1.length<=x.2.1) ([],j,n) CD ⟨aD,aJ,bH,o3 _⟩ ?_;clear CD bH aJ aD st;rintro⟨acc,j,n⟩ ⟨aD,aJ,bH,mA⟩ _;simp only at aD aJ bH mA;subst bH;obtain⟨n,rfl⟩:∃m,n=m+1:=⟨n-1,Ω⟩;have sc:j<=1000000:=Ω
 rcases jJ aD with rfl|fJ
 ·have ec:=jY (ky:=ky) (l:=l) (i:=l.length) (s:=[41]) sc Ψ;have ke:=EJ (ky:=ky) l aG hw l.length (c7 _);rw[kG]at ke⊢;rw[show er []=none by simp[er,rd]]at ke;rw[show eh er eY (n+1) k s acc [] []=none by simp[eh]];cases acc with
  |nil=>simp[og];refine bc.ob (ec) (bE _ _) (by simp only[ae];exact ai) (by simp only[ae];exact ai) (by simp[ag,Pv.look,ae,aM,aj,ak]) ?_;rintro r aq ⟨rfl,rfl⟩;refine⟨b9 _ _ _ _,?_⟩;simp[aX,ae,aM];(with_reducible repeat' first|refine av ?_|simp[dW,fZ,fh,dx,aM]);refine bc.ob (ke) (bE _ _) (by simp only[ae];exact ai) (by simp only[ae];exact ai) (by simp[ag,Pv.look,ae,aM,aj,ak]) ?_;rintro r aq ⟨x,q,bA,rfl,rfl⟩;refine⟨b9 _ _ _ _,?_⟩;simp[aX,ae,aM];(with_reducible repeat' first|refine av ?_|simp);refine bL.gm (q) (.mk 0 [] [] []) false Ψ (r0 bA _) (by simp only[ae];exact ai) (by simp only[ae];exact ai) ?_;simp[bV,bg,bh,bf,cm,ca];exact(gQ 0 [] [] []).symm
  |cons a eX=>simp[og];refine bc.ob (ec) (bE _ _) (by simp only[ae];exact ai) (by simp only[ae];exact ai) (by simp[ag,Pv.look,ae,aM,aj,ak]) ?_;rintro r aq ⟨rfl,rfl⟩;refine⟨b9 _ _ _ _,?_⟩;simp[aX,ae,aM];(with_reducible repeat' first|refine av ?_|simp[dW,fZ,fh,dx,aM]);refine bc.ob (ke) (bE _ _) (by simp only[ae];exact ai) (by simp only[ae];exact ai) (by simp[ag,Pv.look,ae,aM,aj,ak]) ?_;rintro r aq ⟨x,q,bA,rfl,rfl⟩;refine⟨b9 _ _ _ _,?_⟩;simp[aX,ae,aM];(with_reducible repeat' first|refine av ?_|simp);refine bL.gm (q) (.mk 0 [] [] []) false Ψ (r0 bA _) (by simp only[ae];exact ai) (by simp only[ae];exact ai) ?_;simp[bV,bg,bh,bf,cm,ca];exact(gQ 0 [] [] []).symm
 obtain⟨v,aK⟩:∃v,l[j]? =some v:=⟨_,cS fJ⟩;by_cases e1:v=[41]
 ·subst e1;have ec:=oZ (ky:=ky) sc aK;have aP:=xz aK;rw[fH aK,show eh er eY (n+1) k s acc [] ([41]::l.drop (j+1))=some (.mk k s (acc.map T.tm) [],l.drop (j+1)) by simp[eh,I]];cases acc with
  |nil=>simp[og];refine bc.ob (ec) (bE _ _) (by simp only[ae];exact ai) (by simp only[ae];exact ai) (by simp[ag,Pv.look,ae,aM,aj,ak]) ?_;rintro r aq ⟨rfl,rfl⟩;refine⟨b9 _ _ _ _,?_⟩;simp[aX,ae,aM];(with_reducible repeat' first|refine av ?_|simp);refine bL.gm (j+1) (.mk k s [] []) true Ψ (zv aP) (by simp only[ae];exact ai) (by simp only[ae];exact ai) ?_;simp[bV,bg,bh,bf,cm,ca];exact(gQ k s [] []).symm
  |cons a eX=>simp[og];refine bc.ob (ec) (bE _ _) (by simp only[ae];exact ai) (by simp only[ae];exact ai) (by simp[ag,Pv.look,ae,aM,aj,ak]) ?_;rintro r aq ⟨rfl,rfl⟩;refine⟨b9 _ _ _ _,?_⟩;simp[aX,ae,aM];(with_reducible repeat' first|refine av ?_|simp);refine bL.gm (j+1) (.mk k s (a.tm::eX.map T.tm) []) true Ψ (zv aP) (by simp only[ae];exact ai) (by simp only[ae];exact ai) ?_;simp[bV,bg,bh,bf,cm,ca];exact(gQ k s (a::eX) []).symm
 have ec:=jY (ky:=ky) (l:=l) (i:=j) sc (show l[j]?≠some [41] by rw[aK];simpa using e1);have ke:=EJ (ky:=ky) l aG hw j aD;rw[fH aK]at ke⊢;cases eb:er (v::l.drop (j+1))with
 |none=>
  rw[eb]at ke;rw[show eh er eY (n+1) k s acc [] (v::l.drop (j+1))=none by simp[eh,e1,p6,eb]];cases acc with
  |nil=>simp[og];refine bc.ob (ec) (bE _ _) (by simp only[ae];exact ai) (by simp only[ae];exact ai) (by simp[ag,Pv.look,ae,aM,aj,ak]) ?_;rintro r aq ⟨rfl,rfl⟩;refine⟨b9 _ _ _ _,?_⟩;simp[aX,ae,aM];(with_reducible repeat' first|refine av ?_|simp[dW,fZ,fh,dx,aM]);refine bc.ob (ke) (bE _ _) (by simp only[ae];exact ai) (by simp only[ae];exact ai) (by simp[ag,Pv.look,ae,aM,aj,ak]) ?_;rintro r aq ⟨x,q,bA,rfl,rfl⟩;refine⟨b9 _ _ _ _,?_⟩;simp[aX,ae,aM];(with_reducible repeat' first|refine av ?_|simp);refine bL.gm (q) (.mk 0 [] [] []) false Ψ (r0 bA _) (by simp only[ae];exact ai) (by simp only[ae];exact ai) ?_;simp[bV,bg,bh,bf,cm,ca];exact(gQ 0 [] [] []).symm
  |cons a eX=>simp[og];refine bc.ob (ec) (bE _ _) (by simp only[ae];exact ai) (by simp only[ae];exact ai) (by simp[ag,Pv.look,ae,aM,aj,ak]) ?_;rintro r aq ⟨rfl,rfl⟩;refine⟨b9 _ _ _ _,?_⟩;simp[aX,ae,aM];(with_reducible repeat' first|refine av ?_|simp[dW,fZ,fh,dx,aM]);refine bc.ob (ke) (bE _ _) (by simp only[ae];exact ai) (by simp only[ae];exact ai) (by simp[ag,Pv.look,ae,aM,aj,ak]) ?_;rintro r aq ⟨x,q,bA,rfl,rfl⟩;refine⟨b9 _ _ _ _,?_⟩;simp[aX,ae,aM];(with_reducible repeat' first|refine av ?_|simp);refine bL.gm (q) (.mk 0 [] [] []) false Ψ (r0 bA _) (by simp only[ae];exact ai) (by simp only[ae];exact ai) ?_;simp[bV,bg,bh,bf,cm,ca];exact(gQ 0 [] [] []).symm
 |some tr=>
  obtain⟨t,rest⟩:=tr;rw[eb]at ke;obtain⟨wu,wv⟩:=G3 _ _ _ eb;rw[<-fH aK]at wu wv;obtain⟨gK,nT⟩:=yD wu;obtain⟨p,bn⟩:∃p,p=l.length-rest.length:=⟨_,rfl⟩;rw[<-bn]at gK;have u2:=S8 ke bn.symm;have fx:p<=l.length:=Ω
  have Ri:j<p:=by simp at wv;omega
  rw[show eh er eY (n+1) k s acc [] (v::l.drop (j+1))=eh er eY n k s (acc++[t]) [] rest by simp[eh,e1,p6,eb]];have gg:acc.length+1<=bs:=by unfold bs;omega
  cases acc with
  |nil=>simp[og];refine bc.ob (ec) (bE _ _) (by simp only[ae];exact ai) (by simp only[ae];exact ai) (by simp[ag,Pv.look,ae,aM,aj,ak]) ?_;rintro r aq ⟨rfl,rfl⟩;refine⟨b9 _ _ _ _,?_⟩;simp[aX,ae,aM];(with_reducible repeat' first|refine av ?_|simp[dW,fZ,fh,dx,aM]);refine bc.ob (u2) (bE _ _) (by simp only[ae];exact ai) (by simp only[ae];exact ai) (by simp[ag,Pv.look,ae,aM,aj,ak]) ?_;rintro r aq ⟨rfl,rfl⟩;refine⟨b9 _ _ _ _,?_⟩;simp[aX,ae,aM];(with_reducible repeat' first|refine av ?_|simp[gg]);refine bU.whl ([t],p,n) (by simp;omega) ⟨fx,by simp;omega,by simp[<-gK],by simp;omega⟩ ?_;simp[og];exact⟨by simp[fresh,aj,ak,bj,ag,Pv.look,bC],cg (by simp[fresh,aj,ak,bj,ag,Pv.look,bC]),ch (by simp[fresh,aj,ak,cc,ag,Pv.look,bC]),Ψ⟩
  |cons a eX=>simp only[ga]at gg;simp[og];refine bc.ob (ec) (bE _ _) (by simp only[ae];exact ai) (by simp only[ae];exact ai) (by simp[ag,Pv.look,ae,aM,aj,ak]) ?_;rintro r aq ⟨rfl,rfl⟩;refine⟨b9 _ _ _ _,?_⟩;simp[aX,ae,aM];(with_reducible repeat' first|refine av ?_|simp[dW,fZ,fh,dx,aM]);refine bc.ob (u2) (bE _ _) (by simp only[ae];exact ai) (by simp only[ae];exact ai) (by simp[ag,Pv.look,ae,aM,aj,ak]) ?_;rintro r aq ⟨rfl,rfl⟩;refine⟨b9 _ _ _ _,?_⟩;simp[aX,ae,aM];(with_reducible repeat' first|refine av ?_|simp[gg]);refine bU.whl (a::eX++[t],p,n) (by simp;omega) ⟨fx,by simp;omega,by simp[<-gK],by simp at mA⊢;omega⟩ ?_;simp[og];exact⟨by simp[fresh,aj,ak,bj,ag,Pv.look,bC],cg (by simp[fresh,aj,ak,bj,ag,Pv.look,bC]),ch (by simp[fresh,aj,ak,cc,ag,Pv.look,bC]),Ψ⟩
end
section
open Go Go.Pv
variable {ky:Nat}
def qJ(ky:Nat)(l:List (List ah))(k:Int)(s:List ah)(j:Nat):List Gm->a6
 |[]=>⟨[(0,.ptr (.obj ky) 0),(1,dx ky),(4,.ptr (.loc 0) 0),(5,.bool false),(10,.ptr (.loc 2) 0)],[(.loc 0,[.int .i64 0,.str [],.slice 4 .nil [],.slice 4 .nil []]),(.obj ky,[.slice 1 .no (cl l),.int .i64 j]),(.loc 2,[.int .i64 k,.str s,.slice 4 .nil [],.slice 4 .nil []])],[],3,[.obj ky]⟩
 |x::xs=>⟨[(0,.ptr (.obj ky) 0),(1,dx ky),(4,.ptr (.loc 0) 0),(5,.bool false),(10,.ptr (.loc 2) 0)],[(.loc 0,[.int .i64 0,.str [],.slice 4 .nil [],.slice 4 .nil []]),(.obj ky,[.slice 1 .no (cl l),.int .i64 j]),(.loc 2,[.int .i64 k,.str s,.slice 4 .nil [],.slice 4 (.own (.loc 5)) (x.e::xs.map Gm.e)])],[(.loc 5,⟨xs.length+1,65,4,none⟩)],6,[.obj ky]⟩
theorem IJ{l:List (List ah)}{i p:Nat}{g:Gm}{rest:List (List ah)}(h:bJ aQ 114 [aM ky,dx ky] (ae ky l i) (pd ky l (some (g,rest))))(bn:l.length-rest.length=p):bJ aQ 114 [aM ky,dx ky] (ae ky l i) fun r aq=>r= .tuple [g.e,.bool true]/\aq=ae ky l p:=h.mono fun r aq bA=>by rw[<-bn];exact bA
theorem aek(l:List (List ah))(aG:l.length<=100000){k:Int}(aa:jU k=true){i0 i1:Nat}(bp:∀j n:Nat,i1<=j->j<=l.length->2*(l.length-j)+1<=n->bJ aQ 114 [aM ky,dx ky] (ae ky l j) (pd ky l (ed er eY n (l.drop j)))){R:a1 (Gm×List (List ah))}(st:a6)(j n:Nat)(nf:i1<=j)(aD:j<=l.length)(aJ:2*(l.length-j)+2<=n)(bH:eh er eY n k [] [] [] (l.drop j)=R)(CD:mm [.obj ky] st (qJ ky l k [] j [])):
  cL aQ [.obj ky] y8 (bL [.cell 4 true 4,.tmp 5] (ae ky l i0) (pd ky l R)) st:=by
 have I:1<k:=by simp[jU]at aa;omega
 have kf:k=7\/k=8\/k=10:=by simp[jU]at aa;omega
 unfold y8;simp;refine gf (fun x:List Gm×Nat×Nat=>qJ ky l k [] x.2.1 x.1) (fun x=>l.length-x.2.1) (fun x=>i1<=x.2.1/\x.2.1<=l.length/\2*(l.length-x.2.1)+2<=x.2.2/\eh er eY x.2.2 k [] [] x.1 (l.drop x.2.1)=R/\x.1.length<=x.2.1) ([],j,n) CD ⟨nf,aD,aJ,bH,o3 _⟩ ?_;clear CD bH aJ aD nf st;rintro⟨acc,j,n⟩ ⟨nf,aD,aJ,bH,mA⟩ _;simp only at nf aD aJ bH mA;subst bH;obtain⟨n,rfl⟩:∃m,n=m+1:=⟨n-1,Ω⟩;have sc:j<=1000000:=Ω
 have ke:=bp j n nf aD Ω;clear bp;rcases jJ aD with rfl|fJ
 ·have ec:=jY (ky:=ky) (l:=l) (i:=l.length) (s:=[41]) sc Ψ;rw[kG]at ke⊢;rw[show ed er eY n []=none by cases n<;>simp[ed]]at ke;rw[show eh er eY (n+1) k [] [] acc []=none by simp[eh]];rcases kf with rfl|rfl|rfl;all_goals cases acc with
  |nil=>simp[qJ];refine bc.ob (ec) (bE _ _) (by simp only[ae];exact ai) (by simp only[ae];exact ai) (by simp[ag,Pv.look,ae,aM,aj,ak]) ?_;rintro r aq ⟨rfl,rfl⟩;refine⟨b9 _ _ _ _,?_⟩;simp[aX,ae,aM];(with_reducible repeat' first|refine av ?_|simp);refine bc.ob (ke) (bE _ _) (by simp only[ae];exact ai) (by simp only[ae];exact ai) (by simp[ag,Pv.look,ae,aM,dx,aj,ak]) ?_;rintro r aq ⟨x,q,bA,rfl,rfl⟩;refine⟨b9 _ _ _ _,?_⟩;simp[aX,ae,aM];(with_reducible repeat' first|refine av ?_|simp);refine bL.gm (q) (.mk 0 [] [] []) false Ψ (r0 bA _) (by simp only[ae];exact ai) (by simp only[ae];exact ai) ?_;simp[bV,bg,bh,bf,cm,ca];exact(gQ 0 [] [] []).symm
  |cons a eX=>simp[qJ];refine bc.ob (ec) (bE _ _) (by simp only[ae];exact ai) (by simp only[ae];exact ai) (by simp[ag,Pv.look,ae,aM,aj,ak]) ?_;rintro r aq ⟨rfl,rfl⟩;refine⟨b9 _ _ _ _,?_⟩;simp[aX,ae,aM];(with_reducible repeat' first|refine av ?_|simp);refine bc.ob (ke) (bE _ _) (by simp only[ae];exact ai) (by simp only[ae];exact ai) (by simp[ag,Pv.look,ae,aM,dx,aj,ak]) ?_;rintro r aq ⟨x,q,bA,rfl,rfl⟩;refine⟨b9 _ _ _ _,?_⟩;simp[aX,ae,aM];(with_reducible repeat' first|refine av ?_|simp);refine bL.gm (q) (.mk 0 [] [] []) false Ψ (r0 bA _) (by simp only[ae];exact ai) (by simp only[ae];exact ai) ?_;simp[bV,bg,bh,bf,cm,ca];exact(gQ 0 [] [] []).symm
 obtain⟨v,aK⟩:∃v,l[j]? =some v:=⟨_,cS fJ⟩;by_cases e1:v=[41]
 ·subst e1;have ec:=oZ (ky:=ky) sc aK;have aP:=xz aK;rw[fH aK,show eh er eY (n+1) k [] [] acc ([41]::l.drop (j+1))=some (.mk k [] [] acc,l.drop (j+1)) by simp[eh,I]];cases acc with
  |nil=>simp[qJ];refine bc.ob (ec) (bE _ _) (by simp only[ae];exact ai) (by simp only[ae];exact ai) (by simp[ag,Pv.look,ae,aM,aj,ak]) ?_;rintro r aq ⟨rfl,rfl⟩;refine⟨b9 _ _ _ _,?_⟩;simp[aX,ae,aM];(with_reducible repeat' first|refine av ?_|simp);refine bL.gm (j+1) (.mk k [] [] []) true Ψ (zv aP) (by simp only[ae];exact ai) (by simp only[ae];exact ai) ?_;simp[bV,bg,bh,bf,cm,ca];exact(gQ k [] [] []).symm
  |cons a eX=>simp[qJ];refine bc.ob (ec) (bE _ _) (by simp only[ae];exact ai) (by simp only[ae];exact ai) (by simp[ag,Pv.look,ae,aM,aj,ak]) ?_;rintro r aq ⟨rfl,rfl⟩;refine⟨b9 _ _ _ _,?_⟩;simp[aX,ae,aM];(with_reducible repeat' first|refine av ?_|simp);refine bL.gm (j+1) (.mk k [] [] (a::eX)) true Ψ (zv aP) (by simp only[ae];exact ai) (by simp only[ae];exact ai) ?_;simp[bV,bg,bh,bf,cm,ca];exact(gQ k [] [] (a::eX)).symm
 have ec:=jY (ky:=ky) (l:=l) (i:=j) sc (show l[j]?≠some [41] by rw[aK];simpa using e1);rw[fH aK]at ke⊢;cases eb:ed er eY n (v::l.drop (j+1))with
 |none=>
  rw[eb]at ke;rw[show eh er eY (n+1) k [] [] acc (v::l.drop (j+1))=none by simp[eh,e1,aa,eb]];clear aa;rcases kf with rfl|rfl|rfl;all_goals cases acc with
  |nil=>simp[qJ];refine bc.ob (ec) (bE _ _) (by simp only[ae];exact ai) (by simp only[ae];exact ai) (by simp[ag,Pv.look,ae,aM,aj,ak]) ?_;rintro r aq ⟨rfl,rfl⟩;refine⟨b9 _ _ _ _,?_⟩;simp[aX,ae,aM];(with_reducible repeat' first|refine av ?_|simp);refine bc.ob (ke) (bE _ _) (by simp only[ae];exact ai) (by simp only[ae];exact ai) (by simp[ag,Pv.look,ae,aM,dx,aj,ak]) ?_;rintro r aq ⟨x,q,bA,rfl,rfl⟩;refine⟨b9 _ _ _ _,?_⟩;simp[aX,ae,aM];(with_reducible repeat' first|refine av ?_|simp);refine bL.gm (q) (.mk 0 [] [] []) false Ψ (r0 bA _) (by simp only[ae];exact ai) (by simp only[ae];exact ai) ?_;simp[bV,bg,bh,bf,cm,ca];exact(gQ 0 [] [] []).symm
  |cons a eX=>simp[qJ];refine bc.ob (ec) (bE _ _) (by simp only[ae];exact ai) (by simp only[ae];exact ai) (by simp[ag,Pv.look,ae,aM,aj,ak]) ?_;rintro r aq ⟨rfl,rfl⟩;refine⟨b9 _ _ _ _,?_⟩;simp[aX,ae,aM];(with_reducible repeat' first|refine av ?_|simp);refine bc.ob (ke) (bE _ _) (by simp only[ae];exact ai) (by simp only[ae];exact ai) (by simp[ag,Pv.look,ae,aM,dx,aj,ak]) ?_;rintro r aq ⟨x,q,bA,rfl,rfl⟩;refine⟨b9 _ _ _ _,?_⟩;simp[aX,ae,aM];(with_reducible repeat' first|refine av ?_|simp);refine bL.gm (q) (.mk 0 [] [] []) false Ψ (r0 bA _) (by simp only[ae];exact ai) (by simp only[ae];exact ai) ?_;simp[bV,bg,bh,bf,cm,ca];exact(gQ 0 [] [] []).symm
 |some tr=>
  obtain⟨g,rest⟩:=tr;rw[eb]at ke;obtain⟨wu,wv⟩:=yx G3 _ _ _ _ eb;rw[<-fH aK]at wu wv;obtain⟨gK,nT⟩:=yD wu;obtain⟨p,bn⟩:∃p,p=l.length-rest.length:=⟨_,rfl⟩;rw[<-bn]at gK;have u2:=IJ ke bn.symm;have fx:p<=l.length:=Ω
  have Ri:j<p:=by simp at wv;omega
  rw[show eh er eY (n+1) k [] [] acc (v::l.drop (j+1))=eh er eY n k [] [] (acc++[g]) rest by simp[eh,e1,aa,eb]];have gg:acc.length+1<=bs:=by unfold bs;omega
  clear aa;rcases kf with rfl|rfl|rfl;all_goals cases acc with
  |nil=>simp[qJ];refine bc.ob (ec) (bE _ _) (by simp only[ae];exact ai) (by simp only[ae];exact ai) (by simp[ag,Pv.look,ae,aM,aj,ak]) ?_;rintro r aq ⟨rfl,rfl⟩;refine⟨b9 _ _ _ _,?_⟩;simp[aX,ae,aM];(with_reducible repeat' first|refine av ?_|simp);refine bc.ob (u2) (bE _ _) (by simp only[ae];exact ai) (by simp only[ae];exact ai) (by simp[ag,Pv.look,ae,aM,dx,aj,ak]) ?_;rintro r aq ⟨rfl,rfl⟩;refine⟨b9 _ _ _ _,?_⟩;simp[aX,ae,aM];(with_reducible repeat' first|refine av ?_|simp[gg]);refine bU.whl ([g],p,n) (by simp;omega) ⟨by simp;omega,fx,by simp;omega,by simp[<-gK],by simp;omega⟩ ?_;simp[qJ];exact⟨by simp[fresh,aj,ak,bj,ag,Pv.look,bC,dx,aM],cg (by simp[fresh,aj,ak,bj,ag,Pv.look,bC,dx,aM]),ch (by simp[fresh,aj,ak,cc,ag,Pv.look,bC,dx,aM]),Ψ⟩
  |cons a eX=>simp only[ga]at gg;simp[qJ];refine bc.ob (ec) (bE _ _) (by simp only[ae];exact ai) (by simp only[ae];exact ai) (by simp[ag,Pv.look,ae,aM,aj,ak]) ?_;rintro r aq ⟨rfl,rfl⟩;refine⟨b9 _ _ _ _,?_⟩;simp[aX,ae,aM];(with_reducible repeat' first|refine av ?_|simp);refine bc.ob (u2) (bE _ _) (by simp only[ae];exact ai) (by simp only[ae];exact ai) (by simp[ag,Pv.look,ae,aM,dx,aj,ak]) ?_;rintro r aq ⟨rfl,rfl⟩;refine⟨b9 _ _ _ _,?_⟩;simp[aX,ae,aM];(with_reducible repeat' first|refine av ?_|simp[gg]);refine bU.whl (a::eX++[g],p,n) (by simp;omega) ⟨by simp;omega,fx,by simp;omega,by simp[<-gK],by simp at mA⊢;omega⟩ ?_;simp[qJ];exact⟨by simp[fresh,aj,ak,bj,ag,Pv.look,bC,dx,aM],cg (by simp[fresh,aj,ak,bj,ag,Pv.look,bC,dx,aM]),ch (by simp[fresh,aj,ak,cc,ag,Pv.look,bC,dx,aM]),Ψ⟩
theorem abX{w:List ah}{k:Int}{s:List ah}(h:eY w=some (k,s)):1<k/\(jU k=true->s=[])/\(jU k=false->(k==7)=false/\(k==8)=false/\(k==10)=false):=by
 unfold eY at h;cases aa:mC w with
 |some bz=>
  rw[aa]at h;simp only[dH,gz]at h;obtain⟨rfl,rfl⟩:=h;unfold mC at aa;repeat' split at aa
  all_goals first|cases aa|skip
  all_goals simp[jU]
 |none=>
  rw[aa]at h;simp only at h;split at h
  ·cases h;simp[jU]
  ·cases h
theorem Qa(l:List (List ah))(aG:l.length<=100000)(hw:∀w∈l,w≠[]/\w.length<=bs):∀m i n:Nat,l.length-i<=m->i<=l.length->2*(l.length-i)+1<=n->bJ aQ 114 [aM ky,dx ky] (ae ky l i) (pd ky l (ed er eY n (l.drop i))):=by
 intro m;induction m with
 |zero=>
  intro i n hm aE aJ;obtain rfl:i=l.length:=Ω
  rw[kG,show ed er eY n []=none by cases n<;>simp[ed]];exact IK l aG (c7 _) Ψ Ψ Ψ
 |succ m bp=>
 intro i n hm aE aJ;obtain⟨n,rfl⟩:∃m,n=m+1:=⟨n-1,Ω⟩;rcases jJ aE with rfl|h2
 ·rw[kG,show ed er eY (n+1) []=none by simp[ed]];exact IK l aG (c7 _) Ψ Ψ Ψ
 obtain⟨v,h⟩:∃v,l[i]? =some v:=⟨_,cS h2⟩;rw[fH h];by_cases hY:v=hb
 ·subst hY;rw[show ed er eY (n+1) (hb::l.drop (i+1))=some (.mk 0 [] [] [],l.drop (i+1)) by simp[ed]];exact abh l aG h
 by_cases fw:v=hQ
 ·subst fw;rw[show ed er eY (n+1) (hQ::l.drop (i+1))=some (.mk 1 [] [] [],l.drop (i+1)) by simp[ed,hY]];exact abg l aG h
 by_cases aS:v=[40];rotate_left
 ·rw[show ed er eY (n+1) (v::l.drop (i+1))=none by simp[ed,hY,fw,aS]];exact IK l aG aE (by rw[h];simpa using hY) (by rw[h];simpa using fw) (by rw[h];simpa using aS)
 subst aS;clear hY fw;have Ya:∀r,ed er eY (n+1) ([40]::r)=(match r with
   |[]=>none
   |h::dh=>match eY h with
    |some (k,s)=>eh er eY n k s [] [] dh
    |none=>none):=fun r=>by
  rcases r with _|⟨h,r⟩
  ·simp[ed,hb,hQ]
  ·simp[ed,hb,hQ];split<;>simp_all
 rw[Ya];rcases jJ (show i+1<=l.length by omega)with he|E7
 ·rw[he,kG];exact abf l aG h he
 obtain⟨w,bX⟩:∃w,l[i+1]? =some w:=⟨_,cS E7⟩;rw[fH bX];simp only;have cU:=Md w;cases aP:eY w with
 |none=>
  simp only;obtain⟨aa,hr⟩:mC w=none/\eS w=false:=by
   unfold eY at aP;cases aa:mC w with
   |some k=>rw[aa]at aP;simp at aP
   |none=>rw[aa]at aP;refine⟨rfl,?_⟩;cases hr:eS w with
    |true=>simp[hr]at aP
    |false=>rfl
  rw[hr]at cU;clear bp;have au:=bE (ky:=ky) l i;have aE:=(eV.1 h).1;have fc:=jY (ky:=ky) (show i<=1000000 by omega) (s:=hb) (l:=l) (i:=i) (by rw[h];decide);have cE:=jY (ky:=ky) (show i<=1000000 by omega) (s:=hQ) (l:=l) (i:=i) (by rw[h];decide);have dj:=oZ (ky:=ky) (show i<=1000000 by omega) h;have cM:=pb (ky:=ky) (eV.1 bX).1;have lH:=nZ (ky:=ky) bX;have cb:aZ ((i:Int)+1+1):=by unfold aZ;omega
  simp only[ae]at au;simp only[hb]at fc;simp only[hQ]at cE;refine bJ.mk mixed qy xC yq Ψ au.obj fun aL bT=>?_;unfold vP;clear aL bT;simp[aM,ae];refine bc.ob (fc) (bE _ _) (by simp only[ae];exact ai) (by simp only[ae];exact ai) (by simp[ag,Pv.look,ae,aM,aj,ak]) ?_;rintro r aq ⟨rfl,rfl⟩;refine⟨b9 _ _ _ _,?_⟩;simp[aX,ae,aM];(with_reducible repeat' first|refine av ?_|simp);refine bc.ob (cE) (bE _ _) (by simp only[ae];exact ai) (by simp only[ae];exact ai) (by simp[ag,Pv.look,ae,aM,aj,ak]) ?_;rintro r aq ⟨rfl,rfl⟩;refine⟨b9 _ _ _ _,?_⟩;simp[aX,ae,aM];(with_reducible repeat' first|refine av ?_|simp);refine bc.ob (dj) (bE _ _) (by simp only[ae];exact ai) (by simp only[ae];exact ai) (by simp[ag,Pv.look,ae,aM,aj,ak]) ?_;rintro r aq ⟨rfl,rfl⟩;refine⟨b9 _ _ _ _,?_⟩;simp[aX,ae,aM];(with_reducible repeat' first|refine av ?_|simp);refine bc.ob (cM) (bE _ _) (by simp only[ae];exact ai) (by simp only[ae];exact ai) (by simp[ag,Pv.look,ae,aM,aj,ak]) ?_;rintro r aq ⟨rfl,rfl⟩;refine⟨b9 _ _ _ _,?_⟩;simp[aX,ae,aM];(with_reducible repeat' first|refine av ?_|simp);refine bc.ob (lH) (bE _ _) (by simp only[ae];exact ai) (by simp only[ae];exact ai) (by simp[ag,Pv.look,ae,aM,aj,ak]) ?_;rintro r aq ⟨rfl,rfl⟩;refine⟨b9 _ _ _ _,?_⟩;simp[aX,ae,aM];(with_reducible repeat' first|refine av ?_|refine ba cU ?_|refine bb cU ?_|simp[cb,Kn,aa,-vd]);refine bL.gm (i+1+1) (.mk 0 [] [] []) false Ψ (r0 Ω _) (by simp only[ae];exact ai) (by simp only[ae];exact ai) ?_;simp[bV,bg,bh,bf,cm,ca];exact(gQ 0 [] [] []).symm
 |some x=>
  obtain⟨k,s⟩:=x;simp only;obtain⟨I,J,aA⟩:=abX aP;have done:∀st,mm [.obj ky] st (og ky l k s (i+2) [])->cL aQ [.obj ky] y8 (bL [.cell 4 true 4,.tmp 5] (ae ky l i) (pd ky l (eh er eY n k s [] [] (l.drop (i+1+1))))) st:=by
   intro st eA;cases uV:jU k with
   |false=>obtain⟨dW,fZ,fh⟩:=aA uV;exact ael l aG hw I dW fZ fh st (i+2) n Ω Ω rfl eA
   |true=>obtain rfl:=J uV;exact aek l aG uV (i1:=i+2) (fun j n k1 ig Ca=>bp j n Ω ig Ca) st (i+2) n (c7 _) Ω Ω rfl eA
  clear bp I J aA;cases aa:mC w with
  |some bz=>
   obtain⟨rfl,rfl⟩:bz=k/\([]:List ah)=s:=by unfold eY at aP;rw[aa]at aP;simpa using aP
   have au:=bE (ky:=ky) l i;have aE:=(eV.1 h).1;have fc:=jY (ky:=ky) (show i<=1000000 by omega) (s:=hb) (l:=l) (i:=i) (by rw[h];decide);have cE:=jY (ky:=ky) (show i<=1000000 by omega) (s:=hQ) (l:=l) (i:=i) (by rw[h];decide);have dj:=oZ (ky:=ky) (show i<=1000000 by omega) h;have cM:=pb (ky:=ky) (eV.1 bX).1;have lH:=nZ (ky:=ky) bX;have cb:aZ ((i:Int)+1+1):=by unfold aZ;omega
   simp only[ae]at au;simp only[hb]at fc;simp only[hQ]at cE;refine bJ.mk mixed qy xC yq Ψ au.obj fun aL bT=>?_;unfold vP;clear aL bT;simp[aM,ae];refine bc.ob (fc) (bE _ _) (by simp only[ae];exact ai) (by simp only[ae];exact ai) (by simp[ag,Pv.look,ae,aM,aj,ak]) ?_;rintro r aq ⟨rfl,rfl⟩;refine⟨b9 _ _ _ _,?_⟩;simp[aX,ae,aM];(with_reducible repeat' first|refine av ?_|simp);refine bc.ob (cE) (bE _ _) (by simp only[ae];exact ai) (by simp only[ae];exact ai) (by simp[ag,Pv.look,ae,aM,aj,ak]) ?_;rintro r aq ⟨rfl,rfl⟩;refine⟨b9 _ _ _ _,?_⟩;simp[aX,ae,aM];(with_reducible repeat' first|refine av ?_|simp);refine bc.ob (dj) (bE _ _) (by simp only[ae];exact ai) (by simp only[ae];exact ai) (by simp[ag,Pv.look,ae,aM,aj,ak]) ?_;rintro r aq ⟨rfl,rfl⟩;refine⟨b9 _ _ _ _,?_⟩;simp[aX,ae,aM];(with_reducible repeat' first|refine av ?_|simp);refine bc.ob (cM) (bE _ _) (by simp only[ae];exact ai) (by simp only[ae];exact ai) (by simp[ag,Pv.look,ae,aM,aj,ak]) ?_;rintro r aq ⟨rfl,rfl⟩;refine⟨b9 _ _ _ _,?_⟩;simp[aX,ae,aM];(with_reducible repeat' first|refine av ?_|simp);refine bc.ob (lH) (bE _ _) (by simp only[ae];exact ai) (by simp only[ae];exact ai) (by simp[ag,Pv.look,ae,aM,aj,ak]) ?_;rintro r aq ⟨rfl,rfl⟩;refine⟨b9 _ _ _ _,?_⟩;simp[aX,ae,aM];(with_reducible repeat' first|refine av ?_|simp[cb,Kn,aa,-vd]);refine done _ ?_;simp[og,show(i:Int)+2=i+1+1 by omega];exact⟨by simp[fresh,aj,ak,bj,ag,Pv.look,jv,lh,dx,aM],cg (by simp[fresh,aj,ak,bj,ag,Pv.look,jv,lh,dx,aM]),ch (by simp[fresh,aj,ak,cc,ag,Pv.look,jv,lh,dx,aM]),Ψ⟩
  |none=>
   obtain⟨hr,rfl,rfl⟩:eS w=true/\k=9/\s=w:=by
    unfold eY at aP;rw[aa]at aP;cases hr:eS w with
    |false=>simp[hr]at aP
    |true=>simp[hr]at aP;exact⟨rfl,aP.1.symm,aP.2.symm⟩
   rw[hr]at cU;have au:=bE (ky:=ky) l i;have aE:=(eV.1 h).1;have fc:=jY (ky:=ky) (show i<=1000000 by omega) (s:=hb) (l:=l) (i:=i) (by rw[h];decide);have cE:=jY (ky:=ky) (show i<=1000000 by omega) (s:=hQ) (l:=l) (i:=i) (by rw[h];decide);have dj:=oZ (ky:=ky) (show i<=1000000 by omega) h;have cM:=pb (ky:=ky) (eV.1 bX).1;have lH:=nZ (ky:=ky) bX;have cb:aZ ((i:Int)+1+1):=by unfold aZ;omega
   simp only[ae]at au;simp only[hb]at fc;simp only[hQ]at cE;refine bJ.mk mixed qy xC yq Ψ au.obj fun aL bT=>?_;unfold vP;clear aL bT;simp[aM,ae];refine bc.ob (fc) (bE _ _) (by simp only[ae];exact ai) (by simp only[ae];exact ai) (by simp[ag,Pv.look,ae,aM,aj,ak]) ?_;rintro r aq ⟨rfl,rfl⟩;refine⟨b9 _ _ _ _,?_⟩;simp[aX,ae,aM];(with_reducible repeat' first|refine av ?_|simp);refine bc.ob (cE) (bE _ _) (by simp only[ae];exact ai) (by simp only[ae];exact ai) (by simp[ag,Pv.look,ae,aM,aj,ak]) ?_;rintro r aq ⟨rfl,rfl⟩;refine⟨b9 _ _ _ _,?_⟩;simp[aX,ae,aM];(with_reducible repeat' first|refine av ?_|simp);refine bc.ob (dj) (bE _ _) (by simp only[ae];exact ai) (by simp only[ae];exact ai) (by simp[ag,Pv.look,ae,aM,aj,ak]) ?_;rintro r aq ⟨rfl,rfl⟩;refine⟨b9 _ _ _ _,?_⟩;simp[aX,ae,aM];(with_reducible repeat' first|refine av ?_|simp);refine bc.ob (cM) (bE _ _) (by simp only[ae];exact ai) (by simp only[ae];exact ai) (by simp[ag,Pv.look,ae,aM,aj,ak]) ?_;rintro r aq ⟨rfl,rfl⟩;refine⟨b9 _ _ _ _,?_⟩;simp[aX,ae,aM];(with_reducible repeat' first|refine av ?_|simp);refine bc.ob (lH) (bE _ _) (by simp only[ae];exact ai) (by simp only[ae];exact ai) (by simp[ag,Pv.look,ae,aM,aj,ak]) ?_;rintro r aq ⟨rfl,rfl⟩;refine⟨b9 _ _ _ _,?_⟩;simp[aX,ae,aM];(with_reducible repeat' first|refine av ?_|refine ba cU ?_|refine bb cU ?_|simp[cb,Kn,aa,-vd]);refine done _ ?_;simp[og,show(i:Int)+2=i+1+1 by omega];exact⟨by simp[fresh,aj,ak,bj,ag,Pv.look,jv,lh,dx,aM],cg (by simp[fresh,aj,ak,bj,ag,Pv.look,jv,lh,dx,aM]),ch (by simp[fresh,aj,ak,cc,ag,Pv.look,jv,lh,dx,aM]),Ψ⟩
end
section
open Go Go.Pv
end
section
end
section
open Go Go.Pv
def N3:C:=(af [fl 2 0,fl 3 1,bZ 4 false] (.seq (af [bm 7 0 1 2,a7 8 1 7,bm 9 0 1 3,a7 10 1 9,cA 11 .neq 8 10,ab 12 11,aF 12 false (bm 13 1 1 2),aF 12 false (a7 14 1 13),aF 12 false (bm 15 1 1 3),aF 12 false (a7 16 1 15),aF 12 false (cA 17 .neq 14 16),cH 18 12 17,ab 19 18,aF 19 false (bm 20 2 1 2),aF 19 false (a7 21 1 20),aF 19 false (bm 22 2 1 3),aF 19 false (a7 23 1 22),aF 19 false (cA 24 .neq 21 23),cH 25 19 24,ab 26 25,aF 26 false (bm 27 3 1 2),aF 26 false (a7 28 1 27),aF 26 false (cJ 29 28),aF 26 false (bm 30 3 1 3),aF 26 false (a7 31 1 30),aF 26 false (cJ 32 31),aF 26 false (cA 33 .neq 29 32),cH 34 26 33] (bt 34 (af [bZ 4 false] .ret) .skip)) (.seq (af [bm 35 3 1 2,a7 36 1 35,cJ 37 36,cG 38 0] (jx 39 38 37 (.seq (.block 1 (af [ab 40 38,dm 41 4 36 38,bO 42 4 41,gI 6 dv,ab 5 40,bD 4 6 42] (.seq (.drawn true 52 [bO 43 4 6,bm 44 3 1 3,a7 45 1 44,ab 46 5,dm 47 4 45 46,bO 48 4 47,eN 49 24 43 48,dq 50 49]) (bt 50 (af [bZ 4 false] .ret) .skip)))) (.region [bk 51 .add 38 1,ab 38 51])))) (af [bZ 4 true] .ret))))
@[simp] def Dh:List cu:=[.tmp 4]
def Vt:List (Nat×dt):=[
 (3,⟨1,8,.int .i64,.int .i64 0⟩),
 (4,⟨1,1,.bool,.bool false⟩),
 (9,⟨1,16,.str,.str []⟩),
 (35,⟨1,24,.slice 5,.slice 1 .nil []⟩),
 (36,⟨1,24,.slice 120,.slice 5 .nil []⟩),
 (38,⟨1,24,.slice 40,.slice 4 .nil []⟩),
 (40,⟨4,56,.struct [(0,3),(1,3),(2,9),(3,38)],.agg [.int .i64 0,.int .i64 0,.str [],.slice 4 .nil []]⟩),
 (120,⟨5,64,.struct [(0,3),(1,40)],.agg [.int .i64 0,.int .i64 0,.int .i64 0,.str [],.slice 4 .nil []]⟩)]
theorem ahR:e7 aQ Vt=true:=by kernel_rfl
theorem afv:cI Vt N3 Dh 2 Tryz.f24=true:=by kernel_rfl
theorem ZQ:aQ.funcs[(24:Nat)]? =some Tryz.f24:=Tryz.func24
end
end Go.Proofs.YtlnndmgfngfeiaaGreatDoor
namespace Go.Proofs
section
open Go.Shelf
end
section
open Go.Shelf Go.RowKit Go.Lib Go.Sort
def MS:Type:={x:List Value//x.length=4/\∀v∈x,v.oneCell'=true}
instance:Inhabited MS:=⟨⟨[.int .i64 0,.int .i64 0,.int .i64 0,.int .i64 0],rfl,by intro v aK;simp at aK;subst aK;rfl⟩⟩
def Ws:Type:=Int×MS
instance:Inhabited Ws:=⟨(0,default)⟩
end
end Go.Proofs
namespace Go.Proofs.YtlnndmgfngfeiaaGreatDoor
section
open Go Go.Pv Go.Sort Go.RowKit
end
section
open Go Go.Pv
theorem VL(s:List ah)(au:s.length<=bs):ct aQ 82 [.str s] (lk (gG s)):=by
 by_cases I:s.length<=100000;rotate_left
 ·have:gG s=none:=by unfold gG;rw[bo (fun h=>I h.1)]
  rw[this,lk];have zx:(100000:Int)<s.length:=Ω
  refine bW jZ PA Td fun aL=>?_;unfold HH;simp[zx];simp[b8,Av,bg,bh,bf]
 have zx:¬(100000:Int)<s.length:=Ω
 generalize bH:lk (gG s)=R;have nI:ak (fun _=>dD) R:=by rw[<-bH];unfold lk;split<;>simp[ak,aj]
 refine bW jZ PA Td (fun aL=>?_) (hr:=nI);unfold HH;clear aL;simp[zx];refine gf (fun i:Nat=>⟨[(0,.str s),(4,.int .i64 i)],[],[],0,[]⟩) (fun i=>s.length-i) (fun i=>i<=s.length/\∀c∈s.take i,nX c=true) 0 cX ⟨Ω,Ψ⟩ ?_;rintro i ⟨aE,dS⟩ _;rcases jJ aE with rfl|bY
 ·rw[kH]at dS;have j9:∀c∈s,nX c=true:=dS;simp;refine gf (fun x:List (List ah)×Nat=>⟨[(0,.str s),(5,.slice 1 (.own (.loc 0)) (cl x.1)),(6,.int .i64 x.2)],[],[(.loc 0,⟨x.1.length,9,1,none⟩)],1,[]⟩) (fun x=>s.length-x.2) (fun x=>x.2<=s.length/\x.1++dp (s.drop x.2)=dp s/\x.1.length<=x.2) ([],0) (by simp[cl];exact cX) ⟨Ψ,Ψ,Ψ⟩ ?_;rintro⟨out,i⟩ ⟨aE,hinv,tG⟩ _;simp only at aE hinv tG;rcases jJ aE with rfl|bY
  ·rw[kG,rs,mg]at hinv;subst hinv;by_cases aJ:(dp s).length<=20000
   ·have gS:¬(20000:Int)<(dp s).length:=Ω
    have aI:gG s=some (dp s):=by unfold gG;rw[bP ⟨I,j9,aJ⟩]
    simp[gS];rw[<-bH,aI,lk];simp[b8,Av,bg,bh,bf]
   ·have gS:(20000:Int)<(dp s).length:=Ω
    have aI:gG s=none:=by unfold gG;rw[bo fun h=>aJ h.2.2]
    simp[gS];rw[<-bH,aI,lk];simp[b8,Av,bg,bh,bf]
  ·obtain⟨c,aH,eK⟩:=gp bY;have cb:aZ ((i:Int)+1):=by unfold aZ;omega
   have x9:out.length+1<=bs:=by unfold bs;omega
   rw[fH aH,sL]at hinv;by_cases lD:c=32\/c=10
   ·rw[bP lD]at hinv;rcases lD with rfl|rfl;all_goals
     simp[bY,eK,aH,cb]
     refine bU.whl (out,i+1) (by simp;omega) ⟨bY,hinv,by simp;omega⟩ cX
   rw[bo lD]at hinv;have n32:((c.toNat:Int)==32)=false:=pG (d:=32) fun h=>lD (.inl h);have n10:((c.toNat:Int)==10)=false:=pG (d:=10) fun h=>lD (.inr h);by_cases r3:c=59
   ·rw[bP r3]at hinv;subst r3;simp[bY,eK,aH,cb];refine gf (fun k:Nat=>⟨[(0,.str s),(5,.slice 1 (.own (.loc 0)) (cl out)),(6,.int .i64 k)],[],[(.loc 0,⟨out.length,9,1,none⟩)],1,[]⟩) (fun k=>s.length-k) (fun k=>i<=k/\k<=s.length/\∀c∈(s.drop i).take (k-i),mJ c=true) i cX ⟨c7 _,aE,Ψ⟩ ?_;rintro k ⟨jE,h4,kf⟩ _;have jq:(∀c,s[k]? =some c->mJ c=false)->i<k->k<=s.length/\out++dp (s.drop k)=dp s/\out.length<=k:=by intro he kd;refine⟨h4,?_,Ω⟩;have aP:=(GP jE h4 kf he).2;rw[fH aH]at aP;rw[<-hinv,<-aP];rfl
    have kd:(∀c,s[k]? =some c->mJ c=false)->i<k:=by
     intro he;rcases lU i k with h|h
     ·exact h
     ·have:k=i:=Ω
      subst this;exact absurd (he 59 aH) (by decide)
    rcases jJ h4 with rfl|iM
    ·have he:∀c,s[s.length]? =some c->mJ c=false:=fun c h=>by simp at h
     simp;refine bU.whl (out,s.length) (by simp;omega) (jq he (kd he)) cX
    ·obtain⟨d,aP,hdi⟩:=gp iM;have k2:aZ ((k:Int)+1):=by unfold aZ;omega
     by_cases fh:d=10
     ·subst fh;have he:∀c,s[k]? =some c->mJ c=false:=fun c h=>by rw[aP]at h;cases h;rfl
      simp[iM,hdi,aP];refine bU.whl (out,k) (by have:=kd he;simp;omega) (jq he (kd he)) cX
     ·have aJ:((d.toNat:Int) !=10)=true:=w6 (d:=10) fh;simp[iM,hdi,aP,aJ,k2];refine bU.whl (k+1) Ω ⟨Ω,iM,fun x ad=>?_⟩ cX;rw[show k+1-i=(k-i)+1 by omega,kV,lT,show i+(k-i)=k by omega,aP]at ad;rcases fM.1 ad with ad|ad
      ·exact kf x ad
      ·simp at ad;subst ad;simp[mJ,fh]
   rw[bo r3]at hinv;have Kp:((c.toNat:Int)==59)=false:=pG (d:=59) r3;by_cases sj:c=40\/c=41
   ·rw[bP sj]at hinv;have Ft:(s.take (i+1)).drop i=[c]:=by rw[List.drop_take,fH aH];simp
    have hle:(i:Int)<=i+1:=Ω
    rcases sj with rfl|rfl;all_goals
     simp[bY,eK,aH,cb,Ft,hle,x9]
     refine⟨Ω,?_⟩
     refine bU.whl (out++[[_]],i+1) (by simp;omega) ⟨bY,(by simpa using hinv),by simp;omega⟩ (by simp[cl];exact⟨by simp[fresh,aj,ak,bj,ag,Pv.look,bC,eB],cg (by simp[fresh,aj,ak,bj,ag,Pv.look,bC,eB]),ch (by simp[fresh,aj,ak,cc,ag,Pv.look,bC,eB]),Ψ⟩)
   rw[bo sj]at hinv;have su:((c.toNat:Int)==40)=false:=pG (d:=40) fun h=>sj (.inl h);have rb:((c.toNat:Int)==41)=false:=pG (d:=41) fun h=>sj (.inr h);have B2:fR c=true:=(ye c).2 ⟨lD,r3,sj⟩;simp[bY,eK,aH,n32,n10,Kp,su,rb];refine gf (fun k:Nat=>⟨[(0,.str s),(5,.slice 1 (.own (.loc 0)) (cl out)),(6,.int .i64 i),(8,.int .i64 k)],[],[(.loc 0,⟨out.length,9,1,none⟩)],1,[]⟩) (fun k=>s.length-k) (fun k=>i<=k/\k<=s.length/\∀c∈(s.drop i).take (k-i),fR c=true) i cX ⟨c7 _,aE,Ψ⟩ ?_;rintro k ⟨jE,h4,kf⟩ _;have kd:(∀c,s[k]? =some c->fR c=false)->i<k:=by
    intro he;rcases lU i k with h|h
    ·exact h
    ·have:k=i:=Ω
     subst this;have:=he _ aH;rw[B2]at this;cases this
   have jq:(∀c,s[k]? =some c->fR c=false)->k<=s.length/\(out++[(s.take k).drop i])++dp (s.drop k)=dp s/\(out++[(s.take k).drop i]).length<=k:=by intro he;have akI:=kd he;refine⟨h4,?_,by simp;omega⟩;obtain⟨aI,aP⟩:=GP jE h4 kf he;rw[fH aH,List.takeWhile_cons,bP B2]at aI;rw[fH aH,List.dropWhile_cons,bP B2]at aP;rw[aI,aP,<-fH aH]at hinv;rw[List.drop_take,iI];exact hinv
   have Re:out.length+1<=bs:=x9;have kO:(i:Int)<=k:=Ω
   have Ce:(k:Int)<=s.length:=Ω
   rcases jJ h4 with rfl|iM
   ·have he:∀c,s[s.length]? =some c->fR c=false:=fun c h=>by simp at h
    have q4:=kd he;simp[kO,Ce,Re];refine bU.whl (out++[(s.take s.length).drop i],s.length) (by simp;omega) (jq he) (by simp[cl];exact⟨by simp[fresh,aj,ak,bj,ag,Pv.look,bC,eB],cg (by simp[fresh,aj,ak,bj,ag,Pv.look,bC,eB]),ch (by simp[fresh,aj,ak,cc,ag,Pv.look,bC,eB]),Ψ⟩)
   ·obtain⟨d,aP,hdi⟩:=gp iM;have k2:aZ ((k:Int)+1):=by unfold aZ;omega
    by_cases hw:fR d=true
    ·obtain⟨qB,sU,rB⟩:=(ye d).1 hw;have m32:((d.toNat:Int) !=32)=true:=w6 (d:=32) fun h=>qB (.inl h);have m10:((d.toNat:Int) !=10)=true:=w6 (d:=10) fun h=>qB (.inr h);have aeo:((d.toNat:Int) !=59)=true:=w6 (d:=59) sU;have aen:((d.toNat:Int) !=40)=true:=w6 (d:=40) fun h=>rB (.inl h);have nn:((d.toNat:Int) !=41)=true:=w6 (d:=41) fun h=>rB (.inr h);simp[iM,hdi,aP,m32,m10,aeo,aen,nn,k2];refine bU.whl (k+1) Ω ⟨Ω,iM,fun x ad=>?_⟩ cX;rw[show k+1-i=(k-i)+1 by omega,kV,lT,show i+(k-i)=k by omega,aP]at ad;rcases fM.1 ad with ad|ad
     ·exact kf x ad
     ·simp at ad;subst ad;exact hw
    ·rw[Bool.not_eq_true]at hw;have he:∀c,s[k]? =some c->fR c=false:=fun c h=>by rw[aP]at h;cases h;exact hw
     have fI:d=32\/d=10\/d=40\/d=41\/d=59:=by
      unfold fR jN at hw;simp at hw;by_cases b4:d=32
      ·exact .inl b4
      by_cases a2:d=10
      ·exact .inr (.inl a2)
      by_cases a3:d=40
      ·exact .inr (.inr (.inl a3))
      by_cases a4:d=41
      ·exact .inr (.inr (.inr (.inl a4)))
      exact .inr (.inr (.inr (.inr (hw b4 a2 a3 a4))))
     have cQ:=jq he;have q4:=kd he;rcases fI with rfl|rfl|rfl|rfl|rfl;all_goals
      simp[iM,hdi,aP,kO,Ce,Re]
      refine bU.whl (out++[(s.take k).drop i],k) (by simp;omega) cQ (by simp[cl];exact⟨by simp[fresh,aj,ak,bj,ag,Pv.look,bC,eB],cg (by simp[fresh,aj,ak,bj,ag,Pv.look,bC,eB]),ch (by simp[fresh,aj,ak,cc,ag,Pv.look,bC,eB]),Ψ⟩)
 ·obtain⟨c,aH,eK⟩:=gp bY;have cb:aZ ((i:Int)+1):=by unfold aZ;omega
  have l4:=S2 c;by_cases fh:(c.toNat:Int)=10
  ·have nO:((c.toNat:Int) !=10)=false:=by simpa using fh
   simp[bY,eK,aH,nO,cb];refine bU.whl (i+1) Ω ⟨bY,fun x ad=>?_⟩ cX;rw[kV,aH]at ad;rcases fM.1 ad with ad|ad
   ·exact dS x ad
   ·simp at ad;subst ad;rw[l4];omega
  ·have nO:((c.toNat:Int) !=10)=true:=by simpa using fh
   by_cases BT:(c.toNat:Int)<32
   ·have BZ:nX c=false:=by rw[Bool.eq_false_iff];intro h;rw[l4]at h;omega
    simp[bY,eK,aH,nO,BT,cb];have aI:gG s=none:=by unfold gG;rw[bo];intro h;have:=h.2.1 c (fq aH);rw[BZ]at this;cases this
    rw[<-bH,aI,lk];simp[b8,Av,bg,bh,bf]
   ·by_cases Qw:126<(c.toNat:Int)
    ·have BZ:nX c=false:=by rw[Bool.eq_false_iff];intro h;rw[l4]at h;omega
     simp[bY,eK,aH,nO,BT,Qw,cb];have aI:gG s=none:=by unfold gG;rw[bo];intro h;have:=h.2.1 c (fq aH);rw[BZ]at this;cases this
     rw[<-bH,aI,lk];simp[b8,Av,bg,bh,bf]
    ·simp[bY,eK,aH,nO,BT,Qw,cb];refine bU.whl (i+1) Ω ⟨bY,fun x ad=>?_⟩ cX;rw[kV,aH]at ad;rcases fM.1 ad with ad|ad
     ·exact dS x ad
     ·simp at ad;subst ad;rw[l4];omega
theorem DC:∀(n:Nat) (s:List ah),s.length<=n->∀t∈dp s,t.length<=s.length
 |_,[],_=>by rw[rs];simp
 |0,_::_,h=>by simp at h
 |n+1,c::r,h=>by
  simp only[ga]at h;have aP:(r.dropWhile mJ).length<=r.length:=(List.dropWhile_suffix _).length_le;have hw:(r.dropWhile fR).length<=r.length:=(List.dropWhile_suffix _).length_le;have aI:(r.takeWhile fR).length<=r.length:=(List.takeWhile_prefix _).length_le;rw[sL];split
  ·intro t aI;have:=DC n r Ω t aI;simp;omega
  ·split
   ·intro t aI;have:=DC n _ Ω t aI;simp;omega
   ·split
    ·intro t aI;simp only[gb]at aI;rcases aI with rfl|aI
     ·simp
     ·have:=DC n r Ω t aI;simp;omega
    ·intro t aI;simp only[gb]at aI;rcases aI with rfl|aI
     ·simp;omega
     ·have:=DC n _ Ω t aI;simp;omega
theorem Vn{s:List ah}{l:List (List ah)}(h:gG s=some l):l.length<=20000/\∀w∈l,w≠[]/\w.length<=bs:=by
 unfold gG at h;split at h
 ·rename_i aH;cases h;refine⟨aH.2.2,fun w hw=>⟨AN _ s (c7 _) w hw,?_⟩⟩;have:=DC _ s (c7 _) w hw;unfold bs;omega
 ·cases h
def xK(o:a1 Gm):al:=match o with|some g=>.tuple [g.e,.bool true]|none=>.tuple [my.e,.bool false]
theorem EG:my.e= .agg [.int .i64 0,.str [],.slice 4 .no [],.slice 4 .no []]:=gQ 0 [] [] []
theorem ah1{s:List ah}(au:s.length<=bs):ct aQ 44 [.str s] (xK (Aq s)):=by
 have cW:=VL s au;unfold Aq;cases aa:gG s with
 |none=>rw[aa]at cW;simp only[lk,xK,EG]at cW⊢;refine bW qy BH C0 fun aL=>?_;unfold y6;clear aL;exact cB
 |some l=>
  rw[aa]at cW;simp only[lk]at cW⊢;obtain⟨jT,hz⟩:=Vn aa;have iN:=Qa (ky:=871) l Ω hz l.length 0 (2*l.length+1) Ω Ω Ω;rw[List.drop_zero]at iN;cases hr:ed er eY (2*l.length+1) l with
  |none=>rw[hr]at iN;simp only[xK,EG];refine bW qy BH C0 fun aL=>?_;unfold y6;clear aL;simp;(with_reducible repeat' first|refine av ?_|refine ba cW ?_|refine bb cW ?_|simp);refine bc.ob (iN) (bE _ _) (by simp only[ae];exact ai) (by simp only[ae];exact ai) (by simp[ag,Pv.look,ae,aM,dx,aj,ak]) ?_;rintro r aq ⟨x,q,bA,rfl,rfl⟩;refine⟨b9 _ _ _ _,?_⟩;simp[aX,ae,aM];exact cB
  |some x=>
   obtain⟨g,rest⟩:=x;rw[hr]at iN;obtain⟨p,bn⟩:∃p,p=l.length-rest.length:=⟨_,rfl⟩;have zY:=IJ iN bn.symm;have fC:=Mc g;have JK:=yx G3 _ _ _ _ hr;cases rest with
   |cons w r=>have cM:bJ aQ 83 [aM 871] (ae 871 l p) fun r aq=>r= .bool false/\aq=ae 871 l p:=pb (by simp at bn JK;omega);simp only[xK,EG];refine bW qy BH C0 fun aL=>?_;unfold y6;clear aL;simp;(with_reducible repeat' first|refine av ?_|refine ba cW ?_|refine bb cW ?_|simp);refine bc.ob (zY) (bE _ _) (by simp only[ae];exact ai) (by simp only[ae];exact ai) (by simp[ag,Pv.look,ae,aM,dx,aj,ak]) ?_;rintro r aq ⟨rfl,rfl⟩;refine⟨b9 _ _ _ _,?_⟩;simp[aX,ae,aM];(with_reducible repeat' first|refine av ?_|simp);refine bc.ob (cM) (bE _ _) (by simp only[ae];exact ai) (by simp only[ae];exact ai) (by simp[ag,Pv.look,ae,aM,dx,aj,ak]) ?_;rintro r aq ⟨rfl,rfl⟩;refine⟨b9 _ _ _ _,?_⟩;simp[aX,ae,aM];exact cB
   |nil=>
    obtain rfl:p=l.length:=by simpa using bn
    have cM:=BA (ky:=871) l;simp only;cases aY:g.fits 80 with
    |false=>rw[aY]at fC;simp only[xK,EG,kE,if_false];refine bW qy BH C0 fun aL=>?_;unfold y6;clear aL;simp;(with_reducible repeat' first|refine av ?_|refine ba cW ?_|refine bb cW ?_|simp);refine bc.ob (zY) (bE _ _) (by simp only[ae];exact ai) (by simp only[ae];exact ai) (by simp[ag,Pv.look,ae,aM,dx,aj,ak]) ?_;rintro r aq ⟨rfl,rfl⟩;refine⟨b9 _ _ _ _,?_⟩;simp[aX,ae,aM];(with_reducible repeat' first|refine av ?_|simp);refine bc.ob (cM) (bE _ _) (by simp only[ae];exact ai) (by simp only[ae];exact ai) (by simp[ag,Pv.look,ae,aM,dx,aj,ak]) ?_;rintro r aq ⟨rfl,rfl⟩;refine⟨b9 _ _ _ _,?_⟩;simp[aX,ae,aM];((with_reducible repeat' first|refine av ?_|refine ba fC ?_|refine bb fC ?_|simp|((first|apply cN|apply cP|apply cO)<;>intro h<;>try simp at h))<;>(try exact dr));simp[b8,KT,bg,bh,bf]
    |true=>rw[aY]at fC;simp only[xK,if_true];refine bW qy BH C0 fun aL=>?_;unfold y6;clear aL;simp;(with_reducible repeat' first|refine av ?_|refine ba cW ?_|refine bb cW ?_|simp);refine bc.ob (zY) (bE _ _) (by simp only[ae];exact ai) (by simp only[ae];exact ai) (by simp[ag,Pv.look,ae,aM,dx,aj,ak]) ?_;rintro r aq ⟨rfl,rfl⟩;refine⟨b9 _ _ _ _,?_⟩;simp[aX,ae,aM];(with_reducible repeat' first|refine av ?_|simp);refine bc.ob (cM) (bE _ _) (by simp only[ae];exact ai) (by simp only[ae];exact ai) (by simp[ag,Pv.look,ae,aM,dx,aj,ak]) ?_;rintro r aq ⟨rfl,rfl⟩;refine⟨b9 _ _ _ _,?_⟩;simp[aX,ae,aM];((with_reducible repeat' first|refine av ?_|refine ba fC ?_|refine bb fC ?_|simp|((first|apply cN|apply cP|apply cO)<;>intro h<;>try simp at h))<;>(try exact dr));simp[b8,KT,bg,bh,bf]
theorem ahX{g:Gm}(h:g.fits 80=true)(hw:g.w<=100000000):ct aQ 45 [g.e] (.str (ff g)):=by
 have fC:=Mc g;rw[h]at fC;have au:g.shape=true:=by unfold Gm.fits at h;simp only[bF]at h;exact h.1
 have cW:=VM g.sz g (c7 _) au hw;refine bW qy Zl ae0 fun aL=>?_;unfold Nx;clear aL;exact cB
def HF:C:=(af [cd (.alloc 2 none (.agg [.slice 7 .nil []])),bZ 3 false] (af [ab 11 0,cC 12 82 11,ab 10 12,dI 13 0 10,dI 14 1 10,ab 4 13,ab 5 14] (.seq (af [ab 15 5,dq 16 15] (bt 16 (af [a8 17 (.build [.slice 7 .nil []] []),bD 1 2 17,bZ 3 false] .ret) .skip)) (af [ab 18 4,a8 19 (.build [.slice 1 .nil [],.int .i64 0] [(0,1,(.t 18))]),cd (.box 20 (some 871) (.t 19)),ab 6 20] (af [a8 21 (.build [.slice 7 .nil []] []),cd (.alloc 7 none (.agg [.slice 7 .nil []])),bD 1 7 21] (.seq (.block 0 (.loop (.seq (af [ab 22 6,cC 23 83 22,dq 24 23] (bt 24 .skip (.exit 0))) (.block 1 (af [ab 26 6,cC 27 110 26,ab 25 27,dI 28 0 25,dI 29 1 25,cd (.alloc 8 none (.agg [.str [],.int .i64 0,.int .i64 0,.int .i64 0,.str [],.slice 4 .nil [],.slice 4 .nil []])),bD 7 8 28,ab 9 29] (.seq (af [ab 30 9,dq 31 30] (bt 31 (af [a8 32 (.build [.slice 7 .nil []] []),bD 1 2 32,bZ 3 false] .ret) .skip)) (.region [bm 33 0 1 7,a7 34 1 33,bO 35 7 8,fm 36 7 86 [.t 35],j1 37 7 86 34 36,bm 38 0 1 7,bD 1 38 37]))))))) (.seq (af [bO 39 1 7,cC 40 50 39,dq 41 40] (bt 41 (af [a8 42 (.build [.slice 7 .nil []] []),bD 1 2 42,bZ 3 false] .ret) .skip)) (af [bO 43 1 7,bD 1 2 43,bZ 3 true] .ret))))))))
@[simp] def wT:List cu:=[.cell 2 true 1,.tmp 3]
def NH:C:=(af [fl 1 0,cd (.alloc 2 none (.agg [.slice 7 .nil []])),bZ 3 false] (.seq (af [bO 6 1 1,cC 7 50 6,dq 8 7] (bt 8 (af [a8 9 (.build [.slice 7 .nil []] []),bD 1 2 9,bZ 3 false] .ret) .skip)) (af [bO 11 1 1,cC 12 43 11,cC 13 38 12,ab 10 13,dI 14 0 10,dI 15 1 10,cd (.alloc 4 none (.agg [.slice 7 .nil []])),bD 1 4 14,ab 5 15] (af [bO 16 1 4,ab 17 5,bD 1 2 16,ab 3 17] .ret))))
@[simp] def TM:List cu:=[.cell 2 true 1,.tmp 3]
def Nz:C:=(af [fl 1 0,a8 2 (.mov (.c (.str [])))] (.seq (af [bO 8 1 1,cC 9 50 8,dq 10 9] (bt 10 (af [a8 2 (.mov (.c (.str [])))] .ret) .skip)) (af [a8 3 (.mov (.c (.str [])))] (.seq (af [bm 11 0 1 1,a7 12 1 11,cJ 13 12,cG 14 0] (jx 15 14 13 (.seq (.block 1 (af [dm 16 7 12 14,bO 17 7 16,cd (.alloc 5 none (.agg [.str [],.int .i64 0,.int .i64 0,.int .i64 0,.str [],.slice 4 .nil [],.slice 4 .nil []])),bD 7 5 17] (af [bm 18 0 1 5,a7 19 1 18,fm 20 1 9 [.t 19],ab 6 20] (.seq (af [cG 7 0] (.block 2 (.loop (.seq (af [ab 21 7,bm 22 1 1 5,a7 23 1 22,cA 24 .lss 21 23] (bt 24 .skip (.exit 2))) (.seq (.block 3 (.region [ab 27 6,ab 28 7,cC 29 86 28,cC 30 85 29,fm 31 1 9 [.t 30],j1 32 1 9 27 31,ab 6 32])) (.region [ab 25 7,bk 26 .add 25 1,ab 7 26])))))) (.drawn true 46 [ab 33 3,a8 34 (.bin .add false (.t 33) (.c (.str [40,100,101,102,105,110,101,32,40]))),ab 35 6,⟨none,.call (some 36) (.c (.func 87 [])) [.t 35,(.c (.str [32]))]⟩,cA 37 .add 34 36,a8 38 (.bin .add false (.t 37) (.c (.str [41,32]))),qo 39 3 4 5,bO 40 4 39,cC 41 65 40,cA 42 .add 38 41,a8 43 (.bin .add false (.t 42) (.c (.str [41,10]))),ab 3 43]))))) (.region [bk 44 .add 14 1,ab 14 44])))) (af [ab 45 3,ab 2 45] .ret)))))
@[simp] def agn:List cu:=[.tmp 2]
def HM:C:=(af [ab 228 16,ab 229 16,a8 230 (.mkf 1000084 [.t 229]),eN 231 114 228 230,ab 227 231,dI 232 0 227,dI 233 1 227,cd (.alloc 19 none (.agg [.int .i64 0,.str [],.slice 4 .nil [],.slice 4 .nil []])),bD 4 19 232,ab 20 233] (.seq (af [ab 234 20,dq 235 234,ab 236 235,b0 236 false 237 16,⟨(some (236,false)),.call (some 238) (.c (.func 177 [])) [.t 237,(.c (.str [41]))]⟩,aF 236 false (dq 239 238),cH 240 236 239] (bt 240 (af [a8 241 (.build [.str [],.int .i64 0,.int .i64 0,.int .i64 0,.str [],.slice 4 .nil [],.slice 4 .nil []] []),bD 7 2 241,bZ 3 false] .ret) .skip)) (af [ab 242 9,a8 243 (.mlen (.t 242)),bm 244 1 1 4,a7 245 1 244,cA 246 .sub 243 245,bm 247 2 1 4,bD 1 247 246] (af [bO 248 4 19,qo 249 3 4 4,bD 4 249 248] (af [ab 250 0,ab 251 16,gy 252 251,bm 253 1 1 252,a7 254 1 253,gy 255 250,bm 256 1 1 255,bD 1 256 254] (af [bO 257 7 4,bD 7 2 257,bZ 3 true] .ret))))))
def HL:C:=(.seq (.pub 10 (.fg false 10 (.region [ab 196 10,ab 197 5,a8 198 (.build [.slice 1 .nil [],.int .i64 0] [(0,1,(.t 196)),(1,1,(.t 197))]),cd (.box 199 (some 872) (.t 198)),ab 16 199]))) (.seq (.block 6 (.loop (.seq (af [ab 200 16,⟨none,.call (some 201) (.c (.func 177 [])) [.t 200,(.c (.str [41]))]⟩,dq 202 201] (bt 202 .skip (.exit 6))) (.block 7 (af [ab 204 16,cC 205 84 204,ab 203 205,dI 206 0 203,dI 207 1 203,gI 17 dv,bD 4 17 206,ab 18 207] (.seq (af [ab 208 18,dq 209 208,ab 210 209,aF 210 false (bm 211 0 1 17),aF 210 false (a7 212 1 211),aF 210 false (bk 213 .neq 212 1),cH 214 210 213,ab 215 214,aF 215 false (bm 216 1 1 17),aF 215 false (a7 217 1 216),aF 215 false (bm 218 1 1 4),aF 215 false (a7 219 1 218),aF 215 false (cA 220 .neq 217 219),cH 221 215 220] (bt 221 (af [a8 222 (.build [.str [],.int .i64 0,.int .i64 0,.int .i64 0,.str [],.slice 4 .nil [],.slice 4 .nil []] []),bD 7 2 222,bZ 3 false] .ret) .skip)) (.region [bm 223 1 1 4,a7 224 1 223,bk 225 .add 224 1,bm 226 1 1 4,bD 1 226 225]))))))) HM))
def D7:C:=(.seq (af [ab 130 5,ab 11 130] (.block 4 (.loop (.seq (af [ab 131 11,ab 132 8,cA 133 .lss 131 132] (bt 133 .skip (.exit 4))) (.seq (.block 5 (.seq (af [ab 136 10,ab 137 11,dm 138 1 136 137,a7 139 1 138,a8 140 (.sidx (.t 139) (b6 0)),a8 141 (.bin .neq false (.t 140) (.c (.int .u8 63)))] (bt 141 (.exit 5) .skip)) (af [ab 143 10,ab 144 11,dm 145 1 143 144,a7 146 1 145,a8 147 (.ssl (.t 146) (some (b6 1)) none),cC 148 179 147,ab 142 148,dI 149 0 142,dI 150 1 142,ab 12 149,ab 13 150] (.seq (af [ab 151 10,ab 152 11,dm 153 1 151 152,a7 154 1 153,a8 155 (.ssl (.t 154) (some (b6 1)) none),cC 156 170 155,dq 157 156,ab 158 157,b0 158 true 159 13,aF 158 true (dq 160 159),b0 158 true 161 160,b0 161 false 162 12,aF 161 false (bk 163 .lss 162 0),aF 158 true (cH 164 161 163),b0 158 true 165 164,b0 165 false 166 12,aF 165 false (bk 167 .gtr 166 100000),aF 158 true (cH 168 165 167),ep 169 158 168] (bt 169 (af [a8 170 (.build [.str [],.int .i64 0,.int .i64 0,.int .i64 0,.str [],.slice 4 .nil [],.slice 4 .nil []] []),bD 7 2 170,bZ 3 false] .ret) .skip)) (af [ab 172 9,ab 173 10,ab 174 11,dm 175 1 173 174,a7 176 1 175,a8 177 (.mget .s (.int .i64 0) true (.t 172) (.t 176)),ab 171 177,dI 178 0 171,dI 179 1 171,ab 14 178,ab 15 179] (.seq (af [ab 180 15,dq 181 180] (bt 181 (af [ab 182 9,a8 183 (.mlen (.t 182)),ab 14 183] (.region [ab 184 9,ab 185 10,ab 186 11,dm 187 1 185 186,a7 188 1 187,ab 189 14,cd (.mput .s (.t 184) (.t 188) (.t 189))])) .skip)) (.region [ab 190 10,ab 191 11,ab 192 14,cC 193 63 192,a8 194 (.bin .add false (.c (.str [63])) (.t 193)),dm 195 1 190 191,cd (.storeE 1 (.t 195) (.t 194))]))))))) (.region [ab 134 11,bk 135 .add 134 1,ab 11 135])))))) HL)
def D6:C:=(af [ab 87 7,ab 8 87] (af [cG 6 0] (.seq (.block 2 (.loop (.seq (af [ab 88 8,ab 89 0,gy 90 89,bm 91 0 1 90,a7 92 1 91,cJ 93 92,cA 94 .lss 88 93,ab 95 94,b0 95 true 96 6,aF 95 true (bk 97 .geq 96 0),ep 98 95 97] (bt 98 .skip (.exit 2))) (.block 3 (.seq (af [ab 99 0,gy 100 99,bm 101 0 1 100,a7 102 1 101,ab 103 8,dm 104 1 102 103,a7 105 1 104,a8 106 (.bin .eql false (.t 105) (.c (.str [40])))] (bt 106 (.region [ab 107 6,bk 108 .add 107 1,ab 6 108]) .skip)) (.seq (af [ab 109 0,gy 110 109,bm 111 0 1 110,a7 112 1 111,ab 113 8,dm 114 1 112 113,a7 115 1 114,a8 116 (.bin .eql false (.t 115) (.c (.str [41])))] (bt 116 (.region [ab 117 6,bk 118 .sub 117 1,ab 6 118]) .skip)) (.region [ab 119 8,bk 120 .add 119 1,ab 8 120]))))))) (af [cd (.mkmap 121 none),ab 9 121] (af [cd (.bslm 122 (some 873) 1 9 []),ab 123 0,gy 124 123,bm 125 0 1 124,a7 126 1 125,ab 127 8,a8 128 (.lsl 1 (.t 126) none (some (.t 127))),cd (.appm 129 none 1 9 (.t 122) (.t 128)),ab 10 129] D7)))))
def HK:C:=(af [ab 53 5,ab 7 53] (.seq (.block 0 (.loop (.seq (af [ab 54 7,ab 55 0,gy 56 55,bm 57 0 1 56,a7 58 1 57,cJ 59 58,cA 60 .lss 54 59,ab 61 60,b0 61 true 62 6,aF 61 true (bk 63 .geq 62 0),ep 64 61 63] (bt 64 .skip (.exit 0))) (.block 1 (.seq (af [ab 65 0,gy 66 65,bm 67 0 1 66,a7 68 1 67,ab 69 7,dm 70 1 68 69,a7 71 1 70,a8 72 (.bin .eql false (.t 71) (.c (.str [40])))] (bt 72 (.region [ab 73 6,bk 74 .add 73 1,ab 6 74]) .skip)) (.seq (af [ab 75 0,gy 76 75,bm 77 0 1 76,a7 78 1 77,ab 79 7,dm 80 1 78 79,a7 81 1 80,a8 82 (.bin .eql false (.t 81) (.c (.str [41])))] (bt 82 (.region [ab 83 6,bk 84 .sub 83 1,ab 6 84]) .skip)) (.region [ab 85 7,bk 86 .add 85 1,ab 7 86]))))))) D6))
def y7:C:=(af [cd (.alloc 2 none (.agg [.str [],.int .i64 0,.int .i64 0,.int .i64 0,.str [],.slice 4 .nil [],.slice 4 .nil []])),bZ 3 false] (.seq (af [ab 21 0,⟨none,.call (some 22) (.c (.func 177 [])) [.t 21,(.c (.str [40]))]⟩,dq 23 22,ab 24 23,b0 24 false 25 0,⟨(some (24,false)),.call (some 26) (.c (.func 177 [])) [.t 25,(.c (.str [100,101,102,105,110,101]))]⟩,aF 24 false (dq 27 26),cH 28 24 27,ab 29 28,b0 29 false 30 0,⟨(some (29,false)),.call (some 31) (.c (.func 177 [])) [.t 30,(.c (.str [40]))]⟩,aF 29 false (dq 32 31),cH 33 29 32,ab 34 33,b0 34 false 35 0,aF 34 false (cC 36 83 35),cH 37 34 36] (bt 37 (af [a8 38 (.build [.str [],.int .i64 0,.int .i64 0,.int .i64 0,.str [],.slice 4 .nil [],.slice 4 .nil []] []),bD 7 2 38,bZ 3 false] .ret) .skip)) (af [ab 39 0,cC 40 178 39,a8 41 (.build [.str [],.int .i64 0,.int .i64 0,.int .i64 0,.str [],.slice 4 .nil [],.slice 4 .nil []] [(0,1,(.t 40))]),cd (.alloc 4 none (.agg [.str [],.int .i64 0,.int .i64 0,.int .i64 0,.str [],.slice 4 .nil [],.slice 4 .nil []])),bD 7 4 41] (af [ab 42 0,gy 43 42,bm 44 1 1 43,a7 45 1 44,bk 46 .add 45 1,gy 47 42,bm 48 1 1 47,bD 1 48 46] (af [ab 49 0,gy 50 49,bm 51 1 1 50,a7 52 1 51,ab 5 52] (af [cG 6 0] HK))))))
@[simp] def agx:List cu:=[.cell 2 true 7,.tmp 3]
def DG:List (Nat×dt):=[
 (3,⟨1,8,.int .i64,.int .i64 0⟩),
 (9,⟨1,16,.str,.str []⟩),
 (40,⟨4,56,.struct [(0,3),(1,3),(2,9),(3,38)],.agg [.int .i64 0,.int .i64 0,.str [],.slice 4 .nil []]⟩),
 (59,⟨1,24,.slice 86,.slice 7 .nil []⟩),
 (61,⟨1,24,.struct [(0,59)],.agg [.slice 7 .nil []]⟩),
 (65,⟨4,72,.struct [(0,3),(1,9),(2,38),(3,63)],.agg [.int .i64 0,.str [],.slice 4 .nil [],.slice 4 .nil []]⟩),
 (70,⟨1,24,.slice 9,.slice 1 .nil []⟩),
 (86,⟨7,104,.struct [(0,9),(1,3),(2,3),(3,65)],.agg [.str [],.int .i64 0,.int .i64 0,.int .i64 0,.str [],.slice 4 .nil [],.slice 4 .nil []]⟩),
 (131,⟨2,32,.struct [(0,70),(1,3)],.agg [.slice 1 .nil [],.int .i64 0]⟩),
 (213,⟨1,8,.map 9 3,.junk⟩)]
theorem vC:e7 aQ DG=true:=by kernel_rfl
theorem Tb:cI DG HF wT 1 Tryz.f38=true:=by kernel_rfl
theorem Py:aQ.funcs[(38:Nat)]? =some Tryz.f38:=Tryz.func38
theorem ae9:cI DG NH TM 1 Tryz.f42=true:=by kernel_rfl
theorem Zu:aQ.funcs[(42:Nat)]? =some Tryz.f42:=Tryz.func42
theorem ae2:cI DG Nz agn 1 Tryz.f43=true:=by kernel_rfl
theorem Zn:aQ.funcs[(43:Nat)]? =some Tryz.f43:=Tryz.func43
theorem C1:cI DG y7 agx 1 Tryz.f110=true:=by kernel_rfl
theorem BI:aQ.funcs[(110:Nat)]? =some Tryz.f110:=Tryz.func110
theorem ait{g:Gm}(au:g.shape=true)(vars:Int):o1 g vars=true↔ij g.vs []=[]\/ ∃u m,ij g.vs []=u++[m]/\m<vars:=by
 rw[Ms];have bM:=RH g.vs (l:=[]) .nil;have hm:∀v,v∈ij g.vs []↔v∈g.vs:=fun v=>by simp[RI]
 constructor
 ·intro h;rcases List.eq_nil_or_concat (ij g.vs [])with e|⟨u,m,e⟩
  ·exact .inl e
  ·right;rw[List.concat_eq_append]at e;exact⟨u,m,e,h m ((hm m).1 (by rw[e];simp))⟩
 ·rintro(e|⟨u,m,e,bY⟩) v aK
  ·rw[<-hm,e]at aK;cases aK
  ·rw[<-hm,e]at aK;rw[e]at bM;rcases fM.1 aK with h|h
   ·have:=(List.pairwise_append.1 bM).2.2 v h m Ψ;omega
   ·simp at h;omega
theorem RK{u:List Int}{m:Int}:∀h,(eg (u++[m]))[u.length]'h= .int .i64 m:=fun h=>by simp[eg]
def HQ:C:=(af [cd (.alloc 2 none (.agg [.slice 7 .nil []])),bZ 3 false] (af [ab 14 0,cC 15 107 14,ab 13 15,dI 16 0 13,dI 17 1 13,ab 4 16,ab 5 17] (.seq (af [ab 18 5,dq 19 18] (bt 19 (af [a8 20 (.build [.slice 7 .nil []] []),bD 1 2 20,bZ 3 false] .ret) .skip)) (af [a8 21 (.build [.slice 7 .nil []] []),cd (.alloc 6 none (.agg [.slice 7 .nil []])),bD 1 6 21] (af [cG 7 0] (af [cG 8 0] (.seq (af [ab 22 4,cJ 23 22,cG 24 0] (jx 25 24 23 (.seq (.block 1 (af [ab 26 24,dm 27 1 22 24,a7 28 1 27,ab 9 26,ab 10 28] (.seq (af [ab 29 10,a8 30 (.bin .eql false (.t 29) (.c (.str [40])))] (bt 30 (.region [ab 31 8,bk 32 .add 31 1,ab 8 32]) .skip)) (.seq (af [ab 33 10,a8 34 (.bin .eql false (.t 33) (.c (.str [41])))] (bt 34 (.region [ab 35 8,bk 36 .sub 35 1,ab 8 36]) .skip)) (.seq (af [ab 37 8,bk 38 .gtr 37 0] (bt 38 (.exit 1) .skip)) (af [ab 40 4,ab 41 7,ab 42 9,bk 43 .add 42 1,a8 44 (.lsl 1 (.t 40) (some (.t 41)) (some (.t 43))),cC 45 108 44,ab 39 45,dI 46 0 39,dI 47 1 39,cd (.alloc 11 none (.agg [.str [],.int .i64 0,.int .i64 0,.int .i64 0,.str [],.slice 4 .nil [],.slice 4 .nil []])),bD 7 11 46,ab 12 47] (.seq (af [ab 48 12,dq 49 48] (bt 49 (af [a8 50 (.build [.slice 7 .nil []] []),bD 1 2 50,bZ 3 false] .ret) .skip)) (af [bm 51 0 1 6,a7 52 1 51,bO 53 7 11,fm 54 7 86 [.t 53],j1 55 7 86 52 54,bm 56 0 1 6,bD 1 56 55] (.region [ab 57 9,bk 58 .add 57 1,ab 7 58]))))))))) (.region [bk 59 .add 24 1,ab 24 59])))) (.seq (af [ab 60 8,bk 61 .neq 60 0,ab 62 61,aF 62 false (bO 63 1 6),aF 62 false (cC 64 109 63),aF 62 false (dq 65 64),cH 66 62 65] (bt 66 (af [a8 67 (.build [.slice 7 .nil []] []),bD 1 2 67,bZ 3 false] .ret) .skip)) (af [bO 68 1 6,bD 1 2 68,bZ 3 true] .ret)))))))))
@[simp] def rh:List cu:=[.cell 2 true 1,.tmp 3]
def N6:C:=(af [a8 2 (.mov (.c (.str [])))] (af [fm 7 1 9 [],ab 3 7] (.seq (af [ab 8 0] (.block 0 (af [a8 10 (.bin .eql false (.t 8) (.c (.str [108,105,115,116,115]))),ab 9 10] (bt 9 (.region [cd (.bsl 11 1 9 [(.c (.str (40::100::101::102::105::110::101::32::40::97::112::112::101::110::100::32::63::97::32::63::98::32::63::99::41::32::40::111::114::32::40::97::110::100::32::40::61::32::63::97::32::40::41::41::32::40::61::32::63::98::32::63::99::41::41::32::40::97::110::100::32::40::61::32::63::97::32::40::63::120::32::46::32::63::121::41::41::32::40::61::32::63::99::32::40::63::120::32::46::32::63::122::41::41::32::40::97::112::112::101::110::100::32::63::121::32::63::98::32::63::122::41::41::41::41::[]))),(.c (.str (40::100::101::102::105::110::101::32::40::109::101::109::98::101::114::32::63::120::32::63::108::41::32::40::111::114::32::40::61::32::63::108::32::40::63::120::32::46::32::63::114::41::41::32::40::97::110::100::32::40::61::32::63::108::32::40::63::121::32::46::32::63::114::41::41::32::40::109::101::109::98::101::114::32::63::120::32::63::114::41::41::41::41::[])))]),ab 3 11]) (af [a8 13 (.bin .eql false (.t 8) (.c (.str [103,114,97,112,104]))),ab 12 13] (bt 12 (.region [cd (.bsl 14 1 9 [(.c (.str (40::100::101::102::105::110::101::32::40::101::100::103::101::32::63::97::32::63::98::41::32::40::111::114::32::40::97::110::100::32::40::61::32::63::97::32::97::41::32::40::61::32::63::98::32::98::41::41::32::40::97::110::100::32::40::61::32::63::97::32::98::41::32::40::61::32::63::98::32::99::41::41::32::40::97::110::100::32::40::61::32::63::97::32::99::41::32::40::61::32::63::98::32::97::41::41::41::41::[]))),(.c (.str (40::100::101::102::105::110::101::32::40::112::97::116::104::32::63::97::32::63::98::41::32::40::111::114::32::40::101::100::103::101::32::63::97::32::63::98::41::32::40::97::110::100::32::40::112::97::116::104::32::63::97::32::63::99::41::32::40::101::100::103::101::32::63::99::32::63::98::41::41::41::41::[])))]),ab 3 14]) (af [a8 16 (.bin .eql false (.t 8) (.c (.str [115,101,116,115]))),ab 15 16] (bt 15 (.region [cd (.bsl 17 1 9 [(.c (.str (40::100::101::102::105::110::101::32::40::111::117::116::115::105::100::101::32::63::120::32::63::108::41::32::40::111::114::32::40::61::32::63::108::32::40::41::41::32::40::97::110::100::32::40::61::32::63::108::32::40::63::121::32::46::32::63::114::41::41::32::40::47::61::32::63::120::32::63::121::41::32::40::111::117::116::115::105::100::101::32::63::120::32::63::114::41::41::41::41::[]))),(.c (.str (40::100::101::102::105::110::101::32::40::100::105::115::116::105::110::99::116::32::63::108::41::32::40::111::114::32::40::61::32::63::108::32::40::41::41::32::40::97::110::100::32::40::61::32::63::108::32::40::63::120::32::46::32::63::114::41::41::32::40::111::117::116::115::105::100::101::32::63::120::32::63::114::41::32::40::100::105::115::116::105::110::99::116::32::63::114::41::41::41::41::[])))]),ab 3 17]) (af [a8 19 (.bin .eql false (.t 8) (.c (.str [103,97,109,101,115]))),ab 18 19] (bt 18 (.region [cd (.bsl 20 1 9 [(.c (.str (40::100::101::102::105::110::101::32::40::109::111::118::101::32::63::97::32::63::98::41::32::40::111::114::32::40::97::110::100::32::40::61::32::63::97::32::97::41::32::40::61::32::63::98::32::98::41::41::32::40::97::110::100::32::40::61::32::63::97::32::98::41::32::40::61::32::63::98::32::97::41::41::32::40::97::110::100::32::40::61::32::63::97::32::98::41::32::40::61::32::63::98::32::99::41::41::41::41::[]))),(.c (.str (40::100::101::102::105::110::101::32::40::119::105::110::32::63::97::41::32::40::97::110::100::32::40::109::111::118::101::32::63::97::32::63::98::41::32::40::110::111::116::32::40::119::105::110::32::63::98::41::41::41::41::[])))]),ab 3 20]) .skip)))))))))) (af [a8 4 (.mov (.c (.str [])))] (.seq (af [ab 21 3,cJ 22 21,cG 23 0] (.block 1 (.loop (af [cA 24 .lss 23 22] (.seq (bt 24 .skip (.exit 1)) (.seq (.block 2 (af [dm 25 1 21 23,a7 26 1 25,ab 6 26] (.region [ab 27 4,ab 28 6,cA 29 .add 27 28,fm 30 1 5 [(.c (.int .u8 10))],a8 31 (.b2s (.t 30)),cA 32 .add 29 31,ab 4 32]))) (.region [bk 33 .add 23 1,ab 23 33]))))))) (af [ab 34 4,ab 2 34] .ret))))))
@[simp] def Di:List cu:=[.tmp 2]
def Oz:C:=(af [a8 2 (.mov (.c (.str [])))] (af [ab 3 0,cd (.bsl 4 1 9 [(.c (.str [108,105,115,116,115])),(.c (.str [103,114,97,112,104])),(.c (.str [115,101,116,115])),(.c (.str [103,97,109,101,115]))]),eN 5 163 3 4,ab 2 5] .ret))
@[simp] def Ua:List cu:=[.tmp 2]
def zb:C:=(af [cd (.alloc 2 none (.agg [.str [],.int .i64 0,.int .i64 0,.int .i64 0,.str [],.slice 4 .nil [],.slice 4 .nil []])),bZ 3 false] (af [ab 13 0,cC 14 173 13,ab 12 14,dI 15 0 12,dI 16 1 12,dI 17 2 12,ab 4 15,ab 5 16,ab 6 17] (.seq (af [ab 18 6,dq 19 18,ab 20 19,b0 20 false 21 4,aF 20 false (cJ 22 21),aF 20 false (bk 23 .lss 22 6),cH 24 20 23,ab 25 24,b0 25 false 26 4,aF 25 false (mO 27 1 26 1),aF 25 false (a7 28 1 27),lR 25 false 29 (.bin .neq false (.t 28) (.c (.str [100,101,102,105,110,101]))),cH 30 25 29,ab 31 30,b0 31 false 32 4,aF 31 false (mO 33 1 32 2),aF 31 false (a7 34 1 33),lR 31 false 35 (.bin .neq false (.t 34) (.c (.str [40]))),cH 36 31 35] (bt 36 (af [a8 37 (.build [.str [],.int .i64 0,.int .i64 0,.int .i64 0,.str [],.slice 4 .nil [],.slice 4 .nil []] []),bD 7 2 37,bZ 3 false] .ret) .skip)) (af [ab 38 4,mO 39 1 38 3,a7 40 1 39,a8 41 (.build [.str [],.int .i64 0,.int .i64 0,.int .i64 0,.str [],.slice 4 .nil [],.slice 4 .nil []] [(0,1,(.t 40))]),cd (.alloc 7 none (.agg [.str [],.int .i64 0,.int .i64 0,.int .i64 0,.str [],.slice 4 .nil [],.slice 4 .nil []])),bD 7 7 41] (af [cG 8 4] (.seq (.block 0 (.loop (.seq (.seq (.drawn true 99 [ab 42 8,ab 43 4,cJ 44 43,cA 45 .lss 42 44,ab 46 45,b0 46 true 47 4,b0 46 true 48 8,aF 46 true (dm 49 1 47 48),aF 46 true (a7 50 1 49),aF 46 true (bm 51 1 1 7),aF 46 true (a7 52 1 51),aF 46 true (cC 53 57 52),lR 46 true 54 (.bin .add false (.c (.str [63])) (.t 53)),aF 46 true (cA 55 .eql 50 54),ep 56 46 55]) (bt 56 .skip (.exit 0))) (.block 1 (af [bm 57 1 1 7,a7 58 1 57,bk 59 .add 58 1,bm 60 1 1 7,bD 1 60 59] (.region [ab 61 8,bk 62 .add 61 1,ab 8 62])))))) (.seq (af [ab 63 8,ab 64 4,cJ 65 64,cA 66 .geq 63 65,ab 67 66,b0 67 false 68 4,b0 67 false 69 8,aF 67 false (dm 70 1 68 69),aF 67 false (a7 71 1 70),lR 67 false 72 (.bin .neq false (.t 71) (.c (.str [41]))),cH 73 67 72] (bt 73 (af [a8 74 (.build [.str [],.int .i64 0,.int .i64 0,.int .i64 0,.str [],.slice 4 .nil [],.slice 4 .nil []] []),bD 7 2 74,bZ 3 false] .ret) .skip)) (af [ab 76 4,ab 77 8,bk 78 .add 77 1,eN 79 154 76 78,ab 75 79,dI 80 0 75,dI 81 1 75,dI 82 2 75,cd (.alloc 9 none (.agg [.int .i64 0,.str [],.slice 4 .nil [],.slice 4 .nil []])),bD 4 9 80,ab 10 81,ab 11 82] (af [ab 83 5,bm 84 1 1 7,a7 85 1 84,cA 86 .sub 83 85,bm 87 2 1 7,bD 1 87 86] (af [bO 88 4 9,qo 89 3 4 7,bD 4 89 88] (af [bO 90 7 7,ab 91 11,ab 92 91,b0 92 true 93 10,b0 92 true 94 4,aF 92 true (cJ 95 94),aF 92 true (bk 96 .sub 95 1),aF 92 true (cA 97 .eql 93 96),ep 98 92 97,bD 7 2 90,ab 3 98] .ret)))))))))))
@[simp] def tW:List cu:=[.cell 2 true 7,.tmp 3]
def HR:C:=(af [fl 1 0,bZ 2 false] (.seq (af [bm 5 0 1 1,a7 6 1 5,cJ 7 6,bk 8 .gtr 7 8] (bt 8 (af [bZ 2 false] .ret) .skip)) (.seq (af [bm 9 0 1 1,a7 10 1 9,cJ 11 10,cG 12 0] (jx 13 12 11 (.seq (.block 1 (af [ab 14 12,dm 15 7 10 12,bO 16 7 15,cd (.alloc 4 none (.agg [.str [],.int .i64 0,.int .i64 0,.int .i64 0,.str [],.slice 4 .nil [],.slice 4 .nil []])),ab 3 14,bD 7 4 16] (af (bO 17 1 1::bm 18 0 1 4::a7 19 1 18::eN 20 174 17 19::ab 21 3::cA 22 .neq 20 21::ab 23 22::aF 23 false (bm 24 0 1 4)::aF 23 false (a7 25 1 24)::aF 23 false (cC 26 128 25)::aF 23 false (dq 27 26)::cH 28 23 27::ab 29 28::aF 29 false (bm 30 1 1 4)::aF 29 false (a7 31 1 30)::aF 29 false (eM 32 127 [.t 31,(b6 0),(b6 4)])::aF 29 false (dq 33 32)::cH 34 29 33::ab 35 34::aF 35 false (bm 36 2 1 4)::aF 35 false (a7 37 1 36)::aF 35 false (eM 38 127 [.t 37,(b6 0),(b6 8)])::aF 35 false (dq 39 38)::cH 40 35 39::ab 41 40::aF 41 false (bO 42 1 1)::aF 41 false (qo 43 3 4 4)::aF 41 false (bO 44 4 43)::aF 41 false (bm 45 1 1 4)::aF 41 false (a7 46 1 45)::aF 41 false (bm 47 2 1 4)::aF 41 false (a7 48 1 47)::aF 41 false (cA 49 .add 46 48)::aF 41 false (eM 50 175 [.t 42,.t 44,.t 49])::aF 41 false (dq 51 50)::cH 52 41 51::ab 53 52::aF 53 false (qo 54 3 4 4)::aF 53 false (bO 55 4 54)::aF 53 false (cC 56 176 55)::aF 53 false (bk 57 .gtr 56 60)::cH 58 53 57::[]) (bt 58 (af [bZ 2 false] .ret) .skip)))) (.region [bk 59 .add 12 1,ab 12 59])))) (af [bZ 2 true] .ret))))
@[simp] def agG:List cu:=[.tmp 2]
def OA:C:=(af [n4 2 1,cG 3 0,bZ 4 false] (af [fm 12 1 9 [],ab 5 12] (af [fm 13 1 9 [],ab 6 13] (.seq (af [ab 14 0,cJ 15 14,cG 16 0] (jx 17 16 15 (.seq (.block 1 (af [dm 18 1 14 16,a7 19 1 18,ab 8 19] (.seq (af [ab 20 8,a8 21 (.sidx (.t 20) (b6 0)),a8 22 (.bin .neq false (.t 21) (.c (.int .u8 63)))] (bt 22 (af [ab 23 6,ab 24 8,fm 25 1 9 [.t 24],j1 26 1 9 23 25,ab 6 26] (.exit 1)) .skip)) (af [ab 28 8,a8 29 (.ssl (.t 28) (some (b6 1)) none),cC 30 221 29,ab 27 30,dI 31 0 27,dI 32 1 27,ab 9 31,ab 10 32] (.seq (af [ab 33 8,a8 34 (.ssl (.t 33) (some (b6 1)) none),cC 35 188 34,dq 36 35,ab 37 36,b0 37 true 38 10,b0 37 true 39 38,b0 39 true 40 9,aF 39 true (eM 41 127 [.t 40,(b6 0),(b6 100000)]),aF 37 true (ep 42 39 41),aF 37 true (dq 43 42),ep 44 37 43] (bt 44 (af [n4 2 1,cG 3 0,bZ 4 false] .ret) .skip)) (af [cG 11 0] (.seq (.block 2 (.loop (.seq (af [ab 45 11,ab 46 5,cJ 47 46,cA 48 .lss 45 47,ab 49 48,b0 49 true 50 5,b0 49 true 51 11,aF 49 true (dm 52 1 50 51),aF 49 true (a7 53 1 52),b0 49 true 54 8,aF 49 true (cA 55 .neq 53 54),ep 56 49 55] (bt 56 .skip (.exit 2))) (.block 3 (.region [ab 57 11,bk 58 .add 57 1,ab 11 58]))))) (.seq (af [ab 59 11,ab 60 5,cJ 61 60,cA 62 .eql 59 61] (bt 62 (.region [ab 63 5,ab 64 8,fm 65 1 9 [.t 64],j1 66 1 9 63 65,ab 5 66]) .skip)) (.region [ab 67 6,ab 68 11,cC 69 57 68,a8 70 (.bin .add false (.c (.str [63])) (.t 69)),fm 71 1 9 [.t 70],j1 72 1 9 67 71,ab 6 72]))))))))) (.region [bk 73 .add 16 1,ab 16 73])))) (af [ab 74 6,ab 75 5,cJ 76 75,ab 2 74,ab 3 76,bZ 4 true] .ret)))))
@[simp] def agS:List cu:=[.tmp 2,.tmp 3,.tmp 4]
def Ox:C:=(af [fl 2 0,cG 4 0] (.seq (af [bm 7 0 1 2,a7 8 1 7,cJ 9 8,cG 10 0] (jx 11 10 9 (.seq (.block 1 (af [ab 12 10,dm 13 7 8 10,bO 14 7 13,cd (.alloc 6 none (.agg [.str [],.int .i64 0,.int .i64 0,.int .i64 0,.str [],.slice 4 .nil [],.slice 4 .nil []])),ab 5 12,bD 7 6 14] (af [bm 15 0 1 6,a7 16 1 15,ab 17 1,cA 18 .eql 16 17] (bt 18 (af [ab 19 5,ab 4 19] .ret) .skip)))) (.region [bk 20 .add 10 1,ab 10 20])))) (af [cG 4 (-1)] .ret)))
@[simp] def agQ:List cu:=[.tmp 4]
def za:C:=(af [fl 3 0,fl 4 1,bZ 6 false] (.seq (af [bO 8 4 4,cC 9 155 8,dq 10 9,ab 11 10,aF 11 false (bO 12 1 3),aF 11 false (bO 13 4 4),aF 11 false (eN 14 222 12 13),aF 11 false (dq 15 14),cH 16 11 15] (bt 16 (af [bZ 6 false] .ret) .skip)) (af [bO 17 4 4,eM 18 89 [.t 17,(.c (.slice 1 .nil []))],ab 7 18] (af [ab 19 7,cJ 20 19,bk 21 .eql 20 0,ab 22 21,b0 22 false 23 7,b0 22 false 24 7,aF 22 false (cJ 25 24),aF 22 false (bk 26 .sub 25 1),aF 22 false (dm 27 1 23 26),aF 22 false (a7 28 1 27),b0 22 false 29 2,aF 22 false (cA 30 .lss 28 29),cH 31 22 30,ab 6 31] .ret))))
@[simp] def K2:List cu:=[.tmp 6]
def HP:C:=(af [fl 1 0,cG 2 0] (.seq (af [bO 3 4 1,cC 4 155 3,dq 5 4] (bt 5 (af [cG 2 0] .ret) .skip)) (af [bO 6 4 1,eM 7 210 [.t 6,(b6 80)],ab 2 7] .ret)))
@[simp] def agD:List cu:=[.tmp 2]
def Ea:C:=(af [fl 2 0,fl 3 1,bZ 4 false] (.seq (af [bm 8 0 1 3,a7 9 1 8,bk 10 .eql 9 9] (bt 10 (af [bO 11 1 2,bm 12 1 1 3,a7 13 1 12,eN 14 174 11 13,ab 5 14] (.seq (.drawn true 41 [ab 15 5,bk 16 .geq 15 0,ab 17 16,aF 17 true (bm 18 0 1 2),aF 17 true (a7 19 1 18),b0 17 true 20 5,aF 17 true (dm 21 7 19 20),aF 17 true (bm 22 1 1 21),aF 17 true (a7 23 1 22),aF 17 true (bm 24 2 1 3),aF 17 true (a7 25 1 24),aF 17 true (cJ 26 25),aF 17 true (cA 27 .eql 23 26),ep 28 17 27,ab 4 28]) .ret)) .skip)) (.seq (af [bm 29 3 1 3,a7 30 1 29,cJ 31 30,cG 32 0] (jx 33 32 31 (.seq (.block 1 (af [dm 34 4 30 32,bO 35 4 34,cd (.alloc 7 none (.agg [.int .i64 0,.str [],.slice 4 .nil [],.slice 4 .nil []])),bD 4 7 35] (af [bO 36 1 2,bO 37 4 7,eN 38 222 36 37,dq 39 38] (bt 39 (af [bZ 4 false] .ret) .skip)))) (.region [bk 40 .add 32 1,ab 32 40])))) (af [bZ 4 true] .ret))))
@[simp] def agP:List cu:=[.tmp 4]
def sP:List (Nat×dt):=[
 (3,⟨1,8,.int .i64,.int .i64 0⟩),
 (5,⟨1,1,.int .u8,.int .u8 0⟩),
 (9,⟨1,16,.str,.str []⟩),
 (35,⟨1,24,.slice 5,.slice 1 .nil []⟩),
 (38,⟨1,24,.slice 40,.slice 4 .nil []⟩),
 (59,⟨1,24,.slice 86,.slice 7 .nil []⟩),
 (61,⟨1,24,.struct [(0,59)],.agg [.slice 7 .nil []]⟩),
 (63,⟨1,24,.slice 65,.slice 4 .nil []⟩),
 (65,⟨4,72,.struct [(0,3),(1,9),(2,38),(3,63)],.agg [.int .i64 0,.str [],.slice 4 .nil [],.slice 4 .nil []]⟩),
 (70,⟨1,24,.slice 9,.slice 1 .nil []⟩),
 (86,⟨7,104,.struct [(0,9),(1,3),(2,3),(3,65)],.agg [.str [],.int .i64 0,.int .i64 0,.int .i64 0,.str [],.slice 4 .nil [],.slice 4 .nil []]⟩),
 (136,⟨1,24,.slice 3,.slice 1 .nil []⟩)]
theorem jI:e7 aQ sP=true:=by kernel_rfl
theorem Tk:cI sP HQ rh 1 Tryz.f37=true:=by kernel_rfl
theorem PG:aQ.funcs[(37:Nat)]? =some Tryz.f37:=Tryz.func37
theorem Gf:cI sP N6 Di 1 Tryz.f94=true:=by kernel_rfl
theorem EB:aQ.funcs[(94:Nat)]? =some Tryz.f94:=Tryz.func94
theorem afV:cI sP Oz Ua 1 Tryz.f95=true:=by kernel_rfl
theorem aag:aQ.funcs[(95:Nat)]? =some Tryz.f95:=Tryz.func95
theorem C4:cI sP zb tW 1 Tryz.f108=true:=by kernel_rfl
theorem BL:aQ.funcs[(108:Nat)]? =some Tryz.f108:=Tryz.func108
theorem Tl:cI sP HR agG 1 Tryz.f109=true:=by kernel_rfl
theorem PH:aQ.funcs[(109:Nat)]? =some Tryz.f109:=Tryz.func109
theorem afW:cI sP OA agS 1 Tryz.f173=true:=by kernel_rfl
theorem aah:aQ.funcs[(173:Nat)]? =some Tryz.f173:=Tryz.func173
theorem afT:cI sP Ox agQ 2 Tryz.f174=true:=by kernel_rfl
theorem aae:aQ.funcs[(174:Nat)]? =some Tryz.f174:=Tryz.func174
theorem C3:cI sP za K2 3 Tryz.f175=true:=by kernel_rfl
theorem BK:aQ.funcs[(175:Nat)]? =some Tryz.f175:=Tryz.func175
theorem Tj:cI sP HP agD 1 Tryz.f176=true:=by kernel_rfl
theorem PF:aQ.funcs[(176:Nat)]? =some Tryz.f176:=Tryz.func176
theorem KO:cI sP Ea agP 2 Tryz.f222=true:=by kernel_rfl
theorem IA:aQ.funcs[(222:Nat)]? =some Tryz.f222:=Tryz.func222
def _root_.Go.Pv.Rl.e(x:Rl):al:= .agg [.str x.name,.int .i64 x.ar,.int .i64 x.loc,.int .i64 x.body.kind,.str x.body.name,.slice 4 .no (x.body.ts.map enc),.slice 4 .no (x.body.gs.map Gm.e)]
theorem Rl.e_eq(x:Rl):x.e= .agg [.str x.name,.int .i64 x.ar,.int .i64 x.loc,.int .i64 x.body.kind,.str x.body.name,.slice 4 .no (x.body.ts.map enc),.slice 4 .no (x.body.gs.map Gm.e)]:=rfl
@[simp]theorem Si(S:aO->Prop)(x:Rl):ak S x.e=True:=by simp[Rl.e_eq,ak,aj]
theorem Sf(S:aO->Prop):∀l:List Rl,aj S (l.map Rl.e)
 |[]=>trivial
 |x::l=>by simp only[ek,aj,Si,true_and];exact Sf S l
@[simp]theorem alf(S:aO->Prop)(l:List Rl):aj S (l.map Rl.e)=True:=eq_true (Sf S l)
@[simp]theorem ahC(x:Rl):cm x.e=x.e:=by simp[Rl.e_eq,cm,ca]
@[simp]theorem ahB:∀l:List Rl,ca (l.map Rl.e)=l.map Rl.e
 |[]=>rfl
 |x::l=>by simp only[ek,ca,ahC,ahB l]
@[simp]theorem amp(x:Rl):eG x.e=true:=rfl
@[simp]theorem ajS(x:Rl):cells x.e=[.str x.name,.int .i64 x.ar,.int .i64 x.loc,.int .i64 x.body.kind,.str x.body.name,.slice 4 .no (x.body.ts.map enc),.slice 4 .no (x.body.gs.map Gm.e)]:=rfl
@[simp]theorem Hw(x:Rl):al.agg [.str x.name,.int .i64 x.ar,.int .i64 x.loc,.int .i64 x.body.kind,.str x.body.name,.slice 4 .no (x.body.ts.map enc),.slice 4 .no (x.body.gs.map Gm.e)]=x.e:=rfl
@[simp]theorem akm(off:Nat)(eJ:Bool)(sz:Nat)(x:Rl):rX off eJ sz x.e=if eJ then some (off+sz<=7,.agg (([.str x.name,.int .i64 x.ar,.int .i64 x.loc,.int .i64 x.body.kind,.str x.body.name,.slice 4 .no (x.body.ts.map enc),.slice 4 .no (x.body.gs.map Gm.e)].drop off).take sz))else(([.str x.name,.int .i64 x.ar,.int .i64 x.loc,.int .i64 x.body.kind,.str x.body.name,.slice 4 .no (x.body.ts.map enc),.slice 4 .no (x.body.gs.map Gm.e)]:List al)[off]?).map fun p=>(True,p):=rfl
@[simp]theorem akd(off:Nat)(eJ:Bool)(sz:Nat)(x:Rl):ov off eJ sz (.eptr x.e)=if eJ then some (off+sz<=7,.eptr (.agg (([.str x.name,.int .i64 x.ar,.int .i64 x.loc,.int .i64 x.body.kind,.str x.body.name,.slice 4 .no (x.body.ts.map enc),.slice 4 .no (x.body.gs.map Gm.e)].drop off).take sz)))else(([.str x.name,.int .i64 x.ar,.int .i64 x.loc,.int .i64 x.body.kind,.str x.body.name,.slice 4 .no (x.body.ts.map enc),.slice 4 .no (x.body.gs.map Gm.e)]:List al)[off]?).map fun p=>(eG p=true/\cells p=[p],.eptr p):=rfl
@[simp]theorem ak6(x:Rl):Pv.isAgg 7 x.e:=⟨_,rfl,rfl⟩
def ho(P:List Rl):al:= .agg [.slice 7 .no (P.map Rl.e)]
@[simp]theorem alk(S:aO->Prop)(P:List Rl):ak S (ho P)=True:=by simp[ho,ak,aj]
@[simp]theorem amA(P:List Rl):cm (ho P)=ho P:=by simp[ho,cm,ca]
@[simp]theorem amn(P:List Rl):eG (ho P)=true:=rfl
@[simp]theorem ajQ(P:List Rl):cells (ho P)=[.slice 7 .no (P.map Rl.e)]:=rfl
@[simp]theorem M4(P:List Rl):al.agg [.slice 7 .no (P.map Rl.e)]=ho P:=rfl
def ny(P:List Rl)(s:List ah):Int:=match P.findIdx? fun r=>r.name==s with
 |some i=>i
 |none=> -1
theorem Le{P:List Rl}{s:List ah}{k:Nat}{e:Rl}(h:P[k]? =some e)(he:e.name=s)(aJ:∀(j:Nat) (f:Rl),j<k->P[j]? =some f->f.name≠s):ny P s=(k:Nat):=by
 have aa:=(eV.1 h).1;have:P.findIdx? (fun e=>e.name==s)=some k:=by
  rw[List.findIdx?_eq_some_iff_getElem];refine⟨aa,?_,fun j aD=>?_⟩
  ·rw[cS aa]at h;cases h;simp[he]
  ·have:=aJ j _ aD (cS Ω);simp[this]
 unfold ny;rw[this]
theorem Uk{P:List Rl}{s:List ah}(aJ:∀(j:Nat) (f:Rl),P[j]? =some f->f.name≠s):ny P s= -1:=by
 have:P.findIdx? (fun e=>e.name==s)=none:=by rw[List.findIdx?_eq_none_iff];intro x ad;obtain⟨j,aD⟩:=List.getElem?_of_mem ad;simp[aJ j x aD]
 unfold ny;rw[this]
theorem Uj(P:List Rl)(s:List ah):ny P s= -1/\P.find? (fun r=>r.name==s)=none\/ ∃(k:Nat) (r:Rl),ny P s=(k:Nat)/\P[k]? =some r/\P.find? (fun r=>r.name==s)=some r:=by
 cases aY:P.findIdx? fun e=>e.name==s with
 |none=>left;refine⟨by unfold ny;rw[aY],?_⟩;rw[List.findIdx?_eq_none_iff]at aY;exact List.find?_eq_none.2 fun x ad=>by simpa using aY x ad
 |some i=>
  right;obtain⟨I,J,aA⟩:=List.findIdx?_eq_some_iff_getElem.1 aY;refine⟨i,P[i],by unfold ny;rw[aY],cS I,?_⟩;rw[List.find?_eq_some_iff_append];refine⟨J,P.take i,P.drop (i+1),?_,fun a bM=>?_⟩
  ·rw[<-uk I,List.take_append_drop]
  ·obtain⟨j,aD,rfl⟩:=List.mem_iff_getElem.1 bM;rw[n7]at aD;rw[List.getElem_take];simpa using aA j Ω
def FE(P:List Rl)(s:List ah)(i:Nat):Prop:= ∀(k:Nat) (e:Rl),k<i->P[k]? =some e->e.name≠s
theorem VT(P:List Rl)(s:List ah):ct aQ 174 [ho P,.str s] (.int .i64 (ny P s)):=by
 generalize bH:ny P s=R;refine bW jI aae afT fun aL=>?_;unfold Ox;have gg:P.length<=68719476736:=by simp[ho,-M4,lY,kn,kX,bs]at aL;exact aL.1
 clear aL;simp;(with_reducible repeat' first|refine av ?_|simp);refine gP (fun i (_:Unit)=>⟨[(1,.str s),(8,.slice 7 .no (P.map Rl.e)),(9,.int .i64 P.length),(10,.int .i64 i)],[],[],0,[]⟩) P.length (fun i _=>FE P s i) () (by simp;exact cX) (fun k b aa=>Ω) (fun _ aD _=>?_) (fun i _ aE aD _=>?_)
 ·have:R= -1:=by rw[<-bH];exact Uk fun j f aY=>aD j f (eV.1 aY).1 aY
  subst this;clear aD bH;exact cB
 ·obtain⟨e,he,acb⟩:=gp aE;have cb:aZ ((i:Int)+1):=by unfold aZ;omega
  by_cases aJ:e.name=s
  ·have:R=i:=by rw[<-bH];exact Le he aJ aD
   subst this;clear aD bH;subst aJ;exact cB
  ·have gS:(e.name==s)=false:=by simpa using aJ
   have jl:FE P s (i+1):=fun k f aa aY=>by
    rcases lU k i with h|h
    ·exact aD k f h aY
    ·obtain rfl:k=i:=Ω
     rw[he]at aY;cases aY;exact aJ
   clear aD bH;exact wS
theorem OO(P:List Rl)(g:Gm):g.cf P=if g.kind=9 then(match P.find? fun r=>r.name==g.name with|some r=>r.ar==(g.ts.length:Int)|none=>false)else Gm.cfL P g.gs:=by cases g;rfl
theorem H0(P:List Rl):∀l:List Gm,Gm.cfL P l=l.all fun x=>x.cf P
 |[]=>rfl
 |x::l=>by simp[Gm.cfL,H0 P l]
theorem aib(P:List Rl):∀(n:Nat) (g:Gm),g.sz<=n->ct aQ 222 [ho P,g.e] (.bool (g.cf P)):=by
 intro n;induction n with
 |zero=>intro g aR;have:=g.sz_pos;omega
 |succ n bp=>
 intro g aR;rw[OO];by_cases ee:g.kind=9
 ·rw[bP ee];have cZ:=VT P g.name;clear bp;rcases Uj P g.name with⟨I,J⟩|⟨k,r,I,J,aA⟩
  ·rw[I]at cZ;rw[J];refine bW jI IA KO fun aL=>?_;unfold Ea;clear aL;exact cB
  ·rw[I]at cZ;rw[aA];have aa:=(eV.1 J).1;have kO:∀h,(P[k]'h)=r:=fun h=>by rw[cS aa]at J;exact hd J
   refine bW jI IA KO fun aL=>?_;unfold Ea;clear aL;exact cB
 ·rw[bo ee,H0];have xN:(g.kind==9)=false:=jy.2 ee;generalize bH:(g.gs.all fun x=>x.cf P)=R;refine bW jI IA KO fun aL=>?_;unfold Ea;have gg:g.gs.length<=68719476736:=by rw[Gm.e_eq]at aL;simp[lY,kn,kX,bs]at aL;omega
  clear aL;simp;(with_reducible repeat' first|refine av ?_|simp[xN]);refine gP (fun i (_:Unit)=>⟨[(2,.ptr (.loc 0) 0),(30,.slice 4 .no (g.gs.map Gm.e)),(31,.int .i64 g.gs.length),(32,.int .i64 i)],[(.loc 0,[.slice 7 .no (P.map Rl.e)])],[],2,[]⟩) g.gs.length (fun i _=> ∀(k:Nat) x,k<i->g.gs[k]? =some x->x.cf P=true) () (by simp;exact cX) (fun k b aa=>Ω) (fun _ aD _=>?_) (fun i _ aE aD _=>?_)
  ·have:R=true:=by rw[<-bH,hq];intro x ad;obtain⟨k,aa⟩:=List.getElem?_of_mem ad;exact aD k x (eV.1 aa).1 aa
   subst this;clear aD bH bp;exact cB
  ·obtain⟨x,ad⟩:∃e,g.gs[i]? =some e:=⟨_,cS aE⟩;have gr:∀h,(g.gs[i]'h)=x:=fun h=>by rw[cS aE]at ad;exact hd ad
   have cb:aZ ((i:Int)+1):=by unfold aZ;omega
   have qc:=fq ad;have fD:=bp x (by have:=g.gs_lt qc;omega);clear bp;cases aH:x.cf P
   ·have:R=false:=by rw[<-bH,Bool.eq_false_iff];intro h;have:=hq.1 h x qc;rw[aH]at this;cases this
    subst this;rw[aH]at fD;clear aD bH;have wB:=fD;exact cB
   ·rw[aH]at fD;have jl:∀(k:Nat) y,k<i+1->g.gs[k]? =some y->y.cf P=true:=fun k y aa bB=>by
     rcases lU k i with h|h
     ·exact aD k y h bB
     ·obtain rfl:k=i:=Ω
      rw[ad]at bB;cases bB;exact aH
    clear aD bH;have wB:=fD;exact wS
theorem aik(g:Gm):ct aQ 176 [g.e] (.int .i64 (if g.fits 80 then g.sz else 0)):=by
 have iN:=VW g;cases aY:g.fits 80
 ·rw[aY]at iN;refine bW jI PF Tj fun aL=>?_;unfold HP;clear aL;exact cB
 ·rw[aY]at iN;have jt:=VR g.sz g (c7 _) 80 Ω Ω;rw[(H9 g 80 Ω).2 (by simp only[Gm.fits,bF,ea]at aY;omega)]at jt;rw[bP rfl];refine bW jI PF Tj fun aL=>?_;unfold HP;clear aL;have wB:=jt;exact cB
theorem aic(P:List Rl)(g:Gm)(n:Int):ct aQ 175 [ho P,g.e,.int .i64 n] (.bool (g.fits 80&&g.cf P&&o1 g n)):=by
 have iN:=VW g;have jt:=aib P g.sz g (c7 _);cases aY:g.fits 80
 ·rw[aY]at iN;simp only[Bool.false_and];refine bW jI BK C3 fun aL=>?_;unfold za;clear aL;exact cB
 rw[aY]at iN;simp only[Bool.true_and];cases aH:g.cf P
 ·rw[aH]at jt;simp only[Bool.false_and];refine bW jI BK C3 fun aL=>?_;unfold za;clear aL;have wB:=jt;exact cB
 rw[aH]at jt;simp only[Bool.true_and];have au:g.shape=true:=by unfold Gm.fits at aY;rw[bF]at aY;exact aY.1
 have iq:ct aQ 89 [g.e,.slice 1 .no []] (.slice 1 .no (eg (ij g.vs []))):=aia g.sz g (c7 _) au [] ⟨.nil,Ψ⟩;have pj:=ait au n;have hlen:=(pn.ins (l:=[]) ⟨.nil,Ψ⟩ (EN g.sz g (c7 _) au)).len;generalize o1 g n=R at pj⊢;generalize ij g.vs []=U at iq pj hlen;rcases List.eq_nil_or_concat U with e|⟨u,m,e⟩
 ·subst e;have ak8:ct aQ 89 [g.e,.slice 1 .no []] (.slice 1 .no []):=iq;have:R=true:=pj.2 (.inl rfl);subst this;clear iq pj hlen;refine bW jI BK C3 fun aL=>?_;unfold za;clear aL;have wB:=jt;exact cB
 ·rw[List.concat_eq_append]at e;subst e;have q5:u.length<=100000:=by rw[fU,List.length_singleton]at hlen;omega
  have Ru:aZ ((u.length:Int)+1-1):=by unfold aZ;omega
  have cD:((u.length:Int)+1==0)=false:=jy.2 Ω;by_cases hm:m<n
  ·have:R=true:=pj.2 (.inr ⟨u,m,rfl,hm⟩);subst this;clear pj hlen;refine bW jI BK C3 fun aL=>?_;unfold za;clear aL;simp;(with_reducible repeat' first|refine av ?_|refine ba iN ?_|refine bb iN ?_|refine ba jt ?_|refine bb jt ?_|refine ba iq ?_|refine bb iq ?_|simp[au,Ru,cD,RK,hm]);simp[b8,K2,bg,bh,bf]
  ·have:R=false:=by
    cases h:R with
    |false=>rfl
    |true=>
     rcases pj.1 h with e|⟨fe,alB,e,cx⟩
     ·simp at e
     ·obtain⟨-,aU⟩:=List.append_inj' e rfl;simp at aU;subst aU;exact absurd cx hm
   subst this;clear pj hlen;refine bW jI BK C3 fun aL=>?_;unfold za;clear aL;simp;(with_reducible repeat' first|refine av ?_|refine ba iN ?_|refine bb iN ?_|refine ba jt ?_|refine bb jt ?_|refine ba iq ?_|refine bb iq ?_|simp[au,Ru,cD,RK,hm]);simp[b8,K2,bg,bh,bf]
def uC(l:List (List ah))(o:a1 (Rl×List (List ah)))(r:al)(aq:dF):Prop:=match o with
 |some (x,rest)=>r= .tuple [x.e,.bool true]/\aq=ae 871 l (l.length-rest.length)
 |none=> ∃(x:Rl) (j:Nat),j<=l.length/\r= .tuple [x.e,.bool false]/\aq=ae 871 l j
theorem pX{l:List (List ah)}{j:Nat}(h:j<=l.length)(x:Rl):uC l none (.tuple [x.e,.bool false]) (ae 871 l j):=⟨x,j,h,rfl,rfl⟩
theorem X3{l:List (List ah)}{j:Nat}(x:Rl)(h:j<=l.length):uC l (some (x,l.drop j)) (.tuple [x.e,.bool true]) (ae 871 l j):=⟨rfl,by rw[show l.length-(l.drop j).length=j by simp;omega]⟩
theorem bL.dfi{l:List (List ah)}{i:Nat}{o:a1 (Rl×List (List ah))}{st:a6}{e:Exit}(j:Nat)(x:Rl)(b:Bool)(k0:e= .ret\/e= .normal)(jm:uC l o (.tuple [x.e,.bool b]) (ae 871 l j))(ao:∀k cs,Pv.look k (ae 871 l j).b=some cs->Pv.look k st.b=some cs)(cQ:∀k p,Pv.look k (ae 871 l j).e=some p->Pv.look k st.e=some p)
  (h:bV st [.cell 2 true 7,.tmp 3] fun r=>r= .tuple [x.e,.bool b]):bL [.cell 2 true 7,.tmp 3] (ae 871 l i) (uC l o) e st:=by
 refine bL.at (ae 871 l j) k0 (bE _ _) (b9 _ _ _ _) ao cQ ?_;unfold bV at h⊢;split at h
 ·rename_i c b2 hr;refine⟨h.1,?_⟩;rw[h.2];exact⟨by simp[ak,aj],jm⟩
 ·exact h.elim
def dT:List al:=[.str [],.int .i64 0,.int .i64 0,.int .i64 0,.str [],.slice 4 .nil [],.slice 4 .nil []]
def dQ(name:List ah)(k:Int):List al:=[.str name,.int .i64 k,.int .i64 0,.int .i64 0,.str [],.slice 4 .nil [],.slice 4 .nil []]
def pB:Rl:=⟨[],0,0,.mk 0 [] [] []⟩
theorem qs:pB.e= .agg [.str [],.int .i64 0,.int .i64 0,.int .i64 0,.str [],.slice 4 .no [],.slice 4 .no []]:=rfl
def mI(ns:List (List ah)):List (List ah×al):=ns.zipIdx.map fun x=>(x.1,.int .i64 x.2)
theorem aeN(ns:List (List ah)):(mI ns).length=ns.length:=by simp[mI]
@[simp]theorem alg(S:aO->Prop)(ns:List (List ah)):aj S (jv (mI ns))=True:=by
 have:∀l:List (List ah×Nat),aj S (lh (l.map fun x=>(x.1,.int .i64 x.2))):=by
  intro l;induction l with
  |nil=>trivial
  |cons x l bp=>exact⟨trivial,trivial,bp⟩
 exact eq_true ⟨trivial,this _⟩
theorem SH(ns:List (List ah)):∀(f:aO->a1 (List al)) (m:aO),f m=some (jv (mI ns))->ve f (.gmap m)=some (True,.int .i64 ns.length):=fun f m h=>by rw[aez f m _ h,aeN]
def A3(l du:List (List ah))(f p:Nat)(name:List ah)(k:Int)(ns:List (List ah)):a6:=⟨[(0,.ptr (.obj 871) 0),(2,.ptr (.loc 0) 0),(3,.bool false),(4,.ptr (.loc 1) 0),(9,.gmap (.loc 2)),(16,.ptr (.obj 872) 0),(200,.ptr (.obj 872) 0),(201,.bool true),(202,.bool false)],[(.loc 0,dT),(.loc 1,dQ name k),(.loc 2,jv (mI ns)),(.obj 871,[.slice 1 .no (cl l),.int .i64 f]),(.obj 872,[.slice 1 .no (cl du),.int .i64 p])],[],3,[.obj 871,.obj 872,.obj 873,.obj 872]⟩
def Bo(l du:List (List ah))(name:List ah)(k:Int)(c:Nat)(r:List (List ah)):a1 (Rl×List (List ah)):=match ed er eY (2*r.length+1) r with
 |some (g,[41]::e3)=>some (⟨name,k,c-k,g⟩,l.drop (du.length-e3.length))
 |_=>none
theorem X0(l du:List (List ah))(hz:du.length<=l.length)(aG:l.length<=100000)(hw:∀w∈du,w≠[]/\w.length<=bs){i f p:Nat}(bn:p<=du.length)(aY:f<=l.length)(name:List ah)(k:Int)(aa:0<=k/\k<=100000)(ns:List (List ah))(Rb:ns.length<=100000):
  cL aQ [.obj 871] HM (bL [.cell 2 true 7,.tmp 3] (ae 871 l i) (uC l (Bo l du name k ns.length (du.drop p)))) (A3 l du f p name k ns):=by
 have iN:=Qa (ky:=872) du Ω hw du.length p (2*(du.drop p).length+1) Ω bn Ψ;unfold Bo;unfold HM;cases hr:ed er eY (2*(du.drop p).length+1) (du.drop p)with
 |none=>rw[hr]at iN;simp only;simp[A3,dT,dQ];(with_reducible repeat' first|refine av ?_|simp);refine bc.ob (iN) (bE _ _) (by simp only[ae];exact ai) (by simp only[ae];exact ai) (by simp[ag,Pv.look,ae,aM,dx,aj,ak]) ?_;rintro r aq ⟨x,q,bA,rfl,rfl⟩;refine⟨b9 _ _ _ _,?_⟩;simp[aX,ae,aM];(with_reducible repeat' first|refine av ?_|simp);refine bL.dfi (f) (pB) false Ψ (pX aY _) (by simp only[ae];exact ai) (by simp only[ae];exact ai) ?_;simp[bV,bg,bh,bf,cm,ca];exact qs.symm
 |some x=>
  obtain⟨g,rest⟩:=x;rw[hr]at iN;obtain⟨gv,wq⟩:∃gv,gv=du.length-rest.length:=⟨_,rfl⟩;have zY:=IJ iN wq.symm;obtain⟨gK,nT⟩:=yD (yx G3 _ _ _ _ hr).1;rw[<-wq]at gK;have zO:gv<=1000000:=Ω
  by_cases e1:du[gv]? =some [41]
  ·have ec:=oZ (ky:=872) zO e1;have tI:rest=[41]::du.drop (gv+1):=by rw[gK];exact fH e1
   have fx:=(eV.1 e1).1;have Ct:aZ ((ns.length:Int)-k):=by unfold aZ;omega
   rw[tI];simp only;rw[show du.length-(du.drop (gv+1)).length=gv+1 by simp;omega];simp[A3,dT,dQ];(with_reducible repeat' first|refine av ?_|simp);refine bc.ob (zY) (bE _ _) (by simp only[ae];exact ai) (by simp only[ae];exact ai) (by simp[ag,Pv.look,ae,aM,dx,aj,ak]) ?_;rintro r aq ⟨rfl,rfl⟩;refine⟨b9 _ _ _ _,?_⟩;simp[aX,ae,aM];(with_reducible repeat' first|refine av ?_|simp);refine bc.ob (ec) (bE _ _) (by simp only[ae];exact ai) (by simp only[ae];exact ai) (by simp[ag,Pv.look,ae,aM,dx,aj,ak]) ?_;rintro r aq ⟨rfl,rfl⟩;refine⟨b9 _ _ _ _,?_⟩;simp[aX,ae,aM];(with_reducible repeat' first|refine av ?_|simp[SH ns,Ct]);refine bL.dfi (gv+1) (⟨name,k,ns.length-k,g⟩) true Ψ (X3 (l:=l) (j:=gv+1) _ (show gv+1<=l.length by omega)) (by simp only[ae];exact ai) (by simp only[ae];exact ai) ?_;simp[bV,bg,bh,bf,cm,ca];exact(Rl.e_eq ⟨name,k,ns.length-k,g⟩).symm
  ·have ec:=jY (ky:=872) zO e1;have hM:(match(some (g,rest):a1 (Gm×List (List ah)))with
     |some (g,[41]::e3)=>some ((⟨name,k,ns.length-k,g⟩:Rl),l.drop (du.length-e3.length))
     |_=>none)=none:=by
    cases rest with
    |nil=>rfl
    |cons v r=>
     have:du[gv]? =some v:=by rw[<-List.head?_drop,<-gK];rfl
     have JP:¬v=[41]:=by rintro rfl;exact e1 this
     split
     ·rename_i h;simp at h;exact absurd h.2.1 JP
     ·rfl
   rw[hM];simp[A3,dT,dQ];(with_reducible repeat' first|refine av ?_|simp);refine bc.ob (zY) (bE _ _) (by simp only[ae];exact ai) (by simp only[ae];exact ai) (by simp[ag,Pv.look,ae,aM,dx,aj,ak]) ?_;rintro r aq ⟨rfl,rfl⟩;refine⟨b9 _ _ _ _,?_⟩;simp[aX,ae,aM];(with_reducible repeat' first|refine av ?_|simp);refine bc.ob (ec) (bE _ _) (by simp only[ae];exact ai) (by simp only[ae];exact ai) (by simp[ag,Pv.look,ae,aM,dx,aj,ak]) ?_;rintro r aq ⟨rfl,rfl⟩;refine⟨b9 _ _ _ _,?_⟩;simp[aX,ae,aM];(with_reducible repeat' first|refine av ?_|simp);refine bL.dfi (f) (pB) false Ψ (pX aY _) (by simp only[ae];exact ai) (by simp only[ae];exact ai) ?_;simp[bV,bg,bh,bf,cm,ca];exact qs.symm
theorem L6{k:Int}(h:0<=k/\k<=100000)(r:List (List ah)):er ((63::Lib.itoa k)::r)=some (.var k,r):=by have:=Vq (t:= .var k) (V0 h) r;simpa[fF]using this
theorem St(a:List T)(t:T)(h:(gi a t).kind=1):a=[]/\t.kind=1:=by
 cases a with
 |nil=>exact⟨rfl,h⟩
 |cons x a=>simp[gi,T.kind]at h
theorem RQ:∀(n:Nat) (l:List (List ah)) (acc:List T) (t:T) (r:List (List ah)),b5 fs n l acc=some (t,r)->t.kind≠1
 |0,_,_,_,_,h=>by simp[b5]at h
 |_+1,[],_,_,_,h=>by simp[b5]at h
 |n+1,w::l,acc,t,r,h=>by
  simp only[b5]at h;split at h
  ·cases h;intro aa;have:=(St _ _ aa).2;simp[T.kind]at this
  ·split at h
   ·split at h
    ·cases h
    ·rename_i cD;split at h
     ·split at h
      ·cases h;intro aa;exact cD (St _ _ aa).1
      ·cases h
     ·cases h
   ·split at h
    ·exact RQ n _ _ t r h
    ·cases h
theorem ahO{w:List ah}{r dh:List (List ah)}{t:T}(h:er (w::r)=some (t,dh))(aa:t.kind=1):w=63::Lib.itoa t.int/\dh=r/\0<=t.int/\t.int<=100000:=by
 unfold er at h;rw[show 2*(w::r).length+1=(2*r.length+2)+1 by simp;omega]at h;simp only[rd]at h;by_cases aS:w=[40]
 ·rw[bP aS]at h;split at h
  ·rename_i t1 eU I;split at h
   ·cases h;exact absurd aa (RQ _ _ _ _ _ I)
   ·cases h
  ·cases h
 ·rw[bo aS]at h;by_cases bG:w=[41]\/w=[46]
  ·rw[bP bG]at h;simp at h
  ·rw[bo bG]at h;cases bM:fs w with
   |none=>rw[bM]at h;simp at h
   |some t1=>
    rw[bM]at h;simp only[oa]at h;split at h
    ·cases h;unfold fs at bM;split at bM
     ·rename_i s;split at bM
      ·rename_i n aJ;split at bM
       ·rename_i hr;cases bM;exact⟨by rw[<-(wP.1 aJ).2];rfl,rfl,hr⟩
       ·cases bM
      ·cases bM
     ·split at bM
      ·cases bM;simp[T.kind]at aa
      ·cases bn:gw w with
       |none=>rw[bn]at bM;cases bM
       |some n=>rw[bn]at bM;cases bM;simp[T.kind]at aa
    ·cases h
def Hk(l du:List (List ah))(f:Nat)(name:List ah)(ns:List (List ah)):a6:=⟨[(0,.ptr (.obj 871) 0),(2,.ptr (.loc 0) 0),(3,.bool false),(4,.ptr (.loc 1) 0),(5,.int .i64 f),(8,.int .i64 du.length),(9,.gmap (.loc 2)),(10,.row 1 (.obj 873) du.length),(11,.int .i64 du.length),(131,.int .i64 du.length),(132,.int .i64 du.length),(133,.bool false)],[(.loc 0,dT),(.loc 1,dQ name 0),(.obj 871,[.slice 1 .no (cl l),.int .i64 f]),(.loc 2,jv (mI ns))],[(.obj 873,⟨du.length,9,1,some (cl du)⟩)],3,[.obj 873,.obj 871]⟩
def uu(l du:List (List ah))(f:Nat)(name:List ah)(ns:List (List ah))(k p:Nat):a6:=⟨[(0,.ptr (.obj 871) 0),(2,.ptr (.loc 0) 0),(3,.bool false),(4,.ptr (.loc 1) 0),(9,.gmap (.loc 2)),(16,.ptr (.obj 872) 0)],[(.loc 0,dT),(.loc 1,dQ name k),(.loc 2,jv (mI ns)),(.obj 871,[.slice 1 .no (cl l),.int .i64 f]),(.obj 872,[.slice 1 .no (cl du),.int .i64 p])],[],3,[.obj 871,.obj 872,.obj 873]⟩
def qm(l du:List (List ah))(name:List ah)(c:Nat)(x:a1 (Int×List (List ah))):a1 (Rl×List (List ah)):=match x with
 |some (k,r)=>Bo l du name k c r
 |none=>none
theorem XZ(l du:List (List ah))(hz:du.length<=l.length)(aG:l.length<=100000)(hw:∀w∈du,w≠[]/\w.length<=bs){i f:Nat}(q1:f<=du.length)(name:List ah)(ns:List (List ah))(Rb:ns.length<=100000):
  cL aQ [.obj 871] HL (bL [.cell 2 true 7,.tmp 3] (ae 871 l i) (uC l (qm l du name ns.length (hp 0 (du.drop f))))) (Hk l du f name ns):=by
 have aY:f<=l.length:=Ω
 obtain⟨R,bH⟩:∃R,R=qm l du name ns.length (hp 0 (du.drop f)):=⟨_,rfl⟩;rw[<-bH];unfold HL;simp[Hk];(with_reducible repeat' first|refine av ?_|simp);refine gf (fun x:Nat×Nat=>uu l du f name ns x.1 x.2) (fun x=>du.length-x.2) (fun x=>x.2<=du.length/\x.1<=x.2/\qm l du name ns.length (hp x.1 (du.drop x.2))=R) (0,f) (by simp[uu];exact⟨by simp[fresh,aj,ak,bj,ag,Pv.look,dT,dQ],cg (by simp[fresh,aj,ak,bj,ag,Pv.look,dT,dQ]),ch (by simp[fresh,aj,ak,cc,ag,Pv.look,dT,dQ]),Ψ⟩) ⟨q1,o3 _,bH.symm⟩ ?_;clear bH;rintro⟨k,p⟩ ⟨bn,acz,bH⟩ _;simp only at bn acz bH;subst bH;have zO:p<=1000000:=Ω
 rcases jJ bn with rfl|fx
 ·have ec:=jY (ky:=872) (l:=du) (i:=du.length) (s:=[41]) zO Ψ;have ke:=EJ (ky:=872) du Ω hw du.length (c7 _);rw[kG]at ke⊢;rw[show er []=none by simp[er,rd]]at ke;rw[show qm l du name ns.length (hp k [])=none by simp[hp,qm]];simp[uu,dT,dQ];refine bc.ob (ec) (bE _ _) (by simp only[ae];exact ai) (by simp only[ae];exact ai) (by simp[ag,Pv.look,ae,aM,dx,aj,ak]) ?_;rintro r aq ⟨rfl,rfl⟩;refine⟨b9 _ _ _ _,?_⟩;simp[aX,ae,aM];(with_reducible repeat' first|refine av ?_|simp);refine bc.ob (ke) (bE _ _) (by simp only[ae];exact ai) (by simp only[ae];exact ai) (by simp[ag,Pv.look,ae,aM,dx,aj,ak]) ?_;rintro r aq ⟨x,q,bA,rfl,rfl⟩;refine⟨b9 _ _ _ _,?_⟩;simp[aX,ae,aM];(with_reducible repeat' first|refine av ?_|simp);refine bL.dfi (f) (pB) false Ψ (pX aY _) (by simp only[ae];exact ai) (by simp only[ae];exact ai) ?_;simp[bV,bg,bh,bf,cm,ca];exact qs.symm
 obtain⟨v,aK⟩:∃v,du[p]? =some v:=⟨_,cS fx⟩;by_cases e1:v=[41]
 ·subst e1;have ec:=oZ (ky:=872) zO aK;rw[fH aK,show qm l du name ns.length (hp k ([41]::du.drop (p+1)))=Bo l du name k ns.length (du.drop (p+1)) by simp[hp,qm]];have R7:=X0 l du hz aG hw (i:=i) (f:=f) (p:=p+1) fx aY name k Ω ns Rb;simp[uu];refine bc.ob (ec) (bE _ _) (by simp only[ae];exact ai) (by simp only[ae];exact ai) (by simp[ag,Pv.look,ae,aM,dx,aj,ak]) ?_;rintro r aq ⟨rfl,rfl⟩;refine⟨b9 _ _ _ _,?_⟩;simp[aX,ae,aM];(with_reducible repeat' first|refine av ?_|simp);simp[A3]at R7;exact R7
 have ec:=jY (ky:=872) (l:=du) (i:=p) zO (show du[p]?≠some [41] by rw[aK];simpa using e1);have ke:=EJ (ky:=872) du Ω hw p bn;rw[fH aK]at ke⊢;have Fo:hp k (v::du.drop (p+1))=if v=63::Lib.itoa k then hp (k+1) (du.drop (p+1))else none:=by simp only[hp,bo e1]
 cases eb:er (v::du.drop (p+1))with
 |none=>
  rw[eb]at ke;have tK:¬v=63::Lib.itoa k:=by rintro rfl;rw[L6 Ω]at eb;cases eb
  rw[Fo,bo tK];simp only[qm];simp[uu,dT,dQ];refine bc.ob (ec) (bE _ _) (by simp only[ae];exact ai) (by simp only[ae];exact ai) (by simp[ag,Pv.look,ae,aM,dx,aj,ak]) ?_;rintro r aq ⟨rfl,rfl⟩;refine⟨b9 _ _ _ _,?_⟩;simp[aX,ae,aM];(with_reducible repeat' first|refine av ?_|simp);refine bc.ob (ke) (bE _ _) (by simp only[ae];exact ai) (by simp only[ae];exact ai) (by simp[ag,Pv.look,ae,aM,dx,aj,ak]) ?_;rintro r aq ⟨x,q,bA,rfl,rfl⟩;refine⟨b9 _ _ _ _,?_⟩;simp[aX,ae,aM];(with_reducible repeat' first|refine av ?_|simp);refine bL.dfi (f) (pB) false Ψ (pX aY _) (by simp only[ae];exact ai) (by simp only[ae];exact ai) ?_;simp[bV,bg,bh,bf,cm,ca];exact qs.symm
 |some tr=>
  obtain⟨t,rest⟩:=tr;rw[eb]at ke;obtain⟨q,bA⟩:∃q,q=du.length-rest.length:=⟨_,rfl⟩;have u2:=S8 ke bA.symm;by_cases jE:t.kind=1;rotate_left
  ·have tK:¬v=63::Lib.itoa k:=by rintro rfl;rw[L6 Ω]at eb;cases eb;exact jE rfl
   rw[Fo,bo tK];simp only[qm];simp[uu,dT,dQ];refine bc.ob (ec) (bE _ _) (by simp only[ae];exact ai) (by simp only[ae];exact ai) (by simp[ag,Pv.look,ae,aM,dx,aj,ak]) ?_;rintro r aq ⟨rfl,rfl⟩;refine⟨b9 _ _ _ _,?_⟩;simp[aX,ae,aM];(with_reducible repeat' first|refine av ?_|simp);refine bc.ob (u2) (bE _ _) (by simp only[ae];exact ai) (by simp only[ae];exact ai) (by simp[ag,Pv.look,ae,aM,dx,aj,ak]) ?_;rintro r aq ⟨rfl,rfl⟩;refine⟨b9 _ _ _ _,?_⟩;simp[aX,ae,aM];have jn:(t.kind==1)=false:=by simpa using jE
   have nJ:(t.kind !=1)=true:=by simpa using jE
   (with_reducible repeat' first|refine av ?_|simp[jE,jn,nJ]);refine bL.dfi (f) (pB) false Ψ (pX aY _) (by simp only[ae];exact ai) (by simp only[ae];exact ai) ?_;simp[bV,bg,bh,bf,cm,ca];exact qs.symm
  obtain⟨aB,aU,b1⟩:=ahO eb jE;by_cases kO:t.int=k;rotate_left
  ·have tK:¬v=63::Lib.itoa k:=by rintro rfl;rw[L6 Ω]at eb;cases eb;exact kO rfl
   rw[Fo,bo tK];simp only[qm];simp[uu,dT,dQ];refine bc.ob (ec) (bE _ _) (by simp only[ae];exact ai) (by simp only[ae];exact ai) (by simp[ag,Pv.look,ae,aM,dx,aj,ak]) ?_;rintro r aq ⟨rfl,rfl⟩;refine⟨b9 _ _ _ _,?_⟩;simp[aX,ae,aM];(with_reducible repeat' first|refine av ?_|simp);refine bc.ob (u2) (bE _ _) (by simp only[ae];exact ai) (by simp only[ae];exact ai) (by simp[ag,Pv.look,ae,aM,dx,aj,ak]) ?_;rintro r aq ⟨rfl,rfl⟩;refine⟨b9 _ _ _ _,?_⟩;simp[aX,ae,aM];have jn:(t.int==(k:Int))=false:=by simpa using kO
   have nJ:(t.int !=(k:Int))=true:=by simpa using kO
   (with_reducible repeat' first|refine av ?_|simp[jE,kO,jn,nJ]);refine bL.dfi (f) (pB) false Ψ (pX aY _) (by simp only[ae];exact ai) (by simp only[ae];exact ai) ?_;simp[bV,bg,bh,bf,cm,ca];exact qs.symm
  rw[kO]at aB;have ac4:q=p+1:=by rw[bA,aU];simp;omega
  subst ac4;have k2:aZ ((k:Int)+1):=by unfold aZ;omega
  rw[Fo,bP aB];simp[uu,dT,dQ];refine bc.ob (ec) (bE _ _) (by simp only[ae];exact ai) (by simp only[ae];exact ai) (by simp[ag,Pv.look,ae,aM,dx,aj,ak]) ?_;rintro r aq ⟨rfl,rfl⟩;refine⟨b9 _ _ _ _,?_⟩;simp[aX,ae,aM];(with_reducible repeat' first|refine av ?_|simp);refine bc.ob (u2) (bE _ _) (by simp only[ae];exact ai) (by simp only[ae];exact ai) (by simp[ag,Pv.look,ae,aM,dx,aj,ak]) ?_;rintro r aq ⟨rfl,rfl⟩;refine⟨b9 _ _ _ _,?_⟩;simp[aX,ae,aM];(with_reducible repeat' first|refine av ?_|simp[jE,kO,k2]);refine bU.whl (k+1,p+1) (by simp;omega) ⟨fx,by simp;omega,Ψ⟩ ?_;simp[uu,dQ];exact⟨by simp[fresh,aj,ak,bj,ag,Pv.look,dT,dQ],cg (by simp[fresh,aj,ak,bj,ag,Pv.look,dT,dQ]),ch (by simp[fresh,aj,ak,cc,ag,Pv.look,dT,dQ]),Ψ⟩
def nE(l:List (List ah))(f e:Nat)(name:List ah)(row ns:List (List ah))(k:Nat):a6:=⟨[(0,.ptr (.obj 871) 0),(2,.ptr (.loc 0) 0),(3,.bool false),(4,.ptr (.loc 1) 0),(5,.int .i64 f),(8,.int .i64 e),(9,.gmap (.loc 2)),(10,.row 1 (.obj 873) e),(11,.int .i64 ((f+k:Nat):Int))],[(.loc 0,dT),(.loc 1,dQ name 0),(.obj 871,[.slice 1 .no (cl l),.int .i64 f]),(.loc 2,jv (mI ns))],[(.obj 873,⟨e,9,1,some (cl row)⟩)],3,[.obj 873,.obj 871]⟩
def Ag(l:List (List ah))(f:Nat)(name:List ah)(x:a1 (List (List ah)×List (List ah))):a1 (Rl×List (List ah)):=match x with
 |some (cF,ms)=>qm l (l.take f++cF) name ms.length (hp 0 cF)
 |none=>none
theorem U4(w:List ah)(ns:List (List ah)):rn w (mI ns)=if w∈ns then some (.int .i64 (ns.idxOf w:Nat))else none:=by
 have:∀(l:List (List ah)) (k:Nat),rn w ((l.zipIdx k).map fun x=>(x.1,al.int .i64 x.2))=if w∈l then some (.int .i64 ((l.idxOf w+k:Nat):Int))else none:=by
  intro l;induction l with
  |nil=>intro k;rfl
  |cons x l bp=>
   intro k;simp only[List.zipIdx_cons,ek,rn];by_cases h:w=x
   ·subst h;simp
   ·rw[bo h,bp];have cx:¬x=w:=fun e=>h e.symm;have ad:(x==w)=false:=by simpa using cx
    by_cases hm:w∈l
    ·rw[bP hm,bP (List.mem_cons_of_mem _ hm),List.idxOf_cons,ad];simp only[cond_false,dH,al.int.injEq,true_and];push_cast;omega
    ·rw[bo hm,bo (by simp[h,hm])]
 simpa[mI]using this ns 0
theorem ahw:∀(w:List ah) (v:al) (l:List (List ah×al)),rn w l=none->pD w v l=l++[(w,v)]:=by
 intro w v l h;have:∀l:List (List ah×al),rn w l=none->sK w v l=none:=by
  intro l;induction l with
  |nil=>intro _;rfl
  |cons x l bp=>
   obtain⟨y,u⟩:=x;intro h;simp only[rn]at h;split at h
   ·cases h
   ·rename_i cD;simp only[sK,bo cD,bp h]
 simp only[pD,this l h]
theorem ahx{w:List ah}{ns:List (List ah)}(h:w∉ns):pD w (.int .i64 ns.length) (mI ns)=mI (ns++[w]):=by rw[ahw _ _ _ (by rw[U4,bo h])];simp[mI,List.zipIdx_append]
theorem SE(f:aO->a1 (List al))(m:aO)(w:List ah)(ns:List (List ah))(hm:f m=some (jv (mI ns))):oN f .s (.int .i64 0) true (.gmap m) (.str w)=some (True,if w∈ns then .tuple [.int .i64 (ns.idxOf w:Nat),.bool true]else .tuple [.int .i64 0,.bool false]):=by
 rw[vd _ _ _ _ true w hm,U4];by_cases h:w∈ns
 ·rw[bP h,bP h];rfl
 ·rw[bo h,bo h];rfl
structure J1 (jf:List (List ah)) (x:List (List ah)×List (List ah)):Prop where
 le:x.1.length<=jf.length
 eq:num [] jf=(num x.2 (jf.drop x.1.length)).map fun y=>(x.1++y.1,y.2)
 ns:x.2.length<=x.1.length
 ok:∀w∈x.1,w≠[]/\w.length<=bs
theorem ag5{l jf d:List (List ah)}{f:Nat}{w:List ah}(aY:f<=l.length)(ad:jf[d.length]? =some w):(cl (l.take f++(d++jf.drop d.length)))[f+d.length]? =some (.str w):=by rw[cl,pQ,List.getElem?_append_right (by simp;omega),List.getElem?_append_right (by simp;omega)];rw[lT];simp only[n7];rw[show d.length+(f+d.length-min f l.length-d.length)=d.length by omega,ad];rfl
theorem XY(l:List (List ah))(aG:l.length<=100000)(hw:∀w∈l,w≠[]/\w.length<=bs){i f e:Nat}(aY:f<=e)(he:e<=l.length)(name:List ah)(jf:List (List ah))(JF:jf=(l.drop f).take (e-f))(u:List (Nat×al))(bK:Pv.get 0 u= .ptr (.obj 871) 0)(J:Pv.get 2 u= .ptr (.loc 0) 0)(aA:Pv.get 3 u= .bool false)(aS:Pv.get 4 u= .ptr (.loc 1) 0)(bG:Pv.get 5 u= .int .i64 f)(fZ:Pv.get 8 u= .int .i64 e)(ee:Pv.get 9 u= .gmap (.loc 2))(fh:Pv.get 10 u= .row 1 (.obj 873) e):
  cL aQ [.obj 871] D7 (bL [.cell 2 true 7,.tmp 3] (ae 871 l i) (uC l (Ag l f name (num [] jf)))) ⟨u,[(.loc 0,dT),(.loc 1,dQ name 0),(.obj 871,[.slice 1 .no (cl l),.int .i64 f]),(.loc 2,jv (mI []))],[(.obj 873,⟨e,9,1,some (cl (l.take e))⟩)],3,[.obj 873,.obj 871]⟩:=by
 obtain⟨R,bH⟩:∃R,R=num [] jf:=⟨_,rfl⟩;have nM:f<=l.length:=Ω
 have k7:jf.length=e-f:=by rw[JF];simp;omega
 have adi:l.take e=l.take f++([]++jf.drop 0):=by rw[JF,eW,List.drop_zero];rw[show l.take e=l.take (f+(e-f)) by rw[show f+(e-f)=e by omega],List.take_add]
 rw[adi];rw[<-bH];unfold D7;simp[bG,Pv.get_put];refine gf (fun x:List (List ah)×List (List ah)=>nE l f e name (l.take f++(x.1++jf.drop x.1.length)) x.2 x.1.length) (fun x=>jf.length-x.1.length) (fun x=>J1 jf x) ([],[]) (by simp[nE];exact⟨by simp[fresh,aj,ak,bj,ag,Pv.look,dT,dQ,Pv.get_put,bK,J,aA,aS,bG,fZ,ee,fh],cg (by simp[fresh,aj,ak,bj,ag,Pv.look,dT,dQ,Pv.get_put,bK,J,aA,aS,bG,fZ,ee,fh]),ch (by simp[fresh,aj,ak,cc,ag,Pv.look,dT,dQ,Pv.get_put,bK,J,aA,aS,bG,fZ,ee,fh]),Ψ⟩) ⟨Ψ,Ψ,Ψ,Ψ⟩ ?_;rintro⟨d,ns⟩ aD _;simp only;have ka:=aD.le;have heq:=aD.eq;have js:=aD.ns;simp only at ka heq js;have E2:f+d.length<=100000:=Ω
 by_cases bY:d.length<jf.length
 ·obtain⟨w,ad⟩:∃w,jf[d.length]? =some w:=⟨_,cS bY⟩;have l6:(cl (l.take f++(d++jf.drop d.length)))[((f:Int)+d.length).toNat]? =some (.str w):=by rw[show((f:Int)+d.length).toNat=f+d.length by omega];exact ag5 Ω ad
  have kg:(f:Int)+d.length<e:=Ω
  have tL:w∈l:=by have I:=fq ad;rw[JF]at I;exact List.mem_of_mem_drop (List.mem_of_mem_take I)
  have JU:=hw w tL;have en:aZ ((f:Int)+d.length+1):=by unfold aZ;omega
  have nk:jf.drop d.length=w::jf.drop (d.length+1):=fH ad;rw[nk]at heq;obtain⟨c,s,rfl⟩:∃c s,w=c::s:=List.exists_cons_of_ne_nil JU.1;by_cases aH:c=63;rotate_left
  ·have acZ:∀aq,(c::s)≠63::aq:=by intro aq h;cases h;exact aH rfl
   rw[iF _ _ _ acZ]at heq;have abO:((c.toNat:Int)==63)=false:=by rw[jy];intro h;apply aH;apply UInt8.toNat_inj.1;simpa using(by omega:c.toNat=63)
   have abT:((c.toNat:Int) !=63)=true:=by simp only[bne,abO];rfl
   have JD:l.take f++(d++jf.drop d.length)=l.take f++((d++[c::s])++jf.drop (d++[c::s]).length):=by simp[nk]
   have eZ:J1 jf (d++[c::s],ns):=⟨by simp;omega,by rw[heq];simp[Function.comp_def],by simp;omega,by
    intro v aK;rcases fM.1 aK with aK|aK
    ·exact aD.ok v aK
    ·rw[mi.1 aK];exact JU⟩
   simp[nE];(with_reducible repeat' first|refine av ?_|simp[kg,l6,en,abT]);refine bU.whl (d++[c::s],ns) (by simp;omega) eZ ?_;rw[JD];simp[nE,<-pP];exact⟨by simp[fresh,aj,ak,bj,ag,Pv.look,dT,dQ],cg (by simp[fresh,aj,ak,bj,ag,Pv.look,dT,dQ]),ch (by simp[fresh,aj,ak,cc,ag,Pv.look,dT,dQ]),Ψ⟩
  subst aH;have ac9:s.length<=bs:=by have:=JU.2;simp at this;omega
  have cy:=Mf s ac9;have cU:=G6 s;rw[Ah]at heq;have akJ:(1:Int)<=(s.length:Int)+1:=Ω
  by_cases aK:sT s=true;rotate_left
  ·rw[bo aK]at heq;have abA:R=none:=by rw[bH,heq];rfl
   have mF:fA s=false:=by
    cases h:fA s with
    |false=>rfl
    |true=>exact absurd (by unfold sT;rw[h];rfl) aK
   rw[abA];simp only[Ag];rw[mF]at cU;cases bn:gw s with
   |none=>rw[bn]at cy;simp only[tU,lV,Option.isSome]at cy;simp[nE,dT,dQ];(with_reducible repeat' first|refine av ?_|refine ba cy ?_|refine bb cy ?_|refine ba cU ?_|refine bb cU ?_|simp[kg,l6,en]);refine bL.dfi (f) (pB) false Ψ (pX nM _) (by simp only[ae];exact ai) (by simp only[ae];exact ai) ?_;simp[bV,bg,bh,bf,cm,ca];exact qs.symm
   |some n=>
    rw[bn]at cy;simp only[tU,lV,Option.isSome]at cy;have hr:¬(0<=n/\n<=100000):=by intro h;apply aK;unfold sT;rw[bn];simp[h]
    by_cases x6:n<0
    ·simp[nE,dT,dQ];(with_reducible repeat' first|refine av ?_|refine ba cy ?_|refine bb cy ?_|refine ba cU ?_|refine bb cU ?_|simp[kg,l6,en,x6]);refine bL.dfi (f) (pB) false Ψ (pX nM _) (by simp only[ae];exact ai) (by simp only[ae];exact ai) ?_;simp[bV,bg,bh,bf,cm,ca];exact qs.symm
    ·have Jt:100000<n:=Ω
     simp[nE,dT,dQ];(with_reducible repeat' first|refine av ?_|refine ba cy ?_|refine bb cy ?_|refine ba cU ?_|refine bb cU ?_|simp[kg,l6,en,x6,Jt]);refine bL.dfi (f) (pB) false Ψ (pX nM _) (by simp only[ae];exact ai) (by simp only[ae];exact ai) ?_;simp[bV,bg,bh,bf,cm,ca];exact qs.symm
  rw[bP aK]at heq;have h6:fA s=true\/fA s=false/\∃n,gw s=some n/\0<=n/\n<=100000:=by
   cases h:fA s with
   |true=>exact .inl rfl
   |false=>
    right;unfold sT at aK;rw[h]at aK;cases bn:gw s with
    |none=>rw[bn]at aK;simp at aK
    |some n=>rw[bn]at aK;simp at aK;exact⟨rfl,n,rfl,aK.1,aK.2⟩
  have QZ:ns.idxOf (63::s)<=ns.length:=List.idxOf_le_length;have acs:(Lib.itoa (ns.idxOf (63::s):Nat)).length<=20:=yg (by unfold aZ;omega);have cZ:=Mb (ns.idxOf (63::s):Nat) (by unfold aZ;omega);have hZ:1+(Lib.itoa (ns.idxOf (63::s):Nat)).length<=bs:=by unfold bs;omega
  have ni:(cl (l.take f++(d++jf.drop d.length))).set ((f:Int)+d.length).toNat (.str (63::Lib.itoa (ns.idxOf (63::s):Nat)))=cl (l.take f++((d++[63::Lib.itoa (ns.idxOf (63::s):Nat)])++jf.drop (d.length+1))):=by rw[show((f:Int)+d.length).toNat=f+d.length by omega,nk];rw[cl,<-List.map_set,List.set_append_right _ _ (by simp;omega),List.set_append_right _ _ (by simp;omega)];simp only[n7];rw[show f+d.length-min f l.length-d.length=0 by omega];simp[cl]
  have eZ:J1 jf (d++[63::Lib.itoa (ns.idxOf (63::s):Nat)],if(63::s)∈ns then ns else ns++[63::s]):=⟨by simp;omega,by rw[heq];simp[Function.comp_def],by split<;>simp<;>omega,by
    intro v aK;rcases fM.1 aK with aK|aK
    ·exact aD.ok v aK
    ·rw[mi.1 aK];exact⟨Ψ,by simp;unfold bs;omega⟩⟩
  by_cases hm:(63::s)∈ns
  ·rw[bP hm]at eZ;have x2:=fun(g:aO->a1 (List al)) (aR:g (.loc 2)=some (jv (mI ns)))=>SE g (.loc 2) (63::s) ns aR;simp only[bP hm]at x2;rcases h6 with mF|⟨mF,n,bn,x6,Jt⟩
   ·rw[mF]at cU;unfold tU at cy;simp[nE,-vd];(with_reducible repeat' first|refine av ?_|refine ba cy ?_|refine bb cy ?_|refine ba cU ?_|refine bb cU ?_|refine ba cZ ?_|refine bb cZ ?_|simp[kg,l6,en,x2,mF,hZ,ni]);refine bU.whl (d++[63::Lib.itoa (ns.idxOf (63::s):Nat)],ns) (by simp;omega) eZ ?_;simp[nE,<-pP];exact⟨by simp[fresh,aj,ak,bj,ag,Pv.look,dT,dQ],cg (by simp[fresh,aj,ak,bj,ag,Pv.look,dT,dQ]),ch (by simp[fresh,aj,ak,cc,ag,Pv.look,dT,dQ]),Ψ⟩
   ·rw[mF]at cU;rw[bn]at cy;simp only[tU,lV,Option.isSome]at cy;have Js:¬n<0:=Ω
    have Ju:¬100000<n:=Ω
    simp[nE,-vd];(with_reducible repeat' first|refine av ?_|refine ba cy ?_|refine bb cy ?_|refine ba cU ?_|refine bb cU ?_|refine ba cZ ?_|refine bb cZ ?_|simp[kg,l6,en,x2,Js,Ju,hZ,ni]);refine bU.whl (d++[63::Lib.itoa (ns.idxOf (63::s):Nat)],ns) (by simp;omega) eZ ?_;simp[nE,<-pP];exact⟨by simp[fresh,aj,ak,bj,ag,Pv.look,dT,dQ],cg (by simp[fresh,aj,ak,bj,ag,Pv.look,dT,dQ]),ch (by simp[fresh,aj,ak,cc,ag,Pv.look,dT,dQ]),Ψ⟩
  ·rw[bo hm]at eZ;have x2:=fun(g:aO->a1 (List al)) (aR:g (.loc 2)=some (jv (mI ns)))=>SE g (.loc 2) (63::s) ns aR;simp only[bo hm]at x2;have acu:ns.idxOf (63::s)=ns.length:=List.idxOf_eq_length hm;have lD:=ahx hm;have lB:=SH ns;rw[acu]at cZ hZ ni eZ acs;rcases h6 with mF|⟨mF,n,bn,x6,Jt⟩
   ·rw[mF]at cU;unfold tU at cy;simp[nE,-vd];(with_reducible repeat' first|refine av ?_|refine ba cy ?_|refine bb cy ?_|refine ba cU ?_|refine bb cU ?_|refine ba cZ ?_|refine bb cZ ?_|simp[kg,l6,en,x2,mF,hZ,ni,lD,lB]);refine bU.whl (d++[63::Lib.itoa (ns.length:Nat)],ns++[63::s]) (by simp;omega) eZ ?_;simp[nE,<-pP];exact⟨by simp[fresh,aj,ak,bj,ag,Pv.look,dT,dQ],cg (by simp[fresh,aj,ak,bj,ag,Pv.look,dT,dQ]),ch (by simp[fresh,aj,ak,cc,ag,Pv.look,dT,dQ]),Ψ⟩
   ·rw[mF]at cU;rw[bn]at cy;simp only[tU,lV,Option.isSome]at cy;have Js:¬n<0:=Ω
    have Ju:¬100000<n:=Ω
    simp[nE,-vd];(with_reducible repeat' first|refine av ?_|refine ba cy ?_|refine bb cy ?_|refine ba cU ?_|refine bb cU ?_|refine ba cZ ?_|refine bb cZ ?_|simp[kg,l6,en,x2,Js,Ju,hZ,ni,lD,lB]);refine bU.whl (d++[63::Lib.itoa (ns.length:Nat)],ns++[63::s]) (by simp;omega) eZ ?_;simp[nE,<-pP];exact⟨by simp[fresh,aj,ak,bj,ag,Pv.look,dT,dQ],cg (by simp[fresh,aj,ak,bj,ag,Pv.look,dT,dQ]),ch (by simp[fresh,aj,ak,cc,ag,Pv.look,dT,dQ]),Ψ⟩
 ·have ab3:d.length=jf.length:=Ω
  have iK:¬((f:Int)+d.length<e):=Ω
  rw[ab3,kG]at heq;have abB:R=some (d,ns):=by rw[bH,heq];simp[num]
  rw[abB];simp only[Ag];have nL:jf.drop d.length=[]:=List.drop_eq_nil_of_le Ω;have acf:(l.take f).length=f:=by rw[n7];omega
  have acD:(l.take f++d).length=e:=by rw[fU,acf];omega
  have ab7:(l.take f++d).drop f=d:=by rw[List.drop_append_of_le_length Ω];rw[List.drop_eq_nil_of_le Ω];rfl
  have h8:=XZ l (l.take f++d) Ω aG (fun w p9=>by
   rcases fM.1 p9 with h|h
   ·exact hw w (List.mem_of_mem_take h)
   ·exact aD.ok w h) (i:=i) (f:=f) Ω name ns Ω
  rw[ab7]at h8;rw[nL,mg];simp[nE];(with_reducible repeat' first|refine av ?_|simp[iK]);simp only[Hk,acD]at h8;rw[show(f:Int)+d.length=e by omega];exact h8
def s8(l:List (List ah))(f:Nat)(name:List ah)(d:Int)(k:Nat):a6:=⟨[(0,.ptr (.obj 871) 0),(2,.ptr (.loc 0) 0),(3,.bool false),(4,.ptr (.loc 1) 0),(5,.int .i64 f),(6,.int .i64 d),(7,.int .i64 ((f+k:Nat):Int))],[(.loc 0,dT),(.loc 1,dQ name 0),(.obj 871,[.slice 1 .no (cl l),.int .i64 f])],[],2,[.obj 871]⟩
def s9(l:List (List ah))(f t:Nat)(name:List ah)(d:Int)(k:Nat):a6:=⟨[(0,.ptr (.obj 871) 0),(2,.ptr (.loc 0) 0),(3,.bool false),(4,.ptr (.loc 1) 0),(5,.int .i64 f),(6,.int .i64 d),(8,.int .i64 ((t+k:Nat):Int))],[(.loc 0,dT),(.loc 1,dQ name 0),(.obj 871,[.slice 1 .no (cl l),.int .i64 f])],[],2,[.obj 871]⟩
theorem XO(d:Int)(w:List ah)(r:List (List ah)):jP d (w::r)=(if d+fv w<0 then 0 else jP (d+fv w) r)+1:=by simp only[jP];split<;>simp
theorem Pd:fv [40]=1:=rfl
theorem Pe:fv [41]= -1:=rfl
theorem Ig{w:List ah}(bK:w≠[40])(I:w≠[41]):fv w=0:=by unfold fv;rw[bo bK,bo I]
def CI(L:List (List ah))(x:Int×Nat):Prop:=x.2<=L.length/\(-(x.2:Int)<=x.1/\x.1<=x.2)/\(if 0<=x.1 then x.2+jP x.1 (L.drop x.2)else x.2)=jP 0 L
theorem RV{L:List (List ah)}{d:Int}{k:Nat}{w:List ah}(h:CI L (d,k))(aP:0<=d)(hw:L[k]? =some w):CI L (d+fv w,k+1):=by
 obtain⟨I,J,aA⟩:=h;simp only at I J aA;have aa:=(eV.1 hw).1;rw[bP aP,fH hw,XO]at aA;have ao: -1<=fv w/\fv w<=1:=by
  by_cases mY:w=[40]
  ·subst mY;decide
  by_cases aB:w=[41]
  ·subst aB;decide
  rw[Ig mY aB];omega
 refine⟨by simp only;omega,by simp only;push_cast;omega,?_⟩;simp only;by_cases aJ:d+fv w<0
 ·rw[bP aJ]at aA;rw[bo Ω];omega
 ·rw[bo aJ]at aA;rw[bP Ω];omega
theorem RU{L:List (List ah)}{d:Int}{k:Nat}(h:CI L (d,k))(he:k=L.length\/d<0):k=jP 0 L:=by
 obtain⟨I,J,aA⟩:=h;simp only at I aA;rcases he with rfl|aP
 ·rw[kG]at aA;split at aA
  ·simpa[jP]using aA
  ·exact aA
 ·rw[bo Ω]at aA;exact aA
theorem X4(l:List (List ah))(aG:l.length<=100000){i f:Nat}(aY:f<=l.length)(name:List ah){Q:Exit->a6->Prop}(mN:List (Nat×al))(bK:Pv.get 0 mN= .ptr (.obj 871) 0)(J:Pv.get 2 mN= .ptr (.loc 0) 0)(aA:Pv.get 3 mN= .bool false)(aS:Pv.get 4 mN= .ptr (.loc 1) 0)(bG:Pv.get 5 mN= .int .i64 f)(cq:Pv.get 6 mN= .int .i64 0)(hB:∀t,Pv.get 0 t= .ptr (.obj 871) 0->Pv.get 2 t= .ptr (.loc 0) 0->Pv.get 3 t= .bool false->Pv.get 4 t= .ptr (.loc 1) 0->Pv.get 5 t= .int .i64 f->Pv.get 7 t= .int .i64 ((f+jP 0 (l.drop f):Nat):Int)->cL aQ [.obj 871] D6 Q ⟨t,[(.loc 0,dT),(.loc 1,dQ name 0),(.obj 871,[.slice 1 .no (cl l),.int .i64 f])],[],2,[.obj 871]⟩):
  cL aQ [.obj 871] HK Q ⟨mN,[(.loc 0,dT),(.obj 871,[.slice 1 .no (cl l),.int .i64 f]),(.loc 1,dQ name 0)],[],2,[.obj 871,.obj 871,.obj 871,.obj 871,.obj 871,.obj 871]⟩:=by
 unfold HK;simp[bG,Pv.get_put];refine gf (fun x:Int×Nat=>s8 l f name x.1 x.2) (fun x=>l.length-(f+x.2)) (fun x=>CI (l.drop f) x) (0,0) (by simp[s8];exact⟨by simp[fresh,aj,ak,bj,ag,Pv.look,dT,dQ,Pv.get_put,bK,J,aA,aS,bG,cq],cg (by simp[fresh,aj,ak,bj,ag,Pv.look,dT,dQ,Pv.get_put,bK,J,aA,aS,bG,cq]),ch (by simp[fresh,aj,ak,cc,ag,Pv.look,dT,dQ,Pv.get_put,bK,J,aA,aS,bG,cq]),Ψ⟩) ⟨Ψ,Ψ,Ψ⟩ ?_;rintro⟨d,k⟩ aD _;simp only;have Jk:=aD.1;simp only[hG]at Jk;by_cases eL:f+k<l.length/\0<=d
 ·obtain⟨bY,aP⟩:=eL;obtain⟨w,ad⟩:∃w,(l.drop f)[k]? =some w:=⟨_,cS (by simp;omega)⟩;have e2:=(eV.1 ad).1;have gr:(cl l)[((f:Int)+k).toNat]?.getD al.junk= .str w:=by rw[show((f:Int)+k).toNat=f+k by omega,cl,pQ,<-lT,ad];rfl
  have bY:f+k<l.length:=by simp at e2;omega
  have en:aZ ((f:Int)+k+1):=by unfold aZ;omega
  have jS:aZ (d+1):=by have:=aD.2.1;simp only at this;unfold aZ;omega
  have ie:aZ (d-1):=by have:=aD.2.1;simp only at this;unfold aZ;omega
  have eA:=RV aD aP ad;have kg:(f:Int)+k<l.length:=Ω
  rcases(by by_cases h:w=[40];exact .inl h;by_cases cx:w=[41];exact .inr (.inl cx);exact .inr (.inr ⟨h,cx⟩):w=[40]\/w=[41]\/w≠[40]/\w≠[41])with rfl|rfl|⟨oA,e1⟩
  ·rw[Pd]at eA;simp[s8];(with_reducible repeat' first|refine av ?_|simp[bY,kg,aP,gr,en,jS,ie]);refine bU.whl (d+1,k+1) (by simp only;omega) eA ?_;simp[s8,<-pP];exact⟨by simp[fresh,aj,ak,bj,ag,Pv.look,dT,dQ],cg (by simp[fresh,aj,ak,bj,ag,Pv.look,dT,dQ]),ch (by simp[fresh,aj,ak,cc,ag,Pv.look,dT,dQ]),Ψ⟩
  ·rw[Pe]at eA;simp[s8];(with_reducible repeat' first|refine av ?_|simp[bY,kg,aP,gr,en,jS,ie]);refine bU.whl (d-1,k+1) (by simp only;omega) eA ?_;simp[s8,<-pP];exact⟨by simp[fresh,aj,ak,bj,ag,Pv.look,dT,dQ],cg (by simp[fresh,aj,ak,bj,ag,Pv.look,dT,dQ]),ch (by simp[fresh,aj,ak,cc,ag,Pv.look,dT,dQ]),Ψ⟩
  ·rw[Ig oA e1,Int.add_zero]at eA;have qY:(w==[40])=false:=jy.2 oA;have jn:(w==[41])=false:=jy.2 e1;simp[s8];(with_reducible repeat' first|refine av ?_|simp[bY,kg,aP,gr,en,qY,jn]);refine bU.whl (d,k+1) (by simp only;omega) eA ?_;simp[s8,<-pP];exact⟨by simp[fresh,aj,ak,bj,ag,Pv.look,dT,dQ],cg (by simp[fresh,aj,ak,bj,ag,Pv.look,dT,dQ]),ch (by simp[fresh,aj,ak,cc,ag,Pv.look,dT,dQ]),Ψ⟩
 ·have he:=RU aD (by simp only[hG];omega);have aR:(decide ((f:Int)+k<l.length)&&decide (0<=d))=false:=by rw[Bool.and_eq_false_iff,decide_eq_false_iff_not,decide_eq_false_iff_not];omega
  by_cases kg:(f:Int)+k<l.length
  ·have ie:¬0<=d:=Ω
   simp[s8];(with_reducible repeat' first|refine av ?_|simp[kg,ie]);exact hB _ rfl rfl rfl rfl rfl (by rw[<-he];rfl)
  ·simp[s8];(with_reducible repeat' first|refine av ?_|simp[kg]);exact hB _ rfl rfl rfl rfl rfl (by rw[<-he];rfl)
theorem X5(l:List (List ah))(aG:l.length<=100000){f t:Nat}(aY:f<=l.length)(akB:t<=l.length)(name:List ah){Q:Exit->a6->Prop}(mN:List (Nat×al))(bK:Pv.get 0 mN= .ptr (.obj 871) 0)(J:Pv.get 2 mN= .ptr (.loc 0) 0)(aA:Pv.get 3 mN= .bool false)(aS:Pv.get 4 mN= .ptr (.loc 1) 0)(bG:Pv.get 5 mN= .int .i64 f)(dW:Pv.get 7 mN= .int .i64 t)
  (uK:∀u,Pv.get 0 u= .ptr (.obj 871) 0->Pv.get 2 u= .ptr (.loc 0) 0->Pv.get 3 u= .bool false->Pv.get 4 u= .ptr (.loc 1) 0->Pv.get 5 u= .int .i64 f->Pv.get 8 u= .int .i64 ((t+jP 0 (l.drop t):Nat):Int)->Pv.get 9 u= .gmap (.loc 2)->Pv.get 10 u= .row 1 (.obj 873) (t+jP 0 (l.drop t))->cL aQ [.obj 871] D7 Q ⟨u,[(.loc 0,dT),(.loc 1,dQ name 0),(.obj 871,[.slice 1 .no (cl l),.int .i64 f]),(.loc 2,jv (mI []))],[(.obj 873,⟨t+jP 0 (l.drop t),9,1,some (cl (l.take (t+jP 0 (l.drop t))))⟩)],3,[.obj 873,.obj 871]⟩):
  cL aQ [.obj 871] D6 Q ⟨mN,[(.loc 0,dT),(.loc 1,dQ name 0),(.obj 871,[.slice 1 .no (cl l),.int .i64 f])],[],2,[.obj 871]⟩:=by
 unfold D6;simp[bK,J,aA,aS,bG,dW,Pv.get_put];refine gf (fun x:Int×Nat=>s9 l f t name x.1 x.2) (fun x=>l.length-(t+x.2)) (fun x=>CI (l.drop t) x) (0,0) (by simp[s9];exact⟨by simp[fresh,aj,ak,bj,ag,Pv.look,dT,dQ,Pv.get_put,bK,J,aA,aS,bG,dW],cg (by simp[fresh,aj,ak,bj,ag,Pv.look,dT,dQ,Pv.get_put,bK,J,aA,aS,bG,dW]),ch (by simp[fresh,aj,ak,cc,ag,Pv.look,dT,dQ,Pv.get_put,bK,J,aA,aS,bG,dW]),Ψ⟩) ⟨Ψ,Ψ,Ψ⟩ ?_;rintro⟨d,k⟩ aD _;simp only;have Jk:=aD.1;simp only[hG]at Jk;by_cases eL:t+k<l.length/\0<=d
 ·obtain⟨bY,aP⟩:=eL;obtain⟨w,ad⟩:∃w,(l.drop t)[k]? =some w:=⟨_,cS (by simp;omega)⟩;have e2:=(eV.1 ad).1;have gr:(cl l)[((t:Int)+k).toNat]?.getD al.junk= .str w:=by rw[show((t:Int)+k).toNat=t+k by omega,cl,pQ,<-lT,ad];rfl
  have bY:t+k<l.length:=by simp at e2;omega
  have en:aZ ((t:Int)+k+1):=by unfold aZ;omega
  have jS:aZ (d+1):=by have:=aD.2.1;simp only at this;unfold aZ;omega
  have ie:aZ (d-1):=by have:=aD.2.1;simp only at this;unfold aZ;omega
  have eA:=RV aD aP ad;have kg:(t:Int)+k<l.length:=Ω
  rcases(by by_cases h:w=[40];exact .inl h;by_cases cx:w=[41];exact .inr (.inl cx);exact .inr (.inr ⟨h,cx⟩):w=[40]\/w=[41]\/w≠[40]/\w≠[41])with rfl|rfl|⟨oA,e1⟩
  ·rw[Pd]at eA;simp[s9];(with_reducible repeat' first|refine av ?_|simp[bY,kg,aP,gr,en,jS,ie]);refine bU.whl (d+1,k+1) (by simp only;omega) eA ?_;simp[s9,<-pP];exact⟨by simp[fresh,aj,ak,bj,ag,Pv.look,dT,dQ],cg (by simp[fresh,aj,ak,bj,ag,Pv.look,dT,dQ]),ch (by simp[fresh,aj,ak,cc,ag,Pv.look,dT,dQ]),Ψ⟩
  ·rw[Pe]at eA;simp[s9];(with_reducible repeat' first|refine av ?_|simp[bY,kg,aP,gr,en,jS,ie]);refine bU.whl (d-1,k+1) (by simp only;omega) eA ?_;simp[s9,<-pP];exact⟨by simp[fresh,aj,ak,bj,ag,Pv.look,dT,dQ],cg (by simp[fresh,aj,ak,bj,ag,Pv.look,dT,dQ]),ch (by simp[fresh,aj,ak,cc,ag,Pv.look,dT,dQ]),Ψ⟩
  ·rw[Ig oA e1,Int.add_zero]at eA;have qY:(w==[40])=false:=jy.2 oA;have jn:(w==[41])=false:=jy.2 e1;simp[s9];(with_reducible repeat' first|refine av ?_|simp[bY,kg,aP,gr,en,qY,jn]);refine bU.whl (d,k+1) (by simp only;omega) eA ?_;simp[s9,<-pP];exact⟨by simp[fresh,aj,ak,bj,ag,Pv.look,dT,dQ],cg (by simp[fresh,aj,ak,bj,ag,Pv.look,dT,dQ]),ch (by simp[fresh,aj,ak,cc,ag,Pv.look,dT,dQ]),Ψ⟩
 ·have he:=RU aD (by simp only[hG];omega);have Q5:((t:Int)+k).toNat=t+k:=Ω
  have hle:(t:Int)+k<=l.length:=Ω
  have Cg:t+k<=l.length:=Ω
  have gg:t+k<=bs:=by unfold bs;omega
  have x3:min (t+k) l.length=t+k:=Nat.min_eq_left Cg;have zR:List.take (t+k) (cl l)=cl (l.take (t+k)):=by simp[cl]
  by_cases kg:(t:Int)+k<l.length
  ·have ie:¬0<=d:=Ω
   simp[s9];(with_reducible repeat' first|refine av ?_|simp[kg,ie,Q5,hle,gg]);rw[x3,zR];subst he;exact uK _ rfl rfl rfl rfl rfl rfl rfl rfl
  ·simp[s9];(with_reducible repeat' first|refine av ?_|simp[kg,Q5,hle,gg]);rw[x3,zR];subst he;exact uK _ rfl rfl rfl rfl rfl rfl rfl rfl
theorem Eh{x:List (List ah)}(h:¬(x[0]? =some [40]/\x[1]? =some ha/\x[2]? =some [40]/\x[3]?≠none)):mv x=none:=by
 unfold mv;split
 ·rename_i d name FL;by_cases aP:d=ha
  ·exact absurd ⟨rfl,by simp[aP],rfl,Ψ⟩ h
  ·rw[bo aP]
 ·rfl
theorem af5(l du:List (List ah))(name:List ah)(c:Nat)(cF:List (List ah)):qm l du name c (hp 0 cF)=(ot name c cF).map fun x=>(x.1,l.drop (du.length-x.2.length)):=by
 unfold ot;cases bn:hp 0 cF with
 |none=>rfl
 |some y=>
  obtain⟨k,r⟩:=y;simp only[qm,Bo];split
  ·rename_i g e3 aR;rw[aR];rfl
  ·rename_i h;split
   ·rename_i g e3 aR;exact absurd aR (h g e3)
   ·rfl
theorem aeQ{l:List (List ah)}{i e:Nat}{name:List ah}(bK:l[i]? =some [40])(I:l[i+1]? =some ha)(J:l[i+2]? =some [40])(aA:l[i+3]? =some name)(he:e=i+4+mu (l.drop (i+4)))(EY:e<=l.length):
  Ag l (i+4) name (num [] ((l.drop (i+4)).take (e-(i+4))))=mv (l.drop i):=by
 rw[fH bK,fH I,fH J,fH aA];simp only[mv,if_true,he,show i+4+mu (l.drop (i+4))-(i+4)=mu (l.drop (i+4)) by omega];rw[show i+3+1=i+4 by omega];cases aJ:num [] ((l.drop (i+4)).take (mu (l.drop (i+4))))with
 |none=>rfl
 |some y=>
  obtain⟨cF,ms⟩:=y;have sd:=(wJ _ _ _ _ aJ).1;rw[n7,hG]at sd;simp only[Ag,af5];cases ao:ot name ms.length cF with
  |none=>rfl
  |some z=>
   obtain⟨x,e3⟩:=z;obtain⟨p,q,aU,_⟩:=Eg ao;have l5:e3.length<=cF.length:=by rw[aU];simp;omega
   simp only[oa,List.drop_drop,fU,n7];congr 3;omega
theorem aaK(l:List (List ah))(aG:l.length<=100000)(hw:∀w∈l,w≠[]/\w.length<=bs){i:Nat}(aE:i<=l.length):bJ aQ 110 [aM 871] (ae 871 l i) (uC l (mv (l.drop i))):=by
 have QX:i<=1000000:=Ω
 by_cases bK:l[i]? =some [40];rotate_left
 ·rw[Eh (by rw[lT];intro h;exact bK h.1)];have fc:=jY (ky:=871) QX bK;have au:=bE (ky:=871) l i;simp only[ae]at au;refine bJ.mk mixed vC BI C1 Ψ au.obj fun aL bT=>?_;unfold y7;clear aL bT;simp[ae,aM];refine bc.ob (fc) (bE _ _) (by simp only[ae];exact ai) (by simp only[ae];exact ai) (by simp[ag,Pv.look,ae,aM,dx,aj,ak]) ?_;rintro r aq ⟨rfl,rfl⟩;refine⟨b9 _ _ _ _,?_⟩;simp[aX,ae,aM];(with_reducible repeat' first|refine av ?_|simp);refine bL.dfi (i) (pB) false Ψ (pX aE _) (by simp only[ae];exact ai) (by simp only[ae];exact ai) ?_;simp[bV,bg,bh,bf,cm,ca];exact qs.symm
 have fc:=oZ (ky:=871) QX bK;have nf:=(eV.1 bK).1;by_cases I:l[i+1]? =some ha;rotate_left
 ·rw[Eh (by rw[lT,lT];intro h;exact I h.2.1)];have cE:=jY (ky:=871) (i:=i+1) Ω I;rw[show ha=[100,101,102,105,110,101]from rfl]at cE;have au:=bE (ky:=871) l i;simp only[ae]at au;refine bJ.mk mixed vC BI C1 Ψ au.obj fun aL bT=>?_;unfold y7;clear aL bT;simp[ae,aM];refine bc.ob (fc) (bE _ _) (by simp only[ae];exact ai) (by simp only[ae];exact ai) (by simp[ag,Pv.look,ae,aM,dx,aj,ak]) ?_;rintro r aq ⟨rfl,rfl⟩;refine⟨b9 _ _ _ _,?_⟩;simp[aX,ae,aM];(with_reducible repeat' first|refine av ?_|simp);refine bc.ob (cE) (bE _ _) (by simp only[ae];exact ai) (by simp only[ae];exact ai) (by simp[ag,Pv.look,ae,aM,dx,aj,ak]) ?_;rintro r aq ⟨rfl,rfl⟩;refine⟨b9 _ _ _ _,?_⟩;simp[aX,ae,aM];(with_reducible repeat' first|refine av ?_|simp);refine bL.dfi (i+1) (pB) false Ψ (pX Ω _) (by simp only[ae];exact ai) (by simp only[ae];exact ai) ?_;simp[bV,bg,bh,bf,cm,ca];exact qs.symm
 have cE:=oZ (ky:=871) (i:=i+1) Ω I;rw[show ha=[100,101,102,105,110,101]from rfl]at cE;have zJ:=(eV.1 I).1;by_cases J:l[i+2]? =some [40];rotate_left
 ·rw[Eh (by rw[lT,lT,lT];intro h;exact J h.2.2.1)];have dj:=jY (ky:=871) (i:=i+1+1) Ω J;have au:=bE (ky:=871) l i;simp only[ae]at au;refine bJ.mk mixed vC BI C1 Ψ au.obj fun aL bT=>?_;unfold y7;clear aL bT;simp[ae,aM];refine bc.ob (fc) (bE _ _) (by simp only[ae];exact ai) (by simp only[ae];exact ai) (by simp[ag,Pv.look,ae,aM,dx,aj,ak]) ?_;rintro r aq ⟨rfl,rfl⟩;refine⟨b9 _ _ _ _,?_⟩;simp[aX,ae,aM];(with_reducible repeat' first|refine av ?_|simp);refine bc.ob (cE) (bE _ _) (by simp only[ae];exact ai) (by simp only[ae];exact ai) (by simp[ag,Pv.look,ae,aM,dx,aj,ak]) ?_;rintro r aq ⟨rfl,rfl⟩;refine⟨b9 _ _ _ _,?_⟩;simp[aX,ae,aM];(with_reducible repeat' first|refine av ?_|simp);refine bc.ob (dj) (bE _ _) (by simp only[ae];exact ai) (by simp only[ae];exact ai) (by simp[ag,Pv.look,ae,aM,dx,aj,ak]) ?_;rintro r aq ⟨rfl,rfl⟩;refine⟨b9 _ _ _ _,?_⟩;simp[aX,ae,aM];(with_reducible repeat' first|refine av ?_|simp);refine bL.dfi (i+1+1) (pB) false Ψ (pX Ω _) (by simp only[ae];exact ai) (by simp only[ae];exact ai) ?_;simp[bV,bg,bh,bf,cm,ca];exact qs.symm
 have dj:=oZ (ky:=871) (i:=i+1+1) Ω J;have akF:=(eV.1 J).1;by_cases aA:i+3=l.length
 ·rw[Eh (by rw[lT,lT,lT,lT];intro h;exact h.2.2.2 (List.getElem?_eq_none Ω))];have gD:=BA (ky:=871) l;rw[show l.length=i+1+1+1 by omega]at gD;have hle:i+1+1+1<=l.length:=Ω
  clear aA;have au:=bE (ky:=871) l i;simp only[ae]at au;refine bJ.mk mixed vC BI C1 Ψ au.obj fun aL bT=>?_;unfold y7;clear aL bT;simp[ae,aM];refine bc.ob (fc) (bE _ _) (by simp only[ae];exact ai) (by simp only[ae];exact ai) (by simp[ag,Pv.look,ae,aM,dx,aj,ak]) ?_;rintro r aq ⟨rfl,rfl⟩;refine⟨b9 _ _ _ _,?_⟩;simp[aX,ae,aM];(with_reducible repeat' first|refine av ?_|simp);refine bc.ob (cE) (bE _ _) (by simp only[ae];exact ai) (by simp only[ae];exact ai) (by simp[ag,Pv.look,ae,aM,dx,aj,ak]) ?_;rintro r aq ⟨rfl,rfl⟩;refine⟨b9 _ _ _ _,?_⟩;simp[aX,ae,aM];(with_reducible repeat' first|refine av ?_|simp);refine bc.ob (dj) (bE _ _) (by simp only[ae];exact ai) (by simp only[ae];exact ai) (by simp[ag,Pv.look,ae,aM,dx,aj,ak]) ?_;rintro r aq ⟨rfl,rfl⟩;refine⟨b9 _ _ _ _,?_⟩;simp[aX,ae,aM];((with_reducible repeat' first|refine av ?_|simp|((first|apply cN|apply cP|apply cO)<;>intro h<;>try simp at h))<;>(try exact dr));refine bc.ob (gD) (bE _ _) (by simp only[ae];exact ai) (by simp only[ae];exact ai) (by simp[ag,Pv.look,ae,aM,dx,aj,ak]) ?_;rintro r aq ⟨rfl,rfl⟩;refine⟨b9 _ _ _ _,?_⟩;simp[aX,ae,aM];((with_reducible repeat' first|refine av ?_|simp|((first|apply cN|apply cP|apply cO)<;>intro h<;>try simp at h))<;>(try exact dr));refine bL.dfi (i+1+1+1) (pB) false Ψ (pX hle _) (by simp only[ae];exact ai) (by simp only[ae];exact ai) ?_;simp[bV,bg,bh,bf,cm,ca];exact qs.symm
 have gD:bJ aQ 83 [aM 871] (ae 871 l (i+1+1+1)) fun r aq=>r= .bool false/\aq=ae 871 l (i+1+1+1):=pb Ω;obtain⟨name,aJ⟩:∃w,l[i+3]? =some w:=⟨_,cS Ω⟩;have jV:=EK (ky:=871) l (i+1+1+1);rw[show l[i+1+1+1]? =some name from aJ]at jV;simp only[lV]at jV;have en:aZ ((i:Int)+1+1+1+1):=by unfold aZ;omega
 obtain⟨c8,jo⟩:∃c,c=jP 0 (l.drop (i+4)):=⟨_,rfl⟩;have abL:=H6 0 (l.drop (i+4));rw[hG,<-jo]at abL;obtain⟨c2,hj⟩:∃c,c=jP 0 (l.drop (i+4+c8)):=⟨_,rfl⟩;have abM:=H6 0 (l.drop (i+4+c8));rw[hG,<-hj]at abM;have cQ:i+4+c8+c2=i+4+mu (l.drop (i+4)):=by unfold mu;rw[<-jo,List.drop_drop,<-hj];omega
 rw[<-aeQ bK I J aJ cQ Ω];have key:=fun mN t0 t2 t3 t4 t5 t6=>X4 l aG (i:=i) (f:=i+4) Ω name (Q:=bL [.cell 2 true 7,.tmp 3] (ae 871 l i) (uC l (Ag l (i+4) name (num [] ((l.drop (i+4)).take (i+4+c8+c2-(i+4))))))) mN t0 t2 t3 t4 t5 t6 (fun t t0 t2 t3 t4 t5 t7=>by refine X5 l aG (f:=i+4) (t:=i+4+c8) Ω Ω name t t0 t2 t3 t4 t5 (by rw[t7,jo]) (fun u me hF w5 ahS Vv u8 Vw Vu=>?_);rw[<-hj]at u8 Vu⊢;exact XY l aG hw (i:=i) (f:=i+4) (e:=i+4+c8+c2) Ω Ω name _ rfl u me hF w5 ahS Vv u8 Vw Vu)
 have au:=bE (ky:=871) l i;simp only[ae]at au;refine bJ.mk mixed vC BI C1 Ψ au.obj fun aL bT=>?_;unfold y7;clear aL bT;simp[ae,aM];refine bc.ob (fc) (bE _ _) (by simp only[ae];exact ai) (by simp only[ae];exact ai) (by simp[ag,Pv.look,ae,aM,dx,aj,ak]) ?_;rintro r aq ⟨rfl,rfl⟩;refine⟨b9 _ _ _ _,?_⟩;simp[aX,ae,aM];((with_reducible repeat' first|refine av ?_|simp|((first|apply cN|apply cP|apply cO)<;>intro h<;>try simp at h))<;>(try exact dr));refine bc.ob (cE) (bE _ _) (by simp only[ae];exact ai) (by simp only[ae];exact ai) (by simp[ag,Pv.look,ae,aM,dx,aj,ak]) ?_;rintro r aq ⟨rfl,rfl⟩;refine⟨b9 _ _ _ _,?_⟩;simp[aX,ae,aM];(with_reducible repeat' first|refine av ?_|simp);refine bc.ob (dj) (bE _ _) (by simp only[ae];exact ai) (by simp only[ae];exact ai) (by simp[ag,Pv.look,ae,aM,dx,aj,ak]) ?_;rintro r aq ⟨rfl,rfl⟩;refine⟨b9 _ _ _ _,?_⟩;simp[aX,ae,aM];(with_reducible repeat' first|refine av ?_|simp);refine bc.ob (gD) (bE _ _) (by simp only[ae];exact ai) (by simp only[ae];exact ai) (by simp[ag,Pv.look,ae,aM,dx,aj,ak]) ?_;rintro r aq ⟨rfl,rfl⟩;refine⟨b9 _ _ _ _,?_⟩;simp[aX,ae,aM];(with_reducible repeat' first|refine av ?_|simp);refine bc.ob (jV) (bE _ _) (by simp only[ae];exact ai) (by simp only[ae];exact ai) (by simp[ag,Pv.look,ae,aM,dx,aj,ak]) ?_;rintro r aq ⟨rfl,rfl⟩;refine⟨b9 _ _ _ _,?_⟩;simp[aX,ae,aM];(with_reducible repeat' first|refine av ?_|simp[en]);simp[dT,dQ,pP]at key;simp[dT,dQ,pP];refine key _ ?_ ?_ ?_ ?_ ?_ ?_<;>simp[pP]
end
end Go.Proofs.YtlnndmgfngfeiaaGreatDoor
