/- Goals as they come: a part may be longer than any program can use. -/
import Derived.Test.YtlnndmgfngfeiaaGreatDoorProg
import Derived.Test.YtlnndmgfngfeiaaGreatDoorZn9
set_option linter.all false
set_option maxHeartbeats 4000000
set_option maxRecDepth 4000
open Bool renaming and_eq_true->bJ
open Go.Proofs.Tryz renaming prog->aF
open Int renaming add_assoc->qA
open List renaming all_eq_true->ji,cons_append->dF,drop_eq_getElem_cons->pR,drop_length->jR,getElem?_drop->mb,getElem?_eq_getElem->cL,getElem?_eq_some_iff->fo,length_append->gx,length_cons->gg,length_drop->hX,length_map->nh,length_nil->mJ,length_take->pS,map_cons->fF,mem_append->hl,mem_cons->gy,mem_map->nj,mem_of_getElem?->e1,nil_append->eE,take_add_one->k3,take_append_drop->ry,take_length->hE
open Nat renaming eq_or_lt_of_le->jS,le_refl->cc,lt_or_ge->mc,zero_le->pT
open Option renaming getD->kn,getD_some->qD,isSome->sL,isSome_none->uu,map_eq_some_iff->iN,map_none->vC,map_some->lM
open Option.some renaming inj->gB,injEq->ei
open Prod.mk renaming injEq->gY
open _root_ renaming ByteArray->k1,False->dr,Option->aW,UInt8->aj,beq_eq_false_iff_ne->jj,decide_eq_true->oX,decide_eq_true_eq->fs,if_neg->br
namespace Go.Proofs.YtlnndmgfngfeiaaGreatDoor
section
open Go Go.Pv
def uz(l:List (List aj))(f:Nat)(name:List aj)(d:Int)(k:Nat):aU:=⟨[(0,.ptr (.obj 871) 0),(2,.ptr (.loc 0) 0),(3,.bool false),(4,.ptr (.loc 1) 0),(5,.int .i64 f),(6,.int .i64 d),(7,.int .i64 ((f+k:Nat):Int))],[(.loc 0,ez),(.loc 1,ep name 0),(.obj 871,[.slice 1 .no (b6 l),.int .i64 f])],[],2,[.obj 871]⟩
def uA(l:List (List aj))(f t:Nat)(name:List aj)(d:Int)(k:Nat):aU:=⟨[(0,.ptr (.obj 871) 0),(2,.ptr (.loc 0) 0),(3,.bool false),(4,.ptr (.loc 1) 0),(5,.int .i64 f),(6,.int .i64 d),(8,.int .i64 ((t+k:Nat):Int))],[(.loc 0,ez),(.loc 1,ep name 0),(.obj 871,[.slice 1 .no (b6 l),.int .i64 f])],[],2,[.obj 871]⟩
theorem ZW(d:Int)(w:List aj)(r:List (List aj)):kp d (w::r)=(if d+gi w<0 then 0 else kp (d+gi w) r)+1:=by simp only[kp];split<;>simp
theorem QN:gi [40]=1:=rfl
theorem QO:gi [41]= -1:=rfl
theorem JJ{w:List aj}(bz:w≠[40])(I:w≠[41]):gi w=0:=by unfold gi;rw[br bz,br I]
def D4(L:List (List aj))(x:Int×Nat):Prop:=x.2<=L.length/\(-(x.2:Int)<=x.1/\x.1<=x.2)/\(if 0<=x.1 then x.2+kp x.1 (L.drop x.2)else x.2)=kp 0 L
theorem TS{L:List (List aj)}{d:Int}{k:Nat}{w:List aj}(h:D4 L (d,k))(aI:0<=d)(hw:L[k]? =some w):D4 L (d+gi w,k+1):=by
 obtain⟨I,J,au⟩:=h;simp only at I J au;have ab:=(fo.1 hw).1;rw[if_pos aI,fM hw,ZW]at au;have ah: -1<=gi w/\gi w<=1:=by
  by_cases kq:w=[40]
  ·subst kq;decide
  by_cases ao:w=[41]
  ·subst ao;decide
  rw[JJ kq ao];omega
 refine⟨by simp only;omega,by simp only;push_cast;omega,?_⟩;simp only;by_cases aM:d+gi w<0
 ·rw[if_pos aM]at au;rw[br Ω];omega
 ·rw[br aM]at au;rw[if_pos Ω];omega
theorem TR{L:List (List aj)}{d:Int}{k:Nat}(h:D4 L (d,k))(he:k=L.length\/d<0):k=kp 0 L:=by
 obtain⟨I,J,au⟩:=h;simp only at I au;rcases he with rfl|aI
 ·rw[jR]at au;split at au
  ·simpa[kp]using au
  ·exact au
 ·rw[br Ω]at au;exact au
theorem Z5(l:List (List aj))(aD:l.length<=100000){i f:Nat}(aK:f<=l.length)(name:List aj){Q:Exit->aU->Prop}(nN:List (Nat×ae))(bz:Pv.get 0 nN= .ptr (.obj 871) 0)(J:Pv.get 2 nN= .ptr (.loc 0) 0)(au:Pv.get 3 nN= .bool false)(aP:Pv.get 4 nN= .ptr (.loc 1) 0)(bA:Pv.get 5 nN= .int .i64 f)(cy:Pv.get 6 nN= .int .i64 0)(hB:∀t,Pv.get 0 t= .ptr (.obj 871) 0->Pv.get 2 t= .ptr (.loc 0) 0->Pv.get 3 t= .bool false->Pv.get 4 t= .ptr (.loc 1) 0->Pv.get 5 t= .int .i64 f->Pv.get 7 t= .int .i64 ((f+kp 0 (l.drop f):Nat):Int)->cQ aF [.obj 871] Fv Q ⟨t,[(.loc 0,ez),(.loc 1,ep name 0),(.obj 871,[.slice 1 .no (b6 l),.int .i64 f])],[],2,[.obj 871]⟩):
  cQ aF [.obj 871] I2 Q ⟨nN,[(.loc 0,ez),(.obj 871,[.slice 1 .no (b6 l),.int .i64 f]),(.loc 1,ep name 0)],[],2,[.obj 871,.obj 871,.obj 871,.obj 871,.obj 871,.obj 871]⟩:=by
 unfold I2;simp[bA,Pv.get_put];refine hR (fun x:Int×Nat=>uz l f name x.1 x.2) (fun x=>l.length-(f+x.2)) (fun x=>D4 (l.drop f) x) (0,0) (by simp[uz];exact⟨by simp[fresh,kinL,kin,bu,ak,Pv.look,ez,ep,Pv.get_put,bz,J,au,aP,bA,cy],cG (by simp[fresh,kinL,kin,bu,ak,Pv.look,ez,ep,Pv.get_put,bz,J,au,aP,bA,cy]),cI (by simp[fresh,kinL,kin,cw,ak,Pv.look,ez,ep,Pv.get_put,bz,J,au,aP,bA,cy]),Ψ⟩) ⟨Ψ,Ψ,Ψ⟩ ?_;rintro⟨d,k⟩ ai _;simp only;have KD:=ai.1;simp only[hX]at KD;by_cases fb:f+k<l.length/\0<=d
 ·obtain⟨b5,aI⟩:=fb;obtain⟨w,af⟩:∃w,(l.drop f)[k]? =some w:=⟨_,cL (by simp;omega)⟩;have ga:=(fo.1 af).1;have db:(b6 l)[((f:Int)+k).toNat]?.getD ae.junk= .str w:=by rw[show((f:Int)+k).toNat=f+k by omega,b6,List.getElem?_map,<-mb,af];rfl
  have b5:f+k<l.length:=by simp at ga;omega
  have eX:aY ((f:Int)+k+1):=by unfold aY;omega
  have ku:aY (d+1):=by have:=ai.2.1;simp only at this;unfold aY;omega
  have iH:aY (d-1):=by have:=ai.2.1;simp only at this;unfold aY;omega
  have e7:=TS ai aI af;have kQ:(f:Int)+k<l.length:=Ω
  rcases(by by_cases h:w=[40];exact .inl h;by_cases cu:w=[41];exact .inr (.inl cu);exact .inr (.inr ⟨h,cu⟩):w=[40]\/w=[41]\/w≠[40]/\w≠[41])with rfl|rfl|⟨pk,fa⟩
  ·rw[QN]at e7;simp[uz];(with_reducible repeat' first|refine av ?_|simp[b5,kQ,aI,db,eX,ku,iH]);refine b1.whl (d+1,k+1) (by simp only;omega) e7 ?_;simp[uz,<-qA];exact⟨by simp[fresh,kinL,kin,bu,ak,Pv.look,ez,ep],cG (by simp[fresh,kinL,kin,bu,ak,Pv.look,ez,ep]),cI (by simp[fresh,kinL,kin,cw,ak,Pv.look,ez,ep]),Ψ⟩
  ·rw[QO]at e7;simp[uz];(with_reducible repeat' first|refine av ?_|simp[b5,kQ,aI,db,eX,ku,iH]);refine b1.whl (d-1,k+1) (by simp only;omega) e7 ?_;simp[uz,<-qA];exact⟨by simp[fresh,kinL,kin,bu,ak,Pv.look,ez,ep],cG (by simp[fresh,kinL,kin,bu,ak,Pv.look,ez,ep]),cI (by simp[fresh,kinL,kin,cw,ak,Pv.look,ez,ep]),Ψ⟩
  ·rw[JJ pk fa,Int.add_zero]at e7;have vZ:(w==[40])=false:=jj.2 pk;have ks:(w==[41])=false:=jj.2 fa;simp[uz];(with_reducible repeat' first|refine av ?_|simp[b5,kQ,aI,db,eX,vZ,ks]);refine b1.whl (d,k+1) (by simp only;omega) e7 ?_;simp[uz,<-qA];exact⟨by simp[fresh,kinL,kin,bu,ak,Pv.look,ez,ep],cG (by simp[fresh,kinL,kin,bu,ak,Pv.look,ez,ep]),cI (by simp[fresh,kinL,kin,cw,ak,Pv.look,ez,ep]),Ψ⟩
 ·have he:=TR ai (by simp only[hX];omega);have aS:(decide ((f:Int)+k<l.length)&&decide (0<=d))=false:=by rw[Bool.and_eq_false_iff,decide_eq_false_iff_not,decide_eq_false_iff_not];omega
  by_cases kQ:(f:Int)+k<l.length
  ·have iH:¬0<=d:=Ω
   simp[uz];(with_reducible repeat' first|refine av ?_|simp[kQ,iH]);exact hB _ rfl rfl rfl rfl rfl (by rw[<-he];rfl)
  ·simp[uz];(with_reducible repeat' first|refine av ?_|simp[kQ]);exact hB _ rfl rfl rfl rfl rfl (by rw[<-he];rfl)
theorem Z6(l:List (List aj))(aD:l.length<=100000){f t:Nat}(aK:f<=l.length)(anw:t<=l.length)(name:List aj){Q:Exit->aU->Prop}(nN:List (Nat×ae))(bz:Pv.get 0 nN= .ptr (.obj 871) 0)(J:Pv.get 2 nN= .ptr (.loc 0) 0)(au:Pv.get 3 nN= .bool false)(aP:Pv.get 4 nN= .ptr (.loc 1) 0)(bA:Pv.get 5 nN= .int .i64 f)(eu:Pv.get 7 nN= .int .i64 t)
  (Kj:∀u,Pv.get 0 u= .ptr (.obj 871) 0->Pv.get 2 u= .ptr (.loc 0) 0->Pv.get 3 u= .bool false->Pv.get 4 u= .ptr (.loc 1) 0->Pv.get 5 u= .int .i64 f->Pv.get 8 u= .int .i64 ((t+kp 0 (l.drop t):Nat):Int)->Pv.get 9 u= .gmap (.loc 2)->Pv.get 10 u= .row 1 (.obj 873) (t+kp 0 (l.drop t))->cQ aF [.obj 871] Fw Q ⟨u,[(.loc 0,ez),(.loc 1,ep name 0),(.obj 871,[.slice 1 .no (b6 l),.int .i64 f]),(.loc 2,j1 (nI []))],[(.obj 873,⟨t+kp 0 (l.drop t),9,1,some (b6 (l.take (t+kp 0 (l.drop t))))⟩)],3,[.obj 873,.obj 871]⟩):
  cQ aF [.obj 871] Fv Q ⟨nN,[(.loc 0,ez),(.loc 1,ep name 0),(.obj 871,[.slice 1 .no (b6 l),.int .i64 f])],[],2,[.obj 871]⟩:=by
 unfold Fv;simp[bz,J,au,aP,bA,eu,Pv.get_put];refine hR (fun x:Int×Nat=>uA l f t name x.1 x.2) (fun x=>l.length-(t+x.2)) (fun x=>D4 (l.drop t) x) (0,0) (by simp[uA];exact⟨by simp[fresh,kinL,kin,bu,ak,Pv.look,ez,ep,Pv.get_put,bz,J,au,aP,bA,eu],cG (by simp[fresh,kinL,kin,bu,ak,Pv.look,ez,ep,Pv.get_put,bz,J,au,aP,bA,eu]),cI (by simp[fresh,kinL,kin,cw,ak,Pv.look,ez,ep,Pv.get_put,bz,J,au,aP,bA,eu]),Ψ⟩) ⟨Ψ,Ψ,Ψ⟩ ?_;rintro⟨d,k⟩ ai _;simp only;have KD:=ai.1;simp only[hX]at KD;by_cases fb:t+k<l.length/\0<=d
 ·obtain⟨b5,aI⟩:=fb;obtain⟨w,af⟩:∃w,(l.drop t)[k]? =some w:=⟨_,cL (by simp;omega)⟩;have ga:=(fo.1 af).1;have db:(b6 l)[((t:Int)+k).toNat]?.getD ae.junk= .str w:=by rw[show((t:Int)+k).toNat=t+k by omega,b6,List.getElem?_map,<-mb,af];rfl
  have b5:t+k<l.length:=by simp at ga;omega
  have eX:aY ((t:Int)+k+1):=by unfold aY;omega
  have ku:aY (d+1):=by have:=ai.2.1;simp only at this;unfold aY;omega
  have iH:aY (d-1):=by have:=ai.2.1;simp only at this;unfold aY;omega
  have e7:=TS ai aI af;have kQ:(t:Int)+k<l.length:=Ω
  rcases(by by_cases h:w=[40];exact .inl h;by_cases cu:w=[41];exact .inr (.inl cu);exact .inr (.inr ⟨h,cu⟩):w=[40]\/w=[41]\/w≠[40]/\w≠[41])with rfl|rfl|⟨pk,fa⟩
  ·rw[QN]at e7;simp[uA];(with_reducible repeat' first|refine av ?_|simp[b5,kQ,aI,db,eX,ku,iH]);refine b1.whl (d+1,k+1) (by simp only;omega) e7 ?_;simp[uA,<-qA];exact⟨by simp[fresh,kinL,kin,bu,ak,Pv.look,ez,ep],cG (by simp[fresh,kinL,kin,bu,ak,Pv.look,ez,ep]),cI (by simp[fresh,kinL,kin,cw,ak,Pv.look,ez,ep]),Ψ⟩
  ·rw[QO]at e7;simp[uA];(with_reducible repeat' first|refine av ?_|simp[b5,kQ,aI,db,eX,ku,iH]);refine b1.whl (d-1,k+1) (by simp only;omega) e7 ?_;simp[uA,<-qA];exact⟨by simp[fresh,kinL,kin,bu,ak,Pv.look,ez,ep],cG (by simp[fresh,kinL,kin,bu,ak,Pv.look,ez,ep]),cI (by simp[fresh,kinL,kin,cw,ak,Pv.look,ez,ep]),Ψ⟩
  ·rw[JJ pk fa,Int.add_zero]at e7;have vZ:(w==[40])=false:=jj.2 pk;have ks:(w==[41])=false:=jj.2 fa;simp[uA];(with_reducible repeat' first|refine av ?_|simp[b5,kQ,aI,db,eX,vZ,ks]);refine b1.whl (d,k+1) (by simp only;omega) e7 ?_;simp[uA,<-qA];exact⟨by simp[fresh,kinL,kin,bu,ak,Pv.look,ez,ep],cG (by simp[fresh,kinL,kin,bu,ak,Pv.look,ez,ep]),cI (by simp[fresh,kinL,kin,cw,ak,Pv.look,ez,ep]),Ψ⟩
 ·have he:=TR ai (by simp only[hX];omega);have SY:((t:Int)+k).toNat=t+k:=Ω
  have hle:(t:Int)+k<=l.length:=Ω
  have Dy:t+k<=l.length:=Ω
  have e5:t+k<=aR:=by unfold aR;omega
  have GG:min (t+k) l.length=t+k:=Nat.min_eq_left Dy;have Tj:List.take (t+k) (b6 l)=b6 (l.take (t+k)):=by simp[b6]
  by_cases kQ:(t:Int)+k<l.length
  ·have iH:¬0<=d:=Ω
   simp[uA];(with_reducible repeat' first|refine av ?_|simp[kQ,iH,SY,hle,e5]);rw[GG,Tj];subst he;exact Kj _ rfl rfl rfl rfl rfl rfl rfl rfl
  ·simp[uA];(with_reducible repeat' first|refine av ?_|simp[kQ,SY,hle,e5]);rw[GG,Tj];subst he;exact Kj _ rfl rfl rfl rfl rfl rfl rfl rfl
theorem FH{x:List (List aj)}(h:¬(x[0]? =some [40]/\x[1]? =some iA/\x[2]? =some [40]/\x[3]?≠none)):pb x=none:=by
 unfold pb;split
 ·rename_i d name LS;by_cases aI:d=iA
  ·exact absurd ⟨rfl,by simp[aI],rfl,Ψ⟩ h
  ·rw[br aI]
 ·rfl
theorem ah5(l cR:List (List aj))(name:List aj)(c:Nat)(c6:List (List aj)):ra l cR name c (iV 0 c6)=(sT name c c6).map fun x=>(x.1,l.drop (cR.length-x.2.length)):=by
 unfold sT;cases aV:iV 0 c6 with
 |none=>rfl
 |some y=>
  obtain⟨k,r⟩:=y;simp only[ra,Ar];split
  ·rename_i g ey aS;rw[aS];rfl
  ·rename_i h;split
   ·rename_i g ey aS;exact absurd aS (h g ey)
   ·rfl
theorem agO{l:List (List aj)}{i e:Nat}{name:List aj}(bz:l[i]? =some [40])(I:l[i+1]? =some iA)(J:l[i+2]? =some [40])(au:l[i+3]? =some name)(he:e=i+4+nt (l.drop (i+4)))(A9:e<=l.length):
  BG l (i+4) name (num [] ((l.drop (i+4)).take (e-(i+4))))=pb (l.drop i):=by
 rw[fM bz,fM I,fM J,fM au];simp only[pb,if_true,he,show i+4+nt (l.drop (i+4))-(i+4)=nt (l.drop (i+4)) by omega];rw[show i+3+1=i+4 by omega];cases aM:num [] ((l.drop (i+4)).take (nt (l.drop (i+4))))with
 |none=>rfl
 |some y=>
  obtain⟨c6,ms⟩:=y;have lB:=(zK _ _ _ _ aM).1;rw[pS,hX]at lB;simp only[BG,ah5];cases ah:sT name ms.length c6 with
  |none=>rfl
  |some z=>
   obtain⟨x,ey⟩:=z;obtain⟨p,q,aL,_⟩:=JG ah;have kc:ey.length<=c6.length:=by rw[aL];simp;omega
   simp only[lM,List.drop_drop,gx,pS];congr 3;omega
def _root_.Go.Pv.Rl.k(x:Rl)(κ:Nat):ae:= .agg [.str x.name,.int .i64 x.ar,.int .i64 x.loc,.int .i64 x.body.kind,.str x.body.name,.slice 4 (.tr (.loc κ) 0) (x.body.ts.map enc),.slice 4 (.tr (.loc κ) 1) (x.body.gs.map Gm.e)]
def vQ(l:List (List aj))(o:aW (Rl×List (List aj)))(κ:Nat)(r:ae)(al:dJ):Prop:=match o with
 |some (x,rest)=>r= .tuple [x.k κ,.bool true]/\al=ad 871 l (l.length-rest.length)
 |none=> ∃(x:Rl) (j:Nat),j<=l.length/\r= .tuple [x.k κ,.bool false]/\al=ad 871 l j
theorem qK{l:List (List aj)}{j κ:Nat}(h:j<=l.length)(x:Rl):vQ l none κ (.tuple [x.k κ,.bool false]) (ad 871 l j):=⟨x,j,h,rfl,rfl⟩
theorem Z4{l:List (List aj)}{j κ:Nat}(x:Rl)(h:j<=l.length):vQ l (some (x,l.drop j)) κ (.tuple [x.k κ,.bool true]) (ad 871 l j):=⟨rfl,by rw[show l.length-(l.drop j).length=j by simp;omega]⟩
def Yz(l:List (List aj))(i:Nat)(o:aW (Rl×List (List aj))):Prop:= ∀κ,FnK aF 110 κ [aB 871] (ad 871 l i) (vQ l o κ)
theorem dG.dfi{l:List (List aj)}{i κ:Nat}{o:aW (Rl×List (List aj))}{st:aU}{e:Exit}(j:Nat)(x:Rl)(b:Bool)(iR:e= .ret\/e= .normal)(jb:vQ l o κ (.tuple [x.k κ,.bool b]) (ad 871 l j))(ah:∀k cs,Pv.look k (ad 871 l j).b=some cs->Pv.look k st.b=some cs)
  (h:match ba st [.cell 2 true 7,.tmp 3]with
   |some (c,bj)=>c/\(cX st.e (aT bj)/\(cC st.e (aT bj)).Nodup/\(cb (aT bj)).Nodup)/\fold κ st.e 0 (aT bj)= .tuple [x.k κ,.bool b]
   |none=>dr):dG [.cell 2 true 7,.tmp 3] (ad 871 l i) κ (vQ l o κ) e st:=by
 refine dG.ob iR (bm l j) rfl (bT _ _ _ _) ah ?_;split at h
 ·rename_i c bj hr;(try rw[hr]);exact⟨h.1,h.2.1,by rw[h.2.2];exact jb⟩
 ·exact h.elim
theorem afN(l cR:List (List aj))(fe:cR.length<=l.length)(aD:l.length<=100000)(hw:∀w∈cR,w≠[]/\w.length<=aR){i f p κ:Nat}(aV:p<=cR.length)(aK:f<=l.length)(name:List aj)(k:Int)(ab:0<=k/\k<=100000)(ns:List (List aj))(S5:ns.length<=100000):
  cQ aF [.obj 871] I4 (dG [.cell 2 true 7,.tmp 3] (ad 871 l i) κ (vQ l (Ar l cR name k ns.length (cR.drop p)) κ)) (Ct l cR f p name k ns):=by
 have kC:=afT (ky:=872) cR Ω hw cR.length p (2*(cR.drop p).length+1) Ω aV Ψ;obtain⟨B,hB⟩:∃B,B=Ar l cR name k ns.length (cR.drop p):=⟨_,rfl⟩;rw[<-hB];unfold Ar at hB;unfold I4;cases hr:fp eI fI (2*(cR.drop p).length+1) (cR.drop p)with
 |none=>rw[hr]at kC hB;simp only at hB;subst hB;simp[Ct,ez,ep];(with_reducible repeat' first|refine av ?_|simp);refine CallDo.obK (kC _) (bm _ _) (by simp only[ad];exact aA) (by simp only[ad];exact aA) (by simp[ak,Pv.look,ad,aB,ea,kinL,kin]) Ψ ?_;rintro r al ⟨x,q,bp,rfl,rfl⟩;refine⟨bT _ _ _ _,?_⟩;simp[bc,ad,aB];(with_reducible repeat' first|refine av ?_|simp);refine dG.dfi (f) (ix) false Ψ (qK aK _) (by simp only[ad];exact aA) ?_;simp[ba,bg,aT,cX,dR,cC,dE,cb,dy,tnL,tn,dO,ed,fold,dV,dU,eH,Pv.look,cY,bC,bD,Rl.k,ix,Gm.kind,Gm.name,Gm.ts,Gm.gs]
 |some x=>
  obtain⟨g,rest⟩:=x;rw[hr]at kC;obtain⟨gA,xY⟩:∃gA,gA=cR.length-rest.length:=⟨_,rfl⟩;have T7:=Sg kC xY.symm;obtain⟨gn,oO⟩:=vl (BV NY _ _ _ _ hr).1;rw[<-xY]at gn;have Bh:gA<=1000000:=Ω
  by_cases fa:cR[gA]? =some [41]
  ·have dS:=oq (ky:=872) Bh fa;have wy:rest=[41]::cR.drop (gA+1):=by rw[gn];exact fM fa
   have eM:=(fo.1 fa).1;have DP:aY ((ns.length:Int)-k):=by unfold aY;omega
   rw[hr,wy]at hB;simp only at hB;rw[show cR.length-(cR.drop (gA+1)).length=gA+1 by simp;omega]at hB;subst hB;simp[Ct,ez,ep];(with_reducible repeat' first|refine av ?_|simp);refine CallDo.obK (T7 _) (bm _ _) (by simp only[ad];exact aA) (by simp only[ad];exact aA) (by simp[ak,Pv.look,ad,aB,ea,kinL,kin]) Ψ ?_;rintro r al ⟨rfl,rfl⟩;refine⟨bT _ _ _ _,?_⟩;simp[bc,ad,aB];(with_reducible repeat' first|refine av ?_|simp);refine CallDo.ob (dS) (bm _ _) (by simp only[ad];exact aA) (by simp only[ad];exact aA) (by simp[ak,Pv.look,ad,aB,ea,kinL,kin]) ?_;rintro r al ⟨rfl,rfl⟩;refine⟨bT _ _ _ _,?_⟩;simp[bc,ad,aB];(with_reducible repeat' first|refine av ?_|simp[UQ ns,DP]);refine dG.dfi (gA+1) (⟨name,k,ns.length-k,g⟩) true Ψ (Z4 (l:=l) (j:=gA+1) _ (show gA+1<=l.length by omega)) (by simp only[ad];exact aA) ?_;simp[ba,bg,aT,cX,dR,cC,dE,cb,dy,tnL,tn,dO,ed,fold,dV,dU,eH,Pv.look,cY,bC,bD,Rl.k,ix,Gm.kind,Gm.name,Gm.ts,Gm.gs]
  ·have dS:=jO (ky:=872) Bh fa;have hJ:B=none:=by
    rw[hr]at hB;cases rest with
    |nil=>exact hB
    |cons v r=>
     have:cR[gA]? =some v:=by rw[<-List.head?_drop,<-gn];rfl
     have DU:¬v=[41]:=by rintro rfl;exact fa this
     rw[hB];split
     ·rename_i h;simp at h;exact absurd h.2.1 DU
     ·rfl
   subst hJ;clear hB;simp[Ct,ez,ep];(with_reducible repeat' first|refine av ?_|simp);refine CallDo.obK (T7 _) (bm _ _) (by simp only[ad];exact aA) (by simp only[ad];exact aA) (by simp[ak,Pv.look,ad,aB,ea,kinL,kin]) Ψ ?_;rintro r al ⟨rfl,rfl⟩;refine⟨bT _ _ _ _,?_⟩;simp[bc,ad,aB];(with_reducible repeat' first|refine av ?_|simp);refine CallDo.ob (dS) (bm _ _) (by simp only[ad];exact aA) (by simp only[ad];exact aA) (by simp[ak,Pv.look,ad,aB,ea,kinL,kin]) ?_;rintro r al ⟨rfl,rfl⟩;refine⟨bT _ _ _ _,?_⟩;simp[bc,ad,aB];(with_reducible repeat' first|refine av ?_|simp);refine dG.dfi (f) (ix) false Ψ (qK aK _) (by simp only[ad];exact aA) ?_;simp[ba,bg,aT,cX,dR,cC,dE,cb,dy,tnL,tn,dO,ed,fold,dV,dU,eH,Pv.look,cY,bC,bD,Rl.k,ix,Gm.kind,Gm.name,Gm.ts,Gm.gs]
theorem afM(l cR:List (List aj))(fe:cR.length<=l.length)(aD:l.length<=100000)(hw:∀w∈cR,w≠[]/\w.length<=aR){i f κ:Nat}(jH:f<=cR.length)(name:List aj)(ns:List (List aj))(S5:ns.length<=100000):
  cQ aF [.obj 871] I3 (dG [.cell 2 true 7,.tmp 3] (ad 871 l i) κ (vQ l (ra l cR name ns.length (iV 0 (cR.drop f))) κ)) (IE l cR f name ns):=by
 have aK:f<=l.length:=Ω
 obtain⟨R,bt⟩:∃R,R=ra l cR name ns.length (iV 0 (cR.drop f)):=⟨_,rfl⟩;rw[<-bt];unfold I3;simp[IE];(with_reducible repeat' first|refine av ?_|simp);refine hR (fun x:Nat×Nat=>vF l cR f name ns x.1 x.2) (fun x=>cR.length-x.2) (fun x=>x.2<=cR.length/\x.1<=x.2/\ra l cR name ns.length (iV x.1 (cR.drop x.2))=R) (0,f) (by simp[vF];exact⟨by simp[fresh,kinL,kin,bu,ak,Pv.look,ez,ep],cG (by simp[fresh,kinL,kin,bu,ak,Pv.look,ez,ep]),cI (by simp[fresh,kinL,kin,cw,ak,Pv.look,ez,ep]),Ψ⟩) ⟨jH,pT _,bt.symm⟩ ?_;clear bt;rintro⟨k,p⟩ ⟨aV,aeu,bt⟩ _;simp only at aV aeu bt;subst bt;have Bh:p<=1000000:=Ω
 rcases jS aV with rfl|eM
 ·have dS:=jO (ky:=872) (l:=cR) (i:=cR.length) (s:=[41]) Bh Ψ;have ke:=R0 (ky:=872) cR Ω hw cR.length (cc _);rw[jR]at ke⊢;rw[show eI []=none by simp[eI,rd]]at ke;rw[show ra l cR name ns.length (iV k [])=none by simp[iV,ra]];simp[vF,ez,ep];refine CallDo.ob (dS) (bm _ _) (by simp only[ad];exact aA) (by simp only[ad];exact aA) (by simp[ak,Pv.look,ad,aB,ea,kinL,kin]) ?_;rintro r al ⟨rfl,rfl⟩;refine⟨bT _ _ _ _,?_⟩;simp[bc,ad,aB];(with_reducible repeat' first|refine av ?_|simp);refine CallDo.ob (ke) (bm _ _) (by simp only[ad];exact aA) (by simp only[ad];exact aA) (by simp[ak,Pv.look,ad,aB,ea,kinL,kin]) ?_;rintro r al ⟨x,q,bp,rfl,rfl⟩;refine⟨bT _ _ _ _,?_⟩;simp[bc,ad,aB];(with_reducible repeat' first|refine av ?_|simp);refine dG.dfi (f) (ix) false Ψ (qK aK _) (by simp only[ad];exact aA) ?_;simp[ba,bg,aT,cX,dR,cC,dE,cb,dy,tnL,tn,dO,ed,fold,dV,dU,eH,Pv.look,cY,bC,bD,Rl.k,ix,Gm.kind,Gm.name,Gm.ts,Gm.gs]
 obtain⟨v,aN⟩:∃v,cR[p]? =some v:=⟨_,cL eM⟩;by_cases fa:v=[41]
 ·subst fa;have dS:=oq (ky:=872) Bh aN;rw[fM aN,show ra l cR name ns.length (iV k ([41]::cR.drop (p+1)))=Ar l cR name k ns.length (cR.drop (p+1)) by simp[iV,ra]];have T6:=afN (κ:=κ) l cR fe aD hw (i:=i) (f:=f) (p:=p+1) eM aK name k Ω ns S5;simp[vF];refine CallDo.ob (dS) (bm _ _) (by simp only[ad];exact aA) (by simp only[ad];exact aA) (by simp[ak,Pv.look,ad,aB,ea,kinL,kin]) ?_;rintro r al ⟨rfl,rfl⟩;refine⟨bT _ _ _ _,?_⟩;simp[bc,ad,aB];(with_reducible repeat' first|refine av ?_|simp);simp[Ct]at T6;exact T6
 have dS:=jO (ky:=872) (l:=cR) (i:=p) Bh (show cR[p]?≠some [41] by rw[aN];simpa using fa);have ke:=R0 (ky:=872) cR Ω hw p aV;rw[fM aN]at ke⊢;have GN:iV k (v::cR.drop (p+1))=if v=63::Lib.itoa k then iV (k+1) (cR.drop (p+1))else none:=by simp only[iV,br fa]
 cases du:eI (v::cR.drop (p+1))with
 |none=>
  rw[du]at ke;have u4:¬v=63::Lib.itoa k:=by rintro rfl;rw[NZ Ω]at du;cases du
  rw[GN,br u4];simp only[ra];simp[vF,ez,ep];refine CallDo.ob (dS) (bm _ _) (by simp only[ad];exact aA) (by simp only[ad];exact aA) (by simp[ak,Pv.look,ad,aB,ea,kinL,kin]) ?_;rintro r al ⟨rfl,rfl⟩;refine⟨bT _ _ _ _,?_⟩;simp[bc,ad,aB];(with_reducible repeat' first|refine av ?_|simp);refine CallDo.ob (ke) (bm _ _) (by simp only[ad];exact aA) (by simp only[ad];exact aA) (by simp[ak,Pv.look,ad,aB,ea,kinL,kin]) ?_;rintro r al ⟨x,q,bp,rfl,rfl⟩;refine⟨bT _ _ _ _,?_⟩;simp[bc,ad,aB];(with_reducible repeat' first|refine av ?_|simp);refine dG.dfi (f) (ix) false Ψ (qK aK _) (by simp only[ad];exact aA) ?_;simp[ba,bg,aT,cX,dR,cC,dE,cb,dy,tnL,tn,dO,ed,fold,dV,dU,eH,Pv.look,cY,bC,bD,Rl.k,ix,Gm.kind,Gm.name,Gm.ts,Gm.gs]
 |some tr=>
  obtain⟨t,rest⟩:=tr;rw[du]at ke;obtain⟨q,bp⟩:∃q,q=cR.length-rest.length:=⟨_,rfl⟩;have wE:=ag3 ke bp.symm;by_cases hI:t.kind=1;rotate_left
  ·have u4:¬v=63::Lib.itoa k:=by rintro rfl;rw[NZ Ω]at du;cases du;exact hI rfl
   rw[GN,br u4];simp only[ra];simp[vF,ez,ep];refine CallDo.ob (dS) (bm _ _) (by simp only[ad];exact aA) (by simp only[ad];exact aA) (by simp[ak,Pv.look,ad,aB,ea,kinL,kin]) ?_;rintro r al ⟨rfl,rfl⟩;refine⟨bT _ _ _ _,?_⟩;simp[bc,ad,aB];(with_reducible repeat' first|refine av ?_|simp);refine CallDo.ob (wE) (bm _ _) (by simp only[ad];exact aA) (by simp only[ad];exact aA) (by simp[ak,Pv.look,ad,aB,ea,kinL,kin]) ?_;rintro r al ⟨rfl,rfl⟩;refine⟨bT _ _ _ _,?_⟩;simp[bc,ad,aB];have ks:(t.kind==1)=false:=by simpa using hI
   have jc:(t.kind !=1)=true:=by simpa using hI
   (with_reducible repeat' first|refine av ?_|simp[hI,ks,jc]);refine dG.dfi (f) (ix) false Ψ (qK aK _) (by simp only[ad];exact aA) ?_;simp[ba,bg,aT,cX,dR,cC,dE,cb,dy,tnL,tn,dO,ed,fold,dV,dU,eH,Pv.look,cY,bC,bD,Rl.k,ix,Gm.kind,Gm.name,Gm.ts,Gm.gs]
  obtain⟨ao,aL,bB⟩:=akj du hI;by_cases eT:t.int=k;rotate_left
  ·have u4:¬v=63::Lib.itoa k:=by rintro rfl;rw[NZ Ω]at du;cases du;exact eT rfl
   rw[GN,br u4];simp only[ra];simp[vF,ez,ep];refine CallDo.ob (dS) (bm _ _) (by simp only[ad];exact aA) (by simp only[ad];exact aA) (by simp[ak,Pv.look,ad,aB,ea,kinL,kin]) ?_;rintro r al ⟨rfl,rfl⟩;refine⟨bT _ _ _ _,?_⟩;simp[bc,ad,aB];(with_reducible repeat' first|refine av ?_|simp);refine CallDo.ob (wE) (bm _ _) (by simp only[ad];exact aA) (by simp only[ad];exact aA) (by simp[ak,Pv.look,ad,aB,ea,kinL,kin]) ?_;rintro r al ⟨rfl,rfl⟩;refine⟨bT _ _ _ _,?_⟩;simp[bc,ad,aB];have ks:(t.int==(k:Int))=false:=by simpa using eT
   have jc:(t.int !=(k:Int))=true:=by simpa using eT
   (with_reducible repeat' first|refine av ?_|simp[hI,eT,ks,jc]);refine dG.dfi (f) (ix) false Ψ (qK aK _) (by simp only[ad];exact aA) ?_;simp[ba,bg,aT,cX,dR,cC,dE,cb,dy,tnL,tn,dO,ed,fold,dV,dU,eH,Pv.look,cY,bC,bD,Rl.k,ix,Gm.kind,Gm.name,Gm.ts,Gm.gs]
  rw[eT]at ao;have aeX:q=p+1:=by rw[bp,aL];simp;omega
  subst aeX;have lW:aY ((k:Int)+1):=by unfold aY;omega
  rw[GN,if_pos ao];simp[vF,ez,ep];refine CallDo.ob (dS) (bm _ _) (by simp only[ad];exact aA) (by simp only[ad];exact aA) (by simp[ak,Pv.look,ad,aB,ea,kinL,kin]) ?_;rintro r al ⟨rfl,rfl⟩;refine⟨bT _ _ _ _,?_⟩;simp[bc,ad,aB];(with_reducible repeat' first|refine av ?_|simp);refine CallDo.ob (wE) (bm _ _) (by simp only[ad];exact aA) (by simp only[ad];exact aA) (by simp[ak,Pv.look,ad,aB,ea,kinL,kin]) ?_;rintro r al ⟨rfl,rfl⟩;refine⟨bT _ _ _ _,?_⟩;simp[bc,ad,aB];(with_reducible repeat' first|refine av ?_|simp[hI,eT,lW]);refine b1.whl (k+1,p+1) (by simp;omega) ⟨eM,by simp;omega,Ψ⟩ ?_;simp[vF,ep];exact⟨by simp[fresh,kinL,kin,bu,ak,Pv.look,ez,ep],cG (by simp[fresh,kinL,kin,bu,ak,Pv.look,ez,ep]),cI (by simp[fresh,kinL,kin,cw,ak,Pv.look,ez,ep]),Ψ⟩
theorem afL(l:List (List aj))(aD:l.length<=100000)(hw:∀w∈l,w≠[]/\w.length<=aR){i f e κ:Nat}(aK:f<=e)(he:e<=l.length)(name:List aj)(jN:List (List aj))(K3:jN=(l.drop f).take (e-f))(u:List (Nat×ae))(bz:Pv.get 0 u= .ptr (.obj 871) 0)(J:Pv.get 2 u= .ptr (.loc 0) 0)(au:Pv.get 3 u= .bool false)(aP:Pv.get 4 u= .ptr (.loc 1) 0)(bA:Pv.get 5 u= .int .i64 f)(gQ:Pv.get 8 u= .int .i64 e)(ec:Pv.get 9 u= .gmap (.loc 2))(fN:Pv.get 10 u= .row 1 (.obj 873) e):
  cQ aF [.obj 871] Fw (dG [.cell 2 true 7,.tmp 3] (ad 871 l i) κ (vQ l (BG l f name (num [] jN)) κ)) ⟨u,[(.loc 0,ez),(.loc 1,ep name 0),(.obj 871,[.slice 1 .no (b6 l),.int .i64 f]),(.loc 2,j1 (nI []))],[(.obj 873,⟨e,9,1,some (b6 (l.take e))⟩)],3,[.obj 873,.obj 871]⟩:=by
 obtain⟨R,bt⟩:∃R,R=num [] jN:=⟨_,rfl⟩;have k7:f<=l.length:=Ω
 have jY:jN.length=e-f:=by rw[K3];simp;omega
 have ae9:l.take e=l.take f++([]++jN.drop 0):=by rw[K3,eE,List.drop_zero];rw[show l.take e=l.take (f+(e-f)) by rw[show f+(e-f)=e by omega],List.take_add]
 rw[ae9];rw[<-bt];unfold Fw;simp[bA,Pv.get_put];refine hR (fun x:List (List aj)×List (List aj)=>oy l f e name (l.take f++(x.1++jN.drop x.1.length)) x.2 x.1.length) (fun x=>jN.length-x.1.length) (fun x=>Lx jN x) ([],[]) (by simp[oy];exact⟨by simp[fresh,kinL,kin,bu,ak,Pv.look,ez,ep,Pv.get_put,bz,J,au,aP,bA,gQ,ec,fN],cG (by simp[fresh,kinL,kin,bu,ak,Pv.look,ez,ep,Pv.get_put,bz,J,au,aP,bA,gQ,ec,fN]),cI (by simp[fresh,kinL,kin,cw,ak,Pv.look,ez,ep,Pv.get_put,bz,J,au,aP,bA,gQ,ec,fN]),Ψ⟩) ⟨Ψ,Ψ,Ψ,Ψ⟩ ?_;rintro⟨d,ns⟩ ai _;simp only;have nA:=ai.le;have heq:=ai.eq;have jf:=ai.ns;simp only at nA heq jf;have Gs:f+d.length<=100000:=Ω
 by_cases b5:d.length<jN.length
 ·obtain⟨w,af⟩:∃w,jN[d.length]? =some w:=⟨_,cL b5⟩;have fW:(b6 (l.take f++(d++jN.drop d.length)))[((f:Int)+d.length).toNat]? =some (.str w):=by rw[show((f:Int)+d.length).toNat=f+d.length by omega];exact ajk Ω af
  have kQ:(f:Int)+d.length<e:=Ω
  have qd:w∈l:=by have I:=e1 af;rw[K3]at I;exact List.mem_of_mem_drop (List.mem_of_mem_take I)
  have Lg:=hw w qd;have eX:aY ((f:Int)+d.length+1):=by unfold aY;omega
  have h3:jN.drop d.length=w::jN.drop (d.length+1):=fM af;rw[h3]at heq;obtain⟨c,s,rfl⟩:∃c s,w=c::s:=List.exists_cons_of_ne_nil Lg.1;by_cases aH:c=63;rotate_left
  ·have aeT:∀al,(c::s)≠63::al:=by intro al h;cases h;exact aH rfl
   rw[ve _ _ _ aeT]at heq;have adN:((c.toNat:Int)==63)=false:=by rw[jj];intro h;apply aH;apply UInt8.toNat_inj.1;simpa using(by omega:c.toNat=63)
   have adQ:((c.toNat:Int) !=63)=true:=by simp only[bne,adN];rfl
   have DM:l.take f++(d++jN.drop d.length)=l.take f++((d++[c::s])++jN.drop (d++[c::s]).length):=by simp[h3]
   have eU:Lx jN (d++[c::s],ns):=⟨by simp;omega,by rw[heq];simp[Function.comp_def],by simp;omega,by
    intro v aN;rcases hl.1 aN with aN|aN
    ·exact ai.ok v aN
    ·rw[List.mem_singleton.1 aN];exact Lg⟩
   simp[oy];(with_reducible repeat' first|refine av ?_|simp[kQ,fW,eX,adQ]);refine b1.whl (d++[c::s],ns) (by simp;omega) eU ?_;rw[DM];simp[oy,<-qA];exact⟨by simp[fresh,kinL,kin,bu,ak,Pv.look,ez,ep],cG (by simp[fresh,kinL,kin,bu,ak,Pv.look,ez,ep]),cI (by simp[fresh,kinL,kin,cw,ak,Pv.look,ez,ep]),Ψ⟩
  subst aH;have ae0:s.length<=aR:=by have:=Lg.2;simp at this;omega
  have cA:=E8 s ae0;have c1:=E7 s;rw[Eh]at heq;have anF:(1:Int)<=(s.length:Int)+1:=Ω
  by_cases aN:w8 s=true;rotate_left
  ·rw[br aN]at heq;have adx:R=none:=by rw[bt,heq];rfl
   have mT:gb s=false:=by
    cases h:gb s with
    |false=>rfl
    |true=>exact absurd (by unfold w8;rw[h];rfl) aN
   rw[adx];simp only[BG];rw[mT]at c1;cases aV:gH s with
   |none=>rw[aV]at cA;simp only[r8,kn,sL]at cA;simp[oy,ez,ep];(with_reducible repeat' first|refine av ?_|refine aZ cA ?_|refine a1 cA ?_|refine aZ c1 ?_|refine a1 c1 ?_|simp[kQ,fW,eX]);refine dG.dfi (f) (ix) false Ψ (qK k7 _) (by simp only[ad];exact aA) ?_;simp[ba,bg,aT,cX,dR,cC,dE,cb,dy,tnL,tn,dO,ed,fold,dV,dU,eH,Pv.look,cY,bC,bD,Rl.k,ix,Gm.kind,Gm.name,Gm.ts,Gm.gs]
   |some n=>
    rw[aV]at cA;simp only[r8,kn,sL]at cA;have hr:¬(0<=n/\n<=100000):=by intro h;apply aN;unfold w8;rw[aV];simp[h]
    by_cases zt:n<0
    ·simp[oy,ez,ep];(with_reducible repeat' first|refine av ?_|refine aZ cA ?_|refine a1 cA ?_|refine aZ c1 ?_|refine a1 c1 ?_|simp[kQ,fW,eX,zt]);refine dG.dfi (f) (ix) false Ψ (qK k7 _) (by simp only[ad];exact aA) ?_;simp[ba,bg,aT,cX,dR,cC,dE,cb,dy,tnL,tn,dO,ed,fold,dV,dU,eH,Pv.look,cY,bC,bD,Rl.k,ix,Gm.kind,Gm.name,Gm.ts,Gm.gs]
    ·have KM:100000<n:=Ω
     simp[oy,ez,ep];(with_reducible repeat' first|refine av ?_|refine aZ cA ?_|refine a1 cA ?_|refine aZ c1 ?_|refine a1 c1 ?_|simp[kQ,fW,eX,zt,KM]);refine dG.dfi (f) (ix) false Ψ (qK k7 _) (by simp only[ad];exact aA) ?_;simp[ba,bg,aT,cX,dR,cC,dE,cb,dy,tnL,tn,dO,ed,fold,dV,dU,eH,Pv.look,cY,bC,bD,Rl.k,ix,Gm.kind,Gm.name,Gm.ts,Gm.gs]
  rw[if_pos aN]at heq;have hT:gb s=true\/gb s=false/\∃n,gH s=some n/\0<=n/\n<=100000:=by
   cases h:gb s with
   |true=>exact .inl rfl
   |false=>
    right;unfold w8 at aN;rw[h]at aN;cases aV:gH s with
    |none=>rw[aV]at aN;simp at aN
    |some n=>rw[aV]at aN;simp at aN;exact⟨rfl,n,rfl,aN.1,aN.2⟩
  have SN:ns.idxOf (63::s)<=ns.length:=List.idxOf_le_length;have aen:(Lib.itoa (ns.idxOf (63::s):Nat)).length<=20:=x2 (by unfold aY;omega);have dp:=N4 (ns.idxOf (63::s):Nat) (by unfold aY;omega);have iG:1+(Lib.itoa (ns.idxOf (63::s):Nat)).length<=aR:=by unfold aR;omega
  have qc:(b6 (l.take f++(d++jN.drop d.length))).set ((f:Int)+d.length).toNat (.str (63::Lib.itoa (ns.idxOf (63::s):Nat)))=b6 (l.take f++((d++[63::Lib.itoa (ns.idxOf (63::s):Nat)])++jN.drop (d.length+1))):=by rw[show((f:Int)+d.length).toNat=f+d.length by omega,h3];rw[b6,<-List.map_set,List.set_append_right _ _ (by simp;omega),List.set_append_right _ _ (by simp;omega)];simp only[pS];rw[show f+d.length-min f l.length-d.length=0 by omega];simp[b6]
  have eU:Lx jN (d++[63::Lib.itoa (ns.idxOf (63::s):Nat)],if(63::s)∈ns then ns else ns++[63::s]):=⟨by simp;omega,by rw[heq];simp[Function.comp_def],by split<;>simp<;>omega,by
    intro v aN;rcases hl.1 aN with aN|aN
    ·exact ai.ok v aN
    ·rw[List.mem_singleton.1 aN];exact⟨Ψ,by simp;unfold aR;omega⟩⟩
  by_cases hm:(63::s)∈ns
  ·rw[if_pos hm]at eU;have zq:=fun(g:aC->aW (List ae)) (aS:g (.loc 2)=some (j1 (nI ns)))=>UM g (.loc 2) (63::s) ns aS;simp only[if_pos hm]at zq;rcases hT with mT|⟨mT,n,aV,zt,KM⟩
   ·rw[mT]at c1;unfold r8 at cA;simp[oy,-wI];(with_reducible repeat' first|refine av ?_|refine aZ cA ?_|refine a1 cA ?_|refine aZ c1 ?_|refine a1 c1 ?_|refine aZ dp ?_|refine a1 dp ?_|simp[kQ,fW,eX,zq,mT,iG,qc]);refine b1.whl (d++[63::Lib.itoa (ns.idxOf (63::s):Nat)],ns) (by simp;omega) eU ?_;simp[oy,<-qA];exact⟨by simp[fresh,kinL,kin,bu,ak,Pv.look,ez,ep],cG (by simp[fresh,kinL,kin,bu,ak,Pv.look,ez,ep]),cI (by simp[fresh,kinL,kin,cw,ak,Pv.look,ez,ep]),Ψ⟩
   ·rw[mT]at c1;rw[aV]at cA;simp only[r8,kn,sL]at cA;have KL:¬n<0:=Ω
    have KN:¬100000<n:=Ω
    simp[oy,-wI];(with_reducible repeat' first|refine av ?_|refine aZ cA ?_|refine a1 cA ?_|refine aZ c1 ?_|refine a1 c1 ?_|refine aZ dp ?_|refine a1 dp ?_|simp[kQ,fW,eX,zq,KL,KN,iG,qc]);refine b1.whl (d++[63::Lib.itoa (ns.idxOf (63::s):Nat)],ns) (by simp;omega) eU ?_;simp[oy,<-qA];exact⟨by simp[fresh,kinL,kin,bu,ak,Pv.look,ez,ep],cG (by simp[fresh,kinL,kin,bu,ak,Pv.look,ez,ep]),cI (by simp[fresh,kinL,kin,cw,ak,Pv.look,ez,ep]),Ψ⟩
  ·rw[br hm]at eU;have zq:=fun(g:aC->aW (List ae)) (aS:g (.loc 2)=some (j1 (nI ns)))=>UM g (.loc 2) (63::s) ns aS;simp only[br hm]at zq;have aep:ns.idxOf (63::s)=ns.length:=List.idxOf_eq_length hm;have mu:=ajL hm;have iS:=UQ ns;rw[aep]at dp iG qc eU aen;rcases hT with mT|⟨mT,n,aV,zt,KM⟩
   ·rw[mT]at c1;unfold r8 at cA;simp[oy,-wI];(with_reducible repeat' first|refine av ?_|refine aZ cA ?_|refine a1 cA ?_|refine aZ c1 ?_|refine a1 c1 ?_|refine aZ dp ?_|refine a1 dp ?_|simp[kQ,fW,eX,zq,mT,iG,qc,mu,iS]);refine b1.whl (d++[63::Lib.itoa (ns.length:Nat)],ns++[63::s]) (by simp;omega) eU ?_;simp[oy,<-qA];exact⟨by simp[fresh,kinL,kin,bu,ak,Pv.look,ez,ep],cG (by simp[fresh,kinL,kin,bu,ak,Pv.look,ez,ep]),cI (by simp[fresh,kinL,kin,cw,ak,Pv.look,ez,ep]),Ψ⟩
   ·rw[mT]at c1;rw[aV]at cA;simp only[r8,kn,sL]at cA;have KL:¬n<0:=Ω
    have KN:¬100000<n:=Ω
    simp[oy,-wI];(with_reducible repeat' first|refine av ?_|refine aZ cA ?_|refine a1 cA ?_|refine aZ c1 ?_|refine a1 c1 ?_|refine aZ dp ?_|refine a1 dp ?_|simp[kQ,fW,eX,zq,KL,KN,iG,qc,mu,iS]);refine b1.whl (d++[63::Lib.itoa (ns.length:Nat)],ns++[63::s]) (by simp;omega) eU ?_;simp[oy,<-qA];exact⟨by simp[fresh,kinL,kin,bu,ak,Pv.look,ez,ep],cG (by simp[fresh,kinL,kin,bu,ak,Pv.look,ez,ep]),cI (by simp[fresh,kinL,kin,cw,ak,Pv.look,ez,ep]),Ψ⟩
 ·have adZ:d.length=jN.length:=Ω
  have je:¬((f:Int)+d.length<e):=Ω
  rw[adZ,jR]at heq;have ady:R=some (d,ns):=by rw[bt,heq];simp[num]
  rw[ady];simp only[BG];have oF:jN.drop d.length=[]:=List.drop_eq_nil_of_le Ω;have aeb:(l.take f).length=f:=by rw[pS];omega
  have aey:(l.take f++d).length=e:=by rw[gx,aeb];omega
  have ad3:(l.take f++d).drop f=d:=by rw[List.drop_append_of_le_length Ω];rw[List.drop_eq_nil_of_le Ω];rfl
  have kB:=afM (κ:=κ) l (l.take f++d) Ω aD (fun w pA=>by
   rcases hl.1 pA with h|h
   ·exact hw w (List.mem_of_mem_take h)
   ·exact ai.ok w h) (i:=i) (f:=f) Ω name ns Ω
  rw[ad3]at kB;rw[oF,List.append_nil];simp[oy];(with_reducible repeat' first|refine av ?_|simp[je]);simp only[IE,aey]at kB;rw[show(f:Int)+d.length=e by omega];exact kB
theorem afS(l:List (List aj))(aD:l.length<=100000)(hw:∀w∈l,w≠[]/\w.length<=aR){i:Nat}(aw:i<=l.length):Yz l i (pb (l.drop i)):=by
 intro κ;have SM:i<=1000000:=Ω
 by_cases bz:l[i]? =some [40];rotate_left
 ·rw[FH (by rw[mb];intro h;exact bz h.1)];have eN:=jO (ky:=871) SM bz;have az:=bm (ky:=871) l i;simp only[ad]at az;refine FnK.mk mixed vw CZ Ek Ψ az.obj rfl fun aG b2=>?_;unfold Av;clear aG b2;simp[ad,aB];refine CallDo.ob (eN) (bm _ _) (by simp only[ad];exact aA) (by simp only[ad];exact aA) (by simp[ak,Pv.look,ad,aB,ea,kinL,kin]) ?_;rintro r al ⟨rfl,rfl⟩;refine⟨bT _ _ _ _,?_⟩;simp[bc,ad,aB];(with_reducible repeat' first|refine av ?_|simp);refine dG.dfi (i) (ix) false Ψ (qK aw _) (by simp only[ad];exact aA) ?_;simp[ba,bg,aT,cX,dR,cC,dE,cb,dy,tnL,tn,dO,ed,fold,dV,dU,eH,Pv.look,cY,bC,bD,Rl.k,ix,Gm.kind,Gm.name,Gm.ts,Gm.gs]
 have eN:=oq (ky:=871) SM bz;have n1:=(fo.1 bz).1;by_cases I:l[i+1]? =some iA;rotate_left
 ·rw[FH (by rw[mb,mb];intro h;exact I h.2.1)];have cD:=jO (ky:=871) (i:=i+1) Ω I;rw[show iA=[100,101,102,105,110,101]from rfl]at cD;have az:=bm (ky:=871) l i;simp only[ad]at az;refine FnK.mk mixed vw CZ Ek Ψ az.obj rfl fun aG b2=>?_;unfold Av;clear aG b2;simp[ad,aB];refine CallDo.ob (eN) (bm _ _) (by simp only[ad];exact aA) (by simp only[ad];exact aA) (by simp[ak,Pv.look,ad,aB,ea,kinL,kin]) ?_;rintro r al ⟨rfl,rfl⟩;refine⟨bT _ _ _ _,?_⟩;simp[bc,ad,aB];(with_reducible repeat' first|refine av ?_|simp);refine CallDo.ob (cD) (bm _ _) (by simp only[ad];exact aA) (by simp only[ad];exact aA) (by simp[ak,Pv.look,ad,aB,ea,kinL,kin]) ?_;rintro r al ⟨rfl,rfl⟩;refine⟨bT _ _ _ _,?_⟩;simp[bc,ad,aB];(with_reducible repeat' first|refine av ?_|simp);refine dG.dfi (i+1) (ix) false Ψ (qK Ω _) (by simp only[ad];exact aA) ?_;simp[ba,bg,aT,cX,dR,cC,dE,cb,dy,tnL,tn,dO,ed,fold,dV,dU,eH,Pv.look,cY,bC,bD,Rl.k,ix,Gm.kind,Gm.name,Gm.ts,Gm.gs]
 have cD:=oq (ky:=871) (i:=i+1) Ω I;rw[show iA=[100,101,102,105,110,101]from rfl]at cD;have Bd:=(fo.1 I).1;by_cases J:l[i+2]? =some [40];rotate_left
 ·rw[FH (by rw[mb,mb,mb];intro h;exact J h.2.2.1)];have dI:=jO (ky:=871) (i:=i+1+1) Ω J;have az:=bm (ky:=871) l i;simp only[ad]at az;refine FnK.mk mixed vw CZ Ek Ψ az.obj rfl fun aG b2=>?_;unfold Av;clear aG b2;simp[ad,aB];refine CallDo.ob (eN) (bm _ _) (by simp only[ad];exact aA) (by simp only[ad];exact aA) (by simp[ak,Pv.look,ad,aB,ea,kinL,kin]) ?_;rintro r al ⟨rfl,rfl⟩;refine⟨bT _ _ _ _,?_⟩;simp[bc,ad,aB];(with_reducible repeat' first|refine av ?_|simp);refine CallDo.ob (cD) (bm _ _) (by simp only[ad];exact aA) (by simp only[ad];exact aA) (by simp[ak,Pv.look,ad,aB,ea,kinL,kin]) ?_;rintro r al ⟨rfl,rfl⟩;refine⟨bT _ _ _ _,?_⟩;simp[bc,ad,aB];(with_reducible repeat' first|refine av ?_|simp);refine CallDo.ob (dI) (bm _ _) (by simp only[ad];exact aA) (by simp only[ad];exact aA) (by simp[ak,Pv.look,ad,aB,ea,kinL,kin]) ?_;rintro r al ⟨rfl,rfl⟩;refine⟨bT _ _ _ _,?_⟩;simp[bc,ad,aB];(with_reducible repeat' first|refine av ?_|simp);refine dG.dfi (i+1+1) (ix) false Ψ (qK Ω _) (by simp only[ad];exact aA) ?_;simp[ba,bg,aT,cX,dR,cC,dE,cb,dy,tnL,tn,dO,ed,fold,dV,dU,eH,Pv.look,cY,bC,bD,Rl.k,ix,Gm.kind,Gm.name,Gm.ts,Gm.gs]
 have dI:=oq (ky:=871) (i:=i+1+1) Ω J;have anB:=(fo.1 J).1;by_cases au:i+3=l.length
 ·rw[FH (by rw[mb,mb,mb,mb];intro h;exact h.2.2.2 (List.getElem?_eq_none Ω))];have hA:=CW (ky:=871) l;rw[show l.length=i+1+1+1 by omega]at hA;have hle:i+1+1+1<=l.length:=Ω
  clear au;have az:=bm (ky:=871) l i;simp only[ad]at az;refine FnK.mk mixed vw CZ Ek Ψ az.obj rfl fun aG b2=>?_;unfold Av;clear aG b2;simp[ad,aB];refine CallDo.ob (eN) (bm _ _) (by simp only[ad];exact aA) (by simp only[ad];exact aA) (by simp[ak,Pv.look,ad,aB,ea,kinL,kin]) ?_;rintro r al ⟨rfl,rfl⟩;refine⟨bT _ _ _ _,?_⟩;simp[bc,ad,aB];(with_reducible repeat' first|refine av ?_|simp);refine CallDo.ob (cD) (bm _ _) (by simp only[ad];exact aA) (by simp only[ad];exact aA) (by simp[ak,Pv.look,ad,aB,ea,kinL,kin]) ?_;rintro r al ⟨rfl,rfl⟩;refine⟨bT _ _ _ _,?_⟩;simp[bc,ad,aB];(with_reducible repeat' first|refine av ?_|simp);refine CallDo.ob (dI) (bm _ _) (by simp only[ad];exact aA) (by simp only[ad];exact aA) (by simp[ak,Pv.look,ad,aB,ea,kinL,kin]) ?_;rintro r al ⟨rfl,rfl⟩;refine⟨bT _ _ _ _,?_⟩;simp[bc,ad,aB];(with_reducible repeat' first|refine av ?_|simp);refine CallDo.ob (hA) (bm _ _) (by simp only[ad];exact aA) (by simp only[ad];exact aA) (by simp[ak,Pv.look,ad,aB,ea,kinL,kin]) ?_;rintro r al ⟨rfl,rfl⟩;refine⟨bT _ _ _ _,?_⟩;simp[bc,ad,aB];(with_reducible repeat' first|refine av ?_|simp);refine dG.dfi (i+1+1+1) (ix) false Ψ (qK hle _) (by simp only[ad];exact aA) ?_;simp[ba,bg,aT,cX,dR,cC,dE,cb,dy,tnL,tn,dO,ed,fold,dV,dU,eH,Pv.look,cY,bC,bD,Rl.k,ix,Gm.kind,Gm.name,Gm.ts,Gm.gs]
 have hA:b3 aF 83 [aB 871] (ad 871 l (i+1+1+1)) fun r al=>r= .bool false/\al=ad 871 l (i+1+1+1):=lP Ω;obtain⟨name,aM⟩:∃w,l[i+3]? =some w:=⟨_,cL Ω⟩;have kz:=Ge (ky:=871) l (i+1+1+1);rw[show l[i+1+1+1]? =some name from aM]at kz;simp only[kn]at kz;have eX:aY ((i:Int)+1+1+1+1):=by unfold aY;omega
 obtain⟨cF,jd⟩:∃c,c=kp 0 (l.drop (i+4)):=⟨_,rfl⟩;have adK:=Jx 0 (l.drop (i+4));rw[hX,<-jd]at adK;obtain⟨c2,kt⟩:∃c,c=kp 0 (l.drop (i+4+cF)):=⟨_,rfl⟩;have adL:=Jx 0 (l.drop (i+4+cF));rw[hX,<-kt]at adL;have cH:i+4+cF+c2=i+4+nt (l.drop (i+4)):=by unfold nt;rw[<-jd,List.drop_drop,<-kt];omega
 rw[<-agO bz I J aM cH Ω];have key:=fun nN t0 t2 t3 t4 t5 t6=>Z5 l aD (i:=i) (f:=i+4) Ω name (Q:=dG [.cell 2 true 7,.tmp 3] (ad 871 l i) κ (vQ l (BG l (i+4) name (num [] ((l.drop (i+4)).take (i+4+cF+c2-(i+4))))) κ)) nN t0 t2 t3 t4 t5 t6 (fun t t0 t2 t3 t4 t5 t7=>by refine Z6 l aD (f:=i+4) (t:=i+4+cF) Ω Ω name t t0 t2 t3 t4 t5 (by rw[t7,jd]) (fun u l9 h9 yC ako XN u8 XO XM=>?_);rw[<-kt]at u8 XM⊢;exact afL (κ:=κ) l aD hw (i:=i) (f:=i+4) (e:=i+4+cF+c2) Ω Ω name _ rfl u l9 h9 yC ako XN u8 XO XM)
 have az:=bm (ky:=871) l i;simp only[ad]at az;refine FnK.mk mixed vw CZ Ek Ψ az.obj rfl fun aG b2=>?_;unfold Av;clear aG b2;simp[ad,aB];refine CallDo.ob (eN) (bm _ _) (by simp only[ad];exact aA) (by simp only[ad];exact aA) (by simp[ak,Pv.look,ad,aB,ea,kinL,kin]) ?_;rintro r al ⟨rfl,rfl⟩;refine⟨bT _ _ _ _,?_⟩;simp[bc,ad,aB];(with_reducible repeat' first|refine av ?_|simp);refine CallDo.ob (cD) (bm _ _) (by simp only[ad];exact aA) (by simp only[ad];exact aA) (by simp[ak,Pv.look,ad,aB,ea,kinL,kin]) ?_;rintro r al ⟨rfl,rfl⟩;refine⟨bT _ _ _ _,?_⟩;simp[bc,ad,aB];(with_reducible repeat' first|refine av ?_|simp);refine CallDo.ob (dI) (bm _ _) (by simp only[ad];exact aA) (by simp only[ad];exact aA) (by simp[ak,Pv.look,ad,aB,ea,kinL,kin]) ?_;rintro r al ⟨rfl,rfl⟩;refine⟨bT _ _ _ _,?_⟩;simp[bc,ad,aB];(with_reducible repeat' first|refine av ?_|simp);refine CallDo.ob (hA) (bm _ _) (by simp only[ad];exact aA) (by simp only[ad];exact aA) (by simp[ak,Pv.look,ad,aB,ea,kinL,kin]) ?_;rintro r al ⟨rfl,rfl⟩;refine⟨bT _ _ _ _,?_⟩;simp[bc,ad,aB];(with_reducible repeat' first|refine av ?_|simp);refine CallDo.ob (kz) (bm _ _) (by simp only[ad];exact aA) (by simp only[ad];exact aA) (by simp[ak,Pv.look,ad,aB,ea,kinL,kin]) ?_;rintro r al ⟨rfl,rfl⟩;refine⟨bT _ _ _ _,?_⟩;simp[bc,ad,aB];(with_reducible repeat' first|refine av ?_|simp[eX]);simp[ez,ep,qA]at key;simp[ez,ep,qA];refine key _ ?_ ?_ ?_ ?_ ?_ ?_<;>simp[qA]
theorem agL(P:List Rl):(P.map Rl.name).Nodup↔∀(i:Nat) (r:Rl),P[i]? =some r->oo P r.name=(i:Nat):=by
 constructor
 ·intro h i r hr;refine M4 hr rfl fun j q ai bp b7=>?_;obtain⟨bH,a2⟩:=fo.1 (show(P.map Rl.name)[j]? =some q.name by rw[List.getElem?_map,bp];rfl);obtain⟨cq,cE⟩:=fo.1 (show(P.map Rl.name)[i]? =some r.name by rw[List.getElem?_map,hr];rfl);exact(List.pairwise_iff_getElem.1 h) j i bH cq ai (a2.trans (b7.trans cE.symm))
 ·intro h;refine List.pairwise_iff_getElem.2 fun i j aw ai anD he=>?_;simp only[nh]at aw ai;simp only[List.getElem_map]at he;have I:=h i _ (cL aw);have J:=h j _ (cL ai);rw[he,J]at I;omega
def ux(P:List Rl)(i:Nat)(r:Rl):Prop:=oo P r.name=(i:Nat)/\gG r.name=true/\(0<=r.ar/\r.ar<=4)/\(0<=r.loc/\r.loc<=8)/\(r.body.fits 80&&r.body.cf P&&su r.body (r.ar+r.loc))=true/\(if r.body.fits 80 then(r.body.sz:Int)else 0)<=60
theorem U6(P:List Rl):iU P=true↔P.length<=8/\∀(i:Nat) (r:Rl),P[i]? =some r->ux P i r:=by
 unfold iU;rw[bJ,bJ,fs,fs,agL,ji];have key:∀r:Rl,Rl.ok P r=true↔gG r.name=true/\(0<=r.ar/\r.ar<=4)/\(0<=r.loc/\r.loc<=8)/\(r.body.fits 80&&r.body.cf P&&su r.body (r.ar+r.loc))=true/\(if r.body.fits 80 then(r.body.sz:Int)else 0)<=60:=by
  intro r;have aN:=Ye r.body (r.ar+r.loc);unfold Rl.ok;simp only[bJ,fs,ji,aN];unfold Iu Gm.fits;simp only[bJ,fs];constructor
  ·rintro⟨⟨⟨⟨⟨a,b⟩,c⟩,d1,d2⟩,e⟩,f⟩;refine⟨a,b,c,⟨⟨⟨d1,Ω⟩,f⟩,e⟩,?_⟩;split<;>omega
  ·rintro⟨a,b,c,⟨⟨⟨d1,d2⟩,f⟩,e⟩,g⟩;rw[if_pos ⟨d1,d2⟩]at g;exact⟨⟨⟨⟨⟨a,b⟩,c⟩,d1,Ω⟩,e⟩,f⟩
 constructor
 ·rintro⟨⟨I,J⟩,au⟩;exact⟨I,fun i r hr=>⟨J i r hr,(key r).1 (au r (e1 hr))⟩⟩
 ·rintro⟨I,J⟩;refine⟨⟨I,fun i r hr=>(J i r hr).1⟩,fun r hr=>?_⟩;obtain⟨i,aw⟩:=List.getElem?_of_mem hr;exact(key r).2 (J i r aw).2
def sP(P:List Rl)(i:Nat)(_:Unit):aU:=⟨[(1,.ptr (.loc 0) 0),(10,.slice 7 .no (P.map Rl.e)),(11,.int .i64 P.length),(12,.int .i64 i)],[(.loc 0,[.slice 7 .no (P.map Rl.e)])],[],1,[]⟩
set_option maxRecDepth 8000 in
theorem Ob(P:List Rl):bW aF 109 [gI P] (.bool (iU P)):=by
 have ps:=U6 P;generalize iU P=R at ps;by_cases gQ:P.length<=8;rotate_left
 ·have:R=false:=by
   cases R with
   |false=>rfl
   |true=>exact absurd (ps.1 rfl).1 gQ
  subst this;have Dd:(8:Int)<P.length:=Ω
  refine bI kX Rx Vu fun aG=>?_;unfold Jl;clear aG;exact bY
 have Dd:¬(8:Int)<P.length:=Ω
 refine bI kX Rx Vu fun aG=>?_;unfold Jl;clear aG;simp;(with_reducible repeat' first|refine av ?_|simp[Dd]);refine fA (sP P) P.length (fun i _=> ∀(k:Nat) (r:Rl),k<i->P[k]? =some r->ux P k r) () (by simp[sP];exact cW) (fun k b ab=>Ω) (fun _ ai _=>?_) (fun i _ aw ai _=>?_)
 ·have:R=true:=ps.2 ⟨gQ,fun i r hr=>ai i r (fo.1 hr).1 hr⟩;subst this;clear ai ps;simp[sP];exact bY
 obtain⟨r,hr⟩:∃e,P[i]? =some e:=⟨_,cL aw⟩;have jo:∀h,(P[i]'h)=r:=fun h=>by rw[cL aw]at hr;exact gB hr
 have bZ:aY ((i:Int)+1):=by unfold aY;omega
 have dp:=X3 P r.name;have c1:=X8 r.name;have fS:=e0 r.ar 0 4;have D6:=e0 r.loc 0 8;have cN:=akT P r.body (r.ar+r.loc);have mZ:=ak2 r.body;by_cases cH:ux P i r
 ·have jk:∀(k:Nat) (q:Rl),k<i+1->P[k]? =some q->ux P k q:=fun k q ab bp=>by
   rcases mc k i with h|h
   ·exact ai k q h bp
   ·obtain rfl:k=i:=Ω
    rw[hr]at bp;cases bp;exact cH
  obtain⟨ao,aL,bB,b9,ee,dC⟩:=cH;rw[ao]at dp;rw[aL]at c1;rw[ee]at cN;rw[oX bB]at fS;rw[oX b9]at D6;have cK:¬60<(if r.body.fits 80 then(r.body.sz:Int)else 0):=Ω
  generalize (if r.body.fits 80 then(r.body.sz:Int)else 0)=z at mZ cK;have eX:aY (r.ar+r.loc):=by unfold aY;omega
  clear ai ps ao aL ee dC;simp[sP,aw,jo];(with_reducible repeat' first|refine av ?_|refine aZ dp ?_|refine a1 dp ?_|refine aZ c1 ?_|refine a1 c1 ?_|refine aZ fS ?_|refine a1 fS ?_|refine aZ D6 ?_|refine a1 D6 ?_|refine aZ cN ?_|refine a1 cN ?_|refine aZ mZ ?_|refine a1 mZ ?_|simp[aw,jo,bZ,eX,cK]);exact b1.rng () aw jk (by simp[sP];exact cW)
 ·have:R=false:=by
   cases R with
   |false=>rfl
   |true=>exact absurd ((ps.1 rfl).2 i r hr) cH
  subst this;unfold ux at cH;clear ai ps;generalize oo P r.name=m at dp cH;generalize gG r.name=ue at c1 cH;generalize (r.body.fits 80&&r.body.cf P&&su r.body (r.ar+r.loc))=cB at cN cH;generalize (if r.body.fits 80 then(r.body.sz:Int)else 0)=z at mZ cH;by_cases cF:m=i;rotate_left
  ·have ah:(m !=(i:Int))=true:=by simpa using cF
   simp[sP,aw,jo];exact bY
  subst cF;cases ue
  ·simp[sP,aw,jo];exact bY
  by_cases c3:0<=r.ar/\r.ar<=4;rotate_left
  ·rw[decide_eq_false c3]at fS;simp[sP,aw,jo];exact bY
  rw[oX c3]at fS;by_cases c4:0<=r.loc/\r.loc<=8;rotate_left
  ·rw[decide_eq_false c4]at D6;simp[sP,aw,jo];exact bY
  rw[oX c4]at D6;have eX:aY (r.ar+r.loc):=by unfold aY;omega
  cases cB
  ·simp[sP,aw,jo];exact bY
  have cK:60<z:=by have:¬z<=60:=fun h=>cH ⟨rfl,rfl,c3,c4,rfl,h⟩;omega
  simp[sP,aw,jo];exact bY
def q9(o:aW (List (List aj)×List (List aj))):ae:=match o with
 |some (a,ms)=>.tuple [.slice 1 .no (b6 a),.int .i64 ms.length,.bool true]
 |none=>.tuple [.slice 1 .no [],.int .i64 0,.bool false]
def kM(ns out:List (List aj)):List (aC×dn):=[(.loc 0,⟨ns.length,9,1,none⟩),(.loc 1,⟨out.length,9,1,none⟩)]
def qH(l:List (List aj))(i:Nat)(x:List (List aj)×List (List aj)):aU:=⟨[(5,.slice 1 (.own (.loc 0)) (b6 x.1)),(6,.slice 1 (.own (.loc 1)) (b6 x.2)),(14,.slice 1 .no (b6 l)),(15,.int .i64 l.length),(16,.int .i64 i)],[],kM x.1 x.2,2,[]⟩
def rE(l:List (List aj))(i:Nat)(ns out:List (List aj))(w:List aj)(k:Nat):aU:=⟨[(5,.slice 1 (.own (.loc 0)) (b6 ns)),(6,.slice 1 (.own (.loc 1)) (b6 out)),(8,.str w),(11,.int .i64 k),(14,.slice 1 .no (b6 l)),(15,.int .i64 l.length),(16,.int .i64 i)],[],kM ns out,2,[]⟩
theorem Ln{α:Type}[BEq α][LawfulBEq α]{w:α}:∀{ns:List α} {k:Nat},ns[k]? =some w->(∀m,m<k->ns[m]?≠some w)->ns.idxOf w=k
 |x::ns,0,h,_=>by simp at h;subst h;simp
 |x::ns,k+1,h,aM=>by
  have bz:=aM 0 Ω;simp at bz;have ah:(x==w)=false:=by simpa using bz
  have aw:=Ln (ns:=ns) (k:=k) (by simpa using h) fun m hm=>by simpa using aM (m+1) Ω
  rw[List.idxOf_cons,ah,aw];rfl
 |[],k,h,_=>by simp at h
theorem Tu{α:Type}[BEq α][LawfulBEq α]{w:α}:∀{ns:List α},(∀m,m<ns.length->ns[m]?≠some w)->w∉ns/\ns.idxOf w=ns.length:=by
 intro ns h;have:w∉ns:=fun hm=>by obtain⟨k,ab⟩:=List.getElem?_of_mem hm;exact h k (fo.1 ab).1 ab
 exact⟨this,List.idxOf_eq_length this⟩
set_option maxRecDepth 8000 in
theorem akV(l:List (List aj))(aD:l.length<=100000)(hw:∀w∈l,w≠[]):bW aF 173 [.slice 1 .no (b6 l)] (q9 (num [] l)):=by
 obtain⟨R,bt⟩:∃R,R=q9 (num [] l):=⟨_,rfl⟩;rw[<-bt];have qU:kin (fun _=>dr) R:=by rw[bt];unfold q9;split<;>simp[kin,kinL]
 refine bI kX acm ahX (fun aG=>?_) (hr:=qU);unfold Qe;clear aG;simp;(with_reducible repeat' first|refine av ?_|simp);refine fA (qH l) l.length (fun i x=>q9 ((num x.1 (l.drop i)).map fun y=>(x.2++y.1,y.2))=R/\x.1.length<=i/\x.2.length<=i) ([],[]) (by simp[qH,kM,mF];exact⟨by simp[fresh,kinL,kin,bu,ak,Pv.look,eo],cG (by simp[fresh,kinL,kin,bu,ak,Pv.look,eo]),cI (by simp[fresh,kinL,kin,cw,ak,Pv.look,eo]),Ψ⟩) ⟨by rw[bt];simp,Ψ,Ψ⟩ (fun x ai _=>?_) (fun i x aw ai _=>?_)
 ·obtain⟨ns,out⟩:=x;obtain⟨ai,_,_⟩:=ai;simp only[jR,num,lM,q9,List.append_nil]at ai;subst ai;clear bt;simp[qH,kM];exact bY
 obtain⟨ns,out⟩:=x;obtain⟨ai,mT,qa⟩:=ai;simp only at ai mT qa;obtain⟨w,af⟩:∃v,l[i]? =some v:=⟨_,cL aw⟩;have fh:∀cK,((b6 l)[i]'cK)= .str w:=fun cK=>by rw[l8 aw];rw[cL aw]at af;rw[gB af]
 have qd:=hw w (e1 af);have bZ:aY ((i:Int)+1):=by unfold aY;omega
 have uZ:out.length+1<=aR:=by unfold aR;omega
 have jf:ns.length+1<=aR:=by unfold aR;omega
 rw[fM af]at ai;clear bt;rcases GZ w with⟨s,rfl⟩|aN;rotate_left
 ·rw[ve _ _ _ aN,Option.map_map]at ai;have eU:q9 ((num ns (l.drop (i+1))).map fun y=>((out++[w])++y.1,y.2))=R:=by rw[<-ai];congr 2;funext y;simp
  obtain⟨c,r,rfl⟩:∃c r,w=c::r:=by
   cases w with
   |nil=>exact absurd rfl qd
   |cons c r=>exact⟨c,r,rfl⟩
  have ah:((c.toNat:Int) !=63)=true:=yD (d:=63) fun h=>aN r (by rw[h]);have zv:(0:Int)<(r.length:Int)+1:=Ω
  clear ai aN;simp[qH,kM,aw];(with_reducible repeat' first|refine av ?_|simp[aw,fh,af,ah,zv,uZ,bZ]);refine b1.rng (ns,out++[c::r]) aw ⟨eU,by simp;omega,by simp;omega⟩ (by simp[qH,kM,qq,ll,mF];exact⟨by simp[fresh,kinL,kin,bu,ak,Pv.look,cv,eo],cG (by simp[fresh,kinL,kin,bu,ak,Pv.look,cv,eo]),cI (by simp[fresh,kinL,kin,cw,ak,Pv.look,cv,eo]),Ψ⟩)
 ·rw[Eh]at ai;have cA:=Oa s;have c1:=hQ s;have zv:(0:Int)<(s.length:Int)+1:=Ω
  have xY:(1:Int)<=(s.length:Int)+1:=Ω
  unfold BL at cA;by_cases rX:w8 s=true;rotate_left
  ·rw[br rX]at ai;simp only[vC,q9]at ai;subst ai;unfold w8 at rX;rw[Bool.or_eq_true,not_or]at rX;obtain⟨I,J⟩:=rX;rw[Bool.not_eq_true]at I;rw[I]at c1;cases aV:gH s with
   |none=>rw[aV]at cA;simp only[Option.getD_none,uu]at cA;clear J;simp[qH,kM,aw];exact bY
   |some n=>rw[aV]at cA J;simp only[qD,Option.isSome_some,fs]at cA J;have eO:=e0 n 0 100000;rw[decide_eq_false J]at eO;clear J;simp[qH,kM,aw];exact bY
  rw[if_pos rX]at ai;rw[Option.map_map]at ai;cases fV:gb s
  ·rw[fV]at c1;obtain⟨n,Td,S4⟩:∃n,gH s=some n/\(0<=n/\n<=100000):=by
    unfold w8 at rX;rw[fV,Bool.false_or]at rX;split at rX
    ·rename_i n h;exact⟨n,h,by simpa using rX⟩
    ·cases rX
   rw[Td]at cA;simp only[qD,Option.isSome_some]at cA;have eO:=e0 n 0 100000;rw[oX S4]at eO;clear rX Td S4;simp[qH,kM,aw];(with_reducible repeat' first|refine av ?_|refine aZ cA ?_|refine a1 cA ?_|refine aZ c1 ?_|refine a1 c1 ?_|refine aZ eO ?_|refine a1 eO ?_|simp[aw,fh,af,zv,xY]);refine hR (rE l i ns out (63::s)) (fun k=>ns.length-k) (fun k=>k<=ns.length/\∀m,m<k->ns[m]?≠some (63::s)) 0 (by simp[rE,kM];exact⟨by simp[fresh,kinL,kin,bu,ak,Pv.look,eo],cG (by simp[fresh,kinL,kin,bu,ak,Pv.look,eo]),cI (by simp[fresh,kinL,kin,cw,ak,Pv.look,eo]),Ψ⟩) ⟨Ω,fun m h=>Ω⟩ ?_;rintro k ⟨ab,k8⟩ _;rcases jS ab with rfl|ga
   ·obtain⟨I,J⟩:=Tu k8;rw[br I,J]at ai;have eX:aY (ns.length:Int):=by unfold aY;omega
    have dp:=vx (ns.length:Int) eX;have hH:(Lib.itoa (ns.length:Int)).length+1<=aR:=by have:=x2 eX;unfold aR;omega
    have zn:1+(Lib.itoa (ns.length:Int)).length<=aR:=Ω
    have eU:q9 ((num (ns++[63::s]) (l.drop (i+1))).map fun y=>((out++[63::Lib.itoa (ns.length:Int)])++y.1,y.2))=R:=by rw[<-ai];congr 2;funext y;simp
    clear ai k8 I J;simp[rE,kM];(with_reducible repeat' first|refine av ?_|refine aZ dp ?_|refine a1 dp ?_|simp[hH,zn,uZ,jf,bZ]);refine b1.rng (ns++[63::s],out++[63::Lib.itoa (ns.length:Int)]) aw ⟨eU,by simp;omega,by simp;omega⟩ (by simp[qH,kM,qq,ll,mF];exact⟨by simp[fresh,kinL,kin,bu,ak,Pv.look,cv,eo],cG (by simp[fresh,kinL,kin,bu,ak,Pv.look,cv,eo]),cI (by simp[fresh,kinL,kin,cw,ak,Pv.look,cv,eo]),Ψ⟩)
   ·obtain⟨u,hu⟩:∃v,ns[k]? =some v:=⟨_,cL ga⟩;have kR:∀cK,((b6 ns)[k]'cK)= .str u:=fun cK=>by rw[l8 ga];rw[cL ga]at hu;rw[gB hu]
    have jm:(k:Int)<ns.length:=Ω
    have lW:aY ((k:Int)+1):=by unfold aY;omega
    by_cases he:u=63::s
    ·subst he;have J:=Ln hu k8;rw[if_pos (e1 hu),J]at ai;have eX:aY (k:Int):=by unfold aY;omega
     have dp:=vx (k:Int) eX;have hH:(Lib.itoa (k:Int)).length+1<=aR:=by have:=x2 eX;unfold aR;omega
     have zn:1+(Lib.itoa (k:Int)).length<=aR:=Ω
     have b7:((k:Int)==ns.length)=false:=jj.2 Ω;have eU:q9 ((num ns (l.drop (i+1))).map fun y=>((out++[63::Lib.itoa (k:Int)])++y.1,y.2))=R:=by rw[<-ai];congr 2;funext y;simp
     clear ai k8 J;simp[rE,kM];(with_reducible repeat' first|refine av ?_|refine aZ dp ?_|refine a1 dp ?_|simp[ga,jm,kR,hu,b7,hH,zn,uZ,bZ]);refine b1.rng (ns,out++[63::Lib.itoa (k:Int)]) aw ⟨eU,by simp;omega,by simp;omega⟩ (by simp[qH,kM,qq,ll,mF];exact⟨by simp[fresh,kinL,kin,bu,ak,Pv.look,cv,eo],cG (by simp[fresh,kinL,kin,bu,ak,Pv.look,cv,eo]),cI (by simp[fresh,kinL,kin,cw,ak,Pv.look,cv,eo]),Ψ⟩)
    ·have ah:=r5 he;have KF:∀m,m<k+1->ns[m]?≠some (63::s):=fun m hm=>by
      rcases mc m k with h|h
      ·exact k8 m h
      ·obtain rfl:m=k:=Ω
       rw[hu];simpa using he
     clear ai k8;simp[rE,kM];((with_reducible repeat' first|refine av ?_|simp[ga,jm,kR,hu,ah,lW]|((first|apply dt|apply dx|apply dw)<;>intro h<;>try simp at h))<;>(try exact dQ));refine b1.whl (k+1) Ω ⟨ga,KF⟩ (by simp[rE,kM];exact⟨by simp[fresh,kinL,kin,bu,ak,Pv.look,eo],cG (by simp[fresh,kinL,kin,bu,ak,Pv.look,eo]),cI (by simp[fresh,kinL,kin,cw,ak,Pv.look,eo]),Ψ⟩)
  ·rw[fV]at c1;generalize (gH s).getD 0=b0 at cA;generalize (gH s).isSome=cS at cA;clear rX;simp[qH,kM,aw];(with_reducible repeat' first|refine av ?_|refine aZ cA ?_|refine a1 cA ?_|refine aZ c1 ?_|refine a1 c1 ?_|simp[aw,fh,af,zv,xY]);refine hR (rE l i ns out (63::s)) (fun k=>ns.length-k) (fun k=>k<=ns.length/\∀m,m<k->ns[m]?≠some (63::s)) 0 (by simp[rE,kM];exact⟨by simp[fresh,kinL,kin,bu,ak,Pv.look,eo],cG (by simp[fresh,kinL,kin,bu,ak,Pv.look,eo]),cI (by simp[fresh,kinL,kin,cw,ak,Pv.look,eo]),Ψ⟩) ⟨Ω,fun m h=>Ω⟩ ?_;rintro k ⟨ab,k8⟩ _;rcases jS ab with rfl|ga
   ·obtain⟨I,J⟩:=Tu k8;rw[br I,J]at ai;have eX:aY (ns.length:Int):=by unfold aY;omega
    have dp:=vx (ns.length:Int) eX;have hH:(Lib.itoa (ns.length:Int)).length+1<=aR:=by have:=x2 eX;unfold aR;omega
    have zn:1+(Lib.itoa (ns.length:Int)).length<=aR:=Ω
    have eU:q9 ((num (ns++[63::s]) (l.drop (i+1))).map fun y=>((out++[63::Lib.itoa (ns.length:Int)])++y.1,y.2))=R:=by rw[<-ai];congr 2;funext y;simp
    clear ai k8 I J;simp[rE,kM];(with_reducible repeat' first|refine av ?_|refine aZ dp ?_|refine a1 dp ?_|simp[hH,zn,uZ,jf,bZ]);refine b1.rng (ns++[63::s],out++[63::Lib.itoa (ns.length:Int)]) aw ⟨eU,by simp;omega,by simp;omega⟩ (by simp[qH,kM,qq,ll,mF];exact⟨by simp[fresh,kinL,kin,bu,ak,Pv.look,cv,eo],cG (by simp[fresh,kinL,kin,bu,ak,Pv.look,cv,eo]),cI (by simp[fresh,kinL,kin,cw,ak,Pv.look,cv,eo]),Ψ⟩)
   ·obtain⟨u,hu⟩:∃v,ns[k]? =some v:=⟨_,cL ga⟩;have kR:∀cK,((b6 ns)[k]'cK)= .str u:=fun cK=>by rw[l8 ga];rw[cL ga]at hu;rw[gB hu]
    have jm:(k:Int)<ns.length:=Ω
    have lW:aY ((k:Int)+1):=by unfold aY;omega
    by_cases he:u=63::s
    ·subst he;have J:=Ln hu k8;rw[if_pos (e1 hu),J]at ai;have eX:aY (k:Int):=by unfold aY;omega
     have dp:=vx (k:Int) eX;have hH:(Lib.itoa (k:Int)).length+1<=aR:=by have:=x2 eX;unfold aR;omega
     have zn:1+(Lib.itoa (k:Int)).length<=aR:=Ω
     have b7:((k:Int)==ns.length)=false:=jj.2 Ω;have eU:q9 ((num ns (l.drop (i+1))).map fun y=>((out++[63::Lib.itoa (k:Int)])++y.1,y.2))=R:=by rw[<-ai];congr 2;funext y;simp
     clear ai k8 J;simp[rE,kM];(with_reducible repeat' first|refine av ?_|refine aZ dp ?_|refine a1 dp ?_|simp[ga,jm,kR,hu,b7,hH,zn,uZ,bZ]);refine b1.rng (ns,out++[63::Lib.itoa (k:Int)]) aw ⟨eU,by simp;omega,by simp;omega⟩ (by simp[qH,kM,qq,ll,mF];exact⟨by simp[fresh,kinL,kin,bu,ak,Pv.look,cv,eo],cG (by simp[fresh,kinL,kin,bu,ak,Pv.look,cv,eo]),cI (by simp[fresh,kinL,kin,cw,ak,Pv.look,cv,eo]),Ψ⟩)
    ·have ah:=r5 he;have KF:∀m,m<k+1->ns[m]?≠some (63::s):=fun m hm=>by
      rcases mc m k with h|h
      ·exact k8 m h
      ·obtain rfl:m=k:=Ω
       rw[hu];simpa using he
     clear ai k8;simp[rE,kM];((with_reducible repeat' first|refine av ?_|simp[ga,jm,kR,hu,ah,lW]|((first|apply dt|apply dx|apply dw)<;>intro h<;>try simp at h))<;>(try exact dQ));refine b1.whl (k+1) Ω ⟨ga,KF⟩ (by simp[rE,kM];exact⟨by simp[fresh,kinL,kin,bu,ak,Pv.look,eo],cG (by simp[fresh,kinL,kin,bu,ak,Pv.look,eo]),cI (by simp[fresh,kinL,kin,cw,ak,Pv.look,eo]),Ψ⟩)
def kE:Rl:=⟨[],0,0,xC⟩
theorem BQ:kE.e= .agg [.str [],.int .i64 0,.int .i64 0,.int .i64 0,.str [],.slice 4 .no [],.slice 4 .no []]:=rfl
def Cr(o:aW Rl)(r:ae)(al:dJ):Prop:=al=⟨[],[]⟩/\match o with
 |some x=>r= .tuple [x.e,.bool true]
 |none=> ∃x:Rl,r= .tuple [x.e,.bool false]
theorem cO.df{dv:List ca}{e:Exit}{st:aU}(o:aW Rl)(x:ae)(b:Bool)(iR:e= .ret\/e= .normal)(jb:Cr o (.tuple [x,.bool b]) ⟨[],[]⟩)(ab:kin (fun _=>dr) x)(h:c8 st dv fun r=>r= .tuple [x,.bool b]):cO dv ⟨[],[]⟩ (Cr o) e st:=by
 refine cO.at ⟨[],[]⟩ iR kk (Same.refl _) (fun k cs h=>by simp[Pv.look]at h) (fun k cs h=>by simp[Pv.look]at h) ?_;unfold c8 at h⊢;split at h
 ·rename_i c bj hr;refine⟨h.1,?_⟩;rw[h.2];refine⟨?_,jb⟩;simp only[kin,kinL,and_true];exact oQ (fun _ h=>h.elim) _ ab
 ·exact h.elim
theorem xe{x:Rl}{p:ae}(h:p=x.e):Cr none (.tuple [p,.bool false]) ⟨[],[]⟩:=⟨rfl,x,by rw[h]⟩
theorem YF{x:Rl}{p:ae}(h:p=x.e):Cr (some x) (.tuple [p,.bool true]) ⟨[],[]⟩:=⟨rfl,by rw[h]⟩
theorem UZ{l T M:List (List aj)}(h:num [] l=some (T,M)):T.length=l.length:=(zK l [] T M h).1
theorem Mu:∀(l ns T M:List (List aj)),(∀w∈l,w≠[])->num ns l=some (T,M)->(∀w∈T,w≠[])/\M.length<=ns.length+l.length
 |[],ns,T,M,_,h=>by simp only[num,ei,gY]at h;obtain⟨rfl,rfl⟩:=h;simp
 |w::l,ns,T,M,hw,h=>by
  have pA:∀v∈l,v≠[]:=fun v aN=>hw v (by simp[aN]);rcases GZ w with⟨s,rfl⟩|aN
  ·rw[Eh]at h;split at h
   ·simp only[iN]at h;obtain⟨⟨w9,xa⟩,af,e⟩:=h;simp only[gY]at e;obtain⟨rfl,rfl⟩:=e;obtain⟨I,J⟩:=Mu l _ w9 xa pA af;refine⟨fun v aN=>?_,?_⟩
    ·rcases gy.1 aN with rfl|aN
     ·simp
     ·exact I v aN
    ·split at J<;>simp at J⊢ <;>omega
   ·cases h
  ·rw[ve _ _ _ aN]at h;simp only[iN]at h;obtain⟨⟨w9,xa⟩,af,e⟩:=h;simp only[gY]at e;obtain⟨rfl,rfl⟩:=e;obtain⟨I,J⟩:=Mu l _ w9 xa pA af;refine⟨fun v aN=>?_,by simp;omega⟩;rcases gy.1 aN with rfl|aN
   ·exact hw _ Ψ
   ·exact I v aN
def xi(T:List (List aj))(c:Int)(name:List aj)(k:Nat):aU:=⟨[(2,.ptr (.loc 0) 0),(4,.slice 1 .no (b6 T)),(5,.int .i64 c),(7,.ptr (.loc 1) 0),(8,.int .i64 (4+(k:Int)))],[(.loc 0,[.str [],.int .i64 0,.int .i64 0,.int .i64 0,.str [],.slice 4 .nil [],.slice 4 .nil []]),(.loc 1,[.str name,.int .i64 k,.int .i64 0,.int .i64 0,.str [],.slice 4 .nil [],.slice 4 .nil []])],[],2,[]⟩
set_option maxRecDepth 8000 in
theorem acX(l:List (List aj))(aD:l.length<=100000)(hw:∀w∈l,w≠[]):b3 aF 108 [.slice 1 .no (b6 l)] ⟨[],[]⟩ (Cr (nV l)):=by
 have c1:=akV l aD hw;obtain⟨O,gR⟩:∃O,O=nV l:=⟨_,rfl⟩;rw[<-gR];unfold nV at gR;cases uX:num [] l with
 |none=>rw[uX]at c1 gR;subst gR;simp only[q9]at c1;have az:=kk;refine b3.mk mixed kX C4 Ep Ψ az.obj fun aG b2=>?_;unfold AB;clear aG b2;simp;(with_reducible repeat' first|refine av ?_|refine aZ c1 ?_|refine a1 c1 ?_|simp);refine cO.df _ (.agg [.str [],.int .i64 0,.int .i64 0,.int .i64 0,.str [],.slice 4 .no [],.slice 4 .no []]) false Ψ (xe BQ.symm) (by simp[kin,kinL]) ?_;simp[c8,vi,ba,bg,aT]
 |some x=>
 obtain⟨T,M⟩:=x;rw[uX]at c1 gR;simp only[q9]at c1;have anm:=UZ uX;obtain⟨adA,p3⟩:=Mu l [] T M hw uX;simp only[mJ,Nat.zero_add]at p3;have adz:T.length<=100000:=Ω
 by_cases cy:T.length<6
 ·have:O=none:=by
   rw[gR];match T,cy with
   |[],_=>rfl
   |[a],_=>rfl
   |[a,b],_=>rfl
   |[a,b,c],_=>rfl
   |[a,b,c,d],_=>simp[iV]
   |[a,b,c,d,e],_=>
    simp only;split
    ·have:∀k r,iV 0 [e]=some (k,r)->r=[]:=fun k r h=>by
      simp only[iV]at h;split at h
      ·cases h;rfl
      ·split at h<;>cases h
     cases aV:iV 0 [e]with
     |none=>rfl
     |some y=>obtain⟨k,r⟩:=y;have:=this k r aV;subst this;simp[fp]
    ·rfl
  subst this;have A1:(T.length:Int)<6:=Ω
  clear gR;have az:=kk;refine b3.mk mixed kX C4 Ep Ψ az.obj fun aG b2=>?_;unfold AB;clear aG b2;simp;(with_reducible repeat' first|refine av ?_|refine aZ c1 ?_|refine a1 c1 ?_|simp[A1]);refine cO.df _ (.agg [.str [],.int .i64 0,.int .i64 0,.int .i64 0,.str [],.slice 4 .no [],.slice 4 .no []]) false Ψ (xe BQ.symm) (by simp[kin,kinL]) ?_;simp[c8,vi,ba,bg,aT]
 have A1:¬(T.length:Int)<6:=Ω
 obtain⟨t0,t1,t2,t3,Xz,rfl⟩:∃a b c d e,T=a::b::c::d::e:=by
  match T,cy with
  |a::b::c::d::e,_=>exact⟨a,b,c,d,e,rfl⟩
  |[],h=>simp at h
  |[a],h=>simp at h
  |[a,b],h=>simp at h
  |[a,b,c],h=>simp at h
 simp only at gR;generalize Dg:t0::t1::t2::t3::Xz=T at*;have g1:T[1]? =some t1:=by rw[<-Dg];rfl
 have g2:T[2]? =some t2:=by rw[<-Dg];rfl
 have g3:T[3]? =some t3:=by rw[<-Dg];rfl
 have wA:Xz=T.drop 4:=by rw[<-Dg];rfl
 rw[wA]at gR;have fK:1<T.length:=Ω
 have cR:2<T.length:=Ω
 have G7:3<T.length:=Ω
 have s1:∀cK,((b6 T)[1]'cK)= .str t1:=fun cK=>by rw[l8 fK];rw[cL fK]at g1;rw[gB g1]
 have s2:∀cK,((b6 T)[2]'cK)= .str t2:=fun cK=>by rw[l8 cR];rw[cL cR]at g2;rw[gB g2]
 have B4:∀cK,((b6 T)[3]'cK)= .str t3:=fun cK=>by rw[l8 G7];rw[cL G7]at g3;rw[gB g3]
 have i1:(1:Int)<T.length:=Ω
 have i2:(2:Int)<T.length:=Ω
 have i3:(3:Int)<T.length:=Ω
 clear Dg uX wA;by_cases aI:t1=iA;rotate_left
 ·have:O=none:=by rw[gR,br fun h=>aI h.1]
  subst this;have ah:(t1 != [100,101,102,105,110,101])=true:=r5 aI;clear gR;have az:=kk;refine b3.mk mixed kX C4 Ep Ψ az.obj fun aG b2=>?_;unfold AB;clear aG b2;simp;((with_reducible repeat' first|refine av ?_|refine aZ c1 ?_|refine a1 c1 ?_|simp[A1,fK,i1,s1,g1,ah]|((first|apply dt|apply dx|apply dw)<;>intro h<;>try simp at h))<;>(try exact dQ));refine cO.df _ (.agg [.str [],.int .i64 0,.int .i64 0,.int .i64 0,.str [],.slice 4 .no [],.slice 4 .no []]) false Ψ (xe BQ.symm) (by simp[kin,kinL]) ?_;simp[c8,vi,ba,bg,aT]
 by_cases Gp:t2=[40];rotate_left
 ·have:O=none:=by rw[gR,br fun h=>Gp h.2]
  subst this;have ah:=r5 Gp;unfold iA at aI;clear gR;have az:=kk;refine b3.mk mixed kX C4 Ep Ψ az.obj fun aG b2=>?_;unfold AB;clear aG b2;simp;((with_reducible repeat' first|refine av ?_|refine aZ c1 ?_|refine a1 c1 ?_|simp[A1,fK,i1,s1,g1,aI,cR,i2,s2,g2,ah]|((first|apply dt|apply dx|apply dw)<;>intro h<;>try simp at h))<;>(try exact dQ));refine cO.df _ (.agg [.str [],.int .i64 0,.int .i64 0,.int .i64 0,.str [],.slice 4 .no [],.slice 4 .no []]) false Ψ (xe BQ.symm) (by simp[kin,kinL]) ?_;simp[c8,vi,ba,bg,aT]
 rw[if_pos ⟨aI,Gp⟩]at gR;unfold iA at aI;subst Gp;have az:=kk;refine b3.mk mixed kX C4 Ep Ψ az.obj fun aG b2=>?_;unfold AB;clear aG b2;simp;(with_reducible repeat' first|refine av ?_|refine aZ c1 ?_|refine a1 c1 ?_|simp[A1,fK,i1,s1,g1,aI,cR,i2,s2,g2,G7,i3,B4,g3]);clear i1 i2 i3 s1 s2 B4 fK cR G7 g1 g2 g3 A1;refine hR (xi T M.length t3) (fun k=>T.length-(4+k)) (fun k=>4+k<=T.length/\iV k (T.drop (4+k))=iV 0 (T.drop 4)) 0 (by simp[xi];exact⟨by simp[fresh,kinL,kin,bu,ak,Pv.look,eo],cG (by simp[fresh,kinL,kin,bu,ak,Pv.look,eo]),cI (by simp[fresh,kinL,kin,cw,ak,Pv.look,eo]),Ψ⟩) ⟨Ω,rfl⟩ ?_;rintro k ⟨ab,oM⟩ _;have eX:aY (k:Int):=by unfold aY;omega
 have dp:=vx (k:Int) eX;have hH:(Lib.itoa (k:Int)).length+1<=aR:=by have:=x2 eX;unfold aR;omega
 rcases jS ab with wi|ga
 ·have:O=none:=by rw[gR,<-oM,wi,jR];rfl
  subst this;have je:¬(4+(k:Int))<T.length:=Ω
  have aeg:(T.length:Int)<=4+(k:Int):=Ω
  clear gR oM dp;simp[xi];(with_reducible repeat' first|refine av ?_|simp[je,aeg]);refine cO.df _ (.agg [.str [],.int .i64 0,.int .i64 0,.int .i64 0,.str [],.slice 4 .no [],.slice 4 .no []]) false Ψ (xe BQ.symm) (by simp[kin,kinL]) ?_;simp[c8,vi,ba,bg,aT]
 obtain⟨w,af⟩:∃v,T[4+k]? =some v:=⟨_,cL ga⟩;have fh:∀cK,((b6 T)[4+k]'cK)= .str w:=fun cK=>by rw[l8 ga];rw[cL ga]at af;rw[gB af]
 have cF:(4+(k:Int))<T.length:=Ω
 have c2:¬(T.length:Int)<=4+(k:Int):=Ω
 have c3:(0:Int)<=4+(k:Int):=Ω
 have c4:(4+(k:Int)).toNat=4+k:=Ω
 have c5:aY (4+(k:Int)+1):=by unfold aY;omega
 have j8:aY ((k:Int)+1):=by unfold aY;omega
 rw[fM af]at oM;have To:iV k (w::T.drop (4+k+1))=if w=[41]then some ((k:Int),T.drop (4+k+1))else if w=63::Lib.itoa (k:Int)then iV ((k:Int)+1) (T.drop (4+k+1))else none:=rfl
 rw[To]at oM;clear To;by_cases aN:w=63::Lib.itoa (k:Int)
 ·have fa:w≠[41]:=by rw[aN];simp
  rw[br fa,if_pos aN]at oM;have ah:(w==63::Lib.itoa (k:Int))=true:=by simpa using aN
  have eU:iV ((k+1:Nat):Int) (T.drop (4+(k+1)))=iV 0 (T.drop 4):=oM;clear oM gR aN fa;simp[xi];(with_reducible repeat' first|refine av ?_|refine aZ dp ?_|refine a1 dp ?_|simp[cF,c3,c4,ga,fh,af,hH,ah,c5,j8]);refine b1.whl (k+1) Ω ⟨Ω,eU⟩ (by simp[xi,qA];exact⟨by simp[fresh,kinL,kin,bu,ak,Pv.look,eo],cG (by simp[fresh,kinL,kin,bu,ak,Pv.look,eo]),cI (by simp[fresh,kinL,kin,cw,ak,Pv.look,eo]),Ψ⟩)
 have hT:=wM aN;by_cases fa:w=[41];rotate_left
 ·rw[br fa,br aN]at oM;have:O=none:=by rw[gR,<-oM]
  subst this;have ah:=r5 fa;clear gR oM;simp[xi];((with_reducible repeat' first|refine av ?_|refine aZ dp ?_|refine a1 dp ?_|simp[cF,c2,c3,c4,ga,fh,af,hH,hT,ah,c5,j8]|((first|apply dt|apply dx|apply dw)<;>intro h<;>try simp at h))<;>(try exact dQ));refine cO.df _ (.agg [.str [],.int .i64 0,.int .i64 0,.int .i64 0,.str [],.slice 4 .no [],.slice 4 .no []]) false Ψ (xe BQ.symm) (by simp[kin,kinL]) ?_;simp[c8,vi,ba,bg,aT]
 subst fa;rw[if_pos rfl]at oM;rw[<-oM]at gR;simp only at gR;have dD:=acY T adz adA (2*(T.length-(4+k+1))+1) (4+k+1) Ω (cc _);rw[show(2*(T.drop (4+k+1)).length+1)=2*(T.length-(4+k+1))+1 by rw[hX]]at gR;have Kn:((4+k+1:Nat):Int)=4+(k:Int)+1:=Ω
 rw[Kn]at dD;have n4:aY ((M.length:Int)-(k:Int)):=by unfold aY;omega
 have K9:aY ((T.length:Int)-1):=by unfold aY;omega
 clear oM;cases du:fp j2 Go.Pv.hdS (2*(T.length-(4+k+1))+1) (T.drop (4+k+1))with
 |none=>rw[du]at dD gR;simp only at gR;subst gR;simp[xi];(with_reducible repeat' first|refine av ?_|refine aZ dp ?_|refine a1 dp ?_|simp[cF,c2,c3,c4,ga,fh,af,hH,hT,c5,j8]);refine CallDo.ob dD kk (fun k cs h=>by simp[Pv.look]at h) (fun k cs h=>by simp[Pv.look]at h) (by simp[kinL,kin]) ?_;rintro r al ⟨rfl,g,q,rfl⟩;refine⟨Same.refl _,?_⟩;simp[bc];(with_reducible repeat' first|refine av ?_|simp[n4,K9]);refine cO.df _ (.agg [.str t3,.int .i64 k,.int .i64 ((M.length:Int)-k),.int .i64 g.kind,.str g.name,.slice 4 .no (g.ts.map enc),.slice 4 .no (g.gs.map Gm.e)]) false Ψ (xe (x:=⟨t3,k,(M.length:Int)-k,g⟩) rfl) (by simp[kin,kinL]) ?_;simp[c8,vi,ba,bg,aT]
 |some x=>
  obtain⟨g,rest⟩:=x;rw[du]at dD gR;have ae6:=(BV E1 _ _ _ _ du).1.length_le;rw[hX]at ae6;simp[xi];(with_reducible repeat' first|refine av ?_|refine aZ dp ?_|refine a1 dp ?_|simp[cF,c2,c3,c4,ga,fh,af,hH,hT,c5,j8]);refine CallDo.ob dD kk (fun k cs h=>by simp[Pv.look]at h) (fun k cs h=>by simp[Pv.look]at h) (by simp[kinL,kin]) ?_;rintro r al ⟨rfl,rfl⟩;refine⟨Same.refl _,?_⟩;simp[bc];by_cases I:rest.length=1
  ·obtain⟨u,rfl⟩:∃u,rest=[u]:=List.length_eq_one_iff.1 I;simp only at gR;subst gR;have bp:(((T.length-1:Nat):Int)==(T.length:Int)-1)=true:=by simp;omega
   (with_reducible repeat' first|refine av ?_|simp[n4,K9,bp]);refine cO.df _ (.agg [.str t3,.int .i64 k,.int .i64 ((M.length:Int)-k),.int .i64 g.kind,.str g.name,.slice 4 .no (g.ts.map enc),.slice 4 .no (g.gs.map Gm.e)]) true Ψ (YF (x:=⟨t3,k,(M.length:Int)-k,g⟩) rfl) (by simp[kin,kinL]) ?_;simp[c8,vi,ba,bg,aT]
  ·have:O=none:=by
    rw[gR];match rest,I with
    |[],_=>rfl
    |a::b::c,_=>rfl
    |[a],h=>simp at h
   subst this;have bp:(((T.length-rest.length:Nat):Int)==(T.length:Int)-1)=false:=jj.2 Ω;clear gR;(with_reducible repeat' first|refine av ?_|simp[n4,K9,bp]);refine cO.df _ (.agg [.str t3,.int .i64 k,.int .i64 ((M.length:Int)-k),.int .i64 g.kind,.str g.name,.slice 4 .no (g.ts.map enc),.slice 4 .no (g.gs.map Gm.e)]) false Ψ (xe (x:=⟨t3,k,(M.length:Int)-k,g⟩) rfl) (by simp[kin,kinL]) ?_;simp[c8,vi,ba,bg,aT]
end
end Go.Proofs.YtlnndmgfngfeiaaGreatDoor
namespace Go.Pv
section
open Go Go.Lib
def nK(s:List aj):aW (List Rl):=match jw s with
 |none=>none
 |some l=>oU (uc l.length l)
theorem ah3(s:List aj):nK s=match jw s with
  |none=>none
  |some l=>oU (pG l.length l):=by
 unfold nK;split
 ·rfl
 ·rw[aib]
end
end Go.Pv
namespace Go.Proofs.YtlnndmgfngfeiaaGreatDoor
section
open Go Go.Pv
def qm(o:aW (List Rl)):ae:=match o with
 |some P=>.tuple [gI P,.bool true]
 |none=>.tuple [gI [],.bool false]
@[simp]theorem alX:ae.agg [.slice 7 .no []]=gI []:=rfl
@[simp]theorem alY(a:Rl)(e3:List Rl):ae.agg [.slice 7 .no (a.e::e3.map Rl.e)]=gI (a::e3):=rfl
theorem Z8(w:List aj): -1<=gi w/\gi w<=1:=by unfold gi;split<;>(try split)<;>omega
theorem JI(a:List (List aj))(w:List aj):eS (a++[w])=eS a+gi w:=by
 induction a with
 |nil=>simp[eS]
 |cons x a aX=>simp only[dF,eS,aX];omega
theorem QM:∀l:List (List aj),-(l.length:Int)<=eS l/\eS l<=l.length
 |[]=>by simp[eS]
 |w::l=>by have:=Z8 w;have:=QM l;simp only[eS,gg];omega
def jz(l:List (List aj))(i:Nat):List Rl×Nat×Int->aU
 |([],fr,d)=>⟨[(2,.ptr (.loc 0) 0),(4,.slice 1 .no (b6 l)),(6,.ptr (.loc 1) 0),(7,.int .i64 fr),(8,.int .i64 d),(22,.slice 1 .no (b6 l)),(23,.int .i64 l.length),(24,.int .i64 i)],[(.loc 0,[.slice 7 .nil []]),(.loc 1,[.slice 7 .nil []])],[],2,[]⟩
 |(x::xs,fr,d)=>⟨[(2,.ptr (.loc 0) 0),(4,.slice 1 .no (b6 l)),(6,.ptr (.loc 1) 0),(7,.int .i64 fr),(8,.int .i64 d),(22,.slice 1 .no (b6 l)),(23,.int .i64 l.length),(24,.int .i64 i)],[(.loc 0,[.slice 7 .nil []]),(.loc 1,[.slice 7 (.own (.loc 4)) (x.e::xs.map Rl.e)])],[(.loc 4,⟨xs.length+1,86,7,none⟩)],5,[]⟩
structure qF (l:List (List aj)) (R:ae) (i:Nat) (x:List Rl×Nat×Int):Prop where
 fr:x.2.1<=i
 d:x.2.2=eS ((l.drop x.2.1).take (i-x.2.1))
 op:∀m,0<m->m<=i-x.2.1->0<eS ((l.drop x.2.1).take m)
 res:∃n,(l.drop x.2.1).length<=n/\qm (oU ((pG n (l.drop x.2.1)).map (x.1++ ·)))=R
 len:x.1.length<=x.2.1
theorem qF.zero{l:List (List aj)}{R:ae}{n:Nat}(aM:l.length<=n)(h:qm (oU (pG n l))=R):qF l R 0 ([],0,0):=⟨cc _,rfl,fun m I J=>Ω,⟨n,by simpa using aM,by simpa using h⟩,Ψ⟩
theorem qF.more{l:List (List aj)}{R:ae}{i:Nat}{P:List Rl}{fr:Nat}{d:Int}(h:qF l R i (P,fr,d)){w:List aj}(hw:l[i]? =some w)(aI:0<d+gi w):qF l R (i+1) (P,fr,d+gi w):=by
 obtain⟨I,J,au,aP,bA⟩:=h;simp only at I J au aP bA;have e:(l.drop fr).take (i+1-fr)=(l.drop fr).take (i-fr)++[w]:=by rw[show i+1-fr=(i-fr)+1 by omega,k3,mb,show fr+(i-fr)=i by omega,hw];rfl
 refine⟨by simp only;omega,by simp only;rw[e,JI,<-J],fun m hm KH=>?_,aP,bA⟩;simp only at KH⊢;rcases mc (i-fr) m with b5|je
 ·have:m=i+1-fr:=Ω
  rw[this,e,JI,<-J];exact aI
 ·exact au m hm je
theorem qF.end'{l:List (List aj)}{R:ae}{i:Nat}{P:List Rl}{fr:Nat}{d:Int}(h:qF l R i (P,fr,d)){w:List aj}(hw:l[i]? =some w)(aI:¬0<d+gi w):
  (nV ((l.drop fr).take (i+1-fr))=none->R=qm none)/\∀x,nV ((l.drop fr).take (i+1-fr))=some x->qF l R (i+1) (P++[x],i+1,0):=by
 obtain⟨I,J,au,⟨n,aP,cy⟩,bA⟩:=h;simp only at I J au aP bA cy;have aw:=(fo.1 hw).1;have e:(l.drop fr).take (i+1-fr)=(l.drop fr).take (i-fr)++[w]:=by rw[show i+1-fr=(i-fr)+1 by omega,k3,mb,show fr+(i-fr)=i by omega,hw];rfl
 have hlen:((l.drop fr).take (i+1-fr)).length=i+1-fr:=by rw[pS,hX];omega
 have jU:qJ 0 (l.drop fr)=some (i+1-fr):=by
  have:=Jq ((l.drop fr).take (i+1-fr)) ((l.drop fr).drop (i+1-fr)) 0 (fun h=>by rw[h]at hlen;simp at hlen;omega) (by rw[e,JI,<-J];omega) fun k ab gj=>by rw[hlen]at gj;have:=au k ab Ω;rw[List.take_take,Nat.min_eq_left Ω];omega
  rwa[ry,hlen]at this
 have gv:(l.drop fr).drop (i+1-fr)=l.drop (i+1):=by rw[List.drop_drop];congr 1;omega
 obtain⟨u,us,hu⟩:∃u us,l.drop fr=u::us:=by
  cases aH:l.drop fr with
  |nil=>rw[aH]at hlen;simp at hlen;omega
  |cons u us=>exact⟨u,us,rfl⟩
 obtain⟨n,rfl⟩:∃m,n=m+1:=⟨n-1,by rw[hu]at aP;simp at aP;omega⟩;have KY:pG (n+1) (l.drop fr)=match nV ((l.drop fr).take (i+1-fr))with
   |some x=>(pG n (l.drop (i+1))).map (x:: ·)
   |none=>none:=by
  conv=>lhs;rw[hu];unfold pG
  rw[<-hu,jU];simp only[gv];cases nV ((l.drop fr).take (i+1-fr))<;>rfl
 rw[KY]at cy;constructor
 ·intro aM;rw[aM]at cy;exact cy.symm
 ·intro x af;rw[af]at cy;have ads:(l.drop (i+1)).length<=n:=by simp only[hX]at aP⊢;omega
  refine⟨cc _,by simp[eS],fun m hm KH=>by simp only at KH;omega,⟨n,ads,?_⟩,by simp;omega⟩;rw[<-cy];simp only[Option.map_map];congr 3;funext y;simp
theorem qF.fin{l:List (List aj)}{R:ae}{P:List Rl}{fr:Nat}{d:Int}(h:qF l R l.length (P,fr,d)):(fr<l.length->0<d/\R=qm none)/\(fr=l.length->d=0/\R=qm (oU (some P))):=by
 obtain⟨I,J,au,⟨n,aP,cy⟩,bA⟩:=h;simp only at I J au aP bA cy;constructor
 ·intro b5;have aD:(l.drop fr).length=l.length-fr:=hX ..;refine⟨by rw[J];exact au _ Ω (cc _),?_⟩;have jU:qJ 0 (l.drop fr)=none:=by
   cases aH:qJ 0 (l.drop fr)with
   |none=>rfl
   |some k=>obtain⟨bH,a2,a3,_⟩:=Jr _ _ _ aH;have:=au k bH Ω;omega
  obtain⟨u,us,hu⟩:∃u us,l.drop fr=u::us:=by
   cases aH:l.drop fr with
   |nil=>rw[aH]at aD;simp at aD;omega
   |cons u us=>exact⟨u,us,rfl⟩
  have KY:pG n (l.drop fr)=none:=by
   cases n with
   |zero=>rw[hu];rfl
   |succ n=>
    conv=>lhs;rw[hu];unfold pG
    rw[<-hu,jU]
  rw[KY]at cy;exact cy.symm
 ·intro he;subst he;refine⟨by rw[J];simp[eS],?_⟩;rw[<-cy,jR];cases n<;>simp[pG]
theorem zF(S:aC->Prop):∀a b:List ae,kinL S (a++b)↔kinL S a/\kinL S b
 |[],b=>by simp[kinL]
 |x::r,b=>by simp only[dF,kinL,zF S r b,and_assoc]
theorem QJ(w:List aj):nV [w]=none:=by
 unfold nV;cases h:num [] [w]with
 |none=>rfl
 |some p=>
  obtain⟨T,M⟩:=p;have:=UZ h;match T,this with
  |[t],_=>rfl
set_option maxRecDepth 8000 in
theorem ak4(s:List aj)(az:s.length<=aR):bW aF 37 [.str s] (qm (nK s)):=by
 have cN:=ak6 s az;obtain⟨R,bt⟩:∃R,R=qm (nK s):=⟨_,rfl⟩;rw[<-bt];have qU:kin (fun _=>dr) R:=by rw[bt];unfold qm;split<;>simp[kin,kinL]
 rw[ah3]at bt;cases aE:jw s with
 |none=>rw[aE]at cN bt;simp only[nf]at cN;simp only[qm]at bt;refine bI kX Rw Vt (fun aG=>?_) (hr:=qU);unfold Jk;clear aG;simp;(with_reducible repeat' first|refine av ?_|refine aZ cN ?_|refine a1 cN ?_|simp);rw[bt];simp[cn,r9,ba,bg,aT]
 |some l=>
 rw[aE]at cN bt;simp only[nf]at cN;simp only at bt;have aD:l.length<=20000/\∀w∈l,w≠[]:=by
  unfold jw at aE;split at aE
  ·rename_i h;cases aE;exact⟨h.2.2,Cc s.length s (cc _)⟩
  ·cases aE
 obtain⟨aD,hw⟩:=aD;refine bI kX Rw Vt (fun aG=>?_) (hr:=qU);unfold Jk;clear aG;simp;(with_reducible repeat' first|refine av ?_|refine aZ cN ?_|refine a1 cN ?_|simp);clear cN;refine fA (jz l) l.length (fun i x=>qF l R i x) ([],0,0) (by simp[jz];exact⟨by simp[fresh,kinL,kin,bu,ak,Pv.look,eo],cG (by simp[fresh,kinL,kin,bu,ak,Pv.look,eo]),cI (by simp[fresh,kinL,kin,cw,ak,Pv.look,eo]),Ψ⟩) (qF.zero (cc _) bt.symm) (fun x ai _=>?_) (fun i x aw ai _=>?_)
 ·obtain⟨P,fr,d⟩:=x;obtain⟨f1,f2⟩:=ai.fin;have ka:=ai.fr;simp only at ka;have cA:=Ob P;clear bt ai;rcases mc fr l.length with b5|je
  ·obtain⟨I,ie⟩:=f1 b5;simp only[qm]at ie;have ah:(d !=0)=true:=by simp;omega
   clear f1 f2 cA;cases P with
   |nil=>simp[jz];(with_reducible repeat' first|refine av ?_|simp[ah]);rw[ie];simp[cn,r9,ba,bg,aT]
   |cons a e3=>simp[jz];(with_reducible repeat' first|refine av ?_|simp[ah]);rw[ie];simp[cn,r9,ba,bg,aT]
  ·obtain⟨I,ie⟩:=f2 Ω;subst I;clear f1 f2;cases dM:iU P
   ·rw[dM]at cA;replace ie:R= .tuple [gI [],.bool false]:=by rw[ie];simp[oU,dM,qm]
    cases P with
    |nil=>simp[jz];(with_reducible repeat' first|refine av ?_|refine aZ cA ?_|refine a1 cA ?_|simp);rw[ie];simp[cn,r9,ba,bg,aT]
    |cons a e3=>simp[jz];(with_reducible repeat' first|refine av ?_|refine aZ cA ?_|refine a1 cA ?_|simp);rw[ie];simp[cn,r9,ba,bg,aT]
   ·rw[dM]at cA;replace ie:R= .tuple [gI P,.bool true]:=by rw[ie];simp[oU,dM,qm]
    cases P with
    |nil=>simp[jz];(with_reducible repeat' first|refine av ?_|refine aZ cA ?_|refine a1 cA ?_|simp);rw[ie];simp[cn,r9,ba,bg,aT]
    |cons a e3=>simp[jz];(with_reducible repeat' first|refine av ?_|refine aZ cA ?_|refine a1 cA ?_|simp);rw[ie];simp[cn,r9,ba,bg,aT]
 obtain⟨P,fr,d⟩:=x;obtain⟨w,af⟩:∃v,l[i]? =some v:=⟨_,cL aw⟩;have fh:∀cK,((b6 l)[i]'cK)= .str w:=fun cK=>by rw[l8 aw];rw[cL aw]at af;rw[gB af]
 have bZ:aY ((i:Int)+1):=by unfold aY;omega
 have ka:=ai.fr;have eM:=ai.len;have gv:=ai.d;simp only at ka eM gv;have nA:=QM ((l.drop fr).take (i-fr));rw[<-gv]at nA;have ad1:((l.drop fr).take (i-fr)).length<=20000:=by rw[pS,hX];omega
 have iG:P.length+1<=aR:=by unfold aR;omega
 have d64:aY (d+1):=by unfold aY;omega
 have FP:aY (d-1):=by unfold aY;omega
 have f1:(fr:Int)<=(i:Int)+1:=Ω
 have f2:(i:Int)+1<=l.length:=Ω
 have tq:=fun h=>ai.more af h;obtain⟨rT,te⟩:_/\_:=⟨fun h=>(ai.end' af h).1,fun h=>(ai.end' af h).2⟩;have kB:=acX ((l.drop fr).take (i+1-fr)) (by rw[pS,hX];omega) fun w pA=>hw w (List.mem_of_mem_drop (List.mem_of_mem_take pA));have jY:((b6 l).take (i+1)).drop fr=b6 ((l.drop fr).take (i+1-fr)):=by unfold b6;rw[<-List.map_take,<-List.map_drop,List.drop_take]
 have oF:0<=d/\(d=0->(l.drop fr).take (i+1-fr)=[w]):=by
  rcases mc fr i with b5|je
  ·have:=ai.op (i-fr) (by first|omega|(simp only;omega)) (by first|omega|(simp only;omega));simp only at this;exact⟨Ω,fun h=>Ω⟩
  ·have e:fr=i:=Ω
   subst e;refine⟨by simp[gv,eS],fun _=>?_⟩;rw[show fr+1-fr=1 by omega,List.take_one,List.head?_drop,af];rfl
 obtain⟨oF,ku⟩:=oF;clear bt ai gv nA ad1;by_cases Om:w=[40]
 ·subst Om;have uO:d+gi [40]=d+1:=by simp[gi]
  rw[uO]at tq;have aI:0<d+1:=Ω
  have eU:=tq aI;clear tq rT te kB jY uO ku;cases P with
  |nil=>simp[jz,aw];(with_reducible repeat' first|refine av ?_|simp[aw,fh,af,d64,aI,oF,bZ]);refine b1.rng (([]:List Rl),fr,d+1) aw eU ?_;simp[jz];exact⟨by simp[fresh,kinL,kin,bu,ak,Pv.look,eo],cG (by simp[fresh,kinL,kin,bu,ak,Pv.look,eo]),cI (by simp[fresh,kinL,kin,cw,ak,Pv.look,eo]),Ψ⟩
  |cons a e3=>simp[jz,aw];(with_reducible repeat' first|refine av ?_|simp[aw,fh,af,d64,aI,oF,bZ]);refine b1.rng (a::e3,fr,d+1) aw eU ?_;simp[jz];exact⟨by simp[fresh,kinL,kin,bu,ak,Pv.look,eo],cG (by simp[fresh,kinL,kin,bu,ak,Pv.look,eo]),cI (by simp[fresh,kinL,kin,cw,ak,Pv.look,eo]),Ψ⟩
 have tR:=wM Om;by_cases On:w=[41]
 ·subst On;have uO:d+gi [41]=d-1:=by simp[gi];omega
  rw[uO]at tq rT te;by_cases aI:0<d-1
  ·have eU:=tq aI;have iH:1<d:=Ω
   clear tq rT te kB jY uO ku;cases P with
   |nil=>simp[jz,aw];(with_reducible repeat' first|refine av ?_|simp[aw,fh,af,FP,aI,iH,bZ]);refine b1.rng (([]:List Rl),fr,d-1) aw eU ?_;simp[jz];exact⟨by simp[fresh,kinL,kin,bu,ak,Pv.look,eo],cG (by simp[fresh,kinL,kin,bu,ak,Pv.look,eo]),cI (by simp[fresh,kinL,kin,cw,ak,Pv.look,eo]),Ψ⟩
   |cons a e3=>simp[jz,aw];(with_reducible repeat' first|refine av ?_|simp[aw,fh,af,FP,aI,iH,bZ]);refine b1.rng (a::e3,fr,d-1) aw eU ?_;simp[jz];exact⟨by simp[fresh,kinL,kin,bu,ak,Pv.look,eo],cG (by simp[fresh,kinL,kin,bu,ak,Pv.look,eo]),cI (by simp[fresh,kinL,kin,cw,ak,Pv.look,eo]),Ψ⟩
  replace rT:=rT aI;replace te:=te aI;have ad6:d=0\/d=1:=Ω
  clear tq uO;cases lS:nV ((l.drop fr).take (i+1-fr))with
  |none=>
   have ie:=rT lS;simp only[qm]at ie;clear rT te ku;have iH:¬1<d:=Ω
   cases P with
   |nil=>simp[jz,aw];(with_reducible repeat' first|refine av ?_|simp[aw,fh,af,FP,aI,iH,bZ,f1,f2,jY]);refine CallDo.ob kB kk (fun k cs h=>by simp[Pv.look]at h) (fun k cs h=>by simp[Pv.look]at h) (by simp[kinL,kin]) ?_;rintro r al bp;rw[lS]at bp;obtain⟨rfl,x,rfl⟩:=bp;refine⟨Same.refl _,?_⟩;simp[bc];(with_reducible repeat' first|refine av ?_|simp);rw[ie];simp[cn,r9,ba,bg,aT]
   |cons a e3=>simp[jz,aw];(with_reducible repeat' first|refine av ?_|simp[aw,fh,af,FP,aI,iH,bZ,f1,f2,jY]);refine CallDo.ob kB kk (fun k cs h=>by simp[Pv.look]at h) (fun k cs h=>by simp[Pv.look]at h) (by simp[kinL,kin]) ?_;rintro r al bp;rw[lS]at bp;obtain⟨rfl,x,rfl⟩:=bp;refine⟨Same.refl _,?_⟩;simp[bc];(with_reducible repeat' first|refine av ?_|simp);rw[ie];simp[cn,r9,ba,bg,aT]
  |some x=>
   rcases ad6 with rfl|rfl
   ·rw[ku rfl,QJ]at lS;cases lS
   have eU:=te x lS;clear rT te ku;have i0:aY 0:=by unfold aY;omega
   cases P with
   |nil=>simp[jz,aw];(with_reducible repeat' first|refine av ?_|simp[aw,fh,af,i0,bZ,f1,f2,jY]);refine CallDo.ob kB kk (fun k cs h=>by simp[Pv.look]at h) (fun k cs h=>by simp[Pv.look]at h) (by simp[kinL,kin]) ?_;rintro r al bp;rw[lS]at bp;obtain⟨rfl,rfl⟩:=bp;refine⟨Same.refl _,?_⟩;simp[bc];(with_reducible repeat' first|refine av ?_|simp[iG,bZ]);refine b1.rng ([x],i+1,0) aw eU ?_;simp[jz];exact⟨by simp[fresh,kinL,kin,bu,ak,Pv.look,eo,zF],cG (by simp[fresh,kinL,kin,bu,ak,Pv.look,eo,zF]),cI (by simp[fresh,kinL,kin,cw,ak,Pv.look,eo,zF]),Ψ⟩
   |cons a e3=>simp[jz,aw];(with_reducible repeat' first|refine av ?_|simp[aw,fh,af,i0,bZ,f1,f2,jY]);refine CallDo.ob kB kk (fun k cs h=>by simp[Pv.look]at h) (fun k cs h=>by simp[Pv.look]at h) (by simp[kinL,kin]) ?_;rintro r al bp;rw[lS]at bp;obtain⟨rfl,rfl⟩:=bp;refine⟨Same.refl _,?_⟩;simp[bc];(with_reducible repeat' first|refine av ?_|simp[iG,bZ]);refine b1.rng (a::(e3++[x]),i+1,0) aw eU ?_;simp[jz];exact⟨by simp[fresh,kinL,kin,bu,ak,Pv.look,eo,zF],cG (by simp[fresh,kinL,kin,bu,ak,Pv.look,eo,zF]),cI (by simp[fresh,kinL,kin,cw,ak,Pv.look,eo,zF]),Ψ⟩
 have r4:=wM On;have uO:d+gi w=d:=by unfold gi;simp[Om,On]
 rw[uO]at tq rT te;by_cases aI:0<d
 ·have eU:=tq aI;clear tq rT te kB jY uO ku;cases P with
  |nil=>simp[jz,aw];(with_reducible repeat' first|refine av ?_|simp[aw,fh,af,tR,r4,aI,bZ]);refine b1.rng (([]:List Rl),fr,d) aw eU ?_;simp[jz];exact⟨by simp[fresh,kinL,kin,bu,ak,Pv.look,eo],cG (by simp[fresh,kinL,kin,bu,ak,Pv.look,eo]),cI (by simp[fresh,kinL,kin,cw,ak,Pv.look,eo]),Ψ⟩
  |cons a e3=>simp[jz,aw];(with_reducible repeat' first|refine av ?_|simp[aw,fh,af,tR,r4,aI,bZ]);refine b1.rng (a::e3,fr,d) aw eU ?_;simp[jz];exact⟨by simp[fresh,kinL,kin,bu,ak,Pv.look,eo],cG (by simp[fresh,kinL,kin,bu,ak,Pv.look,eo]),cI (by simp[fresh,kinL,kin,cw,ak,Pv.look,eo]),Ψ⟩
 have cK:d=0:=Ω
 subst cK;have lS:nV ((l.drop fr).take (i+1-fr))=none:=by rw[ku rfl];exact QJ w
 have ie:=rT aI lS;simp only[qm]at ie;clear tq uO rT te ku;cases P with
 |nil=>simp[jz,aw];(with_reducible repeat' first|refine av ?_|simp[aw,fh,af,tR,r4,bZ,f1,f2,jY]);refine CallDo.ob kB kk (fun k cs h=>by simp[Pv.look]at h) (fun k cs h=>by simp[Pv.look]at h) (by simp[kinL,kin]) ?_;rintro r al bp;rw[lS]at bp;obtain⟨rfl,x,rfl⟩:=bp;refine⟨Same.refl _,?_⟩;simp[bc];(with_reducible repeat' first|refine av ?_|simp);rw[ie];simp[cn,r9,ba,bg,aT]
 |cons a e3=>simp[jz,aw];(with_reducible repeat' first|refine av ?_|simp[aw,fh,af,tR,r4,bZ,f1,f2,jY]);refine CallDo.ob kB kk (fun k cs h=>by simp[Pv.look]at h) (fun k cs h=>by simp[Pv.look]at h) (by simp[kinL,kin]) ?_;rintro r al bp;rw[lS]at bp;obtain⟨rfl,x,rfl⟩:=bp;refine⟨Same.refl _,?_⟩;simp[bc];(with_reducible repeat' first|refine av ?_|simp);rw[ie];simp[cn,r9,ba,bg,aT]
def ahY(b:Bool)(k:Int):Bool:= !(k==10)&& !(b&&decide (3<=k/\k<=6))
end
end Go.Proofs.YtlnndmgfngfeiaaGreatDoor
namespace Go.Pv
open Go.Proofs.YtlnndmgfngfeiaaGreatDoor
mutual
def Gm.on(b:Bool):Gm->Bool
 | .mk k _ _ g=>ahY b k&&Gm.onL b g
def Gm.onL(b:Bool):List Gm->Bool
 |[]=>true
 |x::xs=>x.on b&&Gm.onL b xs
end
end Go.Pv
namespace Go.Proofs.YtlnndmgfngfeiaaGreatDoor
section
open Go Go.Pv
def IZ:C:=(ag [fm 1 0,bK 2 false] (.seq (ag [a6 5 0 1 1,a8 6 1 5,cT 7 6,a7 8 .gtr 7 8] (bb 8 (ag [bK 2 false] .ret) .skip)) (.seq (ag [a6 9 0 1 1,a8 10 1 9,cT 11 10,bU 12 0] (k0 13 12 11 (.seq (.block 1 (ag [aa 14 12,cP 15 7 10 12,bO 16 7 15,c7 (.alloc 4 none (.agg [.str [],.int .i64 0,.int .i64 0,.int .i64 0,.str [],.slice 4 .nil [],.slice 4 .nil []])),aa 3 14,bF 7 4 16] (.seq (ag (a6 17 0 1 4::a8 18 1 17::cl 19 103 18::dK 20 19::aa 21 20::aO 21 false (bO 22 1 1)::aO 21 false (a6 23 0 1 4)::aO 21 false (a8 24 1 23)::aO 21 false (eb 25 119 22 24)::b4 21 false 26 3::aO 21 false (cj 27 .neq 25 26)::dA 28 21 27::aa 29 28::aO 29 false (a6 30 1 1 4)::aO 29 false (a8 31 1 30)::aO 29 false (a7 32 .lss 31 0)::dA 33 29 32::aa 34 33::aO 34 false (a6 35 1 1 4)::aO 34 false (a8 36 1 35)::aO 34 false (a7 37 .gtr 36 4)::dA 38 34 37::aa 39 38::aO 39 false (a6 40 2 1 4)::aO 39 false (a8 41 1 40)::aO 39 false (a7 42 .lss 41 0)::dA 43 39 42::aa 44 43::aO 44 false (a6 45 2 1 4)::aO 44 false (a8 46 1 45)::aO 44 false (a7 47 .gtr 46 8)::dA 48 44 47::[]) (bb 48 (ag [bK 2 false] .ret) .skip)) (ag [lG 49 3 4 4,bO 50 4 49,lq 51 117 [.t 50,(de 60)],a7 52 .lss 51 0,aa 53 52,aO 53 false (lG 54 3 4 4),aO 53 false (bO 55 4 54),aO 53 false (a6 56 1 1 4),aO 53 false (a8 57 1 56),aO 53 false (a6 58 2 1 4),aO 53 false (a8 59 1 58),aO 53 false (cj 60 .add 57 59),aO 53 false (eb 61 120 55 60),aO 53 false (dK 62 61),dA 63 53 62,aa 64 63,aO 64 false (bO 65 1 1),aO 64 false (lG 66 3 4 4),aO 64 false (bO 67 4 66),aO 64 false (eb 68 121 65 67),aO 64 false (dK 69 68),dA 70 64 69] (bb 70 (ag [bK 2 false] .ret) .skip))))) (.region [a7 71 .add 12 1,aa 12 71])))) (ag [bK 2 true] .ret))))
@[simp] def ub:List ca:=[.tmp 2]
def Pz:C:=(ag [fm 2 0,bU 4 0] (.seq (ag [a6 7 0 1 2,a8 8 1 7,cT 9 8,bU 10 0] (k0 11 10 9 (.seq (.block 1 (ag [aa 12 10,cP 13 7 8 10,bO 14 7 13,c7 (.alloc 6 none (.agg [.str [],.int .i64 0,.int .i64 0,.int .i64 0,.str [],.slice 4 .nil [],.slice 4 .nil []])),aa 5 12,bF 7 6 14] (ag [a6 15 0 1 6,a8 16 1 15,aa 17 1,cj 18 .eql 16 17] (bb 18 (ag [aa 19 5,aa 4 19] .ret) .skip)))) (.region [a7 20 .add 10 1,aa 10 20])))) (ag [bU 4 (-1)] .ret)))
@[simp] def aiq:List ca:=[.tmp 4]
def Pp:C:=(ag [c7 (.box 2 (some 306) (.t 0)),fm 3 1,bK 4 false] (ag [c7 (.alloc 5 (some 307) (.bool false)),c7 (.store 1 (.t 5) (.c (.bool true)))] (ag [bO 6 4 3,bh 7 (.mkf 184 [.t 2,.t 5]),eb 8 157 6 7] (ag [a8 9 1 5,aa 4 9] .ret))))
@[simp] def ain:List ca:=[.tmp 4]
def CL:C:=(ag [fm 3 0] (ag [a6 5 0 1 3,a8 6 1 5,a7 7 .eql 6 9] (bb 7 (ag [bO 8 1 1,a6 9 1 1 3,a8 10 1 9,eb 11 119 8 10,aa 4 11] (.seq (.drawn true 26 [aa 12 4,a7 13 .lss 12 0,aa 14 13,aO 14 false (a6 15 0 1 1),aO 14 false (a8 16 1 15),b4 14 false 17 4,aO 14 false (cP 18 7 16 17),aO 14 false (a6 19 1 1 18),aO 14 false (a8 20 1 19),aO 14 false (a6 21 2 1 3),aO 14 false (a8 22 1 21),aO 14 false (cT 23 22),aO 14 false (cj 24 .neq 20 23),dA 25 14 24]) (bb 25 (.region [c7 (.store 1 (.t 2) (.c (.bool false)))]) .skip))) .skip)))
@[simp] def EA:List ca:=[]
def E4:List (Nat×dh):=[
 (3,⟨1,8,.int .i64,.int .i64 0⟩),
 (4,⟨1,1,.bool,.bool false⟩),
 (9,⟨1,16,.str,.str []⟩),
 (38,⟨1,24,.slice 40,.slice 4 .nil []⟩),
 (40,⟨4,56,.struct [(0,3),(1,3),(2,9),(3,38)],.agg [.int .i64 0,.int .i64 0,.str [],.slice 4 .nil []]⟩),
 (59,⟨1,24,.slice 86,.slice 7 .nil []⟩),
 (61,⟨1,24,.struct [(0,59)],.agg [.slice 7 .nil []]⟩),
 (63,⟨1,24,.slice 65,.slice 4 .nil []⟩),
 (65,⟨4,72,.struct [(0,3),(1,9),(2,38),(3,63)],.agg [.int .i64 0,.str [],.slice 4 .nil [],.slice 4 .nil []]⟩),
 (86,⟨7,104,.struct [(0,9),(1,3),(2,3),(3,65)],.agg [.str [],.int .i64 0,.int .i64 0,.int .i64 0,.str [],.slice 4 .nil [],.slice 4 .nil []]⟩),
 (191,⟨1,8,.other,.junk⟩)]
theorem yB:eW aF E4=true:=by kernel_rfl
theorem Vb:cJ E4 IZ ub 1 Tryz.f50=true:=by kernel_rfl
theorem Rc:aF.funcs[(50:Nat)]? =some Tryz.f50:=Tryz.func50
theorem ahj:cJ E4 Pz aiq 2 Tryz.f119=true:=by kernel_rfl
theorem abG:aF.funcs[(119:Nat)]? =some Tryz.f119:=Tryz.func119
theorem aha:cJ E4 Pp ain 2 Tryz.f121=true:=by kernel_rfl
theorem abx:aF.funcs[(121:Nat)]? =some Tryz.f121:=Tryz.func121
theorem Hx:cJ E4 CL EA 3 Tryz.f184=true:=by kernel_rfl
theorem F1:aF.funcs[(184:Nat)]? =some Tryz.f184:=Tryz.func184
theorem X6(P:List Rl)(s:List aj):bW aF 119 [gI P,.str s] (.int .i64 (oo P s)):=by
 generalize bt:oo P s=R;refine bI yB abG ahj fun aG=>?_;unfold Pz;have e5:P.length<=68719476736:=by simp[gI,-lN,gr,gz,gu,aR]at aG;exact aG.1
 clear aG;simp;(with_reducible repeat' first|refine av ?_|simp);refine fA (fun i (_:Unit)=>⟨[(1,.str s),(8,.slice 7 .no (P.map Rl.e)),(9,.int .i64 P.length),(10,.int .i64 i)],[],[],0,[]⟩) P.length (fun i _=>G2 P s i) () (by simp;exact cW) (fun k b ab=>Ω) (fun _ ai _=>?_) (fun i _ aw ai _=>?_)
 ·have:R= -1:=by rw[<-bt];exact Wn fun j f aK=>ai j f (fo.1 aK).1 aK
  subst this;clear ai bt;exact bY
 ·obtain⟨e,he,ad7⟩:=fQ aw;have bZ:aY ((i:Int)+1):=by unfold aY;omega
  by_cases aM:e.name=s
  ·have:R=i:=by rw[<-bt];exact M4 he aM ai
   subst this;clear ai bt;subst aM;exact bY
  ·have hz:(e.name==s)=false:=by simpa using aM
   have jk:G2 P s (i+1):=fun k f ab aK=>by
    rcases mc k i with h|h
    ·exact ai k f h aK
    ·obtain rfl:k=i:=Ω
     rw[he]at aK;cases aK;exact aM
   clear ai bt;exact tZ
def ib(P:List Rl)(a:Bool):dJ:=⟨[(.obj 306,[.slice 7 .no (P.map Rl.e)]),(.obj 307,[.bool a])],[]⟩
theorem yM{P:List Rl}(a:Bool):hn (ib P a):=by unfold ib;exact hn.of ⟨by intro m;simp[Pv.look],by intro m;simp[Pv.look]⟩ (by simp[kinL,kin,ak,Pv.look]) Ψ
theorem Cu{P:List Rl}(a b:Bool):Same (ib P a) (ib P b):=by
 refine⟨fun k=>?_,fun k=>rfl⟩;simp only[ib,Pv.look];repeat' split
 all_goals rfl
def y1(P:List Rl)(g:Gm):Bool:=if g.kind=9 then(match P.find? fun r=>r.name==g.name with|some r=>r.ar==(g.ts.length:Int)|none=>false)else true
theorem Zi{P:List Rl}(g:Gm)(h:g.shape=true)(a:Bool):(a&&g.cf P)=g.gs.foldl (fun a x=>a&&x.cf P) (a&&y1 P g):=by
 have aK:∀(l:List Gm) (a:Bool),l.foldl (fun a x=>a&&x.cf P) a=(a&&l.all fun x=>x.cf P):=by
  intro l;induction l with
  |nil=>intro a;simp
  |cons x l aX=>intro a;rw[List.foldl_cons,aX,List.all_cons,Bool.and_assoc]
 rw[aK,Qo,y1,Jo,Bool.and_assoc];by_cases ec:g.kind=9
 ·rw[if_pos ec,if_pos ec];have:g.gs=[]:=by rw[pK,bJ]at h;have J:=h.2;rw[br Ω,if_pos ec]at J;simp at J;exact J.1.2
  rw[this,List.all_nil,Bool.and_true];cases P.find? fun r=>r.name==g.name<;>rfl
 ·rw[br ec,br ec,Bool.true_and]
def y2(P:List Rl)(l:List Gm)(a:Bool):Bool:=l.foldl (fun a x=>a&&x.cf P) a
theorem Zh{P:List Rl}{l:List Gm}{i:Nat}{x:Gm}(h:l[i]? =some x)(a:Bool):y2 P (l.take (i+1)) a=(y2 P (l.take i) a&&x.cf P):=by unfold y2;rw[k3,h];simp
theorem acK{P:List Rl}(g:Gm)(a:Bool):b3 aF 184 [g.e,.ptr (.obj 306) 0,.ptr (.obj 307) 0] (ib P a) fun r al=>r= .tuple []/\al=ib P (a&&y1 P g):=by
 have az:=yM (P:=P) a;have hL:=yM (P:=P) (a&&y1 P g);have hc:=Cu (P:=P) a (a&&y1 P g);have dp:=X6 P g.name;unfold y1 at hL hc⊢;by_cases ec:g.kind=9;rotate_left
 ·have zg:(g.kind==9)=false:=jj.2 ec;rw[br ec,Bool.and_true]at hL hc⊢;unfold ib at az hL hc⊢;refine b3.mk mixed yB F1 Hx Ψ az.obj fun aG b2=>?_;unfold CL;clear aG b2;simp;(with_reducible repeat' first|refine av ?_|simp[zg]);all_goals refine cO.at _ (.inr rfl) hL hc aA aA ?_
  all_goals simp[c8,EA,ba,bg,aT]
 rw[if_pos ec]at hL hc⊢;rcases Wm P g.name with⟨I,J⟩|⟨k,r,I,J,au⟩
 ·rw[I]at dp;rw[J,Bool.and_false]at hL hc⊢;unfold ib at az hL hc⊢;refine b3.mk mixed yB F1 Hx Ψ az.obj fun aG b2=>?_;unfold CL;clear aG b2;simp;(with_reducible repeat' first|refine av ?_|refine aZ dp ?_|refine a1 dp ?_|simp[ec]);all_goals refine cO.at _ (.inr rfl) hL hc aA aA ?_
  all_goals simp[c8,EA,ba,bg,aT]
 ·rw[I]at dp;rw[au]at hL hc⊢;have ab:=(fo.1 J).1;have eT:∀h,(P[k]'h)=r:=fun h=>by rw[cL ab]at J;exact gB J
  simp only at hL hc⊢;by_cases Gn:r.ar=(g.ts.length:Int)
  ·have bA:(r.ar==(g.ts.length:Int))=true:=by simpa using Gn
   have cy:(r.ar !=(g.ts.length:Int))=false:=by simpa using Gn
   rw[bA,Bool.and_true]at hL hc⊢;unfold ib at az hL hc⊢;refine b3.mk mixed yB F1 Hx Ψ az.obj fun aG b2=>?_;unfold CL;clear aG b2;simp;((with_reducible repeat' first|refine av ?_|refine aZ dp ?_|refine a1 dp ?_|simp[ec,ab,eT,J,cy]|((first|apply dt|apply dx|apply dw)<;>intro h<;>try simp at h))<;>(try exact dQ));all_goals refine cO.at _ (.inr rfl) hL hc aA aA ?_
   all_goals simp[c8,EA,ba,bg,aT]
  ·have bA:(r.ar==(g.ts.length:Int))=false:=by simpa using Gn
   have cy:(r.ar !=(g.ts.length:Int))=true:=by simpa using Gn
   rw[bA,Bool.and_false]at hL hc⊢;unfold ib at az hL hc⊢;refine b3.mk mixed yB F1 Hx Ψ az.obj fun aG b2=>?_;unfold CL;clear aG b2;simp;((with_reducible repeat' first|refine av ?_|refine aZ dp ?_|refine a1 dp ?_|simp[ec,ab,eT,J,cy]|((first|apply dt|apply dx|apply dw)<;>intro h<;>try simp at h))<;>(try exact dQ));all_goals refine cO.at _ (.inr rfl) hL hc aA aA ?_
   all_goals simp[c8,EA,ba,bg,aT]
theorem acN(P:List Rl):∀(n:Nat) (g:Gm),g.sz<=n->g.shape=true->∀a:Bool,b3 aF 157 [g.e,.func 184 [.ptr (.obj 306) 0,.ptr (.obj 307) 0]] (ib P a) fun r al=>r= .tuple []/\al=ib P (a&&g.cf P):=by
 intro n;induction n with
 |zero=>intro g aS;have:=g.sz_pos;omega
 |succ n aX=>
 intro g aS gE a;have az:=yM (P:=P) a;have hL:=yM (P:=P) (a&&g.cf P);have hc:=Cu (P:=P) a (a&&g.cf P);have q3:=acK (P:=P) g a;have Bk:∀x∈g.gs,∀a:Bool,b3 aF 157 [x.e,.func 184 [.ptr (.obj 306) 0,.ptr (.obj 307) 0]] (ib P a) fun r al=>r= .tuple []/\al=ib P (a&&x.cf P):=fun x af a=>aX x (by have:=g.gs_lt af;omega) (shape_gs gE x af) a;have e7:=Zi (P:=P) g gE a;rw[e7,<-y2]at hL hc⊢;generalize fJ:(a&&y1 P g)=fK at q3 hL hc e7⊢;have aef:g.gs.length<=1000000:=by have:=(ET gE).1;omega
 unfold ib at az;refine b3.mk mixed mH Rf Vd Ψ az.obj fun aG b2=>?_;unfold I1;clear aG b2;unfold ib;simp;refine CallDo.ob (q3) (yM _) (by unfold ib;exact aA) (by unfold ib;exact aA) (by simp[ak,ib,Pv.look]) ?_;rintro r al ⟨rfl,rfl⟩;refine⟨Cu _ _,?_⟩;unfold ib;simp[bc];(with_reducible repeat' first|refine av ?_|simp);refine fA (fun i (_:Unit)=>⟨[(1,.func 184 [.ptr (.obj 306) 0,.ptr (.obj 307) 0]),(10,.slice 4 .no (g.gs.map Gm.e)),(11,.int .i64 g.gs.length),(12,.int .i64 i)],(ib P (y2 P (g.gs.take i) fK)).b,[],0,[.obj 306,.obj 307]⟩) g.gs.length (fun _ _=>True) () (by simp[ib,y2];exact⟨by simp[fresh,kinL,kin,bu,ak,Pv.look,cv],cG (by simp[fresh,kinL,kin,bu,ak,Pv.look,cv]),cI (by simp[fresh,kinL,kin,cw,ak,Pv.look,cv]),Ψ⟩) trivial (fun _ _ _=>?_) (fun i _ aw _ _=>?_)
 ·simp only[hE,ib]at hL hc⊢;simp;(with_reducible repeat' first|refine av ?_|simp);all_goals refine cO.at _ (.inr rfl) hL hc aA aA ?_
  all_goals simp[c8,MM,ba,bg,aT]
 ·obtain⟨b,ah,p4⟩:=fQ aw;have kb:=Bk b (e1 ah) (y2 P (g.gs.take i) fK);rw[<-Zh ah]at kb;have bZ:aY ((i:Int)+1):=by unfold aY;omega
  clear hL hc;simp only[ib];simp[aw,p4];(with_reducible repeat' first|refine av ?_|simp[aw,p4]);refine CallDo.ob (kb) (yM _) (by unfold ib;exact aA) (by unfold ib;exact aA) (by simp[ak,ib,Pv.look]) ?_;rintro r al ⟨rfl,rfl⟩;refine⟨Cu _ _,?_⟩;unfold ib;simp[bc];(with_reducible repeat' first|refine av ?_|simp[bZ]);all_goals refine b1.rng () aw trivial (by simp[ib];exact⟨by simp[fresh,kinL,kin,bu,ak,Pv.look,cv],cG (by simp[fresh,kinL,kin,bu,ak,Pv.look,cv]),cI (by simp[fresh,kinL,kin,cw,ak,Pv.look,cv]),Ψ⟩)
theorem XX(P:List Rl)(g:Gm)(h:g.shape=true):bW aF 121 [gI P,g.e] (.bool (g.cf P)):=by have q3:=acN P g.sz g (cc _) h true;rw[Bool.true_and]at q3;refine bI yB abx aha fun aG=>?_;unfold Pp;clear aG;simp;((with_reducible repeat' first|refine av ?_|simp|((first|apply dt|apply dx|apply dw)<;>intro h<;>try simp at h))<;>(try exact dQ));refine CallDo.ob (q3) (yM _) (by unfold ib;exact aA) (by unfold ib;exact aA) (by simp[ak,ib,Pv.look]) ?_;rintro r al ⟨rfl,rfl⟩;refine⟨Cu _ _,?_⟩;unfold ib;simp[bc];exact bY
theorem OE(P:List Rl)(i:Nat)(r:Rl):ux P i r↔gG r.name=true/\oo P r.name=(i:Nat)/\(0<=r.ar/\r.ar<=4)/\(0<=r.loc/\r.loc<=8)/\0<=jM r.body 60/\su r.body (r.ar+r.loc)=true/\r.body.cf P=true:=by
 unfold ux jM Gm.fits;simp only[bJ,fs];have:=r.body.sz_pos;constructor
 ·rintro⟨I,J,au,aP,⟨⟨⟨bA,cy⟩,eu⟩,gQ⟩,ec⟩;rw[if_pos ⟨bA,cy⟩]at ec;exact⟨J,I,au,aP,by rw[if_pos ⟨bA,Ω⟩];omega,gQ,eu⟩
 ·rintro⟨I,J,au,aP,bA,cy,eu⟩;split at bA
  ·rename_i h;refine⟨J,I,au,aP,⟨⟨⟨h.1,Ω⟩,eu⟩,cy⟩,?_⟩;split<;>omega
  ·omega
theorem Hl{g:Gm}{n:Int}(h:0<=jM g n):g.shape=true:=by
 unfold jM at h;split at h
 ·rename_i J;exact J.1
 ·omega
def pY(P:List Rl)(i:Nat)(_:Unit):aU:=⟨[(1,.ptr (.loc 0) 0),(10,.slice 7 .no (P.map Rl.e)),(11,.int .i64 P.length),(12,.int .i64 i)],[(.loc 0,[.slice 7 .no (P.map Rl.e)])],[],1,[]⟩
set_option maxRecDepth 8000 in
theorem Ir(P:List Rl):bW aF 50 [gI P] (.bool (iU P)):=by
 have ps:=U6 P;generalize iU P=R at ps;by_cases gQ:P.length<=8;rotate_left
 ·have:R=false:=by
   cases R with
   |false=>rfl
   |true=>exact absurd (ps.1 rfl).1 gQ
  subst this;have Dd:(8:Int)<P.length:=Ω
  refine bI yB Rc Vb fun aG=>?_;unfold IZ;clear aG;exact bY
 have Dd:¬(8:Int)<P.length:=Ω
 refine bI yB Rc Vb fun aG=>?_;unfold IZ;clear aG;simp;((with_reducible repeat' first|refine av ?_|simp[Dd]|((first|apply dt|apply dx|apply dw)<;>intro h<;>try simp at h))<;>(try exact dQ));refine fA (pY P) P.length (fun i _=> ∀(k:Nat) (r:Rl),k<i->P[k]? =some r->ux P k r) () (by simp[pY];exact cW) (fun k b ab=>Ω) (fun _ ai _=>?_) (fun i _ aw ai _=>?_)
 ·have:R=true:=ps.2 ⟨gQ,fun i r hr=>ai i r (fo.1 hr).1 hr⟩;subst this;clear ai ps;simp[pY];((with_reducible repeat' first|refine av ?_|simp|((first|apply dt|apply dx|apply dw)<;>intro h<;>try simp at h))<;>(try exact dQ));simp[cn,ub,ba,bg,aT]
 obtain⟨r,hr⟩:∃e,P[i]? =some e:=⟨_,cL aw⟩;have jo:∀h,(P[i]'h)=r:=fun h=>by rw[cL aw]at hr;exact gB hr
 have bZ:aY ((i:Int)+1):=by unfold aY;omega
 have dp:=X6 P r.name;have c1:=N5 r.name;have mZ:=akC r.body.sz r.body (cc _) 60 Ω;by_cases cH:ux P i r
 ·have jk:∀(k:Nat) (q:Rl),k<i+1->P[k]? =some q->ux P k q:=fun k q ab bp=>by
   rcases mc k i with h|h
   ·exact ai k q h bp
   ·obtain rfl:k=i:=Ω
    rw[hr]at bp;cases bp;exact cH
  obtain⟨ao,aL,bB,b9,ee,dC,nu⟩:=(OE P i r).1 cH;have jJ:=Yb r.body (Hl ee) (r.ar+r.loc);have kA:=XX P r.body (Hl ee);rw[ao]at c1;rw[aL]at dp;rw[dC]at jJ;rw[nu]at kA;have eX:aY (r.ar+r.loc):=by unfold aY;omega
  have b0:¬r.ar<0:=Ω
  have cS:¬4<r.ar:=Ω
  have dT:¬r.loc<0:=Ω
  have dY:¬8<r.loc:=Ω
  have di:¬jM r.body 60<0:=Ω
  clear ai ps ao aL dC nu;simp[pY,aw,jo];((with_reducible repeat' first|refine av ?_|refine aZ c1 ?_|refine a1 c1 ?_|refine aZ dp ?_|refine a1 dp ?_|refine aZ mZ ?_|refine a1 mZ ?_|refine aZ jJ ?_|refine a1 jJ ?_|refine aZ kA ?_|refine a1 kA ?_|simp[aw,jo,bZ,eX,b0,cS,dT,dY,di]|((first|apply dt|apply dx|apply dw)<;>intro h<;>try simp at h))<;>(try exact dQ));exact b1.rng () aw jk (by simp[pY];exact cW)
 have:R=false:=by
  cases R with
  |false=>rfl
  |true=>exact absurd ((ps.1 rfl).2 i r hr) cH
 subst this;rw[OE]at cH;clear ai ps;cases ao:gG r.name with
 |false=>rw[ao]at c1;clear cH dp mZ;simp[pY,aw,jo];(with_reducible repeat' first|refine av ?_|refine aZ c1 ?_|refine a1 c1 ?_|simp[aw,jo]);simp[cn,ub,ba,bg,aT]
 |true=>
 rw[ao]at c1;generalize oo P r.name=m at dp cH;by_cases cF:m=i;rotate_left
 ·have ah:(m !=(i:Int))=true:=by simpa using cF
  clear cH mZ;simp[pY,aw,jo];(with_reducible repeat' first|refine av ?_|refine aZ c1 ?_|refine a1 c1 ?_|refine aZ dp ?_|refine a1 dp ?_|simp[aw,jo,ah]);simp[cn,ub,ba,bg,aT]
 subst cF;by_cases c3:0<=r.ar;rotate_left
 ·have b0:r.ar<0:=Ω
  clear cH mZ;simp[pY,aw,jo];(with_reducible repeat' first|refine av ?_|refine aZ c1 ?_|refine a1 c1 ?_|refine aZ dp ?_|refine a1 dp ?_|simp[aw,jo,b0]);simp[cn,ub,ba,bg,aT]
 have b0:¬r.ar<0:=Ω
 by_cases c4:r.ar<=4;rotate_left
 ·have cS:4<r.ar:=Ω
  clear cH mZ;simp[pY,aw,jo];(with_reducible repeat' first|refine av ?_|refine aZ c1 ?_|refine a1 c1 ?_|refine aZ dp ?_|refine a1 dp ?_|simp[aw,jo,b0,cS]);simp[cn,ub,ba,bg,aT]
 have cS:¬4<r.ar:=Ω
 by_cases c5:0<=r.loc;rotate_left
 ·have dT:r.loc<0:=Ω
  clear cH mZ;simp[pY,aw,jo];(with_reducible repeat' first|refine av ?_|refine aZ c1 ?_|refine a1 c1 ?_|refine aZ dp ?_|refine a1 dp ?_|simp[aw,jo,b0,cS,dT]);simp[cn,ub,ba,bg,aT]
 have dT:¬r.loc<0:=Ω
 by_cases j8:r.loc<=8;rotate_left
 ·have dY:8<r.loc:=Ω
  clear cH mZ;simp[pY,aw,jo];(with_reducible repeat' first|refine av ?_|refine aZ c1 ?_|refine a1 c1 ?_|refine aZ dp ?_|refine a1 dp ?_|simp[aw,jo,b0,cS,dT,dY]);simp[cn,ub,ba,bg,aT]
 have dY:¬8<r.loc:=Ω
 have eX:aY (r.ar+r.loc):=by unfold aY;omega
 by_cases vM:0<=jM r.body 60;rotate_left
 ·have di:jM r.body 60<0:=Ω
  clear cH;simp[pY,aw,jo];(with_reducible repeat' first|refine av ?_|refine aZ c1 ?_|refine a1 c1 ?_|refine aZ dp ?_|refine a1 dp ?_|refine aZ mZ ?_|refine a1 mZ ?_|simp[aw,jo,b0,cS,dT,dY,di]);simp[cn,ub,ba,bg,aT]
 have di:¬jM r.body 60<0:=Ω
 have jJ:=Yb r.body (Hl vM) (r.ar+r.loc);have kA:=XX P r.body (Hl vM);cases dC:su r.body (r.ar+r.loc)with
 |false=>rw[dC]at jJ;clear cH kA;simp[pY,aw,jo];(with_reducible repeat' first|refine av ?_|refine aZ c1 ?_|refine a1 c1 ?_|refine aZ dp ?_|refine a1 dp ?_|refine aZ mZ ?_|refine a1 mZ ?_|refine aZ jJ ?_|refine a1 jJ ?_|simp[aw,jo,eX,b0,cS,dT,dY,di]);simp[cn,ub,ba,bg,aT]
 |true=>
 rw[dC]at jJ;cases nu:r.body.cf P with
 |false=>rw[nu]at kA;clear cH;simp[pY,aw,jo];((with_reducible repeat' first|refine av ?_|refine aZ c1 ?_|refine a1 c1 ?_|refine aZ dp ?_|refine a1 dp ?_|refine aZ mZ ?_|refine a1 mZ ?_|refine aZ jJ ?_|refine a1 jJ ?_|refine aZ kA ?_|refine a1 kA ?_|simp[aw,jo,eX,b0,cS,dT,dY,di]|((first|apply dt|apply dx|apply dw)<;>intro h<;>try simp at h))<;>(try exact dQ));simp[cn,ub,ba,bg,aT]
 |true=>exact absurd ⟨ao,rfl,⟨c3,c4⟩,⟨c5,j8⟩,vM,dC,nu⟩ cH
theorem QH{l r:List (List aj)}{x:Rl}(h:pb l=some (x,r)):r<:+l/\r.length<l.length:=by
 unfold pb at h;split at h
 ·rename_i d name LS;split at h
  ·split at h
   ·rename_i c6 ms aM;simp only[iN]at h;obtain⟨⟨y,ey⟩,ah,e⟩:=h;cases e;refine⟨((List.drop_suffix _ _).trans ⟨[[40],d,[40],name],rfl⟩),by simp;omega⟩
   ·cases h
  ·cases h
 ·cases h
@[simp]theorem amH(x:Rl)(n:Nat):cells (x.k n)=[.str x.name,.int .i64 x.ar,.int .i64 x.loc,.int .i64 x.body.kind,.str x.body.name,.slice 4 (.tr (.loc n) 0) (x.body.ts.map enc),.slice 4 (.tr (.loc n) 1) (x.body.gs.map Gm.e)]:=rfl
@[simp]theorem apH(x:Rl)(n:Nat):eV (x.k n)=true:=rfl
theorem ajc(x:Rl)(n:Nat):bD (x.k n)=x.e:=by rw[Rl.e_eq];simp[Rl.k,bD,bC]
theorem Nk:∀l:List (Rl×Nat),ed (dq Rl.k l)
 |[]=>by simp[dq,ed]
 |x::l=>by have:=Nk l;unfold dq at this;exact⟨⟨trivial,trivial,trivial,trivial,trivial,pE _,pE _,trivial⟩,this⟩
theorem Nl:∀l:List (Rl×Nat),bC (dq Rl.k l)=(l.map (·.1)).map Rl.e
 |[]=>by simp[dq,bC]
 |x::l=>by have:=Nl l;unfold dq at this;simp[dq,bC,ajc,this]
theorem WJ:∀(l:List (Rl×Nat)),∀x∈tnL (dq Rl.k l),∃p∈l,x.1= .loc p.2
 |[],x,h=>by simp[dq,tnL]at h
 |p::l,x,h=>by
  have e:tnL (dq Rl.k (p::l))=(.loc p.2,0)::(.loc p.2,1)::tnL (dq Rl.k l):=by simp[dq,tnL,tn,Rl.k]
  rw[e]at h;simp only[gy]at h;rcases h with rfl|rfl|h
  ·exact⟨p,Ψ,rfl⟩
  ·exact⟨p,Ψ,rfl⟩
  ·obtain⟨nb,I,J⟩:=WJ l x h;exact⟨nb,by simp[I],J⟩
theorem Nj:∀{l:List (Rl×Nat)},(l.map (·.2)).Nodup->(tnL (dq Rl.k l)).Nodup
 |[],_=>by simp[dq,tnL]
 |p::l,h=>by
  have e:tnL (dq Rl.k (p::l))=(.loc p.2,0)::(.loc p.2,1)::tnL (dq Rl.k l):=by simp[dq,tnL,tn,Rl.k]
  simp only[fF,List.nodup_cons]at h;have aM:∀j,(aC.loc p.2,j)∉tnL (dq Rl.k l):=fun j ai=>by obtain⟨nb,I,J⟩:=WJ l _ ai;simp only[aC.loc.injEq]at J;exact h.1 (nj.2 ⟨nb,I,J.symm⟩)
  rw[e,List.nodup_cons,List.nodup_cons];exact⟨by simp[aM 0],aM 1,Nj h.2⟩
theorem WH{S:aC->Prop}:∀(l:List (Rl×Nat)),(∀p∈l,S (.loc p.2))->Pv.kinL S (dq Rl.k l)
 |[],_=>by simp[dq,Pv.kinL]
 |x::l,ho=>by have:=WH l fun p aV=>ho p (by simp[aV]);unfold dq at this;have I:=ho x Ψ;simp only[dq,fF,Pv.kinL];exact⟨by simp[Rl.k,Pv.kin,Pv.kinL,I],this⟩
theorem WI{n m:Nat}{l:List (Rl×Nat)}(aD:ko n l)(hm:n<=m)(o:List aC):Pv.kinL (fun k=> ¬fresh m o k) (dq Rl.k l):=WH l fun p aV aK=>by have I:=aD.lt p aV;have J:m<=p.2:=aK.1;omega
def tX(o:aW (List Rl))(κ:Nat):ae:= .tuple [.agg [.slice 7 (.tr (.loc κ) 0) ((o.getD []).map Rl.e)],.bool o.isSome]
def rD(l:List (List aj))(i q:Nat):List (Rl×Nat)->aU
 |[]=>⟨[(2,.ptr (.loc 0) 0),(3,.bool false),(6,.ptr (.obj 871) 0),(7,.ptr (.loc 1) 0)],[(.loc 0,[.slice 7 .nil []]),(.obj 871,[.slice 1 .no (b6 l),.int .i64 i]),(.loc 1,[.slice 7 .nil []])],[],2,[.obj 871]⟩
 |x::xs=>⟨[(2,.ptr (.loc 0) 0),(3,.bool false),(6,.ptr (.obj 871) 0),(7,.ptr (.loc 1) 0)],[(.loc 0,[.slice 7 .nil []]),(.obj 871,[.slice 1 .no (b6 l),.int .i64 i]),(.loc 1,[.slice 7 (.own (.loc 5)) (dq Rl.k (x::xs))])],[(.loc 5,⟨xs.length+1,86,7,none⟩)],q+6,[.obj 871]⟩
structure D5 (l:List (List aj)) (O:aW (List Rl)) (x:List (Rl×Nat)×Nat×Nat):Prop where
 j:∃n,(l.drop x.2.1).length<=n/\oU ((uc n (l.drop x.2.1)).map ((x.1.map (·.1))++ ·))=O
 le:x.2.1<=l.length
 len:x.1.length<=x.2.1
 nm:ko (x.2.2+6) x.1
theorem afI{l:List (List aj)}{O:aW (List Rl)}{P:List (Rl×Nat)}{i q:Nat}(h:D5 l O (P,i,q))(aw:i<l.length)(aI:pb (l.drop i)=none):O=none:=by obtain⟨⟨n,aM,bt⟩,_,_,_⟩:=h;simp only at aM bt;rw[hX]at aM;obtain⟨m,rfl⟩:∃m,n=m+1:=⟨n-1,Ω⟩;rw[<-bt];obtain⟨w,r,Lf⟩:∃w r,l.drop i=w::r:=⟨_,_,pR aw⟩;rw[Lf]at aI⊢;simp only[uc,aI];rfl
theorem TT{l:List (List aj)}{O:aW (List Rl)}{P:List (Rl×Nat)}{i q q' m':Nat}(h:D5 l O (P,i,q)){x:Rl}{r:List (List aj)}(aI:pb (l.drop i)=some (x,r))(fV:ko (q'+6) (P++[(x,m')])):D5 l O (P++[(x,m')],l.length-r.length,q'):=by obtain⟨⟨n,aM,bt⟩,I,J,_⟩:=h;simp only at aM bt I J;obtain⟨d1,d2⟩:=QH aI;rw[hX]at aM d2;obtain⟨m,rfl⟩:∃m,n=m+1:=⟨n-1,Ω⟩;have hr:r=l.drop (l.length-r.length):=(vl d1).1;refine⟨⟨m,by rw[<-hr];omega,?_⟩,by simp only;omega,by simp;omega,fV⟩;rw[<-bt];simp only;rw[<-hr];obtain⟨w,cZ,Lf⟩:∃w cZ,l.drop i=w::cZ:=⟨_,_,pR Ω⟩;rw[Lf]at aI⊢;simp only[uc,aI,Option.map_map];congr 2;funext y;simp
theorem afH{l:List (List aj)}{O:aW (List Rl)}{P:List (Rl×Nat)}{q:Nat}(h:D5 l O (P,l.length,q)):O=oU (some (P.map (·.1))):=by obtain⟨⟨n,_,bt⟩,_,_,_⟩:=h;simp only[jR]at bt;rw[<-bt];cases n<;>simp[uc]
set_option maxRecDepth 8000 in
theorem agR(s:List aj)(az:s.length<=aR):iD aF 38 [.str s] (tX (nK s)):=by
 have cN:=akv s az;obtain⟨O,gR⟩:∃O,O=nK s:=⟨_,rfl⟩;rw[<-gR];unfold nK at gR;cases aE:jw s with
 |none=>rw[aE]at cN gR;simp only[nf]at cN;have ie:O=none:=gR;refine iD.mk mixed vw Rb Va Ψ fun aG κ=>?_;unfold IY;clear aG;simp;(with_reducible repeat' first|refine av ?_|refine aZ cN ?_|refine a1 cN ?_|simp);(refine dG.val Ψ ?_;simp[yl,ba,bg,aT,cX,dR,cC,dE,cb,dy,fold,dV,dU,eH,Pv.look,cY,bC,ie,tX,ix])
 |some l=>
 rw[aE]at cN gR;simp only[nf]at cN;simp only at gR;obtain⟨fJ,fe⟩:=akh aE;refine iD.mk mixed vw Rb Va Ψ fun aG κ=>?_;unfold IY;clear aG;simp;(with_reducible repeat' first|refine av ?_|refine aZ cN ?_|refine a1 cN ?_|simp);clear cN;refine hR (fun x:List (Rl×Nat)×Nat×Nat=>rD l x.2.1 x.2.2 x.1) (fun x=>l.length-x.2.1) (fun x=>D5 l O x) ([],0,0) (by simp[rD];exact⟨by simp[fresh,kinL,kin,bu,ak,Pv.look,eo],cG (by simp[fresh,kinL,kin,bu,ak,Pv.look,eo]),cI (by simp[fresh,kinL,kin,cw,ak,Pv.look,eo]),Ψ⟩) ⟨⟨l.length,Ψ,by simpa using gR.symm⟩,pT _,cc _,.nil _⟩ ?_;clear gR;rintro⟨P,i,q⟩ ai _;simp only;have hH:=ai.le;have eM:=ai.len;have fV:=ai.nm;simp only at hH eM fV;rcases jS hH with rfl|b5
 ·have dW:=CW (ky:=871) l;have ie:=afH ai;have cA:=Ir (P.map (·.1));have u2:=Nl P;have wm:=Nj fV.nd;clear ai;have Bp:=Ir [];simp only[gI]at cA;rw[<-u2]at cA;obtain⟨M,p3⟩:∃M,bC (dq Rl.k P)=M:=⟨_,rfl⟩;rw[p3]at cA u2;have Bf:∀S,Pv.kinL S M=True:=fun S=>by rw[u2];exact af0 S _
  cases dM:iU (P.map (·.1))
  ·rw[dM]at cA;replace ie:O=none:=by rw[ie];simp[oU,dM]
   cases P with
   |nil=>rw[show iU ([]:List Rl)=false from dM]at Bp;clear cA p3 Bf;simp[rD];refine CallDo.ob (dW) (bm _ _) (by simp only[ad];exact aA) (by simp only[ad];exact aA) (by simp[ak,Pv.look,ad,aB,ea,kinL,kin]) ?_;rintro r al ⟨rfl,rfl⟩;refine⟨bT _ _ _ _,?_⟩;simp[bc,ad,aB];(with_reducible repeat' first|refine av ?_|refine aZ Bp ?_|refine a1 Bp ?_|simp);(refine dG.val Ψ ?_;simp[yl,ba,bg,aT,cX,dR,cC,dE,cb,dy,fold,dV,dU,eH,Pv.look,cY,bC,ie,tX,ix])
   |cons a e3=>simp[rD];refine CallDo.ob (dW) (bm _ _) (by simp only[ad];exact aA) (by simp only[ad];exact aA) (by simp[ak,Pv.look,ad,aB,ea,kinL,kin]) ?_;rintro r al ⟨rfl,rfl⟩;refine⟨bT _ _ _ _,?_⟩;simp[bc,ad,aB];(with_reducible repeat' first|refine av ?_|simp[p3,Bf]);refine CallDo.val (by simp[kinL,kin,Bf]) cA ?_;simp;(with_reducible repeat' first|refine av ?_|simp);(refine dG.val Ψ ?_;simp[yl,ba,bg,aT,cX,dR,cC,dE,cb,dy,fold,dV,dU,eH,Pv.look,cY,bC,ie,tX,ix])
  ·rw[dM]at cA;replace ie:O=some (P.map (·.1)):=by rw[ie];simp[oU,dM]
   cases P with
   |nil=>rw[show iU ([]:List Rl)=true from dM]at Bp;clear cA p3 Bf;simp[rD];refine CallDo.ob (dW) (bm _ _) (by simp only[ad];exact aA) (by simp only[ad];exact aA) (by simp[ak,Pv.look,ad,aB,ea,kinL,kin]) ?_;rintro r al ⟨rfl,rfl⟩;refine⟨bT _ _ _ _,?_⟩;simp[bc,ad,aB];(with_reducible repeat' first|refine av ?_|refine aZ Bp ?_|refine a1 Bp ?_|simp);(refine dG.val Ψ ?_;simp[yl,ba,bg,aT,cX,dR,cC,dE,cb,dy,fold,dV,dU,eH,Pv.look,cY,bC,ie,tX,ix])
   |cons a e3=>simp at u2;simp[rD];refine CallDo.ob (dW) (bm _ _) (by simp only[ad];exact aA) (by simp only[ad];exact aA) (by simp[ak,Pv.look,ad,aB,ea,kinL,kin]) ?_;rintro r al ⟨rfl,rfl⟩;refine⟨bT _ _ _ _,?_⟩;simp[bc,ad,aB];(with_reducible repeat' first|refine av ?_|simp[p3,Bf]);refine CallDo.val (by simp[kinL,kin,Bf]) cA ?_;simp;(with_reducible repeat' first|refine av ?_|simp);(refine dG.val Ψ ?_;simp[yl,ba,bg,aT,cX,dR,cC,dE,cb,dy,fold,dV,dU,eH,Pv.look,cY,bC,ie,tX,Nk,wm,p3]);exact u2
 have dW:b3 aF 83 [aB 871] (ad 871 l i) fun r al=>r= .bool false/\al=ad 871 l i:=lP b5;have kB:=afS l Ω fe hH;have iG:P.length+1<=aR:=by unfold aR;omega
 cases lS:pb (l.drop i)with
 |none=>
  have ie:=afI ai b5 lS;clear ai;cases P with
  |nil=>simp[rD];refine CallDo.ob (dW) (bm _ _) (by simp only[ad];exact aA) (by simp only[ad];exact aA) (by simp[ak,Pv.look,ad,aB,ea,kinL,kin]) ?_;rintro r al ⟨rfl,rfl⟩;refine⟨bT _ _ _ _,?_⟩;simp[bc,ad,aB];(with_reducible repeat' first|refine av ?_|simp);refine CallDo.obK (kB _) (bm _ _) (by simp only[ad];exact aA) (by simp only[ad];exact aA) (by simp[ak,Pv.look,ad,aB,kinL,kin]) Ψ ?_;rintro r al bp;rw[lS]at bp;obtain⟨x,j,_,rfl,rfl⟩:=bp;refine⟨bT _ _ _ _,?_⟩;simp[bc,ad,aB];(with_reducible repeat' first|refine av ?_|simp);(refine dG.val Ψ ?_;simp[yl,ba,bg,aT,cX,dR,cC,dE,cb,dy,fold,dV,dU,eH,Pv.look,cY,bC,ie,tX,ix])
  |cons a e3=>simp[rD];refine CallDo.ob (dW) (bm _ _) (by simp only[ad];exact aA) (by simp only[ad];exact aA) (by simp[ak,Pv.look,ad,aB,ea,kinL,kin]) ?_;rintro r al ⟨rfl,rfl⟩;refine⟨bT _ _ _ _,?_⟩;simp[bc,ad,aB];(with_reducible repeat' first|refine av ?_|simp);refine CallDo.obK (kB _) (bm _ _) (by simp only[ad];exact aA) (by simp only[ad];exact aA) (by simp[ak,Pv.look,ad,aB,kinL,kin]) Ψ ?_;rintro r al bp;rw[lS]at bp;obtain⟨x,j,_,rfl,rfl⟩:=bp;refine⟨bT _ _ _ _,?_⟩;simp[bc,ad,aB];(with_reducible repeat' first|refine av ?_|simp);(refine dG.val Ψ ?_;simp[yl,ba,bg,aT,cX,dR,cC,dE,cb,dy,fold,dV,dU,eH,Pv.look,cY,bC,ie,tX,ix])
 |some y=>
  obtain⟨x,rest⟩:=y;have kQ:=(QH lS).2;rw[hX]at kQ;cases P with
  |nil=>have eU:=TT (q':=0) (m':=2) ai lS ⟨Ψ,Ψ⟩;clear ai;simp[rD];refine CallDo.ob (dW) (bm _ _) (by simp only[ad];exact aA) (by simp only[ad];exact aA) (by simp[ak,Pv.look,ad,aB,ea,kinL,kin]) ?_;rintro r al ⟨rfl,rfl⟩;refine⟨bT _ _ _ _,?_⟩;simp[bc,ad,aB];(with_reducible repeat' first|refine av ?_|simp);refine CallDo.obK (kB _) (bm _ _) (by simp only[ad];exact aA) (by simp only[ad];exact aA) (by simp[ak,Pv.look,ad,aB,kinL,kin]) Ψ ?_;rintro r al bp;rw[lS]at bp;obtain⟨rfl,rfl⟩:=bp;refine⟨bT _ _ _ _,?_⟩;simp[bc,ad,aB];(with_reducible repeat' first|refine av ?_|simp[iG]);refine b1.whl ([(x,2)],l.length-rest.length,0) (by simp only;omega) eU ?_;simp[rD,dq];exact⟨by simp[fresh,kinL,kin,bu,ak,Pv.look,eo,Rl.k],cG (by simp[fresh,kinL,kin,bu,ak,Pv.look,eo,Rl.k]),cI (by simp[fresh,kinL,kin,cw,ak,Pv.look,eo,Rl.k]),Ψ⟩
  |cons a e3=>have bA:=fV.snoc x (cc (q+6)) (show q+6<q+3+6 by omega);have eU:=TT (q':=q+3) (m':=q+6) ai lS bA;have eT:=WI bA (cc _) [.obj 871];simp[fresh]at eT;have h3:dq Rl.k (a::e3)++[x.k (q+6)]=dq Rl.k (a::(e3++[(x,q+6)])):=(Hp Rl.k (a::e3) x (q+6)).symm;simp only[Rl.k]at h3;clear ai;simp only[gg]at iG;simp[rD];refine CallDo.ob (dW) (bm _ _) (by simp only[ad];exact aA) (by simp only[ad];exact aA) (by simp[ak,Pv.look,ad,aB,ea,kinL,kin]) ?_;rintro r al ⟨rfl,rfl⟩;refine⟨bT _ _ _ _,?_⟩;simp[bc,ad,aB];(with_reducible repeat' first|refine av ?_|simp);refine CallDo.obK (kB _) (bm _ _) (by simp only[ad];exact aA) (by simp only[ad];exact aA) (by simp[ak,Pv.look,ad,aB,kinL,kin]) Ψ ?_;rintro r al bp;rw[lS]at bp;obtain⟨rfl,rfl⟩:=bp;refine⟨bT _ _ _ _,?_⟩;simp[bc,ad,aB];(with_reducible repeat' first|refine av ?_|simp[iG]);refine b1.whl (a::e3++[(x,q+6)],l.length-rest.length,q+3) (by simp only;omega) eU ?_;simp[rD];exact⟨by simp[fresh,kinL,kin,bu,ak,Pv.look,eo,h3,eT],cG (by simp[fresh,kinL,kin,bu,ak,Pv.look,eo,h3,eT]),cI (by simp[fresh,kinL,kin,cw,ak,Pv.look,eo,h3,eT]),Ψ⟩
inductive fG where
 |s (l:List aj)
 |b (x:k1)
def fG.e:fG->ae
 | .s l=>.str l
 | .b x=>.cst (.string x)
def fG.len:fG->Int
 | .s l=>l.length
 | .b x=>x.size
def pM(n:Nat):Prop:=aR<n/\n<=9223372036854775807
def fG.wf:fG->Prop
 | .s _=>True
 | .b x=>pM x.size
inductive eF (α:Type) where
 |l (xs:List α)
 |b (p:aW Addr) (n cap:Nat)
def eF.e{α:Type}(sz:Nat)(f:α->ae):eF α->ae
 | .l xs=>.slice sz .no (xs.map f)
 | .b p n cap=>.cst (.slice p n cap)
def eF.wf{α:Type}(P:α->Prop):eF α->Prop
 | .l xs=> ∀x∈xs,P x
 | .b _ n _=>pM n
inductive bX where
 |mk (k n:Int) (s:fG) (a:List bX)
 |big (k n:Int) (s:fG) (p:aW Addr) (len cap:Nat)
mutual
def bX.e:bX->ae
 | .mk k n s a=>.agg [.int .i64 k,.int .i64 n,s.e,.slice 4 .no (bX.eL a)]
 | .big k n s p len cap=>.agg [.int .i64 k,.int .i64 n,s.e,.cst (.slice p len cap)]
def bX.eL:List bX->List ae
 |[]=>[]
 |x::xs=>x.e::bX.eL xs
end
theorem bX.eL_map:∀l,bX.eL l=l.map bX.e
 |[]=>rfl
 |x::xs=>by simp[bX.eL,bX.eL_map xs]
def bX.kind:bX->Int| .mk k _ _ _=>k| .big k _ _ _ _ _=>k
def bX.num:bX->Int| .mk _ n _ _=>n| .big _ n _ _ _ _=>n
def bX.name:bX->fG| .mk _ _ s _=>s| .big _ _ s _ _ _=>s
def bX.args:bX->eF bX| .mk _ _ _ a=>.l a| .big _ _ _ p l c=>.b p l c
theorem bX.e_eq(t:bX):t.e= .agg [.int .i64 t.kind,.int .i64 t.num,t.name.e,t.args.e 4 bX.e]:=by
 cases t with
 |mk k n s a=>simp only[bX.e,bX.eL_map];rfl
 |big=>rfl
@[simp]theorem aoq(S:aC->Prop)(s:fG):kin S s.e=True:=by cases s<;>simp[fG.e,kin]
@[simp]theorem apW(s:fG):bD s.e=s.e:=by cases s<;>simp[fG.e,bD]
mutual
theorem Um(S:aC->Prop):∀t:bX,kin S t.e
 | .mk k n s a=>by simp[bX.e,kin,kinL,LN S a]
 | .big k n s p l c=>by simp[bX.e,kin,kinL]
theorem LN(S:aC->Prop):∀l:List bX,kinL S (bX.eL l)
 |[]=>by simp[bX.eL,kinL]
 |x::xs=>by simp[bX.eL,kinL,Um S x,LN S xs]
end
mutual
theorem W7:∀t:bX,bD t.e=t.e
 | .mk k n s a=>by simp[bX.e,bD,bC,NJ a]
 | .big k n s p l c=>by simp[bX.e,bD,bC]
theorem NJ:∀l:List bX,bC (bX.eL l)=bX.eL l
 |[]=>by simp[bX.eL,bC]
 |x::xs=>by simp[bX.eL,bC,W7 x,NJ xs]
end
@[simp]theorem aou(S:aC->Prop)(t:bX):kin S t.e=True:=eq_true (Um S t)
@[simp]theorem aoj(S:aC->Prop)(l:List bX):kinL S (l.map bX.e)=True:=by rw[<-bX.eL_map];exact eq_true (LN S l)
@[simp]theorem ap1(t:bX):bD t.e=t.e:=W7 t
@[simp]theorem apQ(l:List bX):bC (l.map bX.e)=l.map bX.e:=by rw[<-bX.eL_map];exact NJ l
@[simp]theorem an6(t:bX):Pv.isAgg 4 t.e:=by rw[bX.e_eq];exact⟨_,rfl,rfl⟩
@[simp]theorem af2(S:aC->Prop)(x:eF bX):kin S (x.e 4 bX.e)=True:=by cases x<;>simp[eF.e,kin]
@[simp]theorem ajS(x:eF bX):bD (x.e 4 bX.e)=x.e 4 bX.e:=by cases x<;>simp[eF.e,bD]
mutual
def bX.sz:bX->Nat
 | .mk _ _ _ a=>1+bX.szL a
 | .big _ _ _ _ _ _=>1
def bX.szL:List bX->Nat
 |[]=>0
 |x::xs=>x.sz+bX.szL xs
end
theorem bX.szL_mem:∀{l:List bX} {x:bX},x∈l->x.sz<=bX.szL l
 |y::l,x,h=>by
  rcases gy.1 h with rfl|h
  ·simp[bX.szL]
  ·have:=bX.szL_mem h;simp[bX.szL];omega
mutual
def bX.wf:bX->Prop
 | .mk _ _ s a=>s.wf/\bX.wfL a
 | .big _ _ s _ l _=>s.wf/\pM l
def bX.wfL:List bX->Prop
 |[]=>True
 |x::xs=>x.wf/\bX.wfL xs
end
theorem bX.wfL_iff:∀{l:List bX},bX.wfL l↔∀x∈l,x.wf
 |[]=>by simp[bX.wfL]
 |x::l=>by simp[bX.wfL,bX.wfL_iff (l:=l)]
def ju{α:Type}(f:α->Int->Int):List α->Int->Int
 |[],m=>m
 |x::xs,m=>if f x m<0 then-1 else ju f xs (f x m)
def pL{α:Type}(f:α->Int->Int)(l:List α)(m:Int):Int:=if m-l.length<0 then-1 else ju f l (m-l.length)
def hM{α:Type}(f:α->Int->Int):eF α->Int->Int
 | .l xs,m=>pL f xs m
 | .b _ _ _,_=> -1
theorem W9{α:Type}{f:α->Int->Int}(aK:∀x m,0<=m-> -1<=f x m/\f x m<=m):∀(l:List α) (m:Int),0<=m-> -1<=ju f l m/\ju f l m<=m
 |[],m,h=>by simp only[ju];omega
 |x::xs,m,h=>by
  have I:=aK x m h;simp only[ju];split
  ·omega
  ·have J:=W9 aK xs (f x m) Ω;omega
theorem aj1{α:Type}{f:α->Int->Int}(aK:∀x m,0<=m-> -1<=f x m/\f x m<=m)(l:List α)(m:Int)(h:0<=m): -1<=pL f l m/\pL f l m<=m:=by
 unfold pL;split
 ·omega
 ·have:=W9 aK l (m-l.length) Ω;omega
theorem EX{α:Type}{f:α->Int->Int}(aK:∀x m,0<=m-> -1<=f x m/\f x m<=m)(l:eF α)(m:Int)(h:0<=m): -1<=hM f l m/\hM f l m<=m:=by
 cases l with
 |l xs=>exact aj1 aK xs m h
 |b=>simp only[hM];omega
mutual
def hj:bX->Int->Int
 | .mk _ _ s a,m=>if m-s.len<0 then-1 else if m-s.len-a.length<0 then-1 else qu a (m-s.len-a.length)
 | .big _ _ s _ _ _,m=>if m-s.len<0 then-1 else-1
def qu:List bX->Int->Int
 |[],m=>m
 |x::xs,m=>if hj x m<0 then-1 else qu xs (hj x m)
end
theorem Xj:∀(l:List bX) (m:Int),qu l m=ju hj l m
 |[],m=>rfl
 |x::xs,m=>by simp only[qu,ju,Xj xs]
theorem Ii(t:bX)(m:Int):hj t m=if m-t.name.len<0 then-1 else hM hj t.args (m-t.name.len):=by
 cases t with
 |mk=>simp only[hj,hM,pL,Xj,bX.name,bX.args];rfl
 |big=>simp only[hj,hM,bX.name,bX.args];rfl
theorem fG.len_nn(s:fG):0<=s.len:=by cases s<;>simp[fG.len]
mutual
theorem z7:∀(t:bX) (m:Int),0<=m-> -1<=hj t m/\hj t m<=m
 | .mk _ _ s a,m,h=>by
  have:=s.len_nn;simp only[hj];split
  ·omega
  ·split
   ·omega
   ·have:=Xk a (m-s.len-a.length) Ω;omega
 | .big _ _ s _ _ _,m,h=>by simp only[hj];split<;>omega
theorem Xk:∀(l:List bX) (m:Int),0<=m-> -1<=qu l m/\qu l m<=m
 |[],m,h=>by simp only[qu];omega
 |x::xs,m,h=>by
  have I:=z7 x m h;simp only[qu];split
  ·omega
  ·have J:=Xk xs (hj x m) Ω;omega
end
theorem fG.small{s:fG}(hw:s.wf){m:Int}(bz:m<=1048576)(h:0<=m-s.len):∃l,s= .s l:=by
 cases s with
 |s l=>exact⟨l,rfl⟩
 |b x=>simp only[fG.wf,pM,aR]at hw;simp only[fG.len]at h;omega
mutual
def lI:Tm->bX
 | .mk k n s a=>.mk k n (.s s) (rl a)
def rl:List Tm->List bX
 |[]=>[]
 |x::xs=>lI x::rl xs
end
theorem XB:∀l,rl l=l.map lI
 |[]=>rfl
 |x::xs=>by simp[rl,XB xs]
mutual
theorem XC:∀t:Tm,(lI t).e=enc t
 | .mk k n s a=>by simp only[lI,bX.e,enc,XA a];rfl
theorem XA:∀l:List Tm,bX.eL (rl l)=mj l
 |[]=>rfl
 |x::xs=>by simp only[rl,bX.eL,mj,XC x,XA xs]
end
mutual
theorem Xm:∀(t:bX) (m:Int),t.wf->m<=1048576->0<=m->0<=hj t m->∃u:Tm,t=lI u
 | .mk k n s a,m,hw,I,bz,h=>by
  simp only[bX.wf]at hw;simp only[hj]at h;have:=s.len_nn;split at h
  ·omega
  rename_i g;obtain⟨l,rfl⟩:=fG.small hw.1 I Ω;split at h
  ·omega
  obtain⟨b,ah⟩:=Xl a _ hw.2 Ω Ω h;exact⟨.mk k n l b,by simp only[lI,ah]⟩
 | .big _ _ s _ _ _,m,_,_,_,h=>by simp only[hj]at h;split at h<;>omega
theorem Xl:∀(l:List bX) (m:Int),bX.wfL l->m<=1048576->0<=m->0<=qu l m->∃u:List Tm,l=rl u
 |[],_,_,_,_,_=>⟨[],rfl⟩
 |x::xs,m,hw,I,bz,h=>by
  simp only[bX.wfL]at hw;simp only[qu]at h;have J:=z7 x m bz;split at h
  ·omega
  obtain⟨u,hu⟩:=Xm x m hw.1 I bz Ω;obtain⟨v,aN⟩:=Xl xs _ hw.2 Ω Ω h;exact⟨u::v,by simp only[rl,hu,aN]⟩
end
theorem Xa{α β:Type}{f:α->Int->Int}{P:α->Prop}{g:β->α}(hle:∀x m,0<=m-> -1<=f x m/\f x m<=m)(az:∀x m,P x->m<=1048576->0<=m->0<=f x m->∃y,x=g y):∀(l:List α) (m:Int),(∀x∈l,P x)->m<=1048576->0<=m->0<=ju f l m->∃u:List β,l=u.map g
 |[],_,_,_,_,_=>⟨[],rfl⟩
 |x::xs,m,hw,I,bz,h=>by
  simp only[ju]at h;have J:=hle x m bz;split at h
  ·omega
  obtain⟨u,hu⟩:=az x m (hw x Ψ) I bz Ω;obtain⟨v,aN⟩:=Xa hle az xs _ (fun y bG=>hw y (by simp[bG])) Ω Ω h;exact⟨u::v,by rw[fF,<-hu,<-aN]⟩
theorem Xg{α β:Type}{f:α->Int->Int}{P:α->Prop}{g:β->α}(hle:∀x m,0<=m-> -1<=f x m/\f x m<=m)(az:∀x m,P x->m<=1048576->0<=m->0<=f x m->∃y,x=g y)(l:eF α)(m:Int)(hw:l.wf P)(I:m<=1048576)(bz:0<=m)(h:0<=hM f l m):∃u:List β,l= .l (u.map g):=by
 cases l with
 |b=>simp only[hM]at h;omega
 |l xs=>
  simp only[hM,pL]at h;split at h
  ·omega
  obtain⟨u,hu⟩:=Xa hle az xs _ hw Ω Ω h;exact⟨u,by rw[hu]⟩
def PN:C:=(ag [bK 4 false] (.seq (ag [aa 6 0,cT 7 6,aa 8 1,cT 9 8,cj 10 .neq 7 9] (bb 10 (ag [bK 4 false] .ret) .skip)) (.seq (ag [bU 5 0] (.block 0 (.loop (.seq (ag [aa 11 5,aa 12 0,cT 13 12,cj 14 .lss 11 13] (bb 14 .skip (.exit 0))) (.seq (.block 1 (.seq (.drawn true 27 [aa 17 0,aa 18 5,cP 19 4 17 18,bO 20 4 19,aa 21 1,aa 22 5,cP 23 4 21 22,bO 24 4 23,eb 25 161 20 24,dK 26 25]) (bb 26 (ag [bK 4 false] .ret) .skip))) (.region [aa 15 5,a7 16 .add 15 1,aa 5 16])))))) (ag [bK 4 true] .ret))))
@[simp] def aiG:List ca:=[.tmp 4]
def PM:C:=(ag [fm 2 0,fm 3 1,bK 4 false] (.seq (ag [a6 5 0 1 2,a8 6 1 5,a6 7 0 1 3,a8 8 1 7,cj 9 .neq 6 8] (bb 9 (ag [bK 4 false] .ret) .skip)) (.seq (ag [a6 10 1 1 2,a8 11 1 10,a6 12 1 1 3,a8 13 1 12,cj 14 .neq 11 13] (bb 14 (ag [bK 4 false] .ret) .skip)) (.seq (ag [a6 15 2 1 2,a8 16 1 15,a6 17 2 1 3,a8 18 1 17,cj 19 .neq 16 18] (bb 19 (ag [bK 4 false] .ret) .skip)) (.seq (ag [a6 20 3 1 2,a8 21 1 20,a6 22 3 1 3,a8 23 1 22,eb 24 91 21 23,dK 25 24] (bb 25 (ag [bK 4 false] .ret) .skip)) (ag [bK 4 true] .ret))))))
@[simp] def aiF:List ca:=[.tmp 4]
def Jg:C:=(ag [bU 4 0] (ag [aa 6 1,aa 7 0,cT 8 7,cj 9 .sub 6 8,aa 1 9] (.seq (ag [aa 10 1,a7 11 .lss 10 0] (bb 11 (ag [bU 4 (-1)] .ret) .skip)) (.seq (ag [bU 5 0] (.block 0 (.loop (.seq (ag [aa 12 5,aa 13 0,cT 14 13,cj 15 .lss 12 14] (bb 15 .skip (.exit 0))) (.seq (.block 1 (ag [aa 18 0,aa 19 5,cP 20 4 18 19,bO 21 4 20,aa 22 1,eb 23 259 21 22,aa 1 23] (ag [aa 24 1,a7 25 .lss 24 0] (bb 25 (ag [bU 4 (-1)] .ret) .skip)))) (.region [aa 16 5,a7 17 .add 16 1,aa 5 17])))))) (ag [aa 26 1,aa 4 26] .ret)))))
@[simp] def aiK:List ca:=[.tmp 4]
def PX:C:=(ag [ng 2 4] (ag [aa 5 0,cT 6 5,c7 (.mks 7 none 4 40 (.agg dd) (.t 6)),aa 3 7] (.seq (ag [bU 4 0] (.block 0 (.loop (.seq (ag [aa 8 4,aa 9 0,cT 10 9,cj 11 .lss 8 10] (bb 11 .skip (.exit 0))) (.seq (.block 1 (.region [aa 14 3,aa 15 4,aa 16 0,aa 17 4,cP 18 4 16 17,bO 19 4 18,cl 20 260 19,cP 21 4 14 15,bF 4 21 20])) (.region [aa 12 4,a7 13 .add 12 1,aa 4 13])))))) (.seq (.pub 3 (.region [aa 22 3,aa 2 22])) .ret))))
@[simp] def We:List ca:=[.tmp 2]
def vP:C:=(ag [fm 2 0,bU 4 0] (ag [aa 5 1,a6 6 2 1 2,a8 7 1 6,bh 8 (.slen (.t 7)),cj 9 .sub 5 8,aa 1 9] (.seq (ag [aa 10 1,a7 11 .lss 10 0] (bb 11 (ag [bU 4 (-1)] .ret) .skip)) (ag [a6 12 3 1 2,a8 13 1 12,aa 14 1,eb 15 224 13 14,aa 1 15] (.seq (ag [aa 16 1,a7 17 .lss 16 0] (bb 17 (ag [bU 4 (-1)] .ret) .skip)) (ag [aa 18 1,aa 4 18] .ret))))))
@[simp] def aiJ:List ca:=[.tmp 4]
def PW:C:=(ag [fm 1 0,hv 2 dd] (ag [hv 3 dd] (ag [a6 4 0 1 1,a8 5 1 4,a6 6 0 1 3,bF 1 6 5] (ag [a6 7 1 1 1,a8 8 1 7,a6 9 1 1 3,bF 1 9 8] (ag [a6 10 2 1 1,a8 11 1 10,a6 12 2 1 3,bF 1 12 11] (ag [a6 13 3 1 1,a8 14 1 13,cl 15 227 14,a6 16 3 1 3,bF 1 16 15] (ag [bO 17 4 3,bF 4 2 17] .ret)))))))
@[simp] def Wd:List ca:=[.cell 2 true 4]
def Aa:List (Nat×dh):=[
 (3,⟨1,8,.int .i64,.int .i64 0⟩),
 (9,⟨1,16,.str,.str []⟩),
 (38,⟨1,24,.slice 40,.slice 4 .nil []⟩),
 (40,⟨4,56,.struct [(0,3),(1,3),(2,9),(3,38)],.agg [.int .i64 0,.int .i64 0,.str [],.slice 4 .nil []]⟩),
 (167,⟨1,24,.slice 282,.slice 4 .nil []⟩),
 (282,⟨4,56,.struct [(0,3),(1,3),(2,9),(3,167)],.agg [.int .i64 0,.int .i64 0,.str [],.slice 4 .nil []]⟩)]
theorem qv:eW aF Aa=true:=by kernel_rfl
theorem ahx:cJ Aa PN aiG 2 Tryz.f91=true:=by kernel_rfl
theorem abU:aF.funcs[(91:Nat)]? =some Tryz.f91:=Tryz.func91
theorem ahw:cJ Aa PM aiF 2 Tryz.f161=true:=by kernel_rfl
theorem abT:aF.funcs[(161:Nat)]? =some Tryz.f161:=Tryz.func161
theorem Vp:cJ Aa Jg aiK 2 Tryz.f224=true:=by kernel_rfl
theorem Rs:aF.funcs[(224:Nat)]? =some Tryz.f224:=Tryz.func224
theorem ahG:cJ Aa PX We 1 Tryz.f227=true:=by kernel_rfl
theorem ab3:aF.funcs[(227:Nat)]? =some Tryz.f227:=Tryz.func227
theorem yg:cJ Aa vP aiJ 2 Tryz.f259=true:=by kernel_rfl
theorem xz:aF.funcs[(259:Nat)]? =some Tryz.f259:=Tryz.func259
theorem ahF:cJ Aa PW Wd 1 Tryz.f260=true:=by kernel_rfl
theorem ab2:aF.funcs[(260:Nat)]? =some Tryz.f260:=Tryz.func260
theorem LV{α:Type}{s:List α}{i:Nat}{t:α}(h:s[i]? =some t):s.drop i=t::s.drop (i+1):=by obtain⟨I,J⟩:=fo.1 h;rw[pR I,J]
theorem NP{α:Type}{t:List α}{i:Nat}{b:α}(aN:t[i]? =some b):t.take (i+1)=t.take i++[b]:=by rw[List.take_succ,aN];rfl
theorem G5(S:aC->Prop):∀{a b:List ae},kinL S (a++b)↔kinL S a/\kinL S b
 |[],b=>by simp[kinL]
 |x::a,b=>by simp[kinL,G5 S (a:=a),and_assoc]
theorem q4(S:aC->Prop)(z:ae)(cK:kin S z):∀n,kinL S (List.replicate n z)
 |0=>by simp[kinL]
 |n+1=>by simp[List.replicate_succ,kinL,q4 S z cK n,cK]
theorem Od(l:eF bX)(hw:∀p n cap,l= .b p n cap->pM n)(aK:∀xs,l= .l xs->∀x∈xs,∀m,0<=m->m<=1048576->bW aF 259 [bX.e x,.int .i64 m] (.int .i64 (hj x m)))(m:Int)(bz:0<=m)(I:m<=1048576):bW aF 224 [l.e 4 bX.e,.int .i64 m] (.int .i64 (hM hj l m)):=by
 cases l with
 |b p n cap=>
  have aM:=hw p n cap rfl;simp only[pM,aR]at aM;have g:m-n<0:=Ω
  simp only[eF.e,hM];clear hw aK;refine bI qv Rs Vp fun aG=>?_;unfold Jg;exact bY
 |l l=>
 have aK:=aK l rfl;clear hw;simp only[eF.e,hM];generalize bt:pL hj l m=R;unfold pL at bt;refine bI qv Rs Vp fun aG=>?_;unfold Jg;have e5:l.length<=68719476736:=by simp[gr,gz,gu,aR]at aG;omega
 simp;by_cases g:m-l.length<0
 ·rw[if_pos g]at bt;subst bt;exact bY
 rw[br g]at bt;(with_reducible repeat' first|refine av ?_|simp[g]);refine sZ [0] (fun i (k:Int)=>[(1,.int .i64 k),(5,.int .i64 i)]) l.length (fun i k=>(0<=k/\k<=1048576)/\ju hj (l.drop i) k=R) (m-l.length) cW ⟨⟨Ω,Ω⟩,by simpa using bt⟩ (fun k ai _=>?_) (fun i k aw ai _=>?_)
 ·obtain⟨_,ai⟩:=ai;rw[jR]at ai;simp only[ju]at ai;subst ai;exact bY
 ·obtain⟨⟨eN,cD⟩,ai⟩:=ai;obtain⟨x,af,db⟩:=fQ aw;have key:=aK x (e1 af) k eN cD;have hle:=z7 x k eN;rw[LV af]at ai;simp only[ju]at ai;generalize hj x k=q at key hle ai;clear af;by_cases bp:q<0
  ·rw[if_pos bp]at ai;subst ai;exact bY
  ·rw[br bp]at ai;simp[aw,db];((with_reducible repeat' first|refine av ?_|refine aZ key ?_|refine a1 key ?_|simp[aw,db,bp]|((first|apply dt|apply dx|apply dw)<;>intro h<;>try simp at h))<;>(try exact dQ));all_goals exact b1.rng q aw ⟨⟨Ω,Ω⟩,ai⟩ cW
theorem XZ(l:List Tm)(aK:∀x∈l,bW aF 161 [enc x,enc x] (.bool true)):bW aF 91 [.slice 4 .no (l.map enc),.slice 4 .no (l.map enc)] (.bool true):=by
 refine bI qv abU ahx fun aG=>?_;unfold PN;have e5:l.length<=68719476736:=by simp[gr,gz,gu,aR]at aG;omega
 simp;(with_reducible repeat' first|refine av ?_|simp);refine sZ [0,1] (fun i (_:Unit)=>[(5,.int .i64 i)]) l.length (fun _ _=>True) () cW trivial (fun _ _ _=>?_) (fun i _ aw _ _=>?_)
 ·exact bY
 ·obtain⟨x,af,db⟩:=fQ aw;have key:=aK x (e1 af);clear af;exact tZ
theorem ald(t:bX)(hw:t.wf):∀m:Int,0<=m->m<=1048576->bW aF 259 [t.e,.int .i64 m] (.int .i64 (hj t m)):=by
 suffices H:∀(k:Nat) (t:bX),t.sz<=k->t.wf->∀m:Int,0<=m->m<=1048576->bW aF 259 [t.e,.int .i64 m] (.int .i64 (hj t m))from H _ t (cc _) hw
 intro k;clear hw t;induction k with
 |zero=>intro t aE;cases t<;>simp[bX.sz]at aE
 |succ k aX=>
  intro t aE hw m bz I;cases t with
  |mk tk tn s a=>
   simp only[bX.wf,bX.wfL_iff]at hw;obtain⟨K7,Dh⟩:=hw;have k6:m-s.len<0->hj (.mk tk tn s a) m= -1:=fun g=>by rw[Ii];exact if_pos g
   have ml:¬m-s.len<0->hj (.mk tk tn s a) m=hM hj (.l a) (m-s.len):=fun g=>by rw[Ii];exact br g
   generalize hj (.mk tk tn s a) m=R at k6 ml;have wo:=s.len_nn;have key:=fun h=>Od (.l a) (fun p n c e=>by cases e) (fun xs e x af=>by cases e;exact aX x (by have:=bX.szL_mem af;simp only[bX.sz]at aE;omega) (Dh x af)) (m-s.len) h Ω;have hle:=fun h=>EX z7 (.l a) (m-s.len) h;simp only[bX.e,bX.eL_map];simp only[eF.e]at key;clear aE Dh;cases s with
   |b x=>
    simp only[fG.wf,pM,aR]at K7;have g:m-x.size<0:=Ω
    have bt:=k6 g;subst bt;clear k6 ml;clear key hle aX;simp only[fG.e];refine bI qv xz yg fun aG=>?_;unfold vP;exact bY
   |s l=>
    simp only[fG.len]at k6 ml key hle;simp only[fG.e];by_cases g:m-l.length<0
    ·have bt:=k6 g;subst bt;clear k6 ml;clear key hle aX;refine bI qv xz yg fun aG=>?_;unfold vP;have e5:l.length<=68719476736:=by simp[gr,gz,gu,aR]at aG;omega
     exact bY
    ·have bt:=ml g;clear k6 ml;have key:=key Ω;have hle:=hle Ω;rw[<-bt]at key hle;clear bt aX;by_cases bp:R<0
     ·have:R= -1:=Ω
      subst this;refine bI qv xz yg fun aG=>?_;unfold vP;have e5:l.length<=68719476736:=by simp[gr,gz,gu,aR]at aG;omega
      exact bY
     ·refine bI qv xz yg fun aG=>?_;unfold vP;have e5:l.length<=68719476736:=by simp[gr,gz,gu,aR]at aG;omega
      exact bY
  |big tk tn s p n c=>
   simp only[bX.wf]at hw;obtain⟨K7,Dh⟩:=hw;have k6:m-s.len<0->hj (.big tk tn s p n c) m= -1:=fun g=>by rw[Ii];exact if_pos g
   have ml:¬m-s.len<0->hj (.big tk tn s p n c) m=hM hj (.b p n c) (m-s.len):=fun g=>by rw[Ii];exact br g
   generalize hj (.big tk tn s p n c) m=R at k6 ml;have wo:=s.len_nn;have key:=fun h=>Od (.b p n c) (fun p n c e=>by cases e;exact Dh) (fun xs e=>by cases e) (m-s.len) h Ω;have hle:=fun h=>EX z7 (.b p n c) (m-s.len) h;simp only[bX.e];simp only[eF.e]at key;clear aE Dh;cases s with
   |b x=>
    simp only[fG.wf,pM,aR]at K7;have g:m-x.size<0:=Ω
    have bt:=k6 g;subst bt;clear k6 ml;clear key hle aX;simp only[fG.e];refine bI qv xz yg fun aG=>?_;unfold vP;exact bY
   |s l=>
    simp only[fG.len]at k6 ml key hle;simp only[fG.e];by_cases g:m-l.length<0
    ·have bt:=k6 g;subst bt;clear k6 ml;clear key hle aX;refine bI qv xz yg fun aG=>?_;unfold vP;have e5:l.length<=68719476736:=by simp[gr,gz,gu,aR]at aG;omega
     exact bY
    ·have bt:=ml g;clear k6 ml;have key:=key Ω;have hle:=hle Ω;rw[<-bt]at key hle;clear bt aX;by_cases bp:R<0
     ·have:R= -1:=Ω
      subst this;refine bI qv xz yg fun aG=>?_;unfold vP;have e5:l.length<=68719476736:=by simp[gr,gz,gu,aR]at aG;omega
      exact bY
     ·refine bI qv xz yg fun aG=>?_;unfold vP;have e5:l.length<=68719476736:=by simp[gr,gz,gu,aR]at aG;omega
      exact bY
theorem akA(t:Tm):bW aF 161 [enc t,enc t] (.bool true):=by
 suffices H:∀(k:Nat) (t:Tm),t.sz<=k->bW aF 161 [enc t,enc t] (.bool true)from H _ t (cc _)
 intro k;induction k with
 |zero=>intro t aE;cases t;simp[Tm.sz]at aE
 |succ k aX=>intro t aE;have key:=XZ t.args (fun x af=>aX x (by have:=NO af;omega));clear aX;refine bI qv abT ahw fun aG=>?_;unfold PM;exact bY
inductive cd where
 |mk (k:Int) (s:fG) (t:eF bX) (g:List cd)
 |big (k:Int) (s:fG) (t:eF bX) (p:aW Addr) (len cap:Nat)
def hN(t:eF bX):ae:=t.e 4 bX.e
mutual
def cd.e:cd->ae
 | .mk k s t g=>.agg [.int .i64 k,s.e,hN t,.slice 4 .no (cd.eL g)]
 | .big k s t p len cap=>.agg [.int .i64 k,s.e,hN t,.cst (.slice p len cap)]
def cd.eL:List cd->List ae
 |[]=>[]
 |x::xs=>x.e::cd.eL xs
end
theorem cd.eL_map:∀l,cd.eL l=l.map cd.e
 |[]=>rfl
 |x::xs=>by simp[cd.eL,cd.eL_map xs]
def cd.kind:cd->Int| .mk k _ _ _=>k| .big k _ _ _ _ _=>k
def cd.name:cd->fG| .mk _ s _ _=>s| .big _ s _ _ _ _=>s
def cd.ts:cd->eF bX| .mk _ _ t _=>t| .big _ _ t _ _ _=>t
def cd.gs:cd->eF cd| .mk _ _ _ a=>.l a| .big _ _ _ p l c=>.b p l c
theorem cd.e_eq(t:cd):t.e= .agg [.int .i64 t.kind,t.name.e,hN t.ts,t.gs.e 4 cd.e]:=by
 cases t with
 |mk k n s a=>simp only[cd.e,cd.eL_map];rfl
 |big=>rfl
@[simp]theorem aov(S:aC->Prop)(d:eF bX):kin S (hN d)=True:=af2 S d
@[simp]theorem ap2(d:eF bX):bD (hN d)=hN d:=ajS d
mutual
theorem Ul(S:aC->Prop):∀t:cd,kin S t.e
 | .mk k n s a=>by simp[cd.e,kin,kinL,LM S a]
 | .big k n s p l c=>by simp[cd.e,kin,kinL]
theorem LM(S:aC->Prop):∀l:List cd,kinL S (cd.eL l)
 |[]=>by simp[cd.eL,kinL]
 |x::xs=>by simp[cd.eL,kinL,Ul S x,LM S xs]
end
mutual
theorem W6:∀t:cd,bD t.e=t.e
 | .mk k n s a=>by simp[cd.e,bD,bC,NI a]
 | .big k n s p l c=>by simp[cd.e,bD,bC]
theorem NI:∀l:List cd,bC (cd.eL l)=cd.eL l
 |[]=>by simp[cd.eL,bC]
 |x::xs=>by simp[cd.eL,bC,W6 x,NI xs]
end
@[simp]theorem aoo(S:aC->Prop)(t:cd):kin S t.e=True:=eq_true (Ul S t)
@[simp]theorem aoh(S:aC->Prop)(l:List cd):kinL S (l.map cd.e)=True:=by rw[<-cd.eL_map];exact eq_true (LM S l)
@[simp]theorem apU(t:cd):bD t.e=t.e:=W6 t
@[simp]theorem apP(l:List cd):bC (l.map cd.e)=l.map cd.e:=by rw[<-cd.eL_map];exact NI l
@[simp]theorem an2(t:cd):Pv.isAgg 4 t.e:=by rw[cd.e_eq];exact⟨_,rfl,rfl⟩
@[simp]theorem af1(S:aC->Prop)(x:eF cd):kin S (x.e 4 cd.e)=True:=by cases x<;>simp[eF.e,kin]
@[simp]theorem ajR(x:eF cd):bD (x.e 4 cd.e)=x.e 4 cd.e:=by cases x<;>simp[eF.e,bD]
mutual
def cd.sz:cd->Nat
 | .mk _ _ _ a=>1+cd.szL a
 | .big _ _ _ _ _ _=>1
def cd.szL:List cd->Nat
 |[]=>0
 |x::xs=>x.sz+cd.szL xs
end
theorem cd.szL_mem:∀{l:List cd} {x:cd},x∈l->x.sz<=cd.szL l
 |y::l,x,h=>by
  rcases gy.1 h with rfl|h
  ·simp[cd.szL]
  ·have:=cd.szL_mem h;simp[cd.szL];omega
def Ck(t:eF bX):Prop:=t.wf bX.wf
mutual
def cd.wf:cd->Prop
 | .mk _ s t a=>(s.wf/\Ck t)/\cd.wfL a
 | .big _ s t _ l _=>(s.wf/\Ck t)/\pM l
def cd.wfL:List cd->Prop
 |[]=>True
 |x::xs=>x.wf/\cd.wfL xs
end
theorem cd.wfL_iff:∀{l:List cd},cd.wfL l↔∀x∈l,x.wf
 |[]=>by simp[cd.wfL]
 |x::l=>by simp[cd.wfL,cd.wfL_iff (l:=l)]
def lH(t:eF bX)(m:Int):Int:=hM hj t m
theorem Xp(t:eF bX)(m:Int)(h:0<=m): -1<=lH t m/\lH t m<=m:=EX z7 t m h
def nM(s:fG)(t:eF bX)(m:Int):Int:=if m-s.len<0 then-1 else lH t (m-s.len)
theorem Xn(s:fG)(t:eF bX)(m:Int)(h:0<=m): -1<=nM s t m/\nM s t m<=m:=by
 have:=s.len_nn;unfold nM;split
 ·omega
 ·have:=Xp t (m-s.len) Ω;omega
mutual
def hW:cd->Int->Int
 | .mk _ s t a,m=>if nM s t m<0 then-1 else if nM s t m-a.length<0 then-1 else qt a (nM s t m-a.length)
 | .big _ _ _ _ _ _,_=> -1
def qt:List cd->Int->Int
 |[],m=>m
 |x::xs,m=>if hW x m<0 then-1 else qt xs (hW x m)
end
theorem Xb:∀(l:List cd) (m:Int),qt l m=ju hW l m
 |[],m=>rfl
 |x::xs,m=>by simp only[qt,ju,Xb xs]
theorem ajV(t:cd)(m:Int):hW t m=if nM t.name t.ts m<0 then-1 else hM hW t.gs (nM t.name t.ts m):=by
 cases t with
 |mk=>simp only[hW,hM,pL,Xb,cd.name,cd.ts,cd.gs];rfl
 |big=>simp only[hW,hM,cd.gs];split<;>rfl
mutual
theorem B8:∀(t:cd) (m:Int),0<=m-> -1<=hW t m/\hW t m<=m
 | .mk _ s t a,m,h=>by
  have:=Xn s t m h;simp only[hW];split
  ·omega
  ·split
   ·omega
   ·have:=Xc a (nM s t m-a.length) Ω;omega
 | .big _ _ _ _ _ _,m,h=>by simp only[hW];omega
theorem Xc:∀(l:List cd) (m:Int),0<=m-> -1<=qt l m/\qt l m<=m
 |[],m,h=>by simp only[qt];omega
 |x::xs,m,h=>by
  have I:=B8 x m h;simp only[qt];split
  ·omega
  ·have J:=Xc xs (hW x m) Ω;omega
end
mutual
def pg:Gm->cd
 | .mk k s t g=>.mk k (.s s) (.l (t.map lI)) (qS g)
def qS:List Gm->List cd
 |[]=>[]
 |x::xs=>pg x::qS xs
end
theorem Sd:∀l,qS l=l.map pg
 |[]=>rfl
 |x::xs=>by simp[qS,Sd xs]
theorem akf(l:List Tm):(l.map lI).map bX.e=l.map enc:=by rw[List.map_map];exact List.map_congr_left fun b _=>XC b
mutual
theorem Se:∀t:Gm,(pg t).e=t.e
 | .mk k s t g=>by have h:=Sc g;simp only[pg,cd.e,Gm.e_eq,Gm.kind,Gm.name,Gm.ts,Gm.gs,hN,eF.e,akf,h];rfl
theorem Sc:∀l:List Gm,cd.eL (qS l)=l.map Gm.e
 |[]=>rfl
 |x::xs=>by simp only[qS,cd.eL,fF,Se x,Sc xs]
end
theorem aj2(x:eF bX)(m:Int)(hw:Ck x)(I:m<=1048576)(bz:0<=m)(h:0<=lH x m):∃u:List Tm,x= .l (u.map lI):=Xg z7 (P:=bX.wf) Xm x m hw I bz h
mutual
theorem Xe:∀(t:cd) (m:Int),t.wf->m<=1048576->0<=m->0<=hW t m->∃u:Gm,t=pg u
 | .mk k s t a,m,hw,I,bz,h=>by
  simp only[cd.wf]at hw;have aD:=Xn s t m bz;simp only[hW]at h;split at h
  ·omega
  rename_i g;split at h
  ·omega
  obtain⟨b,ah⟩:=Xd a _ hw.2 Ω Ω h;unfold nM at g;split at g
  ·omega
  obtain⟨l,rfl⟩:=fG.small hw.1.1 I Ω;obtain⟨u,rfl⟩:=aj2 t (m-fG.len (.s l)) hw.1.2 (by have:=fG.len_nn (.s l);omega) Ω Ω;exact⟨.mk k l u b,by simp only[pg,ah]⟩
 | .big _ _ _ _ _ _,m,_,_,_,h=>by simp only[hW]at h;omega
theorem Xd:∀(l:List cd) (m:Int),cd.wfL l->m<=1048576->0<=m->0<=qt l m->∃u:List Gm,l=qS u
 |[],_,_,_,_,_=>⟨[],rfl⟩
 |x::xs,m,hw,I,bz,h=>by
  simp only[cd.wfL]at hw;simp only[qt]at h;have J:=B8 x m bz;split at h
  ·omega
  obtain⟨u,hu⟩:=Xe x m hw.1 I bz Ω;obtain⟨v,aN⟩:=Xd xs _ hw.2 Ω Ω h;exact⟨u::v,by simp only[qS,hu,aN]⟩
end
theorem ajX:∀(t:Tm) (m:Int),0<=m->0<=hj (lI t) m->(t.sz:Int)<=1+m-hj (lI t) m:=by
 suffices H:(∀(t:Tm) (m:Int),0<=m->0<=hj (lI t) m->(t.sz:Int)<=1+m-hj (lI t) m)from H
 intro t;refine Tm.rec (motive_1:=fun t=> ∀m:Int,0<=m->0<=hj (lI t) m->(t.sz:Int)<=1+m-hj (lI t) m) (motive_2:=fun l=> ∀m:Int,0<=m->0<=qu (rl l) m->(Tm.szL l:Int)<=l.length+m-qu (rl l) m) ?_ ?_ ?_ t
 ·intro k n s a aX m bz h;simp only[lI,hj]at h⊢;have:=fG.len_nn (.s s);split at h
  ·omega
  rename_i g1;split at h
  ·omega
  rename_i g2;rw[br g1,br g2];have:=aX _ Ω h;have aD:(rl a).length=a.length:=by rw[XB,nh]
  simp only[Tm.sz];omega
 ·intro m bz h;simp[rl,qu,Tm.szL]
 ·intro x xs Lo Lp m bz h;simp only[rl,qu]at h⊢;split at h
  ·omega
  rename_i g1;rw[br g1];have I:=Lo m bz Ω;have J:=Lp _ Ω h;simp only[Tm.szL,gg];omega
theorem aj3(t:List Tm)(m:Int)(bz:0<=m)(h:0<=lH (.l (t.map lI)) m):(Tm.szL t:Int)<=m-lH (.l (t.map lI)) m:=by
 unfold lH at h⊢;simp only[hM,pL]at h⊢;split at h
 ·omega
 rename_i g;rw[br g];have key:∀(l:List Tm) (m:Int),0<=m->0<=ju hj (l.map lI) m->(Tm.szL l:Int)<=l.length+m-ju hj (l.map lI) m:=by
  intro l;induction l with
  |nil=>intro m bz h;simp[ju,Tm.szL]
  |cons x xs aX=>
   intro m bz h;simp only[fF,ju]at h⊢;split at h
   ·omega
   rename_i g1;rw[br g1];have I:=ajX x m bz Ω;have J:=aX _ Ω h;simp only[Tm.szL,gg];omega
 have:=key t _ Ω h;simp only[nh]at*;omega
theorem ajY(s:List aj)(t:List Tm)(m:Int)(bz:0<=m)(h:0<=nM (.s s) (.l (t.map lI)) m):(s.length+Tm.szL t:Int)<=m-nM (.s s) (.l (t.map lI)) m:=by
 unfold nM at h⊢;split at h
 ·omega
 rename_i g;rw[br g];simp only[fG.len]at*;have:=aj3 t _ Ω h;omega
theorem ajW(g:Gm):∀m:Int,0<=m->0<=hW (pg g) m->(g.w:Int)<=1+m-hW (pg g) m:=by
 refine Gm.rec (motive_1:=fun g=> ∀m:Int,0<=m->0<=hW (pg g) m->(g.w:Int)<=1+m-hW (pg g) m) (motive_2:=fun l=> ∀m:Int,0<=m->0<=qt (qS l) m->(pj l:Int)<=l.length+m-qt (qS l) m) ?_ ?_ ?_ g
 ·intro k s t a aX m bz h;simp only[pg,hW]at h⊢;split at h
  ·omega
  rename_i g1;split at h
  ·omega
  rename_i g2;rw[br g1,br g2];have I:=ajY s t m bz Ω;have:=aX _ Ω h;have aD:(qS a).length=a.length:=by rw[Sd,nh]
  simp only[Gm.w];omega
 ·intro m bz h;simp[qS,qt,pj]
 ·intro x xs Lo Lp m bz h;simp only[qS,qt]at h⊢;split at h
  ·omega
  rename_i g1;rw[br g1];have I:=Lo m bz Ω;have J:=Lp _ Ω h;simp only[pj,gg];omega
end
end Go.Proofs.YtlnndmgfngfeiaaGreatDoor
