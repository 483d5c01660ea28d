/- Words of a text: what both readers' walks use. -/
import Derived.Lib.ItoaLen
import Derived.Test.YtlnndmgfngfeiaaGreatDoorProg
import Derived.Test.YtlnndmgfngfeiaaGreatDoorZn6
set_option linter.all false
set_option maxHeartbeats 4000000
set_option maxRecDepth 4000
open Bool renaming and_eq_true->bJ
open Go renaming Program->bS
open Go.IntKind renaming i64->lL
open Go.Proofs.Tryz renaming prog->aF
open List renaming all_eq_true->ji,cons_append->dF,drop_eq_getElem_cons->pR,drop_length->jR,getElem?_append_left->qB,getElem?_eq_getElem->cL,getElem?_eq_some_iff->fo,length_append->gx,length_cons->gg,length_drop->hX,length_map->nh,length_nil->mJ,length_pos_iff->sJ,map_cons->fF,mem_append->hl,mem_cons->gy,mem_map->nj,mem_of_getElem?->e1,nil_append->eE,nodup_append->qC,take_add_one->k3,take_append_drop->ry,take_length->hE,take_of_length_le->vB,take_succ_cons->sK
open List.cons renaming injEq->sH
open Nat renaming eq_or_lt_of_le->jS,le_refl->cc
open Option renaming getD->kn,isSome->sL,map_none->vC,map_some->lM
open Option.some renaming inj->gB
open _root_ renaming False->dr,Option->aW,UInt8->aj,beq_eq_false_iff_ne->jj,beq_iff_eq->eA,decide_eq_true->oX,decide_eq_true_eq->fs,if_neg->br
namespace Go.Proofs.YtlnndmgfngfeiaaGreatDoor
section
open Go Go.Pv
def bQ:aW (List aj)->dJ
 |none=>bN
 |some l=>be l
theorem OC:∀o,hn (bQ o)
 |none=>Fh
 |some l=>kI l
theorem CallDo.bd{P:bS}{n:Nat}{args:List ae}{st:aU}{d:aW Nat}{K:aU->Prop}{o:aW (List aj)}{r:ae}{c6:List aj}(aK:b3 P n args (bQ o) fun cZ al=>cZ=r/\al=be c6)(ah:∀k cs,Pv.look k (bQ o).b=some cs->Pv.look k st.b=some cs)(he:∀k p,Pv.look k (bQ o).e=some p->Pv.look k st.e=some p)
  (ab:kinL (ak (bQ o)) args) (aM:o=none->aC.obj 862∉st.o) (h:K ⟨fE d r st.t,bc (bQ o).b st.b++(be c6).b,bc (bQ o).e st.e++(be c6).e,st.n,st.o++[.obj 861,.obj 862]⟩):CallDo P n args st d K:=by
 refine CallDo.two aK (OC o) ah he ab ?_;rintro cZ al ⟨rfl,rfl⟩;refine⟨⟨fun m hm=>.inl ?_,fun m hm=>?_⟩,h⟩
 ·simp only[be,Pv.look]at hm;split at hm
  ·rename_i e;rw[<-e];cases o<;>simp[bQ,bN,be,Pv.look]
  ·cases hm
 ·simp only[be,Pv.look]at hm;split at hm
  ·rename_i e;rw[<-e];cases o with
   |none=>exact .inr (aM rfl)
   |some l=>exact .inl (by simp[bQ,be,Pv.look])
  ·cases hm
theorem j9(o:aW (List aj))(t:List aj)(aE:o=none->t≠[])(aD:(o.getD []++t).length<=aR):b3 aF 62 [bq,.str t] (bQ o) fun r al=>r= .tuple [.int .i64 t.length,.junk]/\al=be (o.getD []++t):=by
 cases o with
 |none=>exact acH t (aE rfl) (by simpa using aD)
 |some l=>exact acI l t aD
theorem r0(n:Int):Lib.itoa n≠[]:=by
 unfold Lib.itoa;split
 ·simp
 ·exact pa _
def oz(l:List aj)(u:T):aU:=⟨[(0,.ptr (.obj 861) 0),(3,.ptr (.loc 0) 0)],(be l).b++[(.loc 0,cells u.e)],(be l).e,1,[.obj 861,.obj 862]⟩
theorem ac5(n:Nat):∀t:T,t.size<=n->t.ok=true->∀o:aW (List aj),(o.getD []++cM t).length<=aR->b3 aF 153 [bq,t.e] (bQ o) fun r al=>r= .tuple []/\al=be (o.getD []++cM t):=by
 induction n with
 |zero=>intro t h;have:=t.size_pos;omega
 |succ n aX=>
  intro t aM dM o aD;have az:=OC o;have b7:(40:aj)=40:=rfl;cases t with
  |nil=>
   clear aX;simp only[cM]at aD⊢;cases o with
   |none=>simp only[bQ,bN,be,kn]at az aD⊢;refine b3.mk mixed kF uP vf Ψ az.obj fun aG b2=>?_;unfold sQ;clear aG b2;simp[bq];(with_reducible repeat' first|refine av ?_|simp);refine CallDo.bd (o:=_) (j9 (none) ([40,41]) (by simp[r0,b7]) aD) (by simp only[bQ,bN,be,bq];exact aA) (by simp only[bQ,bN,be,bq];exact aA) (by simp[ak,Pv.look,bQ,bN,be,bq,kinL,kin]) Ψ ?_;simp[bc,bQ,bN,be,bq];refine cO.new (be ([]++([40,41]))) Ψ (kI _) (by simp[hd,be,ak,Pv.look]) (by simp only[be,bq];exact aA) (by simp only[be,bq];exact aA) ?_;simp[c8,om,ba,bg,aT,be,bq,ak,Pv.look,kin,kinL]
   |some l=>simp only[bQ,bN,be,kn]at az aD⊢;refine b3.mk mixed kF uP vf Ψ az.obj fun aG b2=>?_;unfold sQ;clear aG b2;simp[bq];(with_reducible repeat' first|refine av ?_|simp);refine CallDo.bd (o:=_) (j9 (some l) ([40,41]) (by simp[r0,b7]) aD) (by simp only[bQ,bN,be,bq];exact aA) (by simp only[bQ,bN,be,bq];exact aA) (by simp[ak,Pv.look,bQ,bN,be,bq,kinL,kin]) Ψ ?_;simp[bc,bQ,bN,be,bq];refine cO.new (be (l++([40,41]))) Ψ (kI _) (by simp[hd,be,ak,Pv.look]) (by simp only[be,bq];exact aA) (by simp only[be,bq];exact aA) ?_;simp[c8,om,ba,bg,aT,be,bq,ak,Pv.look,kin,kinL]
  |var v=>
   clear aX;have eX:aY v:=by simp[T.ok]at dM;unfold aY;omega
   have dp:=N4 v eX;have hH:=TK eX;have Gv:(Lib.itoa v).length+1<=aR:=by have:=Lib.itoa_length_le v (by unfold aY at eX;omega) (by unfold aY at eX;omega);unfold aR;omega
   simp only[cM]at aD⊢;cases o with
   |none=>simp only[bQ,bN,be,kn]at az aD⊢;refine b3.mk mixed kF uP vf Ψ az.obj fun aG b2=>?_;unfold sQ;clear aG b2;simp[bq];(with_reducible repeat' first|refine av ?_|refine aZ dp ?_|refine a1 dp ?_|simp[Gv]);refine CallDo.bd (o:=_) (j9 (none) (63::Lib.itoa v) (by simp[r0,b7]) aD) (by simp only[bQ,bN,be,bq];exact aA) (by simp only[bQ,bN,be,bq];exact aA) (by simp[ak,Pv.look,bQ,bN,be,bq,kinL,kin]) Ψ ?_;simp[bc,bQ,bN,be,bq];refine cO.new (be ([]++(63::Lib.itoa v))) Ψ (kI _) (by simp[hd,be,ak,Pv.look]) (by simp only[be,bq];exact aA) (by simp only[be,bq];exact aA) ?_;simp[c8,om,ba,bg,aT,be,bq,ak,Pv.look,kin,kinL]
   |some l=>simp only[bQ,bN,be,kn]at az aD⊢;refine b3.mk mixed kF uP vf Ψ az.obj fun aG b2=>?_;unfold sQ;clear aG b2;simp[bq];(with_reducible repeat' first|refine av ?_|refine aZ dp ?_|refine a1 dp ?_|simp[Gv]);refine CallDo.bd (o:=_) (j9 (some l) (63::Lib.itoa v) (by simp[r0,b7]) aD) (by simp only[bQ,bN,be,bq];exact aA) (by simp only[bQ,bN,be,bq];exact aA) (by simp[ak,Pv.look,bQ,bN,be,bq,kinL,kin]) Ψ ?_;simp[bc,bQ,bN,be,bq];refine cO.new (be (l++(63::Lib.itoa v))) Ψ (kI _) (by simp[hd,be,ak,Pv.look]) (by simp only[be,bq];exact aA) (by simp only[be,bq];exact aA) ?_;simp[c8,om,ba,bg,aT,be,bq,ak,Pv.look,kin,kinL]
  |sym s=>
   clear aX;have b7:s≠[]:=UW (by simpa[T.ok]using dM);simp only[cM]at aD⊢;cases o with
   |none=>simp only[bQ,bN,be,kn]at az aD⊢;refine b3.mk mixed kF uP vf Ψ az.obj fun aG b2=>?_;unfold sQ;clear aG b2;simp[bq];(with_reducible repeat' first|refine av ?_|simp);refine CallDo.bd (o:=_) (j9 (none) (s) (by simp[r0,b7]) aD) (by simp only[bQ,bN,be,bq];exact aA) (by simp only[bQ,bN,be,bq];exact aA) (by simp[ak,Pv.look,bQ,bN,be,bq,kinL,kin]) Ψ ?_;simp[bc,bQ,bN,be,bq];refine cO.new (be ([]++(s))) Ψ (kI _) (by simp[hd,be,ak,Pv.look]) (by simp only[be,bq];exact aA) (by simp only[be,bq];exact aA) ?_;simp[c8,om,ba,bg,aT,be,bq,ak,Pv.look,kin,kinL]
   |some l=>simp only[bQ,bN,be,kn]at az aD⊢;refine b3.mk mixed kF uP vf Ψ az.obj fun aG b2=>?_;unfold sQ;clear aG b2;simp[bq];(with_reducible repeat' first|refine av ?_|simp);refine CallDo.bd (o:=_) (j9 (some l) (s) (by simp[r0,b7]) aD) (by simp only[bQ,bN,be,bq];exact aA) (by simp only[bQ,bN,be,bq];exact aA) (by simp[ak,Pv.look,bQ,bN,be,bq,kinL,kin]) Ψ ?_;simp[bc,bQ,bN,be,bq];refine cO.new (be (l++(s))) Ψ (kI _) (by simp[hd,be,ak,Pv.look]) (by simp only[be,bq];exact aA) (by simp only[be,bq];exact aA) ?_;simp[c8,om,ba,bg,aT,be,bq,ak,Pv.look,kin,kinL]
  |num v=>
   clear aX;have eX:aY v:=by simp[T.ok]at dM;unfold aY;omega
   have dp:=N4 v eX;simp only[cM]at aD⊢;cases o with
   |none=>simp only[bQ,bN,be,kn]at az aD⊢;refine b3.mk mixed kF uP vf Ψ az.obj fun aG b2=>?_;unfold sQ;clear aG b2;simp[bq];(with_reducible repeat' first|refine av ?_|refine aZ dp ?_|refine a1 dp ?_|simp);refine CallDo.bd (o:=_) (j9 (none) (Lib.itoa v) (by simp[r0,b7]) aD) (by simp only[bQ,bN,be,bq];exact aA) (by simp only[bQ,bN,be,bq];exact aA) (by simp[ak,Pv.look,bQ,bN,be,bq,kinL,kin]) Ψ ?_;simp[bc,bQ,bN,be,bq];refine cO.new (be ([]++(Lib.itoa v))) Ψ (kI _) (by simp[hd,be,ak,Pv.look]) (by simp only[be,bq];exact aA) (by simp only[be,bq];exact aA) ?_;simp[c8,om,ba,bg,aT,be,bq,ak,Pv.look,kin,kinL]
   |some l=>simp only[bQ,bN,be,kn]at az aD⊢;refine b3.mk mixed kF uP vf Ψ az.obj fun aG b2=>?_;unfold sQ;clear aG b2;simp[bq];(with_reducible repeat' first|refine av ?_|refine aZ dp ?_|refine a1 dp ?_|simp);refine CallDo.bd (o:=_) (j9 (some l) (Lib.itoa v) (by simp[r0,b7]) aD) (by simp only[bQ,bN,be,bq];exact aA) (by simp only[bQ,bN,be,bq];exact aA) (by simp[ak,Pv.look,bQ,bN,be,bq,kinL,kin]) Ψ ?_;simp[bc,bQ,bN,be,bq];refine cO.new (be (l++(Lib.itoa v))) Ψ (kI _) (by simp[hd,be,ak,Pv.look]) (by simp only[be,bq];exact aA) (by simp only[be,bq];exact aA) ?_;simp[c8,om,ba,bg,aT,be,bq,ak,Pv.look,kin,kinL]
  |pair a b=>
   simp only[T.size]at aM;simp only[T.ok,bJ]at dM;have Gy:=aX a Ω dM.1;have DA:(o.getD []).length+(1+((cM a).length+(fB b).length))<=aR:=by simpa[cM,Nat.add_comm 1]using aD
   simp only[cM]at aD⊢;obtain⟨Im,h1⟩:∃Im,Im=o.getD []++40::(cM a++fB b):=⟨_,rfl⟩;rw[<-h1]at aD⊢;have dz:=b.size_pos;cases o with
   |none=>
    have kw:=j9 none [40] Ψ (by unfold aR;simp);have tL:=Gy (some [40]) (by simp at DA⊢;omega);simp only[bQ,bN,be,kn]at az⊢;refine b3.mk mixed kF uP vf Ψ az.obj fun aG b2=>?_;unfold sQ;clear aG b2;simp[bq];(with_reducible repeat' first|refine av ?_|simp);refine CallDo.bd (o:=_) (kw) (by simp only[bQ,bN,be,bq];exact aA) (by simp only[bQ,bN,be,bq];exact aA) (by simp[ak,Pv.look,bQ,bN,be,bq,kinL,kin]) Ψ ?_;simp[bc,bQ,bN,be,bq];(with_reducible repeat' first|refine av ?_|simp);refine CallDo.bd (o:=_) (tL) (by simp only[bQ,bN,be,bq];exact aA) (by simp only[bQ,bN,be,bq];exact aA) (by simp[ak,Pv.look,bQ,bN,be,bq,kinL,kin]) Ψ ?_;simp[bc,bQ,bN,be,bq];(with_reducible repeat' first|refine av ?_|simp);refine hR (fun x:T×List aj=>oz x.2 x.1) (fun x=>x.1.size) (fun x=>x.1.ok=true/\x.1.size<=n/\x.2++fB x.1=Im) (b,[]++40::cM a) (by simp[oz,be,bq];exact⟨by simp[fresh,kinL,kin,bu,ak,Pv.look,lF],cG (by simp[fresh,kinL,kin,bu,ak,Pv.look,lF]),cI (by simp[fresh,kinL,kin,cw,ak,Pv.look,lF]),Ψ⟩) ⟨dM.2,(by show b.size<=n;omega),by rw[h1];simp⟩ ?_;rintro⟨u,acc⟩ ⟨pz,mW,DT⟩ A7;clear A7 kw tL Gy h1 DA;simp only at pz mW DT;subst DT;cases u with
    |pair x y=>
     simp only[T.size]at mW;simp only[T.ok,bJ]at pz;have fe:acc.length+(1+((cM x).length+(fB y).length))<=aR:=by simpa[fB,Nat.add_comm 1]using aD
     have kw:=j9 (some acc) [32] Ψ (by simp;omega);have eY:=aX x Ω pz.1 (some (acc++[32])) (by simp;omega);simp[oz,be,bq];(with_reducible repeat' first|refine av ?_|simp);refine CallDo.bd (o:=_) (kw) (by simp only[bQ,bN,be,bq];exact aA) (by simp only[bQ,bN,be,bq];exact aA) (by simp[ak,Pv.look,bQ,bN,be,bq,kinL,kin]) Ψ ?_;simp[bc,bQ,bN,be,bq];(with_reducible repeat' first|refine av ?_|simp);refine CallDo.bd (o:=_) (eY) (by simp only[bQ,bN,be,bq];exact aA) (by simp only[bQ,bN,be,bq];exact aA) (by simp[ak,Pv.look,bQ,bN,be,bq,kinL,kin]) Ψ ?_;simp[bc,bQ,bN,be,bq];(with_reducible repeat' first|refine av ?_|simp);refine b1.whl (y,acc++32::cM x) (by show y.size<1+x.size+y.size;omega) ⟨pz.2,(by show y.size<=n;omega),by simp[fB]⟩ ?_;simp[oz,be,bq];exact⟨by simp[fresh,kinL,kin,bu,ak,Pv.look,lF],cG (by simp[fresh,kinL,kin,bu,ak,Pv.look,lF]),cI (by simp[fresh,kinL,kin,cw,ak,Pv.look,lF]),Ψ⟩
    |nil=>have kw:=j9 (some acc) [41] Ψ (by simpa[fB]using aD);simp only[fB];simp[oz,be,bq];(with_reducible repeat' first|refine av ?_|simp);refine CallDo.bd (o:=_) (kw) (by simp only[bQ,bN,be,bq];exact aA) (by simp only[bQ,bN,be,bq];exact aA) (by simp[ak,Pv.look,bQ,bN,be,bq,kinL,kin]) Ψ ?_;simp[bc,bQ,bN,be,bq];refine cO.new (be (acc++[41])) Ψ (kI _) (by simp[hd,be,ak,Pv.look]) (by simp only[be,bq];exact aA) (by simp only[be,bq];exact aA) ?_;simp[c8,om,ba,bg,aT,be,bq,ak,Pv.look,kin,kinL]
    |var v=>
     have fe:acc.length+(3+((cM (T.var v)).length+1))<=aR:=by simp[fB,cM]at aD⊢;omega
     have kw:=j9 (some acc) [32,46,32] Ψ (by simp;omega);have eY:=aX (T.var v) mW pz (some (acc++[32,46,32])) (by simp;omega);have fP:=j9 (some (acc++[32,46,32]++cM (T.var v))) [41] Ψ (by simp;omega);have he:acc++fB (T.var v)=acc++[32,46,32]++cM (T.var v)++[41]:=by simp[fB,cM]
     rw[he];simp[oz,be,bq];(with_reducible repeat' first|refine av ?_|simp);refine CallDo.bd (o:=_) (kw) (by simp only[bQ,bN,be,bq];exact aA) (by simp only[bQ,bN,be,bq];exact aA) (by simp[ak,Pv.look,bQ,bN,be,bq,kinL,kin]) Ψ ?_;simp[bc,bQ,bN,be,bq];(with_reducible repeat' first|refine av ?_|simp);refine CallDo.bd (o:=_) (eY) (by simp only[bQ,bN,be,bq];exact aA) (by simp only[bQ,bN,be,bq];exact aA) (by simp[ak,Pv.look,bQ,bN,be,bq,kinL,kin]) Ψ ?_;simp[bc,bQ,bN,be,bq];(with_reducible repeat' first|refine av ?_|simp);refine CallDo.bd (o:=_) (fP) (by simp only[bQ,bN,be,bq];exact aA) (by simp only[bQ,bN,be,bq];exact aA) (by simp[ak,Pv.look,bQ,bN,be,bq,kinL,kin]) Ψ ?_;simp[bc,bQ,bN,be,bq];refine cO.new (be (acc++[32,46,32]++cM (T.var v)++[41])) Ψ (kI _) (by simp[hd,be,ak,Pv.look]) (by simp only[be,bq];exact aA) (by simp only[be,bq];exact aA) ?_;simp[c8,om,ba,bg,aT,be,bq,ak,Pv.look,kin,kinL]
    |sym v=>
     have fe:acc.length+(3+((cM (T.sym v)).length+1))<=aR:=by simp[fB,cM]at aD⊢;omega
     have kw:=j9 (some acc) [32,46,32] Ψ (by simp;omega);have eY:=aX (T.sym v) mW pz (some (acc++[32,46,32])) (by simp;omega);have fP:=j9 (some (acc++[32,46,32]++cM (T.sym v))) [41] Ψ (by simp;omega);have he:acc++fB (T.sym v)=acc++[32,46,32]++cM (T.sym v)++[41]:=by simp[fB,cM]
     rw[he];simp[oz,be,bq];(with_reducible repeat' first|refine av ?_|simp);refine CallDo.bd (o:=_) (kw) (by simp only[bQ,bN,be,bq];exact aA) (by simp only[bQ,bN,be,bq];exact aA) (by simp[ak,Pv.look,bQ,bN,be,bq,kinL,kin]) Ψ ?_;simp[bc,bQ,bN,be,bq];(with_reducible repeat' first|refine av ?_|simp);refine CallDo.bd (o:=_) (eY) (by simp only[bQ,bN,be,bq];exact aA) (by simp only[bQ,bN,be,bq];exact aA) (by simp[ak,Pv.look,bQ,bN,be,bq,kinL,kin]) Ψ ?_;simp[bc,bQ,bN,be,bq];(with_reducible repeat' first|refine av ?_|simp);refine CallDo.bd (o:=_) (fP) (by simp only[bQ,bN,be,bq];exact aA) (by simp only[bQ,bN,be,bq];exact aA) (by simp[ak,Pv.look,bQ,bN,be,bq,kinL,kin]) Ψ ?_;simp[bc,bQ,bN,be,bq];refine cO.new (be (acc++[32,46,32]++cM (T.sym v)++[41])) Ψ (kI _) (by simp[hd,be,ak,Pv.look]) (by simp only[be,bq];exact aA) (by simp only[be,bq];exact aA) ?_;simp[c8,om,ba,bg,aT,be,bq,ak,Pv.look,kin,kinL]
    |num v=>
     have fe:acc.length+(3+((cM (T.num v)).length+1))<=aR:=by simp[fB,cM]at aD⊢;omega
     have kw:=j9 (some acc) [32,46,32] Ψ (by simp;omega);have eY:=aX (T.num v) mW pz (some (acc++[32,46,32])) (by simp;omega);have fP:=j9 (some (acc++[32,46,32]++cM (T.num v))) [41] Ψ (by simp;omega);have he:acc++fB (T.num v)=acc++[32,46,32]++cM (T.num v)++[41]:=by simp[fB,cM]
     rw[he];simp[oz,be,bq];(with_reducible repeat' first|refine av ?_|simp);refine CallDo.bd (o:=_) (kw) (by simp only[bQ,bN,be,bq];exact aA) (by simp only[bQ,bN,be,bq];exact aA) (by simp[ak,Pv.look,bQ,bN,be,bq,kinL,kin]) Ψ ?_;simp[bc,bQ,bN,be,bq];(with_reducible repeat' first|refine av ?_|simp);refine CallDo.bd (o:=_) (eY) (by simp only[bQ,bN,be,bq];exact aA) (by simp only[bQ,bN,be,bq];exact aA) (by simp[ak,Pv.look,bQ,bN,be,bq,kinL,kin]) Ψ ?_;simp[bc,bQ,bN,be,bq];(with_reducible repeat' first|refine av ?_|simp);refine CallDo.bd (o:=_) (fP) (by simp only[bQ,bN,be,bq];exact aA) (by simp only[bQ,bN,be,bq];exact aA) (by simp[ak,Pv.look,bQ,bN,be,bq,kinL,kin]) Ψ ?_;simp[bc,bQ,bN,be,bq];refine cO.new (be (acc++[32,46,32]++cM (T.num v)++[41])) Ψ (kI _) (by simp[hd,be,ak,Pv.look]) (by simp only[be,bq];exact aA) (by simp only[be,bq];exact aA) ?_;simp[c8,om,ba,bg,aT,be,bq,ak,Pv.look,kin,kinL]
   |some l=>
    have kw:=j9 (some l) [40] Ψ (by simp at DA⊢;omega);have tL:=Gy (some (l++[40])) (by simp at DA⊢;omega);simp only[bQ,bN,be,kn]at az⊢;refine b3.mk mixed kF uP vf Ψ az.obj fun aG b2=>?_;unfold sQ;clear aG b2;simp[bq];(with_reducible repeat' first|refine av ?_|simp);refine CallDo.bd (o:=_) (kw) (by simp only[bQ,bN,be,bq];exact aA) (by simp only[bQ,bN,be,bq];exact aA) (by simp[ak,Pv.look,bQ,bN,be,bq,kinL,kin]) Ψ ?_;simp[bc,bQ,bN,be,bq];(with_reducible repeat' first|refine av ?_|simp);refine CallDo.bd (o:=_) (tL) (by simp only[bQ,bN,be,bq];exact aA) (by simp only[bQ,bN,be,bq];exact aA) (by simp[ak,Pv.look,bQ,bN,be,bq,kinL,kin]) Ψ ?_;simp[bc,bQ,bN,be,bq];(with_reducible repeat' first|refine av ?_|simp);refine hR (fun x:T×List aj=>oz x.2 x.1) (fun x=>x.1.size) (fun x=>x.1.ok=true/\x.1.size<=n/\x.2++fB x.1=Im) (b,l++40::cM a) (by simp[oz,be,bq];exact⟨by simp[fresh,kinL,kin,bu,ak,Pv.look,lF],cG (by simp[fresh,kinL,kin,bu,ak,Pv.look,lF]),cI (by simp[fresh,kinL,kin,cw,ak,Pv.look,lF]),Ψ⟩) ⟨dM.2,(by show b.size<=n;omega),by rw[h1];simp⟩ ?_;rintro⟨u,acc⟩ ⟨pz,mW,DT⟩ A7;clear A7 kw tL Gy h1 DA;simp only at pz mW DT;subst DT;cases u with
    |pair x y=>
     simp only[T.size]at mW;simp only[T.ok,bJ]at pz;have fe:acc.length+(1+((cM x).length+(fB y).length))<=aR:=by simpa[fB,Nat.add_comm 1]using aD
     have kw:=j9 (some acc) [32] Ψ (by simp;omega);have eY:=aX x Ω pz.1 (some (acc++[32])) (by simp;omega);simp[oz,be,bq];(with_reducible repeat' first|refine av ?_|simp);refine CallDo.bd (o:=_) (kw) (by simp only[bQ,bN,be,bq];exact aA) (by simp only[bQ,bN,be,bq];exact aA) (by simp[ak,Pv.look,bQ,bN,be,bq,kinL,kin]) Ψ ?_;simp[bc,bQ,bN,be,bq];(with_reducible repeat' first|refine av ?_|simp);refine CallDo.bd (o:=_) (eY) (by simp only[bQ,bN,be,bq];exact aA) (by simp only[bQ,bN,be,bq];exact aA) (by simp[ak,Pv.look,bQ,bN,be,bq,kinL,kin]) Ψ ?_;simp[bc,bQ,bN,be,bq];(with_reducible repeat' first|refine av ?_|simp);refine b1.whl (y,acc++32::cM x) (by show y.size<1+x.size+y.size;omega) ⟨pz.2,(by show y.size<=n;omega),by simp[fB]⟩ ?_;simp[oz,be,bq];exact⟨by simp[fresh,kinL,kin,bu,ak,Pv.look,lF],cG (by simp[fresh,kinL,kin,bu,ak,Pv.look,lF]),cI (by simp[fresh,kinL,kin,cw,ak,Pv.look,lF]),Ψ⟩
    |nil=>have kw:=j9 (some acc) [41] Ψ (by simpa[fB]using aD);simp only[fB];simp[oz,be,bq];(with_reducible repeat' first|refine av ?_|simp);refine CallDo.bd (o:=_) (kw) (by simp only[bQ,bN,be,bq];exact aA) (by simp only[bQ,bN,be,bq];exact aA) (by simp[ak,Pv.look,bQ,bN,be,bq,kinL,kin]) Ψ ?_;simp[bc,bQ,bN,be,bq];refine cO.new (be (acc++[41])) Ψ (kI _) (by simp[hd,be,ak,Pv.look]) (by simp only[be,bq];exact aA) (by simp only[be,bq];exact aA) ?_;simp[c8,om,ba,bg,aT,be,bq,ak,Pv.look,kin,kinL]
    |var v=>
     have fe:acc.length+(3+((cM (T.var v)).length+1))<=aR:=by simp[fB,cM]at aD⊢;omega
     have kw:=j9 (some acc) [32,46,32] Ψ (by simp;omega);have eY:=aX (T.var v) mW pz (some (acc++[32,46,32])) (by simp;omega);have fP:=j9 (some (acc++[32,46,32]++cM (T.var v))) [41] Ψ (by simp;omega);have he:acc++fB (T.var v)=acc++[32,46,32]++cM (T.var v)++[41]:=by simp[fB,cM]
     rw[he];simp[oz,be,bq];(with_reducible repeat' first|refine av ?_|simp);refine CallDo.bd (o:=_) (kw) (by simp only[bQ,bN,be,bq];exact aA) (by simp only[bQ,bN,be,bq];exact aA) (by simp[ak,Pv.look,bQ,bN,be,bq,kinL,kin]) Ψ ?_;simp[bc,bQ,bN,be,bq];(with_reducible repeat' first|refine av ?_|simp);refine CallDo.bd (o:=_) (eY) (by simp only[bQ,bN,be,bq];exact aA) (by simp only[bQ,bN,be,bq];exact aA) (by simp[ak,Pv.look,bQ,bN,be,bq,kinL,kin]) Ψ ?_;simp[bc,bQ,bN,be,bq];(with_reducible repeat' first|refine av ?_|simp);refine CallDo.bd (o:=_) (fP) (by simp only[bQ,bN,be,bq];exact aA) (by simp only[bQ,bN,be,bq];exact aA) (by simp[ak,Pv.look,bQ,bN,be,bq,kinL,kin]) Ψ ?_;simp[bc,bQ,bN,be,bq];refine cO.new (be (acc++[32,46,32]++cM (T.var v)++[41])) Ψ (kI _) (by simp[hd,be,ak,Pv.look]) (by simp only[be,bq];exact aA) (by simp only[be,bq];exact aA) ?_;simp[c8,om,ba,bg,aT,be,bq,ak,Pv.look,kin,kinL]
    |sym v=>
     have fe:acc.length+(3+((cM (T.sym v)).length+1))<=aR:=by simp[fB,cM]at aD⊢;omega
     have kw:=j9 (some acc) [32,46,32] Ψ (by simp;omega);have eY:=aX (T.sym v) mW pz (some (acc++[32,46,32])) (by simp;omega);have fP:=j9 (some (acc++[32,46,32]++cM (T.sym v))) [41] Ψ (by simp;omega);have he:acc++fB (T.sym v)=acc++[32,46,32]++cM (T.sym v)++[41]:=by simp[fB,cM]
     rw[he];simp[oz,be,bq];(with_reducible repeat' first|refine av ?_|simp);refine CallDo.bd (o:=_) (kw) (by simp only[bQ,bN,be,bq];exact aA) (by simp only[bQ,bN,be,bq];exact aA) (by simp[ak,Pv.look,bQ,bN,be,bq,kinL,kin]) Ψ ?_;simp[bc,bQ,bN,be,bq];(with_reducible repeat' first|refine av ?_|simp);refine CallDo.bd (o:=_) (eY) (by simp only[bQ,bN,be,bq];exact aA) (by simp only[bQ,bN,be,bq];exact aA) (by simp[ak,Pv.look,bQ,bN,be,bq,kinL,kin]) Ψ ?_;simp[bc,bQ,bN,be,bq];(with_reducible repeat' first|refine av ?_|simp);refine CallDo.bd (o:=_) (fP) (by simp only[bQ,bN,be,bq];exact aA) (by simp only[bQ,bN,be,bq];exact aA) (by simp[ak,Pv.look,bQ,bN,be,bq,kinL,kin]) Ψ ?_;simp[bc,bQ,bN,be,bq];refine cO.new (be (acc++[32,46,32]++cM (T.sym v)++[41])) Ψ (kI _) (by simp[hd,be,ak,Pv.look]) (by simp only[be,bq];exact aA) (by simp only[be,bq];exact aA) ?_;simp[c8,om,ba,bg,aT,be,bq,ak,Pv.look,kin,kinL]
    |num v=>
     have fe:acc.length+(3+((cM (T.num v)).length+1))<=aR:=by simp[fB,cM]at aD⊢;omega
     have kw:=j9 (some acc) [32,46,32] Ψ (by simp;omega);have eY:=aX (T.num v) mW pz (some (acc++[32,46,32])) (by simp;omega);have fP:=j9 (some (acc++[32,46,32]++cM (T.num v))) [41] Ψ (by simp;omega);have he:acc++fB (T.num v)=acc++[32,46,32]++cM (T.num v)++[41]:=by simp[fB,cM]
     rw[he];simp[oz,be,bq];(with_reducible repeat' first|refine av ?_|simp);refine CallDo.bd (o:=_) (kw) (by simp only[bQ,bN,be,bq];exact aA) (by simp only[bQ,bN,be,bq];exact aA) (by simp[ak,Pv.look,bQ,bN,be,bq,kinL,kin]) Ψ ?_;simp[bc,bQ,bN,be,bq];(with_reducible repeat' first|refine av ?_|simp);refine CallDo.bd (o:=_) (eY) (by simp only[bQ,bN,be,bq];exact aA) (by simp only[bQ,bN,be,bq];exact aA) (by simp[ak,Pv.look,bQ,bN,be,bq,kinL,kin]) Ψ ?_;simp[bc,bQ,bN,be,bq];(with_reducible repeat' first|refine av ?_|simp);refine CallDo.bd (o:=_) (fP) (by simp only[bQ,bN,be,bq];exact aA) (by simp only[bQ,bN,be,bq];exact aA) (by simp[ak,Pv.look,bQ,bN,be,bq,kinL,kin]) Ψ ?_;simp[bc,bQ,bN,be,bq];refine cO.new (be (acc++[32,46,32]++cM (T.num v)++[41])) Ψ (kI _) (by simp[hd,be,ak,Pv.look]) (by simp only[be,bq];exact aA) (by simp only[be,bq];exact aA) ?_;simp[c8,om,ba,bg,aT,be,bq,ak,Pv.look,kin,kinL]
end
end Go.Proofs.YtlnndmgfngfeiaaGreatDoor
namespace Go.Pv
section
open Go Go.Lib
def qV(k:Int)(s:List aj):List aj:=if k=9 then s else jV k
theorem Wo{s:List aj}(h:gG s=true):gb s=true:=by unfold gG at h;simp only[bJ]at h;exact h.2
theorem ajD{k:Int}{s:List aj}{t:List Tm}{g:List Gm}(h:(Gm.mk k s t g).shape=true):
  (∀x∈t,x.fits=true)/\vo g=true/\((k=0\/k=1)/\s=[]/\t=[]/\g=[]\/(2<=k/\k<=6)/\s=[]/\g=[]\/k=9/\gG s=true/\g=[]\/(k=7\/k=8\/k=10)/\s=[]/\t=[]):=by
 simp only[Gm.shape,bJ]at h;obtain⟨I,J⟩:=h;refine⟨fun x af=>ji.1 I x af,?_⟩;split at J
 ·rename_i ab;simp only[bJ,eA,List.isEmpty_iff,fs]at J;obtain⟨⟨⟨rfl,rfl⟩,au⟩,_⟩:=J;refine⟨rfl,?_⟩;by_cases gj:k=0\/k=1
  ·refine .inl ⟨gj,rfl,?_,rfl⟩;rcases gj with rfl|rfl<;>simpa[l2]using au
  ·exact .inr (.inl ⟨Ω,rfl,rfl⟩)
 ·split at J
  ·rename_i _ ab;simp only[bJ,List.isEmpty_iff]at J;obtain⟨⟨au,rfl⟩,_⟩:=J;exact⟨rfl,.inr (.inr (.inl ⟨ab,au,rfl⟩))⟩
  ·split at J
   ·rename_i _ _ ab;simp only[bJ,List.isEmpty_iff,eA]at J;obtain⟨⟨⟨rfl,rfl⟩,_⟩,au⟩:=J;exact⟨au,.inr (.inr (.inr ⟨Ω,rfl,rfl⟩))⟩
   ·split at J
    ·rename_i _ _ _ ab;simp only[bJ,List.isEmpty_iff,eA]at J;obtain⟨⟨⟨rfl,rfl⟩,_⟩,au⟩:=J;exact⟨au,.inr (.inr (.inr ⟨Ω,rfl,rfl⟩))⟩
    ·cases J
def qy(n:Int):List aj:=63::itoa n
def Ap(ns:List (List aj))(w:List aj):List (List aj):=if w∈ns then ns else ns++[w]
theorem YN(ns:List (List aj))(w:List aj):ns<+:Ap ns w:=by
 unfold Ap;split
 ·exact List.prefix_refl _
 ·exact List.prefix_append _ _
def Ao:T->List (List aj)->List (List aj)
 | .var n,ns=>Ap ns (qy n)
 | .pair a b,ns=>Ao b (Ao a ns)
 |_,ns=>ns
theorem IJ:∀(t:T) (ns:List (List aj)),ns<+:Ao t ns
 | .nil,ns=>List.prefix_refl _
 | .num _,ns=>List.prefix_refl _
 | .sym _,ns=>List.prefix_refl _
 | .var n,ns=>YN ns _
 | .pair a b,ns=>(IJ a ns).trans (IJ b _)
def M6(ms:List (List aj)):T->T
 | .var n=>.var (ms.idxOf (qy n))
 | .pair a b=>.pair (M6 ms a) (M6 ms b)
 |t=>t
open Classical in
noncomputable def CE(t:Tm)(ns:List (List aj)):List (List aj):=if h:∃x:T,x.tm=t then Ao (Classical.choose h) ns else ns
open Classical in
noncomputable def ai5(ms:List (List aj))(t:Tm):Tm:=if h:∃x:T,x.tm=t then(M6 ms (Classical.choose h)).tm else t
theorem YM(x:T)(ns:List (List aj)):CE x.tm ns=Ao x ns:=by have h:∃y:T,y.tm=x.tm:=⟨x,rfl⟩;unfold CE;rw[dif_pos h,XD (Classical.choose_spec h)]
theorem YL(t:Tm)(ns:List (List aj)):ns<+:CE t ns:=by
 unfold CE;split
 ·exact IJ _ _
 ·exact List.prefix_refl _
noncomputable def CF:List Tm->List (List aj)->List (List aj)
 |[],ns=>ns
 |x::xs,ns=>CF xs (CE x ns)
theorem OW:∀(t:List Tm) (ns:List (List aj)),ns<+:CF t ns
 |[],ns=>List.prefix_refl _
 |x::xs,ns=>(YL x ns).trans (OW xs _)
mutual
noncomputable def Am:Gm->List (List aj)->List (List aj)
 | .mk _ _ t g,ns=>xk g (CF t ns)
noncomputable def xk:List Gm->List (List aj)->List (List aj)
 |[],ns=>ns
 |x::xs,ns=>xk xs (Am x ns)
end
mutual
noncomputable def Wr(ms:List (List aj)):Gm->Gm
 | .mk k s t g=>.mk k s (t.map (ai5 ms)) (Ws ms g)
noncomputable def Ws(ms:List (List aj)):List Gm->List Gm
 |[]=>[]
 |x::xs=>Wr ms x::Ws ms xs
end
mutual
theorem OU:∀(g:Gm) (ns:List (List aj)),ns<+:Am g ns
 | .mk _ _ t g,ns=>by rw[Am];exact(OW t ns).trans (OS g _)
theorem OS:∀(g:List Gm) (ns:List (List aj)),ns<+:xk g ns
 |[],ns=>by rw[xk];exact List.prefix_refl _
 |x::xs,ns=>by rw[xk];exact(OU x ns).trans (OS xs _)
end
def h6:Nat->Nat->List (List aj)
 |_,0=>[]
 |k,n+1=>qy k::h6 (k+1) n
theorem HF:∀(n k:Nat),h6 k (n+1)=h6 k n++[qy ((k+n:Nat):Int)]
 |0,k=>by simp[h6]
 |n+1,k=>by rw[h6,HF n (k+1),h6];simp only[dF];rw[show k+1+n=k+(n+1)from by omega]
theorem MJ:∀(n k:Nat),(h6 k n).length=n
 |0,_=>rfl
 |n+1,k=>by simp[h6,MJ n]
theorem VK:∀(n k:Nat) (w:List aj),w∈h6 k n->∃i,k<=i/\i<k+n/\w=qy (i:Nat)
 |0,_,_,h=>by simp[h6]at h
 |n+1,k,w,h=>by
  simp only[h6,gy]at h;rcases h with rfl|h
  ·exact⟨k,cc _,Ω,rfl⟩
  ·obtain⟨i,I,J,au⟩:=VK n (k+1) w h;exact⟨i,Ω,Ω,au⟩
theorem alj{k:Nat}(h:k<=100000):qy (k:Int)∉h6 0 k:=by intro hm;obtain⟨i,_,I,J⟩:=VK k 0 _ hm;unfold qy at J;simp only[sH,true_and]at J;have:=afE (by unfold aY;omega) (by unfold aY;omega) J;omega
noncomputable def Ca(a:Nat)(body:Gm):List (List aj):=Am body (h6 0 a)
noncomputable def Rl.num(x:Rl):Rl:=⟨x.name,x.ar,(Ca x.ar.toNat x.body).length-x.ar,Wr (Ca x.ar.toNat x.body) x.body⟩
noncomputable def xw(x:Rl):List aj:=[40]++iA++[32,40]++fl [32] (x.name::h6 0 x.ar.toNat)++[41,32]++fH x.body++[41,10]
noncomputable def jC:List Rl->List aj
 |[]=>[]
 |x::xs=>xw x++jC xs
theorem VJ:∀(n k i:Nat),k<=i->i<k+n->qy (i:Int)∈h6 k n
 |0,_,_,_,_=>Ω
 |n+1,k,i,I,J=>by
  rw[h6];by_cases e:i=k
  ·subst e;simp
  ·exact List.mem_cons_of_mem _ (VJ n (k+1) i Ω Ω)
theorem aia{ns ms:List (List aj)}(h:ns<+:ms):ns.length<=ms.length:=h.length_le
theorem UY{α:Type}[DecidableEq α]:∀(l m:List α),l.Nodup->(∀x∈l,x∈m)->l.length<=m.length
 |[],_,_,_=>by simp
 |x::l,m,h,hm=>by
  rw[List.nodup_cons]at h;have I:=UY l (m.erase x) h.2 fun y bG=>by have b7:y≠x:=fun e=>h.1 (e▸bG);rw[List.mem_erase_of_ne b7];exact hm y (by simp[bG])
  rw[List.length_erase_of_mem (hm x Ψ)]at I;have:0<m.length:=List.length_pos_of_mem (hm x Ψ);simp only[gg];omega
def sk(b:Int)(ns:List (List aj)):Prop:=ns.Nodup/\∀w∈ns,∃v:Int,w=qy v/\0<=v/\v<b
theorem OZ{b:Int}{ns:List (List aj)}(h:sk b ns){v:Int}(bz:0<=v)(I:v<b):sk b (Ap ns (qy v)):=by
 unfold Ap;split
 ·exact h
 ·rename_i aM;refine⟨?_,fun w hw=>?_⟩
  ·rw[qC];refine⟨h.1,Ψ,fun a bL c aH e=>?_⟩;rw[List.mem_singleton]at aH;subst aH;subst e;exact aM bL
  ·rcases hl.1 hw with hw|hw
   ·exact h.2 w hw
   ·exact⟨v,List.mem_singleton.1 hw,bz,I⟩
theorem IK{b:Int}:∀(t:T) (ns:List (List aj)),t.ok=true->(∀v∈t.tm.vs,v<b)->sk b ns->sk b (Ao t ns)
 | .nil,_,_,_,h=>h
 | .sym _,_,_,_,h=>h
 | .num _,_,_,_,h=>h
 | .var n,ns,aq,aN,h=>by simp only[T.ok,fs]at aq;exact OZ h aq.1 (aN n (by simp[T.tm,Tm.vs]))
 | .pair x y,ns,aq,aN,h=>by simp only[T.ok,bJ]at aq;simp only[T.tm,Tm.vs,Tm.vsL,List.append_nil,hl]at aN;exact IK y _ aq.2 (fun v h=>aN v (by simp[h])) (IK x ns aq.1 (fun v h=>aN v (by simp[h])) h)
theorem OX{b:Int}:∀(t:List Tm) (ns:List (List aj)),(∀x∈t,x.fits=true)->(∀v∈Tm.vsL t,v<b)->sk b ns->sk b (CF t ns)
 |[],_,_,_,h=>h
 |x::t,ns,af,aN,h=>by obtain⟨y,rfl,bG⟩:=Tm.fits_ex (af x Ψ);simp only[Tm.vsL,hl]at aN;simp only[CF,YM];exact OX t _ (fun z cK=>af z (by simp[cK])) (fun v h=>aN v (.inr h)) (IK y ns (uR bG) (fun v h=>aN v (.inl h)) h)
mutual
theorem OV{b:Int}:∀(g:Gm) (ns:List (List aj)),g.shape=true->(∀v∈g.vs,v<b)->sk b ns->sk b (Am g ns)
 | .mk k s t g,ns,aS,aN,h=>by obtain⟨I,J,_⟩:=ajD aS;simp only[Gm.vs,hl]at aN;rw[Am];exact OT g _ J (fun v h=>aN v (.inr h)) (OX t ns I (fun v h=>aN v (.inl h)) h)
theorem OT{b:Int}:∀(g:List Gm) (ns:List (List aj)),vo g=true->(∀v∈Gm.vsL g,v<b)->sk b ns->sk b (xk g ns)
 |[],ns,_,_,h=>by rw[xk];exact h
 |x::g,ns,aS,aN,h=>by simp only[vo,bJ]at aS;simp only[Gm.vsL,hl]at aN;rw[xk];exact OT g _ aS.2 (fun v h=>aN v (.inr h)) (OV x ns aS.1 (fun v h=>aN v (.inl h)) h)
end
theorem VL{b:Int}:∀a:Nat,(a:Int)<=b->a<=100000->sk b (h6 0 a)
 |0,_,_=>⟨by simp[h6],by simp[h6]⟩
 |a+1,h,aD=>by have:=OZ (b:=b) (VL a Ω Ω) (v:=(a:Int)) Ω Ω;unfold Ap at this;rw[br (alj Ω)]at this;rw[HF,Nat.zero_add];exact this
theorem aj9{b:Int}{ns:List (List aj)}(h:sk b ns)(bz:0<=b):(ns.length:Int)<=b:=by
 have:=UY ns (h6 0 b.toNat) h.1 fun w hw=>by obtain⟨v,rfl,I,J⟩:=h.2 w hw;have:=VJ b.toNat 0 v.toNat Ω Ω;rwa[show((v.toNat:Nat):Int)=v from by omega]at this
 rw[MJ]at this;omega
theorem aj8{x:Rl}(h:x.body.shape=true)(bL:0<=x.ar/\x.ar<=4)(aD:0<=x.loc)(aN:∀v∈x.body.vs,v<x.ar+x.loc):x.ar<=(Ca x.ar.toNat x.body).length/\((Ca x.ar.toNat x.body).length:Int)<=x.ar+x.loc:=by refine⟨?_,aj9 (OV x.body _ h aN (VL _ Ω Ω)) Ω⟩;have:=aia (OU x.body (h6 0 x.ar.toNat));rw[MJ]at this;unfold Ca;omega
theorem Ei{P:List Rl}(h:iU P=true){x:Rl}(af:x∈P):gG x.name=true/\(0<=x.ar/\x.ar<=4)/\x.body.shape=true/\(Ca x.ar.toNat x.body).length<=100000:=by simp only[iU,bJ,ji]at h;have h:=h.2 x af;simp only[Rl.ok,Gm.fits,bJ,ji,fs]at h;obtain⟨⟨⟨⟨⟨I,J⟩,au⟩,aP,bA⟩,cy⟩,eu⟩:=h;have aD:=aj8 aP J au.1 cy;exact⟨I,J,aP,Ω⟩
end
section
open Go
def T.ap(vA:Int->T):T->T
 | .var n=>vA n
 | .pair a b=>.pair (a.ap vA) (b.ap vA)
 |t=>t
def ajx(s:List j4)(v:Int):T:=(Y1 s v).getD (.var v)
abbrev OB(s:List j4):Prop:=s.Pairwise fun x y=>x.v<y.v
def one(v:Int)(x:T)(w:Int):T:=if w=v then x else .var w
def EY{α:Type}(k:Int):List (Int×α)->aW α
 |[]=>none
 |(i,v)::r=>if k=i then some v else EY k r
def XG{α:Type}(k:Int)(v:α):List (Int×α)->List (Int×α)
 |[]=>[(k,v)]
 |(i,w)::r=>if k=i then(i,v)::r else(i,w)::XG k v r
def LI{α:Type}(m:List (Int×α)):List Int:=m.map (·.1)
structure oY where
 up:List (Int×Int)
 shape:List (Int×T)
 shaped:List (Int×Bool)
 color:List (Int×Int)
 size:List (Int×Int)
 full:List (Int×T)
def oY.shd(c:oY)(x:Int):Bool:=(EY x c.shaped).getD false
def oY.shp(c:oY)(x:Int):T:=(EY x c.shape).getD .nil
def oY.sz(c:oY)(x:Int):Int:=(EY x c.size).getD 0
def oY.join(c:oY)(x y:Int):oY:={c with up:=XG y x c.up}
structure YG (m:List (Int×Int)) (ik:Int->Int):Prop where
 up:∀v u,EY v m=some u->(0<=u/\u<=v/\u∈LI m)/\ik u=ik v/\(ik v=v↔u=v)
 no:∀v,v∉LI m->ik v=v
def oY.ph(c:oY)(x:Int):aW T:=if c.shd x then some (c.shp x)else none
def YI(ph:Int->aW T)(ik:Int->Int)(vA:Int->T):Prop:=(∀v,vA v=vA (ik v))/\∀x t,ik x=x->ph x=some t->vA x=t.ap vA
def YH(V:List Int)(ph:Int->aW T):Prop:= ∀x t,ph x=some t->t.kind≠1/\(∀w,t.occ w=true->w∈V)/\x∈V
end
section
open Go
section
variable {ph:Int->aW T} {ik:Int->Int} {r:Int->Nat}
end
structure qF (c:oY) (ik:Int->Int):Prop where
 ru:YG c.up ik
 sh:YH (LI c.up) c.ph
 sat:∃vA,YI c.ph ik vA
section
variable {c:oY} {ik:Int->Int} {x y:Int}
end
end
section
open Go
def cut(n:Nat):Int:=if 5001<(n:Int)then 5001 else n
section
variable {V:List Int} {ph:Int->aW T} {ik:Int->Int} {r:Int->Nat}
end
end
section
open Go
def oY.new:oY:=⟨[],[],[],[],[],[]⟩
section
variable {V:List Int} {ph:Int->aW T} {ik:Int->Int} {r:Int->Nat}
end
end
section
open Go
end
section
open Go Go.Lib
theorem Ef{s:List aj}(h:gb s=true):s.length<=12:=by obtain⟨c,r,rfl,_,_,au⟩:=BC h;simp;omega
mutual
theorem FZ:∀t:T,t.ok=true->(cM t).length<=26*t.size
 | .nil,_=>by simp[cM,T.size]
 | .var n,h=>by simp only[T.ok,fs]at h;have:=itoa_length_le n Ω Ω;simp only[cM,T.size,gg];omega
 | .sym s,h=>by have:=Ef (s:=s) (by simpa[T.ok]using h);simp only[cM,T.size];omega
 | .num n,h=>by simp only[T.ok,fs]at h;have:=itoa_length_le n Ω Ω;simp only[cM,T.size];omega
 | .pair a b,h=>by simp only[T.ok,bJ]at h;have I:=FZ a h.1;have J:=Q8 b h.2;simp only[cM,T.size,gg,gx];omega
theorem Q8:∀t:T,t.ok=true->(fB t).length<=26*t.size
 | .nil,_=>by simp[fB,T.size]
 | .var n,h=>by simp only[T.ok,fs]at h;have:=itoa_length_le n Ω Ω;simp only[fB,T.size,gg,gx,mJ];omega
 | .sym s,h=>by have:=Ef (s:=s) (by simpa[T.ok]using h);simp only[fB,T.size,gg,gx,mJ];omega
 | .num n,h=>by simp only[T.ok,fs]at h;have:=itoa_length_le n Ω Ω;simp only[fB,T.size,gg,gx,mJ];omega
 | .pair a b,h=>by simp only[T.ok,bJ]at h;have I:=FZ a h.1;have J:=Q8 b h.2;simp only[fB,T.size,gg,gx];omega
end
structure OD (s t:List j4):Prop where
 sa:OB s
 sv:∀b∈s,4<=b.v/\b.v<8
 so:∀b∈s,b.t.ok=true/\b.t.size<=16/\∀w,b.t.occ w=true->0<=w/\w<4
 ta:OB t
 tk:∃k:Int,∀b∈t,0<=b.v/\b.v<4/\k<=b.v/\∀w,b.t.occ w=true->0<=w/\w<k
 to:∀b∈t,b.t.ok=true/\b.t.size<=16
def IM(t:List j4)(b:j4):j4:=⟨b.v,b.t.ap (ajx t)⟩
section
variable {s t:List j4} (h:OD s t)
include h
end
section
variable {s t:List j4} (h:OD s t)
include h
end
end
end Go.Pv
namespace Go.Proofs.YtlnndmgfngfeiaaGreatDoor
section
open Go Go.Pv
theorem abp(t:T)(h:t.ok=true):cM t≠[]:=by
 cases t with
 |sym s=>simp only[cM];exact UW (by simpa[T.ok]using h)
 |num n=>simp only[cM];exact r0 n
 |_=>simp[cM]
theorem Q7{t:T}(h:t.fit=true):(cM t).length<=aR:=by
 have I:=FZ t (uR h);have J:t.size<=5000:=by unfold T.fit at h;simp at h;exact h.2
 unfold aR;omega
theorem XU(t:T)(h:t.fit=true):bW aF 85 [t.e] (.str (cM t)):=by have h1:=N7 t;rw[h]at h1;have kw:=ac5 t.size t (cc _) (uR h) none (by simpa using Q7 h);have b7:=abp t (uR h);refine bI kF abt ag6 fun aG=>?_;unfold Pl;simp;((with_reducible repeat' first|refine av ?_|refine aZ h1 ?_|refine a1 h1 ?_|simp|((first|apply dt|apply dx|apply dw)<;>intro h<;>try simp at h))<;>(try exact dQ));refine CallDo.bd (o:=none) kw (by simp only[bQ,bN,be,bq];exact aA) (by simp only[bQ,bN,be,bq];exact aA) (by simp[ak,Pv.look,bQ,bN,be,bq,kinL,kin]) Ψ ?_;simp[bc,bQ,bN,be,bq];refine agS (cM t) b7 (by simp[bq,Pv.look]) (by simp[Pv.look]) ?_;simp;simp[cn,VN,ba,bg,aT]
theorem aj5{t:Tm}(h:t.fits=true):(gw t).length<=aR:=by obtain⟨x,rfl,af⟩:=Tm.fits_ex h;rw[Ij];exact Q7 af
theorem XT(t:Tm)(h:t.fits=true):bW aF 85 [enc t] (.str (gw t)):=by obtain⟨x,rfl,af⟩:=Tm.fits_ex h;rw[Ij,sX];exact XU x af
theorem Pd:∀l:List aj,pZ (gL l)=some l
 |[]=>rfl
 |c::l=>by have:=Pd l;simp only[gL,fF,pZ]at this⊢;rw[this];simp
def b6(l:List (List aj)):List ae:=l.map ae.str
@[simp]theorem eo(S:aC->Prop)(l:List (List aj)):kinL S (b6 l)=True:=by
 apply eq_true;induction l with
 |nil=>simp[b6,kinL]
 |cons x r aX=>simp only[b6,fF,kinL,kin]at aX⊢;exact⟨trivial,aX⟩
@[simp]theorem apR(l:List (List aj)):bC (b6 l)=b6 l:=by
 induction l with
 |nil=>rfl
 |cons x r aX=>simp only[b6,fF,bC,bD]at aX⊢;rw[aX]
@[simp]theorem ap3(l:List (List aj)):(b6 l).length=l.length:=by simp[b6]
theorem l8{l:List (List aj)}{i:Nat}(h:i<l.length):∀cu,(b6 l)[i]'cu= .str l[i]:=fun _=>by simp[b6]
theorem cv(S:aC->Prop):∀a b:List ae,kinL S (a++b)=(kinL S a/\kinL S b)
 |[],b=>by simp[kinL]
 |x::a,b=>by simp only[dF,kinL,cv S a b,and_assoc]
theorem LB(b:List aj):∀(l:List (List aj)) (k:Nat),(fl b (l.take k)).length<=(fl b l).length
 |[],k=>by simp
 |[x],k=>by cases k<;>simp[fl]
 |x::y::r,0=>by simp[fl]
 |x::y::r,1=>by simp[fl]
 |x::y::r,k+2=>by have:=LB b (y::r) (k+1);simp only[sK,fl,gx]at this⊢;omega
theorem N6(l:List (List aj))(b:List aj)(aD:(fl b l).length<=aR):bW aF 87 [.slice 1 .no (b6 l),.str b] (.str (fl b l)):=by
 refine bI kF abv ag8 fun aG=>?_;unfold Pn;have ah:l.length<=aR/\b.length<=aR:=by simpa[gr,gz,gu]using aG
 clear aG;simp;((with_reducible repeat' first|refine av ?_|simp|((first|apply dt|apply dx|apply dw)<;>intro h<;>try simp at h))<;>(try exact dQ));refine fA (fun i (acc:List aj)=>⟨[(1,.str b),(9,.slice 1 .no (b6 l)),(10,.int .i64 l.length),(5,.row 1 (.loc 0) acc.length),(11,.int .i64 i)],[],[(.loc 0,⟨acc.length,5,1,some (gL acc)⟩)],1,[]⟩) l.length (fun i acc=>acc=fl b (l.take i)) [] (by simp[show gL []=[]from rfl];exact⟨by simp[fresh,kinL,kin,bu,ak,Pv.look,lF],cG (by simp[fresh,kinL,kin,bu,ak,Pv.look,lF]),cI (by simp[fresh,kinL,kin,cw,ak,Pv.look,lF]),Ψ⟩) (by simp[fl]) (fun acc ai _=>?_) (fun i acc aw ai _=>?_)
 ·rw[vB (cc _)]at ai;subst ai;simp;(with_reducible repeat' first|refine av ?_|simp);simp[yL,wQ,Pd];simp[cn,VO,ba,bg,aT]
 ·obtain⟨x,af⟩:∃x,l[i]? =some x:=⟨_,cL aw⟩;have wz:∀h,(b6 l)[i]'h= .str x:=fun h=>by rw[l8 aw,cL aw]at*;cases af;rfl
  have hle:=LB b l (i+1);have Be:=TZ b l af;rw[Be]at hle;have fc:(gL acc).length=acc.length:=by simp[gL]
  have bZ:aY ((i:Int)+1):=by unfold aY;have:=ah.1;unfold aR at this;omega
  by_cases bz:i=0
  ·rw[if_pos bz]at hle Be;have Da:¬0<i:=Ω
   have iF:acc=[]:=by rw[ai,bz];simp[fl]
   have jd:acc.length+x.length<=aR:=by rw[iF];simp;omega
   simp[aw,wz];(with_reducible repeat' first|refine av ?_|simp[aw,wz,Da,fc,jd]);refine b1.rng (acc++x) aw (by rw[iF];exact Be.symm) ?_;exact⟨by simp[fresh,kinL,kin,bu,ak,Pv.look,lF,yW,cv],cG (by simp[fresh,kinL,kin,bu,ak,Pv.look,lF,yW,cv]),cI (by simp[fresh,kinL,kin,cw,ak,Pv.look,lF,yW,cv]),Ψ⟩
  ·rw[br bz]at hle Be;have Da:0<i:=Ω
   rw[<-ai]at hle Be;simp only[gx]at hle;have jd:acc.length+b.length<=aR:=Ω
   have kt:acc.length+b.length+x.length<=aR:=Ω
   have adI:(gL acc++gL b).length=acc.length+b.length:=by simp[gL]
   simp[aw,wz];(with_reducible repeat' first|refine av ?_|simp[aw,wz,Da,fc,jd,kt,adI]);refine b1.rng (acc++b++x) aw Be.symm ?_;exact⟨by simp[fresh,kinL,kin,bu,ak,Pv.look,lF,yW,Nat.add_assoc,cv],cG (by simp[fresh,kinL,kin,bu,ak,Pv.look,lF,yW,Nat.add_assoc,cv]),cI (by simp[fresh,kinL,kin,cw,ak,Pv.look,lF,yW,Nat.add_assoc,cv]),Ψ⟩
mutual
def _root_.Go.Pv.Gm.w:Gm->Nat
 | .mk _ _ t g=>1+Tm.szL t+pj g
def pj:List Gm->Nat
 |[]=>0
 |x::xs=>x.w+pj xs
end
theorem Sk:∀l:List Gm,pj l=(l.map Gm.w).sum
 |[]=>rfl
 |x::l=>by simp[pj,Sk l]
theorem Xi:∀l:List Tm,Tm.szL l=(l.map Tm.sz).sum
 |[]=>rfl
 |x::l=>by simp[Tm.szL,Xi l]
theorem Fa(g:Gm):g.w=1+(g.ts.map Tm.sz).sum+(g.gs.map Gm.w).sum:=by rw[<-Sk,<-Xi];cases g;rfl
theorem TX(L:List (List aj)):(fl [32] L).length<=(L.map fun x=>x.length+1).sum:=by
 induction L with
 |nil=>simp[fl]
 |cons x r aX=>
  cases r with
  |nil=>simp[fl]
  |cons y r=>simp only[fl,gx,fF,List.sum_cons,List.length_singleton]at aX⊢;omega
theorem aj4{t:Tm}(h:t.fits=true):(gw t).length<=26*t.sz:=by
 obtain⟨x,rfl,J⟩:=Tm.fits_ex h;have:=FZ x (uR J);rw[Ij];have e:x.tm.sz=x.size:=by
  clear this J h;induction x with
  |pair a b tH tI=>simp[T.tm,Tm.sz,Tm.szL,T.size,tH,tI];omega
  |_=>rfl
 omega
theorem vU(g:Gm):fH g=if g.kind=0\/g.kind=1 then jV g.kind else 40::(fl [32] ((if g.kind=9 then g.name else jV g.kind)::(g.ts.map gw++g.gs.map fH))++[41]):=by cases g;simp only[fH,J1,Gm.kind,Gm.name,Gm.ts,Gm.gs];rfl
theorem SE(k:Int):(jV k).length<=12:=by
 unfold jV;repeat' split
 all_goals decide
theorem Ib{g:Gm}(h:g.shape=true):g.name.length<=12:=by
 rw[pK,bJ]at h;obtain⟨_,h⟩:=h;split at h
 ·simp at h;rw[h.1.1.1];simp
 ·split at h
  ·simp at h;have:=h.1.1;unfold gG at this;rw[bJ]at this;exact Ef this.2
  ·split at h
   ·simp at h;rw[h.1.1.1];simp
   ·split at h
    ·simp at h;rw[h.1.1.1];simp
    ·cases h
theorem NM{α:Type}{f g:α->Nat}{k:Nat}:∀{l:List α},(∀x∈l,f x<=k*g x)->(l.map f).sum<=k*(l.map g).sum
 |[],_=>by simp
 |x::l,h=>by have I:=h x Ψ;have J:=NM (l:=l) fun y bG=>h y (by simp[bG]);simp only[fF,List.sum_cons,Nat.mul_add];omega
theorem CY:∀(n:Nat) (g:Gm),g.sz<=n->g.shape=true->(fH g).length+1<=30*g.w:=by
 intro n;induction n with
 |zero=>intro g aS;have:=g.sz_pos;omega
 |succ n aX=>
  intro g aS az;rw[vU,Fa];split
  ·have:=SE g.kind;omega
  ·have I:(if g.kind=9 then g.name else jV g.kind).length<=12:=by
    split
    ·exact Ib az
    ·exact SE _
   have J:=TX ((if g.kind=9 then g.name else jV g.kind)::(g.ts.map gw++g.gs.map fH));have au:((g.ts.map gw).map fun x=>x.length+1).sum<=27*(g.ts.map Tm.sz).sum:=by
    rw[List.map_map];refine NM fun t aE=>?_;have:=aj4 (sf az t aE);have aV:1<=t.sz:=by cases t;simp[Tm.sz]
    simp only[Function.comp];omega
   have aP:((g.gs.map fH).map fun x=>x.length+1).sum<=30*(g.gs.map Gm.w).sum:=by rw[List.map_map];exact NM fun x af=>aX x (by have:=g.gs_lt af;omega) (shape_gs az x af)
   simp only[fF,List.map_append,List.sum_cons,List.sum_append]at J;simp only[gg,gx,mJ];omega
abbrev Xt:List (Int×ae):=oA 10 (.str [110,111,116]) (oA 8 (.str [111,114]) (oA 7 (.str [97,110,100]) (oA 6 (.str [97,98,115,101,110,116]) (oA 5 (.str [110,117,109,98,101,114]) (oA 4 (.str [115,121,109,98,111,108]) (oA 3 (.str [47,61]) (oA 2 (.str [61]) [])))))))
theorem Hh(f:aC->aW (List ae))(m:aC)(k:Int)(hm:f m=some (mz Xt)):pD f .i (.str []) false (.gmap m) (.int .i64 k)=some (True,.str (if k=0\/k=1 then []else jV k)):=by
 rw[od _ _ _ _ false k hm];have e:Xt=[(2,.str [61]),(3,.str [47,61]),(4,.str [115,121,109,98,111,108]),(5,.str [110,117,109,98,101,114]),(6,.str [97,98,115,101,110,116]),(7,.str [97,110,100]),(8,.str [111,114]),(10,.str [110,111,116])]:=rfl;rw[e];by_cases J:k=2
 ·subst J;rfl
 by_cases au:k=3
 ·subst au;rfl
 by_cases aP:k=4
 ·subst aP;rfl
 by_cases bA:k=5
 ·subst bA;rfl
 by_cases cy:k=6
 ·subst cy;rfl
 by_cases eu:k=7
 ·subst eu;rfl
 by_cases gQ:k=8
 ·subst gQ;rfl
 by_cases fN:k=10
 ·subst fN;rfl
 have h:(if k=0\/k=1 then([]:List aj)else jV k)=[]:=by
  split
  ·rfl
  ·rename_i h;rw[not_or]at h;simp[jV,J,au,aP,bA,cy,eu,gQ,fN,h.1,h.2]
 rw[h];simp[xl,J,au,aP,bA,cy,eu,gQ,fN]
def uF(g:Gm)(i:Nat)(p:List (List aj)):aU:=⟨[(1,.ptr (.loc 0) 0),(4,.slice 1 (.own (.loc 2)) (b6 p)),(27,.slice 4 .no (g.ts.map enc)),(28,.int .i64 g.ts.length),(29,.int .i64 i)],[(.loc 0,[.int .i64 g.kind,.str g.name,.slice 4 .no (g.ts.map enc),.slice 4 .no (g.gs.map Gm.e)])],[(.loc 2,⟨p.length,9,1,none⟩)],3,[]⟩
def uG(g:Gm)(i:Nat)(p:List (List aj)):aU:=⟨[(4,.slice 1 (.own (.loc 2)) (b6 p)),(40,.slice 4 .no (g.gs.map Gm.e)),(41,.int .i64 g.gs.length),(42,.int .i64 i)],[],[(.loc 2,⟨p.length,9,1,none⟩)],3,[]⟩
theorem x9{α β:Type}(f:α->β){l:List α}{i:Nat}{x:α}(h:l[i]? =some x):(l.map f).take (i+1)=(l.map f).take i++[f x]:=by rw[k3,List.getElem?_map,h];simp
theorem ll(x:List aj)(l:List (List aj)):b6 (x::l)= .str x::b6 l:=rfl
theorem mF:b6 []=[]:=rfl
theorem qq(a b:List (List aj)):b6 (a++b)=b6 a++b6 b:=List.map_append
theorem Ea{α:Type}(f:α->Nat){x:α}:∀{l:List α},x∈l->f x<=(l.map f).sum
 |y::l,h=>by
  simp only[fF,List.sum_cons];rcases gy.1 h with rfl|h
  ·omega
  ·have:=Ea f h;omega
theorem e8(S:aC->Prop)(l:List (List aj)):kinL S (l.map ae.str)=True:=eo S l
theorem akD:∀(n:Nat) (g:Gm),g.sz<=n->g.shape=true->g.w<=100000000->bW aF 65 [g.e] (.str (fH g)):=by
 intro n;induction n with
 |zero=>intro g aS;have:=g.sz_pos;omega
 |succ n aX=>
 intro g aS az hw;refine bI mH aby ahb fun aG=>?_;unfold Pq;clear aG;simp;by_cases bz:g.kind=0
 ·rw[show fH g=ia by rw[vU,bz];rfl];(with_reducible repeat' first|refine av ?_|simp[Hh,bz,-od]);simp[cn,MN,ba,bg,aT];rfl
 by_cases I:g.kind=1
 ·rw[show fH g=iL by rw[vU,I];rfl];(with_reducible repeat' first|refine av ?_|simp[Hh,I,-od]);simp[cn,MN,ba,bg,aT];rfl
 have vZ:(g.kind==0)=false:=jj.2 bz;have ks:(g.kind==1)=false:=jj.2 I;have jY:=ET az;have xI:¬(g.kind=0\/g.kind=1):=fun h=>h.elim bz I;by_cases ec:g.kind=9
 ·(with_reducible repeat' first|refine av ?_|simp[Hh,ec,-od]);refine fA (uF g) g.ts.length (fun i p=>p=g.name::(g.ts.map gw).take i) [g.name] (by simp[uF,ll,mF,ec];exact cW) Ψ (fun p ai _=>?_) (fun i p aw ai _=>?_)
  ·rw[<-nh (f:=gw),hE]at ai;subst ai;simp[uF];(with_reducible repeat' first|refine av ?_|simp);refine fA (uG g) g.gs.length (fun i p=>p=g.name::(g.ts.map gw++(g.gs.map fH).take i)) (g.name::g.ts.map gw) (by simp[uG,ll];exact cW) Ψ (fun p ai _=>?_) (fun i p aw ai _=>?_)
   ·rw[<-nh (f:=fH),hE]at ai;have tl:fH g=40::(fl [32] p++[41]):=by rw[vU,br xI,ai];simp[ec,ec]
    have k7:=CY g.sz g (cc _) az;rw[tl]at k7⊢;simp only[gg,gx,mJ]at k7;have fJ:(fl [32] p).length<=aR:=by unfold aR;omega
    have fe:(fl [32] p).length+1<=aR:=by unfold aR;omega
    have pw:(fl [32] p).length+1+1<=aR:=by unfold aR;omega
    have qX:1+(fl [32] p).length<=aR:=by unfold aR;omega
    have wk:1+(fl [32] p).length+1<=aR:=by unfold aR;omega
    have zB:=N6 p [32] fJ;clear ai tl k7 aX;simp[uG];exact bY
   ·obtain⟨x,af,db⟩:=fQ aw;have nE:=e1 af;have eY:=aX x (by have:=g.gs_lt nE;omega) (shape_gs az x nE) (by rw[Fa]at hw;have:=Ea Gm.w nE;omega)
    have eM:p.length+1<=aR:=by rw[ai];simp;unfold aR;omega
    have bZ:aY ((i:Int)+1):=by unfold aY;omega
    have aM:p++[fH x]=g.name::(g.ts.map gw++(g.gs.map fH).take (i+1)):=by rw[ai,x9 fH af];simp
    clear aX ai af;simp[uG,aw,db];(with_reducible repeat' first|refine av ?_|refine aZ eY ?_|refine a1 eY ?_|simp[aw,db,eM,bZ]);refine b1.rng (p++[fH x]) aw aM (by simp[uG,qq,ll,mF];exact⟨by simp[fresh,kinL,kin,bu,ak,Pv.look,cv],cG (by simp[fresh,kinL,kin,bu,ak,Pv.look,cv]),cI (by simp[fresh,kinL,kin,cw,ak,Pv.look,cv]),Ψ⟩)
  ·obtain⟨x,af,db⟩:=fQ aw;have eY:=XT x (sf az x (e1 af));have eM:p.length+1<=aR:=by rw[ai];simp;unfold aR;omega
   have bZ:aY ((i:Int)+1):=by unfold aY;omega
   have aM:p++[gw x]=g.name::(g.ts.map gw).take (i+1):=by rw[ai,x9 gw af];simp
   clear aX ai af;simp[uF,aw,db];(with_reducible repeat' first|refine av ?_|refine aZ eY ?_|refine a1 eY ?_|simp[aw,db,eM,bZ]);refine b1.rng (p++[gw x]) aw aM (by simp[uF,qq,ll,mF];exact⟨by simp[fresh,kinL,kin,bu,ak,Pv.look,cv],cG (by simp[fresh,kinL,kin,bu,ak,Pv.look,cv]),cI (by simp[fresh,kinL,kin,cw,ak,Pv.look,cv]),Ψ⟩)
 ·have Sx:(g.kind==9)=false:=jj.2 ec;(with_reducible repeat' first|refine av ?_|simp[Hh,vZ,ks,Sx,xI,-od]);refine fA (uF g) g.ts.length (fun i p=>p=jV g.kind::(g.ts.map gw).take i) [jV g.kind] (by simp[uF,ll,mF,ec];exact cW) Ψ (fun p ai _=>?_) (fun i p aw ai _=>?_)
  ·rw[<-nh (f:=gw),hE]at ai;subst ai;simp[uF];(with_reducible repeat' first|refine av ?_|simp);refine fA (uG g) g.gs.length (fun i p=>p=jV g.kind::(g.ts.map gw++(g.gs.map fH).take i)) (jV g.kind::g.ts.map gw) (by simp[uG,ll];exact cW) Ψ (fun p ai _=>?_) (fun i p aw ai _=>?_)
   ·rw[<-nh (f:=fH),hE]at ai;have tl:fH g=40::(fl [32] p++[41]):=by rw[vU,br xI,ai];simp[Sx,ec]
    have k7:=CY g.sz g (cc _) az;rw[tl]at k7⊢;simp only[gg,gx,mJ]at k7;have fJ:(fl [32] p).length<=aR:=by unfold aR;omega
    have fe:(fl [32] p).length+1<=aR:=by unfold aR;omega
    have pw:(fl [32] p).length+1+1<=aR:=by unfold aR;omega
    have qX:1+(fl [32] p).length<=aR:=by unfold aR;omega
    have wk:1+(fl [32] p).length+1<=aR:=by unfold aR;omega
    have zB:=N6 p [32] fJ;clear ai tl k7 aX;simp[uG];exact bY
   ·obtain⟨x,af,db⟩:=fQ aw;have nE:=e1 af;have eY:=aX x (by have:=g.gs_lt nE;omega) (shape_gs az x nE) (by rw[Fa]at hw;have:=Ea Gm.w nE;omega)
    have eM:p.length+1<=aR:=by rw[ai];simp;unfold aR;omega
    have bZ:aY ((i:Int)+1):=by unfold aY;omega
    have aM:p++[fH x]=jV g.kind::(g.ts.map gw++(g.gs.map fH).take (i+1)):=by rw[ai,x9 fH af];simp
    clear aX ai af;simp[uG,aw,db];(with_reducible repeat' first|refine av ?_|refine aZ eY ?_|refine a1 eY ?_|simp[aw,db,eM,bZ]);refine b1.rng (p++[fH x]) aw aM (by simp[uG,qq,ll,mF];exact⟨by simp[fresh,kinL,kin,bu,ak,Pv.look,cv],cG (by simp[fresh,kinL,kin,bu,ak,Pv.look,cv]),cI (by simp[fresh,kinL,kin,cw,ak,Pv.look,cv]),Ψ⟩)
  ·obtain⟨x,af,db⟩:=fQ aw;have eY:=XT x (sf az x (e1 af));have eM:p.length+1<=aR:=by rw[ai];simp;unfold aR;omega
   have bZ:aY ((i:Int)+1):=by unfold aY;omega
   have aM:p++[gw x]=jV g.kind::(g.ts.map gw).take (i+1):=by rw[ai,x9 gw af];simp
   clear aX ai af;simp[uF,aw,db];(with_reducible repeat' first|refine av ?_|refine aZ eY ?_|refine a1 eY ?_|simp[aw,db,eM,bZ]);refine b1.rng (p++[gw x]) aw aM (by simp[uF,qq,ll,mF];exact⟨by simp[fresh,kinL,kin,bu,ak,Pv.look,cv],cG (by simp[fresh,kinL,kin,bu,ak,Pv.look,cv]),cI (by simp[fresh,kinL,kin,cw,ak,Pv.look,cv]),Ψ⟩)
mutual
def jy:ae->Nat
 | .int _ _=>1
 | .str _=>1
 | .slice _ _ xs=>j3 xs
 | .agg cs=>j3 cs
 |_=>0
def j3:List ae->Nat
 |[]=>0
 |x::xs=>jy x+j3 xs
end
mutual
theorem ags(cx:Int->List aj):∀(p:ae) (k:Int),(dN cx p k).2=k+jy p
 | .int _ _,k=>by simp[dN,jy]
 | .str _,k=>by simp[dN,jy]
 | .slice _ _ xs,k=>by simp only[dN,jy];exact BB cx xs k
 | .agg cs,k=>by simp only[dN,jy];exact BB cx cs k
 | .bool _,k=>by simp[dN,jy]
 | .junk,k=>by simp[dN,jy]
 | .ptr _ _,k=>by simp[dN,jy]
 | .eptr _,k=>by simp[dN,jy]
 | .iface _ _,k=>by simp[dN,jy]
 | .nilp,k=>by simp[dN,jy]
 | .tuple _,k=>by simp[dN,jy]
 | .func _ _,k=>by simp[dN,jy]
 | .gmap _,k=>by simp[dN,jy]
 | .row _ _ _,k=>by simp[dN,jy]
 | .rptr _ _ _ _ _,k=>by simp[dN,jy]
 | .hdm _ _,k=>by simp[dN,jy]
 | .hdi _ _ _,k=>by simp[dN,jy]
 | .cst _,k=>by simp[dN,jy]
theorem BB(cx:Int->List aj):∀(bj:List ae) (k:Int),(bo cx bj k).2=k+j3 bj
 |[],k=>by simp[bo,j3]
 |x::xs,k=>by simp only[bo,j3];rw[BB cx xs,ags cx x];omega
end
mutual
theorem aln:∀t:Tm,jy (enc t)=3*t.sz
 | .mk k n s a=>by simp only[enc,jy,j3,Tm.sz,Oq a];omega
theorem Oq:∀l:List Tm,j3 (mj l)=3*Tm.szL l
 |[]=>rfl
 |x::xs=>by simp only[mj,j3,Tm.szL,aln x,Oq xs];omega
end
mutual
theorem TF:∀t:Tm,iO (enc t)
 | .mk k n s a=>by simp only[enc];exact .mk k n s (mj a) fun y bG=>TG a y bG
theorem TG:∀(l:List Tm),∀y∈mj l,iO y
 |[],y,h=>by simp[mj]at h
 |x::xs,y,h=>by
  simp only[mj,gy]at h;rcases h with rfl|h
  ·exact TF x
  ·exact TG xs y h
end
theorem TH{l:List Tm}:∀y∈l.map enc,iO y:=fun y bG=>by obtain⟨t,_,rfl⟩:=nj.1 bG;exact TF t
mutual
theorem TE:∀g:Gm,j6 (p1 g)
 | .mk k s t g=>by simp only[p1];exact .mk k s (t.map enc) (nx g) TH fun y bG=>TD g y bG
theorem TD:∀(l:List Gm),∀y∈nx l,j6 y
 |[],y,h=>by simp[nx]at h
 |x::xs,y,h=>by
  simp only[nx,gy]at h;rcases h with rfl|h
  ·exact TE x
  ·exact TD xs y h
end
theorem afA{l:List Gm}:∀y∈l.map Gm.e,j6 y:=fun y bG=>by obtain⟨g,_,rfl⟩:=nj.1 bG;exact TE g
mutual
theorem Ot:∀g:Gm,jy (p1 g)<=3*g.w
 | .mk k s t g=>by have I:=Yj g;have J:=Oq t;rw[AM]at J;simp only[p1,jy,j3,Gm.w,J];omega
theorem Yj:∀l:List Gm,j3 (nx l)<=3*pj l
 |[]=>by simp[nx,j3,pj]
 |x::xs=>by have I:=Ot x;have J:=Yj xs;simp only[nx,j3,pj];omega
end
theorem acs{t:Tm}(h:t.fits=true):t.sz<=5000:=by
 obtain⟨x,rfl,J⟩:=Tm.fits_ex h;have e:x.tm.sz=x.size:=by
  clear J h;induction x with
  |pair a b tH tI=>simp[T.tm,Tm.sz,Tm.szL,T.size,tH,tI];omega
  |_=>rfl
 unfold T.fit at J;simp only[bJ,fs]at J;omega
theorem Xh:∀{l:List Tm},(∀t∈l,t.fits=true)->Tm.szL l<=5000*l.length
 |[],_=>by simp[Tm.szL]
 |t::l,h=>by have I:=acs (h t Ψ);have J:=Xh (l:=l) fun x af=>h x (by simp[af]);simp only[Tm.szL,gg];omega
theorem ajE{g:Gm}(h:g.shape=true):g.ts.length<=4:=by
 rw[pK,bJ]at h;obtain⟨_,h⟩:=h;split at h
 ·simp at h;have J:=h.1.2;unfold l2 at J;repeat' split at J
  all_goals omega
 ·split at h
  ·simp at h;exact h.2
  ·split at h
   ·simp at h;rw[h.1.1.2];simp
   ·split at h
    ·simp at h;rw[h.1.1.2];simp
    ·simp at h
theorem agD{g:Gm}(h:g.shape=true)(aM:lE g.kind=false):g.gs=[]:=by
 rw[pK,bJ]at h;obtain⟨_,h⟩:=h;simp[lE]at aM;split at h
 ·simp at h;exact h.1.1.2
 ·split at h
  ·simp at h;exact h.1.2
  ·split at h
   ·omega
   ·split at h
    ·omega
    ·simp at h
mutual
theorem Nz:∀g:Gm,g.shape=true->g.w<=20001*g.sz
 | .mk k s t gs,h=>by
  have I:=ajE h;have J:=Xh (l:=t) (sf h);have au:pj gs<=20001*p2 gs:=by
   by_cases aM:lE k=true
   ·exact W0 gs fun x af=>_root_.Go.Pv.shape_gs h aM x af
   ·have:gs=[]:=agD (g:= .mk k s t gs) h (Bool.eq_false_iff.2 aM);subst this;simp[pj]
  simp only[Gm.ts]at I;simp only[Gm.w,Gm.sz];omega
theorem W0:∀l:List Gm,(∀x∈l,x.shape=true)->pj l<=20001*p2 l
 |[],_=>by simp[pj]
 |x::xs,h=>by have I:=Nz x (h x Ψ);have J:=W0 xs fun y bG=>h y (by simp[bG]);simp only[pj,p2];omega
end
theorem acu{g:Gm}{n:Nat}(h:g.fits n=true):j3 (g.ts.map enc)+j3 (g.gs.map Gm.e)+2<=60003*n:=by unfold Gm.fits at h;simp only[bJ,fs]at h;have I:=Ot g;have J:=Nz g h.1;have e:p1 g=g.e:=rfl;rw[e,Gm.e_eq]at I;simp only[jy,j3]at I;omega
@[simp]theorem aoI(n:Nat):(aC.loc n=cY)=dr:=eq_false (pE n)
@[simp]theorem apf(n:Nat):(cY=aC.loc n)=dr:=eq_false fun h=>pE n h.symm
@[simp]theorem aoJ(m b n:Nat):(aC.loc m∈EZ b n)=dr:=eq_false fun h=>by obtain⟨_,e,_⟩:=UH.1 h;cases e
theorem _root_.Go.Pv.CallDo.tree{P:bS}{n:Nat}{args:List ae}{st:aU}{d:aW Nat}{K:aU->Prop}{ε:Nat->Nat}{b:Nat}{p nb rh:ae}(aI:cr p)(aH:bV nb=bV p)
  (aK:b3 P n args (en ε b p) fun cZ al=>cZ=rh/\al=en ε b nb) (he:st.e=dB ε b p) (ab:kinL (rng b (b+bV p)) args) (h:K ⟨fE d rh st.t,st.b,dB ε b nb,st.n,st.o++ev (en ε b nb)⟩):CallDo P n args st d K:=by
 refine CallDo.ob aK (o3 aI) (fun k cs ab=>by simp[Pv.look]at ab) (fun k o ab=>by rw[he];exact ab) (oP (fun k ab=>(CD k).2 ab) _ ab) ?_;rintro cZ al ⟨rfl,rfl⟩;refine⟨rH aH,?_⟩;rw[he,yI,Cl];simpa using h
def r8(o:aW Int):ae:= .tuple [.int .i64 (o.getD 0),.bool o.isSome]
theorem E8(s:List aj)(aD:s.length<=aR):bW aF 179 [.str s] (r8 (gH s)):=by
 have fS:=aks s aD;unfold yS at fS;unfold gH r8;rcases h:Lib.atoiAll s with v|_|_
 ·rw[h]at fS;obtain⟨O6,cq⟩:=Lib.atoiAll_bounds h;have eO:=XV v (by unfold aY;omega);simp only at fS⊢;by_cases he:Lib.itoa v=s
  ·rw[if_pos he];rw[he]at eO;refine bI kF F0 Hw fun aG=>?_;unfold CK;exact bY
  ·rw[br he];refine bI kF F0 Hw fun aG=>?_;unfold CK;simp;((with_reducible repeat' first|refine av ?_|refine aZ fS ?_|refine a1 fS ?_|refine aZ eO ?_|refine a1 eO ?_|simp[he]|((first|apply dt|apply dx|apply dw)<;>intro h<;>try simp at h))<;>(try exact dQ));simp[cn,VP,ba,bg,aT]
 ·rw[h]at fS;simp only at fS⊢;refine bI kF F0 Hw fun aG=>?_;unfold CK;exact bY
 ·rw[h]at fS;simp only at fS⊢;refine bI kF F0 Hw fun aG=>?_;unfold CK;exact bY
theorem ot(v:Int):bW aF 86 [.int .i64 v] (T.var v).e:=by refine bI kF abM ahp fun aG=>?_;unfold PF;exact bY
theorem Is(g:List aj):bW aF 207 [.str g] (T.sym g).e:=by refine bI kF abI ahl fun aG=>?_;unfold PB;exact bY
theorem yF(k:Int):bW aF 208 [.int .i64 k] (T.num k).e:=by refine bI kF abF ahi fun aG=>?_;unfold Py;exact bY
theorem Uz{l:List T}{i:Nat}{x:T}(h:l[i]? =some x)(t:T):fD (l.drop i) t= .pair x (fD (l.drop (i+1)) t):=by rw[fM h];rfl
def Bs(l:List T)(k:Nat):List ae:=if k=l.length then dd else cells (fD (l.drop k) .nil).e
theorem af5(l:List T){k:Nat}(h:k<=l.length):∃a b c d,Bs l k=[.int .i64 a,.int .i64 b,.str c,d]/\(∀S:aC->Prop,kin S d=True)/\ae.agg [.int .i64 a,.int .i64 b,.str c,bD d]=(fD (l.drop k) .nil).e:=by
 unfold Bs;split
 ·rename_i h;rw[h,jR];exact⟨0,0,[],.slice 4 .nil [],rfl,fun S=>by simp[kin,kinL],rfl⟩
 ·rw[Zg];refine⟨_,_,_,_,rfl,fun S=>by simp[kin],?_⟩;simp[bD]
theorem akW(l:List T):bW aF 205 [.slice 4 .no (l.map T.e)] (fD l .nil).e:=by
 refine bI kF abC ahf fun aG=>?_;unfold Pu;have ah:l.length<=aR:=by simpa[gr,gz,gu]using aG
 have uV:aY ((l.length:Int)-1):=by unfold aY;unfold aR at ah;omega
 clear aG;simp[uV];(with_reducible repeat' first|refine av ?_|simp[uV]);refine hR (fun j:Int=>⟨[(0,.slice 4 .no (l.map T.e)),(2,.ptr (.loc 0) 0),(3,.ptr (.loc 1) 0),(4,.int .i64 j)],[(.loc 0,dd),(.loc 1,Bs l (j+1).toNat)],[],2,[]⟩) (fun j=>(j+1).toNat) (fun j=> -1<=j/\j<l.length) (l.length-1) (by simp[Bs];exact⟨by simp[fresh,kinL,kin,bu,ak,Pv.look,dd],cG (by simp[fresh,kinL,kin,bu,ak,Pv.look,dd]),cI (by simp[fresh,kinL,kin,cw,ak,Pv.look,dd]),Ψ⟩) ⟨Ω,Ω⟩ ?_;rintro j ⟨SQ,lV⟩ _;obtain⟨k,ab⟩:∃k,k=(j+1).toNat:=⟨_,rfl⟩;have ga:k<=l.length:=Ω
 simp only[<-ab];obtain⟨cl,alu,lq,alv,cK,Ts,e7⟩:=af5 l ga;rw[cK];have lW:aY (j-1):=by unfold aY;unfold aR at ah;omega
 by_cases je:0<=j
 ·obtain⟨n,rfl⟩:∃n:Nat,j=n:=⟨j.toNat,Ω⟩;obtain rfl:k=n+1:=Ω
  have aM:n<l.length:=Ω
  obtain⟨x,af,db⟩:=fQ aM;have oa:=X5 x (fD (l.drop (n+1)) .nil);simp[aM,db];(with_reducible repeat' first|refine av ?_|refine aZ oa ?_|refine a1 oa ?_|simp[aM,db,e7,Ts,lW]);refine b1.whl ((n:Int)-1) Ω ⟨Ω,Ω⟩ ?_;have ao:((n:Int)-1+1).toNat=n:=Ω
  have aL:Bs l n=cells (fD (l.drop n) .nil).e:=by unfold Bs;rw[br Ω]
  rw[ao,aL,Uz af];exact⟨by simp[fresh,kinL,kin,bu,ak,Pv.look,dd],cG (by simp[fresh,kinL,kin,bu,ak,Pv.look,dd]),cI (by simp[fresh,kinL,kin,cw,ak,Pv.look,dd]),Ψ⟩
 ·obtain rfl:j= -1:=Ω
  obtain rfl:k=0:=Ω
  have ae3:ae.agg [ae.int lL cl,ae.int lL alu,ae.str lq,bD alv]=(fD l .nil).e:=e7;simp;simp[cn,VU,ba,bg,aT,bD,bC,ae3,Ts,kin,kinL]
def PD:C:=(ag [bK 2 false] (.seq (.drawn true 13 [aa 3 0,hD 4 3,a6 5 1 1 4,a8 6 1 5,aa 7 0,hD 8 7,a6 9 0 1 8,a8 10 1 9,cT 11 10,cj 12 .eql 6 11,aa 2 12]) .ret))
@[simp] def VX:List ca:=[.tmp 2]
def yX:C:=(ag [hv 2 dd,bK 3 false] (ag [aa 7 0,cl 8 152 7,aa 6 8,dZ 9 0 6,dZ 10 1 6,hv 4 dd,bF 4 4 9,aa 5 10] (.seq (ag [aa 11 5,dK 12 11,aa 13 12,aO 13 false (bO 14 4 4),aO 13 false (cl 15 77 14),aO 13 false (dK 16 15),dA 17 13 16] (bb 17 (ag [lJ 18 dd [],bF 4 2 18,bK 3 false] .ret) .skip)) (ag [bO 19 4 4,bF 4 2 19,bK 3 true] .ret))))
@[simp] def aiv:List ca:=[.cell 2 true 4,.tmp 3]
def vN:C:=(ag [hv 2 dd,bK 3 false] (.seq (ag [aa 15 0,cl 16 83 15] (bb 16 (ag [lJ 17 dd [],bF 4 2 17,bK 3 false] .ret) .skip)) (ag [aa 18 0,cl 19 178 18,aa 4 19] (.seq (ag [aa 20 4,bh 21 (.bin .eql false (.t 20) (.c (.str [40])))] (bb 21 (ag [aa 22 0,hD 23 22,a6 24 1 1 23,a8 25 1 24,a7 26 .add 25 1,hD 27 22,a6 28 1 1 27,bF 1 28 26] (ag [gU 29 4 40 [],aa 5 29] (.block 0 (.loop (.block 1 (.seq (ag [aa 30 0,⟨none,.call (some 31) (.c (.func 177 [])) [.t 30,(.c (.str [41]))]⟩] (bb 31 (ag [aa 32 5,cl 33 205 32,bF 4 2 33,bK 3 true] .ret) .skip)) (.seq (ag [aa 34 0,cl 35 178 34,bh 36 (.bin .eql false (.t 35) (.c (.str [46]))),aa 37 36,b4 37 true 38 0,aO 37 true (cl 39 83 38),aO 37 true (dK 40 39),fx 41 37 40] (bb 41 (ag [aa 42 0,hD 43 42,a6 44 1 1 43,a8 45 1 44,a7 46 .add 45 1,hD 47 42,a6 48 1 1 47,bF 1 48 46] (ag [aa 50 0,cl 51 152 50,aa 49 51,dZ 52 0 49,dZ 53 1 49,hv 6 dd,bF 4 6 52,aa 7 53] (.seq (ag [aa 54 7,dK 55 54,aa 56 55,b4 56 false 57 5,aO 56 false (cT 58 57),aO 56 false (a7 59 .eql 58 0),dA 60 56 59,aa 61 60,b4 61 false 62 0,⟨(some (61,false)),.call (some 63) (.c (.func 177 [])) [.t 62,(.c (.str [41]))]⟩,aO 61 false (dK 64 63),dA 65 61 64] (bb 65 (ag [lJ 66 dd [],bF 4 2 66,bK 3 false] .ret) .skip)) (.seq (ag [aa 67 5,cT 68 67,a7 69 .sub 68 1,aa 8 69] (.block 2 (.loop (.seq (ag [aa 70 8,a7 71 .geq 70 0] (bb 71 .skip (.exit 2))) (.seq (.block 3 (.drawn true 132 [aa 74 5,aa 75 8,cP 76 4 74 75,bO 77 4 76,bO 78 4 6,eb 79 206 77 78,bF 4 6 79])) (.region [aa 72 8,a7 73 .sub 72 1,aa 8 73])))))) (ag [bO 80 4 6,bF 4 2 80,bK 3 true] .ret))))) .skip)) (ag [aa 82 0,cl 83 152 82,aa 81 83,dZ 84 0 81,dZ 85 1 81,hv 9 dd,bF 4 9 84,aa 10 85] (.seq (ag [aa 86 10,dK 87 86] (bb 87 (ag [lJ 88 dd [],bF 4 2 88,bK 3 false] .ret) .skip)) (.region [aa 89 5,bO 90 4 9,gU 91 4 40 [.t 90],kZ 92 4 40 89 91,aa 5 92])))))))))) .skip)) (ag [aa 93 0,hD 94 93,a6 95 1 1 94,a8 96 1 95,a7 97 .add 96 1,hD 98 93,a6 99 1 1 98,bF 1 99 97] (.seq (ag [aa 100 4,bh 101 (.sidx (.t 100) (de 0)),bh 102 (.bin .eql false (.t 101) (.c (.int .u8 63)))] (bb 102 (ag [aa 104 4,bh 105 (.ssl (.t 104) (some (de 1)) none),cl 106 179 105,aa 103 106,dZ 107 0 103,dZ 108 1 103,aa 11 107,aa 12 108] (ag [aa 109 11,cl 110 86 109,aa 111 12,aa 112 111,b4 112 true 113 11,aO 112 true (a7 114 .geq 113 0),fx 115 112 114,aa 116 115,b4 116 true 117 11,aO 116 true (a7 118 .leq 117 100000),fx 119 116 118,bF 4 2 110,aa 3 119] .ret)) .skip)) (.seq (ag [aa 120 4,cl 121 170 120] (bb 121 (ag [aa 122 4,cl 123 207 122,bF 4 2 123,bK 3 true] .ret) .skip)) (ag [aa 125 4,cl 126 179 125,aa 124 126,dZ 127 0 124,dZ 128 1 124,aa 13 127,aa 14 128] (ag [aa 129 13,cl 130 208 129,aa 131 14,bF 4 2 130,aa 3 131] .ret)))))))))
@[simp] def aiw:List ca:=[.cell 2 true 4,.tmp 3]
def CN:C:=(ag [bK 4 false] (.seq (.seq (.drawn false 28 [aa 5 0,cl 6 178 5,aa 7 1,cj 8 .eql 6 7,aa 9 8,b4 9 true 10 0,aO 9 true (hD 11 10),aO 9 true (a6 12 1 1 11),aO 9 true (bh 13 (.loadB false 1 (.t 12))),b4 9 true 14 0,aO 9 true (hD 15 14),aO 9 true (a6 16 0 1 15),aO 9 true (bh 17 (.loadB false 1 (.t 16))),aO 9 true (cT 18 17),aO 9 true (cj 19 .lss 13 18),fx 20 9 19]) (bb 20 (ag [aa 21 0,hD 22 21,a6 23 1 1 22,a8 24 1 23,a7 25 .add 24 1,hD 26 21,a6 27 1 1 26,bF 1 27 25] (ag [bK 4 true] .ret)) .skip)) (ag [bK 4 false] .ret)))
@[simp] def EB:List ca:=[.tmp 4]
def PE:C:=(ag [bh 2 (.mov (.c (.str [])))] (.seq (.seq (.drawn true 23 [aa 3 0,hD 4 3,a6 5 1 1 4,a8 6 1 5,aa 7 0,hD 8 7,a6 9 0 1 8,a8 10 1 9,cT 11 10,cj 12 .lss 6 11]) (bb 12 (.seq (.drawn true 23 [aa 13 0,hD 14 13,a6 15 0 1 14,a8 16 1 15,aa 17 0,hD 18 17,a6 19 1 1 18,a8 20 1 19,cP 21 1 16 20,a8 22 1 21,aa 2 22]) .ret) .skip)) (ag [bh 2 (.mov (.c (.str [])))] .ret)))
@[simp] def MO:List ca:=[.tmp 2]
def Cg:List (Nat×dh):=[
 (3,⟨1,8,.int .i64,.int .i64 0⟩),
 (9,⟨1,16,.str,.str []⟩),
 (36,⟨1,24,.slice 120,.slice 5 .nil []⟩),
 (38,⟨1,24,.slice 40,.slice 4 .nil []⟩),
 (40,⟨4,56,.struct [(0,3),(1,3),(2,9),(3,38)],.agg [.int .i64 0,.int .i64 0,.str [],.slice 4 .nil []]⟩),
 (70,⟨1,24,.slice 9,.slice 1 .nil []⟩),
 (120,⟨5,64,.struct [(0,3),(1,40)],.agg [.int .i64 0,.int .i64 0,.int .i64 0,.str [],.slice 4 .nil []]⟩),
 (131,⟨2,32,.struct [(0,70),(1,3)],.agg [.slice 1 .nil [],.int .i64 0]⟩)]
theorem mG:eW aF Cg=true:=by kernel_rfl
theorem ahn:cJ Cg PD VX 1 Tryz.f83=true:=by kernel_rfl
theorem abK:aF.funcs[(83:Nat)]? =some Tryz.f83:=Tryz.func83
theorem BH:cJ Cg yX aiv 1 Tryz.f84=true:=by kernel_rfl
theorem AQ:aF.funcs[(84:Nat)]? =some Tryz.f84:=Tryz.func84
theorem ye:cJ Cg vN aiw 1 Tryz.f152=true:=by kernel_rfl
theorem xx:aF.funcs[(152:Nat)]? =some Tryz.f152:=Tryz.func152
theorem Hz:cJ Cg CN EB 2 Tryz.f177=true:=by kernel_rfl
theorem F3:aF.funcs[(177:Nat)]? =some Tryz.f177:=Tryz.func177
theorem aho:cJ Cg PE MO 1 Tryz.f178=true:=by kernel_rfl
theorem abL:aF.funcs[(178:Nat)]? =some Tryz.f178:=Tryz.func178
theorem LZ{α β:Type}(k:aC):∀{l:List (aC×α)} {c6:List (aC×β)},l.map (·.1)=c6.map (·.1)->(Pv.look k l).isSome=(Pv.look k c6).isSome
 |[],[],_=>rfl
 |[],_::_,h=>by simp at h
 |_::_,[],h=>by simp at h
 |(i,x)::r,(j,y)::cZ,h=>by
  simp only[fF,sH]at h;simp only[Pv.look];obtain⟨rfl,h⟩:=h;split
  ·rfl
  ·exact LZ k h
theorem _root_.Go.Pv.Same.keys{s al:dJ}(ah:s.b.map (·.1)=al.b.map (·.1))(he:s.e.map (·.1)=al.e.map (·.1)):Same s al:=⟨fun k=>LZ k ah,fun k=>LZ k he⟩
end
section
open Go Go.Pv
variable {ky:Nat}
def aB(ky:Nat):ae:= .ptr (.obj ky) 0
def ad(ky:Nat)(l:List (List aj))(i:Nat):dJ:=⟨[(.obj ky,[.slice 1 .no (b6 l),.int .i64 i])],[]⟩
theorem bm(l:List (List aj))(i:Nat):hn (ad ky l i):=by unfold ad;exact hn.of ⟨by intro m;simp[Pv.look],by intro m;simp[Pv.look]⟩ (by simp[kinL,kin]) Ψ
theorem bT(l c6:List (List aj))(i j:Nat):Same (ad ky l i) (ad ky c6 j):=Same.keys (by simp[ad]) (by simp[ad])
section
variable (l:List (List aj)) (i:Nat)
theorem RS:b3 aF 83 [aB ky] (ad ky l i) fun r al=>r= .bool ((i:Int)==l.length)/\al=ad ky l i:=by have az:=bm (ky:=ky) l i;simp only[ad]at az⊢;refine b3.mk mixed mG abK ahn Ψ az.obj fun aG b2=>?_;unfold PD;simp[aB];refine cO.at (ad ky l i) Ψ (bm _ _) (Same.refl _) (by simp only[ad];exact aA) (by simp only[ad];exact aA) ?_;simp[c8,VX,ba,bg,aT,ad,ak,Pv.look,kin,kinL]
theorem Ge:b3 aF 178 [aB ky] (ad ky l i) fun r al=>r= .str (l[i]?.getD [])/\al=ad ky l i:=by
 have az:=bm (ky:=ky) l i;simp only[ad]at az⊢;refine b3.mk mixed mG abL aho Ψ az.obj fun aG b2=>?_;unfold PE;simp[aB];by_cases h:i<l.length
 ·obtain⟨x,af⟩:∃x,l[i]? =some x:=⟨_,cL h⟩;have wz:∀h,(b6 l)[i]'h= .str x:=fun cu=>by rw[l8 h,cL h]at*;cases af;rfl
  rw[af];simp[h,wz];refine cO.at (ad ky l i) Ψ (bm _ _) (Same.refl _) (by simp only[ad];exact aA) (by simp only[ad];exact aA) ?_;simp[c8,MO,ba,bg,aT,ad,ak,Pv.look,kin,kinL]
 ·rw[List.getElem?_eq_none Ω];simp[h];refine cO.at (ad ky l i) Ψ (bm _ _) (Same.refl _) (by simp only[ad];exact aA) (by simp only[ad];exact aA) ?_;simp[c8,MO,ba,bg,aT,ad,ak,Pv.look,kin,kinL]
theorem R1(aw:i<=1000000)(s:List aj):b3 aF 177 [aB ky,.str s] (ad ky l i) fun r al=>r= .bool (decide (l[i]? =some s))/\al=ad ky l (if l[i]? =some s then i+1 else i):=by
 have az:=bm (ky:=ky) l i;have oa:=Ge (ky:=ky) l i;have bZ:aY ((i:Int)+1):=by unfold aY;omega
 by_cases h:i<l.length
 ·obtain⟨x,af⟩:∃x,l[i]? =some x:=⟨_,cL h⟩;rw[af]at oa⊢;simp only[kn]at oa;by_cases fh:x=s
  ·subst fh;simp only[if_true,decide_true,ad]at az⊢;refine b3.mk mixed mG F3 Hz Ψ az.obj fun aG b2=>?_;unfold CN;simp[aB];(refine qE.ob (oa) (by first|exact bm _|exact bm ‹_› _) (by first|exact bm _|exact bm ‹_› _) (Same.keys (by simp[ad]) (by simp[ad])) (by simp only[ad,dF,eE];exact aA) (by simp only[ad,dF,eE];exact aA) (by simp[ak,Pv.look,ad]) ?_;simp[bc,ad]);((with_reducible repeat' first|refine av ?_|simp[h,bZ]|((first|apply dt|apply dx|apply dw)<;>intro h<;>try simp at h))<;>(try exact dQ));refine cO.at (ad ky l (i+1)) Ψ (bm _ _) (bT _ _ _ _) (by simp only[ad];exact aA) (by simp only[ad];exact aA) ?_;simp[c8,EB,ba,bg,aT,ad,ak,Pv.look,kin,kinL]
  ·have b7:¬(some x=some s):=by simpa using fh
   simp only[b7,if_false,decide_false,ad]at az⊢;refine b3.mk mixed mG F3 Hz Ψ az.obj fun aG b2=>?_;unfold CN;simp[aB];(refine qE.ob (oa) (by first|exact bm _|exact bm ‹_› _) (by first|exact bm _|exact bm ‹_› _) (Same.keys (by simp[ad]) (by simp[ad])) (by simp only[ad,dF,eE];exact aA) (by simp only[ad,dF,eE];exact aA) (by simp[ak,Pv.look,ad]) ?_;simp[bc,ad]);((with_reducible repeat' first|refine av ?_|simp[fh]|((first|apply dt|apply dx|apply dw)<;>intro h<;>try simp at h))<;>(try exact dQ));refine cO.at (ad ky l i) Ψ (bm _ _) (bT _ _ _ _) (by simp only[ad];exact aA) (by simp only[ad];exact aA) ?_;simp[c8,EB,ba,bg,aT,ad,ak,Pv.look,kin,kinL]
 ·rw[List.getElem?_eq_none Ω]at oa⊢;simp only[kn]at oa;have b7:¬((none:aW (List aj))=some s):=by simp
  simp only[b7,if_false,decide_false,ad]at az⊢;cases s with
  |nil=>refine b3.mk mixed mG F3 Hz Ψ az.obj fun aG b2=>?_;unfold CN;simp[aB];(refine qE.ob (oa) (by first|exact bm _|exact bm ‹_› _) (by first|exact bm _|exact bm ‹_› _) (Same.keys (by simp[ad]) (by simp[ad])) (by simp only[ad,dF,eE];exact aA) (by simp only[ad,dF,eE];exact aA) (by simp[ak,Pv.look,ad]) ?_;simp[bc,ad]);((with_reducible repeat' first|refine av ?_|simp[h]|((first|apply dt|apply dx|apply dw)<;>intro h<;>try simp at h))<;>(try exact dQ));refine cO.at (ad ky l i) Ψ (bm _ _) (bT _ _ _ _) (by simp only[ad];exact aA) (by simp only[ad];exact aA) ?_;simp[c8,EB,ba,bg,aT,ad,ak,Pv.look,kin,kinL]
  |cons c s=>refine b3.mk mixed mG F3 Hz Ψ az.obj fun aG b2=>?_;unfold CN;simp[aB];(refine qE.ob (oa) (by first|exact bm _|exact bm ‹_› _) (by first|exact bm _|exact bm ‹_› _) (Same.keys (by simp[ad]) (by simp[ad])) (by simp only[ad,dF,eE];exact aA) (by simp only[ad,dF,eE];exact aA) (by simp[ak,Pv.look,ad]) ?_;simp[bc,ad]);((with_reducible repeat' first|refine av ?_|simp[h]|((first|apply dt|apply dx|apply dw)<;>intro h<;>try simp at h))<;>(try exact dQ));refine cO.at (ad ky l i) Ψ (bm _ _) (bT _ _ _ _) (by simp only[ad];exact aA) (by simp only[ad];exact aA) ?_;simp[c8,EB,ba,bg,aT,ad,ak,Pv.look,kin,kinL]
end
end
section
open Go Go.Pv
variable {ky:Nat}
def vt(ky:Nat)(l:List (List aj))(o:aW (T×List (List aj)))(r:ae)(al:dJ):Prop:=match o with
 |some (t,rest)=>r= .tuple [t.e,.bool true]/\al=ad ky l (l.length-rest.length)
 |none=> ∃(x:T) (j:Nat),j<=l.length/\r= .tuple [x.e,.bool false]/\al=ad ky l j
theorem sp{l:List (List aj)}{j:Nat}(h:j<=l.length)(x:T):vt ky l none (.tuple [x.e,.bool false]) (ad ky l j):=⟨x,j,h,rfl,rfl⟩
theorem Cf{l:List (List aj)}{j:Nat}{t:T}{rest:List (List aj)}(h:l.length-rest.length=j):vt ky l (some (t,rest)) (.tuple [t.e,.bool true]) (ad ky l j):=⟨rfl,by rw[h]⟩
theorem cO.tm{l:List (List aj)}{i:Nat}{o:aW (T×List (List aj))}{st:aU}{e:Exit}(j:Nat)(x:T)(b:Bool)(iR:e= .ret\/e= .normal)(jb:vt ky l o (.tuple [x.e,.bool b]) (ad ky l j))(ah:∀k cs,Pv.look k (ad ky l j).b=some cs->Pv.look k st.b=some cs)(cH:∀k p,Pv.look k (ad ky l j).e=some p->Pv.look k st.e=some p)
  (h:c8 st [.cell 2 true 4,.tmp 3] fun r=>r= .tuple [x.e,.bool b]):cO [.cell 2 true 4,.tmp 3] (ad ky l i) (vt ky l o) e st:=by
 refine cO.at (ad ky l j) iR (bm _ _) (bT _ _ _ _) ah cH ?_;unfold c8 at h⊢;split at h
 ·rename_i c bj hr;refine⟨h.1,?_⟩;rw[h.2];exact⟨by simp[kin,kinL],jb⟩
 ·exact h.elim
theorem uM{l:List (List aj)}{i:Nat}{w:List aj}(h:l[i]? =some w):l.length-(l.drop (i+1)).length=i+1:=by have:=(fo.1 h).1;simp;omega
theorem lP{l:List (List aj)}{i:Nat}(h:i<l.length):b3 aF 83 [aB ky] (ad ky l i) fun r al=>r= .bool false/\al=ad ky l i:=by have:=RS (ky:=ky) l i;rwa[show((i:Int)==l.length)=false by simp;omega]at this
theorem CW(l:List (List aj)):b3 aF 83 [aB ky] (ad ky l l.length) fun r al=>r= .bool true/\al=ad ky l l.length:=by have:=RS (ky:=ky) l l.length;rwa[beq_self_eq_true]at this
theorem js{l:List (List aj)}{i:Nat}{w:List aj}(h:l[i]? =some w):b3 aF 178 [aB ky] (ad ky l i) fun r al=>r= .str w/\al=ad ky l i:=by have:=Ge (ky:=ky) l i;rwa[h]at this
theorem R2(l:List (List aj)):b3 aF 152 [aB ky] (ad ky l l.length) (vt ky l none):=by have az:=bm (ky:=ky) l l.length;have dW:=CW (ky:=ky) l;simp only[ad]at az;refine b3.mk mixed mG xx ye Ψ az.obj fun aG b2=>?_;unfold vN;clear aG b2;simp[aB,ad];(refine CallDo.ob (dW) (by first|exact bm _|exact bm ‹_› _) (by simp only[ad,aB,dF,eE];exact aA) (by simp only[ad,aB,dF,eE];exact aA) (by simp[ak,Pv.look,ad,aB]) ?_;rintro r al ⟨rfl,rfl⟩;refine⟨(Same.keys (by simp[ad,aB]) (by simp[ad,aB])),?_⟩;simp[bc,ad,aB]);(with_reducible repeat' first|refine av ?_|simp);refine cO.tm (l.length) (.nil) false Ψ (sp (cc _) _) (by simp only[ad];exact aA) (by simp only[ad];exact aA) ?_;simp[c8,ba,bg,aT,bD,bC]
theorem acJ(l:List (List aj))(aD:l.length<=100000){i:Nat}{w:List aj}(af:l[i]? =some w)(hw:w≠[])(u5:w.length<=aR)(aV:w≠[40]):b3 aF 152 [aB ky] (ad ky l i) (vt ky l ((eG w).map fun t=>(t,l.drop (i+1)))):=by
 have az:=bm (ky:=ky) l i;have aw:=(fo.1 af).1;have aI:=uM af;have bZ:aY ((i:Int)+1):=by unfold aY;omega
 obtain⟨c,w',rfl⟩:∃c w',w=c::w':=List.exists_cons_of_ne_nil hw;by_cases aH:c=63
 ·subst aH;have Le:w'.length<=aR:=by simp at u5;omega
  have cA:=E8 w' Le;unfold r8 at cA;simp only[eG];cases aM:gH w' with
  |none=>rw[aM]at cA;simp only[kn,sL]at cA;simp only[vC];simp only[ad]at az;refine b3.mk mixed mG xx ye Ψ az.obj fun aG b2=>?_;unfold vN;clear aG b2;simp[aB,ad];(refine CallDo.ob (lP aw) (by first|exact bm _|exact bm ‹_› _) (by simp only[ad,aB,dF,eE];exact aA) (by simp only[ad,aB,dF,eE];exact aA) (by simp[ak,Pv.look,ad,aB]) ?_;rintro r al ⟨rfl,rfl⟩;refine⟨(Same.keys (by simp[ad,aB]) (by simp[ad,aB])),?_⟩;simp[bc,ad,aB]);(with_reducible repeat' first|refine av ?_|simp);(refine CallDo.ob (js af) (by first|exact bm _|exact bm ‹_› _) (by simp only[ad,aB,dF,eE];exact aA) (by simp only[ad,aB,dF,eE];exact aA) (by simp[ak,Pv.look,ad,aB]) ?_;rintro r al ⟨rfl,rfl⟩;refine⟨(Same.keys (by simp[ad,aB]) (by simp[ad,aB])),?_⟩;simp[bc,ad,aB]);(with_reducible repeat' first|refine av ?_|refine aZ cA ?_|refine a1 cA ?_|refine aZ (ot _) ?_|refine a1 (ot _) ?_|simp[bZ]);refine cO.tm (i+1) (.var 0) false Ψ (sp Ω _) (by simp only[ad];exact aA) (by simp only[ad];exact aA) ?_;simp[c8,ba,bg,aT,bD,bC]
  |some v=>
   rw[aM]at cA;simp only[kn,sL]at cA;simp only;by_cases aN:0<=v/\v<=100000
   ·rw[if_pos aN];simp only[lM];simp only[ad]at az;refine b3.mk mixed mG xx ye Ψ az.obj fun aG b2=>?_;unfold vN;clear aG b2;simp[aB,ad];(refine CallDo.ob (lP aw) (by first|exact bm _|exact bm ‹_› _) (by simp only[ad,aB,dF,eE];exact aA) (by simp only[ad,aB,dF,eE];exact aA) (by simp[ak,Pv.look,ad,aB]) ?_;rintro r al ⟨rfl,rfl⟩;refine⟨(Same.keys (by simp[ad,aB]) (by simp[ad,aB])),?_⟩;simp[bc,ad,aB]);(with_reducible repeat' first|refine av ?_|simp);(refine CallDo.ob (js af) (by first|exact bm _|exact bm ‹_› _) (by simp only[ad,aB,dF,eE];exact aA) (by simp only[ad,aB,dF,eE];exact aA) (by simp[ak,Pv.look,ad,aB]) ?_;rintro r al ⟨rfl,rfl⟩;refine⟨(Same.keys (by simp[ad,aB]) (by simp[ad,aB])),?_⟩;simp[bc,ad,aB]);(with_reducible repeat' first|refine av ?_|refine aZ cA ?_|refine a1 cA ?_|refine aZ (ot _) ?_|refine a1 (ot _) ?_|simp[bZ,aN.1,aN.2]);refine cO.tm (i+1) (.var v) true Ψ (Cf aI) (by simp only[ad];exact aA) (by simp only[ad];exact aA) ?_;simp[c8,ba,bg,aT,bD,bC]
   ·rw[br aN];simp only[vC];simp only[ad]at az;refine b3.mk mixed mG xx ye Ψ az.obj fun aG b2=>?_;unfold vN;clear aG b2;simp[aB,ad];(refine CallDo.ob (lP aw) (by first|exact bm _|exact bm ‹_› _) (by simp only[ad,aB,dF,eE];exact aA) (by simp only[ad,aB,dF,eE];exact aA) (by simp[ak,Pv.look,ad,aB]) ?_;rintro r al ⟨rfl,rfl⟩;refine⟨(Same.keys (by simp[ad,aB]) (by simp[ad,aB])),?_⟩;simp[bc,ad,aB]);(with_reducible repeat' first|refine av ?_|simp);(refine CallDo.ob (js af) (by first|exact bm _|exact bm ‹_› _) (by simp only[ad,aB,dF,eE];exact aA) (by simp only[ad,aB,dF,eE];exact aA) (by simp[ak,Pv.look,ad,aB]) ?_;rintro r al ⟨rfl,rfl⟩;refine⟨(Same.keys (by simp[ad,aB]) (by simp[ad,aB])),?_⟩;simp[bc,ad,aB]);by_cases bz:0<=v
    ·have I:¬v<=100000:=fun h=>aN ⟨bz,h⟩;(with_reducible repeat' first|refine av ?_|refine aZ cA ?_|refine a1 cA ?_|refine aZ (ot _) ?_|refine a1 (ot _) ?_|simp[bZ,bz,I]);refine cO.tm (i+1) (.var v) false Ψ (sp Ω _) (by simp only[ad];exact aA) (by simp only[ad];exact aA) ?_;simp[c8,ba,bg,aT,bD,bC]
    ·(with_reducible repeat' first|refine av ?_|refine aZ cA ?_|refine a1 cA ?_|refine aZ (ot _) ?_|refine a1 (ot _) ?_|simp[bZ,bz]);refine cO.tm (i+1) (.var v) false Ψ (sp Ω _) (by simp only[ad];exact aA) (by simp only[ad];exact aA) ?_;simp[c8,ba,bg,aT,bD,bC]
 ·have bL:eG (c::w')=if gb (c::w')then some (.sym (c::w'))else(gH (c::w')).map .num:=by
   unfold eG;split
   ·rename_i e;cases e;exact absurd rfl aH
   ·rfl
  have Dl:¬c.toNat=63:=fun h=>aH (UInt8.toNat_inj.1 (by simpa using h));have zk:((c.toNat:Int)==63)=false:=jj.2 Ω;have u0:(c==40&&w'.isEmpty)=false:=by
   rw[Bool.and_eq_false_iff];by_cases h:c=40
   ·right;cases w' with
    |nil=>exact absurd (by rw[h]) aV
    |cons=>rfl
   ·left;simpa using h
  have c1:=E7 (c::w');rw[bL];by_cases oK:gb (c::w')=true
  ·rw[if_pos oK];rw[oK]at c1;simp only[lM];simp only[ad]at az;refine b3.mk mixed mG xx ye Ψ az.obj fun aG b2=>?_;unfold vN;clear aG b2;simp[aB,ad];(refine CallDo.ob (lP aw) (by first|exact bm _|exact bm ‹_› _) (by simp only[ad,aB,dF,eE];exact aA) (by simp only[ad,aB,dF,eE];exact aA) (by simp[ak,Pv.look,ad,aB]) ?_;rintro r al ⟨rfl,rfl⟩;refine⟨(Same.keys (by simp[ad,aB]) (by simp[ad,aB])),?_⟩;simp[bc,ad,aB]);(with_reducible repeat' first|refine av ?_|simp);(refine CallDo.ob (js af) (by first|exact bm _|exact bm ‹_› _) (by simp only[ad,aB,dF,eE];exact aA) (by simp only[ad,aB,dF,eE];exact aA) (by simp[ak,Pv.look,ad,aB]) ?_;rintro r al ⟨rfl,rfl⟩;refine⟨(Same.keys (by simp[ad,aB]) (by simp[ad,aB])),?_⟩;simp[bc,ad,aB]);(with_reducible repeat' first|refine av ?_|refine aZ c1 ?_|refine a1 c1 ?_|refine aZ (Is _) ?_|refine a1 (Is _) ?_|simp[bZ,zk,u0]);refine cO.tm (i+1) (.sym (c::w')) true Ψ (Cf aI) (by simp only[ad];exact aA) (by simp only[ad];exact aA) ?_;simp[c8,ba,bg,aT,bD,bC]
  ·rw[br oK];rw[Bool.not_eq_true]at oK;rw[oK]at c1;have cA:=E8 (c::w') u5;unfold r8 at cA;cases aM:gH (c::w')with
   |none=>rw[aM]at cA;simp only[kn,sL]at cA;simp only[vC];simp only[ad]at az;refine b3.mk mixed mG xx ye Ψ az.obj fun aG b2=>?_;unfold vN;clear aG b2;simp[aB,ad];(refine CallDo.ob (lP aw) (by first|exact bm _|exact bm ‹_› _) (by simp only[ad,aB,dF,eE];exact aA) (by simp only[ad,aB,dF,eE];exact aA) (by simp[ak,Pv.look,ad,aB]) ?_;rintro r al ⟨rfl,rfl⟩;refine⟨(Same.keys (by simp[ad,aB]) (by simp[ad,aB])),?_⟩;simp[bc,ad,aB]);(with_reducible repeat' first|refine av ?_|simp);(refine CallDo.ob (js af) (by first|exact bm _|exact bm ‹_› _) (by simp only[ad,aB,dF,eE];exact aA) (by simp only[ad,aB,dF,eE];exact aA) (by simp[ak,Pv.look,ad,aB]) ?_;rintro r al ⟨rfl,rfl⟩;refine⟨(Same.keys (by simp[ad,aB]) (by simp[ad,aB])),?_⟩;simp[bc,ad,aB]);(with_reducible repeat' first|refine av ?_|refine aZ c1 ?_|refine a1 c1 ?_|refine aZ cA ?_|refine a1 cA ?_|refine aZ (yF _) ?_|refine a1 (yF _) ?_|simp[bZ,zk,u0]);refine cO.tm (i+1) (.num 0) false Ψ (sp Ω _) (by simp only[ad];exact aA) (by simp only[ad];exact aA) ?_;simp[c8,ba,bg,aT,bD,bC]
   |some v=>rw[aM]at cA;simp only[kn,sL]at cA;simp only[lM];simp only[ad]at az;refine b3.mk mixed mG xx ye Ψ az.obj fun aG b2=>?_;unfold vN;clear aG b2;simp[aB,ad];(refine CallDo.ob (lP aw) (by first|exact bm _|exact bm ‹_› _) (by simp only[ad,aB,dF,eE];exact aA) (by simp only[ad,aB,dF,eE];exact aA) (by simp[ak,Pv.look,ad,aB]) ?_;rintro r al ⟨rfl,rfl⟩;refine⟨(Same.keys (by simp[ad,aB]) (by simp[ad,aB])),?_⟩;simp[bc,ad,aB]);(with_reducible repeat' first|refine av ?_|simp);(refine CallDo.ob (js af) (by first|exact bm _|exact bm ‹_› _) (by simp only[ad,aB,dF,eE];exact aA) (by simp only[ad,aB,dF,eE];exact aA) (by simp[ak,Pv.look,ad,aB]) ?_;rintro r al ⟨rfl,rfl⟩;refine⟨(Same.keys (by simp[ad,aB]) (by simp[ad,aB])),?_⟩;simp[bc,ad,aB]);(with_reducible repeat' first|refine av ?_|refine aZ c1 ?_|refine a1 c1 ?_|refine aZ cA ?_|refine a1 cA ?_|refine aZ (yF _) ?_|refine a1 (yF _) ?_|simp[bZ,zk,u0]);refine cO.tm (i+1) (.num v) true Ψ (Cf aI) (by simp only[ad];exact aA) (by simp only[ad];exact aA) ?_;simp[c8,ba,bg,aT,bD,bC]
end
section
open Go Go.Pv
variable {ky:Nat}
theorem oq{l:List (List aj)}{i:Nat}{s:List aj}(aw:i<=1000000)(h:l[i]? =some s):b3 aF 177 [aB ky,.str s] (ad ky l i) fun r al=>r= .bool true/\al=ad ky l (i+1):=by have:=R1 (ky:=ky) l i aw s;rwa[if_pos h,oX h]at this
theorem jO{l:List (List aj)}{i:Nat}{s:List aj}(aw:i<=1000000)(h:l[i]?≠some s):b3 aF 177 [aB ky,.str s] (ad ky l i) fun r al=>r= .bool false/\al=ad ky l i:=by have:=R1 (ky:=ky) l i aw s;rwa[br h,decide_eq_false h]at this
theorem VB(l:List (List aj)):b3 aF 178 [aB ky] (ad ky l l.length) fun r al=>r= .str []/\al=ad ky l l.length:=by have:=Ge (ky:=ky) l l.length;rwa[List.getElem?_eq_none (cc _)]at this
theorem NT{l:List (List aj)}{i p:Nat}{t:T}{rest:List (List aj)}(h:b3 aF 152 [aB ky] (ad ky l i) (vt ky l (some (t,rest))))(aV:l.length-rest.length=p):b3 aF 152 [aB ky] (ad ky l i) fun r al=>r= .tuple [t.e,.bool true]/\al=ad ky l p:=h.mono fun r al bp=>by rw[<-aV];exact bp
theorem vl{l rest:List (List aj)}{j:Nat}(h:rest<:+l.drop j):rest=l.drop (l.length-rest.length)/\rest.length<=l.length-j:=by have I:rest<:+l:=h.trans (List.drop_suffix j l);exact⟨(aaa I).symm,by have:=h.length_le;simpa using this⟩
def sN(ky:Nat)(l:List (List aj))(x:List T×Nat×Nat):aU:=⟨[(0,.ptr (.obj ky) 0),(2,.ptr (.loc 0) 0),(5,.slice 4 (.own (.loc 1)) (x.1.map T.e))],[(.loc 0,dd),(.obj ky,[.slice 1 .no (b6 l),.int .i64 x.2.1])],[(.loc 1,⟨x.1.length,40,4,none⟩)],2,[.obj ky]⟩
def Cv(ky:Nat)(l:List (List aj))(acc:List T)(t:T)(p:Nat)(m:Int):aU:=⟨[(2,.ptr (.loc 0) 0),(5,.slice 4 (.own (.loc 1)) (acc.map T.e)),(6,.ptr (.loc 2) 0),(8,.int .i64 m)],[(.loc 0,dd),(.loc 2,cells (fD (acc.drop (m+1).toNat) t).e),(.obj ky,[.slice 1 .no (b6 l),.int .i64 (p+1:Nat)])],[(.loc 1,⟨acc.length,40,4,none⟩)],3,[.obj ky]⟩
theorem ac4(l:List (List aj))(aD:l.length<=100000)(hw:∀w∈l,w≠[]/\w.length<=aR):∀n i:Nat,i<=l.length->2*(l.length-i)+1<=n->b3 aF 152 [aB ky] (ad ky l i) (vt ky l (rd eG n (l.drop i))):=by
 intro n;induction n using Nat.strongRecOn with
 |_ n aX=>
 intro i hH aM;obtain⟨n,rfl⟩:∃m,n=m+1:=⟨n-1,Ω⟩;rcases jS hH with rfl|aw
 ·rw[jR];exact R2 l
 obtain⟨w,af⟩:∃w,l[i]? =some w:=⟨_,cL aw⟩;have qd:=hw w (e1 af);rw[fM af];by_cases aV:w=[40];rotate_left
 ·have hr:rd eG (n+1) (w::l.drop (i+1))=(eG w).map fun t=>(t,l.drop (i+1)):=by
   simp only[rd,br aV];split
   ·rename_i h;rcases h with rfl|rfl<;>rfl
   ·rfl
  rw[hr];exact acJ l aD af qd.1 qd.2 aV
 subst aV;have hr:rd eG (n+1) ([40]::l.drop (i+1))=bM eG n (l.drop (i+1)) []:=by simp[rd]
 rw[hr];have az:=bm (ky:=ky) l i;have bZ:aY ((i:Int)+1):=by unfold aY;omega
 obtain⟨R,bt⟩:∃R,R=bM eG n (l.drop (i+1)) []:=⟨_,rfl⟩;rw[<-bt];simp only[ad]at az;refine b3.mk mixed mG xx ye Ψ az.obj fun aG b2=>?_;unfold vN;clear aG b2;simp[aB,ad];(refine CallDo.ob (lP aw) (by first|exact bm _|exact bm ‹_› _) (by simp only[ad,aB,dF,eE];exact aA) (by simp only[ad,aB,dF,eE];exact aA) (by simp[ak,Pv.look,ad,aB]) ?_;rintro r al ⟨rfl,rfl⟩;refine⟨(Same.keys (by simp[ad,aB]) (by simp[ad,aB])),?_⟩;simp[bc,ad,aB]);(with_reducible repeat' first|refine av ?_|simp);(refine CallDo.ob (js af) (by first|exact bm _|exact bm ‹_› _) (by simp only[ad,aB,dF,eE];exact aA) (by simp only[ad,aB,dF,eE];exact aA) (by simp[ak,Pv.look,ad,aB]) ?_;rintro r al ⟨rfl,rfl⟩;refine⟨(Same.keys (by simp[ad,aB]) (by simp[ad,aB])),?_⟩;simp[bc,ad,aB]);(with_reducible repeat' first|refine av ?_|simp[bZ]);refine hR (sN ky l) (fun x=>l.length-x.2.1) (fun x=>x.2.1<=l.length/\2*(l.length-x.2.1)+2<=x.2.2/\x.2.2<=n/\bM eG x.2.2 (l.drop x.2.1) x.1=R/\x.1.length<=x.2.1) ([],i+1,n) (by simp[sN];exact⟨by simp[fresh,kinL,kin,bu,ak,Pv.look,dd],cG (by simp[fresh,kinL,kin,bu,ak,Pv.look,dd]),cI (by simp[fresh,kinL,kin,cw,ak,Pv.look,dd]),Ψ⟩) ⟨aw,by simp;omega,cc _,bt.symm,Ψ⟩ ?_;rintro⟨acc,j,k⟩ ⟨ai,ab,k8,eg,iF⟩ _;simp only at ai ab k8 eg iF;clear bt hr bZ af qd;subst eg;obtain⟨k,rfl⟩:∃m,k=m+1:=⟨k-1,Ω⟩;have pt:j<=1000000:=Ω
 rcases jS ai with rfl|fU
 ·rw[jR];simp only[bM];have dS:=jO (ky:=ky) (l:=l) (i:=l.length) (s:=[41]) pt Ψ;have ke:=R2 (ky:=ky) l;simp[sN];refine CallDo.ob (dS) (bm _ _) (by simp only[ad];exact aA) (by simp only[ad];exact aA) (by simp[ak,Pv.look,ad,aB,kinL,kin]) ?_;rintro r al ⟨rfl,rfl⟩;refine⟨bT _ _ _ _,?_⟩;simp[bc,ad,aB];(with_reducible repeat' first|refine av ?_|simp);refine CallDo.ob (VB l) (bm _ _) (by simp only[ad];exact aA) (by simp only[ad];exact aA) (by simp[ak,Pv.look,ad,aB,kinL,kin]) ?_;rintro r al ⟨rfl,rfl⟩;refine⟨bT _ _ _ _,?_⟩;simp[bc,ad,aB];(with_reducible repeat' first|refine av ?_|simp);refine CallDo.ob (ke) (bm _ _) (by simp only[ad];exact aA) (by simp only[ad];exact aA) (by simp[ak,Pv.look,ad,aB,kinL,kin]) ?_;rintro r al ⟨x,q,bp,rfl,rfl⟩;refine⟨bT _ _ _ _,?_⟩;simp[bc,ad,aB];(with_reducible repeat' first|refine av ?_|simp);refine cO.tm (q) (.nil) false Ψ (sp bp _) (by simp only[ad];exact aA) (by simp only[ad];exact aA) ?_;simp[c8,ba,bg,aT,bD,bC]
 obtain⟨v,aN⟩:∃v,l[j]? =some v:=⟨_,cL fU⟩;rw[fM aN];have hy:aY ((j:Int)+1):=by unfold aY;omega
 by_cases fa:v=[41]
 ·subst fa;have wh:bM eG (k+1) ([41]::l.drop (j+1)) acc=some (fD acc .nil,l.drop (j+1)):=by simp[bM]
  rw[wh];have dS:=oq (ky:=ky) pt aN;have Br:=akW acc;have aI:=uM aN;simp[sN];refine CallDo.ob (dS) (bm _ _) (by simp only[ad];exact aA) (by simp only[ad];exact aA) (by simp[ak,Pv.look,ad,aB,kinL,kin]) ?_;rintro r al ⟨rfl,rfl⟩;refine⟨bT _ _ _ _,?_⟩;simp[bc,ad,aB];(with_reducible repeat' first|refine av ?_|refine aZ Br ?_|refine a1 Br ?_|simp);refine cO.tm (j+1) (fD acc .nil) true Ψ (Cf aI) (by simp only[ad];exact aA) (by simp only[ad];exact aA) ?_;simp[c8,ba,bg,aT,bD,bC]
 have dS:=jO (ky:=ky) pt (show l[j]?≠some [41] by rw[aN];simpa using fa);by_cases mO:v=[46]
 ·subst mO;have dW:=lP (ky:=ky) fU;have dD:=aX k Ω (j+1) Ω Ω;cases du:rd eG k (l.drop (j+1))with
  |none=>
   rw[du]at dD;have he:bM eG (k+1) ([46]::l.drop (j+1)) acc=none:=by simp[bM,du]
   rw[he];simp[sN];refine CallDo.ob (dS) (bm _ _) (by simp only[ad];exact aA) (by simp only[ad];exact aA) (by simp[ak,Pv.look,ad,aB,kinL,kin]) ?_;rintro r al ⟨rfl,rfl⟩;refine⟨bT _ _ _ _,?_⟩;simp[bc,ad,aB];(with_reducible repeat' first|refine av ?_|simp);refine CallDo.ob (js aN) (bm _ _) (by simp only[ad];exact aA) (by simp only[ad];exact aA) (by simp[ak,Pv.look,ad,aB,kinL,kin]) ?_;rintro r al ⟨rfl,rfl⟩;refine⟨bT _ _ _ _,?_⟩;simp[bc,ad,aB];(with_reducible repeat' first|refine av ?_|simp);refine CallDo.ob (dW) (bm _ _) (by simp only[ad];exact aA) (by simp only[ad];exact aA) (by simp[ak,Pv.look,ad,aB,kinL,kin]) ?_;rintro r al ⟨rfl,rfl⟩;refine⟨bT _ _ _ _,?_⟩;simp[bc,ad,aB];(with_reducible repeat' first|refine av ?_|simp[hy]);refine CallDo.ob (dD) (bm _ _) (by simp only[ad];exact aA) (by simp only[ad];exact aA) (by simp[ak,Pv.look,ad,aB,kinL,kin]) ?_;rintro r al ⟨x,q,bp,rfl,rfl⟩;refine⟨bT _ _ _ _,?_⟩;simp[bc,ad,aB];(with_reducible repeat' first|refine av ?_|simp);refine cO.tm (q) (.nil) false Ψ (sp bp _) (by simp only[ad];exact aA) (by simp only[ad];exact aA) ?_;simp[c8,ba,bg,aT,bD,bC]
  |some tr=>
   obtain⟨t,rest⟩:=tr;rw[du]at dD;obtain⟨gn,oO⟩:=vl (re k _ _ _ du).1;obtain⟨p,aV⟩:∃p,p=l.length-rest.length:=⟨_,rfl⟩;rw[<-aV]at gn;have na:=NT dD aV.symm;have eM:p<=l.length:=Ω
   by_cases bL:acc=[]
   ·subst bL;rw[show bM eG (k+1) ([46]::l.drop (j+1)) []=none by simp[bM]];simp[sN];refine CallDo.ob (dS) (bm _ _) (by simp only[ad];exact aA) (by simp only[ad];exact aA) (by simp[ak,Pv.look,ad,aB,kinL,kin]) ?_;rintro r al ⟨rfl,rfl⟩;refine⟨bT _ _ _ _,?_⟩;simp[bc,ad,aB];(with_reducible repeat' first|refine av ?_|simp);refine CallDo.ob (js aN) (bm _ _) (by simp only[ad];exact aA) (by simp only[ad];exact aA) (by simp[ak,Pv.look,ad,aB,kinL,kin]) ?_;rintro r al ⟨rfl,rfl⟩;refine⟨bT _ _ _ _,?_⟩;simp[bc,ad,aB];(with_reducible repeat' first|refine av ?_|simp);refine CallDo.ob (dW) (bm _ _) (by simp only[ad];exact aA) (by simp only[ad];exact aA) (by simp[ak,Pv.look,ad,aB,kinL,kin]) ?_;rintro r al ⟨rfl,rfl⟩;refine⟨bT _ _ _ _,?_⟩;simp[bc,ad,aB];(with_reducible repeat' first|refine av ?_|simp[hy]);refine CallDo.ob (na) (bm _ _) (by simp only[ad];exact aA) (by simp only[ad];exact aA) (by simp[ak,Pv.look,ad,aB,kinL,kin]) ?_;rintro r al ⟨rfl,rfl⟩;refine⟨bT _ _ _ _,?_⟩;simp[bc,ad,aB];(with_reducible repeat' first|refine av ?_|simp);refine cO.tm (p) (.nil) false Ψ (sp eM _) (by simp only[ad];exact aA) (by simp only[ad];exact aA) ?_;simp[c8,ba,bg,aT,bD,bC]
   ·have iG:0<acc.length:=sJ.2 bL;have adD:¬acc.length=0:=Ω
    have adE:acc.length<=100000:=Ω
    have pn:((acc.length:Int)==0)=false:=jj.2 Ω;by_cases tb:l[p]? =some [41]
    ·have wG:=oq (ky:=ky) (show p<=1000000 by omega) tb;have wy:rest=[41]::l.drop (p+1):=by rw[gn];exact fM tb
     rw[show bM eG (k+1) ([46]::l.drop (j+1)) acc=some (fD acc t,l.drop (p+1)) by simp[bM,du,wy,bL]];have aI:=uM tb;have uV:aY ((acc.length:Int)-1):=by unfold aY;omega
     simp[sN];refine CallDo.ob (dS) (bm _ _) (by simp only[ad];exact aA) (by simp only[ad];exact aA) (by simp[ak,Pv.look,ad,aB,kinL,kin]) ?_;rintro r al ⟨rfl,rfl⟩;refine⟨bT _ _ _ _,?_⟩;simp[bc,ad,aB];(with_reducible repeat' first|refine av ?_|simp);refine CallDo.ob (js aN) (bm _ _) (by simp only[ad];exact aA) (by simp only[ad];exact aA) (by simp[ak,Pv.look,ad,aB,kinL,kin]) ?_;rintro r al ⟨rfl,rfl⟩;refine⟨bT _ _ _ _,?_⟩;simp[bc,ad,aB];(with_reducible repeat' first|refine av ?_|simp);refine CallDo.ob (dW) (bm _ _) (by simp only[ad];exact aA) (by simp only[ad];exact aA) (by simp[ak,Pv.look,ad,aB,kinL,kin]) ?_;rintro r al ⟨rfl,rfl⟩;refine⟨bT _ _ _ _,?_⟩;simp[bc,ad,aB];(with_reducible repeat' first|refine av ?_|simp[hy]);refine CallDo.ob (na) (bm _ _) (by simp only[ad];exact aA) (by simp only[ad];exact aA) (by simp[ak,Pv.look,ad,aB,kinL,kin]) ?_;rintro r al ⟨rfl,rfl⟩;refine⟨bT _ _ _ _,?_⟩;simp[bc,ad,aB];(with_reducible repeat' first|refine av ?_|simp[pn]);refine CallDo.ob (wG) (bm _ _) (by simp only[ad];exact aA) (by simp only[ad];exact aA) (by simp[ak,Pv.look,ad,aB,kinL,kin]) ?_;rintro r al ⟨rfl,rfl⟩;refine⟨bT _ _ _ _,?_⟩;simp[bc,ad,aB];(with_reducible repeat' first|refine av ?_|simp[uV]);refine hR (Cv ky l acc t p) (fun m=>(m+1).toNat) (fun m=> -1<=m/\m<acc.length) ((acc.length:Int)-1) (by simp[Cv,fD,uV];exact⟨by simp[fresh,kinL,kin,bu,ak,Pv.look,dd],cG (by simp[fresh,kinL,kin,bu,ak,Pv.look,dd]),cI (by simp[fresh,kinL,kin,cw,ak,Pv.look,dd]),Ψ⟩) ⟨Ω,Ω⟩ ?_;rintro m ⟨anH,GD⟩ _;clear dS wG dD na dW du wy gn;have n4:aY (m-1):=by unfold aY;omega
     by_cases je:0<=m
     ·obtain⟨m,rfl⟩:∃a:Nat,m=a:=⟨m.toNat,Ω⟩;have KK:m<acc.length:=Ω
      obtain⟨y,bG,h4⟩:=fQ KK;have kq:((m:Int)+1).toNat=m+1:=Ω
      have ao:((m:Int)-1+1).toNat=m:=Ω
      have Uo:=X5 y (fD (acc.drop (m+1)) t);simp[Cv,kq,KK,h4];(with_reducible repeat' first|refine av ?_|refine aZ Uo ?_|refine a1 Uo ?_|simp[KK,h4,n4]);refine b1.whl ((m:Int)-1) Ω ⟨Ω,Ω⟩ ?_;simp only[Cv,ao];rw[Uz bG];simp;exact⟨by simp[fresh,kinL,kin,bu,ak,Pv.look,dd],cG (by simp[fresh,kinL,kin,bu,ak,Pv.look,dd]),cI (by simp[fresh,kinL,kin,cw,ak,Pv.look,dd]),Ψ⟩
     ·obtain rfl:m= -1:=Ω
      simp[Cv];(with_reducible repeat' first|refine av ?_|simp);refine cO.tm (p+1) (fD acc t) true Ψ (Cf aI) (by simp only[ad];exact aA) (by simp only[ad];exact aA) ?_;simp[c8,ba,bg,aT,bD,bC]
    ·have wG:=jO (ky:=ky) (show p<=1000000 by omega) tb;have jX:bM eG (k+1) ([46]::l.drop (j+1)) acc=none:=by
      cases rest with
      |nil=>simp[bM,du,bL]
      |cons v r=>
       have:l[p]? =some v:=by rw[<-List.head?_drop,<-gn];rfl
       have DU:¬v=[41]:=by rintro rfl;exact tb this
       simp[bM,du,bL,DU]
     rw[jX];simp[sN];refine CallDo.ob (dS) (bm _ _) (by simp only[ad];exact aA) (by simp only[ad];exact aA) (by simp[ak,Pv.look,ad,aB,kinL,kin]) ?_;rintro r al ⟨rfl,rfl⟩;refine⟨bT _ _ _ _,?_⟩;simp[bc,ad,aB];(with_reducible repeat' first|refine av ?_|simp);refine CallDo.ob (js aN) (bm _ _) (by simp only[ad];exact aA) (by simp only[ad];exact aA) (by simp[ak,Pv.look,ad,aB,kinL,kin]) ?_;rintro r al ⟨rfl,rfl⟩;refine⟨bT _ _ _ _,?_⟩;simp[bc,ad,aB];(with_reducible repeat' first|refine av ?_|simp);refine CallDo.ob (dW) (bm _ _) (by simp only[ad];exact aA) (by simp only[ad];exact aA) (by simp[ak,Pv.look,ad,aB,kinL,kin]) ?_;rintro r al ⟨rfl,rfl⟩;refine⟨bT _ _ _ _,?_⟩;simp[bc,ad,aB];(with_reducible repeat' first|refine av ?_|simp[hy]);refine CallDo.ob (na) (bm _ _) (by simp only[ad];exact aA) (by simp only[ad];exact aA) (by simp[ak,Pv.look,ad,aB,kinL,kin]) ?_;rintro r al ⟨rfl,rfl⟩;refine⟨bT _ _ _ _,?_⟩;simp[bc,ad,aB];(with_reducible repeat' first|refine av ?_|simp[pn]);refine CallDo.ob (wG) (bm _ _) (by simp only[ad];exact aA) (by simp only[ad];exact aA) (by simp[ak,Pv.look,ad,aB,kinL,kin]) ?_;rintro r al ⟨rfl,rfl⟩;refine⟨bT _ _ _ _,?_⟩;simp[bc,ad,aB];(with_reducible repeat' first|refine av ?_|simp);refine cO.tm (p) (.nil) false Ψ (sp eM _) (by simp only[ad];exact aA) (by simp only[ad];exact aA) ?_;simp[c8,ba,bg,aT,bD,bC]
 ·have dD:=aX k Ω j ai Ω;have hT:(v==[46])=false:=jj.2 mO;rw[fM aN]at dD;cases du:rd eG k (v::l.drop (j+1))with
  |none=>rw[du]at dD;rw[show bM eG (k+1) (v::l.drop (j+1)) acc=none by simp[bM,du,fa,mO]];simp[sN];refine CallDo.ob (dS) (bm _ _) (by simp only[ad];exact aA) (by simp only[ad];exact aA) (by simp[ak,Pv.look,ad,aB,kinL,kin]) ?_;rintro r al ⟨rfl,rfl⟩;refine⟨bT _ _ _ _,?_⟩;simp[bc,ad,aB];(with_reducible repeat' first|refine av ?_|simp);refine CallDo.ob (js aN) (bm _ _) (by simp only[ad];exact aA) (by simp only[ad];exact aA) (by simp[ak,Pv.look,ad,aB,kinL,kin]) ?_;rintro r al ⟨rfl,rfl⟩;refine⟨bT _ _ _ _,?_⟩;simp[bc,ad,aB];(with_reducible repeat' first|refine av ?_|simp[hT]);refine CallDo.ob (dD) (bm _ _) (by simp only[ad];exact aA) (by simp only[ad];exact aA) (by simp[ak,Pv.look,ad,aB,kinL,kin]) ?_;rintro r al ⟨x,q,bp,rfl,rfl⟩;refine⟨bT _ _ _ _,?_⟩;simp[bc,ad,aB];(with_reducible repeat' first|refine av ?_|simp);refine cO.tm (q) (.nil) false Ψ (sp bp _) (by simp only[ad];exact aA) (by simp only[ad];exact aA) ?_;simp[c8,ba,bg,aT,bD,bC]
  |some tr=>
   obtain⟨t,rest⟩:=tr;rw[du]at dD;obtain⟨tA,tB⟩:=re k _ _ _ du;rw[<-fM aN]at tA tB;obtain⟨gn,oO⟩:=vl tA;obtain⟨p,aV⟩:∃p,p=l.length-rest.length:=⟨_,rfl⟩;rw[<-aV]at gn;have na:=NT dD aV.symm;have eM:p<=l.length:=Ω
   have KR:j<p:=by simp at tB;omega
   rw[show bM eG (k+1) (v::l.drop (j+1)) acc=bM eG k rest (acc++[t]) by simp[bM,du,fa,mO]];have iG:acc.length+1<=aR:=by unfold aR;omega
   simp[sN];refine CallDo.ob (dS) (bm _ _) (by simp only[ad];exact aA) (by simp only[ad];exact aA) (by simp[ak,Pv.look,ad,aB,kinL,kin]) ?_;rintro r al ⟨rfl,rfl⟩;refine⟨bT _ _ _ _,?_⟩;simp[bc,ad,aB];(with_reducible repeat' first|refine av ?_|simp);refine CallDo.ob (js aN) (bm _ _) (by simp only[ad];exact aA) (by simp only[ad];exact aA) (by simp[ak,Pv.look,ad,aB,kinL,kin]) ?_;rintro r al ⟨rfl,rfl⟩;refine⟨bT _ _ _ _,?_⟩;simp[bc,ad,aB];(with_reducible repeat' first|refine av ?_|simp[hT]);refine CallDo.ob (na) (bm _ _) (by simp only[ad];exact aA) (by simp only[ad];exact aA) (by simp[ak,Pv.look,ad,aB,kinL,kin]) ?_;rintro r al ⟨rfl,rfl⟩;refine⟨bT _ _ _ _,?_⟩;simp[bc,ad,aB];(with_reducible repeat' first|refine av ?_|simp[iG]);refine b1.whl (acc++[t],p,k) (by simp;omega) ⟨eM,by simp;omega,by simp;omega,by simp[<-gn],by simp;omega⟩ ?_;simp[sN];exact⟨by simp[fresh,kinL,kin,bu,ak,Pv.look,dd,cv],cG (by simp[fresh,kinL,kin,bu,ak,Pv.look,dd,cv]),cI (by simp[fresh,kinL,kin,cw,ak,Pv.look,dd,cv]),Ψ⟩
theorem R0(l:List (List aj))(aD:l.length<=100000)(hw:∀w∈l,w≠[]/\w.length<=aR)(i:Nat)(aw:i<=l.length):b3 aF 84 [aB ky] (ad ky l i) (vt ky l (eI (l.drop i))):=by
 have az:=bm (ky:=ky) l i;have dD:=ac4 (ky:=ky) l aD hw (2*(l.length-i)+1) i aw (cc _);cases du:rd eG (2*(l.length-i)+1) (l.drop i)with
 |none=>rw[du]at dD;rw[show eI (l.drop i)=none by unfold eI;rw[hX,du]];simp only[ad]at az;refine b3.mk mixed mG AQ BH Ψ az.obj fun aG b2=>?_;unfold yX;clear aG b2;simp[aB,ad];refine CallDo.ob (dD) (bm _ _) (by simp only[ad];exact aA) (by simp only[ad];exact aA) (by simp[ak,Pv.look,ad,aB,kinL,kin]) ?_;rintro r al ⟨x,q,bp,rfl,rfl⟩;refine⟨bT _ _ _ _,?_⟩;simp[bc,ad,aB];(with_reducible repeat' first|refine av ?_|simp);refine cO.tm (q) (.nil) false Ψ (sp bp _) (by simp only[ad];exact aA) (by simp only[ad];exact aA) ?_;simp[c8,ba,bg,aT,bD,bC]
 |some tr=>
  obtain⟨t,rest⟩:=tr;rw[du]at dD;obtain⟨gn,oO⟩:=vl (re _ _ _ _ du).1;have na:=NT dD rfl;have cN:=N7 t;rw[show eI (l.drop i)=if t.fit then some (t,rest)else none by unfold eI;rw[hX,du]];simp only[ad]at az;by_cases aK:t.fit=true
  ·rw[if_pos aK];rw[aK]at cN;refine b3.mk mixed mG AQ BH Ψ az.obj fun aG b2=>?_;unfold yX;clear aG b2;simp[aB,ad];refine CallDo.ob (na) (bm _ _) (by simp only[ad];exact aA) (by simp only[ad];exact aA) (by simp[ak,Pv.look,ad,aB,kinL,kin]) ?_;rintro r al ⟨rfl,rfl⟩;refine⟨bT _ _ _ _,?_⟩;simp[bc,ad,aB];(with_reducible repeat' first|refine av ?_|refine aZ cN ?_|refine a1 cN ?_|simp);refine cO.tm (l.length-rest.length) (t) true Ψ (Cf rfl) (by simp only[ad];exact aA) (by simp only[ad];exact aA) ?_;simp[c8,ba,bg,aT,bD,bC]
  ·rw[br aK];rw[Bool.not_eq_true]at aK;rw[aK]at cN;refine b3.mk mixed mG AQ BH Ψ az.obj fun aG b2=>?_;unfold yX;clear aG b2;simp[aB,ad];refine CallDo.ob (na) (bm _ _) (by simp only[ad];exact aA) (by simp only[ad];exact aA) (by simp[ak,Pv.look,ad,aB,kinL,kin]) ?_;rintro r al ⟨rfl,rfl⟩;refine⟨bT _ _ _ _,?_⟩;simp[bc,ad,aB];(with_reducible repeat' first|refine av ?_|refine aZ cN ?_|refine a1 cN ?_|simp);refine cO.tm (l.length-rest.length) (.nil) false Ψ (sp Ω _) (by simp only[ad];exact aA) (by simp only[ad];exact aA) ?_;simp[c8,ba,bg,aT,bD,bC]
end
section
open Go Go.Pv
def vO:C:=(ag [hv 2 dd,bK 3 false] (.seq (ag [aa 15 0,cl 16 83 15] (bb 16 (ag [lJ 17 dd [],bF 4 2 17,bK 3 false] .ret) .skip)) (ag [aa 18 0,cl 19 178 18,aa 4 19] (.seq (ag [aa 20 4,bh 21 (.bin .eql false (.t 20) (.c (.str [40])))] (bb 21 (ag [aa 22 0,hD 23 22,a6 24 1 1 23,a8 25 1 24,a7 26 .add 25 1,hD 27 22,a6 28 1 1 27,bF 1 28 26] (ag [gU 29 4 40 [],aa 5 29] (.block 0 (.loop (.block 1 (.seq (ag [aa 30 0,⟨none,.call (some 31) (.c (.func 177 [])) [.t 30,(.c (.str [41]))]⟩] (bb 31 (ag [aa 32 5,⟨none,.opn (some 33) (.c (.func 205 [])) [.t 32]⟩,bF 4 2 33,bK 3 true] .ret) .skip)) (.seq (ag [aa 34 0,cl 35 178 34,bh 36 (.bin .eql false (.t 35) (.c (.str [46]))),aa 37 36,b4 37 true 38 0,aO 37 true (cl 39 83 38),aO 37 true (dK 40 39),fx 41 37 40] (bb 41 (ag [aa 42 0,hD 43 42,a6 44 1 1 43,a8 45 1 44,a7 46 .add 45 1,hD 47 42,a6 48 1 1 47,bF 1 48 46] (ag [aa 50 0,cl 51 152 50,aa 49 51,dZ 52 0 49,dZ 53 1 49,hv 6 dd,bF 4 6 52,aa 7 53] (.seq (ag [aa 54 7,dK 55 54,aa 56 55,b4 56 false 57 5,aO 56 false (cT 58 57),aO 56 false (a7 59 .eql 58 0),dA 60 56 59,aa 61 60,b4 61 false 62 0,⟨(some (61,false)),.call (some 63) (.c (.func 177 [])) [.t 62,(.c (.str [41]))]⟩,aO 61 false (dK 64 63),dA 65 61 64] (bb 65 (ag [lJ 66 dd [],bF 4 2 66,bK 3 false] .ret) .skip)) (.seq (ag [aa 67 5,cT 68 67,a7 69 .sub 68 1,aa 8 69] (.block 2 (.loop (.seq (ag [aa 70 8,a7 71 .geq 70 0] (bb 71 .skip (.exit 2))) (.seq (.block 3 (.drawnL true 132 [aa 74 5,aa 75 8,cP 76 4 74 75,bO 77 4 76,bO 78 4 6] [⟨none,.opn (some 79) (.c (.func 206 [])) [.t 77,.t 78]⟩,bF 4 6 79])) (.region [aa 72 8,a7 73 .sub 72 1,aa 8 73])))))) (ag [bO 80 4 6,bF 4 2 80,bK 3 true] .ret))))) .skip)) (ag [aa 82 0,cl 83 152 82,aa 81 83,dZ 84 0 81,dZ 85 1 81,hv 9 dd,bF 4 9 84,aa 10 85] (.seq (ag [aa 86 10,dK 87 86] (bb 87 (ag [lJ 88 dd [],bF 4 2 88,bK 3 false] .ret) .skip)) (.region [aa 89 5,bO 90 4 9,gU 91 4 40 [.t 90],kZ 92 4 40 89 91,aa 5 92])))))))))) .skip)) (ag [aa 93 0,hD 94 93,a6 95 1 1 94,a8 96 1 95,a7 97 .add 96 1,hD 98 93,a6 99 1 1 98,bF 1 99 97] (.seq (ag [aa 100 4,bh 101 (.sidx (.t 100) (de 0)),bh 102 (.bin .eql false (.t 101) (.c (.int .u8 63)))] (bb 102 (ag [aa 104 4,bh 105 (.ssl (.t 104) (some (de 1)) none),cl 106 179 105,aa 103 106,dZ 107 0 103,dZ 108 1 103,aa 11 107,aa 12 108] (ag [aa 109 11,cl 110 86 109,aa 111 12,aa 112 111,b4 112 true 113 11,aO 112 true (a7 114 .geq 113 0),fx 115 112 114,aa 116 115,b4 116 true 117 11,aO 116 true (a7 118 .leq 117 100000),fx 119 116 118,bF 4 2 110,aa 3 119] .ret)) .skip)) (.seq (ag [aa 120 4,cl 121 170 120] (bb 121 (ag [aa 122 4,cl 123 207 122,bF 4 2 123,bK 3 true] .ret) .skip)) (ag [aa 125 4,cl 126 179 125,aa 124 126,dZ 127 0 124,dZ 128 1 124,aa 13 127,aa 14 128] (ag [aa 129 13,cl 130 208 129,aa 131 14,bF 4 2 130,aa 3 131] .ret)))))))))
@[simp] def aix:List ca:=[.cell 2 true 4,.tmp 3]
def Pw:C:=(ag [hv 2 dd] (ag [lJ 5 dd [],hv 3 dd,bF 4 3 5] (.seq (ag [aa 6 0,cT 7 6,a7 8 .sub 7 1,aa 4 8] (.block 0 (.loop (.seq (ag [aa 9 4,a7 10 .geq 9 0] (bb 10 .skip (.exit 0))) (.seq (.block 1 (.drawnL true 20 [aa 13 0,aa 14 4,cP 15 4 13 14,bO 16 4 15,bO 17 4 3] [⟨none,.opn (some 18) (.c (.func 206 [])) [.t 16,.t 17]⟩,bF 4 3 18])) (.region [aa 11 4,a7 12 .sub 11 1,aa 4 12])))))) (ag [bO 19 4 3,bF 4 2 19] .ret))))
@[simp] def aio:List ca:=[.cell 2 true 4]
def N1:List (Nat×dh):=[
 (3,⟨1,8,.int .i64,.int .i64 0⟩),
 (9,⟨1,16,.str,.str []⟩),
 (38,⟨1,24,.slice 40,.slice 4 .nil []⟩),
 (40,⟨4,56,.struct [(0,3),(1,3),(2,9),(3,38)],.agg [.int .i64 0,.int .i64 0,.str [],.slice 4 .nil []]⟩),
 (131,⟨2,32,.struct [(0,70),(1,3)],.agg [.slice 1 .nil [],.int .i64 0]⟩)]
theorem w6:eW aF N1=true:=by kernel_rfl
theorem yf:cJ N1 vO aix 1 Tryz.f152=true:=by kernel_rfl
theorem xy:aF.funcs[(152:Nat)]? =some Tryz.f152:=Tryz.func152
theorem ahg:cJ N1 Pw aio 1 Tryz.f205=true:=by kernel_rfl
theorem abD:aF.funcs[(205:Nat)]? =some Tryz.f205:=Tryz.func205
def _root_.Go.Pv.T.k(t:T)(κ:Nat):ae:= .agg [.int .i64 t.kind,.int .i64 t.int,.str t.name,.slice 4 (.tr (.loc κ) 0) (t.args.map T.e)]
end
end Go.Proofs.YtlnndmgfngfeiaaGreatDoor
namespace Go.Pv
section
open Go Go.RowKit
theorem CallDo.obK{P:bS}{n:Nat}{args:List ae}{st:aU}{d:aW Nat}{K:aU->Prop}{s:dJ}{Q:ae->dJ->Prop}(aK:FnK P n st.n args s Q)(az:hn s)(ah:∀k cs,look k s.b=some cs->look k st.b=some cs)(he:∀k o,look k s.e=some o->look k st.e=some o)
  (ab:kinL (ak s) args) (tp: .loc st.n∉st.o) (h:∀r al,Q r al->Same s al/\K ⟨fE d r st.t,bc s.b st.b++al.b,bc s.e st.e++al.e,st.n+1,st.o++ev al⟩):CallDo P n args st d K:=by
 refine .inr ⟨s,Q,fun k cs aH=>⟨ah k cs aH,.inl (by simp[aH]),az.kb k cs aH⟩,fun k o aq=>⟨he k o aq,.inr (by simp[aq]),az.ke k o aq⟩,az.obj,ab,tp,aK,fun r al bp=>?_⟩;obtain⟨I,J⟩:=h r al bp;exact⟨⟨fun m hm=>.inl (by rw[I.b];exact hm),fun m hm=>.inl (by rw[I.e];exact hm)⟩,J⟩
theorem dG.ob{dv:List ca}{κ:Nat}{s al:dJ}{Q:ae->dJ->Prop}{e:Exit}{st:aU}(iR:e= .ret\/e= .normal)(az:hn al)(hs:al.e=[])(ff:Same s al)(ah:∀k cs,look k al.b=some cs->look k st.b=some cs)(h:match ba st dv with
  |some (c,bj)=>c/\(cX st.e (aT bj)/\(cC st.e (aT bj)).Nodup/\(cb (aT bj)).Nodup)/\Q (fold κ st.e 0 (aT bj)) al
  |none=>dr):dG dv s κ Q e st:=by
 refine⟨iR,?_⟩;cases h2:ba st dv with
 |none=>simp[h2]at h
 |some x=>
  obtain⟨c,bj⟩:=x;simp only[h2]at h⊢;have Gz:∀l:List (aC×List ae),(∀k x,(k,x)∈l->ak al k)->hd al l:=by
   intro l;induction l with
   |nil=>intro _;trivial
   |cons y l aX=>intro aD;obtain⟨k,x⟩:=y;exact⟨aD k x Ψ,aX fun k x af=>aD k x (by simp[af])⟩
  refine⟨h.1,al,hs,Gz _ fun k x af=>?_,fun k cs aH=>⟨ah k cs aH,.inl (by simp[aH]),az.kb k cs aH⟩,az.obj,h.2.1,h.2.2⟩;exact .inl (by rw[<-ff.b];exact x8 af)
theorem k4.fd{P:bS}{ob:List aC}{f:FuncId}{args:List ae}{st:aU}{d:Nat}{K:aU->Prop}(h:k4 P ob f args st (some d) fun st'=>zb ob st' d/\K (xA st' d)):k4 P ob f args st (some d) K:=by intro C a w ν vs Gj hr iQ aI;refine(h C a w ν vs Gj hr iQ aI).mono fun e w' bR=>?_;obtain⟨v,st',ν',he,⟨I,J⟩,cp⟩:=bR;obtain⟨ν'',au⟩:=RA cp (s:=d) (by rw[Gj];exact I);exact⟨v,_,ν'',he,J,au⟩
theorem k4.fdK{P:bS}{ob:List aC}{f:FuncId}{args:List ae}{st:aU}{d:Nat}{K:aU->Prop}(h:∀K1:aU->Prop,(∀st',zb ob st' d->K (xA st' d)->K1 st')->k4 P ob f args st (some d) K1):k4 P ob f args st (some d) K:=k4.fd (h _ fun _ a b=>⟨a,b⟩)
theorem Jw(N:List aC):∀a b:List ae,fL N (a++b)=fL N a++fL N b
 |[],_=>rfl
 |x::a,b=>by simp[fL,Jw N a b]
theorem CR{α:Type}{N:List aC}{g:α->ae}(h:∀x,gM N (g x)=g x):∀l:List α,fL N (l.map g)=l.map g
 |[]=>rfl
 |x::l=>by simp[fL,h x,CR h l]
theorem Qr{α:Type}{N:List aC}{f:α->Nat->ae}(h:∀x n,aC.loc n∉N->gM N (f x n)=f x n):∀l:List (α×Nat),(∀p∈l,aC.loc p.2∉N)->fL N (dq f l)=dq f l
 |[],_=>rfl
 |x::l,aD=>by have:=Qr h l fun p aV=>aD p (by simp[aV]);unfold dq at this;simp[dq,fL,h x.1 x.2 (aD x Ψ),this]
end
end Go.Pv
namespace Go.Proofs.YtlnndmgfngfeiaaGreatDoor
section
open Go Go.Pv
variable {ky:Nat}
theorem x3:o0 T.k T.e:=⟨fun x n=>rfl,fun x n=>⟨trivial,trivial,trivial,pE n,trivial⟩,fun x n=>by simp[T.k,bD],fun S x n h=>by simp[T.k,Pv.kin,Pv.kinL,h]⟩
@[simp]theorem amC(t:T)(n:Nat):cells (t.k n)=[.int .i64 t.kind,.int .i64 t.int,.str t.name,.slice 4 (.tr (.loc n) 0) (t.args.map T.e)]:=rfl
@[simp]theorem apC(t:T)(n:Nat):eV (t.k n)=true:=rfl
def yw(t:T):aW Nat->ae
 |some n=>t.k n
 |none=>.agg dd
theorem NS(N:List aC)(t:T):gM N t.e=t.e:=by
 induction t with
 |pair a b tH tI=>simp only[T.e,gM,fL,tH,tI]
 |_=>simp only[T.e,gM,fL]
@[simp]theorem aka(N:List aC)(t:T)(n:Nat):gM N (t.k n)=if aC.loc n∈N then t.e else t.k n:=by
 have h:aC.loc n≠cY:=pE n;by_cases aM:aC.loc n∈N
 ·rw[if_pos aM];simp only[T.k,gM,fL,aM,true_or,if_true,CR (NS N)];rw[T.e_eq]
 ·rw[br aM];simp[T.k,gM,fL,aM,h]
@[simp]theorem amO(N:List aC)(l:List (List aj)):fL N (b6 l)=b6 l:=CR (fun _=>rfl) l
@[simp]theorem amN(N:List aC)(l:List T):fL N (l.map T.e)=l.map T.e:=CR (NS N) l
@[simp]theorem an3(t:T)(n:Nat):Pv.isAgg 4 (t.k n):=⟨_,rfl,rfl⟩
def lZ(acc:List (T×Nat))(m:Nat):List ae:=dq T.k (acc.take m)++(acc.drop m).map fun p=>p.1.e
@[simp]theorem an7(acc:List (T×Nat))(m:Nat):(lZ acc m).length=acc.length:=by simp[lZ];omega
theorem TI(acc:List (T×Nat)):lZ acc acc.length=dq T.k acc:=by simp[lZ]
theorem TJ{acc:List (T×Nat)}{m:Nat}{y:T×Nat}(bG:acc[m]? =some y):(lZ acc (m+1))[m]? =some (y.1.k y.2):=by have hm:=(fo.1 bG).1;unfold lZ;rw[qB (by simp;omega)];simp[dq,bG]
theorem G0{S:aC->Prop}{acc:List (T×Nat)}{m:Nat}(h:∀p∈acc,S (.loc p.2)):Pv.kinL S (lZ acc m):=by
 have tL:∀a b:List ae,Pv.kinL S a->Pv.kinL S b->Pv.kinL S (a++b):=fun a b bL ah=>by
  induction a with
  |nil=>exact ah
  |cons x a aX=>simp only[Pv.kinL]at bL;simp only[dF,Pv.kinL];exact⟨bL.1,aX bL.2⟩
 refine tL _ _ (x3.kiL _ fun p aV=>h p (List.mem_of_mem_take aV)) ?_;have:∀l:List (T×Nat),Pv.kinL S (l.map fun p=>p.1.e):=by
  intro l;induction l with
  |nil=>simp[Pv.kinL]
  |cons x l aX=>simp only[fF,Pv.kinL];exact⟨oQ (S:=fun _=>dr) (fun _ h=>h.elim) _ Ψ,aX⟩
 exact this _
theorem Lv{N:List aC}{n:Nat}{acc:List (T×Nat)}{m:Nat}{y:T×Nat}(iF:ko n acc)(bG:acc[m]? =some y)(mP:∀k,aC.loc k∈N->k=y.2\/n<=k)(afm:aC.loc y.2∈N):fL N (lZ acc (m+1))=lZ acc m:=by
 obtain⟨hm,Bi⟩:=fo.1 bG;have aE:acc.take (m+1)=acc.take m++[y]:=by rw[List.take_succ_eq_append_getElem hm,Bi]
 have aI:acc.drop m=y::acc.drop (m+1):=by rw[pR hm,Bi]
 unfold lZ;rw[aE,aI,Jw];have h3:dq T.k (acc.take m++[y])=dq T.k (acc.take m)++[y.1.k y.2]:=Hp T.k _ y.1 y.2;rw[h3,Jw];have b7:∀p∈acc.take m,aC.loc p.2∉N:=by
  intro p aV adv;rcases mP _ adv with e|e
  ·have wm:=iF.nd;have ae1:acc=acc.take m++y::acc.drop (m+1):=by rw[<-aI,ry]
   rw[ae1,List.map_append,qC]at wm;exact wm.2.2 p.2 (nj.2 ⟨p,aV,rfl⟩) y.2 Ψ e
  ·have:=iF.lt p (List.mem_of_mem_take aV);omega
 rw[Qr (fun x n aM=>by rw[aka,br aM]) _ b7];have au:fL N ((acc.drop (m+1)).map fun p=>p.1.e)=(acc.drop (m+1)).map fun p=>p.1.e:=CR (fun x=>NS N x.1) _;rw[au];simp[fL,afm]
def xg(ky n:Nat)(l:List (List aj))(j:Nat)(ob:List aC)(acc:List (T×Nat))(x:Nat×aW Nat×Nat):aU:=
 ⟨[(0,.slice 4 (.own (.loc 1)) (lZ acc x.1)),(2,.ptr (.loc n) 0),(3,.ptr (.loc (n+1)) 0),(4,.int .i64 ((x.1:Int)-1))],
  [(.loc 0,dd),(.obj ky,[.slice 1 .no (b6 l),.int .i64 j]),(.loc n,dd),(.loc (n+1),cells (yw (fD ((acc.drop x.1).map (·.1)) .nil) x.2.1))],
  [(.loc 1,⟨acc.length,40,4,none⟩)],x.2.2,ob⟩
theorem af9{n:Nat}(l:List (List aj))(j:Nat)(acc:List (T×Nat))(t:List (Nat×ae))(K:aU->Prop)(iF:ko n acc)(J:∀p∈acc,2<=p.2)(aM:2<=n)(hlen:acc.length<=1000000)(afc:get 2 t= .ptr (.loc 0) 0)(o:List aC)(aq:∀m,aC.loc m∉o)(aeU:aC.obj ky∈o)
  (da:∀(b:List (aC×List ae)) (e:List (aC×dn)) (o:List aC) (q:Nat),n<=q->K ⟨[(2,.ptr (.loc 0) 0),(33,(fD (acc.map (·.1)) .nil).k q)],(.loc 0,dd)::(.obj ky,[.slice 1 .no (b6 l),.int .i64 j])::b,e,q+1,o⟩):
  k4 aF [.obj ky] 205 [.slice 4 (.own (.loc 1)) (dq T.k acc)] ⟨t,[(.loc 0,dd),(.obj ky,[.slice 1 .no (b6 l),.int .i64 j])],[(.loc 1,⟨acc.length,40,4,none⟩)],n,o⟩ (some 33) K:=by
 refine k4.fdK fun alC Sp=>?_;refine k4.of mixed w6 abD ahg Ψ [(2,.ptr (.loc 0) 0)] (fun k=>k= .loc 0) (by rintro k rfl;simp[fresh,aq];omega) (by simp[afc,kin]) fun ob xV uY xW=>?_;obtain⟨n,rfl⟩:∃k,n=k+2:=⟨n-2,Ω⟩;have wq:∀m,0<m->aC.loc m∉ob:=fun m hm h=>by
  rcases xV _ h with e|e|e
  ·cases e;omega
  ·exact aq _ e
  ·simp at e
 have aez:aY ((acc.length:Int)-1):=by unfold aY;omega
 have wu:aC.obj ky∈ob:=xW _ aeU;clear xV uY xW;have wo:¬n+1<=n:=Ω
 have eT:=x3.kin (iF.mono (show n+2<=n+4 by omega)) (cc _) ob;simp[fresh]at eT;unfold Pw;simp[wq];(with_reducible repeat' first|refine av ?_|simp[wq,aez]);refine hR (xg ky (n+2) l j ob acc) (fun x=>x.1) (fun x=>x.1<=acc.length/\n+4<=x.2.2/\(x.2.1=none->x.1=acc.length)/\∀c,x.2.1=some c->n+2<=c/\c<x.2.2) (acc.length,none,n+4) (by simp[xg,TI,yw];exact⟨by simp[fresh,kinL,kin,bu,ak,Pv.look,dd,wu,wo,eT],cG (by simp[fresh,kinL,kin,bu,ak,Pv.look,dd,wu,wo,eT]),cI (by simp[fresh,kinL,kin,cw,ak,Pv.look,dd,wu,wo,eT]),Ψ⟩) ⟨cc _,cc _,fun _=>rfl,Ψ⟩ ?_;rintro⟨m,c,q⟩ ⟨hm,bp,wa,jd⟩ _;simp only at hm bp wa jd;cases m with
 |zero=>
  cases c with
  |none=>
   have:acc=[]:=List.length_eq_zero_iff.1 (wa rfl).symm;subst this;simp[xg,yw,fD];(with_reducible repeat' first|refine av ?_|simp);simp[yK,ba,bg,aT];refine Sp _ ?_ ?_
   ·simp[cX,dR,cC,dE,cb,dy,wq q Ω]
   ·simp[cC,dE,cb,dy,fold,dV,dU,bC];exact da _ _ _ q Ω
  |some c=>
   simp[xg,yw];(with_reducible repeat' first|refine av ?_|simp);simp[yK,ba,bg,aT];have au:=jd c rfl;refine Sp _ ?_ ?_
   ·simp[cX,dR,cC,dE,cb,dy,wq q Ω,pE]
   ·simp[cC,dE,cb,dy,fold,dV,dU,bC];exact da _ _ _ q Ω
 |succ m=>
  have iS:m<acc.length:=hm;obtain⟨y,bG⟩:∃y,acc[m]? =some y:=⟨_,cL iS⟩;have h4:∀h,(lZ acc (m+1))[m]'h=y.1.k y.2:=fun h=>by have:=TJ bG;rw[cL h]at this;exact gB this
  have n4:aY ((m:Int)-1):=by unfold aY;omega
  have GF:aY (m:Int):=by unfold aY;omega
  have kx:=J y (e1 bG);have afn:=iF.lt y (e1 bG);have b7:∀k,¬n=q+k:=fun k=>Ω
  have qZ:∀k,¬q+k=n:=fun k=>Ω
  have SR:Pv.kinL (fun k=> ¬fresh (q+20) ob k) (lZ acc (m+1)):=G0 fun p aV h=>by have I:=iF.lt p aV;have au:q+20<=p.2:=h.1;omega
  have kP:fD ((acc.drop m).map (·.1)) .nil= .pair y.1 (fD ((acc.drop (m+1)).map (·.1)) .nil):=by obtain⟨gT,Bi⟩:=fo.1 bG;rw[pR gT,Bi];rfl
  have p9:Pv.kinL (fun k=> ¬fresh (q+20+1+1+1+1+1) ob k) (lZ acc m):=G0 fun p aV h=>by have I:=iF.lt p aV;have au:q+20+1+1+1+1+1<=p.2:=h.1;omega
  simp[fresh]at p9;have fJ:¬q+20+1+1+1+1+1<=n+2:=Ω
  have fe:¬q+20+1+1+1+1+1<=n+2+1:=Ω
  cases c with
  |none=>
   have aeD:acc.drop (m+1)=[]:=List.drop_eq_nil_of_le (by have:=wa rfl;omega);have zj:=Lv (N:=[.loc y.2]) iF bG Ψ Ψ;rw[aeD,List.map_drop]at kP;simp[xg,yw];(with_reducible repeat' first|refine av ?_|simp[h4,iS,n4,GF]);refine k4.fdK fun K1 Df=>?_;refine k4.of mixed rn F2 Hy Ψ [(0,.slice 4 (.own (.loc 1)) (lZ acc (m+1))),(2,.ptr (.loc (n+2)) 0),(3,.ptr (.loc (n+2+1)) 0),(4,.int .i64 m)] (fun k=> ¬fresh (q+20) ob k) (fun k h=>h) (by simp[kin,SR];simp[fresh];omega) fun tT xV uY xW=>?_;have tw:∀k,q+20<=k->aC.loc k∉tT:=fun k ab h=>uY _ h ⟨ab,wq k Ω⟩;clear xV uY xW;unfold CM;simp[tw,b7,qZ];(with_reducible repeat' first|refine av ?_|simp[tw,b7,qZ]);simp[yK,ba,bg,aT,b7,qZ];refine Df _ ?_ ?_
   ·simp[cX,dR,dO,ed,cC,dE,cb,dy,tn,tnL,pE,tw _ (show q+20<=q+20+1+1+1+1 by omega),wq y.2 Ω]
   ·simp[cC,dE,cb,dy,tn,tnL,fold,dV,dU,bC,bD,zj,pE,b7,qZ];refine⟨n4,?_⟩;refine b1.whl (m,some (q+20+1+1+1+1),q+20+1+1+1+1+1) Ψ ⟨by simp;omega,by simp;omega,Ψ,fun c e=>by simp at e;subst e;simp;omega⟩ ?_;simp[xg,yw,kP,T.kind,T.int,T.name,T.args,show fD [] T.nil=T.nil from rfl];exact⟨by simp[fresh,kinL,kin,bu,ak,Pv.look,wu,p9,fJ,fe],cG (by simp[fresh,kinL,kin,bu,ak,Pv.look,wu,p9,fJ,fe]),cI (by simp[fresh,kinL,kin,cw,ak,Pv.look,wu,p9,fJ,fe]),Ψ⟩
  |some c=>
   obtain⟨Dl,ant⟩:=jd c rfl;have Lj:¬y.2=c:=Ω
   rw[List.map_drop,List.map_drop]at kP;have zj:=Lv (N:=[.loc y.2,.loc c]) iF bG (by simp;omega) Ψ;have ans:¬fresh (q+20) ob (.loc c):=fun h=>by have:q+20<=c:=h.1;omega
   simp[xg,yw];(with_reducible repeat' first|refine av ?_|simp[h4,iS,n4,GF]);refine k4.fdK fun K1 Df=>?_;refine k4.of mixed rn F2 Hy Ψ [(0,.slice 4 (.own (.loc 1)) (lZ acc (m+1))),(2,.ptr (.loc (n+2)) 0),(3,.ptr (.loc (n+2+1)) 0),(4,.int .i64 m)] (fun k=> ¬fresh (q+20) ob k) (fun k h=>h) (by simp[kin,SR];simp[fresh];omega) fun tT xV uY xW=>?_;have tw:∀k,q+20<=k->aC.loc k∉tT:=fun k ab h=>uY _ h ⟨ab,wq k Ω⟩;clear xV uY xW;unfold CM;simp[tw,b7,qZ];(with_reducible repeat' first|refine av ?_|simp[tw,b7,qZ]);simp[yK,ba,bg,aT,b7,qZ];refine Df _ ?_ ?_
   ·simp[cX,dR,dO,ed,cC,dE,cb,dy,tn,tnL,pE,tw _ (show q+20<=q+20+1+1+1+1 by omega),wq y.2 Ω,wq c Ω,Lj]
   ·simp[cC,dE,cb,dy,tn,tnL,fold,dV,dU,bC,bD,zj,pE,b7,qZ];refine⟨n4,?_⟩;refine b1.whl (m,some (q+20+1+1+1+1),q+20+1+1+1+1+1) Ψ ⟨by simp;omega,by simp;omega,Ψ,fun c e=>by simp at e;subst e;simp;omega⟩ ?_;simp[xg,yw,kP,T.kind,T.int,T.name,T.args,show fD [] T.nil=T.nil from rfl];exact⟨by simp[fresh,kinL,kin,bu,ak,Pv.look,wu,p9,fJ,fe],cG (by simp[fresh,kinL,kin,bu,ak,Pv.look,wu,p9,fJ,fe]),cI (by simp[fresh,kinL,kin,cw,ak,Pv.look,wu,p9,fJ,fe]),Ψ⟩
end
section
open Go Go.Pv
variable {ky:Nat}
def yx(ky:Nat)(l:List (List aj))(o:aW (T×List (List aj)))(κ:Nat)(r:ae)(al:dJ):Prop:=match o with
 |some (t,rest)=>r= .tuple [t.k κ,.bool true]/\al=ad ky l (l.length-rest.length)
 |none=> ∃(x:T) (j:Nat),j<=l.length/\r= .tuple [x.k κ,.bool false]/\al=ad ky l j
theorem sn{l:List (List aj)}{j κ:Nat}(h:j<=l.length)(x:T):yx ky l none κ (.tuple [x.k κ,.bool false]) (ad ky l j):=⟨x,j,h,rfl,rfl⟩
theorem Ce{l:List (List aj)}{j κ:Nat}{t:T}{rest:List (List aj)}(h:l.length-rest.length=j):yx ky l (some (t,rest)) κ (.tuple [t.k κ,.bool true]) (ad ky l j):=⟨rfl,by rw[h]⟩
theorem dG.tm{l:List (List aj)}{i κ:Nat}{o:aW (T×List (List aj))}{st:aU}{e:Exit}(j:Nat)(x:T)(b:Bool)(iR:e= .ret\/e= .normal)(jb:yx ky l o κ (.tuple [x.k κ,.bool b]) (ad ky l j))(ah:∀k cs,Pv.look k (ad ky l j).b=some cs->Pv.look k st.b=some cs)
  (h:match ba st [.cell 2 true 4,.tmp 3]with
   |some (c,bj)=>c/\(cX st.e (aT bj)/\(cC st.e (aT bj)).Nodup/\(cb (aT bj)).Nodup)/\fold κ st.e 0 (aT bj)= .tuple [x.k κ,.bool b]
   |none=>dr):dG [.cell 2 true 4,.tmp 3] (ad ky l i) κ (yx ky l o κ) e st:=by
 refine dG.ob iR (bm l j) rfl (bT _ _ _ _) ah ?_;split at h
 ·rename_i c bj hr;(try rw[hr]);exact⟨h.1,h.2.1,by rw[h.2.2];exact jb⟩
 ·exact h.elim
theorem Ua(l:List (List aj))(κ:Nat):FnK aF 152 κ [aB ky] (ad ky l l.length) (yx ky l none κ):=by have az:=bm (ky:=ky) l l.length;have dW:=CW (ky:=ky) l;simp only[ad]at az;refine FnK.mk mixed w6 xy yf Ψ az.obj rfl fun aG b2=>?_;unfold vO;clear aG b2;simp[aB,ad];(refine CallDo.ob (dW) (by first|exact bm _|exact bm ‹_› _) (by simp only[ad,aB,dF,eE];exact aA) (by simp only[ad,aB,dF,eE];exact aA) (by simp[ak,Pv.look,ad,aB]) ?_;rintro r al ⟨rfl,rfl⟩;refine⟨(Same.keys (by simp[ad,aB]) (by simp[ad,aB])),?_⟩;simp[bc,ad,aB]);(with_reducible repeat' first|refine av ?_|simp);refine dG.tm (l.length) (.nil) false Ψ (sn (cc _) _) (by simp only[ad];exact aA) ?_;simp[ba,bg,aT,cX,dR,cC,dE,cb,dy,tnL,tn,dO,ed,fold,dV,dU,eH,Pv.look,cY,bC,bD,T.k]
theorem yT{e:List (aC×dn)}{κ:Nat}{t:T}(h:t.args=[]):(cX e t.e/\(cC e t.e).Nodup/\(cb t.e).Nodup)/\fold κ e 0 t.e= .agg [.int .i64 t.kind,.int .i64 t.int,.str t.name,.slice 4 (.tr (.loc κ) 0) []]:=by rw[T.e_eq,h];simp[cX,dR,cC,dE,cb,dy,fold,dV,dU,bC]
theorem afQ(l:List (List aj))(aD:l.length<=100000){i:Nat}{w:List aj}(af:l[i]? =some w)(hw:w≠[])(u5:w.length<=aR)(aV:w≠[40])(κ:Nat):FnK aF 152 κ [aB ky] (ad ky l i) (yx ky l ((eG w).map fun t=>(t,l.drop (i+1))) κ):=by
 have az:=bm (ky:=ky) l i;have aw:=(fo.1 af).1;have aI:=uM af;have bZ:aY ((i:Int)+1):=by unfold aY;omega
 obtain⟨c,w',rfl⟩:∃c w',w=c::w':=List.exists_cons_of_ne_nil hw;by_cases aH:c=63
 ·subst aH;have Le:w'.length<=aR:=by simp at u5;omega
  have cA:=E8 w' Le;unfold r8 at cA;simp only[eG];cases aM:gH w' with
  |none=>rw[aM]at cA;simp only[kn,sL]at cA;simp only[vC];simp only[ad]at az;refine FnK.mk mixed w6 xy yf Ψ az.obj rfl fun aG b2=>?_;unfold vO;clear aG b2;simp[aB,ad];(refine CallDo.ob (lP aw) (by first|exact bm _|exact bm ‹_› _) (by simp only[ad,aB,dF,eE];exact aA) (by simp only[ad,aB,dF,eE];exact aA) (by simp[ak,Pv.look,ad,aB]) ?_;rintro r al ⟨rfl,rfl⟩;refine⟨(Same.keys (by simp[ad,aB]) (by simp[ad,aB])),?_⟩;simp[bc,ad,aB]);(with_reducible repeat' first|refine av ?_|simp);(refine CallDo.ob (js af) (by first|exact bm _|exact bm ‹_› _) (by simp only[ad,aB,dF,eE];exact aA) (by simp only[ad,aB,dF,eE];exact aA) (by simp[ak,Pv.look,ad,aB]) ?_;rintro r al ⟨rfl,rfl⟩;refine⟨(Same.keys (by simp[ad,aB]) (by simp[ad,aB])),?_⟩;simp[bc,ad,aB]);(with_reducible repeat' first|refine av ?_|refine aZ cA ?_|refine a1 cA ?_|refine aZ (ot _) ?_|refine a1 (ot _) ?_|simp[bZ]);refine dG.tm (i+1) (.var 0) false Ψ (sn Ω _) (by simp only[ad];exact aA) ?_;simp[ba,bg,aT,cX,dR,cC,dE,cb,dy,tnL,tn,dO,ed,fold,dV,dU,eH,Pv.look,cY,bC,bD,T.k];exact yT rfl
  |some v=>
   rw[aM]at cA;simp only[kn,sL]at cA;simp only;by_cases aN:0<=v/\v<=100000
   ·rw[if_pos aN];simp only[lM];simp only[ad]at az;refine FnK.mk mixed w6 xy yf Ψ az.obj rfl fun aG b2=>?_;unfold vO;clear aG b2;simp[aB,ad];(refine CallDo.ob (lP aw) (by first|exact bm _|exact bm ‹_› _) (by simp only[ad,aB,dF,eE];exact aA) (by simp only[ad,aB,dF,eE];exact aA) (by simp[ak,Pv.look,ad,aB]) ?_;rintro r al ⟨rfl,rfl⟩;refine⟨(Same.keys (by simp[ad,aB]) (by simp[ad,aB])),?_⟩;simp[bc,ad,aB]);(with_reducible repeat' first|refine av ?_|simp);(refine CallDo.ob (js af) (by first|exact bm _|exact bm ‹_› _) (by simp only[ad,aB,dF,eE];exact aA) (by simp only[ad,aB,dF,eE];exact aA) (by simp[ak,Pv.look,ad,aB]) ?_;rintro r al ⟨rfl,rfl⟩;refine⟨(Same.keys (by simp[ad,aB]) (by simp[ad,aB])),?_⟩;simp[bc,ad,aB]);(with_reducible repeat' first|refine av ?_|refine aZ cA ?_|refine a1 cA ?_|refine aZ (ot _) ?_|refine a1 (ot _) ?_|simp[bZ,aN.1,aN.2]);refine dG.tm (i+1) (.var v) true Ψ (Ce aI) (by simp only[ad];exact aA) ?_;simp[ba,bg,aT,cX,dR,cC,dE,cb,dy,tnL,tn,dO,ed,fold,dV,dU,eH,Pv.look,cY,bC,bD,T.k];exact yT rfl
   ·rw[br aN];simp only[vC];simp only[ad]at az;refine FnK.mk mixed w6 xy yf Ψ az.obj rfl fun aG b2=>?_;unfold vO;clear aG b2;simp[aB,ad];(refine CallDo.ob (lP aw) (by first|exact bm _|exact bm ‹_› _) (by simp only[ad,aB,dF,eE];exact aA) (by simp only[ad,aB,dF,eE];exact aA) (by simp[ak,Pv.look,ad,aB]) ?_;rintro r al ⟨rfl,rfl⟩;refine⟨(Same.keys (by simp[ad,aB]) (by simp[ad,aB])),?_⟩;simp[bc,ad,aB]);(with_reducible repeat' first|refine av ?_|simp);(refine CallDo.ob (js af) (by first|exact bm _|exact bm ‹_› _) (by simp only[ad,aB,dF,eE];exact aA) (by simp only[ad,aB,dF,eE];exact aA) (by simp[ak,Pv.look,ad,aB]) ?_;rintro r al ⟨rfl,rfl⟩;refine⟨(Same.keys (by simp[ad,aB]) (by simp[ad,aB])),?_⟩;simp[bc,ad,aB]);by_cases bz:0<=v
    ·have I:¬v<=100000:=fun h=>aN ⟨bz,h⟩;(with_reducible repeat' first|refine av ?_|refine aZ cA ?_|refine a1 cA ?_|refine aZ (ot _) ?_|refine a1 (ot _) ?_|simp[bZ,bz,I]);refine dG.tm (i+1) (.var v) false Ψ (sn Ω _) (by simp only[ad];exact aA) ?_;simp[ba,bg,aT,cX,dR,cC,dE,cb,dy,tnL,tn,dO,ed,fold,dV,dU,eH,Pv.look,cY,bC,bD,T.k];exact yT rfl
    ·(with_reducible repeat' first|refine av ?_|refine aZ cA ?_|refine a1 cA ?_|refine aZ (ot _) ?_|refine a1 (ot _) ?_|simp[bZ,bz]);refine dG.tm (i+1) (.var v) false Ψ (sn Ω _) (by simp only[ad];exact aA) ?_;simp[ba,bg,aT,cX,dR,cC,dE,cb,dy,tnL,tn,dO,ed,fold,dV,dU,eH,Pv.look,cY,bC,bD,T.k];exact yT rfl
 ·have bL:eG (c::w')=if gb (c::w')then some (.sym (c::w'))else(gH (c::w')).map .num:=by
   unfold eG;split
   ·rename_i e;cases e;exact absurd rfl aH
   ·rfl
  have Dl:¬c.toNat=63:=fun h=>aH (UInt8.toNat_inj.1 (by simpa using h));have zk:((c.toNat:Int)==63)=false:=jj.2 Ω;have u0:(c==40&&w'.isEmpty)=false:=by
   rw[Bool.and_eq_false_iff];by_cases h:c=40
   ·right;cases w' with
    |nil=>exact absurd (by rw[h]) aV
    |cons=>rfl
   ·left;simpa using h
  have c1:=E7 (c::w');rw[bL];by_cases oK:gb (c::w')=true
  ·rw[if_pos oK];rw[oK]at c1;simp only[lM];simp only[ad]at az;refine FnK.mk mixed w6 xy yf Ψ az.obj rfl fun aG b2=>?_;unfold vO;clear aG b2;simp[aB,ad];(refine CallDo.ob (lP aw) (by first|exact bm _|exact bm ‹_› _) (by simp only[ad,aB,dF,eE];exact aA) (by simp only[ad,aB,dF,eE];exact aA) (by simp[ak,Pv.look,ad,aB]) ?_;rintro r al ⟨rfl,rfl⟩;refine⟨(Same.keys (by simp[ad,aB]) (by simp[ad,aB])),?_⟩;simp[bc,ad,aB]);(with_reducible repeat' first|refine av ?_|simp);(refine CallDo.ob (js af) (by first|exact bm _|exact bm ‹_› _) (by simp only[ad,aB,dF,eE];exact aA) (by simp only[ad,aB,dF,eE];exact aA) (by simp[ak,Pv.look,ad,aB]) ?_;rintro r al ⟨rfl,rfl⟩;refine⟨(Same.keys (by simp[ad,aB]) (by simp[ad,aB])),?_⟩;simp[bc,ad,aB]);(with_reducible repeat' first|refine av ?_|refine aZ c1 ?_|refine a1 c1 ?_|refine aZ (Is _) ?_|refine a1 (Is _) ?_|simp[bZ,zk,u0]);refine dG.tm (i+1) (.sym (c::w')) true Ψ (Ce aI) (by simp only[ad];exact aA) ?_;simp[ba,bg,aT,cX,dR,cC,dE,cb,dy,tnL,tn,dO,ed,fold,dV,dU,eH,Pv.look,cY,bC,bD,T.k];exact yT rfl
  ·rw[br oK];rw[Bool.not_eq_true]at oK;rw[oK]at c1;have cA:=E8 (c::w') u5;unfold r8 at cA;cases aM:gH (c::w')with
   |none=>rw[aM]at cA;simp only[kn,sL]at cA;simp only[vC];simp only[ad]at az;refine FnK.mk mixed w6 xy yf Ψ az.obj rfl fun aG b2=>?_;unfold vO;clear aG b2;simp[aB,ad];(refine CallDo.ob (lP aw) (by first|exact bm _|exact bm ‹_› _) (by simp only[ad,aB,dF,eE];exact aA) (by simp only[ad,aB,dF,eE];exact aA) (by simp[ak,Pv.look,ad,aB]) ?_;rintro r al ⟨rfl,rfl⟩;refine⟨(Same.keys (by simp[ad,aB]) (by simp[ad,aB])),?_⟩;simp[bc,ad,aB]);(with_reducible repeat' first|refine av ?_|simp);(refine CallDo.ob (js af) (by first|exact bm _|exact bm ‹_› _) (by simp only[ad,aB,dF,eE];exact aA) (by simp only[ad,aB,dF,eE];exact aA) (by simp[ak,Pv.look,ad,aB]) ?_;rintro r al ⟨rfl,rfl⟩;refine⟨(Same.keys (by simp[ad,aB]) (by simp[ad,aB])),?_⟩;simp[bc,ad,aB]);(with_reducible repeat' first|refine av ?_|refine aZ c1 ?_|refine a1 c1 ?_|refine aZ cA ?_|refine a1 cA ?_|refine aZ (yF _) ?_|refine a1 (yF _) ?_|simp[bZ,zk,u0]);refine dG.tm (i+1) (.num 0) false Ψ (sn Ω _) (by simp only[ad];exact aA) ?_;simp[ba,bg,aT,cX,dR,cC,dE,cb,dy,tnL,tn,dO,ed,fold,dV,dU,eH,Pv.look,cY,bC,bD,T.k];exact yT rfl
   |some v=>rw[aM]at cA;simp only[kn,sL]at cA;simp only[lM];simp only[ad]at az;refine FnK.mk mixed w6 xy yf Ψ az.obj rfl fun aG b2=>?_;unfold vO;clear aG b2;simp[aB,ad];(refine CallDo.ob (lP aw) (by first|exact bm _|exact bm ‹_› _) (by simp only[ad,aB,dF,eE];exact aA) (by simp only[ad,aB,dF,eE];exact aA) (by simp[ak,Pv.look,ad,aB]) ?_;rintro r al ⟨rfl,rfl⟩;refine⟨(Same.keys (by simp[ad,aB]) (by simp[ad,aB])),?_⟩;simp[bc,ad,aB]);(with_reducible repeat' first|refine av ?_|simp);(refine CallDo.ob (js af) (by first|exact bm _|exact bm ‹_› _) (by simp only[ad,aB,dF,eE];exact aA) (by simp only[ad,aB,dF,eE];exact aA) (by simp[ak,Pv.look,ad,aB]) ?_;rintro r al ⟨rfl,rfl⟩;refine⟨(Same.keys (by simp[ad,aB]) (by simp[ad,aB])),?_⟩;simp[bc,ad,aB]);(with_reducible repeat' first|refine av ?_|refine aZ c1 ?_|refine a1 c1 ?_|refine aZ cA ?_|refine a1 cA ?_|refine aZ (yF _) ?_|refine a1 (yF _) ?_|simp[bZ,zk,u0]);refine dG.tm (i+1) (.num v) true Ψ (Ce aI) (by simp only[ad];exact aA) ?_;simp[ba,bg,aT,cX,dR,cC,dE,cb,dy,tnL,tn,dO,ed,fold,dV,dU,eH,Pv.look,cY,bC,bD,T.k];exact yT rfl
end
section
open Go Go.Pv
variable {ky:Nat}
theorem _root_.Go.Pv.FnK.mono{P:bS}{f κ:Nat}{args:List ae}{s:dJ}{Q o1:ae->dJ->Prop}(h:FnK P f κ args s Q)(bp:∀r al,Q r al->o1 r al):FnK P f κ args s o1:=fun w ν vs gl I J au=>(h w ν vs gl I J au).mono fun e w' bR=>by obtain⟨v,r,al,ν',a,b,c⟩:=bR;exact⟨v,r,al,ν',a,bp _ _ b,c⟩
def OR(ky:Nat)(l:List (List aj))(i:Nat)(o:aW (T×List (List aj))):Prop:= ∀κ,FnK aF 152 κ [aB ky] (ad ky l i) (yx ky l o κ)
theorem LR{l:List (List aj)}{i p:Nat}{t:T}{rest:List (List aj)}(h:OR ky l i (some (t,rest)))(aV:l.length-rest.length=p)(κ:Nat):FnK aF 152 κ [aB ky] (ad ky l i) fun r al=>r= .tuple [t.k κ,.bool true]/\al=ad ky l p:=(h κ).mono fun r al bp=>by rw[<-aV];exact bp
def sM(ky:Nat)(l:List (List aj))(x:List (T×Nat)×Nat×Nat×Nat):aU:=⟨[(0,.ptr (.obj ky) 0),(2,.ptr (.loc 0) 0),(5,.slice 4 (.own (.loc 1)) (dq T.k x.1))],[(.loc 0,dd),(.obj ky,[.slice 1 .no (b6 l),.int .i64 x.2.1])],[(.loc 1,⟨x.1.length,40,4,none⟩)],x.2.2.2+2,[.obj ky]⟩
def Cw(ky:Nat)(l:List (List aj))(acc:List (T×Nat))(t:T)(p q:Nat)(x:Nat×Nat×Nat):aU:=⟨[(2,.ptr (.loc 0) 0),(5,.slice 4 (.own (.loc 1)) (lZ acc x.1)),(6,.ptr (.loc (q+3)) 0),(8,.int .i64 ((x.1:Int)-1))],[(.loc 0,dd),(.loc (q+3),cells ((fD ((acc.drop x.1).map (·.1)) t).k x.2.1)),(.obj ky,[.slice 1 .no (b6 l),.int .i64 (p+1:Nat)])],[(.loc 1,⟨acc.length,40,4,none⟩)],x.2.2,[.obj ky]⟩
theorem afX(l:List (List aj))(aD:l.length<=100000)(hw:∀w∈l,w≠[]/\w.length<=aR):∀n i:Nat,i<=l.length->2*(l.length-i)+1<=n->OR ky l i (rd eG n (l.drop i)):=by
 intro n;induction n using Nat.strongRecOn with
 |_ n aX=>
 intro i hH aM κ;obtain⟨n,rfl⟩:∃m,n=m+1:=⟨n-1,Ω⟩;rcases jS hH with rfl|aw
 ·rw[jR];exact Ua l κ
 obtain⟨w,af⟩:∃w,l[i]? =some w:=⟨_,cL aw⟩;have qd:=hw w (e1 af);rw[fM af];by_cases aV:w=[40];rotate_left
 ·have hr:rd eG (n+1) (w::l.drop (i+1))=(eG w).map fun t=>(t,l.drop (i+1)):=by
   simp only[rd,br aV];split
   ·rename_i h;rcases h with rfl|rfl<;>rfl
   ·rfl
  rw[hr];exact afQ l aD af qd.1 qd.2 aV κ
 subst aV;have hr:rd eG (n+1) ([40]::l.drop (i+1))=bM eG n (l.drop (i+1)) []:=by simp[rd]
 rw[hr];have az:=bm (ky:=ky) l i;have bZ:aY ((i:Int)+1):=by unfold aY;omega
 obtain⟨R,bt⟩:∃R,R=bM eG n (l.drop (i+1)) []:=⟨_,rfl⟩;rw[<-bt];simp only[ad]at az;refine FnK.mk mixed w6 xy yf Ψ az.obj rfl fun aG b2=>?_;unfold vO;clear aG b2;simp[aB,ad];(refine CallDo.ob (lP aw) (by first|exact bm _|exact bm ‹_› _) (by simp only[ad,aB,dF,eE];exact aA) (by simp only[ad,aB,dF,eE];exact aA) (by simp[ak,Pv.look,ad,aB]) ?_;rintro r al ⟨rfl,rfl⟩;refine⟨(Same.keys (by simp[ad,aB]) (by simp[ad,aB])),?_⟩;simp[bc,ad,aB]);(with_reducible repeat' first|refine av ?_|simp);(refine CallDo.ob (js af) (by first|exact bm _|exact bm ‹_› _) (by simp only[ad,aB,dF,eE];exact aA) (by simp only[ad,aB,dF,eE];exact aA) (by simp[ak,Pv.look,ad,aB]) ?_;rintro r al ⟨rfl,rfl⟩;refine⟨(Same.keys (by simp[ad,aB]) (by simp[ad,aB])),?_⟩;simp[bc,ad,aB]);(with_reducible repeat' first|refine av ?_|simp[bZ]);refine hR (sM ky l) (fun x=>l.length-x.2.1) (fun x=>x.2.1<=l.length/\2*(l.length-x.2.1)+2<=x.2.2.1/\x.2.2.1<=n/\bM eG x.2.2.1 (l.drop x.2.1) (x.1.map (·.1))=R/\x.1.length<=x.2.1/\ko (x.2.2.2+2) x.1/\∀p∈x.1,2<=p.2) ([],i+1,n,0) (by simp[sM];exact⟨by simp[fresh,kinL,kin,bu,ak,Pv.look,dd],cG (by simp[fresh,kinL,kin,bu,ak,Pv.look,dd]),cI (by simp[fresh,kinL,kin,cw,ak,Pv.look,dd]),Ψ⟩) ⟨aw,by simp;omega,cc _,bt.symm,Ψ,.nil _,Ψ⟩ ?_;rintro⟨acc,j,k,q⟩ ⟨ai,ab,k8,eg,iF,fV,qa⟩ _;simp only at ai ab k8 eg iF fV qa;clear bt hr bZ af qd;subst eg;obtain⟨k,rfl⟩:∃m,k=m+1:=⟨k-1,Ω⟩;have pt:j<=1000000:=Ω
 rcases jS ai with rfl|fU
 ·rw[jR];simp only[bM];have dS:=jO (ky:=ky) (l:=l) (i:=l.length) (s:=[41]) pt Ψ;have ke:=Ua (ky:=ky) l;simp[sM];refine CallDo.ob (dS) (bm _ _) (by simp only[ad];exact aA) (by simp only[ad];exact aA) (by simp[ak,Pv.look,ad,aB,kinL,kin]) ?_;rintro r al ⟨rfl,rfl⟩;refine⟨bT _ _ _ _,?_⟩;simp[bc,ad,aB];(with_reducible repeat' first|refine av ?_|simp);refine CallDo.ob (VB l) (bm _ _) (by simp only[ad];exact aA) (by simp only[ad];exact aA) (by simp[ak,Pv.look,ad,aB,kinL,kin]) ?_;rintro r al ⟨rfl,rfl⟩;refine⟨bT _ _ _ _,?_⟩;simp[bc,ad,aB];(with_reducible repeat' first|refine av ?_|simp);refine CallDo.obK (ke _) (bm _ _) (by simp only[ad];exact aA) (by simp only[ad];exact aA) (by simp[ak,Pv.look,ad,aB,kinL,kin]) Ψ ?_;rintro r al ⟨x,iv,bp,rfl,rfl⟩;refine⟨bT _ _ _ _,?_⟩;simp[bc,ad,aB];(with_reducible repeat' first|refine av ?_|simp);refine dG.tm (iv) (.nil) false Ψ (sn bp _) (by simp only[ad];exact aA) ?_;simp[ba,bg,aT,cX,dR,cC,dE,cb,dy,tnL,tn,dO,ed,fold,dV,dU,eH,Pv.look,cY,bC,bD,T.k]
 obtain⟨v,aN⟩:∃v,l[j]? =some v:=⟨_,cL fU⟩;rw[fM aN];have hy:aY ((j:Int)+1):=by unfold aY;omega
 by_cases fa:v=[41]
 ·subst fa;have wh:bM eG (k+1) ([41]::l.drop (j+1)) (acc.map (·.1))=some (fD (acc.map (·.1)) .nil,l.drop (j+1)):=by simp[bM]
  rw[wh];have dS:=oq (ky:=ky) pt aN;have aI:=uM aN;simp[sM];refine CallDo.ob (dS) (bm _ _) (by simp only[ad];exact aA) (by simp only[ad];exact aA) (by simp[ak,Pv.look,ad,aB,kinL,kin]) ?_;rintro r al ⟨rfl,rfl⟩;refine⟨bT _ _ _ _,?_⟩;simp[bc,ad,aB];(with_reducible repeat' first|refine av ?_|simp);refine af9 l (j+1) acc _ _ fV qa Ω Ω (by simp[Pv.get]) _ Ψ Ψ fun b e o q' anK=>?_;simp;(with_reducible repeat' first|refine av ?_|simp);refine dG.tm (j+1) (fD (acc.map (·.1)) .nil) true Ψ (Ce aI) (by simp only[ad];exact aA) ?_;simp[ba,bg,aT,cX,dR,cC,dE,cb,dy,tnL,tn,dO,ed,fold,dV,dU,eH,Pv.look,cY,bC,bD,T.k]
 have dS:=jO (ky:=ky) pt (show l[j]?≠some [41] by rw[aN];simpa using fa);by_cases mO:v=[46]
 ·subst mO;have dW:=lP (ky:=ky) fU;have dD:=aX k Ω (j+1) Ω Ω;cases du:rd eG k (l.drop (j+1))with
  |none=>
   rw[du]at dD;have he:bM eG (k+1) ([46]::l.drop (j+1)) (acc.map (·.1))=none:=by simp[bM,du]
   rw[he];simp[sM];refine CallDo.ob (dS) (bm _ _) (by simp only[ad];exact aA) (by simp only[ad];exact aA) (by simp[ak,Pv.look,ad,aB,kinL,kin]) ?_;rintro r al ⟨rfl,rfl⟩;refine⟨bT _ _ _ _,?_⟩;simp[bc,ad,aB];(with_reducible repeat' first|refine av ?_|simp);refine CallDo.ob (js aN) (bm _ _) (by simp only[ad];exact aA) (by simp only[ad];exact aA) (by simp[ak,Pv.look,ad,aB,kinL,kin]) ?_;rintro r al ⟨rfl,rfl⟩;refine⟨bT _ _ _ _,?_⟩;simp[bc,ad,aB];(with_reducible repeat' first|refine av ?_|simp);refine CallDo.ob (dW) (bm _ _) (by simp only[ad];exact aA) (by simp only[ad];exact aA) (by simp[ak,Pv.look,ad,aB,kinL,kin]) ?_;rintro r al ⟨rfl,rfl⟩;refine⟨bT _ _ _ _,?_⟩;simp[bc,ad,aB];(with_reducible repeat' first|refine av ?_|simp[hy]);refine CallDo.obK (dD _) (bm _ _) (by simp only[ad];exact aA) (by simp only[ad];exact aA) (by simp[ak,Pv.look,ad,aB,kinL,kin]) Ψ ?_;rintro r al ⟨x,iv,bp,rfl,rfl⟩;refine⟨bT _ _ _ _,?_⟩;simp[bc,ad,aB];(with_reducible repeat' first|refine av ?_|simp);refine dG.tm (iv) (.nil) false Ψ (sn bp _) (by simp only[ad];exact aA) ?_;simp[ba,bg,aT,cX,dR,cC,dE,cb,dy,tnL,tn,dO,ed,fold,dV,dU,eH,Pv.look,cY,bC,bD,T.k]
  |some tr=>
   obtain⟨t,rest⟩:=tr;rw[du]at dD;obtain⟨gn,oO⟩:=vl (re k _ _ _ du).1;obtain⟨p,aV⟩:∃p,p=l.length-rest.length:=⟨_,rfl⟩;rw[<-aV]at gn;have na:=LR dD aV.symm;have eM:p<=l.length:=Ω
   by_cases bL:acc=[]
   ·subst bL;rw[show bM eG (k+1) ([46]::l.drop (j+1)) (([]:List (T×Nat)).map (·.1))=none by simp[bM]];simp[sM];refine CallDo.ob (dS) (bm _ _) (by simp only[ad];exact aA) (by simp only[ad];exact aA) (by simp[ak,Pv.look,ad,aB,kinL,kin]) ?_;rintro r al ⟨rfl,rfl⟩;refine⟨bT _ _ _ _,?_⟩;simp[bc,ad,aB];(with_reducible repeat' first|refine av ?_|simp);refine CallDo.ob (js aN) (bm _ _) (by simp only[ad];exact aA) (by simp only[ad];exact aA) (by simp[ak,Pv.look,ad,aB,kinL,kin]) ?_;rintro r al ⟨rfl,rfl⟩;refine⟨bT _ _ _ _,?_⟩;simp[bc,ad,aB];(with_reducible repeat' first|refine av ?_|simp);refine CallDo.ob (dW) (bm _ _) (by simp only[ad];exact aA) (by simp only[ad];exact aA) (by simp[ak,Pv.look,ad,aB,kinL,kin]) ?_;rintro r al ⟨rfl,rfl⟩;refine⟨bT _ _ _ _,?_⟩;simp[bc,ad,aB];(with_reducible repeat' first|refine av ?_|simp[hy]);refine CallDo.obK (na _) (bm _ _) (by simp only[ad];exact aA) (by simp only[ad];exact aA) (by simp[ak,Pv.look,ad,aB,kinL,kin]) Ψ ?_;rintro r al ⟨rfl,rfl⟩;refine⟨bT _ _ _ _,?_⟩;simp[bc,ad,aB];(with_reducible repeat' first|refine av ?_|simp);refine dG.tm (p) (.nil) false Ψ (sn eM _) (by simp only[ad];exact aA) ?_;simp[ba,bg,aT,cX,dR,cC,dE,cb,dy,tnL,tn,dO,ed,fold,dV,dU,eH,Pv.look,cY,bC,bD,T.k]
   ·have iG:0<acc.length:=sJ.2 bL;have adD:¬acc.length=0:=Ω
    have adE:acc.length<=100000:=Ω
    have pn:((acc.length:Int)==0)=false:=jj.2 Ω;by_cases tb:l[p]? =some [41]
    ·have wG:=oq (ky:=ky) (show p<=1000000 by omega) tb;have wy:rest=[41]::l.drop (p+1):=by rw[gn];exact fM tb
     rw[show bM eG (k+1) ([46]::l.drop (j+1)) (acc.map (·.1))=some (fD (acc.map (·.1)) t,l.drop (p+1)) by simp[bM,du,wy,bL]];have aI:=uM tb;have uV:aY ((acc.length:Int)-1):=by unfold aY;omega
     have eT:=x3.kin (fV.mono (show q+2<=q+2+2 by omega)) (cc _) [.obj ky];simp[fresh]at eT;simp[sM];refine CallDo.ob (dS) (bm _ _) (by simp only[ad];exact aA) (by simp only[ad];exact aA) (by simp[ak,Pv.look,ad,aB,kinL,kin]) ?_;rintro r al ⟨rfl,rfl⟩;refine⟨bT _ _ _ _,?_⟩;simp[bc,ad,aB];(with_reducible repeat' first|refine av ?_|simp);refine CallDo.ob (js aN) (bm _ _) (by simp only[ad];exact aA) (by simp only[ad];exact aA) (by simp[ak,Pv.look,ad,aB,kinL,kin]) ?_;rintro r al ⟨rfl,rfl⟩;refine⟨bT _ _ _ _,?_⟩;simp[bc,ad,aB];(with_reducible repeat' first|refine av ?_|simp);refine CallDo.ob (dW) (bm _ _) (by simp only[ad];exact aA) (by simp only[ad];exact aA) (by simp[ak,Pv.look,ad,aB,kinL,kin]) ?_;rintro r al ⟨rfl,rfl⟩;refine⟨bT _ _ _ _,?_⟩;simp[bc,ad,aB];(with_reducible repeat' first|refine av ?_|simp[hy]);refine CallDo.obK (na _) (bm _ _) (by simp only[ad];exact aA) (by simp only[ad];exact aA) (by simp[ak,Pv.look,ad,aB,kinL,kin]) Ψ ?_;rintro r al ⟨rfl,rfl⟩;refine⟨bT _ _ _ _,?_⟩;simp[bc,ad,aB];(with_reducible repeat' first|refine av ?_|simp[pn]);refine CallDo.ob (wG) (bm _ _) (by simp only[ad];exact aA) (by simp only[ad];exact aA) (by simp[ak,Pv.look,ad,aB,kinL,kin]) ?_;rintro r al ⟨rfl,rfl⟩;refine⟨bT _ _ _ _,?_⟩;simp[bc,ad,aB];(with_reducible repeat' first|refine av ?_|simp[uV]);refine hR (Cw ky l acc t p q) (fun x=>x.1) (fun x=>x.1<=acc.length/\q+4<=x.2.2/\q+2<=x.2.1/\x.2.1<x.2.2) (acc.length,q+2,q+4) (by simp[Cw,TI,fD,uV];exact⟨by simp[fresh,kinL,kin,bu,ak,Pv.look,dd,eT],cG (by simp[fresh,kinL,kin,bu,ak,Pv.look,dd,eT]),cI (by simp[fresh,kinL,kin,cw,ak,Pv.look,dd,eT]),Ψ⟩) ⟨cc _,cc _,cc _,Ψ⟩ ?_;rintro⟨m,c,r⟩ ⟨hm,hr,jd,kt⟩ _;simp only at hm hr jd kt;clear dS wG dD na dW du wy gn eT;cases m with
     |zero=>simp[Cw];(with_reducible repeat' first|refine av ?_|simp);refine dG.tm (p+1) (fD (acc.map (·.1)) t) true Ψ (Ce aI) (by simp only[ad];exact aA) ?_;simp[ba,bg,aT,cX,dR,cC,dE,cb,dy,tnL,tn,dO,ed,fold,dV,dU,eH,Pv.look,cY,bC,bD,T.k]
     |succ m=>
      have iS:m<acc.length:=hm;obtain⟨y,bG⟩:∃y,acc[m]? =some y:=⟨_,cL iS⟩;have h4:∀h,(lZ acc (m+1))[m]'h=y.1.k y.2:=fun h=>by have:=TJ bG;rw[cL h]at this;exact gB this
      have n4:aY ((m:Int)-1):=by unfold aY;omega
      have GF:aY (m:Int):=by unfold aY;omega
      have kx:=qa y (e1 bG);have afn:=fV.lt y (e1 bG);have b7:∀k,¬q=r+k:=fun k=>Ω
      have qZ:∀k,¬r+k=q:=fun k=>Ω
      have aet:Pv.kinL (fun k=> ¬fresh (r+132) [.obj ky] k) (lZ acc (m+1)):=G0 fun p aV h=>by have I:=fV.lt p aV;have au:r+132<=p.2:=h.1;omega
      have kP:fD ((acc.drop m).map (·.1)) t= .pair y.1 (fD ((acc.drop (m+1)).map (·.1)) t):=by obtain⟨gT,Bi⟩:=fo.1 bG;rw[pR gT,Bi];rfl
      rw[List.map_drop,List.map_drop]at kP;have p9:Pv.kinL (fun k=> ¬fresh (r+132+1+1+1+1+1) [.obj ky] k) (lZ acc m):=G0 fun p aV h=>by have I:=fV.lt p aV;have au:r+132+1+1+1+1+1<=p.2:=h.1;omega
      simp[fresh]at p9;have fJ:¬r+132+1+1+1+1+1<=q+3:=Ω
      have Lj:¬y.2=c:=Ω
      have zj:=Lv (N:=[.loc y.2,.loc c]) fV bG (by simp;omega) Ψ;simp[Cw];(with_reducible repeat' first|refine av ?_|simp[h4,iS,n4,GF]);refine k4.fdK fun K1 Df=>?_;refine k4.of mixed rn F2 Hy Ψ [(2,.ptr (.loc 0) 0),(5,.slice 4 (.own (.loc 1)) (lZ acc (m+1))),(6,.ptr (.loc (q+3)) 0),(8,.int .i64 m)] (fun k=> ¬fresh (r+132) [.obj ky] k) (fun k h=>h) (by simp[kin,aet];simp[fresh];omega) fun tT xV uY xW=>?_;have tw:∀k,r+132<=k->aC.loc k∉tT:=fun k ab h=>uY _ h ⟨ab,Ψ⟩;clear xV uY xW;unfold CM;simp[tw,b7,qZ];(with_reducible repeat' first|refine av ?_|simp[tw,b7,qZ]);simp[yK,ba,bg,aT,b7,qZ];refine Df _ ?_ ?_
      ·simp[cX,dR,dO,ed,cC,dE,cb,dy,tn,tnL,pE,tw _ (show r+132<=r+132+1+1+1+1 by omega),Lj]
      ·simp[cC,dE,cb,dy,tn,tnL,fold,dV,dU,bC,bD,zj,pE,b7,qZ];refine⟨n4,?_⟩;refine b1.whl (m,r+132+1+1+1+1,r+132+1+1+1+1+1) Ψ ⟨by simp;omega,by simp;omega,by simp;omega,Ψ⟩ ?_;simp[Cw,kP,T.kind,T.int,T.name,T.args];exact⟨by simp[fresh,kinL,kin,bu,ak,Pv.look,p9,fJ],cG (by simp[fresh,kinL,kin,bu,ak,Pv.look,p9,fJ]),cI (by simp[fresh,kinL,kin,cw,ak,Pv.look,p9,fJ]),Ψ⟩
    ·have wG:=jO (ky:=ky) (show p<=1000000 by omega) tb;have jX:bM eG (k+1) ([46]::l.drop (j+1)) (acc.map (·.1))=none:=by
      cases rest with
      |nil=>simp[bM,du,bL]
      |cons v r=>
       have:l[p]? =some v:=by rw[<-List.head?_drop,<-gn];rfl
       have DU:¬v=[41]:=by rintro rfl;exact tb this
       simp[bM,du,bL,DU]
     rw[jX];simp[sM];refine CallDo.ob (dS) (bm _ _) (by simp only[ad];exact aA) (by simp only[ad];exact aA) (by simp[ak,Pv.look,ad,aB,kinL,kin]) ?_;rintro r al ⟨rfl,rfl⟩;refine⟨bT _ _ _ _,?_⟩;simp[bc,ad,aB];(with_reducible repeat' first|refine av ?_|simp);refine CallDo.ob (js aN) (bm _ _) (by simp only[ad];exact aA) (by simp only[ad];exact aA) (by simp[ak,Pv.look,ad,aB,kinL,kin]) ?_;rintro r al ⟨rfl,rfl⟩;refine⟨bT _ _ _ _,?_⟩;simp[bc,ad,aB];(with_reducible repeat' first|refine av ?_|simp);refine CallDo.ob (dW) (bm _ _) (by simp only[ad];exact aA) (by simp only[ad];exact aA) (by simp[ak,Pv.look,ad,aB,kinL,kin]) ?_;rintro r al ⟨rfl,rfl⟩;refine⟨bT _ _ _ _,?_⟩;simp[bc,ad,aB];(with_reducible repeat' first|refine av ?_|simp[hy]);refine CallDo.obK (na _) (bm _ _) (by simp only[ad];exact aA) (by simp only[ad];exact aA) (by simp[ak,Pv.look,ad,aB,kinL,kin]) Ψ ?_;rintro r al ⟨rfl,rfl⟩;refine⟨bT _ _ _ _,?_⟩;simp[bc,ad,aB];(with_reducible repeat' first|refine av ?_|simp[pn]);refine CallDo.ob (wG) (bm _ _) (by simp only[ad];exact aA) (by simp only[ad];exact aA) (by simp[ak,Pv.look,ad,aB,kinL,kin]) ?_;rintro r al ⟨rfl,rfl⟩;refine⟨bT _ _ _ _,?_⟩;simp[bc,ad,aB];(with_reducible repeat' first|refine av ?_|simp);refine dG.tm (p) (.nil) false Ψ (sn eM _) (by simp only[ad];exact aA) ?_;simp[ba,bg,aT,cX,dR,cC,dE,cb,dy,tnL,tn,dO,ed,fold,dV,dU,eH,Pv.look,cY,bC,bD,T.k]
 ·have dD:=aX k Ω j ai Ω;have hT:(v==[46])=false:=jj.2 mO;rw[fM aN]at dD;cases du:rd eG k (v::l.drop (j+1))with
  |none=>rw[du]at dD;rw[show bM eG (k+1) (v::l.drop (j+1)) (acc.map (·.1))=none by simp[bM,du,fa,mO]];simp[sM];refine CallDo.ob (dS) (bm _ _) (by simp only[ad];exact aA) (by simp only[ad];exact aA) (by simp[ak,Pv.look,ad,aB,kinL,kin]) ?_;rintro r al ⟨rfl,rfl⟩;refine⟨bT _ _ _ _,?_⟩;simp[bc,ad,aB];(with_reducible repeat' first|refine av ?_|simp);refine CallDo.ob (js aN) (bm _ _) (by simp only[ad];exact aA) (by simp only[ad];exact aA) (by simp[ak,Pv.look,ad,aB,kinL,kin]) ?_;rintro r al ⟨rfl,rfl⟩;refine⟨bT _ _ _ _,?_⟩;simp[bc,ad,aB];(with_reducible repeat' first|refine av ?_|simp[hT]);refine CallDo.obK (dD _) (bm _ _) (by simp only[ad];exact aA) (by simp only[ad];exact aA) (by simp[ak,Pv.look,ad,aB,kinL,kin]) Ψ ?_;rintro r al ⟨x,iv,bp,rfl,rfl⟩;refine⟨bT _ _ _ _,?_⟩;simp[bc,ad,aB];(with_reducible repeat' first|refine av ?_|simp);refine dG.tm (iv) (.nil) false Ψ (sn bp _) (by simp only[ad];exact aA) ?_;simp[ba,bg,aT,cX,dR,cC,dE,cb,dy,tnL,tn,dO,ed,fold,dV,dU,eH,Pv.look,cY,bC,bD,T.k]
  |some tr=>
   obtain⟨t,rest⟩:=tr;rw[du]at dD;obtain⟨tA,tB⟩:=re k _ _ _ du;rw[<-fM aN]at tA tB;obtain⟨gn,oO⟩:=vl tA;obtain⟨p,aV⟩:∃p,p=l.length-rest.length:=⟨_,rfl⟩;rw[<-aV]at gn;have na:=LR dD aV.symm;have eM:p<=l.length:=Ω
   have KR:j<p:=by simp at tB;omega
   rw[show bM eG (k+1) (v::l.drop (j+1)) (acc.map (·.1))=bM eG k rest ((acc++[(t,q+2)]).map (·.1)) by simp[bM,du,fa,mO]];have iG:acc.length+1<=aR:=by unfold aR;omega
   simp[sM];refine CallDo.ob (dS) (bm _ _) (by simp only[ad];exact aA) (by simp only[ad];exact aA) (by simp[ak,Pv.look,ad,aB,kinL,kin]) ?_;rintro r al ⟨rfl,rfl⟩;refine⟨bT _ _ _ _,?_⟩;simp[bc,ad,aB];(with_reducible repeat' first|refine av ?_|simp);refine CallDo.ob (js aN) (bm _ _) (by simp only[ad];exact aA) (by simp only[ad];exact aA) (by simp[ak,Pv.look,ad,aB,kinL,kin]) ?_;rintro r al ⟨rfl,rfl⟩;refine⟨bT _ _ _ _,?_⟩;simp[bc,ad,aB];(with_reducible repeat' first|refine av ?_|simp[hT]);refine CallDo.obK (na _) (bm _ _) (by simp only[ad];exact aA) (by simp only[ad];exact aA) (by simp[ak,Pv.look,ad,aB,kinL,kin]) Ψ ?_;rintro r al ⟨rfl,rfl⟩;refine⟨bT _ _ _ _,?_⟩;simp[bc,ad,aB];(with_reducible repeat' first|refine av ?_|simp[iG]);have bA:=fV.snoc t (cc (q+2)) (show q+2<q+3+2 by omega);have eT:=x3.kin bA (cc _) [.obj ky];simp[fresh]at eT;refine b1.whl (acc++[(t,q+2)],p,k,q+3) (by simp;omega) ⟨eM,by simp;omega,by simp;omega,by simp[<-gn],by simp;omega,bA,fun w9 xa af=>?_⟩ ?_
   ·rcases hl.1 af with af|af
    ·exact qa _ af
    ·simp at af;omega
   simp[sM];exact⟨by simp[fresh,kinL,kin,bu,ak,Pv.look];exact⟨rfl,eT⟩,cG (by simp[fresh,kinL,kin,bu,ak,Pv.look]),cI (by simp[fresh,kinL,kin,bu,ak,Pv.look,cw]),Ψ⟩
end
section
open Go Go.Pv
theorem H6{α:Type}{p:α->Bool}{s:List α}{i k:Nat}(lU:i<=k)(ab:k<=s.length)(mm:∀c∈(s.drop i).take (k-i),p c=true)(jG:∀c,s[k]? =some c->p c=false):(s.drop i).takeWhile p=(s.drop i).take (k-i)/\(s.drop i).dropWhile p=s.drop k:=by
 have I:s.drop i=(s.drop i).take (k-i)++s.drop k:=by have:=(ry (k-i) (s.drop i)).symm;rwa[List.drop_drop,show i+(k-i)=k by omega]at this
 have J:(s.drop k).takeWhile p=[]/\(s.drop k).dropWhile p=s.drop k:=by
  cases h:s.drop k with
  |nil=>simp
  |cons c r=>
   have:s[k]? =some c:=by rw[<-List.head?_drop,h];rfl
   have aH:=jG c this;simp[aH]
 constructor
 ·conv=>lhs;rw[I]
  rw[List.takeWhile_append_of_pos mm,J.1,List.append_nil]
 ·conv=>lhs;rw[I]
  rw[List.dropWhile_append_of_pos mm,J.2]
def nf(o:aW (List (List aj))):ae:=match o with
 |some l=>.tuple [.slice 1 .no (b6 l),.bool true]
 |none=>.tuple [.slice 1 .no [],.bool false]
theorem U3(c:aj):tU c=true↔(c.toNat:Int)=10\/(32<=(c.toNat:Int)/\(c.toNat:Int)<=126):=by
 unfold tU;simp only[Bool.or_eq_true,eA,bJ,fs];have:c=10↔c.toNat=10:=by rw[<-UInt8.toNat_inj];rfl
 rw[this];omega
theorem qw{c d:aj}(h:c≠d):((c.toNat:Int)==(d.toNat:Int))=false:=jj.2 fun e=>h (UInt8.toNat_inj.1 Ω)
theorem yD{c d:aj}(h:c≠d):((c.toNat:Int) !=(d.toNat:Int))=true:=by simp only[bne,qw h];rfl
end
end Go.Proofs.YtlnndmgfngfeiaaGreatDoor
