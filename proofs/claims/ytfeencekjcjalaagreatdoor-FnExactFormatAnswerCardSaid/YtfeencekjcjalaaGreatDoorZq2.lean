/- Regions that draw their order, V: the static check, every order. -/
import Derived.Laws.OwnMore
import Derived.Test.YtfeencekjcjalaaGreatDoorZq1
set_option linter.all false
set_option maxHeartbeats 4000000
set_option maxRecDepth 4000
open Array renaming getElem?_toList->uh
open Bool renaming and_eq_true->cD,false_eq_true->hI,or_eq_true->mR
open ByteArray renaming size->aco
open Go renaming Operand->jk,Program->cE,TypeId->fF
open Go.Builtin renaming append_->ui
open Go.Region renaming wanted->qg
open Go.Result renaming andThen_ok->fE
open Go.Sem renaming run_bind->fB,run_pure->gx
open Go.Value renaming cells->nu,int->pz,ownBlock->oR
open Go.World.grownBy renaming refl->atK
open List renaming all_eq_true->iW,cons_append->b3,eq_nil_of_length_eq_zero->vn,getElem?_append_left->rQ,getElem?_eq_getElem->cl,getElem?_eq_none->rR,length_append->ga,length_cons->ik,length_drop->sO,length_map->iz,length_nil->nv,length_take->oT,map_cons->fG,map_nil->nx,mem_append->j0,mem_append_left->sQ,mem_cons->gj,mem_cons_of_mem->pB,mem_filter->n3,mem_map->iA,nil_append->b6,pairwise_cons->n4,replicate->sR,take->kT,take_length->lZ,take_of_length_le->gv
open Nat renaming add_mul->q2,le_refl->e2,le_trans->j1
open Ne renaming symm->lb
open Option renaming bind_some->ld,getD_some->mv,isSome_iff_exists->gk,map_some->nz
open Option.some renaming inj->ft,injEq->dz
open Prod.mk renaming injEq->hW
open _root_ renaming ByteArray->lK,False->eF,Option->aZ,beq_iff_eq->dW,congrArg->eG,decide_eq_false_iff_not->hb,decide_eq_true_eq->e3
namespace Go.Pv
section
open Go Go.RowKit
def lH{P:cE}{o:Oper}{a:Act}{w w':World}{v:Value}{K:Act->World->Prop}{Q:Exit->Act->World->Prop}(h:(execOp a.eval o).run P w= .ok (.value v) w')(b:K (a.put o.dst v) w'):o.wp P a w K Q:=by unfold Oper.wp;rw[h];exact b
def Gi{P:cE}{o:Oper}{a:Act}{w w':World}{K:Act->World->Prop}{Q:Exit->Act->World->Prop}(h:(execOp a.eval o).run P w= .ok .skip w')(b:K (a.put o.dst undef) w'):o.wp P a w K Q:=by unfold Oper.wp;rw[h];exact b
def Gc{P:cE}{w w':World}{x:Sem Value}{v:Value}(h:x.run P w= .ok v w'):(do pure (Next.value (<-x)):Sem Next).run P w= .ok (.value v) w':=by simp[h]
def aaI{P:cE}{aT:List (Nat×eJ)}(aM:hl P aT=true){C:fb}{st:bn}{a:Act}{w:World}{Z:a8}(s:cZ C st a w Z){t el:Nat}{f g:eJ}(r:eo aT t=some f)(q:f.kind= .slice el)(a1:eo aT el=some g)
  {xs:List dv} {os:List (Nat×jk)} (k:yf 0 xs os=true) (l:sW g.size (xs.map (cg st.t))) (hlen:xs.length*g.size<=16777216):
  ∃us:Array Value,(Instr.buildSlice t xs.length (os.map fun(x:Nat×jk)=>(x.1,a.eval x.2)).toArray).run P w= .ok (.slice (some ⟨w.heap.size,0,none⟩) xs.length xs.length) (w.alloc (.cells us el))/\
   dk w Z g.size (xs.map (cg st.t)) us.toList/\us.size=xs.length*g.size:=by
 obtain⟨d,h,c⟩:=ij aM r;rw[q]at c;obtain rfl:=r6 c;obtain⟨_,e⟩:=w3 aM a1 w;obtain⟨z,j,o,n⟩:=Qg aM a1 w;have p:¬xs.length*g.size>2 ^ 24:=Ω
 let init:Array Value:=if xs.length*g.size=0 then(Array.range (xs.length*g.size)).map ((#[]:Array Value)[· %(#[]:Array Value).size]!)else(Array.range (xs.length*g.size)).map (z.cells[· %z.cells.size]!)
 have i:init.size=xs.length*g.size:=by simp only[init];split<;>simp
 obtain⟨m,g1,g2,g3⟩:=aaK (a:=a) s xs 0 os [] init [] k l Ψ (by simp[dk]) rfl (by rw[i];simp);refine⟨m,?_,by simpa using g2,by rw[g3,i]⟩;simp only[init]at g1;by_cases b:xs.length*g.size=0
 ·rw[if_pos b]at g1;rw[b]at g1;have u:¬(0:Nat)>2 ^ 24:=by decide
  simp only[Instr.buildSlice,fB,run_underlying h,fE,e,if_false,gx,b,if_true,u,g1,newRow,run_newObj];rfl
 ·rw[if_neg b]at g1;simp only[Instr.buildSlice,fB,run_underlying h,fE,e,p,if_false,gx,b,j,g1,newRow,run_newObj];rfl
def Fg{P:cE}{w:World}{Z:a8}{g:ka}{t:fF}(B:vs P g t){k v:ah}{a q:Value}(p:aV w Z k a)(D:aV w Z v q):
  ∀(borns:List Nat) (kvs:List ah) (us:List Value) (i:Nat) (r:aZ (List ah)),cN w Z kvs us->kvs.length=2*borns.length->wC g k v kvs=some r->
  match r with
  |none=>iN P w g t a (gi borns us) i none
  |some s=> ∃j u m e,iN P w g t a (gi borns us) i (some (i+j,u))/\cN w Z s m/\s.length=kvs.length/\(gi borns us)[j]? =some e/\e.key=a/\Instr.sameBits 10000 e.key a=true/\gi borns m=(gi borns us).modify j (fun e=>{e with key:=a,val:=q})
 |[],[],us,i,r,h,_,hm=>by simp only[wC]at hm;cases hm;simp only[cN]at h;subst h;simpa[gi]using iN.nil P w g t a i
 |[],_::_,_,_,_,_,c,_=>by simp at c
 |b::n,[],_,_,_,_,c,_=>by simp at c
 |b::n,[_],_,_,_,_,c,_=>by simp at c;omega
 |b::n,E::v'::kvs,us,i,r,h,c,hm=>by
  simp only[cN]at h;obtain⟨f,F,rfl,J,d,x,rfl,U,A⟩:=h;simp only[wC]at hm;simp only[gi];cases o:uY g k E with
  |none=>simp[o]at hm
  |some bb=>
   obtain⟨s1,s2⟩:=XD B p J o;simp only[o]at hm;cases bb with
   |true=>simp only[dz]at hm;subst hm;obtain⟨rfl,s3⟩:=s2 rfl;refine⟨0,d,f::q::x,⟨f,d,b⟩,iN.hit (e:=⟨f,d,b⟩) s1,?_,Ψ,Ψ,rfl,s3,by simp[gi]⟩;simp only[cN];exact⟨_,_,rfl,p,_,_,rfl,D,A⟩
   |false=>
    simp only at hm;have z:=fun y l=>Fg B p D n kvs x (i+1) y A (by simp at c;omega) l;split at hm
    ·rename_i y l;cases hm;obtain⟨j,u,m,e,g1,g2,g3,g4,g5,g6,g7⟩:=z _ l;refine⟨j+1,u,f::d::m,e,iN.miss (e:=⟨f,d,b⟩) s1 (by rw[show i+(j+1)=i+1+j from by omega];exact g1),?_,by simp[g3],by simpa using g4,g5,g6,by simp[gi,g7]⟩;simp only[cN];exact⟨_,_,rfl,J,_,_,rfl,U,g2⟩
    ·rename_i l;cases hm;exact iN.miss (e:=⟨f,d,b⟩) s1 (z _ l)
    ·cases hm
def Lw:∀(borns:List Nat) (us:List Value) (b:Nat) (k v:Value),us.length=2*borns.length->gi (borns++[b]) (us++[k,v])=gi borns us++[⟨k,v,b⟩]
 |[],us,b,k,v,h=>by have:us=[]:=vn (by simpa using h);subst this;simp[gi]
 |cf::a,[],b,k,v,h=>by simp at h
 |cf::a,[_],b,k,v,h=>by simp at h;omega
 |cf::a,c::v'::us,b,k,v,h=>by simp only[b3,gi,Lw a us b k v (by simp at h;omega)]
def Px{w:World}{Z:a8}:∀{a b1:List ah} {bf us:List Value},cN w Z a bf->cN w Z b1 us->cN w Z (a++b1) (bf++us)
 |[],b1,bf,us,h,b=>by simp only[cN]at h;subst h;simpa using b
 |p::a,b1,bf,us,h,b=>by simp only[cN]at h;obtain⟨u,c,rfl,J,U⟩:=h;simp only[b3,cN];exact⟨u,_,rfl,J,Px U b⟩
def JF{w:World}{Z:a8}:∀{a:List ah} {bf:List Value},cN w Z a bf->bf.length=a.length
 |[],bf,h=>by simp only[cN]at h;subst h;rfl
 |p::a,bf,h=>by simp only[cN]at h;obtain⟨u,b,rfl,_,U⟩:=h;simp[JF U]
def FR{P:cE}{w:World}{r:Nat}{o o':Obj}(ae:w.heap[r]? =some o)(a:∀c e f,o≠ .cells c e f:=by simp):(setObj r o').run P w= .ok () {w with heap:=w.heap.setIfInBounds r o'}:=by simp only[setObj,Sem.run,ae]
def ep.makes(st:bn):ep->Bool
 | .box _ _ _| .alloc _ _ _| .bsl _ _ _ _| .bslm _ _ _ _ _| .mkmap _ _| .range _ _ _| .mks _ _ _ _ _ _=>true
 | .appm _ _ _ _ x _=>match cg st.t x with
  | .slice _ .nil _=>true
  |_=>false
 | .app _ _ _ x _=>match cg st.t x with
  | .slice _ .nil _=>true
  |_=>false
 |_=>false
def cZ.forgetRow{C:fb}{st:bn}{a:Act}{w:World}{Z:a8}(b:cZ C st a w Z){k:aB}{ow:er}(h:look k st.e=some ow):cZ C {st with e:=cG k ⟨ow.n,ow.el,ow.sz,none⟩ st.e} a w Z:=by
 have d:∀g,(look g (cG k ⟨ow.n,ow.el,ow.sz,none⟩ st.e)).isSome->(look g st.e).isSome:=fun g a1=>by
  rw[jL]at a1;split at a1
  ·rename_i e;subst e;simp[h]
  ·exact a1
 refine⟨⟨b.good.alt,b.good.box,b.good.inj,fun g o a1=>?_,fun g f n n' v v' bl c a2=>b.good.oinj g f n n' v v' bl (d g c) (d f a2),fun g j n v bl c=>b.good.obx g j n v bl (d g c),b.good.one,fun bl ae=>b.good.otr bl (ae.imp id (fun⟨g,n,v,c,a2⟩=>⟨g,n,v,d g c,a2⟩))⟩,b.fr,b.defers,b.size,b.slot,b.new,b.ext,b.obk⟩;simp only at a1;rw[jL]at a1;split at a1
 ·rename_i e;subst e;cases a1;obtain⟨v,us,i,m,l,_⟩:=b.good.own k ow h;exact⟨v,us,i,m,l,fun xs p=>by cases p⟩
 ·exact b.good.own g o a1
def Ja{w:World}{base el sz n:Nat}{v:Value}{us:List Value}(h:w.ownsRow base el sz v n us)(a:0<n):∃b cap,v= .slice (some ⟨b,0,none⟩) n cap:=by
 rcases h.2 with⟨c,d⟩|⟨bb,cap,cur,f1,_⟩
 ·omega
 ·exact⟨_,_,f1⟩
def JB{w:World}{Z:a8}{sz:Nat}:∀{xs:List ah} {us:List Value} {i:Nat} {q b:ah} {a:Value},dk w Z sz xs us->xs[i]? =some q->aV w Z b a->a.cells.size=sz->(∀c∈a.cells.toList,c.oneCell'=true)->dk w Z sz (xs.set i b) (us.take (i*sz)++a.cells.toList++us.drop (i*sz+sz))
 |[],_,_,_,_,_,_,d,_,_,_=>by simp at d
 |x::xs,us,0,q,b,a,h,d,k,j,al=>by
  simp only[dk]at h;obtain⟨u,l,rfl,⟨J,U,m⟩,g⟩:=h;have f:u.cells.toList.length=sz:=by simpa using U
  simp only[List.set_cons_zero,dk];refine⟨a,l,?_,⟨k,j,al⟩,g⟩;simp[<-f]
 |x::xs,us,i+1,q,b,a,h,d,k,j,al=>by
  simp only[dk]at h;obtain⟨u,l,rfl,⟨J,U,m⟩,g⟩:=h;have f:u.cells.toList.length=sz:=by simpa using U
  have n:=JB g (by simpa using d) k j al;simp only[List.set_cons_succ,dk];refine⟨u,_,?_,⟨J,U,m⟩,n⟩;have e:(i+1)*sz+sz=u.cells.toList.length+(i*sz+sz):=by rw[f,Nat.succ_mul];omega
  rw[abd _ _ _ _ f,e,<-List.drop_drop];simp
def aqw{w:World}{Z:a8}{q:ah}{v:Value}(b:aV w Z q v)(l:fh q=true){cs:List ah}{us:List Value}(aA:c1 w Z cs us){f:Nat}(g:f+us.length<=v.cells.size)(n:us≠[]):
  ∃v',aV w Z (nW q f cs) v'/\v'.cells.toList=v.cells.toList.take f++us++v.cells.toList.drop (f+us.length)/\v'.cells.size=v.cells.size/\∀c∈v'.cells.toList,c.oneCell'=true:=by
 have hlen:=qU aA;have x:=wP b l;by_cases k:∃d,q= .agg d
 ·obtain⟨d,rfl⟩:=k;simp only[aV]at b;obtain⟨bf,rfl,j⟩:=b;simp only[nu]at g⊢;have i:c1 w Z (po d f cs) (bf.toList.take f++us++bf.toList.drop (f+us.length)):=by unfold po;rw[hlen];exact Aj (Aj (FM f j) aA) (CK _ j)
  refine⟨.agg (bf.toList.take f++us++bf.toList.drop (f+us.length)).toArray,by simp only[nW,aV];exact⟨_,rfl,by simpa using i⟩,by simp[nu],?_,fun c a=>?_⟩
  ·simp[nu];omega
  ·exact CL i c (by simpa[nu]using a)
 ·have h:∀cs,q≠ .agg cs:=fun cs e=>k ⟨cs,e⟩;obtain⟨J,U⟩:=Py b l h;rw[U]at g⊢;match us,n,aA with
  |u::o,_,aA=>
   simp at g;obtain⟨rfl,rfl⟩:f=0/\o=[]:=⟨Ω,List.length_eq_zero_iff.1 Ω⟩;match cs,aA,hlen with
   |[c],aA,_=>
    simp only[c1]at aA;obtain⟨t,y,p,⟨r,m⟩,_⟩:=aA;cases p;have hu:u.cells= #[u]:=by cases u<;>first|rfl|cases m
    have s:nW q 0 [c]=c:=by cases q<;>first|rfl|exact absurd rfl (h _)
    rw[s];refine⟨u,r,by simp[hu],by simp[hu],fun c a=>?_⟩;rw[hu]at a;simp at a;subst a;exact m
def aq9{α:Type}(A us:List α)(a f sz N:Nat)(J:f+us.length<=sz)(U:a+sz<=N)(j:N<=A.length):
  ((A.take (a+f)++us++A.drop (a+f+us.length)).toArray.toList).take N=(A.take N).take a++((((A.take N).drop a).take sz).take f++us++(((A.take N).drop a).take sz).drop (f+us.length))++(A.take N).drop (a+sz):=by
 have g:(A.take N).take a++(((A.take N).drop a).take sz).take f=A.take (a+f):=by rw[List.take_take (i:=f),Nat.min_eq_left (show f<=sz by omega),<-List.take_add,List.take_take,Nat.min_eq_left Ω]
 have h:(((A.take N).drop a).take sz).drop (f+us.length)++(A.take N).drop (a+sz)=(A.take N).drop (a+f+us.length):=by
  have b:f+us.length<=(((A.take N).drop a).take sz).length:=by simp;omega
  have d:(A.take N).drop (a+sz)=((A.take N).drop a).drop sz:=by rw[List.drop_drop]
  rw[d,<-List.drop_append_of_le_length b,List.take_append_drop,List.drop_drop];congr 1;omega
 have e:(A.take N).drop (a+f+us.length)=(A.drop (a+f+us.length)).take (N-(a+f+us.length)):=by rw[List.drop_take]
 have b:(A.take (a+f)++us).length=a+f+us.length:=by simp;omega
 simp only[List.append_assoc]at*;rw[h,e,<-List.append_assoc (kT a _),g];have c:N=(A.take (a+f)++us).length+(N-(a+f+us.length)):=by rw[b];omega
 rw[<-List.append_assoc,<-List.append_assoc];conv=>lhs;rw[c,List.take_length_add_append]
def cZ.storeRow{P:cE}{C:fb}{st:bn}{a:Act}{w:World}{Z:a8}(h:cZ C st a w Z){k:aB}{n el sz:Nat}{xs:List ah}(H:look k st.e=some ⟨n,el,sz,some xs⟩){i f:Nat}{u:Value}(K:aV w Z (.rptr sz k n i f) u){q:ah}(F:xs[i]? =some q)(G:fh q=true)
  {cs:List ah} {us:List Value} (aA:c1 w Z cs us) (aH:f+us.length<=(cells q).length) (W:us≠[]):
  ∃bl off b,u= .pointer (some ⟨bl,off,none⟩)/\(storeCells ⟨bl,off,none⟩ us).run P w= .ok () (w.setRow bl b)/\∃Z',cZ C {st with e:=cG k ⟨n,el,sz,some (xs.set i (nW q f cs))⟩ st.e} a (w.setRow bl b) Z':=by
 simp only[aV]at K;obtain⟨_,hi,n',fl,J,U,aq⟩:=K;obtain⟨v,d,p,E,bY,X⟩:=h.good.own k _ H;rw[J]at p;simp only[dz,hW]at p;obtain⟨rfl,rfl⟩:=p;obtain⟨bl,ae,rfl⟩:=aq rfl;obtain⟨c,l,sw⟩:=X xs rfl;simp only at c l;obtain⟨v,D,m,Q⟩:=Jz i l F;have Bx:=qU (wP D G);have s:(cells q).length=sz:=by rw[<-Bx];simpa using m
 have M:f+us.length<=sz:=by rw[<-s];exact aH
 have hmul:i*sz+sz<=n'*sz:=by have:=Nat.mul_le_mul_right sz (show i+1<=n' from hi);rwa[Nat.succ_mul]at this
 rcases E.2 with⟨ai,aC⟩|⟨g,cap,cur,rfl,xC,y,z,By,o,L⟩
 ·rw[ai]at ae;simp[oR]at ae
 simp only[oR,dz]at ae;subst ae;simp only at L o z y;have O:n'*sz<=cur.size:=by rw[o];exact Nat.mul_le_mul_right sz z
 have dd:=run_storeCells_at P g (i*sz+f) el us 0 cur w y Ω (CL aA);simp only[Nat.add_zero]at dd;refine⟨g,i*sz+f,_,rfl,dd,?_⟩;generalize A:(cur.toList.take (i*sz+f)++us++cur.toList.drop (i*sz+f+us.length)).toArray=b;obtain⟨v',V,S,R,N⟩:=aqw D G aA (f:=f) (by rw[m];exact M) W;have B:=JB l F V (by rw[R,m]) N;have hlen:d.length=n'*sz:=E.1;have t:b.toList.take (n'*sz)=d.take (i*sz)++v'.cells.toList++d.drop (i*sz+sz):=by rw[<-A,S,Q,<-L];exact aq9 cur.toList us (i*sz) f sz (n'*sz) M hmul (by simpa using O)
 have x:b.size=cap*sz:=by rw[<-A,<-o];simp;omega
 have Y:(xs.set i (nW q f cs)).length=n':=by simp[c]
 obtain⟨r,_,_⟩:=h.setRowM (w':=w.setRow g b) H rfl J (bl:=g) rfl (v':= .slice (some ⟨g,0,none⟩) n' cap) rfl (xs':=xs.set i (nW q f cs)) (us:=d.take (i*sz)++v'.cells.toList++d.drop (i*sz+sz)) (.inl ⟨by simp[c],rfl⟩) rfl rfl rfl (fun j af=>setRow_other w g j b af) (setRow_size w g b)
  ⟨by rw[sx B],.inr ⟨g,cap,b,by simp[c],Nat.zero_le _,setRow_heap w g cur b el _ y,by simpa[c]using z,By,x,by simpa[c]using t⟩⟩ B
 exact⟨_,by simpa[c]using r⟩
def al0(z:Array Value)(n:Nat)(h:0<z.size):(madeCells z ((n+1)*z.size)).toList=z.toList++(madeCells z (n*z.size)).toList:=by
 apply List.ext_getElem?;intro j;rw[List.getElem?_append];have he:(n+1)*z.size=n*z.size+z.size:=by rw[q2,Nat.one_mul]
 simp only[madeCells,uh,Array.length_toList,Array.getElem?_map];by_cases a:j<z.size
 ·rw[if_pos a,Array.getElem?_range,if_pos Ω];simp[Nat.mod_eq_of_lt a,a]
 ·rw[if_neg a,Array.getElem?_range,Array.getElem?_range];by_cases b:j<n*z.size+z.size
  ·rw[if_pos Ω,if_pos Ω];simp only[nz];rw[<-Nat.mod_eq_sub_mod Ω]
  ·rw[if_neg Ω,if_neg Ω]
def Yk{w:World}{Z:a8}{p:ah}{z:Value}(a:aV w Z p z)(h:0<z.cells.size)(al:∀c∈z.cells.toList,c.oneCell'=true):∀n,dk w Z z.cells.size (sR n p) (madeCells z.cells (n*z.cells.size)).toList
 |0=>by simp[dk,madeCells]
 |n+1=>by rw[al0 _ _ h];simp only[List.replicate_succ,dk];exact⟨z,_,rfl,⟨a,rfl,al⟩,Yk a h al n⟩
def Rm{P:cE}{aT:List (Nat×eJ)}(aM:hl P aT=true){C:fb}{st st':bn}{a:Act}{w:World}{Z:a8}(r:cZ C st a w Z){d el:Nat}{x y:dv}{o:Oper}(al:sA C.N aT (.apps d el x y) o=true)
  {c:Prop} (he:Dk st d el (cg st.t x) (cg st.t y)=some (c,st')) (aA:c) {K:Act->World->Prop} {Q:Exit->Act->World->Prop} (dc:∀bu w' Z',cZ C st' bu w' Z'->K bu w'):o.wp P a w K Q:=by
 obtain⟨dst,op,type,pos,after,guard⟩:=o;generalize hi:ep.apps d el x y=i at al;unfold sA at al;dsimp only at al;split at al<;>first|(cases hi;done)|(cases al;done)|skip
 rename_i o' ih t F;cases hi;simp only[cD,dW,e3]at al;obtain⟨⟨⟨⟨⟨⟨J,U⟩,S⟩,ag⟩,G⟩,dq⟩,eh⟩:=al;subst J;split at S
 ·rename_i E aH;simp only[dW]at S;subst S;split at ag
  ·rename_i HK;split at G
   ·rename_i g a1;simp only[cD,dW,e3]at G;obtain⟨pW,vT⟩:=G;have rx:=eD r dq;have D:=eD r eh;have H:∀v' w',(ui #[t,F] type #[a.eval o',a.eval ih]).run P w= .ok v' w'->(execOp a.eval ⟨some d,.call ⟨.builtin .append,⟨[o',ih]⟩,⟨[t,F]⟩⟩,type,pos,after,guard⟩).run P w= .ok (.value v') w':=by intro v' w' ig;simp only[execOp,resolve,invoke,builtin,fB,gx,fE,List.map_toArray,fG,nx];rw[ig];rfl
    obtain⟨m,cr,z,ai,aC,bo,cY,fQ,hc,r7,q7⟩:=(vj aM a1).ex;obtain⟨eA,iE,fj⟩:=ij aM aH;obtain rfl:=r6 fj;obtain⟨auA,Mw,ajC⟩:=ij aM HK;obtain rfl:=xr ajC;have rn:z.cells.size=1:=by rw[q7,pW]
    have V:m.size=1:=by rw[bo,pW]
    unfold Dk at he;split at he
    ·rename_i sz k n s ab aO;split at he
     ·rename_i n' E dO xs ad;split at he
      ·rename_i tn;obtain⟨rfl,rfl,rfl,rfl⟩:=tn;cases he;rw[ab]at rx;rw[aO]at D;simp only[aV]at rx D;obtain⟨⟨bx,pO,rL⟩,rxl,n0,N,dN,ff,ks⟩:=rx;obtain⟨W,lu⟩:=D;obtain⟨v0,A,be,R,bY,c8⟩:=r.good.own k _ ad;rw[dN]at be;simp only[dz,hW]at be R;obtain⟨rfl,rfl⟩:=be;have O:a.eval o'=N:=ks rfl;obtain⟨p,kN,sw⟩:=c8 xs rfl;simp only at p kN;have f:(⟨s.toArray⟩:lK).size=s.length:=by simp[aco]
       have D7:byteCells ⟨s.toArray⟩=s.map fun c=>pz .u8 c.toNat:=by simp[byteCells]
       have uT:A.length=xs.length:=by rw[p];simpa using R.1
       have M:dk w Z 1 (xs++gE s) (A++byteCells ⟨s.toArray⟩):=by rw[D7];exact CI kN (Ps w Z s)
       have b:(gE s).length=s.length:=by simp[gE]
       have X:(xs.length+s.length)*m.bytes<=140737488355328:=by
        have jr:m.bytes<=2048:=by rw[cY];exact vT
        have ln:(xs.length+s.length)*m.bytes<=(xs.length+s.length)*2048:=Nat.mul_le_mul_left _ jr;simp only[lim]at aA;omega
       have k2:xs.length+s.length<=maxLen:=by simp only[lim]at aA;simp only[maxLen];omega
       rw[W,O]at H;have zl:∀(base:aZ Addr) (cap:Nat),N= .slice base xs.length cap->n0<=cap->cap<xs.length+s.length->(⟨some d,.call ⟨.builtin .append,⟨[o',ih]⟩,⟨[t,F]⟩⟩,type,pos,after,guard⟩:Oper).wp P a w K Q:=by
        intro base cap hu Er tj;obtain⟨v',w',f1,f2,f3⟩:=aaH (P:=P) w t F type E m z iE Mw ai hc V rn N xs.length A (by rw[p];exact R) ⟨s.toArray⟩ cap base hu (by rw[f];exact tj) (by rw[f];exact k2) (by rw[f];exact X);rw[f]at f2;obtain⟨L,B⟩:=r.newRowM (k:=k) (xs:=xs++gE s) (el:=E) (sz:=1) (.inr ⟨_,ad,by simp[b];omega⟩) f3 (by rw[ga,b];exact f2) M (by rw[ga,b];exact aA) (n':=st.n) (o':=st.o)
         (fun j q=>⟨q,fun e=>by subst e;have:=(r.new _ q).2.1;rw[dN]at this;cases this⟩)
        refine lH (H _ _ f1) (dc _ _ (Z.withOwn k (xs++gE s).length v') ?_);have:=L.put (d:=some d) (by simpa[h9]using U) (B (by rw[ga,b];exact Ja f2 Ω));simpa[eY,b]using this
       rcases R.2 with⟨u,wJ⟩|⟨bl,cap,cur,u,wJ,wK,FE,FF,Jd,Cy⟩
       ·rw[<-O,rL]at u;cases u
       ·have lv:N.ownBlock=some bl:=by rw[u];rfl
        by_cases pa:xs.length+s.length<=cap
        ·have f1:=aqy (P:=P) w t F type E m iE Mw ai V bl xs.length cap cur wK ⟨s.toArray⟩ (by rw[f];exact pa) (by rw[f];omega);rw[f]at f1;generalize EM:(cur.toList.take xs.length++byteCells ⟨s.toArray⟩++cur.toList.drop (xs.length+s.length)).toArray=l at f1;have kA:(w.setRow bl l).heap[bl]? =some (.cells l E (0,0)):=setRow_heap w bl cur l E _ wK;have pY:(byteCells ⟨s.toArray⟩).length=s.length:=by rw[byteCells_length,f]
         have ao:(A++byteCells ⟨s.toArray⟩).length=(xs++gE s).length*1:=by rw[ga,uT,pY,ga,b,Nat.mul_one]
         have G:cur.toList.take xs.length=A:=by rw[p];simpa using Cy
         have kD:l.size=cap*1:=by rw[<-EM];simp only[List.size_toArray,ga,oT,sO,Array.length_toList,pY];omega
         have pb:l.toList.take ((xs++gE s).length*1)=A++byteCells ⟨s.toArray⟩:=by rw[<-EM,G,<-ao];exact List.take_left
         obtain⟨L,_,B⟩:=r.setRowM (w':=w.setRow bl l) ad rfl dN lv (v':= .slice (some ⟨bl,0,none⟩) (xs.length+s.length) cap) rfl (xs':=xs++gE s) (us:=A++byteCells ⟨s.toArray⟩)
          (by
           by_cases bm:s=[]
           ·subst bm;exact .inl ⟨by simp[gE,p],by rw[u];simp[p]⟩
           ·exact .inr (by have:=List.length_pos_iff.2 bm;simp[b];omega)) rfl rfl rfl (fun j q=>setRow_other w bl j l q) (setRow_size w bl l)
          ⟨ao,.inr ⟨bl,cap,l,by simp[b],Nat.zero_le _,kA,by simpa[b]using pa,FF,kD,pb⟩⟩ M
         replace B:=B (by simpa[b]using aA);refine lH (v:= .slice (some ⟨bl,0,none⟩) (xs.length+s.length) cap) (w':=w.setRow bl l) (H _ _ ?_) (dc _ _ (Z.withOwn k (xs++gE s).length (.slice (some ⟨bl,0,none⟩) (xs.length+s.length) cap)) ?_)
         ·rw[u,<-p];exact f1
         ·have:=L.put (d:=some d) (by simpa[h9]using U) B;simpa[eY,b]using this
        ·exact zl _ cap (by rw[u,<-p]) FE Ω
      ·cases he
     ·cases he
    ·rename_i sz xs s ab aO;split at he
     ·rename_i dS;obtain rfl:=dS;cases he;obtain⟨uI,sd,Y⟩:=aA;rw[ab]at rx;rw[aO]at D;simp only[aV]at rx D;have O:=rx.2.1 trivial;obtain⟨W,lu⟩:=D;have f:(⟨s.toArray⟩:lK).size=s.length:=by simp[aco]
      have D7:byteCells ⟨s.toArray⟩=s.map fun c=>pz .u8 c.toNat:=by simp[byteCells]
      have M:dk w Z 1 (gE s) (byteCells ⟨s.toArray⟩):=by rw[D7];exact Ps w Z s
      have b:(gE s).length=s.length:=by simp[gE]
      have fR:0<s.length:=List.length_pos_iff.2 sd;have X:(0+s.length)*m.bytes<=140737488355328:=by
       have jr:m.bytes<=2048:=by rw[cY];exact vT
       have ln:(0+s.length)*m.bytes<=(0+s.length)*2048:=Nat.mul_le_mul_left _ jr;simp only[lim]at Y;omega
      have k2:0+s.length<=maxLen:=by simp only[lim]at Y;simp only[maxLen];omega
      rw[W,O]at H;obtain⟨v',w',f1,f2,f3⟩:=aaH (P:=P) w t F type el m z iE Mw ai hc V rn (.slice none 0 0) 0 [] ⟨rfl,.inl ⟨rfl,rfl⟩⟩ ⟨s.toArray⟩ 0 none rfl (by rw[f];omega) (by rw[f];exact k2) (by rw[f];exact X);rw[f,Nat.zero_add,b6]at f2;have l6:fresh st.n st.o (.obj 862):=⟨trivial,uI⟩;obtain⟨L,B⟩:=r.newRowM (k:= .obj 862) (xs:=gE s) (el:=el) (sz:=1) (.inl (r.new _ l6)) f3 (by rw[b];exact f2) M (by rw[b];exact Y) (n':=st.n) (o':= .obj 862::st.o)
       (fun j q=>⟨⟨q.1,fun h=>q.2 (pB _ h)⟩,fun e=>by subst e;exact q.2 Ψ⟩)
      refine lH (H _ _ f1) (dc _ _ (Z.withOwn (.obj 862) (gE s).length v') ?_);have:=L.put (d:=some d) (by simpa[h9]using U) (B (by rw[b];exact Ja f2 fR));simpa[eY,b]using this
     ·cases he
    ·cases he
   ·cases G
  ·cases ag
 ·cases S
def jO{P:cE}{aT:List (Nat×eJ)}(aM:hl P aT=true){C:fb}{st st':bn}{a:Act}{w:World}{Z:a8}(l:cZ C st a w Z){i:ep}{o:Oper}(al:sA C.N aT i o=true)
  {κ:aB} {n':Nat} {o₁:List aB} (vZ:i.makes st=true->fresh st.n st.o κ) (dt:i.makes st=true->∀j,fresh n' o₁ j->fresh st.n st.o j/\j≠κ) {c:Prop} (he:eP κ n' o₁ st i=some (c,st')) (aA:c) {K:Act->World->Prop} {Q:Exit->Act->World->Prop} (M:∀bu w' Z',cZ C st' bu w' Z'->K bu w') (hB:i.bok κ:=by first|trivial|(intro h;cases h)):o.wp P a w K Q:=by
 obtain⟨dst,op,type,pos,after,guard⟩:=o;unfold sA at al;dsimp only at al;split at al
 ·rename_i d key t;simp only[cD,dW,e3]at al;obtain⟨⟨rfl,U⟩,_⟩:=al;simp only[eP]at he;cases he;obtain⟨g1,g2⟩:=l.newBox (l.new _ (vZ rfl)) (dt rfl) (cs:=[.hdm 0 []]) (us:= #[]) ⟨0,fun e=>absurd e hB⟩ (by simp only[iI];exact⟨by simp[cN],⟨rfl,Ψ,Ψ⟩⟩);refine lH (v:= .map (some w.heap.size)) (w':=w.alloc (.map #[] 0)) ?_ (M _ _ _ (g1.put (d:=some d) (by simpa[h9]using U) (p:= .gmap κ) ?_))
  ·simp only[execOp,Instr.makeMap,Option.map_none,fB,run_newObj,fE,gx];rfl
  ·simp[aV,a8.withBox]
 ·rename_i ct x k v t gZ hp p7;simp only[cD,dW]at al;obtain⟨⟨⟨⟨rfl,J⟩,U⟩,A⟩,E⟩:=al;have rx:=eD l U;have wS:=eD l A;have Ar:=eD l E;split at J
  ·rename_i sz O nQ qw z N;obtain⟨cX,hu,fj⟩:=ij aM N;have uK:cX= .map nQ qw:=by cases cX<;>simp[kv]at fj;obtain⟨rfl,rfl⟩:=fj;rfl
   subst uK;have mX:=NB aM J;simp only[eP]at he;split at he
   ·rename_i m L;rw[L]at rx;simp only[aV]at rx;obtain⟨bl,cn,b8⟩:=rx;split at he
    ·rename_i cs dI;split at he
     ·rename_i cs' hm;cases he;obtain⟨jn,us,el,X,bC,bY,W,s⟩:=l.good.box m cs dI;rw[cn]at X;cases X;unfold p5 at hm;split at hm
      ·rename_i clock borns kvs;split at hm
       ·cases hm
       rename_i xJ;simp only[jN]at W;simp only[iI]at s;have hL:=wV (P:=P) W;have xD:=PD (P:=P) (w:=w) mX false wS (by simpa using xJ);have bN:bl<w.heap.size:=(Array.getElem?_eq_some_iff.1 W).1;have dY:∀(o':Obj) (b5:Array Value) (eA:List ah),(Instr.mapUpdate t (a.eval gZ) (a.eval hp) (a.eval p7)).run P w= .ok () {w with heap:=w.heap.setIfInBounds bl o'}->jN eA b5 el.1=o'->iI w Z eA b5.toList->some eA=some cs'->
         (⟨none,.mapUpdate t gZ hp p7,type,pos,after,guard⟩:Oper).wp P a w K Q:=by
        intro o' b5 eA ig Eu k3 V;cases V;refine Gi (w':={w with heap:=w.heap.setIfInBounds bl o'}) ?_ (M _ _ _ (l.setBox (w':={w with heap:=w.heap.setIfInBounds bl o'}) dI cn (us:=b5) (el:=el) rfl rfl rfl (fun j G=>?_) Ψ ?_ k3).1)
        ·simp only[execOp,ig,fB,fE,gx]
        ·exact Array.getElem?_setIfInBounds_ne (lb G)
        ·rw[Eu];simp[bN]
       split at hm
       ·rename_i x4 wc;obtain⟨j,u,b5,e,f1,f2,f3,f4,f5,f6,f7⟩:=Fg mX wS Ar borns kvs us.toList 0 _ s.1 s.2.len wc;refine dY (.map (gi borns b5).toArray clock) b5.toArray (.hdm clock borns::x4) ?_ (by simp[jN]) (by simp only[iI];exact⟨by simpa using f2,⟨by rw[f3];exact s.2.len,s.2.inc,s.2.lt⟩⟩) hm;have M5:(Instr.keyThatStays (((gi borns us.toList).toArray[j]?.map (·.key)).getD (a.eval hp)) (a.eval hp)).run P w= .ok (a.eval hp) w:=by
         have:((gi borns us.toList).toArray[j]?.map (·.key)).getD (a.eval hp)=e.key:=by simp[f4]
         rw[this];simp[Instr.keyThatStays,f6]
        simp only[Nat.zero_add]at f1;simp only[Instr.mapUpdate,fB,run_underlying hu,fE,b8,hL,xD,f1.run mX,gx,M5,FR W];rw[f7];simp
       ·rename_i wc;have f1:=Fg mX wS Ar borns kvs us.toList 0 _ s.1 s.2.len wc;simp only at f1;have p1:us.toList.length=2*borns.length:=by rw[JF s.1,s.2.len]
        refine dY (.map ((gi borns us.toList).toArray.push ⟨a.eval hp,a.eval p7,clock⟩) (clock+1)) (us.toList++[a.eval hp,a.eval p7]).toArray (.hdm (clock+1) (borns++[clock])::(kvs++[cg st.t k,cg st.t v])) ?_ (by simp only[jN,Lw borns us.toList clock _ _ p1];simp) ?_ hm
        ·simp only[Instr.mapUpdate,fB,run_underlying hu,fE,b8,hL,xD,f1.run mX,gx,FR W]
        ·simp only[iI];refine⟨Px s.1 (by simp only[cN];exact⟨_,_,rfl,wS,_,_,rfl,Ar,rfl⟩),⟨by simp[s.2.len];omega,?_,?_⟩⟩
         ·rw[List.pairwise_append];exact⟨s.2.inc,Ψ,fun x L y aO=>by simp at aO;subst aO;exact s.2.lt x L⟩
         ·intro b ae;rcases j0.1 ae with ae|ae
          ·have:=s.2.lt b ae;omega
          ·simp at ae;omega
       ·cases hm
      ·cases hm
     ·cases he
    ·cases he
   ·cases he
  ·cases J
 ·rename_i ct x k v t gZ hp p7;simp only[cD,dW]at al;obtain⟨⟨⟨⟨rfl,J⟩,U⟩,A⟩,E⟩:=al;have rx:=eD l U;have wS:=eD l A;have Ar:=eD l E;split at J
  ·rename_i sz O nQ qw z N;obtain⟨cX,hu,fj⟩:=ij aM N;have uK:cX= .map nQ qw:=by cases cX<;>simp[kv]at fj;obtain⟨rfl,rfl⟩:=fj;rfl
   subst uK;have mX:=NB aM J;simp only[eP]at he;split at he
   ·rename_i m L;rw[L]at rx;simp only[aV]at rx;obtain⟨bl,cn,b8⟩:=rx;split at he
    ·rename_i cs dI;split at he
     ·rename_i cs' hm;cases he;obtain⟨jn,us,el,X,bC,bY,W,s⟩:=l.good.box m cs dI;rw[cn]at X;cases X;unfold p5 at hm;split at hm
      ·rename_i clock borns kvs;split at hm
       ·cases hm
       rename_i xJ;simp only[jN]at W;simp only[iI]at s;have hL:=wV (P:=P) W;have xD:=PD (P:=P) (w:=w) mX false wS (by simpa using xJ);have bN:bl<w.heap.size:=(Array.getElem?_eq_some_iff.1 W).1;have dY:∀(o':Obj) (b5:Array Value) (eA:List ah),(Instr.mapUpdate t (a.eval gZ) (a.eval hp) (a.eval p7)).run P w= .ok () {w with heap:=w.heap.setIfInBounds bl o'}->jN eA b5 el.1=o'->iI w Z eA b5.toList->some eA=some cs'->
         (⟨none,.mapUpdate t gZ hp p7,type,pos,after,guard⟩:Oper).wp P a w K Q:=by
        intro o' b5 eA ig Eu k3 V;cases V;refine Gi (w':={w with heap:=w.heap.setIfInBounds bl o'}) ?_ (M _ _ _ (l.setBox (w':={w with heap:=w.heap.setIfInBounds bl o'}) dI cn (us:=b5) (el:=el) rfl rfl rfl (fun j G=>?_) Ψ ?_ k3).1)
        ·simp only[execOp,ig,fB,fE,gx]
        ·exact Array.getElem?_setIfInBounds_ne (lb G)
        ·rw[Eu];simp[bN]
       split at hm
       ·rename_i x4 wc;obtain⟨j,u,b5,e,f1,f2,f3,f4,f5,f6,f7⟩:=Fg mX wS Ar borns kvs us.toList 0 _ s.1 s.2.len wc;refine dY (.map (gi borns b5).toArray clock) b5.toArray (.hdm clock borns::x4) ?_ (by simp[jN]) (by simp only[iI];exact⟨by simpa using f2,⟨by rw[f3];exact s.2.len,s.2.inc,s.2.lt⟩⟩) hm;have M5:(Instr.keyThatStays (((gi borns us.toList).toArray[j]?.map (·.key)).getD (a.eval hp)) (a.eval hp)).run P w= .ok (a.eval hp) w:=by
         have:((gi borns us.toList).toArray[j]?.map (·.key)).getD (a.eval hp)=e.key:=by simp[f4]
         rw[this];simp[Instr.keyThatStays,f6]
        simp only[Nat.zero_add]at f1;simp only[Instr.mapUpdate,fB,run_underlying hu,fE,b8,hL,xD,f1.run mX,gx,M5,FR W];rw[f7];simp
       ·rename_i wc;have f1:=Fg mX wS Ar borns kvs us.toList 0 _ s.1 s.2.len wc;simp only at f1;have p1:us.toList.length=2*borns.length:=by rw[JF s.1,s.2.len]
        refine dY (.map ((gi borns us.toList).toArray.push ⟨a.eval hp,a.eval p7,clock⟩) (clock+1)) (us.toList++[a.eval hp,a.eval p7]).toArray (.hdm (clock+1) (borns++[clock])::(kvs++[cg st.t k,cg st.t v])) ?_ (by simp only[jN,Lw borns us.toList clock _ _ p1];simp) ?_ hm
        ·simp only[Instr.mapUpdate,fB,run_underlying hu,fE,b8,hL,xD,f1.run mX,gx,FR W]
        ·simp only[iI];refine⟨Px s.1 (by simp only[cN];exact⟨_,_,rfl,wS,_,_,rfl,Ar,rfl⟩),⟨by simp[s.2.len];omega,?_,?_⟩⟩
         ·rw[List.pairwise_append];exact⟨s.2.inc,Ψ,fun x L y aO=>by simp at aO;subst aO;exact s.2.lt x L⟩
         ·intro b ae;rcases j0.1 ae with ae|ae
          ·have:=s.2.lt b ae;omega
          ·simp at ae;omega
       ·cases hm
      ·cases hm
     ·cases he
    ·cases he
   ·cases he
  ·cases J
 ·rename_i d key x t gZ;simp only[cD,dW,e3]at al;obtain⟨⟨⟨⟨rfl,U⟩,J⟩,A⟩,_⟩:=al;have rx:=eD l A;split at J
  ·rename_i sz O nQ qw z N;obtain⟨cX,hu,fj⟩:=ij aM N;have uK:cX= .map nQ qw:=by cases cX<;>simp[kv]at fj;obtain⟨rfl,rfl⟩:=fj;rfl
   subst uK;simp only[eP]at he;split at he
   ·rename_i m L;rw[L]at rx;have aqB:=rx;simp only[aV]at rx;obtain⟨bl,cn,b8⟩:=rx;split at he
    ·rename_i cs dI;split at he
     ·rename_i cs' hm;cases he;obtain⟨jn,us,el,X,bC,bY,W,s⟩:=l.good.box m cs dI;rw[cn]at X;cases X;unfold Ag at hm;split at hm
      ·rename_i clock borns kvs;cases hm;simp only[jN]at W;have hL:=wV (P:=P) W;obtain⟨g1,g2⟩:=l.newBox (l.new _ (vZ rfl)) (dt rfl) (cs:=[.hdi clock [] clock,.gmap m]) (us:= #[a.eval gZ]) ⟨0,fun e=>absurd e hB⟩ (by simp only[iI,cN];exact⟨_,_,rfl,aqB,rfl⟩);have Eu:jN [.hdi clock [] clock,.gmap m] #[a.eval gZ] 0= .mapIter (some bl) clock #[] clock:=by simp[jN,b8]
       rw[Eu]at g1 g2;refine lH (v:= .pointer (some ⟨w.heap.size,0,none⟩)) (w':=w.alloc (.mapIter (some bl) clock #[] clock)) ?_ (M _ _ _ (g1.put (d:=some d) (by simpa[h9]using U) (p:= .ptr κ 0) g2))
       ·simp only[execOp];refine Gc ?_;simp only[Instr.range,fB,run_underlying hu,fE,b8,hL,gx,run_newObj];rfl
      ·cases hm
     ·cases he
    ·cases he
   ·cases he
  ·cases J
 ·rename_i d ayb;simp only[cD,dW,e3]at al;obtain⟨⟨J,U⟩,A⟩:=al;subst J;simp only[eP]at he;split at he
  ·rename_i cB p F;cases he;obtain⟨v,g1,g2⟩:=arX (o:=⟨some d,op,type,pos,after,guard⟩) aM l A F aA;refine lH g1 (M _ _ Z ?_);exact l.put (d:=some d) (by simpa[h9]using U) g2
  ·cases he
 ·rename_i d key x el o';simp only[cD,dW,e3]at al;obtain⟨⟨⟨J,U⟩,A⟩,me⟩:=al;subst J;simp only[eP]at he;cases he;have L:=eD l A;have mF:=wP L aA;obtain⟨g1,g2⟩:=l.newBox (l.new _ (vZ rfl)) (dt rfl) ⟨el,fun e=>by have:=hB e;subst this;simpa using me⟩ (by rw[qR (Ak mF)];exact mF);rw[rE (Ak mF)]at g1 g2;refine lH (v:= .pointer (some ⟨w.heap.size,0,none⟩)) (w':=w.alloc (.cells (a.eval o').cells el)) ?_ (M _ _ _ (g1.put (d:=some d) (by simpa[h9]using U) (p:= .ptr κ 0) ?_))
  ·simp only[execOp,Instr.box,newVar,newRow,fB,run_newObj,fE,gx];rfl
  ·simpa only[aV]using g2
 ·rename_i d key z el;simp only[cD,dW,e3]at al;obtain⟨⟨⟨J,U⟩,A⟩,me⟩:=al;subst J;simp only[eP]at he;cases he;split at A
  ·rename_i f N;have bI:=QS A;obtain⟨bH,la,z2,z3⟩:=Qg aM N w;rw[<-bI]at z2;obtain⟨_,mF⟩:=QR w Z z2;obtain⟨g1,g2⟩:=l.newBox (l.new _ (vZ rfl)) (dt rfl) ⟨el,fun e=>by have:=hB e;subst this;simpa using me⟩ (by rw[qR (Ak mF)];exact mF);rw[rE (Ak mF)]at g1 g2;refine lH (v:= .pointer (some ⟨w.heap.size,0,none⟩)) (w':=w.alloc (.cells bH.cells el)) ?_ (M _ _ _ (g1.put (d:=some d) (by simpa[h9]using U) (p:= .ptr κ 0) ?_))
   ·simp only[execOp,Instr.alloc,newVar,newRow,fB,la,run_newObj,fE,gx];rfl
   ·simpa only[aV]using g2
  ·cases A
 ·rename_i sz x y t o' S;simp only[cD,dW]at al;obtain⟨⟨⟨J,U⟩,A⟩,E⟩:=al;subst J;split at U
  ·rename_i f N;simp only[dW]at U;simp only[eP]at he;split at he
   ·rename_i k off L;split at he
    ·rename_i cs dI;cases he;obtain⟨c0,bP,c2,c3⟩:=aA;have rx:=eD l A;rw[L]at rx;simp only[aV]at rx;obtain⟨bl,cn,b8⟩:=rx;have R:=eD l E;have wN:=wP R bP;have wT:=qU wN;obtain⟨jn,us,el,X,bC,bY,W,s⟩:=l.good.box k cs dI;rw[cn]at X;cases X;rw[rE c0]at W;rw[qR c0]at s;have aw:=qU s;obtain⟨_,dS⟩:=w3 aM N w;have wi:(a.eval S).cells.size=sz:=by rw[c2]at wT;simpa using wT
     have dd:=run_storeCells_at (P:=P) bl off el.1 (a.eval S).cells.toList 0 us w W (by simp at aw⊢;omega) (CL wN);simp only[Nat.add_zero]at dd;refine Gi (w':=w.setRow bl (us.toList.take off++(a.eval S).cells.toList++us.toList.drop (off+(a.eval S).cells.toList.length)).toArray) ?_ (M _ _ _ (l.storeBox dI cn c0 ?_))
     ·simp only[execOp,Instr.storeAt,b8,Instr.sureAddr,storeVar,fB,gx,fE,dS,wi,U,ne_eq,not_true_eq_false,if_false,dd]
     ·simp only[po];rw[wT];exact Aj (Aj (FM off s) wN) (CK _ s)
    ·cases he
   ·rename_i L;generalize MU:cg st.t x=px at he;unfold sF at he;split at he
    ·rename_i dO k n i uC;split at he
     ·rename_i n' el iK xs ad;split at he
      ·rename_i Et;obtain⟨rfl,rfl⟩:=Et;split at he
       ·rename_i q bA;cases he;obtain⟨c0,bP,c2,c3,c4⟩:=aA;have rx:=eD l A;rw[MU]at rx;have R:=eD l E;have wN:=wP R bP;have wT:=qU wN;obtain⟨_,dS⟩:=w3 aM N w;have wi:(a.eval S).cells.size=sz:=by rw[c2]at wT;simpa using wT
        obtain⟨bl,off,nE,Ex,dd,Z',oA⟩:=l.storeRow (P:=P) ad rx bA c0 wN (by simpa[wi]using c3) (fun e=>by have:=eG List.length e;simp[wi]at this;omega);refine Gi (w':=w.setRow bl nE) ?_ (M _ _ _ oA);simp only[execOp,Instr.storeAt,Ex,Instr.sureAddr,storeVar,fB,gx,fE,dS,wi,U,ne_eq,not_true_eq_false,if_false,dd]
       ·cases he
      ·cases he
     ·cases he
    ·cases he
  ·cases U
 ·rename_i d sz el xs t len parts;simp only[cD,dW,e3]at al;obtain⟨⟨⟨⟨⟨⟨J,U⟩,A⟩,E⟩,b2⟩,dq⟩,eh⟩:=al;subst J;subst b2;split at A
  ·rename_i fi N;simp only[dW]at A;subst A;split at E
   ·rename_i g a1;simp only[cD,dW,e3]at E;obtain⟨rfl,fR⟩:=E;simp only[eP]at he;cases he;obtain⟨us,g1,g2,g3⟩:=aaI aM l N rfl a1 eh aA dq;have kn:(w.alloc (.cells us el)).ownsRow w.heap.size el g.size (.slice (some ⟨w.heap.size,0,none⟩) xs.length xs.length) (xs.map (cg st.t)).length us.toList:=by
     refine⟨by simp[g3],.inr ⟨w.heap.size,xs.length,us,Ψ,e2 _,heap_alloc_new w _,Ψ,?_,g3,?_⟩⟩
     ·simp only[maxLen];have:xs.length<=xs.length*g.size:=Nat.le_mul_of_pos_right _ fR;omega
     ·rw[gv];simp[g3]
    obtain⟨dN,ff⟩:=l.newRow (k:=κ) (xs:=xs.map (cg st.t)) (.inl (l.new _ (vZ rfl))) (World.grownBy_alloc w _ none) kn g2
     (by have:xs.length<=xs.length*g.size:=Nat.le_mul_of_pos_right _ fR;simp only[lim,iz];omega) (dt rfl)
    simp only[iz]at dN ff;refine lH (v:= .slice (some ⟨w.heap.size,0,none⟩) xs.length xs.length) (w':=w.alloc (.cells us el)) ?_ (M _ _ _ (dN.put (d:=some d) (by simpa[h9]using U) (p:= .slice g.size (.own κ) (xs.map (cg st.t))) ff));have bM:(parts.map fun(x:Nat×jk)=>(x.1,a.eval x.2))=(parts.toList.map fun(x:Nat×jk)=>(x.1,a.eval x.2)).toArray:=by apply Array.ext';simp
    simp only[execOp];refine Gc ?_;rw[<-g1];congr 2
   ·cases E
  ·cases A
 ·rename_i d sz el x y o' S t dP;simp only[cD,dW,e3]at al;obtain⟨⟨⟨⟨⟨⟨J,U⟩,A⟩,E⟩,b2⟩,dq⟩,eh⟩:=al;subst J;subst A;split at E
  ·rename_i fi N;simp only[dW]at E;subst E;split at b2
   ·rename_i g a1;simp only[cD,dW,e3]at b2;obtain⟨⟨rfl,fR⟩,vT⟩:=b2;have rx:=eD l dq;have R:=eD l eh;have k1:∀v' w',(ui #[t,t] type #[a.eval o',a.eval S]).run P w= .ok v' w'->(execOp a.eval ⟨some d,.call ⟨.builtin .append,⟨[o',S]⟩,⟨[t,t]⟩⟩,type,pos,after,guard⟩).run P w= .ok (.value v') w':=by intro v' w' ig;simp only[execOp,resolve,invoke,builtin,fB,gx,fE,List.map_toArray,fG,nx];rw[ig];rfl
    obtain⟨r,cr,z,ai,aC,D,cY,fQ,hc,r7,q7⟩:=(vj aM a1).ex;obtain⟨eA,V,fj⟩:=ij aM N;obtain rfl:=r6 fj;simp only[eP]at he;split at he
    ·rename_i dO tag xs iK hG ys L aO;split at he
     ·rename_i eu;obtain⟨rfl,eu⟩:=eu;subst eu;rw[L]at rx;rw[aO]at R;simp only[aV]at rx R;obtain⟨⟨vB,pO,rL,cx1,⟨Ub,Uc⟩,cx4⟩,rxn,rxo,rxt⟩:=rx;obtain⟨⟨oX,mA,sM,cy1,⟨Ud,Ue⟩,cy4⟩,_⟩:=R;split at he
      ·rename_i k;split at he
       ·rename_i ow ad;cases he;obtain⟨bP,c2,c3,c4⟩:=aA;subst c2;obtain⟨n0,rH,dN,ff,ks⟩:=rxo k rfl;obtain⟨v0,H,X,bC,bY,_⟩:=l.good.own k ow ad;rw[dN]at X;simp only[dz,hW]at X;obtain⟨rfl,rfl⟩:=X;have lT:a.eval o'=rH:=ks bP.symm;by_cases jV:ys=[]
        ·subst jV;rw[sM,rL]at k1;have ig:=JK (P:=P) (w:=w) (ty:=type) V ai vB xs.length pO cx1 oX mA;refine lH (k1 _ _ (by simpa using ig)) (M _ _ Z ?_);have dd:{st with t:=put d (.slice ow.sz (.own k) (xs++[])) st.t,e:=cG k ⟨xs.length+([]:List ah).length,ow.el,ow.sz,none⟩ st.e}=({st with e:=cG k ⟨ow.n,ow.el,ow.sz,none⟩ st.e,t:=put d (.slice ow.sz (.own k) xs) st.t}:bn):=by simp[bP]
         rw[<-c3,dd];have nc:=l.forgetRow ad;refine nc.put (d:=some d) (by simpa[h9]using U) (p:= .slice ow.sz (.own k) xs) ?_;simp only[aV];rw[<-c3]at cx4;exact⟨⟨vB,pO,rfl,cx1,⟨Ub,Uc⟩,cx4⟩,fun e=>(by cases e),(fun g e=>by cases e;exact⟨_,_,dN,ff,fun e=>by rw[<-rL];exact ks e⟩),fun _ _ e=>(by cases e),fun _ e=>(by cases e)⟩
        ·have hyp:0<ys.length:=by cases ys<;>simp at jV⊢
         rcases cy4 with cy4|⟨O,oI,B,rfl,zW,Y⟩
         ·exact absurd cy4 jV
         ·have kk:=sx Y;have tv:∀j u,B[j]? =some u->w.cell? ((⟨O,oI,none⟩:Addr).add j)=some u:=fun j u G=>by rw[pK];exact(wy zW G).2
          have oy:(xs.length+ys.length)*r.bytes<=140737488355328:=by
           have jr:r.bytes<=2048:=by rw[cY];exact vT
           have ln:(xs.length+ys.length)*r.bytes<=(xs.length+ys.length)*2048:=Nat.mul_le_mul_left _ jr;simp only[lim]at c4;omega
          have k2:xs.length+ys.length<=maxLen:=by simp only[lim]at c4;simp only[maxLen];omega
          rw[sM]at k1;have uT:H.length=ow.n*ow.sz:=bC.1;have rn:z.cells.size=r.size:=by rw[q7,D]
          have zl:(∀cur,eF->cur=(0:Nat))->(∃v' w',(ui #[t,t] type #[a.eval o',.slice (some ⟨O,oI,none⟩) ys.length mA]).run P w= .ok v' w'/\w'.ownsRow w.heap.size ow.el r.size v' (xs.length+ys.length) (H++B)/\w.grownBy w' none/\dk w Z r.size xs H)->
            (⟨some d,.call ⟨.builtin .append,⟨[o',S]⟩,⟨[t,t]⟩⟩,type,pos,after,guard⟩:Oper).wp P a w K Q:=by
           intro _ cV;obtain⟨v',w',f1,f2,f3,f4⟩:=cV;have vV:dk w Z r.size (xs++ys) (H++B):=CI f4 (by rw[D];exact Y);obtain⟨da,dx⟩:=l.newRow (k:=k) (xs:=xs++ys) (.inr ⟨ow,ad,by rw[bP];simp;omega⟩) f3 (by simpa using f2) vV (by simpa using c4) (n':=st.n) (o':=st.o)
            (fun j G=>⟨G,fun e=>by subst e;have:=(l.new _ G).2.1;rw[dN]at this;cases this⟩)
           refine lH (k1 _ _ f1) (M _ _ ((Z.withOwn k (xs++ys).length v').withRowOf k v' (xs++ys).length ((xs++ys).length*r.size)) ?_);have:=da.put (d:=some d) (by simpa[h9]using U) dx;simpa[D,eY]using this
          rcases bC.2 with⟨kM,wJ⟩|⟨bl,cap,cur,kM,wJ,wK,FE,FF,Jd,Cy⟩
          ·
           have sl:xs=[]:=vn Ω;have M8:H=[]:=vn (by rw[uT,wJ];simp);subst sl;subst M8;refine zl (fun _ h=>h.elim) ?_;obtain⟨v',w',f1,f2,f3,_⟩:=run_append_own (P:=P) w w.heap.size t type ow.el r z r.size r.bytes V ai hc rfl rfl rn (by rw[D];exact fR) (.slice none 0 0) 0 [] (World.ownsRow_nil w _ _ _)
            ⟨O,oI,none⟩ ys.length mA B (by rw[kk,D]) tv (Ai Y) (by simpa using k2) (by simpa using oy) (e2 _)
           refine⟨v',w',by rw[lT,kM];exact f1,by simpa using f2,by simpa[oR]using f3,by simp[dk]⟩
          ·have aj2:lB w Z.A bl 0 H/\dk w Z r.size xs H/\True:=by
            rw[lT,kM]at rL;rcases cx4 with cx4|⟨bb,awV,Qs,f1,f2,f3⟩
            ·subst cx4;have:H=[]:=vn (by rw[uT,bP];simp);subst this;exact⟨trivial,by simp[dk],trivial⟩
            ·subst f1;injection rL with vx1 vx2 vx3;injection vx1 with vx1;injection vx1 with vx1 vx4;subst vx1;subst vx4;have heq:Qs=H:=by
              apply List.ext_getElem?;intro j;have p1:Qs.length=H.length:=by rw[sx f3,uT,bP,c3]
              by_cases G:j<Qs.length
              ·have J:=(wy f2 (cl G)).2;rw[Nat.zero_add]at J;have U:=bC.cells (g:=bl) (by rw[kM];rfl) j H[j] (cl Ω);rw[pK,Nat.zero_add,J]at U;rw[cl G,cl Ω];exact U
              ·rw[rR Ω,rR Ω]
             subst heq;exact⟨f2,by rw[D];exact f3,trivial⟩
           obtain⟨ky,h1,_⟩:=aj2;by_cases pa:xs.length+ys.length<=cap
           ·have avd:cur.size=cap*ow.sz:=Jd;have hmul:(xs.length+ys.length)*ow.sz<=cap*ow.sz:=Nat.mul_le_mul_right _ pa;rw[q2]at hmul;have f1:=run_append_room (P:=P) w t type ow.el r V ai bl xs.length cap cur wK ⟨O,oI,none⟩ ys.length mA B (by rw[kk,D]) tv (Ai Y) pa (by rw[kk,D,<-c3];omega);obtain⟨da,dx⟩:=l.inPlace ad (bl:=bl) (cap:=cap) (cur:=cur) (by rw[dN,<-kM]) wK FF Jd (xs:=xs) (ys:=ys) (us:=H) (ns:=B) bP.symm Cy (by rw[c3,<-D];exact h1) (by rw[c3];exact Y) hyp (by rw[bP];exact pa) c4;refine lH (v:= .slice (some ⟨bl,0,none⟩) (ow.n+ys.length) cap) (w':=w.setRow bl (H++B++cur.toList.drop (ow.n*ow.sz+B.length)).toArray) (k1 _ _ ?_)
             (M _ _ (Z.withRowOf k (.slice (some ⟨bl,0,none⟩) (ow.n+ys.length) cap) (ow.n+ys.length) ((ow.n+ys.length)*ow.sz)) ?_)
            ·rw[lT,kM,bP,f1,<-Cy,bP,c3,D]
            ·have:=da.put (d:=some d) (by simpa[h9]using U) dx;simpa[bP,c3,eY]using this
           ·refine zl (fun _ h=>h.elim) ?_;obtain⟨v',w',f1,f2,f3⟩:=run_append_arg_grows (P:=P) w t type ow.el r z r.size r.bytes V ai hc rfl rfl rn (by rw[D];exact fR) ⟨bl,0,none⟩ xs.length cap H (by rw[uT,bP,c3,D])
             (fun j u G=>by rw[pK];exact(wy ky G).2) ⟨O,oI,none⟩ ys.length mA B (by rw[kk,D]) tv Ω k2 oy
            exact⟨v',w',by rw[lT,kM,bP];exact f1,f2,f3,h1⟩
       ·cases he
      ·cases he;have HT:=rxn rfl;have sl:xs=[]:=by rw[HT]at rL;injection rL with _ aC;exact vn aC.symm
       subst sl;have zy:(ep.app d g.size el x y).makes st=true:=by simp only[ep.makes,L]
       have rn:z.cells.size=r.size:=by rw[q7,D]
       rw[sM,HT]at k1;have dY:∀(v':Value) (w':World) (B:List Value),(ui #[t,t] type #[.slice none 0 0,.slice oX ys.length mA]).run P w= .ok v' w'->w'.ownsRow w.heap.size el g.size v' ys.length B->w.grownBy w' none->dk w Z g.size ys B->
         (⟨some d,.call ⟨.builtin .append,⟨[o',S]⟩,⟨[t,t]⟩⟩,type,pos,after,guard⟩:Oper).wp P a w K Q:=by
        intro v' w' B f1 f2 f3 f4;obtain⟨da,dx⟩:=l.newRow (k:=κ) (xs:=ys) (.inl (l.new _ (vZ zy))) f3 f2 f4 aA (dt zy);exact lH (k1 _ _ f1) (M _ _ _ (da.put (d:=some d) (by simpa[h9]using U) dx))
       by_cases jV:ys=[]
       ·subst jV;exact dY _ w [] (JK V ai none 0 0 (e2 _) oX mA) (World.ownsRow_nil w _ _ _) (atK w _) (by simp[dk])
       ·rcases cy4 with cy4|⟨O,oI,B,rfl,zW,Y⟩
        ·exact absurd cy4 jV
        ·have kk:=sx Y;have tv:∀j u,B[j]? =some u->w.cell? ((⟨O,oI,none⟩:Addr).add j)=some u:=fun j u G=>by rw[pK];exact(wy zW G).2
         have oy:ys.length*r.bytes<=140737488355328:=by
          have J:r.bytes<=2048:=by rw[cY];exact vT
          have U:ys.length*r.bytes<=ys.length*2048:=Nat.mul_le_mul_left _ J;simp only[lim]at aA;omega
         have k2:ys.length<=maxLen:=by simp only[lim]at aA;simp only[maxLen];omega
         obtain⟨v',w',f1,f2,f3,_⟩:=run_append_own (P:=P) w w.heap.size t type el r z r.size r.bytes V ai hc rfl rfl rn (by rw[D];exact fR) (.slice none 0 0) 0 [] (World.ownsRow_nil w _ _ _)
          ⟨O,oI,none⟩ ys.length mA B (by rw[kk,D]) tv (Ai Y) (by simpa using k2) (by simpa using oy) (e2 _)
         exact dY v' w' B f1 (by rw[<-D];simpa using f2) (by simpa[oR]using f3) Y
      ·cases he
     ·cases he
    ·cases he
   ·cases b2
  ·cases E
 ·rename_i d key sz el xs t len parts;simp only[cD,dW,e3]at al;obtain⟨⟨⟨⟨⟨⟨J,U⟩,A⟩,E⟩,b2⟩,dq⟩,eh⟩:=al;subst J;subst b2;split at A
  ·rename_i fi N;simp only[dW]at A;subst A;split at E
   ·rename_i g a1;simp only[cD,dW,e3]at E;obtain⟨rfl,fR⟩:=E;simp only[eP]at he;cases he;obtain⟨us,g1,g2,g3⟩:=aaI aM l N rfl a1 eh aA dq;have kn:(w.alloc (.cells us el)).ownsRow w.heap.size el g.size (.slice (some ⟨w.heap.size,0,none⟩) xs.length xs.length) (xs.map (cg st.t)).length us.toList:=by
     refine⟨by simp[g3],.inr ⟨w.heap.size,xs.length,us,Ψ,e2 _,heap_alloc_new w _,Ψ,?_,g3,?_⟩⟩
     ·simp only[maxLen];have:xs.length<=xs.length*g.size:=Nat.le_mul_of_pos_right _ fR;omega
     ·rw[gv];simp[g3]
    obtain⟨dN,ff⟩:=l.newRowM (k:=κ) (xs:=xs.map (cg st.t)) (.inl (l.new _ (vZ rfl))) (World.grownBy_alloc w _ none) kn g2
     (by have:xs.length<=xs.length*g.size:=Nat.le_mul_of_pos_right _ fR;simp only[lim,iz];omega) (dt rfl)
    simp only[iz]at dN ff;refine lH (v:= .slice (some ⟨w.heap.size,0,none⟩) xs.length xs.length) (w':=w.alloc (.cells us el)) ?_ (M _ _ _ (dN.put (d:=some d) (by simpa[h9]using U) (p:= .row g.size κ xs.length) (ff ⟨_,_,rfl⟩)));have bM:(parts.map fun(x:Nat×jk)=>(x.1,a.eval x.2))=(parts.toList.map fun(x:Nat×jk)=>(x.1,a.eval x.2)).toArray:=by apply Array.ext';simp
    simp only[execOp];refine Gc ?_;rw[<-g1];congr 2
   ·cases E
  ·cases A
 ·rename_i d key sz el x y o' S t dP;simp only[cD,dW,e3]at al;obtain⟨⟨⟨⟨⟨⟨J,U⟩,A⟩,E⟩,b2⟩,dq⟩,eh⟩:=al;subst J;subst A;split at E
  ·rename_i fi N;simp only[dW]at E;subst E;split at b2
   ·rename_i g a1;simp only[cD,dW,e3]at b2;obtain⟨⟨rfl,fR⟩,vT⟩:=b2;have rx:=eD l dq;have R:=eD l eh;have k1:∀v' w',(ui #[t,t] type #[a.eval o',a.eval S]).run P w= .ok v' w'->(execOp a.eval ⟨some d,.call ⟨.builtin .append,⟨[o',S]⟩,⟨[t,t]⟩⟩,type,pos,after,guard⟩).run P w= .ok (.value v') w':=by intro v' w' ig;simp only[execOp,resolve,invoke,builtin,fB,gx,fE,List.map_toArray,fG,nx];rw[ig];rfl
    obtain⟨r,cr,z,ai,aC,D,cY,fQ,hc,r7,q7⟩:=(vj aM a1).ex;obtain⟨eA,V,fj⟩:=ij aM N;obtain rfl:=r6 fj;have rn:z.cells.size=r.size:=by rw[q7,D]
    simp only[eP]at he;split at he
    ·
     rename_i ys F;cases he;unfold nB at F;split at F
     ·rename_i dO xs iK hG atB L aO;split at F
      ·rename_i eu;obtain⟨rfl,eu⟩:=eu;subst eu;cases F;rw[L]at rx;rw[aO]at R;simp only[aV]at rx R;obtain⟨⟨vB,pO,rL,cx1,⟨Ub,Uc⟩,cx4⟩,rxn,rxo,rxt⟩:=rx;obtain⟨⟨oX,mA,sM,cy1,⟨Ud,Ue⟩,cy4⟩,_⟩:=R;have HT:=rxn trivial;have zy:(ep.appm d key g.size el x y).makes st=true:=by simp only[ep.makes,L]
       rw[sM,HT]at k1;have dY:∀(v':Value) (w':World) (B:List Value),(ui #[t,t] type #[.slice none 0 0,.slice oX ys.length mA]).run P w= .ok v' w'->w'.ownsRow w.heap.size el g.size v' ys.length B->w.grownBy w' none->dk w Z g.size ys B->
         (⟨some d,.call ⟨.builtin .append,⟨[o',S]⟩,⟨[t,t]⟩⟩,type,pos,after,guard⟩:Oper).wp P a w K Q:=by
        intro v' w' B f1 f2 f3 f4;obtain⟨da,dx⟩:=l.newRowM (k:=κ) (xs:=ys) (.inl (l.new _ (vZ zy))) f3 f2 f4 aA.1 (dt zy);exact lH (k1 _ _ f1) (M _ _ _ (da.put (d:=some d) (by simpa[h9]using U) (dx (Ja f2 (by cases ys<;>simp at aA⊢)))))
       by_cases jV:ys=[]
       ·subst jV;exact dY _ w [] (JK V ai none 0 0 (e2 _) oX mA) (World.ownsRow_nil w _ _ _) (atK w _) (by simp[dk])
       ·rcases cy4 with cy4|⟨O,oI,B,rfl,zW,Y⟩
        ·exact absurd cy4 jV
        ·have kk:=sx Y;have tv:∀j u,B[j]? =some u->w.cell? ((⟨O,oI,none⟩:Addr).add j)=some u:=fun j u G=>by rw[pK];exact(wy zW G).2
         have oy:ys.length*r.bytes<=140737488355328:=by
          have J:r.bytes<=2048:=by rw[cY];exact vT
          have U:ys.length*r.bytes<=ys.length*2048:=Nat.mul_le_mul_left _ J;simp only[lim]at aA;omega
         have k2:ys.length<=maxLen:=by simp only[lim]at aA;simp only[maxLen];omega
         obtain⟨v',w',f1,f2,f3,_⟩:=run_append_own (P:=P) w w.heap.size t type el r z r.size r.bytes V ai hc rfl rfl rn (by rw[D];exact fR) (.slice none 0 0) 0 [] (World.ownsRow_nil w _ _ _)
          ⟨O,oI,none⟩ ys.length mA B (by rw[kk,D]) tv (Ai Y) (by simpa using k2) (by simpa using oy) (e2 _)
         exact dY v' w' B f1 (by rw[<-D];simpa using f2) (by simpa[oR]using f3) Y
      ·cases F
     ·split at F
      ·split at F
       ·split at F<;>cases F
       ·cases F
      ·cases F
     ·cases F
    ·
     rename_i k xs ys F;cases he;unfold nB at F;split at F
     ·split at F<;>cases F
     ·rename_i dO bt n iK hG atB L aO;split at F
      ·rename_i eu;obtain⟨rfl,eu⟩:=eu;subst eu;split at F
       ·rename_i n' fi vi xs' ad;split at F
        ·rename_i tn;obtain⟨rfl,rfl,rfl⟩:=tn;cases F;rw[L]at rx;rw[aO]at R;simp only[aV]at rx R;obtain⟨⟨bx,pO,rL⟩,rxl,n0,rH,dN,ff,ks⟩:=rx;obtain⟨⟨oX,mA,sM,cy1,⟨Ud,Ue⟩,cy4⟩,_⟩:=R;obtain⟨v0,H,X,bC,bY,W⟩:=l.good.own k _ ad;rw[dN]at X;simp only[dz,hW]at X bC;obtain⟨rfl,rfl⟩:=X;have lT:a.eval o'=rH:=ks rfl;obtain⟨s,kN,sw⟩:=W xs rfl;simp only at s kN;have uT:H.length=xs.length*g.size:=by rw[s];exact bC.1
         have iw:xs.length=n0:=s;by_cases jV:ys=[]
         ·subst jV;rw[sM,rL]at k1;have mF:n0<=pO:=by
           rcases bC.2 with⟨kM,wJ⟩|⟨bl,cap,cur,kM,wJ,wK,FE,_⟩
           ·rw[wJ];exact Nat.zero_le _
           ·rw[<-lT,rL]at kM;injection kM with _ _ e;rw[e];exact FE
          have ig:=JK (P:=P) (w:=w) (ty:=type) V ai (some ⟨bx,0,none⟩) n0 pO mF oX mA;refine lH (k1 _ _ (by simpa using ig)) (M _ _ Z ?_);have iQ:∀fy,look fy (cG k ⟨n0,fi,g.size,some xs⟩ st.e)=look fy st.e:=fun fy=>by
           rw[jL];split
           ·rename_i e;subst e;rw[ad]
           ·rfl
          have nc:cZ C {st with e:=cG k ⟨n0,fi,g.size,some xs⟩ st.e} a w Z:=
           ⟨⟨l.good.alt,l.good.box,l.good.inj,fun g o a1=>l.good.own g o (by rw[<-iQ g];exact a1),fun g fy n n' v v' bl bL a2=>l.good.oinj g fy n n' v v' bl (by rw[<-iQ g];exact bL) (by rw[<-iQ fy];exact a2),
           fun g j n v bl bL=>l.good.obx g j n v bl (by rw[<-iQ g];exact bL),l.good.one,fun bl ae=>l.good.otr bl (ae.imp id (fun⟨g,n,v,bL,a2⟩=>⟨g,n,v,by rw[<-iQ g];exact bL,a2⟩))⟩,l.fr,l.defers,l.size,l.slot,l.new,l.ext,l.obk⟩
          have A:=nc.put (d:=some d) (by simpa[h9]using U) (p:= .row g.size k n0) (v:= .slice (some ⟨bx,0,none⟩) n0 pO) (by simp only[aV];exact⟨⟨_,_,rfl⟩,rxl,_,_,dN,e2 _,fun _=>by rw[<-rL];exact lT⟩)
          simpa[iw,eY]using A
         ·have hyp:0<ys.length:=by cases ys<;>simp at jV⊢
          rcases cy4 with cy4|⟨O,oI,B,rfl,zW,Y⟩
          ·exact absurd cy4 jV
          ·have kk:=sx Y;have tv:∀j u,B[j]? =some u->w.cell? ((⟨O,oI,none⟩:Addr).add j)=some u:=fun j u G=>by rw[pK];exact(wy zW G).2
           have oy:(xs.length+ys.length)*r.bytes<=140737488355328:=by
            have jr:r.bytes<=2048:=by rw[cY];exact vT
            have ln:(xs.length+ys.length)*r.bytes<=(xs.length+ys.length)*2048:=Nat.mul_le_mul_left _ jr;simp only[lim]at aA;omega
           have k2:xs.length+ys.length<=maxLen:=by simp only[lim]at aA;simp only[maxLen];omega
           have vV:dk w Z g.size (xs++ys) (H++B):=CI kN Y;rw[sM,lT]at k1;have zl:(∃v' w',(ui #[t,t] type #[rH,.slice (some ⟨O,oI,none⟩) ys.length mA]).run P w= .ok v' w'/\w'.ownsRow w.heap.size fi r.size v' (xs.length+ys.length) (H++B)/\w.grownBy w' none)->
             (⟨some d,.call ⟨.builtin .append,⟨[o',S]⟩,⟨[t,t]⟩⟩,type,pos,after,guard⟩:Oper).wp P a w K Q:=by
            intro cV;obtain⟨v',w',f1,f2,f3⟩:=cV;obtain⟨da,dx⟩:=l.newRowM (k:=k) (xs:=xs++ys) (el:=fi) (sz:=g.size) (.inr ⟨_,ad,by simp;omega⟩) f3 (by rw[<-D];simpa using f2) vV (by simpa using aA) (n':=st.n) (o':=st.o)
             (fun j G=>⟨G,fun e=>by subst e;have:=(l.new _ G).2.1;rw[dN]at this;cases this⟩)
            refine lH (k1 _ _ f1) (M _ _ (Z.withOwn k (xs++ys).length v') ?_);have:=da.put (d:=some d) (by simpa[h9]using U) (dx (by simpa using Ja f2 Ω));simpa[eY]using this
           rcases bC.2 with⟨kM,wJ⟩|⟨bl,cap,cur,kM,wJ,wK,FE,FF,Jd,Cy⟩
           ·
            have sl:xs=[]:=vn Ω;have M8:H=[]:=vn (by rw[uT,sl];simp);subst sl;subst M8;refine zl ?_;obtain⟨v',w',f1,f2,f3,_⟩:=run_append_own (P:=P) w w.heap.size t type fi r z r.size r.bytes V ai hc rfl rfl rn (by rw[D];exact fR) (.slice none 0 0) 0 [] (World.ownsRow_nil w _ _ _)
             ⟨O,oI,none⟩ ys.length mA B (by rw[kk,D]) tv (Ai Y) (by simpa using k2) (by simpa using oy) (e2 _)
            exact⟨v',w',by rw[kM];exact f1,by simpa using f2,by simpa[oR]using f3⟩
           ·have lv:rH.ownBlock=some bl:=by rw[kM];rfl
            by_cases pa:xs.length+ys.length<=cap
            ·have hmul:(xs.length+ys.length)*g.size<=cap*g.size:=Nat.mul_le_mul_right _ pa;rw[q2]at hmul;have f1:=run_append_room (P:=P) w t type fi r V ai bl xs.length cap cur wK ⟨O,oI,none⟩ ys.length mA B (by rw[kk,D]) tv (Ai Y) pa (by rw[kk,D];omega);generalize EM:(cur.toList.take (xs.length*r.size)++B++cur.toList.drop (xs.length*r.size+B.length)).toArray=mm at f1;have kA:(w.setRow bl mm).heap[bl]? =some (.cells mm fi (0,0)):=setRow_heap w bl cur mm fi _ wK;have ao:(H++B).length=(xs++ys).length*g.size:=by rw[ga,uT,kk,ga,q2]
             have b2:cur.toList.take (xs.length*r.size)=H:=by rw[iw,D];exact Cy
             have kD:mm.size=cap*g.size:=by rw[<-EM];simp only[List.size_toArray,ga,oT,sO,Array.length_toList];rw[D];omega
             have pb:mm.toList.take ((xs++ys).length*g.size)=H++B:=by rw[<-EM,b2];simp only[<-ao];rw[List.take_append_of_le_length (e2 _),lZ]
             obtain⟨da,_,dx⟩:=l.setRowM (w':=w.setRow bl mm) ad rfl dN lv (v':= .slice (some ⟨bl,0,none⟩) (xs.length+ys.length) cap) rfl (xs':=xs++ys) (us:=H++B) (.inr gc) rfl rfl rfl (fun j G=>setRow_other w bl j mm G) (setRow_size w bl mm)
              ⟨ao,.inr ⟨bl,cap,mm,Ψ,Nat.zero_le _,kA,by simpa using pa,FF,kD,pb⟩⟩ vV
             replace dx:=dx (by simpa using aA);refine lH (v:= .slice (some ⟨bl,0,none⟩) (xs.length+ys.length) cap) (w':=w.setRow bl mm) (k1 _ _ ?_) (M _ _ (Z.withOwn k (xs++ys).length (.slice (some ⟨bl,0,none⟩) (xs.length+ys.length) cap)) ?_)
             ·rw[kM,<-iw];exact f1
             ·have:=da.put (d:=some d) (by simpa[h9]using U) dx;simpa[eY]using this
            ·refine zl ?_;obtain⟨v',w',f1,f2,f3⟩:=run_append_arg_grows (P:=P) w t type fi r z r.size r.bytes V ai hc rfl rfl rn (by rw[D];exact fR) ⟨bl,0,none⟩ xs.length cap H (by rw[uT,D])
              (fun j u G=>by have:=bC.cells lv j u G;exact this) ⟨O,oI,none⟩ ys.length mA B (by rw[kk,D]) tv Ω k2 oy
             exact⟨v',w',by rw[kM,<-iw];exact f1,f2,f3⟩
        ·cases F
       ·cases F
      ·cases F
     ·cases F
    ·cases he
   ·cases b2
  ·cases E
 ·rename_i sz x y t o' S;simp only[cD,dW]at al;obtain⟨⟨⟨J,U⟩,A⟩,E⟩:=al;subst J;split at U
  ·rename_i f N;simp only[dW]at U;simp only[eP]at he;generalize MU:cg st.t x=px at he;unfold sF at he;split at he
   ·rename_i dO k n i uC;split at he
    ·rename_i n' el iK xs ad;split at he
     ·rename_i Et;obtain⟨rfl,rfl⟩:=Et;split at he
      ·rename_i q bA;cases he;obtain⟨c0,bP,c2,c3,c4⟩:=aA;have rx:=eD l A;rw[MU]at rx;have R:=eD l E;have wN:=wP R bP;have wT:=qU wN;obtain⟨_,dS⟩:=w3 aM N w;have wi:(a.eval S).cells.size=sz:=by rw[c2]at wT;simpa using wT
       obtain⟨bl,off,nE,Ex,dd,Z',oA⟩:=l.storeRow (P:=P) ad rx bA c0 wN (by simpa[wi]using c3) (fun e=>by have:=eG List.length e;simp[wi]at this;omega);refine Gi (w':=w.setRow bl nE) ?_ (M _ _ _ oA);simp only[execOp,Instr.storeAt,Ex,Instr.sureAddr,storeVar,fB,gx,fE,dS,wi,U,ne_eq,not_true_eq_false,if_false,dd]
      ·cases he
     ·cases he
    ·cases he
   ·cases he
  ·cases U
 ·rename_i d el x y o' S t dP;exact Rm aM l (d:=d) (el:=el) (x:=x) (y:=y) (by simpa only[sA]using al) (by simpa only[eP]using he) aA M
 ·rename_i d key sz el z x t o' S;simp only[cD,dW,e3]at al;obtain⟨⟨⟨⟨⟨J,U⟩,A⟩,E⟩,b2⟩,dq⟩:=al;subst J;split at A
  ·rename_i fi N;simp only[dW]at A;subst A;split at E
   ·rename_i g a1;simp only[cD,dW,e3]at E;obtain⟨⟨⟨rfl,fR⟩,vT⟩,bI⟩:=E;obtain rfl:=QS bI;have rx:=eD l b2;have R:=eD l dq;simp only[eP]at he;split at he
    ·rename_i fV n L;cases he;obtain⟨BK,kk⟩:=aA;obtain⟨m,rfl⟩:=Int.eq_ofNat_of_zero_le BK;rw[L]at rx R;simp only[aV]at rx R;obtain⟨r,cr,bH,ai,aC,D,cY,fQ,hc,r7,q7⟩:=(vj aM a1).ex;obtain⟨eA,V,fj⟩:=ij aM N;obtain rfl:=r6 fj;have k2:m<=lim:=by simp only[lim]at kk⊢;omega
     have oy:r.bytes*m<=281474976710656:=by have J:r.bytes*m<=2048*m:=Nat.mul_le_mul_right _ Ω;simp only[lim]at k2;omega
     obtain⟨akz,V2⟩:=QR w Z r7;obtain⟨w',g1,g2,g3⟩:=run_make_full (P:=P) w w.heap.size t el r bH r.size V ai hc rfl fV fV m oy (by simp only[maxLen];simp only[lim]at k2;omega) (e2 _);have kn:w'.ownsRow w.heap.size el g.size (.slice (some ⟨w.heap.size,0,none⟩) m m) (sR m g.zero).length (madeCells bH.cells (m*bH.cells.size)).toList:=by rw[D,<-q7]at g2;rw[List.length_replicate,<-q7];exact g2
     obtain⟨dN,ff⟩:=l.newRowM (k:=κ) (xs:=sR m g.zero) (.inl (l.new _ (vZ rfl))) g3 kn (by rw[<-q7];exact Yk akz Ω (CL V2) m) (by simpa using k2) (dt rfl);simp only[List.length_replicate]at dN ff;simp only[Int.toNat_natCast]at M;refine lH (v:= .slice (some ⟨w.heap.size,0,none⟩) m m) (w':=w') ?_ (M _ _ _ (dN.put (d:=some d) (by simpa[h9]using U) (p:= .row g.size κ m) (ff ⟨_,_,rfl⟩)));simp only[execOp];refine Gc ?_;rw[rx,R];exact g1
    ·cases he
   ·cases E
  ·cases A
 ·cases al
def Rz{N:Nat}{aT:List (Nat×eJ)}{d:Nat}{key:aZ Nat}{o:Oper}(h:sA N aT (.mkmap d key) o=true):key≠some 861:=by
 rintro rfl;obtain⟨dst,op,type,pos,after,guard⟩:=o;generalize hi:ep.mkmap d (some 861)=i at h;unfold sA at h;dsimp only at h;split at h<;>first|(cases hi;done)|(cases h;done)|skip
 cases hi;simp at h
def adw{N:Nat}{aT:List (Nat×eJ)}{st:bn}{d:Nat}{key:aZ Nat}{x:dv}{o:Oper}(h:sA N aT (.range d key x) o=true):jM st key≠ .obj 861:=by
 intro e;obtain rfl:=IS e;obtain⟨dst,op,type,pos,after,guard⟩:=o;generalize hi:ep.range d (some 861) x=i at h;unfold sA at h;dsimp only at h;split at h<;>first|(cases hi;done)|(cases h;done)|skip
 cases hi;simp at h
def aqF{P:cE}{aT:List (Nat×eJ)}(aM:hl P aT=true){C:fb}{st st':bn}{a:Act}{w:World}{Z:a8}(f:cZ C st a w Z){i:ep}{o:Oper}(al:sA C.N aT i o=true)
  {c:Prop} (he:mP st i=some (c,st')) (aA:c) {K:Act->World->Prop} {Q:Exit->Act->World->Prop} (b:∀bu w' Z',cZ C st' bu w' Z'->K bu w'):o.wp P a w K Q:=by
 have p:rv st none->fresh st.n st.o (.loc st.n):=fun h=>ya (key:=none) h;have q:∀j,fresh (st.n+1) st.o j->fresh st.n st.o j/\j≠ .loc st.n:=yb (key:=none);cases i with
 |v d i=>exact jO (κ:= .loc 0) (n':=0) (o₁:=[]) aM f al (fun h=>by simp[ep.makes]at h) (fun h=>by simp[ep.makes]at h) rg aA b
 |box d key x=>simp only[mP]at he;cases he;exact jO (κ:=jM st key) (n':=oF st key) (o₁:=oG st key) aM f al (fun _=>ya aA.1) (fun _=>yb) pl aA.2 b (hB:=IS)
 |alloc d key z=>simp only[mP]at he;cases he;exact jO (κ:=jM st key) (n':=oF st key) (o₁:=oG st key) aM f al (fun _=>ya aA) (fun _=>yb) pl trivial b (hB:=IS)
 |mks d key sz el z x=>
  simp only[mP]at he;split at he
  ·rename_i fV n g;cases he;exact jO (κ:=jM st key) (n':=oF st key) (o₁:=oG st key) aM f al (fun _=>ya aA.1) (fun _=>yb) (by simp only[eP,g]) aA.2 b
  ·cases he
 |apps d el x y=>exact Rm aM f al (by simpa only[mP]using he) aA b
 |storeE sz x y=>exact jO (κ:= .loc 0) (n':=0) (o₁:=[]) aM f al (fun h=>by simp[ep.makes]at h) (fun h=>by simp[ep.makes]at h) rg aA b
 |store sz x y=>exact jO (κ:= .loc 0) (n':=0) (o₁:=[]) aM f al (fun h=>by simp[ep.makes]at h) (fun h=>by simp[ep.makes]at h) rg aA b
 |bsl d sz el xs=>simp only[mP]at he;cases he;exact jO (κ:= .loc st.n) (n':=st.n+1) (o₁:=st.o) aM f al (fun _=>p aA.1) (fun _=>q) pl aA.2 b
 |bslm d key sz el xs=>simp only[mP]at he;cases he;exact jO (κ:=jM st key) (n':=oF st key) (o₁:=oG st key) aM f al (fun _=>ya aA.1) (fun _=>yb) pl aA.2 b
 |appm d key sz el x y=>
  simp only[mP]at he;split at he
  ·rename_i ys l;cases he;exact jO (κ:=jM st key) (n':=oF st key) (o₁:=oG st key) aM f al (fun _=>ya aA.1) (fun _=>yb) (by simp only[eP,l]) aA.2 b
  ·rename_i k xs ys l;cases he;refine jO (κ:= .loc 0) (n':=0) (o₁:=[]) aM f al (fun h=>?_) (fun h=>?_) (by simp only[eP,l]) aA b;all_goals
    exfalso
    simp only[ep.makes]at h
    split at h
    ·rename_i g
     unfold nB at l
     rw[g]at l
     split at l
     ·split at l<;>cases l
     ·rename_i J _;cases J
     ·cases l
    ·cases h
  ·cases he
 |mkmap d key=>simp only[mP]at he;cases he;exact jO (κ:=jM st key) (n':=oF st key) (o₁:=oG st key) aM f al (fun _=>ya aA) (fun _=>yb) pl trivial b (hB:=fun e=>Rz al (IS e))
 |mput E x k v=>exact jO (κ:= .loc 0) (n':=0) (o₁:=[]) aM f al (fun h=>by simp[ep.makes]at h) (fun h=>by simp[ep.makes]at h) rg aA b
 |range d key x=>
  simp only[mP]at he;split at he
  ·rename_i m g;split at he
   ·rename_i cs t;split at he
    ·rename_i cs' hm;cases he;exact jO (κ:=jM st key) (n':=oF st key) (o₁:=oG st key) aM f al (fun _=>ya aA) (fun _=>yb) (by simp only[eP,g,t,hm]) trivial b (hB:=adw al)
    ·cases he
   ·cases he
  ·cases he
 |app d sz el x y=>
  simp only[mP]at he;split at he
  ·rename_i D tag xs A B ys g s;split at he
   ·rename_i r;split at he
    ·rename_i k;split at he
     ·rename_i ow u;cases he;refine jO (κ:= .loc 0) (n':=0) (o₁:=[]) aM f al (fun h=>by simp[ep.makes,g]at h) (fun h=>by simp[ep.makes,g]at h) ?_ aA b;simp only[eP,g,s,r,and_self,if_true,u]
     ·cases he
    ·cases he;refine jO (κ:= .loc st.n) (n':=st.n+1) (o₁:=st.o) aM f al (fun _=>p aA.1) (fun _=>q) ?_ aA.2 b;simp only[eP,g,s,r,and_self,if_true]
    ·cases he
   ·cases he
  ·cases he
structure cS where
 b:List (aB×List ah)
 e:List (aB×er)
def gh(Z:a8)(s:cS)(bl:Nat):Prop:=(∃k,(look k s.b).isSome/\Z.bx k=some bl)\/(∃g n v,(look g s.e).isSome/\Z.ow g=some (n,v)/\v.ownBlock=some bl)
def qx(Z:a8)(s:cS):Prop:= ∀k,(look k s.b=none->Z.bx k=none)/\(look k s.e=none->Z.ow k=none)/\∀j b,¬Z.tr k j b
def di(s:cS):List aB:=s.b.map (·.1)++s.e.map (·.1)
def jv(s:cS):Prop:=(∀m,look (.loc m) s.b=none)/\(∀m,look (.loc m) s.e=none)
def w7(P:cE)(f:FuncId)(bf:Array Value)(w:World)(R:Ending->World->Prop):Prop:=((∃fn,P.funcs[f]? =some fn/\fn.body.isSome=true/\(fn.name== "runtime.NumGoroutine")=false)/\Calls P f bf w R)\/ ∃v w',(callFunc f bf).run P w= .ok (.value v) w'/\R (.returned v) w'
def bG(P:cE)(f:FuncId)(args:List ah)(s:cS)(Q:ah->cS->Prop):Prop:=
 ∀(w:World) (Z:a8) (bf:Array Value) (gl:n7 w Z),Good (gh Z s) w Z s.b s.e->qx Z s->cN w Z args bf.toList->
  w7 P f bf w fun e w'=> ∃v r a Z',e= .returned v/\Q r a/\aV w' Z' r v/\Good (fun bl=>gh Z s bl\/w.heap.size<=bl) w' Z' a.b a.e/\qx Z' a/\jv a/\ql ⟨w,Z,gh Z s,0,di s,gl,[]⟩ w' Z'
def Hi(κ:aZ Nat)(Z:a8)(s:cS):Prop:= ∀k,(look k s.b=none->Z.bx k=none)/\(look k s.e=none->Z.ow k=none)/\∀j b,Z.tr k j b->∃m,κ=some m/\k= .loc m
def qx.k{Z:a8}{s:cS}(h:qx Z s):Hi none Z s:=fun k=>⟨(h k).1,(h k).2.1,fun j b ae=>absurd ae ((h k).2.2 j b)⟩
def Kl(P:cE)(f:FuncId)(κ:Nat)(args:List ah)(s:cS)(Q:ah->cS->Prop):Prop:=
 ∀(w:World) (Z:a8) (bf:Array Value) (gl:n7 w Z),Good (gh Z s) w Z s.b s.e->qx Z s->cN w Z args bf.toList->
  w7 P f bf w fun e w'=> ∃v r a Z',e= .returned v/\Q r a/\aV w' Z' r v/\Good (fun bl=>gh Z s bl\/w.heap.size<=bl) w' Z' a.b a.e/\Hi (some κ) Z' a/\jv a/\ql ⟨w,Z,gh Z s,0,di s,gl,[]⟩ w' Z'
def bK(P:cE)(f:FuncId)(args:List ah)(r:ah):Prop:=bG P f args ⟨[],[]⟩ fun a b=>a=r/\b=⟨[],[]⟩
def u1{α:Type}{k:aB}{x:α}:∀{l:List (aB×α)},look k l=some x->(k,x)∈l
 |[],h=>by simp[look]at h
 |(i,y)::r,h=>by
  simp only[look]at h;split at h
  ·rename_i e;subst e;cases h;simp
  ·exact pB _ (u1 h)
def u7{s:cS}{k:aB}(h:(look k s.b).isSome\/(look k s.e).isSome):k∈di s:=by
 unfold di;rcases h with h|h<;>obtain⟨x,a⟩:=gk.1 h<;>have:=u1 a
 ·exact sQ _ (iA.2 ⟨_,this,rfl⟩)
 ·exact List.mem_append_right _ (iA.2 ⟨_,this,rfl⟩)
section
open Classical
noncomputable def a8.cut(Z:a8)(S:aB->Prop):a8:={A:=Z.A,bx:=fun k=>if S k then Z.bx k else none,ow:=fun k=>if S k then Z.ow k else none,tr:=fun k j b=>S k/\Z.tr k j b}
def a8.cut_bx{Z:a8}{S:aB->Prop}{k:aB}(h:S k):(Z.cut S).bx k=Z.bx k:=by simp[a8.cut,h]
def a8.cut_ow{Z:a8}{S:aB->Prop}{k:aB}(h:S k):(Z.cut S).ow k=Z.ow k:=by simp[a8.cut,h]
def a8.cut_no{Z:a8}{S:aB->Prop}{k:aB}(h:¬S k):(Z.cut S).bx k=none/\(Z.cut S).ow k=none/\∀j b,¬(Z.cut S).tr k j b:=by simp[a8.cut,h]
def a8.cut_some{Z:a8}{S:aB->Prop}{k:aB}{b:Nat}(h:(Z.cut S).bx k=some b):S k/\Z.bx k=some b:=by
 by_cases a:S k
 ·exact⟨a,by rw[a8.cut_bx a]at h;exact h⟩
 ·rw[(a8.cut_no a).1]at h;cases h
def a8.cut_someO{Z:a8}{S:aB->Prop}{k:aB}{b:Nat×Value}(h:(Z.cut S).ow k=some b):S k/\Z.ow k=some b:=by
 by_cases a:S k
 ·exact⟨a,by rw[a8.cut_ow a]at h;exact h⟩
 ·rw[(a8.cut_no a).2.1]at h;cases h
def n7.cut{w:World}{Z:a8}(h:n7 w Z)(S:aB->Prop):n7 w (Z.cut S):=h
def pE.cut(S:aB->Prop)(w:World)(Z:a8):pE S w Z w (Z.cut S):=⟨fun _ _ h=>⟨h,rfl⟩,fun k b a h=>by rw[a8.cut_bx a];exact h,fun g n u a1 h=>⟨n,u,by rw[a8.cut_ow a1];exact h,.inl ⟨rfl,rfl⟩⟩,fun _ _ _=>rfl,fun _ _ _ a h=>⟨a,h⟩⟩
end
def hs(S:aB->Prop)(cf b:List (aB×List ah)):Prop:= ∀k cs,look k cf=some cs->look k b=some cs/\S k/\ay S cs
def qc(S:aB->Prop)(a e:List (aB×er)):Prop:= ∀k o,look k a=some o->look k e=some o/\S k/\dD S o
def Good.cut{pr E:Nat->Prop}{w:World}{Z:a8}{b cf:List (aB×List ah)}{e p:List (aB×er)}(h:Good pr w Z b e){S:aB->Prop}(ae:hs S cf b)(he:qc S p e)
  (D:∀bl,pr bl->(∃k,(look k cf).isSome/\(Z.cut S).bx k=some bl)\/(∃g n v,(look g p).isSome/\(Z.cut S).ow g=some (n,v)/\v.ownBlock=some bl)->E bl):Good E w (Z.cut S) cf p:=by
 have m:∀k,(look k cf).isSome->(look k b).isSome/\S k:=fun k c=>by obtain⟨cs,t⟩:=gk.1 c;have:=ae k cs t;exact⟨by simp[this.1],this.2.1⟩
 have r:∀k,(look k p).isSome->(look k e).isSome/\S k:=fun k c=>by obtain⟨cs,t⟩:=gk.1 c;have:=he k cs t;exact⟨by simp[this.1],this.2.1⟩
 refine⟨h.alt,fun k cs c=>?_,fun k f bl J U i l=>?_,fun g o a1=>?_,fun g A n n' v v' bl J U i l u F=>?_,fun g k n v bl J U i l u=>?_,fun k=>?_,fun bl aM k j G=>?_⟩
 ·obtain⟨g1,g2,g3⟩:=ae k cs c;obtain⟨bl,us,el,f1,f2,f3,f4,f5⟩:=h.box k cs g1;have z:(Z.cut S).bx k=some bl:=by rw[a8.cut_bx g2];exact f1
  exact⟨bl,us,el,z,D bl f2 (.inl ⟨k,by simp[c],z⟩),f3,f4,aar (pE.cut S w Z) g3 f5⟩
 ·obtain⟨a,a2⟩:=m k J;obtain⟨d,B⟩:=m f U;exact h.inj k f bl a d (a8.cut_some i).2 (a8.cut_some l).2
 ·obtain⟨g1,g2,g3⟩:=he g o a1;obtain⟨v,us,f1,f2,f3,f4⟩:=h.own g o g1;have y:(Z.cut S).ow g=some (o.n,v):=by rw[a8.cut_ow g2];exact f1
  exact⟨v,us,y,f2,fun bl s=>⟨D bl (f3 bl s).1 (.inr ⟨g,o.n,v,by simp[a1],y,s⟩),(f3 bl s).2⟩,
   fun xs q=>⟨(f4 xs q).1,JA (pE.cut S w Z) _ _ _ (g3 xs q) (f4 xs q).2.1,(f4 xs q).2.2⟩⟩
 ·obtain⟨a,a2⟩:=r g J;obtain⟨d,B⟩:=r A U;exact h.oinj g A n n' v v' bl a d (a8.cut_someO i).2 (a8.cut_someO l).2 u F
 ·obtain⟨a,a2⟩:=r g J;obtain⟨d,B⟩:=m k U;exact h.obx g k n v bl a d (a8.cut_someO i).2 l (a8.cut_some u).2
 ·by_cases x:S k
  ·rw[a8.cut_bx x,a8.cut_ow x];exact h.one k
  ·exact .inl (a8.cut_no x).1
 ·refine h.otr bl ?_ k j G.2;rcases aM with⟨f,a,a2⟩|⟨g,n,v,a,a2,a3⟩
  ·exact .inl ⟨f,(m f a).1,(a8.cut_some a2).2⟩
  ·exact .inr ⟨g,n,v,(r g a).1,(a8.cut_someO a2).2,a3⟩
structure jE (ob:List aB) (st st':bn):Prop where
 t:∀x∈st'.t,get x.1 st.t=x.2/\au (fun k=> ¬fresh st'.n st'.o k) x.2
 b:hs (fun k=> ¬fresh st'.n st'.o k) st'.b st.b
 e:qc (fun k=> ¬fresh st'.n st'.o k) st'.e st.e
 o:∀m∈ob,m∈st'.o
def VC:∀(i:Nat) (l:List (Nat×ah)),get i l= .junk\/(i,get i l)∈l
 |_,[]=>.inl rfl
 |i,(j,p)::r=>by
  by_cases h:j=i
  ·subst h;right;simp[get]
  ·rcases VC i r with J|J
   ·left;simp[get,h,J]
   ·right;simp[get,h];right;exact J
def cZ.weaker{C:fb}{st st':bn}{a:Act}{w:World}{Z:a8}(h:cZ C st a w Z)(hw:jE C.ob st st'):cZ C st' a w (Z.cut fun k=> ¬fresh st'.n st'.o k):=by
 refine⟨h.good.cut hw.b hw.e (fun bl o _=>o),⟨h.fr.os,h.fr.tape,h.fr.output,h.fr.size,h.fr.block,h.fr.keep,h.fr.fresh,fun n b ae=>?_,h.fr.obn,fun m n u hm=>?_,h.fr.obr,fun k j l g b J U=>h.fr.trd k j l g b J.2 U.2,fun k j b ae=>h.fr.trb k j b ae.2,fun k j b ae=>?_,h.fr.sh,fun j n u b q s=>h.fr.nrow j n u b (a8.cut_someO q).2 s⟩,h.defers,h.size,fun i=>?_,fun k d=>a8.cut_no (fun p=>p d),fun x e=>⟨tV (pE.cut _ w Z) _ _ (tF (fun k d f=>f.2 (hw.o k d)) _ (h.ext x e).2) (h.ext x e).1,(h.ext x e).2⟩,fun m hm f=>f.2 (hw.o m hm)⟩
 ·rw[a8.cut_bx (fun c=>c.2 (hw.o _ (h.fr.obn n b ae)))];exact h.fr.obj n b ae
 ·rw[a8.cut_ow (fun c=>c.2 (hw.o _ (h.fr.obr m n u hm)))];exact h.fr.row m n u hm
 ·rw[a8.cut_bx ae.1,a8.cut_ow ae.1];exact h.fr.trn k j b ae.2
 ·rcases VC i st'.t with r|hm
  ·rw[r];simp[aV]
  ·obtain⟨J,U⟩:=hw.t _ hm;simp only at J;have:=h.slot i;rw[J]at this;exact tV (pE.cut _ w Z) _ _ U this
mutual
def de:ah->ah
 | .slice sz _ xs=>.slice sz .no (cR xs)
 | .agg cs=>.agg (cR cs)
 | .tuple bf=>.tuple (cR bf)
 | .eptr x=>.eptr (de x)
 | .iface t x=>.iface t (de x)
 | .func f cW=>.func f (cR cW)
 |p=>p
def cR:List ah->List ah
 |[]=>[]
 |x::xs=>de x::cR xs
end
def nX:∀xs,(cR xs).length=xs.length
 |[]=>rfl
 |x::xs=>by simp[cR,nX xs]
mutual
def Ht{t:Bool}{w:World}{A:Nat->Nat->Prop}:∀(p:ah) (F:Nat->Prop) (v:Value),ej t w A F p v->ej t w A F (de p) v
 | .int _ _,_,_,h=>by simpa only[de]using h
 | .bool _,_,_,h=>by simpa only[de]using h
 | .str _,_,_,h=>by simpa only[de]using h
 | .slice sz tag xs,F,v,h=>by
  simp only[ej,de]at h⊢;obtain⟨a,cap,J,U,g,k⟩:=h;refine⟨a,cap,by rw[nX];exact J,by rw[nX];exact U,by rw[nX];exact g,?_⟩;rcases k with rfl|⟨b,off,us,G,i,j,f,e,d,c⟩
  ·exact .inl rfl
  ·exact .inr ⟨b,off,us,G,i,j,f,e,d,Vl sz xs G us c⟩
 | .agg cs,F,v,h=>by simp only[ej,de]at h⊢;obtain⟨us,J,U⟩:=h;exact⟨us,J,Vm cs F _ U⟩
 | .junk,_,_,h=>by simp[ej]at h
 | .ptr _ _,_,_,h=>by simp[ej]at h
 | .eptr _,_,_,h=>by simp[ej]at h
 | .iface _ _,_,_,h=>by simp[ej]at h
 | .nilp,_,_,h=>by simp[ej]at h
 | .tuple _,_,_,h=>by simp[ej]at h
 | .func _ _,_,_,h=>by simp[ej]at h
 | .gmap _,_,_,h=>by simp[ej]at h
 | .row _ _ _,_,_,h=>by simp[ej]at h
 | .rptr _ _ _ _ _,_,_,h=>by simp[ej]at h
 | .hdm _ _,_,_,h=>by simp[ej]at h
 | .hdi _ _ _,_,_,h=>by simp[ej]at h
 | .cst _,_,_,h=>by simp[ej]at h
def Vm{t:Bool}{w:World}{A:Nat->Nat->Prop}:∀(cs:List ah) (F:Nat->Prop) (us:List Value),pR t w A F cs us->pR t w A F (cR cs) us
 |[],_,_,h=>by simpa only[cR]using h
 |c::cs,F,us,h=>by simp only[pR,cR]at h⊢;obtain⟨u,d,b,a,J,U,⟨g,f⟩,e⟩:=h;exact⟨u,d,b,a,J,U,⟨Ht c b u g,f⟩,Vm cs a d e⟩
def Vl{t:Bool}{w:World}{A:Nat->Nat->Prop}(sz:Nat):∀(cs:List ah) (F:Nat->Prop) (us:List Value),pQ t w A F sz cs us->pQ t w A F sz (cR cs) us
 |[],_,_,h=>by simpa only[cR]using h
 |c::cs,F,us,h=>by simp only[pQ,cR]at h⊢;obtain⟨u,d,b,a,J,U,⟨g,f⟩,e⟩:=h;exact⟨u,d,b,a,J,U,⟨Ht c b u g,f⟩,Vl sz cs a d e⟩
end
def L3{t:Bool}{w:World}{A:Nat->Nat->Prop}{F:Nat->Prop}{sz:Nat}{tag:AO}(a:AO){xs:List ah}(v:Value)(h:ej t w A F (.slice sz tag xs) v):ej t w A F (.slice sz a (cR xs)) v:=by have:=Ht _ F v h;simp only[de,ej]at this⊢;exact this
mutual
def Ao{w:World}{Z:a8}:∀(p:ah) (v:Value),aV w Z p v->aV w Z (de p) v
 | .junk,_,h=>by simpa only[de]using h
 | .int k n,_,h=>by simpa only[de]using h
 | .bool b,_,h=>by simpa only[de]using h
 | .str s,_,h=>by simpa only[de]using h
 | .slice sz tag xs,v,h=>by
  simp only[aV,de]at h⊢;obtain⟨⟨a,cap,J,U,c,d⟩,l,i⟩:=h;refine⟨⟨a,cap,by rw[nX];exact J,by rw[nX];exact U,by rw[nX];exact c,?_⟩,fun e=>(by cases e),fun g e=>(by cases e),fun _ _ e=>(by cases e),fun _ e=>(by cases e)⟩;rcases d with rfl|⟨b,off,us,d,i,j⟩
  ·exact .inl rfl
  ·exact .inr ⟨b,off,us,d,i,aav sz xs us j⟩
 | .agg cs,v,h=>by simp only[aV,de]at h⊢;obtain⟨us,J,U⟩:=h;exact⟨us,J,aaz cs _ U⟩
 | .ptr key off,v,h=>by simpa only[de]using h
 | .iface t x,v,h=>by simp only[aV,de]at h⊢;obtain⟨u,J,U⟩:=h;exact⟨u,J,Ao x u U⟩
 | .eptr x,v,h=>by simp only[aV,de]at h⊢;obtain⟨b,off,u,J,U,c⟩:=h;exact⟨b,off,u,J,Ao x u U,c⟩
 | .nilp,_,h=>by simpa only[de]using h
 | .tuple bf,v,h=>by simp only[aV,de]at h⊢;obtain⟨us,J,U⟩:=h;exact⟨us,J,JH bf _ U⟩
 | .func f cW,v,h=>by simp only[aV,de]at h⊢;obtain⟨us,J,U⟩:=h;exact⟨us,J,JH cW _ U⟩
 | .gmap key,v,h=>by simpa only[de]using h
 | .row _ _ _,v,h=>by simpa only[de]using h
 | .rptr _ _ _ _ _,v,h=>by simpa only[de]using h
 | .cst _,v,h=>by simpa only[de]using h
def aaz{w:World}{Z:a8}:∀(cs:List ah) (us:List Value),c1 w Z cs us->c1 w Z (cR cs) us
 |[],_,h=>by simpa only[cR]using h
 |c::cs,us,h=>by simp only[c1,cR]at h⊢;obtain⟨u,a,J,U,b⟩:=h;exact⟨u,a,J,⟨Ao c u U.1,U.2⟩,aaz cs a b⟩
def JH{w:World}{Z:a8}:∀(cs:List ah) (us:List Value),cN w Z cs us->cN w Z (cR cs) us
 |[],_,h=>by simpa only[cR]using h
 |c::cs,us,h=>by simp only[cN,cR]at h⊢;obtain⟨u,a,J,U,b⟩:=h;exact⟨u,a,J,Ao c u U,JH cs a b⟩
def aav{w:World}{Z:a8}(sz:Nat):∀(xs:List ah) (us:List Value),dk w Z sz xs us->dk w Z sz (cR xs) us
 |[],_,h=>by simpa only[cR]using h
 |x::xs,us,h=>by simp only[dk,cR]at h⊢;obtain⟨u,a,J,⟨U,c,d⟩,b⟩:=h;exact⟨u,a,J,⟨Ao x u U,c,d⟩,aav sz xs a b⟩
end
def inObs(s:cS)(k:aB):Prop:=(look k s.b).isSome=true\/(look k s.e).isSome=true
def bW{α β:Type}(s:List (aB×β)):List (aB×α)->List (aB×α)
 |[]=>[]
 |(k,x)::r=>match look k s with
  |some _=>bW s r
  |none=>(k,x)::bW s r
def u3{α β:Type}(s:List (aB×β))(k:aB):∀l:List (aB×α),look k (bW s l)=if(look k s).isSome then none else look k l
 |[]=>by simp[bW,look]
 |(i,x)::r=>by
  simp only[bW];by_cases e:i=k
  ·subst e;cases h:look i s with
   |some y=>simp[u3 s i r,h]
   |none=>simp[look]
  ·cases h:look i s with
   |some y=>simp[u3 s k r,look,e]
   |none=>simp[look,e,u3 s k r]
def zV{α:Type}(k:aB):∀l a:List (aB×α),look k (l++a)=match look k l with|some x=>some x|none=>look k a
 |[],a=>by simp[look]
 |(i,x)::r,a=>by
  by_cases e:i=k
  ·simp[look,e]
  ·simp[look,e,zV k r a]
def after(st:bn)(s a:cS)(d:aZ Nat)(r:ah):bn:={t:=eY d r st.t,b:=bW s.b st.b++a.b,e:=bW s.e st.e++a.e,n:=st.n,o:=st.o++di a}
section
open Classical
noncomputable def a8.join(Z Z':a8)(s a:cS):a8:={A:=Z'.A,bx:=fun k=>if(look k s.b).isSome\/(look k a.b).isSome then Z'.bx k else Z.bx k,ow:=fun k=>if(look k s.e).isSome\/(look k a.e).isSome then Z'.ow k else Z.ow k,tr:=fun k j b=>Z.tr k j b\/Z'.tr k j b}
end
def cZ.callK{C:fb}{st:bn}{a:Act}{w w':World}{Z Z':a8}(h:cZ C st a w Z){s f:cS}(ae:hs (inObs s) s.b st.b)(he:qc (inObs s) s.e st.e)(Y:jv s)
  (a1:Good (fun bl=>gh (Z.cut (inObs s)) s bl\/w.heap.size<=bl) w' Z' f.b f.e) {κ:aZ Nat} (V:Hi κ Z' f) (H9:∀m,κ=some m->Z.bx (.loc m)=none/\Z.ow (.loc m)=none/\∀j b,¬Z.tr (.loc m) j b) {n':Nat} {o':List aB} (dt:∀k,fresh n' o' k->fresh st.n (st.o++di f) k/\∀m,κ=some m->k≠ .loc m) (M:jv f) (E:ql ⟨w,Z.cut (inObs s),gh (Z.cut (inObs s)) s,0,di s,h.fr.gl.cut _,[]⟩ w' Z')
  (MP:∀m,(look (.obj m) f.b).isSome->(look (.obj m) s.b).isSome\/ .obj m∉st.o) (cL:∀m,(look (.obj m) f.e).isSome->(look (.obj m) s.e).isSome\/ .obj m∉st.o) (d:aZ Nat) (aQ:h9 C.N d=true) {r:ah} {v:Value} (aD:aV w' Z' r v):
  cZ C {after st s f d r with n:=n',o:=o'} (a.put d v) w' (Z.join Z' s f):=by
 have Q:∀k,(look k s.b).isSome->(look k st.b).isSome:=fun k c=>by obtain⟨cs,y⟩:=gk.1 c;simp[(ae k cs y).1]
 have R:∀k,(look k s.e).isSome->(look k st.e).isSome:=fun k c=>by obtain⟨cs,y⟩:=gk.1 c;simp[(he k cs y).1]
 have akh:∀k,(look k f.b).isSome->¬(look k s.b).isSome->Z.bx k=none:=fun k c av=>by
  cases k with
  |loc m=>rw[M.1 m]at c;cases c
  |obj m=>exact(h.new (.obj m) ⟨trivial,(MP m c).resolve_left av⟩).1
 have aki:∀k,(look k f.e).isSome->¬(look k s.e).isSome->Z.ow k=none:=fun k c av=>by
  cases k with
  |loc m=>rw[M.2 m]at c;cases c
  |obj m=>exact(h.new (.obj m) ⟨trivial,(cL m c).resolve_left av⟩).2.1
 have alr:∀k,(look k s.b).isSome->(Z.join Z' s f).bx k=Z'.bx k:=fun k c=>by simp[a8.join,c]
 have Xl:∀k,(look k f.b).isSome->(Z.join Z' s f).bx k=Z'.bx k:=fun k c=>by simp[a8.join,c]
 have Xm:∀k,Z.bx k≠none->¬(look k s.b).isSome->(Z.join Z' s f).bx k=Z.bx k:=fun k J U=>by have z:¬(look k f.b).isSome:=fun z=>J (akh k z U);simp[a8.join,U,z]
 have als:∀k,(look k s.e).isSome->(Z.join Z' s f).ow k=Z'.ow k:=fun k c=>by simp[a8.join,c]
 have Nt:∀k,(look k f.e).isSome->(Z.join Z' s f).ow k=Z'.ow k:=fun k c=>by simp[a8.join,c]
 have Nu:∀k,Z.ow k≠none->¬(look k s.e).isSome->(Z.join Z' s f).ow k=Z.ow k:=fun k J U=>by have z:¬(look k f.e).isSome:=fun z=>J (aki k z U);simp[a8.join,U,z]
 have acg:∀k b,Z'.bx k=some b->(look k f.b).isSome:=fun k b c=>by
  cases P:look k f.b with
  |some _=>rfl
  |none=>rw[(V k).1 P]at c;cases c
 have ach:∀k b,Z'.ow k=some b->(look k f.e).isSome:=fun k b c=>by
  cases P:look k f.e with
  |some _=>rfl
  |none=>rw[(V k).2.1 P]at c;cases c
 have al:l1 w Z w' (Z.join Z' s f):=by
  refine⟨fun b o bj=>E.keep b o bj,fun k b _ c=>?_,fun g n u _ a1=>?_,fun b o bj=>E.sh b o bj,fun _ _ _ _ h=>.inl h⟩
  ·by_cases B:(look k s.b).isSome
   ·rw[alr k B];cases k with
    |loc m=>rw[Y.1 m]at B;cases B
    |obj m=>exact E.obj m b (by rw[a8.cut_bx (.inl B)];exact c)
   ·rw[Xm k (by rw[c];simp) B];exact c
  ·by_cases B:(look g s.e).isSome
   ·rw[als g B];cases g with
    |loc m=>rw[Y.2 m]at B;cases B
    |obj m=>exact E.row m n u (by rw[a8.cut_ow (.inr B)];exact a1)
   ·rw[Nu g (by rw[a1];simp) B];exact⟨n,u,a1,.inl ⟨rfl,rfl⟩⟩
 have hO:l1 w' Z' w' (Z.join Z' s f):=⟨fun b o bj=>⟨bj,rfl⟩,fun k b _ c=>by rw[Xl k (acg k b c)];exact c,fun g n u _ c=>⟨n,u,by rw[Nt g (ach g _ c)];exact c,.inl ⟨rfl,rfl⟩⟩,fun _ _ _=>rfl,fun _ _ _ _ h=>.inr h⟩
 have rf:∀bl,gh (Z.cut (inObs s)) s bl->C.pr bl/\bl<w.heap.size:=by
  intro bl F;rcases F with⟨k,J,U⟩|⟨g,n,u,J,U,z⟩
  ·have A:=(a8.cut_some U).2;obtain⟨cs,y⟩:=gk.1 (Q k J);obtain⟨K,us,el,g1,g2,_⟩:=h.good.box k cs y;rw[A]at g1;cases g1;exact⟨g2,h.good.boxLt y A⟩
  ·have A:=(a8.cut_someO U).2;obtain⟨o,HV⟩:=gk.1 (R g J);obtain⟨v',us,g1,g2,g3,_⟩:=h.good.own g o HV;rw[A]at g1;cases g1;exact⟨(g3 bl z).1,h.good.ownLt HV A z⟩
 have WL:∀bl,gh (Z.cut (inObs s)) s bl\/w.heap.size<=bl->C.pr bl:=fun bl F=>by
  rcases F with F|F
  ·exact(rf bl F).1
  ·exact .inr (j1 h.fr.size F)
 have akE:∀k cs bl,look k st.b=some cs->¬(look k s.b).isSome->Z.bx k=some bl->¬gh (Z.cut (inObs s)) s bl:=by
  intro k cs bl J U z A;rcases A with⟨D,l,a2⟩|⟨g,n,u,l,a2,a3⟩
  ·have:=h.good.inj k D bl (by simp[J]) (Q D l) z (a8.cut_some a2).2;subst this;exact U l
  ·exact h.good.obx g k n u bl (R g l) (by simp[J]) (a8.cut_someO a2).2 a3 z
 have akF:∀g o n u bl,look g st.e=some o->¬(look g s.e).isSome->Z.ow g=some (n,u)->u.ownBlock=some bl->¬gh (Z.cut (inObs s)) s bl:=by
  intro g o n u bl J U z A G;rcases G with⟨D,l,a2⟩|⟨S,n',X,l,a2,a3⟩
  ·exact h.good.obx g D n u bl (by simp[J]) (Q D l) z A (a8.cut_some a2).2
  ·have:=h.good.oinj g S n n' u X bl (by simp[J]) (R S l) z (a8.cut_someO a2).2 A a3;subst this;exact U l
 have TY:∀k cs,look k (bW s.b st.b++f.b)=some cs->(¬(look k s.b).isSome/\look k st.b=some cs)\/look k f.b=some cs:=by
  intro k cs c;rw[zV,u3]at c;by_cases B:(look k s.b).isSome
  ·simp only[B,if_true]at c;exact .inr c
  ·simp only[B]at c;cases P:look k st.b with
   |some x=>simp[P]at c;subst c;exact .inl ⟨B,rfl⟩
   |none=>simp[P]at c;exact .inr c
 have TZ:∀k cs,look k (bW s.e st.e++f.e)=some cs->(¬(look k s.e).isSome/\look k st.e=some cs)\/look k f.e=some cs:=by
  intro k cs c;rw[zV,u3]at c;by_cases B:(look k s.e).isSome
  ·simp only[B,if_true]at c;exact .inr c
  ·simp only[B]at c;cases P:look k st.e with
   |some x=>simp[P]at c;subst c;exact .inl ⟨B,rfl⟩
   |none=>simp[P]at c;exact .inr c
 have wZ:∀bl,gh (Z.cut (inObs s)) s bl\/w.heap.size<=bl->∀K,K<w.heap.size->¬gh (Z.cut (inObs s)) s K->bl≠K:=by
  intro bl J K U z e;subst e;rcases J with J|J
  ·exact z J
  ·omega
 have Nz:∀bl,bl<w.heap.size->¬gh (Z.cut (inObs s)) s bl->w'.heap[bl]? =w.heap[bl]?:=fun bl J U=>E.block bl J U;have isB:∀k bl,(look k (bW s.b st.b++f.b)).isSome->(Z.join Z' s f).bx k=some bl->(¬(look k s.b).isSome/\(look k st.b).isSome/\Z.bx k=some bl)\/((look k f.b).isSome/\Z'.bx k=some bl):=by
  intro k bl c L;obtain⟨cs,y⟩:=gk.1 c;rcases TY k cs y with⟨J,U⟩|J
  ·obtain⟨K,us,el,g1,_⟩:=h.good.box k cs U;rw[Xm k (by rw[g1];simp) J]at L;exact .inl ⟨J,by simp[U],L⟩
  ·rw[Xl k (by simp[J])]at L;exact .inr ⟨by simp[J],L⟩
 have Ig:∀k x,(look k (bW s.e st.e++f.e)).isSome->(Z.join Z' s f).ow k=some x->(¬(look k s.e).isSome/\(look k st.e).isSome/\Z.ow k=some x)\/((look k f.e).isSome/\Z'.ow k=some x):=by
  intro k x c L;obtain⟨cs,y⟩:=gk.1 c;rcases TZ k cs y with⟨J,U⟩|J
  ·obtain⟨v',us,g1,_⟩:=h.good.own k cs U;rw[Nu k (by rw[g1];simp) J]at L;exact .inl ⟨J,by simp[U],L⟩
  ·rw[Nt k (by simp[J])]at L;exact .inr ⟨by simp[J],L⟩
 have Dp:∀k bl,¬(look k s.b).isSome->(look k st.b).isSome->Z.bx k=some bl->bl<w.heap.size/\¬gh (Z.cut (inObs s)) s bl:=by intro k bl J U z;obtain⟨cs,y⟩:=gk.1 U;exact⟨h.good.boxLt y z,akE k cs bl y J z⟩
 have W:∀k n u bl,¬(look k s.e).isSome->(look k st.e).isSome->Z.ow k=some (n,u)->u.ownBlock=some bl->bl<w.heap.size/\¬gh (Z.cut (inObs s)) s bl:=by intro k n u bl J U z A;obtain⟨cs,y⟩:=gk.1 U;exact⟨h.good.ownLt y z A,akF k cs n u bl y J z A⟩
 have GJ:∀k bl,(look k f.b).isSome->Z'.bx k=some bl->gh (Z.cut (inObs s)) s bl\/w.heap.size<=bl:=by intro k bl J U;obtain⟨cs,y⟩:=gk.1 J;obtain⟨K,us,el,g1,g2,_⟩:=a1.box k cs y;rw[U]at g1;cases g1;exact g2
 have JJ:∀k n u bl,(look k f.e).isSome->Z'.ow k=some (n,u)->u.ownBlock=some bl->gh (Z.cut (inObs s)) s bl\/w.heap.size<=bl:=by intro k n u bl J U z;obtain⟨cs,y⟩:=gk.1 J;obtain⟨v',us,g1,g2,g3,_⟩:=a1.own k cs y;rw[U]at g1;cases g1;exact(g3 bl z).1
 have bj:∀bl o,Z'.A bl o->bl<w.heap.size->¬gh (Z.cut (inObs s)) s bl->Z.A bl o:=by
  intro bl o J U z;rcases E.fresh bl o J with A|A|A
  ·exact A
  ·exact absurd A z
  ·simp only at A;omega
 have oA:cZ C {t:=st.t,b:=bW s.b st.b++f.b,e:=bW s.e st.e++f.e,n:=n',o:=o'} a w' (Z.join Z' s f):=by
  refine h.over al rfl ⟨a1.alt,fun k cs c=>?_,fun k D bl J U z A=>?_,fun g o fA=>?_,fun g S n n' u X bl J U z A G dq=>?_,fun g k n u bl J U z A G=>?_,fun k=>?_,fun bl aM k j gX=>?_⟩
   ⟨E.os.trans h.fr.os,E.tape.trans h.fr.tape,E.output.trans h.fr.output,j1 h.fr.size E.size,fun k c hm=>?_,fun b o O=>?_,fun b o O=>?_,fun n b av=>al.bx _ _ trivial (h.fr.obj n b av),h.fr.obn,
    fun m n u hm=>FQ (h.fr.row m n u hm) (fun n u=>al.ow _ n u trivial),h.fr.obr,fun k j D dj b J U=>?_,fun k j b ae=>?_,fun k j b ae=>?_,fun b o bj=>(al.sh b o (h.fr.keep b o bj).1).trans (h.fr.sh b o bj),fun j n u b ai aC=>h.fr.nrow j n u b (by simpa[a8.join,Y.2 j,M.2 j]using ai) aC⟩ (fun k c=>?_) (fun m hm=>y5 (e2 _) (fun _ h=>sQ _ h) (dt m hm).1)
  ·rcases TY k cs c with⟨J,U⟩|J
   ·obtain⟨bl,us,el,g1,g2,g3,g4,g5⟩:=h.good.box k cs U;obtain⟨p,q⟩:=Dp k bl J (by simp[U]) g1;exact⟨bl,us,el,al.bx _ _ trivial g1,g2,fun o O=>g3 o (bj bl o O p q),by rw[Nz bl p q];exact g4,qT al g5⟩
   ·obtain⟨bl,us,el,g1,g2,g3,g4,g5⟩:=a1.box k cs J;exact⟨bl,us,el,hO.bx _ _ trivial g1,WL bl g2,g3,g4,qT hO g5⟩
  ·rcases isB k bl J z with⟨l,a2,a3⟩|⟨l,a2⟩<;>rcases isB D bl U A with⟨p,q,H⟩|⟨p,q⟩
   ·exact h.good.inj k D bl a2 q a3 H
   ·obtain⟨N,c2⟩:=Dp k bl l a2 a3;exact absurd rfl (wZ bl (GJ D bl p q) bl N c2)
   ·obtain⟨N,c2⟩:=Dp D bl p q H;exact absurd rfl (wZ bl (GJ k bl l a2) bl N c2)
   ·exact a1.inj k D bl l p a2 q
  ·rcases TZ g o fA with⟨J,U⟩|J
   ·obtain⟨u,us,g1,g2,g3,g4⟩:=h.good.own g o U;refine⟨u,us,by rw[Nu g (by rw[g1];simp) J];exact g1,⟨g2.1,?_⟩,fun bl F=>?_,sy al (fun bl F j O=>?_) g4⟩
    ·rcases g2.2 with aC|⟨bb,cap,cur,f1,f2,f3,f4⟩
     ·exact .inl aC
     ·obtain⟨p,q⟩:=W g _ u bb J (by simp[U]) g1 (by rw[f1];rfl);exact .inr ⟨bb,cap,cur,f1,f2,by rw[Nz bb p q];exact f3,f4⟩
    ·obtain⟨p,q⟩:=W g _ u bl J (by simp[U]) g1 F;exact⟨(g3 bl F).1,fun j O=>(g3 bl F).2 j (bj bl j O p q)⟩
    ·obtain⟨p,q⟩:=W g _ u bl J (by simp[U]) g1 F;exact bj bl j O p q
   ·obtain⟨u,us,g1,g2,g3,g4⟩:=a1.own g o J;exact⟨u,us,by rw[Nt g (by simp[J])];exact g1,g2,fun bl F=>⟨WL bl (g3 bl F).1,(g3 bl F).2⟩,sy hO (fun _ _ _ h=>h) g4⟩
  ·rcases Ig g _ J z with⟨l,a2,a3⟩|⟨l,a2⟩<;>rcases Ig S _ U A with⟨p,q,H⟩|⟨p,q⟩
   ·exact h.good.oinj g S n n' u X bl a2 q a3 H G dq
   ·obtain⟨N,c2⟩:=W g n u bl l a2 a3 G;exact absurd rfl (wZ bl (JJ S n' X bl p q dq) bl N c2)
   ·obtain⟨N,c2⟩:=W S n' X bl p q H dq;exact absurd rfl (wZ bl (JJ g n u bl l a2 G) bl N c2)
   ·exact a1.oinj g S n n' u X bl l p a2 q G dq
  ·rcases Ig g _ J z with⟨l,a2,a3⟩|⟨l,a2⟩<;>rcases isB k bl U G with⟨p,q,H⟩|⟨p,q⟩
   ·exact h.good.obx g k n u bl a2 q a3 A H
   ·obtain⟨N,c2⟩:=W g n u bl l a2 a3 A;exact absurd rfl (wZ bl (GJ k bl p q) bl N c2)
   ·obtain⟨N,c2⟩:=Dp k bl p q H;exact absurd rfl (wZ bl (JJ g n u bl l a2 A) bl N c2)
   ·exact a1.obx g k n u bl l p a2 A q
  ·
   cases L:(Z.join Z' s f).bx k with
   |none=>exact .inl rfl
   |some bl=>
    right;cases o9:(Z.join Z' s f).ow k with
    |none=>rfl
    |some x=>
     exfalso;have ai:(Z.bx k=some bl/\¬(look k s.b).isSome/\¬(look k f.b).isSome)\/Z'.bx k=some bl:=by
      by_cases B:(look k s.b).isSome\/(look k f.b).isSome
      ·right;simpa[a8.join,B]using L
      ·left;simp only[not_or]at B;exact⟨by simpa[a8.join,B.1,B.2]using L,B.1,B.2⟩
     have aC:(Z.ow k=some x/\¬(look k s.e).isSome/\¬(look k f.e).isSome)\/Z'.ow k=some x:=by
      by_cases B:(look k s.e).isSome\/(look k f.e).isSome
      ·right;simpa[a8.join,B]using o9
      ·left;simp only[not_or]at B;exact⟨by simpa[a8.join,B.1,B.2]using o9,B.1,B.2⟩
     rcases ai with⟨l,a2,a3⟩|l<;>rcases aC with⟨p,q,H⟩|p
     ·rcases h.good.one k with i|i
      ·rw[i]at l;cases l
      ·rw[i]at p;cases p
     ·have wa:=ach k x p;have eu:(look k s.e).isSome:=by
       cases k with
       |loc m=>rw[M.2 m]at wa;cases wa
       |obj m=>
        rcases cL m wa with i|i
        ·exact i
        ·rw[(h.new (.obj m) ⟨trivial,i⟩).1]at l;cases l
      obtain⟨o,HV⟩:=gk.1 (R k eu);obtain⟨v',us,g1,_⟩:=h.good.own k o HV;rcases h.good.one k with i|i
      ·rw[i]at l;cases l
      ·rw[i]at g1;cases g1
     ·have zo:=acg k bl l;have eu:(look k s.b).isSome:=by
       cases k with
       |loc m=>rw[M.1 m]at zo;cases zo
       |obj m=>
        rcases MP m zo with i|i
        ·exact i
        ·rw[(h.new (.obj m) ⟨trivial,i⟩).2.1]at p;cases p
      obtain⟨cs,y⟩:=gk.1 (Q k eu);obtain⟨K,us,el,g1,_⟩:=h.good.box k cs y;rcases h.good.one k with i|i
      ·rw[i]at g1;cases g1
      ·rw[i]at p;cases p
     ·rcases a1.one k with i|i
      ·rw[i]at l;cases l
      ·rw[i]at p;cases p
  ·have Ww:∀k j,Z'.tr k j bl->w.heap.size<=bl:=fun k j i=>by
    rcases(E.trb k j bl i).1 with a2|a2
    ·obtain⟨m,_,hm⟩:=(V k).2.2 j bl i;rw[hm]at a2;cases a2
    ·exact a2
   have hold:gh (Z.cut (inObs s)) s bl->¬Z.tr k j bl:=by
    rintro(⟨D,l,a2⟩|⟨g,n,u,l,a2,a3⟩) i
    ·exact h.good.otr bl (.inl ⟨D,Q D l,(a8.cut_some a2).2⟩) k j i
    ·exact h.good.otr bl (.inr ⟨g,n,u,R g l,(a8.cut_someO a2).2,a3⟩) k j i
   have kA:gh (Z.cut (inObs s)) s bl\/w.heap.size<=bl->¬Z.tr k j bl:=by
    rintro(J|J) i
    ·exact hold J i
    ·have:=(h.fr.trb k j bl i).2;omega
   rcases aM with⟨D,l,a2⟩|⟨g,n,u,l,a2,a3⟩
   ·rcases isB D bl l a2 with⟨p,q,H⟩|⟨p,q⟩
    ·rcases gX with gX|gX
     ·exact h.good.otr bl (.inl ⟨D,q,H⟩) k j gX
     ·have:=(Dp D bl p q H).1;have:=Ww k j gX;omega
    ·rcases gX with gX|gX
     ·exact kA (GJ D bl p q) gX
     ·exact a1.otr bl (.inl ⟨D,p,q⟩) k j gX
   ·rcases Ig g _ l a2 with⟨p,q,H⟩|⟨p,q⟩
    ·rcases gX with gX|gX
     ·exact h.good.otr bl (.inr ⟨g,n,u,q,H,a3⟩) k j gX
     ·have:=(W g n u bl p q H a3).1;have:=Ww k j gX;omega
    ·rcases gX with gX|gX
     ·exact kA (JJ g n u bl p q a3) gX
     ·exact a1.otr bl (.inr ⟨g,n,u,p,q,a3⟩) k j gX
  ·have bN:k<w.heap.size:=Nat.lt_of_lt_of_le c h.fr.size;rw[Nz k bN fun F=>by
    rcases(rf k F).1 with J|J
    ·exact hm J
    ·omega]
   exact h.fr.block k c hm
  ·obtain⟨ba,bJ⟩:=h.fr.keep b o O;obtain⟨cz,fv⟩:=E.keep b o ba;exact⟨cz,fv.trans bJ⟩
  ·rcases E.fresh b o O with A|A|A
   ·exact h.fr.fresh b o A
   ·exact .inr (rf b A).1
   ·exact .inr (.inr (j1 h.fr.size A))
  ·rcases J with J|J<;>rcases U with U|U
   ·exact h.fr.trd k j D dj b J U
   ·have l:=(h.fr.trb k j b J).2;have a2:=(E.trb D dj b U).1;rcases a2 with a2|a2
    ·obtain⟨m,_,hm⟩:=(V D).2.2 dj b U;rw[hm]at a2;cases a2
    ·simp only at a2;omega
   ·have l:=(h.fr.trb D dj b U).2;have a2:=(E.trb k j b J).1;rcases a2 with a2|a2
    ·obtain⟨m,_,hm⟩:=(V k).2.2 j b J;rw[hm]at a2;cases a2
    ·simp only at a2;omega
   ·exact E.trd k j D dj b J U
  ·rcases ae with ae|ae
   ·exact⟨(h.fr.trb k j b ae).1,Nat.lt_of_lt_of_le (h.fr.trb k j b ae).2 E.size⟩
   ·refine⟨.inr ?_,(E.trb k j b ae).2⟩;rcases(E.trb k j b ae).1 with a2|a2
    ·obtain⟨m,_,hm⟩:=(V k).2.2 j b ae;rw[hm]at a2;cases a2
    ·exact j1 h.fr.size a2
  ·have key:Z.bx k=none/\Z.ow k=none/\¬(look k f.b).isSome/\¬(look k f.e).isSome:=by
    rcases ae with ae|ae
    ·obtain⟨t1,t2⟩:=h.fr.trn k j b ae;refine⟨t1,t2,fun i=>?_,fun i=>?_⟩
     ·cases k with
      |loc m=>rw[M.1 m]at i;cases i
      |obj m=>
       rcases MP m i with G|G
       ·obtain⟨cs,y⟩:=gk.1 (Q _ G);obtain⟨K,us,el,g1,_⟩:=h.good.box _ cs y;rw[t1]at g1;cases g1
       ·exact(h.new (.obj m) ⟨trivial,G⟩).2.2 j b ae
     ·cases k with
      |loc m=>rw[M.2 m]at i;cases i
      |obj m=>
       rcases cL m i with G|G
       ·obtain⟨cs,y⟩:=gk.1 (R _ G);obtain⟨K,us,g1,_⟩:=h.good.own _ cs y;rw[t2]at g1;cases g1
       ·exact(h.new (.obj m) ⟨trivial,G⟩).2.2 j b ae
    ·obtain⟨m,hm,rfl⟩:=(V k).2.2 j b ae;obtain⟨t1,t2,_⟩:=H9 m hm;exact⟨t1,t2,by simp[M.1 m],by simp[M.2 m]⟩
   obtain⟨t1,t2,t3,t4⟩:=key;have t5:¬(look k s.b).isSome:=fun i=>by obtain⟨cs,y⟩:=gk.1 (Q _ i);obtain⟨K,us,el,g1,_⟩:=h.good.box _ cs y;rw[t1]at g1;cases g1
   have t6:¬(look k s.e).isSome:=fun i=>by obtain⟨cs,y⟩:=gk.1 (R _ i);obtain⟨K,us,g1,_⟩:=h.good.own _ cs y;rw[t2]at g1;cases g1
   exact⟨by simp[a8.join,t3,t5,t1],by simp[a8.join,t4,t6,t2]⟩
  ·
   simp only at c;obtain⟨c,aj1⟩:=dt k c;have WC:(∀j b,¬Z.tr k j b)->∀j b,¬(Z.join Z' s f).tr k j b:=fun J j b ae=>by
    rcases ae with ae|ae
    ·exact J j b ae
    ·obtain⟨m,hm,e⟩:=(V k).2.2 j b ae;exact aj1 m hm e
   cases k with
   |loc m=>obtain⟨hh,fX,iS⟩:=h.new (.loc m) (y5 (e2 _) (fun _ h=>sQ _ h) c);exact⟨by simp[a8.join,Y.1 m,M.1 m,hh],by simp[a8.join,Y.2 m,M.2 m,fX],WC iS⟩
   |obj m=>
    simp only[fresh,j0,not_or,true_and]at c;obtain⟨hh,fX,iS⟩:=h.new (.obj m) ⟨trivial,c.1⟩;have be:¬(look (.obj m) f.b).isSome:=fun i=>c.2 (u7 (.inl i));have bC:¬(look (.obj m) f.e).isSome:=fun i=>c.2 (u7 (.inr i));have bY:¬(look (.obj m) s.b).isSome:=fun i=>by obtain⟨cs,y⟩:=gk.1 (Q _ i);obtain⟨K,us,el,g1,_⟩:=h.good.box _ cs y;rw[hh]at g1;cases g1
    have c8:¬(look (.obj m) s.e).isSome:=fun i=>by obtain⟨cs,y⟩:=gk.1 (R _ i);obtain⟨v',us,g1,_⟩:=h.good.own _ cs y;rw[fX]at g1;cases g1
    exact⟨by simp[a8.join,be,bY,hh],by simp[a8.join,bC,c8,fX],WC iS⟩
 exact oA.put aQ (wQ hO aD)
inductive et where
 |s (i:ep)
 |call (d:aZ Nat) (f:dv) (xs:List dv)
 |next (d:Nat) (x:dv)
 |opn (d:aZ Nat) (f:dv) (xs:List dv)
 |callb (d:aZ Nat) (f:dv)
structure ds where
 g:aZ (Nat×Bool)
 i:et
def ep.dst:ep->aZ Nat
 | .v d _| .box d _ _| .alloc d _ _| .bsl d _ _ _| .app d _ _ _ _| .bslm d _ _ _ _| .appm d _ _ _ _ _| .mkmap d _| .range d _ _| .mks d _ _ _ _ _| .apps d _ _ _=>some d
 | .store _ _ _| .mput _ _ _ _| .storeE _ _ _=>none
def et.dst:et->aZ Nat
 | .s i=>i.dst
 | .call d _ _=>d
 | .next d _=>some d
 | .opn d _ _=>d
 | .callb d _=>d
def cx(P:cE)(n:Nat)(args:List ah)(st:bn)(d:aZ Nat)(K:bn->Prop):Prop:=
 (∃s Q,hs (inObs s) s.b st.b/\qc (inObs s) s.e st.e/\jv s/\ay (inObs s) args/\bG P n args s Q/\
  ∀r a,Q r a->((∀m,(look (.obj m) a.b).isSome->(look (.obj m) s.b).isSome\/ .obj m∉st.o)/\(∀m,(look (.obj m) a.e).isSome->(look (.obj m) s.e).isSome\/ .obj m∉st.o))/\K (after st s a d r))\/
 (∃s Q,hs (inObs s) s.b st.b/\qc (inObs s) s.e st.e/\jv s/\ay (inObs s) args/\ .loc st.n∉st.o/\Kl P n st.n args s Q/\
  ∀r a,Q r a->((∀m,(look (.obj m) a.b).isSome->(look (.obj m) s.b).isSome\/ .obj m∉st.o)/\(∀m,(look (.obj m) a.e).isSome->(look (.obj m) s.e).isSome\/ .obj m∉st.o))/\K {after st s a d r with n:=st.n+1})
def Oe(st:bn)(d:Nat)(fV mk:aB)(since:Nat)(seen:List Nat)(last clock:Nat)(borns:List Nat)(kvs:List ah)(K:bn->Prop):Prop:=
 (since=clock/\last=clock)/\((∀b∈borns,b∈seen)->K {st with t:=put d (.tuple [.bool false]) st.t})/\
 (∀b k v,nT b borns kvs=some (.tuple [k,v])->b∉seen->K {st with t:=put d (.tuple [.bool true,k,v]) st.t,b:=cG fV [.hdi since (seen++[b]) last,.gmap mk] st.b})
def uz(st:bn)(d:Nat)(v:ah)(K:bn->Prop):Prop:=
 match v with
 | .ptr fV 0=>match look fV st.b with
  |some [.hdi since seen last,.gmap mk]=>match look mk st.b with
   |some (.hdm clock borns::kvs)=>Oe st d fV mk since seen last clock borns kvs K
   |_=>eF
  |_=>eF
 |_=>eF
def C8(P:cE)(ob:List aB)(n:Nat)(args:List ah)(st:bn)(d:aZ Nat)(K:bn->Prop):Prop:=
 ∀(C:fb) (a:Act) (w:World) (Z:a8) (bf:Array Value),C.ob=ob->cZ C st a w Z->cN w Z args bf.toList->h9 C.N d=true->
  w7 P n bf w fun e w'=> ∃v st' Z',e= .returned v/\K st'/\cZ C st' (a.put d v) w' Z'
def q9(P:cE)(ob:List aB)(st:bn)(K:bn->Prop):et->Prop
 | .next d x=>uz st d (cg st.t x) K
 | .s i=>match mP st i with
  |some (c,st')=>c/\K st'
  |none=>eF
 | .call d f xs=>match cg st.t f with
  | .func n cW=>cx P n (cR (xs.map (cg st.t)++cW)) st d K
  |_=>eF
 | .opn d f xs=>match cg st.t f with
  | .func n cW=>C8 P ob n (xs.map (cg st.t)++cW) st d K
  |_=>eF
 | .callb d f=>match cg st.t f with
  | .func n cW=> ¬n<1000000/\cx P (w5 n) (cR cW) st d K
  |_=>eF
def hY(P:cE)(ob:List aB):List ds->bn->(bn->Prop)->Prop
 |[],st,K=>K st
 |⟨none,i⟩::r,st,K=>q9 P ob st (fun st'=>hY P ob r st' K) i
 |⟨some (s,want),i⟩::r,st,K=>match get s st.t with
  | .bool b=>(b=want->q9 P ob {st with t:=put s (.bool want) st.t} (fun st'=>hY P ob r st' K) i)/\(b= !want->hY P ob r {st with t:=eY i.dst (.tuple []) (put s (.bool !want) st.t)} K)
  | .tuple []=>hY P ob r {st with t:=eY i.dst (.tuple []) st.t} K
  |_=>eF
def tS(N:Nat)(aT:List (Nat×eJ))(i:et)(o:Oper):Bool:=
 match i with
 | .s i=>sA N aT i o
 | .next d x=>match o.op with
  | .next it false=>o.dst==some d&&decide (d<N)&&eC x it
  |_=>false
 | .call d f xs=>match o.op with
  | .call ⟨.value a,args,_⟩=>o.dst==d&&h9 N d&&eC f a&&wG xs args.toList
  |_=>false
 | .opn d f xs=>match o.op with
  | .call ⟨.value a,args,_⟩=>o.dst==d&&h9 N d&&eC f a&&wG xs args.toList
  |_=>false
 | .callb d f=>match o.op with
  | .call ⟨.value a,⟨[]⟩,_⟩=>o.dst==d&&h9 N d&&eC f a
  |_=>false
def DR(N:Nat)(aT:List (Nat×eJ))(ops:List Oper)(g:ds)(o:Oper):Bool:=
 (match g.g,o.guard with
  |none,none=>true
  |some (s,b),some (j,cf)=>b==cf&&((ops[j]?).bind (·.dst))==some s&&decide (s<N)&&o.dst==g.i.dst&&h9 N g.i.dst
  |_,_=>false)&&tS N aT g.i o
def lh(N:Nat)(aT:List (Nat×eJ))(ops:List Oper):List ds->List Oper->Bool
 |[],[]=>true
 |g::gs,o::os=>DR N aT ops g o&&lh N aT ops gs os
 |_,_=>false
def aaA{w:World}{Z:a8}:∀{a b1:List ah} {bf us:List Value},cN w Z a bf->cN w Z b1 us->cN w Z (a++b1) (bf++us)
 |[],b1,bf,us,h,b=>by simp only[cN]at h;subst h;simpa using b
 |p::a,b1,bf,us,h,b=>by simp only[cN]at h;obtain⟨u,c,rfl,J,U⟩:=h;simp only[b3,cN];exact⟨u,_,rfl,J,aaA U b⟩
def w7.mono{P:cE}{f:FuncId}{bf:Array Value}{w:World}{R a:Ending->World->Prop}(h:w7 P f bf w R)(bg:∀e w',R e w'->a e w'):w7 P f bf w a:=by
 rcases h with⟨J,U⟩|⟨v,w',J,U⟩
 ·exact .inl ⟨J,U.mono bg⟩
 ·exact .inr ⟨v,w',J,bg _ _ U⟩
def aqo{P:cE}{a:Act}{w:World}{o:Oper}{c:jk}{args:Array jk}{d:Array fF}(b:o.op= .call ⟨.value c,args,d⟩){n:Nat}{us:Array Value}(e:a.eval c= .func (.func n) #[] us)(r:Result Next)(f:(callFunc n (args.map a.eval++us)).run P w=r):(execOp a.eval o).run P w=r:=by obtain⟨dst,op,ty,pos,KG,g⟩:=o;simp only at b;subst b;simp only[execOp,resolve,e,Deferred.ofValue,fB,gx,fE,invoke];simpa using f
def aqp{P:cE}{a:Act}{w:World}{o:Oper}{c:jk}{d:Array fF}(b:o.op= .call ⟨.value c,#[],d⟩){n:Nat}{us:Array Value}(e:a.eval c= .func (.func n) us #[])(r:Result Next)(f:(callFunc n us).run P w=r):(execOp a.eval o).run P w=r:=by obtain⟨dst,op,ty,pos,KG,g⟩:=o;simp only at b;subst b;simp only[execOp,resolve,e,Deferred.ofValue,fB,gx,fE,invoke];simpa using f
def PA{P:cE}(k:P.funcs.size<=1000000){a:Act}{w:World}{Z:a8}{o:Oper}{c:jk}{args:Array jk}{g:Array fF}(h:o.op= .call ⟨.value c,args,g⟩){n:Nat}{cW:List ah}(f:aV w Z (.func n cW) (a.eval c)){d:List ah}(i:cN w Z d (args.toList.map a.eval)):
  ∃bf:Array Value,(∀x w',(callFunc n bf).run P w= .ok x w'->(execOp a.eval o).run P w= .ok x w')/\cN w Z (d++cW) bf.toList:=by
 rw[aV]at f;obtain⟨us,l,hu⟩:=f;refine⟨args.map a.eval++us,fun x w' b=>?_,by simpa using aaA i hu⟩;by_cases e:n<1000000
 ·exact aqo h (l.trans (y3 e us)) _ b
 ·have j:P.funcs[n]? =none:=Array.getElem?_eq_none (j1 k (Nat.le_of_not_lt e));simp only[callFunc,fB,fE,run_program,j]at b;cases b
def aqq{P:cE}{a:Act}{w:World}{Z:a8}{o:Oper}{b:jk}{d:Array fF}(e:o.op= .call ⟨.value b,#[],d⟩){n:Nat}{cW:List ah}(c:aV w Z (.func n cW) (a.eval b))(f:¬n<1000000):
  ∃bf:Array Value,(∀x w',(callFunc (w5 n) bf).run P w= .ok x w'->(execOp a.eval o).run P w= .ok x w')/\cN w Z cW bf.toList:=by
 rw[aV]at c;obtain⟨us,g,hu⟩:=c;exact⟨us,fun x w' h=>aqp e (g.trans (ah2 f us)) _ h,hu⟩
def TV{P:cE}{C:fb}{st:bn}{a:Act}{w:World}{Z:a8}(g:cZ C st a w Z){o:Oper}{d:aZ Nat}(X:o.dst=d)(R:h9 C.N d=true)
  {n:Nat} {z:List ah} {q:Array Value} (V:∀x w',(callFunc n q).run P w= .ok x w'->(execOp a.eval o).run P w= .ok x w') (j3:cN w Z z q.toList) {K:bn->Prop}
  (aA:∃(s:cS) (y:ah->cS->Prop) (κ:aZ Nat) (n':Nat) (o':cS->List aB),hs (inObs s) s.b st.b/\qc (inObs s) s.e st.e/\jv s/\ay (inObs s) (cR z)/\(∀(w:World) (Z:a8) (bf:Array Value) (gl:n7 w Z),Good (gh Z s) w Z s.b s.e->qx Z s->cN w Z (cR z) bf.toList->
   w7 P n bf w fun e w'=> ∃v r c Z',e= .returned v/\y r c/\aV w' Z' r v/\Good (fun bl=>gh Z s bl\/w.heap.size<=bl) w' Z' c.b c.e/\Hi κ Z' c/\jv c/\ql ⟨w,Z,gh Z s,0,di s,gl,[]⟩ w' Z')/\
   (∀m,κ=some m->fresh st.n st.o (.loc m))/\(∀k r c,y r c->fresh n' (o' c) k->fresh st.n (st.o++di c) k/\∀m,κ=some m->k≠ .loc m)/\
   ∀r c,y r c->((∀m,(look (.obj m) c.b).isSome->(look (.obj m) s.b).isSome\/ .obj m∉st.o)/\(∀m,(look (.obj m) c.e).isSome->(look (.obj m) s.e).isSome\/ .obj m∉st.o))/\K {after st s c d r with n:=n',o:=o' c})
  {U:Act->World->Prop} {Q:Exit->Act->World->Prop} (W:∀st' bu w' Z',K st'->cZ C st' bu w' Z'->U bu w'):o.wp P a w U Q:=by
 obtain⟨s,y,κ,n',o',t,c2,c3,c4,c5,Y,T9,S⟩:=aA;have k3:cN w (Z.cut (inObs s)) (cR z) q.toList:=Am (pE.cut _ w Z) _ _ c4 (JH _ _ j3);have tq:Good (gh (Z.cut (inObs s)) s) w (Z.cut (inObs s)) s.b s.e:=g.good.cut t c2 (fun bl _ h=>h);have hex:qx (Z.cut (inObs s)) s:=by
  intro k;refine⟨?_,?_,?_⟩;rotate_left 2
  ·rintro j b ⟨f,ae⟩;obtain⟨t1,t2⟩:=g.fr.trn k j b ae;rcases f with f|f<;>obtain⟨x,p⟩:=gk.1 f
   ·obtain⟨bl,N,el,i,_⟩:=g.good.box k x (t k x p).1;rw[t1]at i;cases i
   ·obtain⟨v',N,i,_⟩:=g.good.own k x (c2 k x p).1;rw[t2]at i;cases i
  ·intro O;by_cases f:inObs s k
   ·rw[a8.cut_bx f];rcases f with f|f
    ·rw[O]at f;cases f
    ·obtain⟨x,p⟩:=gk.1 f;obtain⟨v',N,i,_⟩:=g.good.own k x (c2 k x p).1;rcases g.good.one k with J|J
     ·exact J
     ·rw[J]at i;cases i
   ·exact(a8.cut_no f).1
  ·intro O;by_cases f:inObs s k
   ·rw[a8.cut_ow f];rcases f with f|f
    ·obtain⟨x,p⟩:=gk.1 f;obtain⟨bl,N,el,i,_⟩:=g.good.box k x (t k x p).1;rcases g.good.one k with J|J
     ·rw[J]at i;cases i
     ·exact J
    ·rw[O]at f;cases f
   ·exact(a8.cut_no f).2.1
 rcases c5 w (Z.cut (inObs s)) q (g.fr.gl.cut _) tq hex k3 with⟨⟨fn,g1,g2,g3⟩,c5⟩|⟨v,w',c5,L⟩
 ·obtain⟨code,Mr⟩:=gk.1 g2;have A:(execOp a.eval o).run P w= .ok (.enter n q) w:=by refine V _ _ ?_;simp only[callFunc,fB,gx,fE,run_program,g1,g3,Mr];simp
  unfold Oper.wp;rw[A];simp only[Oper.upon];refine c5.mono fun e w' L=>?_;obtain⟨v,r,c,Z',rfl,u,G,M,H,F,E⟩:=L;obtain⟨⟨B,D⟩,l⟩:=S r c u;rw[X];exact W _ _ _ _ l (g.callK t c2 c3 M H (fun m hm=>g.new _ (Y m hm)) (n':=n') (o':=o' c) (fun k l=>T9 k r c u l) F E B D d R G)
 ·have A:(execOp a.eval o).run P w= .ok (.value v) w':=by exact V _ _ c5
  obtain⟨v2,r,c,Z',zG,u,G,M,H,F,E⟩:=L;cases zG;obtain⟨⟨B,D⟩,l⟩:=S r c u;refine lH A ?_;rw[X];exact W _ _ _ _ l (g.callK t c2 c3 M H (fun m hm=>g.new _ (Y m hm)) (n':=n') (o':=o' c) (fun k l=>T9 k r c u l) F E B D d R G)
def aoR{P:cE}(y:P.funcs.size<=1000000){C:fb}{st:bn}{a:Act}{w:World}{Z:a8}(A:cZ C st a w Z){o:Oper}{j:jk}{args:Array jk}{s:Array fF}(u:o.op= .call ⟨.value j,args,s⟩){d:aZ Nat}(m:o.dst=d)(q:h9 C.N d=true)
  {n:Nat} {cW:List ah} (z:aV w Z (.func n cW) (a.eval j)) {l:List ah} (x:cN w Z l (args.toList.map a.eval)) {K:bn->Prop} (aA:C8 P C.ob n (l++cW) st d K)
  {h:Act->World->Prop} {Q:Exit->Act->World->Prop} (k:∀st' bu w' Z',K st'->cZ C st' bu w' Z'->h bu w'):o.wp P a w h Q:=by
 obtain⟨r,i,t⟩:=PA y u z x;rcases aA C a w Z _ rfl A t q with⟨⟨fn,g1,g2,g3⟩,c5⟩|⟨v,w',c5,f⟩
 ·obtain⟨code,B⟩:=gk.1 g2;have b:(execOp a.eval o).run P w= .ok (.enter n r) w:=by refine i _ _ ?_;simp only[callFunc,fB,gx,fE,run_program,g1,g3,B];simp
  unfold Oper.wp;rw[b];simp only[Oper.upon];refine c5.mono fun e w' f=>?_;obtain⟨v,st',Z',rfl,g,c⟩:=f;rw[m];exact k _ _ _ _ g c
 ·have b:(execOp a.eval o).run P w= .ok (.value v) w':=by exact i _ _ c5
  obtain⟨v2,st',Z',p,g,c⟩:=f;cases p;refine lH b ?_;rw[m];exact k _ _ _ _ g c
def TW{P:cE}{C:fb}{st:bn}{a:Act}{w:World}{Z:a8}(D:cZ C st a w Z){o:Oper}{d:aZ Nat}(B:o.dst=d)(q:h9 C.N d=true)
  {n:Nat} {p:List ah} {j:Array Value} (t:∀x w',(callFunc n j).run P w= .ok x w'->(execOp a.eval o).run P w= .ok x w') (u:cN w Z p j.toList) {K:bn->Prop} (aA:cx P n (cR p) st d K)
  {l:Act->World->Prop} {Q:Exit->Act->World->Prop} (y:∀st' bu w' Z',K st'->cZ C st' bu w' Z'->l bu w'):o.wp P a w l Q:=by
 refine TV D B q t u (K:=K) ?_ y;rcases aA with⟨s,f,i,c2,c3,c4,c5,g⟩|⟨s,f,i,c2,c3,c4,c0,c5,g⟩
 ·refine⟨s,f,none,st.n,fun b=>st.o++di b,i,c2,c3,c4,fun w Z bf gl J U A=>(c5 w Z bf gl J U A).mono fun e w' z=>?_,fun m hm=>(by cases hm),fun k _ b _ c=>⟨c,fun m hm=>by cases hm⟩,g⟩;obtain⟨v,r,b,Z',g1,g2,g3,g4,g5,g6⟩:=z;exact⟨v,r,b,Z',g1,g2,g3,g4,g5.k,g6⟩
 ·refine⟨s,f,some st.n,st.n+1,fun b=>st.o++di b,i,c2,c3,c4,c5,fun m hm=>(by cases hm;exact⟨e2 _,c0⟩),fun k _ b _ c=>⟨y5 (Nat.le_succ _) (fun _ h=>h) c,fun m hm=>?_⟩,g⟩;cases hm;rintro rfl;have:=c.1;simp only at this;omega
def TU{P:cE}(m:P.funcs.size<=1000000){C:fb}{st:bn}{a:Act}{w:World}{Z:a8}(r:cZ C st a w Z){o:Oper}{c:jk}{args:Array jk}{g:Array fF}(j:o.op= .call ⟨.value c,args,g⟩){d:aZ Nat}(p:o.dst=d)(f:h9 C.N d=true)
  {n:Nat} {cW:List ah} (q:aV w Z (.func n cW) (a.eval c)) {e:List ah} (k:cN w Z e (args.toList.map a.eval)) {K:bn->Prop} (aA:cx P n (cR (e++cW)) st d K)
  {b:Act->World->Prop} {Q:Exit->Act->World->Prop} (l:∀st' bu w' Z',K st'->cZ C st' bu w' Z'->b bu w'):o.wp P a w b Q:=by
 obtain⟨s,h,i⟩:=PA m j q k;exact TW r p f h i aA l
def cZ.drawn{C:fb}{st:bn}{a:Act}{w:World}{Z:a8}(b:cZ C st a w Z)(n:Nat):cZ C st a {w with drawn:=n} Z:=by
 have c:l1 w Z {w with drawn:=n} Z:=⟨fun _ _ h=>⟨h,rfl⟩,fun _ _ _ h=>h,fun _ n u _ h=>⟨n,u,h,.inl ⟨rfl,rfl⟩⟩,fun _ _ _=>rfl,fun _ _ _ _ h=>h⟩;refine b.over c rfl ⟨b.good.alt,fun k cs i=>?_,b.good.inj,fun g o a1=>?_,b.good.oinj,b.good.obx,b.good.one,b.good.otr⟩ ⟨b.fr.os,b.fr.tape,b.fr.output,b.fr.size,b.fr.block,b.fr.keep,b.fr.fresh,b.fr.obj,b.fr.obn,b.fr.row,b.fr.obr,b.fr.trd,b.fr.trb,b.fr.trn,b.fr.sh,b.fr.nrow⟩ b.new
 ·obtain⟨bl,us,el,J,U,d,e,f⟩:=b.good.box k cs i;exact⟨bl,us,el,J,U,d,e,qT c f⟩
 ·obtain⟨v,us,J,U,d,e⟩:=b.good.own g o a1;exact⟨v,us,J,U,d,sy c (fun _ _ _ h=>h) e⟩
def ahX{α:Type}{l:List α}{p:α->Bool}(h:∀x∈l,p x=false):l.filter p=[]:=by rw[List.filter_eq_nil_iff];intro x a;simp[h x a]
def ahW{α:Type}{l:List α}{p:α->Bool}(h:∀x∈l,p x=true):l.filter p=l:=List.filter_eq_self.2 h
def IU(r m since clock:Nat)(seen:Array Nat)(TX:Array (aZ MapEntry)):Sem Value:=do
 match TX[<-choose (.mapNext TX.size)]? with
 |some (some e)=>
  setObj r (.mapIter (some m) since (seen.push e.born) clock)
  pure (.tuple #[.bool true,e.key,e.val])
 |some none=>pure (.tuple #[.bool false])
 |none=>stuck "Next: no such candidate"
def aaM{P:cE}{w:World}(r m since clock:Nat)(seen:Array Nat)(l:List (aZ MapEntry))(ao:l≠[]):∃n x,x∈l/\(IU r m since clock seen l.toArray).run P w=
  (match x with|some e=>(do setObj r (.mapIter (some m) since (seen.push e.born) clock);pure (.tuple #[.bool true,e.key,e.val]):Sem Value)|none=>pure (.tuple #[.bool false])).run P {w with drawn:=n}:=by
 have fR:0<l.length:=List.length_pos_iff.2 ao;unfold IU;have key:∀i,i<l.length->∀w',((do match(l.toArray[i]?:aZ (aZ MapEntry))with
   |some (some e)=>setObj r (.mapIter (some m) since (seen.push e.born) clock);pure (.tuple #[.bool true,e.key,e.val])
   |some none=>pure (.tuple #[.bool false])
   |none=>stuck "Next: no such candidate" :Sem Value)).run P w'=((match l[i]! with|some e=>(do setObj r (.mapIter (some m) since (seen.push e.born) clock);pure (.tuple #[.bool true,e.key,e.val]):Sem Value)|none=>pure (.tuple #[.bool false]))).run P w':=by
  intro i hi w';have J:l.toArray[i]? =some l[i]!:=by simp[hi]
  rw[J];cases l[i]!<;>rfl
 by_cases aH:(Question.mapNext l.length).forced=true
 ·refine⟨w.drawn,l[0]!,by simp[fR],?_⟩;rw[<-key 0 fR];have aA:(choose (.mapNext l.length):Sem Nat).run P w= .ok 0 w:=by simp[aH]
  simp only[List.size_toArray,fB,aA,fE]
 ·refine⟨w.drawn+1,l[(w.tape w.drawn (.mapNext l.length))%l.length]!,by simp[Nat.mod_lt _ fR],?_⟩;rw[<-key _ (Nat.mod_lt _ fR)];have aA:(choose (.mapNext l.length):Sem Nat).run P w= .ok ((w.tape w.drawn (.mapNext l.length))%l.length) {w with drawn:=w.drawn+1}:=by simp[aH,Question.cut]
  simp only[List.size_toArray,fB,aA,fE]
def aqA{P:cE}{w:World}{bl mb:Nat}{seen:List Nat}{es:List MapEntry}{clock:Nat}{ty:fF}(J:w.heap[bl]? =some (.mapIter (some mb) clock seen.toArray clock))(U:w.heap[mb]? =some (.map es.toArray clock))(d:∀e∈es,e.born<clock):
  ∃n,((∀e∈es,e.born∈seen)/\(Instr.next (.pointer (some ⟨bl,0,none⟩)) false ty).run P w= .ok (.tuple #[.bool false]) {w with drawn:=n})\/
   ∃e∈es,e.born∉seen/\(Instr.next (.pointer (some ⟨bl,0,none⟩)) false ty).run P w= .ok (.tuple #[.bool true,e.key,e.val]) {w with drawn:=n,heap:=w.heap.setIfInBounds bl (.mapIter (some mb) clock (seen++[e.born]).toArray clock)}:=by
 have j:(!seen.toArray.isEmpty&& !es.toArray.isEmpty&&es.toArray.all (fun e=>decide (e.born≥clock)))=false:=by
  cases es with
  |nil=>simp
  |cons e r=>have:=d e Ψ;simp;intro _ h;omega
 generalize c:(es.filter fun e=> !seen.contains e.born)=left;have f:(es.toArray.filter fun e=> !seen.toArray.contains e.born)=left.toArray:=by rw[<-c];simp
 have a:∀e∈left,e∈es/\e.born∉seen:=fun e he=>by rw[<-c]at he;have:=n3.1 he;exact⟨this.1,by simpa using this.2⟩
 have hold:(left.toArray.filter fun e=>decide (e.born<clock))=left.toArray:=by rw[List.filter_toArray,ahW];intro e he;have:=d e (a e he).1;simp[this]
 have g:(left.toArray.filter fun e=>decide (e.born≥clock))= #[]:=by rw[List.filter_toArray,ahX];intro e he;have:=d e (a e he).1;simp;omega
 have i:(Instr.next (.pointer (some ⟨bl,0,none⟩)) false ty).run P w=(IU bl mb clock clock seen.toArray ((if left.toArray.isEmpty then #[none]else #[])++(left.toArray++ #[]).map some)).run P w:=by unfold Instr.next IU;simp only[fB,wV J,wV U,fE,j,f,hold,g,hI,if_false];rfl
 rw[i];by_cases b:left=[]
 ·subst b;obtain⟨n,x,g1,g2⟩:=aaM (P:=P) (w:=w) bl mb clock clock seen.toArray [none] Ψ;refine⟨n,.inl ⟨fun e he=>?_,?_⟩⟩
  ·have:=List.filter_eq_nil_iff.1 c e he;simpa using this
  ·simp only[List.mem_singleton]at g1;subst g1;have aA:((if(([]:List MapEntry).toArray).isEmpty then #[none]else #[])++(([]:List MapEntry).toArray++ #[]).map some)=[none].toArray:=Ψ
   rw[aA,g2];rfl
 ·have aA:((if left.toArray.isEmpty then #[none]else #[])++(left.toArray++ #[]).map some)=(left.map some).toArray:=by simp[b]
  obtain⟨n,x,g1,g2⟩:=aaM (P:=P) (w:=w) bl mb clock clock seen.toArray (left.map some) (by simpa using b);simp only[iA]at g1;obtain⟨e,he,rfl⟩:=g1;refine⟨n,.inr ⟨e,(a e he).1,(a e he).2,?_⟩⟩;rw[aA,g2];simp only[fB];rw[FR (w:={w with drawn:=n}) (o:= .mapIter (some mb) clock seen.toArray clock) J];simp
def Lx:∀{borns:List Nat} {us:List Value} {e:MapEntry},e∈gi borns us->e.born∈borns
 |[],us,e,h=>by simp[gi]at h
 |b::a,[],e,h=>by simp[gi]at h
 |b::a,[_],e,h=>by simp[gi]at h
 |b::a,k::v::us,e,h=>by
  simp only[gi,gj]at h;rcases h with rfl|h
  ·simp
  ·exact pB _ (Lx h)
def Uw:∀{borns:List Nat} {kvs:List ah} {us:List Value},kvs.length=2*borns.length->us.length=kvs.length->∀{b:Nat},b∈borns->∃e∈gi borns us,e.born=b
 |[],_,_,_,_,b,ae=>by simp at ae
 |cf::a,kvs,[],J,U,b,ae=>by rw[J]at U;simp at U
 |cf::a,kvs,[_],J,U,b,ae=>by rw[J]at U;simp at U;omega
 |cf::a,kvs,k::v::us,J,U,b,ae=>by
  rcases gj.1 ae with rfl|ae
  ·exact⟨⟨k,v,b⟩,by simp[gi],rfl⟩
  ·obtain⟨e,g1,g2⟩:=Uw (kvs:=kvs.drop 2) (us:=us) (borns:=a) (by simp at J⊢;omega) (by simp at J U⊢;omega) ae;exact⟨e,by simp[gi,g1],g2⟩
def Yn{w:World}{Z:a8}:∀{borns:List Nat} {kvs:List ah} {us:List Value},kvs.length=2*borns.length->borns.Pairwise (· < ·)->cN w Z kvs us->∀{e:MapEntry},e∈gi borns us->∃k v,nT e.born borns kvs=some (.tuple [k,v])/\aV w Z k e.key/\aV w Z v e.val
 |[],_,_,_,_,_,e,h=>by simp[gi]at h
 |b::a,[],us,J,_,_,e,_=>by simp at J
 |b::a,[_],us,J,_,_,e,_=>by simp at J;omega
 |b::a,k::v::kvs,us,J,U,c,e,h=>by
  simp only[cN]at c;obtain⟨n,o,rfl,g,m,l,rfl,f,d⟩:=c;simp only[gi,gj]at h;rw[n4]at U;rcases h with rfl|h
  ·exact⟨k,v,by simp[nT],g,f⟩
  ·obtain⟨j,v',g1,g2,g3⟩:=Yn (by simp at J;omega) U.2 d h;have i:b≠e.born:=Nat.ne_of_lt (U.1 _ (Lx h));exact⟨j,v',by simp[nT,i,g1],g2,g3⟩
def amH{P:cE}{C:fb}{st:bn}{a:Act}{w:World}{Z:a8}(c:cZ C st a w Z){o:Oper}{it:jk}(s:o.op= .next it false){d:Nat}(D:o.dst=some d)(l:h9 C.N (some d)=true){v:ah}(E:aV w Z v (a.eval it)){K:bn->Prop}(he:uz st d v K)
  {m:Act->World->Prop} {Q:Exit->Act->World->Prop} (y:∀st' bu w' Z',K st'->cZ C st' bu w' Z'->m bu w'):o.wp P a w m Q:=by
 unfold uz at he;split at he
 ·rename_i fV;split at he
  ·rename_i since seen last mk i;split at he
   ·rename_i clock borns kvs F;obtain⟨⟨rfl,rfl⟩,S,G⟩:=he;simp only[aV]at E;obtain⟨bl,A,L⟩:=E;obtain⟨W,us,el,B,Y,X,g,x⟩:=c.good.box fV _ i;rw[A]at B;cases B;obtain⟨mb,ms,M,m1,m2,m3,m4,m5⟩:=c.good.box mk _ F;simp only[iI,cN]at x;obtain⟨u,b5,hu,⟨N,z,rfl⟩,rfl⟩:=x;rw[m1]at z;cases z;simp only[jN,hu]at g;simp only[jN]at m4;simp only[iI]at m5;obtain⟨n,H⟩:=aqA (P:=P) (ty:=o.type) g m4 (fun e he=>m5.2.lt _ (Lx he));have r:∀v' w',(Instr.next (.pointer (some ⟨bl,0,none⟩)) false o.type).run P w= .ok v' w'->(execOp a.eval o).run P w= .ok (.value v') w':=by intro v' w' t;obtain⟨dst,op,ty,pos,KG,V⟩:=o;simp only at s t;subst s;simp only[execOp,L];exact Gc t
    rcases H with⟨J,U⟩|⟨e,J,U,O⟩
    ·refine lH (r _ _ U) ?_;rw[D];refine y _ _ _ _ (S fun b ae=>?_) ((c.drawn n).put l (p:= .tuple [.bool false]) (by simp[aV,cN]));obtain⟨e,f1,f2⟩:=Uw m5.2.len (JF m5.1) ae;rw[<-f2];exact J e f1
    ·obtain⟨k,v,f1,f2,f3⟩:=Yn m5.2.len m5.2.inc m5.1 J;refine lH (r _ _ O) ?_;rw[D];have f:=((c.drawn n).setBox (w':={w with drawn:=n,heap:=w.heap.setIfInBounds bl (.mapIter (some mb) last (seen++[e.born]).toArray last)}) i A (cs':=[.hdi last (seen++[e.born]) last,.gmap mk]) (us:=us) (el:=el) rfl rfl rfl
      (fun j R=>Array.getElem?_setIfInBounds_ne (lb R)) Ψ (by simp[jN,hu,(Array.getElem?_eq_some_iff.1 g).1]) (by simp only[iI,cN];exact⟨_,_,hu,by simp only[aV];exact⟨mb,m1,rfl⟩,rfl⟩))
     refine y _ _ _ _ (G e.born k v f1 U) (f.1.put l (p:= .tuple [.bool true,k,v]) ?_);simp only[aV];refine⟨_,rfl,?_⟩;simp only[cN];have q:l1 w Z {w with drawn:=n} Z:=⟨fun _ _ h=>⟨h,rfl⟩,fun _ _ _ h=>h,fun _ n u _ h=>⟨n,u,h,.inl ⟨rfl,rfl⟩⟩,fun _ _ _=>rfl,fun _ _ _ _ h=>h⟩;exact⟨_,_,rfl,by simp[aV],_,_,rfl,wQ f.2 (wQ q f2),_,_,rfl,wQ f.2 (wQ q f3),rfl⟩
   ·exact he.elim
  ·exact he.elim
 ·exact he.elim
def UA{P:cE}{aT:List (Nat×eJ)}(aM:hl P aT=true){C:fb}{st:bn}{a:Act}{w:World}{Z:a8}(b:cZ C st a w Z){i:et}{o:Oper}(al:tS C.N aT i o=true){K:bn->Prop}(he:q9 P C.ob st K i)
  {p:Act->World->Prop} {Q:Exit->Act->World->Prop} (j:∀st' bu w' Z',K st'->cZ C st' bu w' Z'->p bu w'):o.wp P a w p Q:=by
 cases i with
 |s i=>
  simp only[q9]at he;split at he
  ·rename_i c st' u;exact aqF aM b (by simpa only[tS]using al) u he.1 fun bu w' Z' h=>j _ _ _ _ he.2 h
  ·exact he.elim
 |next d x=>
  simp only[q9]at he;simp only[tS]at al;split at al
  ·rename_i it e;simp only[cD,dW,e3]at al;obtain⟨⟨J,U⟩,g⟩:=al;exact amH b e J (by simpa[h9]using U) (eD b g) he j
  ·cases al
 |call d f xs=>
  simp only[q9]at he;simp only[tS]at al;split at al
  ·rename_i q args m e;simp only[cD,dW]at al;obtain⟨⟨⟨J,U⟩,g⟩,l⟩:=al;split at he
   ·rename_i n cW k;have:=eD b g;rw[k]at this;exact TU (hl.sz aM) b e J U this (Al b l) he j
   ·exact he.elim
  ·cases al
 |opn d f xs=>
  simp only[q9]at he;simp only[tS]at al;split at al
  ·rename_i q args m e;simp only[cD,dW]at al;obtain⟨⟨⟨J,U⟩,g⟩,l⟩:=al;split at he
   ·rename_i n cW k;have:=eD b g;rw[k]at this;exact aoR (hl.sz aM) b e J U this (Al b l) he j
   ·exact he.elim
  ·cases al
 |callb d f=>
  simp only[q9]at he;simp only[tS]at al;split at al
  ·rename_i q m e;simp only[cD,dW]at al;obtain⟨⟨J,U⟩,g⟩:=al;split at he
   ·rename_i n cW k;have:=eD b g;rw[k]at this;obtain⟨v,r,t⟩:=aqq (P:=P) e this he.1;exact TW b J U r t he.2 j
   ·exact he.elim
  ·cases al
def Pn{C:fb}{st:bn}{a:Act}{w:World}{Z:a8}(h:cZ C st a w Z){s:Nat}{b:Bool}(c:get s st.t= .bool b):cZ C {st with t:=put s (.bool b) st.t} a w Z:=by
 refine⟨h.good,h.fr,h.defers,h.size,fun i=>?_,h.new,h.ext,h.obk⟩;have:=h.slot i;simp only[pS];split
 ·rename_i e;subst e;rw[<-c];exact this
 ·exact this
def acj{C:fb}{st:bn}{a:Act}{w:World}{Z:a8}(h:cZ C st a w Z){ops:Array Oper}{j s:Nat}(e:(ops.toList[j]?).bind (·.dst)=some s)(k:s<C.N):
  (∀b,get s st.t= .bool b->yielded ops a.tmps j=some b)/\(get s st.t= .tuple []->yielded ops a.tmps j=none):=by
 have d:s<a.tmps.size:=by rw[h.size];exact k
 have c:=h.slot s;have g:a.tmps.getD s undef=a.tmps[s]:=by simp[Array.getD,d]
 rw[g]at c;have f:yielded ops a.tmps j=match a.tmps[s]with| .bool b=>some b|_=>none:=by unfold yielded;rw[uh]at e;rw[e];simp only[ld,Array.getElem?_eq_getElem d];cases a.tmps[s]<;>rfl
 constructor
 ·intro b ae;rw[ae]at c;simp only[aV]at c;rw[f,c]
 ·intro ae;rw[ae]at c;simp only[aV,cN]at c;obtain⟨us,i,l⟩:=c;rw[f,i]
def UE{P:cE}{aT:List (Nat×eJ)}(aM:hl P aT=true){C:fb}{ops:Array Oper}{K:bn->Prop}{Q:Exit->Act->World->Prop}(p:∀st' bu w' Z',K st'->cZ C st' bu w' Z'->Q .normal bu w'):
  ∀(gs:List ds) (os:List Oper) (k:Nat),(∀j,os[j]? =ops[k+j]?)->lh C.N aT ops.toList gs os=true->∀(st:bn) (a:Act) (w:World) (Z:a8),hY P C.ob gs st K->cZ C st a w Z->wpOps P ops Q (List.range' k gs.length) a w
 |[],[],k,_,_,st,a,w,Z,he,f=>by simp only[nv,List.range'_zero,wpOps];exact p _ _ _ _ he f
 |[],_::_,_,_,d,_,_,_,_,_,_=>by simp[lh]at d
 |_::_,[],_,_,d,_,_,_,_,_,_=>by simp[lh]at d
 |g::gs,o::os,k,m,d,st,a,w,Z,he,f=>by
  simp only[lh,cD]at d;have B:ops[k]? =some o:=by simpa using(m 0).symm
  have E:∀j,os[j]? =ops[k+1+j]?:=fun j=>by have:=m (j+1);simpa[Nat.add_assoc,Nat.add_comm 1 j]using this
  simp only[ik,List.range'_succ,wpOps,B];have i:∀st' bu w' Z',hY P C.ob gs st' K->cZ C st' bu w' Z'->wpOps P ops Q (List.range' (k+1) gs.length) bu w':=fun st' bu w' Z' J U=>UE aM p gs os (k+1) E d.2 st' bu w' Z' J U;obtain⟨y,G⟩:=g;have a1:=d.1;simp only[DR,cD]at a1;obtain⟨h,n⟩:=a1;cases y with
  |none=>
   cases c:o.guard with
   |some x=>simp[c]at h
   |none=>
    have hw:qg o (yielded ops a.tmps)=true:=by simp[qg,c]
    rw[if_pos hw];simp only[hY]at he;exact .inl (UA aM f n he i)
  |some F=>
   obtain⟨s,want⟩:=F;cases c:o.guard with
   |none=>simp[c]at h
   |some x=>
    obtain⟨j,cf⟩:=x;simp only[c,cD,dW,e3]at h;obtain⟨⟨⟨⟨rfl,U⟩,D⟩,u⟩,r⟩:=h;obtain⟨A,v⟩:=acj f U D;simp only[hY]at he;split at he
    ·rename_i b ae;have l:=A b ae;by_cases e:b=want
     ·subst e;have hw:qg o (yielded ops a.tmps)=true:=by simp[qg,c,l]
      rw[if_pos hw];exact .inl (UA aM (Pn f ae) n (he.1 rfl) i)
     ·have hw:¬(qg o (yielded ops a.tmps)=true):=by simp[qg,c,l,e]
      rw[if_neg hw];have q:b= !want:=by cases b<;>cases want<;>simp at e⊢
      have z:cZ C {st with t:=put s (.bool !want) st.t} a w Z:=Pn f (by rw[ae,q]);rw[u];exact i _ _ _ _ (he.2 q) (z.put r (by simp[aV,cN,undef]))
    ·rename_i ae;have l:=v ae;have hw:¬(qg o (yielded ops a.tmps)=true):=by simp[qg,c,l]
     rw[if_neg hw,u];exact i _ _ _ _ he (f.put r (by simp[aV,cN,undef]))
    ·exact he.elim
structure dA where
 t:Nat->ah
 b:aB->aZ (List ah)
 e:aB->aZ er
 F:aB->Prop
structure lM where
 d:aZ Nat
 p:ah
 bw:List (aB×List ah)
 ew:List (aB×er)
 rm:aZ aB
def jo{α:Type}(l:List (aB×α))(f:aB->aZ α):aB->aZ α:=fun k=>match look k l with|some x=>some x|none=>f k
def dA.do(A:dA)(x:lM):dA:={t:=fun i=>if x.d=some i then x.p else A.t i,b:=jo x.bw A.b,e:=jo x.ew A.e,F:=fun k=>A.F k/\x.rm≠some k}
structure lM.apart (x y:lM):Prop where
 d:∀i,x.d=some i->y.d≠some i
 b:∀k,(look k x.bw).isSome->look k y.bw=none
 e:∀k,(look k x.ew).isSome->look k y.ew=none
def dA.do_comm(A:dA){x y:lM}(h:x.apart y):(A.do x).do y=(A.do y).do x:=by
 simp only[dA.do,dA.mk.injEq];refine⟨?_,?_,?_,?_⟩
 ·funext i;by_cases J:x.d=some i
  ·have:=h.d i J;simp[J,this]
  ·simp[J]
 ·funext k;simp only[jo];cases a:look k x.bw with
  |none=>cases look k y.bw<;>rfl
  |some u=>rw[h.b k (by simp[a])]
 ·funext k;simp only[jo];cases a:look k x.ew with
  |none=>cases look k y.ew<;>rfl
  |some u=>rw[h.e k (by simp[a])]
 ·funext k;exact propext ⟨fun h=>⟨⟨h.1.1,h.2⟩,h.1.2⟩,fun h=>⟨⟨h.1.1,h.2⟩,h.1.2⟩⟩
def dF(t:Nat->ah):dv->ah
 | .t i=>t i
 | .c p=>p
def tG(b:aB->aZ (List ah))(e:aB->aZ er)(agg:Bool)(sz:Nat):ah->aZ (Prop×ah)
 | .rptr a k n i f=>Ap agg sz a n i f (e k)
 | .ptr k off=>
  match b k with
  |some cs=>if agg then some (gN cs=true/\off+sz<=cs.length,.agg ((cs.drop off).take sz))else(cs[off]?).map fun p=>(gN cs=true,p)
  |none=>none
 | .eptr p=>if agg then some (isAgg sz p,p)else some (fh p=true/\cells p=[p],p)
 |_=>none
def yM(t:Nat->ah):List ah->List (Nat×Nat×dv)->aZ (Prop×List ah)
 |cs,[]=>some (True,cs)
 |cs,(off,sz,x)::r=>
  match yM t (po cs off (cells (dF t x))) r with
  |some (c,cs')=>some ((fh (dF t x)=true/\(cells (dF t x)).length=sz/\off+sz<=cs.length)/\c,cs')
  |none=>none
def q0(t:Nat->ah)(b:aB->aZ (List ah))(e:aB->aZ er):gy->aZ (Prop×ah)
 | .mov x=>some (True,dF t x)
 | .pick c x y=>Jc (dF t c) (dF t x) (dF t y)
 | .load agg sz x=>tG b e agg sz (dF t x)
 | .faddr off agg sz x=>s8 off agg sz (dF t x)
 | .fld off agg sz x=>vN off agg sz (dF t x)
 | .iaddr sz x i=>BX sz (dF t x) (dF t i)
 | .sidx x i=>JP (dF t x) (dF t i)
 | .ssl x lo hi=>JU (dF t x) (lo.map (dF t)) (hi.map (dF t))
 | .lsl sz x lo hi=>ID sz (dF t x) (lo.map (dF t)) (hi.map (dF t))
 | .bin op wr x y=>Dm op wr (dF t x) (dF t y)
 | .notB x=>IX (dF t x)
 | .neg x=>IQ (dF t x)
 | .conv k x=>G7 k (dF t x)
 | .ext i x=>Bc i (dF t x)
 | .len x=>B8 (dF t x)
 | .slen x=>FW (dF t x)
 | .build zero parts=>(yM t zero parts).map fun(c,cs)=>(c,.agg cs)
 | .nck x=>Cj (dF t x)
 | .min2 x y=>IP (dF t x) (dF t y)
 | .mkf n xs=>some (True,.func n (xs.map (dF t)))
 | .mget a zero ok x k=>pj b a zero ok (dF t x) (dF t k)
 | .ment x=>qO b (dF t x)
 | .mlen x=>Ci b (dF t x)
 | .beq neg d x y=>jm neg d (dF t x) (dF t y)
 | .max2 x y=>IJ (dF t x) (dF t y)
 | .mkif n x=>some (True,.iface n (dF t x))
 | .loadB agg sz x=>tG b (fun _=>none) agg sz (dF t x)
 | .mgetB a zero ok x k=>pj b a zero ok (dF t x) (dF t k)
 | .loadZ agg sz x=>DQ agg sz (dF t x)
 | .b2s x=>GG (dF t x)
 | .isn neg x=>Ih neg (dF t x)
structure mw (st:bn) (A:dA):Prop where
 t:∀i,get i st.t=A.t i
 b:∀k,look k st.b=A.b k
 e:∀k,look k st.e=A.e k
def iD{st:bn}{A:dA}(h:mw st A)(x:dv):cg st.t x=dF A.t x:=by
 cases x
 ·exact h.t _
 ·rfl
def re{st:bn}{A:dA}(h:mw st A):cg st.t=dF A.t:=funext (iD h)
def alS{st:bn}{A:dA}(h:mw st A)(agg:Bool)(sz:Nat)(p:ah):nR st.b st.e agg sz p=tG A.b A.e agg sz p:=by
 cases p<;>simp only[nR,tG]
 ·rw[h.b];try rfl
 ·rw[h.e]
def alT{st:bn}{A:dA}(h:mw st A)(agg:Bool)(sz:Nat)(p:ah):nR st.b [] agg sz p=tG A.b (fun _=>none) agg sz p:=by
 cases p<;>simp only[nR,tG]
 ·rw[h.b];try rfl
 ·rfl
def RF{st:bn}{A:dA}(h:mw st A):∀(parts:List (Nat×Nat×dv)) (cs:List ah),vD st.t cs parts=yM A.t cs parts
 |[],cs=>rfl
 |(off,sz,x)::r,cs=>by simp only[vD,yM,iD h,RF h r];try rfl
def abo{st:bn}{A:dA}(h:mw st A)(i:gy):ht st i=q0 A.t A.b A.e i:=by have ae:(fun k=>look k st.b)=A.b:=funext h.b;cases i<;>simp only[ht,q0,re h,alS h,alT h,RF h,ae]
def ha:dv->List Nat
 | .t i=>[i]
 | .c _=>[]
def OJ:aZ dv->List Nat
 |some x=>ha x
 |none=>[]
def gy.looks:gy->List Nat
 | .mov x| .load _ _ x| .loadB _ _ x| .loadZ _ _ x| .faddr _ _ _ x| .fld _ _ _ x| .notB x| .neg x| .conv _ x| .ext _ x| .len x| .slen x| .nck x| .ment x| .mlen x| .mkif _ x| .b2s x| .isn _ x=>ha x
 | .pick c x y=>ha c++ha x++ha y
 | .iaddr _ x i| .sidx x i=>ha x++ha i
 | .ssl x lo hi| .lsl _ x lo hi=>ha x++OJ lo++OJ hi
 | .bin _ _ x y| .min2 x y| .max2 x y| .beq _ _ x y=>ha x++ha y
 | .build _ a=>a.flatMap fun p=>ha p.2.2
 | .mkf _ xs=>xs.flatMap ha
 | .mget _ _ _ x k| .mgetB _ _ _ x k=>ha x++ha k
def ep.looks:ep->List Nat
 | .v _ i=>i.looks
 | .box _ _ x=>ha x
 | .alloc _ _ _=>[]
 | .store _ x y=>ha x++ha y
 | .storeE _ x y=>ha x++ha y
 | .bsl _ _ _ xs=>xs.flatMap ha
 | .app _ _ _ x y=>ha x++ha y
 | .bslm _ _ _ _ xs=>xs.flatMap ha
 | .mks _ _ _ _ _ x=>ha x
 | .apps _ _ x y=>ha x++ha y
 | .appm _ _ _ _ x y=>ha x++ha y
 | .mkmap _ _=>[]
 | .mput _ x k y=>ha x++ha k++ha y
 | .range _ _ x=>ha x
def et.looks:et->List Nat
 | .s i=>i.looks
 | .call _ f xs=>ha f++xs.flatMap ha
 | .next _ x=>ha x
 | .opn _ f xs=>ha f++xs.flatMap ha
 | .callb _ f=>ha f
def ds.looks(g:ds):List Nat:=(match g.g with|some (s,_)=>[s]|none=>[])++g.i.looks
def rY(l:List Nat)(t a:Nat->ah):Prop:= ∀i∈l,t i=a i
def gF{t a:Nat->ah}{x:dv}(h:rY (ha x) t a):dF t x=dF a x:=by
 cases x
 ·exact h _ (by simp[ha])
 ·rfl
def kW{l b:List Nat}{t a:Nat->ah}(h:rY (l++b) t a):rY l t a/\rY b t a:=⟨fun i hi=>h i (by simp[hi]),fun i hi=>h i (by simp[hi])⟩
def Hh{t a:Nat->ah}{x:aZ dv}(h:rY (OJ x) t a):x.map (dF t)=x.map (dF a):=by
 cases x
 ·rfl
 ·simp[gF h]
def RE{t a:Nat->ah}:∀{parts:List (Nat×Nat×dv)} {cs:List ah},rY (parts.flatMap fun p=>ha p.2.2) t a->yM t cs parts=yM a cs parts
 |[],cs,_=>rfl
 |(off,sz,x)::r,cs,h=>by simp only[List.flatMap_cons]at h;obtain⟨J,U⟩:=kW h;simp only[yM,gF J,RE U]
def E7{t a:Nat->ah}:∀{xs:List dv},rY (xs.flatMap ha) t a->xs.map (dF t)=xs.map (dF a)
 |[],_=>rfl
 |x::xs,h=>by simp only[List.flatMap_cons]at h;obtain⟨J,U⟩:=kW h;simp[gF J,E7 U]
def gy.isLoad:gy->Bool
 | .load _ _ _=>true
 | .loadB _ _ _=>true
 | .mgetB _ _ _ _ _=>true
 | .mget _ _ _ _ _=>true
 | .ment _=>true
 | .mlen _=>true
 |_=>false
def arW{t d:Nat->ah}{b cf:aB->aZ (List ah)}{e f:aB->aZ er}{i:gy}(h:rY i.looks t d)(ae:i.isLoad=false):q0 t b e i=q0 d cf f i:=by
 cases i<;>simp only[gy.looks]at h<;>simp only[q0];case load agg sz x=>simp[gy.isLoad]at ae
 case loadB agg sz x=>simp[gy.isLoad]at ae
 case pick c x y=>obtain⟨J,a⟩:=kW h;obtain⟨J,U⟩:=kW J;rw[gF J,gF U,gF a]
 case iaddr=>obtain⟨J,U⟩:=kW h;rw[gF J,gF U]
 case sidx=>obtain⟨J,U⟩:=kW h;rw[gF J,gF U]
 case ssl=>obtain⟨J,a⟩:=kW h;obtain⟨J,U⟩:=kW J;rw[gF J,Hh U,Hh a]
 case lsl=>obtain⟨J,a⟩:=kW h;obtain⟨J,U⟩:=kW J;rw[gF J,Hh U,Hh a]
 case bin=>obtain⟨J,U⟩:=kW h;rw[gF J,gF U]
 case min2=>obtain⟨J,U⟩:=kW h;rw[gF J,gF U]
 case build=>rw[RE h]
 case mkf=>rw[E7 h]
 case mget=>simp[gy.isLoad]at ae
 case mgetB=>simp[gy.isLoad]at ae
 case ment=>simp[gy.isLoad]at ae
 case mlen=>simp[gy.isLoad]at ae
 case max2=>obtain⟨J,U⟩:=kW h;rw[gF J,gF U]
 case beq=>obtain⟨J,U⟩:=kW h;rw[gF J,gF U]
 all_goals rw[gF h]
def amC(A:dA)(s a:cS)(rm:aZ aB):Prop:=(∀k,(look k a.b).isSome->(look k s.b).isSome\/rm=some k)/\(∀k,(look k a.e).isSome->(look k s.e).isSome\/rm=some k)/\(∀k,(look k s.b).isSome->(look k a.b).isSome)/\(∀k,(look k s.e).isSome->(look k a.e).isSome)/\
 (∀k,rm=some k->(∃j,k= .obj j)/\A.F k/\A.b k=none/\A.e k=none/\((look k a.b).isSome\/(look k a.e).isSome))
def acy(P:cE)(n:Nat)(args:List ah)(A:dA)(d:aZ Nat)(x:lM):Prop:=
 ∃s a r rm,(∀k cs,look k s.b=some cs->A.b k=some cs/\ay (inObs s) cs)/\(∀k o,look k s.e=some o->A.e k=some o/\dD (inObs s) o)/\jv s/\jv a/\amC A s a rm/\ay (inObs s) args/\
  bG P n args s (fun b c=>b=r/\c=a)/\x=⟨d,r,a.b,a.e,rm⟩
def acz(P:cE)(n0 n:Nat)(args:List ah)(A:dA)(d:aZ Nat)(x:lM):Prop:=
 ∃cX r,d=some cX/\(A.F (.loc (n0+cX))/\A.b (.loc (n0+cX))=none/\A.e (.loc (n0+cX))=none)/\ay (fun _=>eF) args/\
  Kl P n (n0+cX) args ⟨[],[]⟩ (fun a b=>a=r/\b=⟨[],[]⟩)/\x=⟨d,r,[],[],some (.loc (n0+cX))⟩
def zM:ah->Bool
 | .ptr (.loc _) _=>true
 | .eptr _=>true
 |_=>false
def gy.isB:gy->Bool
 | .loadB _ _ _=>true
 | .mgetB _ _ _ _ _=>true
 |_=>false
def gy.ptrOf(t:Nat->ah):gy->ah
 | .load _ _ x=>dF t x
 | .loadB _ _ x=>dF t x
 |_=>.junk
def dZ(P:cE)(q:Bool)(n0:Nat):et->dA->lM->Prop
 | .s (.v d i),A,x=> ∃c p,q0 A.t A.b A.e i=some (c,p)/\c/\(i.isLoad=true->i.isB=true\/q=true\/zM (i.ptrOf A.t)=true)/\x=⟨some d,p,[],[],none⟩
 | .s (.box d none v),A,x=>(A.F (.loc (n0+d))/\A.b (.loc (n0+d))=none/\A.e (.loc (n0+d))=none)/\fh (dF A.t v)=true/\x=⟨some d,.ptr (.loc (n0+d)) 0,[(.loc (n0+d),cells (dF A.t v))],[],some (.loc (n0+d))⟩
 | .s (.alloc d none z),A,x=>(A.F (.loc (n0+d))/\A.b (.loc (n0+d))=none/\A.e (.loc (n0+d))=none)/\x=⟨some d,.ptr (.loc (n0+d)) 0,[(.loc (n0+d),cells z)],[],some (.loc (n0+d))⟩
 | .s (.store sz u v),A,x=> ∃k off cs,dF A.t u= .ptr k off/\A.b k=some cs/\(gN cs=true/\fh (dF A.t v)=true/\(cells (dF A.t v)).length=sz/\off+sz<=cs.length)/\x=⟨none,.junk,[(k,po cs off (cells (dF A.t v)))],[],none⟩
 | .s (.bsl d sz el xs),A,x=>(A.F (.loc (n0+d))/\A.b (.loc (n0+d))=none/\A.e (.loc (n0+d))=none)/\sW sz (xs.map (dF A.t))/\x=⟨some d,.slice sz (.own (.loc (n0+d))) (xs.map (dF A.t)),[],[(.loc (n0+d),⟨xs.length,el,sz,none⟩)],some (.loc (n0+d))⟩
 | .s (.app d sz el u v),A,x=> ∃tag xs a ys,dF A.t u= .slice sz tag xs/\dF A.t v= .slice sz a ys/\
   ((∃k o,tag= .own k/\A.e k=some o/\(o.xs=none/\o.n=xs.length/\o.el=el/\o.sz=sz/\xs.length+ys.length<=lim)/\x=⟨some d,.slice sz (.own k) (xs++ys),[],[(k,⟨xs.length+ys.length,el,sz,none⟩)],none⟩)\/
    (tag= .nil/\ys.length<=lim/\(A.F (.loc (n0+d))/\A.b (.loc (n0+d))=none/\A.e (.loc (n0+d))=none)/\x=⟨some d,.slice sz (.own (.loc (n0+d))) ys,[],[(.loc (n0+d),⟨ys.length,el,sz,none⟩)],some (.loc (n0+d))⟩))
 | .s (.bslm d (some m) sz el xs),A,x=>(A.F (.obj m)/\A.b (.obj m)=none/\A.e (.obj m)=none)/\sW sz (xs.map (dF A.t))/\x=⟨some d,.row sz (.obj m) xs.length,[],[(.obj m,⟨xs.length,el,sz,some (xs.map (dF A.t))⟩)],some (.obj m)⟩
 | .s (.appm d none sz el u v),A,x=> ∃k n xs a ys,dF A.t u= .row sz k n/\dF A.t v= .slice sz a ys/\A.e k=some ⟨n,el,sz,some xs⟩/\xs.length+ys.length<=lim/\x=⟨some d,.row sz k (xs.length+ys.length),[],[(k,⟨xs.length+ys.length,el,sz,some (xs++ys)⟩)],none⟩
 | .s (.appm d (some m) sz el u v),A,x=>(∃k n xs a ys,dF A.t u= .row sz k n/\dF A.t v= .slice sz a ys/\A.e k=some ⟨n,el,sz,some xs⟩/\xs.length+ys.length<=lim/\x=⟨some d,.row sz k (xs.length+ys.length),[],[(k,⟨xs.length+ys.length,el,sz,some (xs++ys)⟩)],none⟩)\/ ∃xs a ys,dF A.t u= .slice sz .nil xs/\dF A.t v= .slice sz a ys/\(A.F (.obj m)/\A.b (.obj m)=none/\A.e (.obj m)=none)/\(ys.length<=lim/\ys≠[])/\x=⟨some d,.row sz (.obj m) ys.length,[],[(.obj m,⟨ys.length,el,sz,some ys⟩)],some (.obj m)⟩
 | .s (.storeE sz u v),A,x=> ∃k n i f el b xs q,dF A.t u= .rptr b k n i f/\A.e k=some ⟨n,el,b,some xs⟩/\xs[i]? =some q/\(fh q=true/\fh (dF A.t v)=true/\(cells (dF A.t v)).length=sz/\f+sz<=(cells q).length/\0<sz)/\x=⟨none,.junk,[],[(k,⟨n,el,b,some (xs.set i (nW q f (cells (dF A.t v))))⟩)],none⟩
 | .s (.mkmap d (some m)),A,x=>(A.F (.obj m)/\A.b (.obj m)=none/\A.e (.obj m)=none)/\x=⟨some d,.gmap (.obj m),[(.obj m,[.hdm 0 []])],[],some (.obj m)⟩
 | .s (.mput e u k v),A,x=> ∃m cs cs',dF A.t u= .gmap m/\A.b m=some cs/\p5 e (dF A.t k) (dF A.t v) cs=some cs'/\x=⟨none,.junk,[(m,cs')],[],none⟩
 | .call d f xs,A,x=> ∃n cW,dF A.t f= .func n cW/\((acy P n (cR (xs.map (dF A.t)++cW)) A d x/\(q=true->x.bw=[]/\x.ew=[]))\/acz P n0 n (cR (xs.map (dF A.t)++cW)) A d x)
 |_,_,_=>eF
inductive C6 where
 |v|l|n|s|w|a|c|m|r|k|z
 deriving DecidableEq
def et.mode:et->C6
 | .s (.v _ (.loadB _ _ _))=>.m
 | .s (.v _ (.mgetB _ _ _ _ _))=>.m
 | .s (.v _ i)=>if i.isLoad then .l else .v
 | .s (.storeE _ _ _)=>.r
 | .s (.box _ _ _)=>.n
 | .s (.alloc _ _ _)=>.n
 | .s (.store _ _ _)=>.w
 | .s (.bsl _ _ _ _)=>.s
 | .s (.app _ _ _ _ _)=>.a
 | .s (.bslm _ none _ _ _)=>.w
 | .s (.bslm _ (some _) _ _ _)=>.z
 | .s (.mks _ _ _ _ _ _)=>.w
 | .s (.apps _ _ _ _)=>.w
 | .s (.appm _ none _ _ _ _)=>.r
 | .s (.appm _ (some _) _ _ _ _)=>.z
 | .s (.mkmap _ _)=>.k
 | .s (.mput _ _ _ _)=>.w
 | .s (.range _ _ _)=>.w
 | .call _ _ _=>.c
 | .next _ _=>.w
 | .opn _ _ _=>.w
 | .callb _ _=>.w
structure Ky (q:Bool) (n0:Nat) (m:C6) (dst:aZ Nat) (A:dA) (x:lM):Prop where
 d:x.d=dst
 b:∀k,(look k x.bw).isSome->(m= .n/\∃d,dst=some d/\k= .loc (n0+d)/\A.b k=none/\A.e k=none)\/m= .w\/(m= .c/\(∃j,k= .obj j)/\q=false)\/(m= .k/\(∃j,k= .obj j)/\A.b k=none/\A.e k=none)
 e:∀k,(look k x.ew).isSome->(m= .s/\∃d,dst=some d/\k= .loc (n0+d)/\A.b k=none/\A.e k=none)\/(m= .a/\(A.e k≠none\/ ∃d,dst=some d/\k= .loc (n0+d)/\A.b k=none/\A.e k=none))\/(m= .c/\(∃j,k= .obj j)/\q=false)\/(m= .r/\∃o,A.e k=some o/\o.xs≠none)\/m= .z
 r:∀k,x.rm=some k->(∃d,dst=some d/\k= .loc (n0+d))\/((m= .c\/m= .k\/m= .z)/\(∃j,k= .obj j)/\((look k x.bw).isSome\/(look k x.ew).isSome))
 ex:m= .a->∀k o,(look k x.ew).isSome->A.e k=some o->o.xs=none
 xn:m= .a\/m= .s->∀k o,look k x.ew=some o->o.xs=none
def u2{α:Type}{k a:aB}{x:α}(h:(look k [(a,x)]).isSome):k=a:=by
 simp only[look]at h;split at h
 ·rename_i e;exact e.symm
 ·cases h
def NS{k a:aB}{n el sz:Nat}{o:er}(h:look k [(a,(⟨n,el,sz,none⟩:er))]=some o):o.xs=none:=by
 simp only[look]at h;split at h
 ·cases h;rfl
 ·cases h
def abi{P:cE}{q:Bool}{n0:Nat}{i:et}{A:dA}{x:lM}(h:dZ P q n0 i A x):Ky q n0 i.mode i.dst A x:=by
 cases i with
 |s i=>
  cases i with
  |v d i=>simp only[dZ]at h;obtain⟨c,p,_,_,_,rfl⟩:=h;exact⟨rfl,fun k a=>by simp[look]at a,fun k a=>by simp[look]at a,fun k a=>by simp at a,fun _ k o a=>by simp[look]at a,fun _ k o a=>by simp[look]at a⟩
  |box d key v=>
   cases key with
   |some m=>simp only[dZ]at h
   |none=>simp only[dZ]at h;obtain⟨⟨_,U,b⟩,_,rfl⟩:=h;exact⟨rfl,fun k a=>by obtain rfl:=u2 a;exact .inl ⟨rfl,d,rfl,rfl,U,b⟩,fun k a=>by simp[look]at a,fun k a=>by simp at a;exact .inl ⟨d,rfl,a.symm⟩,fun _ k o a=>by simp[look]at a,fun _ k o a=>by simp[look]at a⟩
  |alloc d key z=>
   cases key with
   |some m=>simp only[dZ]at h
   |none=>simp only[dZ]at h;obtain⟨⟨_,U,b⟩,rfl⟩:=h;exact⟨rfl,fun k a=>by obtain rfl:=u2 a;exact .inl ⟨rfl,d,rfl,rfl,U,b⟩,fun k a=>by simp[look]at a,fun k a=>by simp at a;exact .inl ⟨d,rfl,a.symm⟩,fun _ k o a=>by simp[look]at a,fun _ k o a=>by simp[look]at a⟩
  |store sz u v=>simp only[dZ]at h;obtain⟨k,off,cs,_,_,_,rfl⟩:=h;exact⟨rfl,fun k a=>.inr (.inl rfl),fun k a=>by simp[look]at a,fun k a=>by simp at a,fun _ k o a=>by simp[look]at a,fun _ k o a=>by simp[look]at a⟩
  |bsl d sz el xs=>simp only[dZ]at h;obtain⟨⟨_,U,b⟩,_,rfl⟩:=h;exact⟨rfl,fun k a=>by simp[look]at a,fun k a=>by obtain rfl:=u2 a;exact .inl ⟨rfl,d,rfl,rfl,U,b⟩,fun k a=>by simp at a;exact .inl ⟨d,rfl,a.symm⟩,fun e=>by simp[et.mode]at e,fun _ k o a=>NS a⟩
  |app d sz el u v=>
   simp only[dZ]at h;obtain⟨tag,xs,g,ys,_,_,h⟩:=h;rcases h with⟨k,o,_,J,⟨t,_⟩,rfl⟩|⟨_,_,⟨_,U,b⟩,rfl⟩
   ·exact⟨rfl,fun k a=>by simp[look]at a,fun k a=>by obtain rfl:=u2 a;exact .inr (.inl ⟨rfl,.inl (by rw[J];simp)⟩),fun k a=>by simp at a,fun _ w o' a al=>by obtain rfl:=u2 a;rw[J]at al;cases al;exact t,fun _ k o a=>NS a⟩
   ·exact⟨rfl,fun k a=>by simp[look]at a,fun k a=>by obtain rfl:=u2 a;exact .inr (.inl ⟨rfl,.inr ⟨d,rfl,rfl,U,b⟩⟩),fun k a=>by simp at a;exact .inl ⟨d,rfl,a.symm⟩,fun _ w o' a al=>(by obtain rfl:=u2 a;rw[b]at al;cases al),fun _ k o a=>NS a⟩
  |bslm d key sz el xs=>
   cases key with
   |none=>simp only[dZ]at h
   |some m=>simp only[dZ]at h;obtain⟨⟨_,U,b⟩,_,rfl⟩:=h;exact⟨rfl,fun k a=>by simp[look]at a,fun k a=>.inr (.inr (.inr (.inr rfl))),fun k a=>by simp at a;subst a;exact .inr ⟨.inr (.inr rfl),⟨m,rfl⟩,.inr (by simp[look])⟩,fun e=>by simp[et.mode]at e,fun e=>by simp[et.mode]at e⟩
  |mks d key sz el z x=>simp only[dZ]at h
  |apps d el x y=>simp only[dZ]at h
  |appm d key sz el u v=>
   cases key with
   |none=>simp only[dZ]at h;obtain⟨k,n,xs,g,ys,_,_,J,_,rfl⟩:=h;exact⟨rfl,fun k a=>by simp[look]at a,fun k a=>by obtain rfl:=u2 a;exact .inr (.inr (.inr (.inl ⟨rfl,_,J,Ψ⟩))),fun k a=>by simp at a,fun e=>by simp[et.mode]at e,fun e=>by simp[et.mode]at e⟩
   |some m=>
    simp only[dZ]at h;rcases h with⟨k,n,xs,g,ys,_,_,J,_,rfl⟩|⟨xs,g,ys,_,_,⟨_,U,b⟩,_,rfl⟩
    ·exact⟨rfl,fun k a=>by simp[look]at a,fun k a=>.inr (.inr (.inr (.inr rfl))),fun k a=>by simp at a,fun e=>by simp[et.mode]at e,fun e=>by simp[et.mode]at e⟩
    exact⟨rfl,fun k a=>by simp[look]at a,fun k a=>.inr (.inr (.inr (.inr rfl))),fun k a=>by simp at a;subst a;exact .inr ⟨.inr (.inr rfl),⟨m,rfl⟩,.inr (by simp[look])⟩,fun e=>by simp[et.mode]at e,fun e=>by simp[et.mode]at e⟩
  |storeE sz u v=>simp only[dZ]at h;obtain⟨k,n,i,f,el,B,xs,q,_,J,_,_,rfl⟩:=h;exact⟨rfl,fun k a=>by simp[look]at a,fun k a=>by obtain rfl:=u2 a;exact .inr (.inr (.inr (.inl ⟨rfl,_,J,Ψ⟩))),fun k a=>by simp at a,fun e=>by simp[et.mode]at e,fun e=>by simp[et.mode]at e⟩
  |mkmap d key=>
   cases key with
   |none=>simp only[dZ]at h
   |some m=>simp only[dZ]at h;obtain⟨⟨_,U,b⟩,rfl⟩:=h;exact⟨rfl,fun k a=>by obtain rfl:=u2 a;exact .inr (.inr (.inr ⟨rfl,⟨m,rfl⟩,U,b⟩)),fun k a=>by simp[look]at a,fun k a=>by simp at a;subst a;exact .inr ⟨.inr (.inl rfl),⟨m,rfl⟩,.inl (by simp[look])⟩,fun e=>by simp[et.mode]at e,fun e=>by simp[et.mode]at e⟩
  |mput D x k v=>simp only[dZ]at h;obtain⟨m,cs,cs',_,_,_,rfl⟩:=h;exact⟨rfl,fun k a=>.inr (.inl rfl),fun k a=>by simp[look]at a,fun k a=>by simp at a,fun e=>by simp[et.mode]at e,fun e=>by simp[et.mode]at e⟩
  |range d key x=>simp only[dZ]at h
 |next d x=>simp only[dZ]at h
 |opn d f x=>simp only[dZ]at h
 |callb d f=>simp only[dZ]at h
 |call d f xs=>
  simp only[dZ]at h;obtain⟨n,cW,_,h⟩:=h;rcases h with⟨⟨s,E,r,rm,_,_,_,al,l,_,_,rfl⟩,j⟩|⟨cX,r,rfl,_,_,_,rfl⟩;rotate_left
  ·exact⟨rfl,fun k a=>by simp[look]at a,fun k a=>by simp[look]at a,fun k a=>by simp at a;exact .inl ⟨cX,rfl,a.symm⟩,fun _ k o a=>by simp[look]at a,fun _ k o a=>by simp[look]at a⟩
  refine⟨rfl,fun k a=>.inr (.inr (.inl ⟨rfl,?_,?_⟩)),fun k a=>.inr (.inr (.inl ⟨rfl,?_,?_⟩)),fun k a=>.inr ⟨.inl rfl,(l.2.2.2.2 k a).1,(l.2.2.2.2 k a).2.2.2.2⟩,fun e=>by simp[et.mode]at e,fun e=>by simp[et.mode]at e⟩
  ·cases k with
   |loc m=>rw[al.1 m]at a;cases a
   |obj m=>exact⟨m,rfl⟩
  ·cases q with
   |false=>rfl
   |true=>rw[(j rfl).1]at a;simp[look]at a
  ·cases k with
   |loc m=>rw[al.2 m]at a;cases a
   |obj m=>exact⟨m,rfl⟩
  ·cases q with
   |false=>rfl
   |true=>rw[(j rfl).2]at a;simp[look]at a
def Q1{P:cE}{q:Bool}{n0:Nat}{i:et}{A A':dA}{x:lM}(h:dZ P q n0 i A x)(aM:rY i.looks A.t A'.t)
  (W:i.mode= .l->∀k,(q=true\/ ∃m,k= .loc m)->A.b k≠none->A'.b k=A.b k) (S:i.mode= .m->∀k,A.b k≠none->A'.b k=A.b k)
  (Z:i.mode= .l->q=true->∀k o,A.e k=some o->o.xs≠none->A'.e k=some o)
  (D:∀d,i.dst=some d->(i.mode= .n\/i.mode= .s\/i.mode= .a\/i.mode= .c)->(A.F (.loc (n0+d))/\A.b (.loc (n0+d))=none/\A.e (.loc (n0+d))=none)->(A'.F (.loc (n0+d))/\A'.b (.loc (n0+d))=none/\A'.e (.loc (n0+d))=none))
  (bD:i.mode= .a->∀k o,A.e k=some o->A'.e k=some o) (hw:i.mode= .w->∀k,A'.b k=A.b k) (R:i.mode= .z->(∀m,(A.F (.obj m)/\A.b (.obj m)=none/\A.e (.obj m)=none)->(A'.F (.obj m)/\A'.b (.obj m)=none/\A'.e (.obj m)=none))/\∀k,A'.e k=A.e k) (N:i.mode= .k->∀m,(A.F (.obj m)/\A.b (.obj m)=none/\A.e (.obj m)=none)->(A'.F (.obj m)/\A'.b (.obj m)=none/\A'.e (.obj m)=none)) (X:i.mode= .r->∀k o,A.e k=some o->o.xs≠none->A'.e k=some o)
  (aA:i.mode= .c->∀m,A'.b (.obj m)=A.b (.obj m)/\A'.e (.obj m)=A.e (.obj m)/\(A.F (.obj m)->A'.F (.obj m))):dZ P q n0 i A' x:=by
 cases i with
 |s i=>
  cases i with
  |v d i=>
   simp only[dZ]at h⊢;obtain⟨c,p,J,U,g,w⟩:=h;by_cases hB:∃agg sz y,i= .loadB agg sz y
   ·obtain⟨agg,sz,y,rfl⟩:=hB;simp only[et.looks,ep.looks,gy.looks]at aM;have E:=gF aM;refine⟨c,p,?_,U,fun _=>.inl rfl,w⟩;rw[<-J];simp only[q0,<-E];have hm:=S (by simp[et.mode]);simp only[q0]at J;cases t:dF A.t y<;>simp only[tG];rename_i key off;rw[t]at J;simp only[tG]at J;cases ae:A.b key with
    |none=>simp[ae]at J
    |some cs=>have:A'.b key=A.b key:=hm key (by rw[ae];simp);rw[this,ae]
   by_cases G:∃F zero ok y z,i= .mgetB F zero ok y z
   ·obtain⟨F,zero,ok,y,z,rfl⟩:=G;simp only[et.looks,ep.looks,gy.looks]at aM;obtain⟨t1,t2⟩:=kW aM;refine⟨c,p,?_,U,fun _=>.inl rfl,w⟩;simp only[q0]at J⊢;rw[<-gF t1,<-gF t2];exact Yv (S (by simp[et.mode])) J
   replace g:i.isLoad=true->q=true\/zM (i.ptrOf A.t)=true:=fun a=>(g a).resolve_left (fun ae=>by cases i<;>simp[gy.isB]at ae;exact hB ⟨_,_,_,rfl⟩;exact G ⟨_,_,_,_,_,rfl⟩);have M:i.isLoad=true->(et.s (.v d i)).mode= .l:=by intro a;cases i<;>simp only[gy.isLoad]at a<;>first|(cases a;done)|(simp[et.mode,gy.isLoad];done)|exact absurd ⟨_,_,_,rfl⟩ hB|exact absurd ⟨_,_,_,_,_,rfl⟩ G
   by_cases a:i.isLoad=true
   ·have L:∀(t:zM (i.ptrOf A.t)=false),∀k,A.b k≠none->A'.b k=A.b k:=fun t k b=>W (M a) k (.inl ((g a).resolve_right (by rw[t];simp))) b;cases i<;>simp only[gy.isLoad]at a<;>try(cases a;done)
    case mget F zero ok y z=>simp only[et.looks,ep.looks,gy.looks]at aM;obtain⟨t1,t2⟩:=kW aM;refine⟨c,p,?_,U,fun _=>.inr (g rfl),w⟩;simp only[q0]at J⊢;rw[<-gF t1,<-gF t2];exact Yv (L rfl) J
    case ment y=>simp only[et.looks,ep.looks,gy.looks]at aM;refine⟨c,p,?_,U,fun _=>.inr (g rfl),w⟩;simp only[q0]at J⊢;rw[<-gF aM];exact al8 (L rfl) J
    case mlen y=>simp only[et.looks,ep.looks,gy.looks]at aM;refine⟨c,p,?_,U,fun _=>.inr (g rfl),w⟩;simp only[q0]at J⊢;rw[<-gF aM];exact amt (L rfl) J
    case loadB agg sz y=>exact absurd ⟨_,_,_,rfl⟩ hB
    case mgetB=>exact absurd ⟨_,_,_,_,_,rfl⟩ G
    rename_i agg sz y;simp only[et.looks,ep.looks,gy.looks]at aM;have E:=gF aM;refine⟨c,p,?_,U,fun _=>.inr (by have:=g rfl;simpa only[gy.ptrOf,<-E]using this),w⟩;rw[<-J];simp only[q0,<-E];have hm:=W (by simp[et.mode,gy.isLoad]);simp only[q0]at J;have B:=g rfl;simp only[gy.ptrOf]at B;cases t:dF A.t y<;>simp only[tG]
    ·rename_i key off;rw[t]at J B;simp only[tG]at J;cases ae:A.b key with
     |none=>simp[ae]at J
     |some cs=>have:A'.b key=A.b key:=hm key (by rcases B with h|h;exact .inl h;cases key;exact .inr ⟨_,rfl⟩;simp[zM]at h) (by rw[ae];simp);rw[this,ae]
    ·rename_i V key n i f;rw[t]at J B;simp only[tG]at J;have H3:q=true:=B.resolve_right (by simp[zM]);unfold Ap at J;split at J
     ·rename_i n' el iK xs he;rw[he,Z (by simp[et.mode,gy.isLoad]) H3 key _ he Ψ]
     ·cases J
   ·have a:i.isLoad=false:=by simpa using a
    refine⟨c,p,?_,U,(fun e=>by rw[a]at e;cases e),w⟩;rw[<-J];exact(arW (by simpa only[et.looks,ep.looks]using aM) a).symm
  |box d key v=>
   cases key with
   |some m=>simp only[dZ]at h
   |none=>simp only[dZ,et.looks,ep.looks]at h aM⊢;obtain⟨J,U,g⟩:=h;rw[<-gF aM];exact⟨D d rfl (.inl rfl) J,U,g⟩
  |alloc d key z=>
   cases key with
   |some m=>simp only[dZ]at h
   |none=>simp only[dZ]at h⊢;exact⟨D d rfl (.inl rfl) h.1,h.2⟩
  |store sz u v=>simp only[dZ,et.looks,ep.looks]at h aM⊢;obtain⟨J,U⟩:=kW aM;rw[<-gF J,<-gF U];obtain⟨k,off,cs,g1,g2,g3,g4⟩:=h;exact⟨k,off,cs,g1,by rw[hw rfl];exact g2,g3,g4⟩
  |bsl d sz el xs=>simp only[dZ,et.looks,ep.looks]at h aM⊢;rw[<-E7 aM];exact⟨D d rfl (.inr (.inl rfl)) h.1,h.2⟩
  |app d sz el u v=>
   simp only[dZ,et.looks,ep.looks]at h aM⊢;obtain⟨J,U⟩:=kW aM;rw[<-gF J,<-gF U];obtain⟨tag,xs,l,ys,g1,g2,h⟩:=h;refine⟨tag,xs,l,ys,g1,g2,?_⟩;rcases h with⟨k,o,O,Q,H⟩|⟨O,Q,H,cY⟩
   ·exact .inl ⟨k,o,O,bD rfl k o Q,H⟩
   ·exact .inr ⟨O,Q,D d rfl (.inr (.inr (.inl rfl))) H,cY⟩
  |bslm d key sz el xs=>
   cases key with
   |none=>simp only[dZ]at h
   |some m=>simp only[dZ,et.looks,ep.looks]at h aM⊢;rw[<-E7 aM];exact⟨(R rfl).1 m h.1,h.2⟩
  |mks d key sz el z x=>simp only[dZ]at h
  |apps d el x y=>simp only[dZ]at h
  |appm d key sz el u v=>
   cases key with
   |none=>simp only[dZ,et.looks,ep.looks]at h aM⊢;obtain⟨J,U⟩:=kW aM;rw[<-gF J,<-gF U];obtain⟨k,n,xs,l,ys,g1,g2,g3,g4,g5⟩:=h;exact⟨k,n,xs,l,ys,g1,g2,X rfl k _ g3 Ψ,g4,g5⟩
   |some m=>
    simp only[dZ,et.looks,ep.looks]at h aM⊢;obtain⟨J,U⟩:=kW aM;rw[<-gF J,<-gF U];rcases h with⟨k,n,xs,l,ys,g1,g2,g3,g4,g5⟩|⟨xs,l,ys,g1,g2,g3,g4⟩
    ·exact .inl ⟨k,n,xs,l,ys,g1,g2,by rw[(R rfl).2];exact g3,g4,g5⟩
    ·exact .inr ⟨xs,l,ys,g1,g2,(R rfl).1 m g3,g4⟩
  |storeE sz u v=>simp only[dZ,et.looks,ep.looks]at h aM⊢;obtain⟨J,U⟩:=kW aM;rw[<-gF J,<-gF U];obtain⟨k,n,i,f,el,V,xs,q,g1,g2,g3⟩:=h;exact⟨k,n,i,f,el,V,xs,q,g1,X rfl k _ g2 Ψ,g3⟩
  |mkmap d key=>
   cases key with
   |none=>simp only[dZ]at h
   |some m=>simp only[dZ]at h⊢;exact⟨N rfl m h.1,h.2⟩
  |mput F u k v=>simp only[dZ,et.looks,ep.looks]at h aM⊢;obtain⟨t1,t3⟩:=kW aM;obtain⟨t1,t2⟩:=kW t1;obtain⟨m,cs,cs',g1,g2,g3,g4⟩:=h;rw[<-gF t1,<-gF t2,<-gF t3];exact⟨m,cs,cs',g1,by rw[hw rfl];exact g2,g3,g4⟩
  |range d key x=>simp only[dZ]at h
 |next d x=>simp only[dZ]at h
 |opn d f x=>simp only[dZ]at h
 |callb d f=>simp only[dZ]at h
 |call d f xs=>
  simp only[dZ,et.looks]at h aM⊢;obtain⟨J,U⟩:=kW aM;rw[<-gF J,<-E7 U];obtain⟨n,cW,g1,h⟩:=h;rcases h with⟨⟨s,aj,r,rm,K,c2,c3,c4,c5,Y⟩,g3⟩|⟨cX,r,rfl,K,c2⟩;rotate_left
  ·exact⟨n,cW,g1,.inr ⟨cX,r,rfl,D cX rfl (.inr (.inr (.inr rfl))) K,c2⟩⟩
  refine⟨n,cW,g1,.inl ⟨⟨s,aj,r,rm,fun k cs b=>?_,fun k o b=>?_,c3,c4,⟨c5.1,c5.2.1,c5.2.2.1,c5.2.2.2.1,fun k b=>?_⟩,Y⟩,g3⟩⟩
  ·cases k with
   |loc m=>rw[c3.1 m]at b;cases b
   |obj m=>rw[(aA rfl m).1];exact K _ _ b
  ·cases k with
   |loc m=>rw[c3.2 m]at b;cases b
   |obj m=>rw[(aA rfl m).2.1];exact c2 _ _ b
  ·obtain⟨⟨j,rfl⟩,d2,d3,d4,d5⟩:=c5.2.2.2.2 k b;exact⟨⟨j,rfl⟩,(aA rfl j).2.2 d2,by rw[(aA rfl j).1];exact d3,by rw[(aA rfl j).2.1];exact d4,d5⟩
def mq(d:aZ Nat):lM:=⟨d,.tuple [],[],[],none⟩
def lN(P:cE)(q:Bool)(n0:Nat)(g:ds)(A:dA)(x:lM):Prop:=
 match g.g with
 |none=>dZ P q n0 g.i A x
 |some (s,w)=>match A.t s with
  | .bool b=>(b=w/\dZ P q n0 g.i A x)\/(b= !w/\x=mq g.i.dst)
  | .tuple []=>x=mq g.i.dst
  |_=>eF
def eZ:C6->C6->Bool
 | .v,_=>true
 |_,.v=>true
 | .l,.l| .l,.n| .l,.s| .l,.a| .l,.c=>true
 | .n,.n| .n,.s| .n,.a| .n,.c=>true
 | .s,.l| .s,.n| .s,.s| .s,.c=>true
 | .a,.l| .a,.n| .a,.s=>true
 | .c,.l| .c,.n| .c,.s=>true
 | .l,.m| .m,.l| .m,.m| .m,.n| .m,.s| .m,.a| .s,.m| .a,.m=>true
 | .l,.k| .m,.k| .n,.k| .s,.k=>true
 | .m,.r| .r,.m| .r,.n| .r,.s| .n,.r| .s,.r| .r,.w| .w,.r=>true
 | .m,.z| .z,.m| .z,.n=>true
 |_,_=>false
def Bo(g h:ds):Bool:=(match g.i.dst with|some d=> !(h.looks.contains d)&&h.i.dst !=some d|none=>true)&&(match h.i.dst with|some d=> !(g.looks.contains d)|none=>true)&&eZ g.i.mode h.i.mode
def abj(q:Bool)(n0:Nat)(m:C6)(d:aZ Nat)(A:dA):Ky q n0 m d A (mq d):=⟨rfl,fun k a=>by simp[mq,look]at a,fun k a=>by simp[mq,look]at a,fun k a=>by simp[mq]at a,fun _ k o a=>by simp[mq,look]at a,fun _ k o a=>by simp[mq,look]at a⟩
def Qm{P:cE}{q:Bool}{n0:Nat}{g:ds}{A:dA}{x:lM}(h:lN P q n0 g A x):Ky q n0 g.i.mode g.i.dst A x:=by
 unfold lN at h;split at h
 ·exact abi h
 ·split at h
  ·rcases h with⟨_,h⟩|⟨_,rfl⟩
   ·exact abi h
   ·exact abj _ _ _ _ _
  ·subst h;exact abj _ _ _ _ _
  ·exact h.elim
def sZ{A:dA}{x:lM}{k:aB}(h:look k x.bw=none):(A.do x).b k=A.b k:=by simp[dA.do,jo,h]
def q6{A:dA}{x:lM}{k:aB}(h:look k x.ew=none):(A.do x).e k=A.e k:=by simp[dA.do,jo,h]
def Ha{A:dA}{x:lM}{k:aB}(h:(A.do x).b k=none):A.b k=none:=by
 simp only[dA.do,jo]at h;split at h
 ·cases h
 ·exact h
def Hb{A:dA}{x:lM}{k:aB}(h:(A.do x).e k=none):A.e k=none:=by
 simp only[dA.do,jo]at h;split at h
 ·cases h
 ·exact h
def k7{α:Type}{o:aZ α}(h:¬o.isSome):o=none:=by cases o<;>simp at h⊢
def Q3{P:cE}{q:Bool}{n0:Nat}{g:ds}{A A':dA}{x:lM}(h:lN P q n0 g A x)(aM:rY g.looks A.t A'.t)(hm:dZ P q n0 g.i A x->dZ P q n0 g.i A' x):lN P q n0 g A' x:=by
 unfold lN at h⊢;cases a1:g.g with
 |none=>simp only[a1]at h⊢;exact hm h
 |some a=>
  obtain⟨s,w⟩:=a;have:A.t s=A'.t s:=aM s (by simp[ds.looks,a1]);simp only[a1,this]at h⊢;split at h
  ·rcases h with⟨J,U⟩|h
   ·exact .inl ⟨J,hm U⟩
   ·exact .inr h
  ·exact h
  ·exact h
def swap{P:cE}{q:Bool}{n0:Nat}{g h:ds}(U:Bo g h=true){A:dA}{x y:lM}(R:lN P q n0 g A x)(X:lN P q n0 h (A.do x) y):
  lN P q n0 h A y/\lN P q n0 g (A.do y) x/\x.apart y:=by
 simp only[Bo,cD]at U;obtain⟨⟨G,O⟩,hm⟩:=U;have B:=Qm R;have w:∀d l,g.i.dst=some d->h.i.dst=some l->d≠l:=by intro d l a b e;simp only[a,cD,bne_iff_ne]at G;exact G.2 (by rw[b,e])
 have W:rY h.looks (A.do x).t A.t:=by intro i hi;simp only[dA.do];rw[if_neg];intro e;rw[B.d]at e;simp only[e,cD,Bool.not_eq_true',List.contains_eq_mem,hb]at G;exact G.1 hi
 have E:∀k,(look k x.bw).isSome->_:=B.b;have hle:∀k,(look k x.ew).isSome->_:=B.e;have S:lN P q n0 h A y:=by
  refine Q3 X W fun H=>Q1 H (fun i hi=>W i (by simp[ds.looks,hi])) (fun e k r ae=>?_) (fun e k ae=>?_) (fun e K k o al D=>?_) (fun d F M f=>?_) (fun e k o al=>?_) (fun e k=>?_) (fun e=>⟨fun m f=>⟨f.1.1,Ha f.2.1,Hb f.2.2⟩,fun k=>?_⟩) (fun e m f=>⟨f.1.1,Ha f.2.1,Hb f.2.2⟩) (fun e k o al D=>?_) (fun e m=>?_)
  ·rw[sZ (k7 fun c=>?_)];rcases E k c with⟨a,_⟩|a|⟨a,⟨j,b⟩,n⟩|⟨a,_⟩;rotate_left 3
   ·rw[e,a]at hm;simp[eZ]at hm
   ·rw[e,a]at hm;simp[eZ]at hm
   ·rw[e,a]at hm;simp[eZ]at hm
   ·rcases r with r|⟨m,r⟩
    ·rw[r]at n;cases n
    ·rw[r]at b;cases b
  ·rw[sZ (k7 fun c=>?_)];rcases E k c with⟨a,_⟩|a|⟨a,_⟩|⟨a,_⟩<;>(rw[e,a]at hm;simp[eZ]at hm)
  ·rw[e]at hm;cases t:look k x.ew with
   |none=>rw[q6 t]at al;exact al
   |some o'=>
    exfalso;have L:(A.do x).e k=some o':=by simp[dA.do,jo,t]
    rw[L]at al;cases al;rcases hle k (by simp[t])with⟨a,_⟩|⟨a,_⟩|⟨a,_,n⟩|⟨a,_⟩|a
    ·exact D (B.xn (.inr a) k _ t)
    ·exact D (B.xn (.inl a) k _ t)
    ·rw[K]at n;cases n
    ·rw[a]at hm;simp[eZ]at hm
    ·rw[a]at hm;simp[eZ]at hm
  ·exact⟨f.1.1,Ha f.2.1,Hb f.2.2⟩
  ·rw[q6 (k7 fun c=>?_)]at al
   ·exact al
   ·rw[e]at hm;rcases hle k c with⟨a,_⟩|⟨a,_⟩|⟨a,_⟩|⟨a,_⟩|a<;>(rw[a]at hm;simp[eZ]at hm)
  ·rw[sZ (k7 fun c=>?_)];rw[e]at hm;rcases E k c with⟨a,_⟩|a|⟨a,_⟩|⟨a,_⟩<;>(rw[a]at hm;simp[eZ]at hm)
  ·rw[q6 (k7 fun c=>?_)];rw[e]at hm;rcases hle k c with⟨a,_⟩|⟨a,_⟩|⟨a,_⟩|⟨a,_⟩|a<;>(rw[a]at hm;simp[eZ]at hm)
  ·rw[e]at hm;cases t:look k x.ew with
   |none=>rw[q6 t]at al;exact al
   |some o'=>
    exfalso;have L:(A.do x).e k=some o':=by simp[dA.do,jo,t]
    rw[L]at al;cases al;rcases hle k (by simp[t])with⟨a,_⟩|⟨a,_⟩|⟨a,_⟩|⟨a,_⟩|a
    ·exact D (B.xn (.inr a) k _ t)
    ·rw[a]at hm;simp[eZ]at hm
    ·rw[a]at hm;simp[eZ]at hm
    ·rw[a]at hm;simp[eZ]at hm
    ·rw[a]at hm;simp[eZ]at hm
  ·rw[e]at hm;refine⟨?_,?_,fun J=>J.1⟩
   ·rw[sZ (k7 fun c=>?_)];rcases E _ c with⟨a,d,_,b,_⟩|a|⟨a,_⟩|⟨a,_⟩;rotate_left 3
    ·rw[a]at hm;simp[eZ]at hm
    ·cases b
    ·rw[a]at hm;simp[eZ]at hm
    ·rw[a]at hm;simp[eZ]at hm
   ·rw[q6 (k7 fun c=>?_)];rcases hle _ c with⟨a,d,_,b,_⟩|⟨a,_⟩|⟨a,_⟩|⟨a,_⟩|a
    ·cases b
    ·rw[a]at hm;simp[eZ]at hm
    ·rw[a]at hm;simp[eZ]at hm
    ·rw[a]at hm;simp[eZ]at hm
    ·rw[a]at hm;simp[eZ]at hm
 have ty:=Qm S;have V:rY g.looks A.t (A.do y).t:=by intro i hi;simp only[dA.do];rw[if_neg];intro e;rw[ty.d]at e;simp only[e,Bool.not_eq_true',List.contains_eq_mem,hb]at O;exact O hi
 refine⟨S,?_,?_⟩
 ·refine Q3 R V fun H=>Q1 H (fun i hi=>V i (by simp[ds.looks,hi])) (fun e k r ae=>?_) (fun e k ae=>?_) (fun e K k o al D=>?_) (fun d F M f=>?_) (fun e k o al=>?_) (fun e k=>?_) (fun e=>⟨fun m f=>?_,fun k=>?_⟩) (fun e m f=>?_) (fun e k o al D=>?_) (fun e m=>?_)
  ·refine sZ (k7 fun c=>?_);rcases ty.b k c with⟨a,d,_,_,b,_⟩|a|⟨a,⟨j,b⟩,n⟩|⟨_,_,b,_⟩;rotate_left 3
   ·exact ae b
   ·exact ae b
   ·rw[e,a]at hm;simp[eZ]at hm
   ·rcases r with r|⟨m,r⟩
    ·rw[r]at n;cases n
    ·rw[r]at b;cases b
  ·refine sZ (k7 fun c=>?_);rcases ty.b k c with⟨a,d,_,_,b,_⟩|a|⟨a,_⟩|⟨_,_,b,_⟩;rotate_left 3
   ·exact ae b
   ·exact ae b
   ·rw[e,a]at hm;simp[eZ]at hm
   ·rw[e,a]at hm;simp[eZ]at hm
  ·rw[q6 (k7 fun c=>?_)]
   ·exact al
   ·rcases ty.e k c with⟨a,d,_,_,_,b⟩|⟨a,b⟩|⟨a,_,n⟩|⟨a,_⟩|a
    ·rw[b]at al;cases al
    ·exact D (ty.ex a k o c al)
    ·rw[K]at n;cases n
    ·rw[e,a]at hm;simp[eZ]at hm
    ·rw[e,a]at hm;simp[eZ]at hm
  ·refine⟨⟨f.1,fun z=>?_⟩,?_,?_⟩
   ·rcases ty.r _ z with⟨l,a,b⟩|⟨_,⟨j,b⟩,_⟩
    ·simp only[aB.loc.injEq]at b;exact w d l F a Ω
    ·cases b
   ·rw[sZ (k7 fun c=>?_)]
    ·exact f.2.1
    ·rcases ty.b _ c with⟨a,l,b,n,_⟩|a|⟨a,⟨j,b⟩,_⟩|⟨a,⟨j,b⟩,_⟩;rotate_left 3
     ·cases b
     ·simp only[aB.loc.injEq]at n;exact w d l F b Ω
     ·rcases M with b|b|b|b<;>(rw[a,b]at hm;simp[eZ]at hm)
     ·cases b
   ·rw[q6 (k7 fun c=>?_)]
    ·exact f.2.2
    ·rcases ty.e _ c with⟨a,l,b,n,_⟩|⟨a,b⟩|⟨a,⟨j,b⟩,_⟩|⟨a,o,b,_⟩|a;rotate_left 4
     ·rcases M with b|b|b|b<;>(rw[a,b]at hm;simp[eZ]at hm)
     ·simp only[aB.loc.injEq]at n;exact w d l F b Ω
     ·rcases b with b|⟨l,b,n,_⟩
      ·exact b f.2.2
      ·simp only[aB.loc.injEq]at n;exact w d l F b Ω
     ·cases b
     ·rw[f.2.2]at b;cases b
  ·rw[q6 (k7 fun c=>?_)]
   ·exact al
   ·rw[e]at hm;rcases ty.e k c with⟨a,d,_,_,_,b⟩|⟨a,_⟩|⟨a,_⟩|⟨a,_⟩|a
    ·rw[b]at al;cases al
    ·rw[a]at hm;simp[eZ]at hm
    ·rw[a]at hm;simp[eZ]at hm
    ·rw[a]at hm;simp[eZ]at hm
    ·rw[a]at hm;simp[eZ]at hm
  ·refine sZ (k7 fun c=>?_);rw[e]at hm;rcases ty.b k c with⟨a,_⟩|a|⟨a,_⟩|⟨a,_⟩<;>(rw[a]at hm;simp[eZ]at hm)
  ·rw[e]at hm;refine⟨⟨f.1,fun z=>?_⟩,?_,?_⟩
   ·rcases ty.r _ z with⟨l,a,b⟩|⟨a|a|a,_⟩
    ·cases b
    ·rw[a]at hm;simp[eZ]at hm
    ·rw[a]at hm;simp[eZ]at hm
    ·rw[a]at hm;simp[eZ]at hm
   ·rw[sZ (k7 fun c=>?_)]
    ·exact f.2.1
    ·rcases ty.b _ c with⟨a,d,_,b,_⟩|a|⟨a,_⟩|⟨a,_⟩
     ·cases b
     all_goals(rw[a]at hm;simp[eZ]at hm)
   ·rw[q6 (k7 fun c=>?_)]
    ·exact f.2.2
    ·rcases ty.e _ c with⟨a,_⟩|⟨a,_⟩|⟨a,_⟩|⟨a,_⟩|a<;>(rw[a]at hm;simp[eZ]at hm)
  ·rw[q6 (k7 fun c=>?_)];rw[e]at hm;rcases ty.e _ c with⟨a,_⟩|⟨a,_⟩|⟨a,_⟩|⟨a,_⟩|a<;>(rw[a]at hm;simp[eZ]at hm)
  ·rw[e]at hm;refine⟨⟨f.1,fun z=>?_⟩,?_,?_⟩
   ·rcases ty.r _ z with⟨l,a,b⟩|⟨a|a|a,_⟩
    ·cases b
    ·rw[a]at hm;simp[eZ]at hm
    ·rw[a]at hm;simp[eZ]at hm
    ·rw[a]at hm;simp[eZ]at hm
   ·rw[sZ (k7 fun c=>?_)]
    ·exact f.2.1
    ·rcases ty.b _ c with⟨a,_⟩|a|⟨a,_⟩|⟨a,_⟩<;>(rw[a]at hm;simp[eZ]at hm)
   ·rw[q6 (k7 fun c=>?_)]
    ·exact f.2.2
    ·rcases ty.e _ c with⟨a,_⟩|⟨a,_⟩|⟨a,_⟩|⟨a,o,b,_⟩|a
     ·rw[a]at hm;simp[eZ]at hm
     ·rw[a]at hm;simp[eZ]at hm
     ·rw[a]at hm;simp[eZ]at hm
     ·rw[f.2.2]at b;cases b
     ·rw[a]at hm;simp[eZ]at hm
  ·rw[q6 (k7 fun c=>?_)]
   ·exact al
   ·rw[e]at hm;rcases ty.e k c with⟨a,d,_,_,_,b⟩|⟨a,_⟩|⟨a,_⟩|⟨a,_⟩|a
    ·rw[b]at al;cases al
    ·rw[a]at hm;simp[eZ]at hm
    ·rw[a]at hm;simp[eZ]at hm
    ·rw[a]at hm;simp[eZ]at hm
    ·rw[a]at hm;simp[eZ]at hm
  ·rw[e]at hm;refine⟨?_,?_,fun J=>⟨J,fun z=>?_⟩⟩;rotate_left 2
   ·rcases ty.r _ z with⟨l,_,b⟩|⟨b|b|b,_⟩
    ·cases b
    ·rw[b]at hm;simp[eZ]at hm
    ·rw[b]at hm;simp[eZ]at hm
    ·rw[b]at hm;simp[eZ]at hm
   ·refine sZ (k7 fun c=>?_);rcases ty.b _ c with⟨a,d,_,b,_⟩|a|⟨a,_⟩|⟨a,_⟩;rotate_left 3
    ·rw[a]at hm;simp[eZ]at hm
    ·cases b
    ·rw[a]at hm;simp[eZ]at hm
    ·rw[a]at hm;simp[eZ]at hm
   ·refine q6 (k7 fun c=>?_);rcases ty.e _ c with⟨a,d,_,b,_⟩|⟨a,_⟩|⟨a,_⟩|⟨a,_⟩|a
    ·cases b
    ·rw[a]at hm;simp[eZ]at hm
    ·rw[a]at hm;simp[eZ]at hm
    ·rw[a]at hm;simp[eZ]at hm
    ·rw[a]at hm;simp[eZ]at hm
 ·refine⟨fun i hi e=>?_,fun k r=>k7 fun c=>?_,fun k r=>k7 fun c=>?_⟩
  ·rw[B.d]at hi;rw[ty.d]at e;exact w i i hi e rfl
  ·rcases E k r with⟨v,d,a2,a3,_⟩|v|⟨v,⟨j,a2⟩,_⟩|⟨v,_⟩<;>rcases ty.b k c with⟨u,l,p,s,_⟩|u|⟨u,⟨Q,p⟩,_⟩|⟨u,⟨Q,p⟩,_⟩;all_goals first|(rw[v,u]at hm;simp[eZ]at hm;done)|skip
   ·rw[a3]at s;simp only[aB.loc.injEq]at s;exact w d l a2 p Ω
   ·rw[a3]at p;cases p
   ·rw[a3]at p;cases p
   ·rw[a2]at s;cases s
  ·rcases hle k r with⟨v,d,a2,a3,_,a4⟩|⟨v,a2⟩|⟨v,⟨j,a2⟩,_⟩|⟨v,Z,a2,_⟩|v<;>rcases ty.e k c with⟨u,l,p,s,_,N⟩|⟨u,p⟩|⟨u,⟨Q,p⟩,_⟩|⟨u,Y,p,_⟩|u;all_goals first|(rw[v,u]at hm;simp[eZ]at hm;done)|skip
   ·rw[a3]at s;simp only[aB.loc.injEq]at s;exact w d l a2 p Ω
   ·rw[a3]at p;cases p
   ·rw[a4]at p;cases p
   ·rcases a2 with a2|⟨d,a2,a3,_⟩
    ·exact a2 N
    ·rw[a3]at s;simp only[aB.loc.injEq]at s;exact w d l a2 p Ω
   ·rw[a2]at s;cases s
   ·rw[N]at a2;cases a2
def yE(C:fb)(A:dA)(a:Act)(w:World):Prop:= ∃st Z,mw st A/\(∀k,A.F k->fresh st.n st.o k)/\cZ C st a w Z
def NN{st:bn}{A:dA}(h:mw st A)(d:Nat)(p:ah):mw {st with t:=put d p st.t} (A.do ⟨some d,p,[],[],none⟩):=by
 refine⟨fun i=>?_,fun k=>?_,fun k=>?_⟩
 ·simp only[dA.do,pS,dz,h.t]
 ·simpa[dA.do,jo,look]using h.b k
 ·simpa[dA.do,jo,look]using h.e k
def Yd{st:bn}{A:dA}(h:mw st A)(d:Nat)(p:ah)(o':List aB)(rm:aZ aB):mw {st with t:=put d p st.t,o:=o'} (A.do ⟨some d,p,[],[],rm⟩):=by have:=NN h d p;exact⟨this.t,this.b,this.e⟩
def acf{α:Type}{β:Type}:∀l:List (aB×α),bW ([]:List (aB×β)) l=l
 |[]=>rfl
 |(k,x)::r=>by simp[bW,look,acf r]
def B9{st:bn}{A:dA}(h:mw st A)(d:Nat)(p:ah)(κ:aB)(cs:List ah)(n':Nat)(o':List aB)(rm:aZ aB):mw ⟨put d p st.t,cG κ cs st.b,st.e,n',o'⟩ (A.do ⟨some d,p,[(κ,cs)],[],rm⟩):=by
 refine⟨fun i=>?_,fun k=>?_,fun k=>?_⟩
 ·simp only[dA.do,pS,dz,h.t]
 ·simp only[dA.do,jo,look,jL,h.b];by_cases e:κ=k<;>simp[e]
 ·simpa[dA.do,jo,look]using h.e k
def IB{st:bn}{A:dA}(h:mw st A)(κ:aB)(cs:List ah)(p:ah):mw {st with b:=cG κ cs st.b} (A.do ⟨none,p,[(κ,cs)],[],none⟩):=by
 refine⟨fun i=>?_,fun k=>?_,fun k=>?_⟩
 ·simpa[dA.do]using h.t i
 ·simp only[dA.do,jo,look,jL,h.b];by_cases e:κ=k<;>simp[e]
 ·simpa[dA.do,jo,look]using h.e k
def qM{st:bn}{A:dA}(h:mw st A)(d:Nat)(p:ah)(κ:aB)(o:er)(n':Nat)(o':List aB)(rm:aZ aB):mw ⟨put d p st.t,st.b,cG κ o st.e,n',o'⟩ (A.do ⟨some d,p,[],[(κ,o)],rm⟩):=by
 refine⟨fun i=>?_,fun k=>?_,fun k=>?_⟩
 ·simp only[dA.do,pS,dz,h.t]
 ·simpa[dA.do,jo,look]using h.b k
 ·simp only[dA.do,jo,look,jL,h.e];by_cases e:κ=k<;>simp[e]
def Yc{st:bn}{A:dA}(h:mw st A)(κ:aB)(o:er)(p:ah):mw {st with e:=cG κ o st.e} (A.do ⟨none,p,[],[(κ,o)],none⟩):=by
 refine⟨fun i=>?_,fun k=>?_,fun k=>?_⟩
 ·simpa[dA.do]using h.t i
 ·simpa[dA.do,jo,look]using h.b k
 ·simp only[dA.do,jo,look,jL];by_cases e:κ=k<;>simp[e,h.e]
def N5{α:Type}{k:aB}:∀{l:List (aB×α)},k∈l.map (·.1)->(look k l).isSome
 |[],h=>by simp at h
 |(i,x)::r,h=>by
  simp only[look];split
  ·rfl
  ·rename_i e;simp only[fG,gj]at h;rcases h with h|h
   ·exact absurd h.symm e
   ·exact N5 h
def uD{n:Nat}{o:List aB}{κ:aB}:∀j,fresh n (κ::o) j->fresh n o j/\j≠κ:=by intro j a;simp only[fresh,gj,not_or]at a⊢;exact⟨⟨a.1,a.2.2⟩,a.2.1⟩
def ah9{n:Nat}{o:List aB}{κ j:aB}(h:fresh n o j)(a:some κ≠some j):fresh n (κ::o) j:=by simp only[fresh,gj,not_or]at h⊢;exact⟨h.1,fun e=>a (by rw[e]),h.2⟩
def Q2{P:cE}{aT:List (Nat×eJ)}(aM:hl P aT=true){C:fb}{q:Bool}{n0:Nat}{i:et}{o:Oper}(al:tS C.N aT i o=true){A:dA}{x:lM}(j:dZ P q n0 i A x){a:Act}{w:World}(D:yE C A a w)
  {K:Act->World->Prop} {Q:Exit->Act->World->Prop} (G:∀bu w',yE C (A.do x) bu w'->K bu w'):o.wp P a w K Q:=by
 obtain⟨st,Z,g,E,D⟩:=D;have xz:∀(t:List (Nat×ah)) (b:List (aB×List ah)) (e:List (aB×er)) (d:aZ Nat) (p:ah) (bw:List (aB×List ah)) (ew:List (aB×er)),∀k,(A.do ⟨d,p,bw,ew,none⟩).F k->fresh st.n st.o k:=fun t b e d p bw ew k l=>E k l.1;have O:∀(d:aZ Nat) (p:ah) (bw:List (aB×List ah)) (ew:List (aB×er)) (κ:aB),∀k,(A.do ⟨d,p,bw,ew,some κ⟩).F k->fresh st.n (κ::st.o) k:=fun d p bw ew κ k l=>ah9 (E k l.1) l.2;cases i with
 |s i=>
  have H:sA C.N aT i o=true:=by simpa only[tS]using al
  cases i with
  |v d i=>simp only[dZ]at j;obtain⟨c,p,J,U,_,rfl⟩:=j;rw[<-abo g]at J;refine jO (κ:= .loc 0) (n':=0) (o₁:=[]) aM D H (fun h=>by simp[ep.makes]at h) (fun h=>by simp[ep.makes]at h) (st':={st with t:=put d p st.t}) (by simp only[eP,J]) U fun bu w' Z' B=>G _ _ ⟨_,Z',NN g d p,fun k l=>E k l.1,B⟩
  |box d key v=>
   cases key with
   |some m=>simp only[dZ]at j
   |none=>simp only[dZ]at j;obtain⟨⟨J,_⟩,U,rfl⟩:=j;rw[<-iD g]at U;refine jO (κ:= .loc (n0+d)) (n':=st.n) (o₁:= .loc (n0+d)::st.o) aM D H (fun _=>E _ J) (fun _=>uD) (st':=⟨put d (.ptr (.loc (n0+d)) 0) st.t,cG (.loc (n0+d)) (cells (cg st.t v)) st.b,st.e,st.n,.loc (n0+d)::st.o⟩) pl U fun bu w' Z' B=>G _ _ ⟨_,Z',?_,O _ _ _ _ _,B⟩;rw[iD g];exact B9 g d _ _ _ _ _ _
  |alloc d key z=>
   cases key with
   |some m=>simp only[dZ]at j
   |none=>simp only[dZ]at j;obtain⟨⟨J,_⟩,rfl⟩:=j;refine jO (κ:= .loc (n0+d)) (n':=st.n) (o₁:= .loc (n0+d)::st.o) aM D H (fun _=>E _ J) (fun _=>uD) (st':=⟨put d (.ptr (.loc (n0+d)) 0) st.t,cG (.loc (n0+d)) (cells z) st.b,st.e,st.n,.loc (n0+d)::st.o⟩) pl trivial fun bu w' Z' B=>G _ _ ⟨_,Z',B9 g d _ _ _ _ _ _,O _ _ _ _ _,B⟩
  |store sz u v=>simp only[dZ]at j;obtain⟨k,off,cs,J,U,F,rfl⟩:=j;rw[<-iD g]at J F;rw[<-g.b]at U;refine jO (κ:= .loc 0) (n':=0) (o₁:=[]) aM D H (fun h=>by simp[ep.makes]at h) (fun h=>by simp[ep.makes]at h) (st':={st with b:=cG k (po cs off (cells (cg st.t v))) st.b}) (by simp only[eP,J,U]) F fun bu w' Z' B=>G _ _ ⟨{st with b:=cG k (po cs off (cells (cg st.t v))) st.b},Z',by rw[iD g];exact IB g k _ _,fun k l=>E k l.1,B⟩
  |bsl d sz el xs=>simp only[dZ]at j;obtain⟨⟨J,_⟩,U,rfl⟩:=j;rw[<-re g]at U;refine jO (κ:= .loc (n0+d)) (n':=st.n) (o₁:= .loc (n0+d)::st.o) aM D H (fun _=>E _ J) (fun _=>uD) (st':=⟨put d (.slice sz (.own (.loc (n0+d))) (xs.map (cg st.t))) st.t,st.b,cG (.loc (n0+d)) ⟨xs.length,el,sz,none⟩ st.e,st.n,.loc (n0+d)::st.o⟩) pl U fun bu w' Z' B=>G _ _ ⟨_,Z',?_,O _ _ _ _ _,B⟩;rw[re g];exact qM g d _ _ _ _ _ _
  |app d sz el u v=>
   simp only[dZ]at j;obtain⟨tag,xs,hG,ys,J,U,j⟩:=j;rw[<-iD g]at J U;rcases j with⟨k,ow,rfl,F,L,rfl⟩|⟨rfl,F,⟨L,_⟩,rfl⟩
   ·rw[<-g.e]at F;refine jO (κ:= .loc 0) (n':=0) (o₁:=[]) aM D H (fun h=>by simp[ep.makes,J]at h) (fun h=>by simp[ep.makes,J]at h) (st':=⟨put d (.slice sz (.own k) (xs++ys)) st.t,st.b,cG k ⟨xs.length+ys.length,el,sz,none⟩ st.e,st.n,st.o⟩) (by simp only[eP,J,U,F,and_self,if_true]) L.2 fun bu w' Z' B=>G _ _ ⟨_,Z',qM g d _ _ _ _ _ _,fun k l=>E k l.1,B⟩
   ·refine jO (κ:= .loc (n0+d)) (n':=st.n) (o₁:= .loc (n0+d)::st.o) aM D H (fun _=>E _ L) (fun _=>uD) (st':=⟨put d (.slice sz (.own (.loc (n0+d))) ys) st.t,st.b,cG (.loc (n0+d)) ⟨ys.length,el,sz,none⟩ st.e,st.n,.loc (n0+d)::st.o⟩) (by simp only[eP,J,U,and_self,if_true]) F fun bu w' Z' B=>G _ _ ⟨_,Z',qM g d _ _ _ _ _ _,O _ _ _ _ _,B⟩
  |bslm d key sz el xs=>
   cases key with
   |none=>simp only[dZ]at j
   |some m=>simp only[dZ]at j;obtain⟨⟨J,_⟩,U,rfl⟩:=j;rw[<-re g]at U;refine jO (κ:= .obj m) (n':=st.n) (o₁:= .obj m::st.o) aM D H (fun _=>E _ J) (fun _=>uD) (st':=⟨put d (.row sz (.obj m) xs.length) st.t,st.b,cG (.obj m) ⟨xs.length,el,sz,some (xs.map (cg st.t))⟩ st.e,st.n,.obj m::st.o⟩) pl U fun bu w' Z' B=>G _ _ ⟨_,Z',?_,O _ _ _ _ _,B⟩;rw[re g];exact qM g d _ _ _ _ _ _
  |mks d key sz el z x=>simp only[dZ]at j
  |apps d el x y=>simp only[dZ]at j
  |appm d key sz el u v=>
   cases key with
   |some m=>
    simp only[dZ]at j;rcases j with⟨k,n,xs,hG,ys,J,U,F,L,rfl⟩|⟨xs,hG,ys,J,U,⟨F,_⟩,L,rfl⟩
    ·rw[<-iD g]at J U;rw[<-g.e]at F;exact jO (κ:= .loc 0) (n':=0) (o₁:=[]) aM D H (fun h=>by simp[ep.makes,J]at h) (fun h=>by simp[ep.makes,J]at h) (st':=⟨put d (.row sz k (xs.length+ys.length)) st.t,st.b,cG k ⟨xs.length+ys.length,el,sz,some (xs++ys)⟩ st.e,st.n,st.o⟩) (by simp only[eP,nB,J,U,F,and_self,if_true]) L fun bu w' Z' B=>G _ _ ⟨_,Z',qM g d _ _ _ _ _ _,fun k l=>E k l.1,B⟩
    rw[<-iD g]at J U;refine jO (κ:= .obj m) (n':=st.n) (o₁:= .obj m::st.o) aM D H (fun _=>E _ F) (fun _=>uD) (st':=⟨put d (.row sz (.obj m) ys.length) st.t,st.b,cG (.obj m) ⟨ys.length,el,sz,some ys⟩ st.e,st.n,.obj m::st.o⟩) (by simp only[eP,nB,J,U,and_self,if_true]) L fun bu w' Z' B=>G _ _ ⟨_,Z',qM g d _ _ _ _ _ _,O _ _ _ _ _,B⟩
   |none=>
   simp only[dZ]at j;obtain⟨k,n,xs,hG,ys,J,U,F,L,rfl⟩:=j;rw[<-iD g]at J U;rw[<-g.e]at F;refine jO (κ:= .loc 0) (n':=0) (o₁:=[]) aM D H (fun h=>by simp[ep.makes,J]at h) (fun h=>by simp[ep.makes,J]at h) (st':=⟨put d (.row sz k (xs.length+ys.length)) st.t,st.b,cG k ⟨xs.length+ys.length,el,sz,some (xs++ys)⟩ st.e,st.n,st.o⟩) (by simp only[eP,nB,J,U,F,and_self,if_true]) L fun bu w' Z' B=>G _ _ ⟨_,Z',qM g d _ _ _ _ _ _,fun k l=>E k l.1,B⟩
  |storeE sz u v=>simp only[dZ]at j;obtain⟨k,n,i,f,el,dO,xs,q,J,U,F,L,rfl⟩:=j;rw[<-iD g]at J L;rw[<-g.e]at U;refine jO (κ:= .loc 0) (n':=0) (o₁:=[]) aM D H (fun h=>by simp[ep.makes]at h) (fun h=>by simp[ep.makes]at h) (st':={st with e:=cG k ⟨n,el,dO,some (xs.set i (nW q f (cells (cg st.t v))))⟩ st.e}) (by simp only[eP,sF,J,U,F,and_self,if_true]) L fun bu w' Z' B=>G _ _ ⟨{st with e:=cG k ⟨n,el,dO,some (xs.set i (nW q f (cells (cg st.t v))))⟩ st.e},Z',by rw[iD g];exact Yc g k _ _,fun k l=>E k l.1,B⟩
  |mkmap d key=>
   cases key with
   |none=>simp only[dZ]at j
   |some m=>simp only[dZ]at j;obtain⟨⟨J,_⟩,rfl⟩:=j;refine jO (κ:= .obj m) (n':=st.n) (o₁:= .obj m::st.o) (hB:=fun e=>Rz H (by cases e;rfl)) aM D H (fun _=>E _ J) (fun _=>uD) (st':=⟨put d (.gmap (.obj m)) st.t,cG (.obj m) [.hdm 0 []] st.b,st.e,st.n,.obj m::st.o⟩) pl trivial fun bu w' Z' B=>G _ _ ⟨_,Z',B9 g d _ _ _ _ _ _,O _ _ _ _ _,B⟩
  |mput ct u k v=>simp only[dZ]at j;obtain⟨m,cs,cs',J,U,F,rfl⟩:=j;rw[<-iD g]at J;rw[<-iD g,<-iD g]at F;rw[<-g.b]at U;exact jO (κ:= .loc 0) (n':=0) (o₁:=[]) aM D H (fun h=>by simp[ep.makes]at h) (fun h=>by simp[ep.makes]at h) (st':={st with b:=cG m cs' st.b}) (by simp only[eP,J,U,F]) trivial fun bu w' Z' B=>G _ _ ⟨{st with b:=cG m cs' st.b},Z',IB g m _ _,fun k l=>E k l.1,B⟩
  |range d key x=>simp only[dZ]at j
 |next d x=>simp only[dZ]at j
 |opn d f x=>simp only[dZ]at j
 |callb d f=>simp only[dZ]at j
 |call d f xs=>
  simp only[dZ]at j;obtain⟨n,cW,J,j⟩:=j;rw[<-iD g]at J;rcases j with⟨⟨s,X,r,rm,V,c2,c3,c4,c5,qs,Dq,rfl⟩,_⟩|⟨cX,r,rfl,V,c2,c3,rfl⟩;rotate_left
  ·rw[<-re g]at c2 c3;simp only[tS]at al;split at al
   ·rename_i jG args ps Y;simp only[cD,dW]at al;obtain⟨⟨⟨ai,aC⟩,bo⟩,cY⟩:=al;have S:=eD D bo;rw[J]at S;obtain⟨rK,l8,j3⟩:=PA (hl.sz aM) Y S (Al D cY);refine TV D ai aC l8 j3 (K:=fun st'=>st'={st with t:=put cX r st.t,o:= .loc (n0+cX)::st.o}) ⟨⟨[],[]⟩,_,some (n0+cX),st.n,fun _=>.loc (n0+cX)::st.o,fun k cs l=>by simp[look]at l,fun k cs l=>by simp[look]at l,⟨fun _=>rfl,fun _=>rfl⟩,kH (fun _ h=>h.elim) _ c2,c3,fun m hm=>?_,fun k eT X bA l=>?_,?_⟩ ?_
    ·cases hm;exact E _ V.1
    ·obtain⟨_,rfl⟩:=bA;have:=uD k l;exact⟨by simpa[di]using this.1,fun m hm=>by cases hm;exact this.2⟩
    ·rintro eT p9 ⟨rfl,rfl⟩;refine⟨⟨fun m hm=>by simp[look]at hm,fun m hm=>by simp[look]at hm⟩,?_⟩;simp[after,acf,eY]
    ·rintro st' bu w' Z' rfl B;exact G _ _ ⟨_,Z',Yd g cX r _ _,O _ _ _ _ _,B⟩
   ·cases al
  rw[<-re g]at qs Dq;simp only[tS]at al;split at al
  ·rename_i jG args ps Y;simp only[cD,dW]at al;obtain⟨⟨⟨ai,aC⟩,bo⟩,cY⟩:=al;have S:=eD D bo;rw[J]at S;obtain⟨ba,bJ,cz,fv,W⟩:=c5;refine TU (hl.sz aM) D Y ai aC S (Al D cY) (K:=fun st'=>st'=after st s X d r) (.inl ⟨s,_,fun k cs l=>⟨by rw[g.b];exact(V k cs l).1,.inl (by simp[l]),(V k cs l).2⟩,fun k o' l=>⟨by rw[g.e];exact(c2 k o' l).1,.inr (by simp[l]),(c2 k o' l).2⟩,c3,qs,Dq,?_⟩) ?_
   ·rintro eT p9 ⟨rfl,rfl⟩;refine⟨⟨fun m hm=>?_,fun m hm=>?_⟩,rfl⟩
    ·rcases ba _ hm with h|h
     ·exact .inl h
     ·exact .inr (E _ (W _ h).2.1).2
    ·rcases bJ _ hm with h|h
     ·exact .inl h
     ·exact .inr (E _ (W _ h).2.1).2
   ·rintro st' bu w' Z' rfl B;refine G _ _ ⟨_,Z',⟨fun i=>?_,fun k=>?_,fun k=>?_⟩,fun k l=>?_,B⟩
    ·simp only[after,dA.do];cases d with
     |none=>simpa[eY]using g.t i
     |some d=>simp only[eY,pS,dz,g.t]
    ·simp only[after,dA.do,jo,zV,u3];by_cases M:(look k s.b).isSome
     ·have:=cz k M;obtain⟨y,R⟩:=gk.1 this;simp[M,R]
     ·cases av:look k X.b with
      |none=>simp only[M,g.b];cases A.b k<;>simp
      |some y=>
       rcases ba k (by simp[av])with h|h
       ·exact absurd h M
       ·have:=W k h;simp[M,g.b,this]
    ·simp only[after,dA.do,jo,zV,u3];by_cases M:(look k s.e).isSome
     ·have:=fv k M;obtain⟨y,R⟩:=gk.1 this;simp[M,R]
     ·cases av:look k X.e with
      |none=>simp only[M,g.e];cases A.e k<;>simp
      |some y=>
       rcases bJ k (by simp[av])with h|h
       ·exact absurd h M
       ·have:=W k h;simp[M,g.e,this]
    ·have MB:=E k l.1;have pZ:=D.lookNone MB;simp only[after];refine⟨MB.1,fun N=>?_⟩;rcases j0.1 N with N|N
     ·exact MB.2 N
     ·rcases j0.1 N with N|N
      ·rcases ba k (N5 N)with h|h
       ·obtain⟨y,R⟩:=gk.1 h;have:=(V k y R).1;rw[<-g.b,pZ.1]at this;cases this
       ·exact l.2 h
      ·rcases bJ k (N5 N)with h|h
       ·obtain⟨y,R⟩:=gk.1 h;have:=(c2 k y R).1;rw[<-g.e,pZ.2]at this;cases this
       ·exact l.2 h
  ·cases al
def acA{P:cE}{aT:List (Nat×eJ)}(aM:hl P aT=true){C:fb}{q:Bool}{n0:Nat}{ops:Array Oper}{g:ds}{o:Oper}{j:Nat}(J:ops[j]? =some o)(al:DR C.N aT ops.toList g o=true){A:dA}{x:lM}(c:lN P q n0 g A x){a:Act}{w:World}(u:yE C A a w)
  {K:Act->World->Prop} {Q:Exit->Act->World->Prop} (r:∀bu w',yE C (A.do x) bu w'->K bu w'):wpOp P ops Q j K a w:=by
 unfold wpOp;rw[J];simp only;simp only[DR,cD]at al;obtain⟨m,v⟩:=al;unfold lN at c;cases l:g.g with
 |none=>
  cases e:o.guard with
  |some x=>simp[e,l]at m
  |none=>
   have hw:qg o (yielded ops a.tmps)=true:=by simp[qg,e]
   rw[if_pos hw];simp only[l]at c;exact .inl (Q2 aM v c u r)
 |some N=>
  obtain⟨s,want⟩:=N;cases e:o.guard with
  |none=>simp[e,l]at m
  |some t=>
   obtain⟨G,cf⟩:=t;simp only[e,l,cD,dW,e3]at m;obtain⟨⟨⟨⟨rfl,U⟩,H⟩,M⟩,F⟩:=m;obtain⟨st,Z,f,E,y⟩:=id u;obtain⟨D,B⟩:=acj y U H;simp only[l]at c;have z:∀(h:x=mq g.i.dst),K (a.put o.dst undef) w:=by
    rintro rfl;rw[M];refine r _ _ ⟨_,Z,?_,fun k L=>?_,y.put F (p:= .tuple []) (by simp[aV,cN,undef])⟩
    ·refine⟨fun i=>?_,fun k=>?_,fun k=>?_⟩
     ·simp only[dA.do,mq];cases g.i.dst with
      |none=>simpa[eY]using f.t i
      |some d=>simp only[eY,pS,dz,f.t]
     ·simpa[dA.do,jo,look,mq]using f.b k
     ·simpa[dA.do,jo,look,mq]using f.e k
    ·exact E k L.1
   split at c
   ·rename_i b ae;have n:=D b (by rw[f.t];exact ae);rcases c with⟨rfl,c⟩|⟨rfl,c⟩
    ·have hw:qg o (yielded ops a.tmps)=true:=by simp[qg,e,n]
     rw[if_pos hw];exact .inl (Q2 aM v c u r)
    ·have hw:¬(qg o (yielded ops a.tmps)=true):=by simp[qg,e,n]
     rw[if_neg hw];exact z c
   ·rename_i ae;have n:=B (by rw[f.t];exact ae);have hw:¬(qg o (yielded ops a.tmps)=true):=by simp[qg,e,n]
    rw[if_neg hw];exact z c
   ·exact c.elim
def xp(P:cE)(q:Bool)(n0:Nat)(K:dA->Prop):List (Nat×ds)->dA->Prop
 |[],A=>K A
 |(_,g)::r,A=> ∃x,lN P q n0 g A x/\xp P q n0 K r (A.do x)
def RD{P:cE}{q:Bool}{n0:Nat}{K:dA->Prop}{i:Nat}{g:ds}:∀(b a:List (Nat×ds)) (A:dA),(∀x∈b,Bo x.2 g=true)->xp P q n0 K (b++(i,g)::a) A->∃x,lN P q n0 g A x/\xp P q n0 K (b++a) (A.do x)
 |[],a,A,_,h=>h
 |(j,f)::b,a,A,aA,h=>by simp only[b3,xp]at h;obtain⟨y,e,h⟩:=h;obtain⟨x,d,h⟩:=RD b a (A.do y) (fun z c=>aA z (pB _ c)) h;obtain⟨s1,s2,s3⟩:=swap (aA _ (List.mem_cons_self ..)) e d;refine⟨x,s1,y,s2,?_⟩;rw[<-dA.do_comm A s3];exact h
def rem(listed:Array Bool):Nat->List ds->List (Nat×ds)
 |_,[]=>[]
 |k,g::r=>if listed.getD k false then rem listed (k+1) r else(k,g)::rem listed (k+1) r
def aao{l a:Array Bool}:∀(gs:List ds) (k:Nat),(∀j,k<=j->l.getD j false=a.getD j false)->rem l k gs=rem a k gs
 |[],_,_=>rfl
 |g::r,k,h=>by simp only[rem,h k (e2 _),aao r (k+1) fun j b=>h j Ω]
def Hv{l:Array Bool}{i j:Nat}(h:i<l.size):(l.setIfInBounds i true).getD j false=if i=j then true else l.getD j false:=by
 simp only[Array.getD_eq_getD_getElem?];by_cases e:i=j
 ·subst e;simp[h]
 ·simp[e]
def Pq{l:Array Bool}{i:Nat}(hi:i<l.size)(p:l.getD i false=false):∀(gs:List ds) (k:Nat),k<=i->i<k+gs.length->∃c d g,gs[i-k]? =some g/\rem l k gs=c++(i,g)::d/\rem (l.setIfInBounds i true) k gs=c++d/\
  ∀x∈c,gs[x.1-k]? =some x.2/\k<=x.1/\x.1<i/\l.getD x.1 false=false
 |[],k,J,U=>by simp at U;omega
 |g::r,k,J,U=>by
  by_cases e:k=i
  ·subst e;refine⟨[],rem l (k+1) r,g,Ψ,by simp[rem,p],?_,fun x b=>by simp at b⟩;simp only[rem,Hv hi,if_true,b6];exact aao r (k+1) fun j t=>by rw[Hv hi,if_neg Ω]
  ·obtain⟨c,d,m,q,s,o,n⟩:=Pq hi p r (k+1) Ω (by simp at U;omega);have f:i-k=(i-(k+1))+1:=Ω
   have h:(l.setIfInBounds i true).getD k false=l.getD k false:=by rw[Hv hi,if_neg Ω]
   by_cases a:l.getD k false=true
   ·refine⟨c,d,m,by rw[f];simpa using q,by simp only[rem,a,if_true,s],by simp only[rem,h,a,if_true,o],fun x b=>?_⟩;obtain⟨f1,f2,f3,f4⟩:=n x b;refine⟨?_,Ω,f3,f4⟩;have:x.1-k=(x.1-(k+1))+1:=Ω
    rw[this];simpa using f1
   ·have a:l.getD k false=false:=by simpa using a
    refine⟨(k,g)::c,d,m,by rw[f];simpa using q,by simp[rem,a,s],by simp[rem,h,a,o],fun x b=>?_⟩;rcases gj.1 b with rfl|b
    ·exact⟨Ψ,e2 _,by simp;omega,a⟩
    ·obtain⟨f1,f2,f3,f4⟩:=n x b;refine⟨?_,Ω,f3,f4⟩;have:x.1-k=(x.1-(k+1))+1:=Ω
     rw[this];simpa using f1
def wB(acc:List Nat):List Edge->Nat
 |[]=>0
 |e::r=>if Region.binds .any e then(2 ^ e.on)|||(acc.getD e.on 0)|||wB acc r else wB acc r
def tI(acc:List Nat):List Oper->List Nat
 |[]=>acc
 |o::os=>tI (acc++[wB acc o.after.toList]) os
def FP(m:Nat)(h:ds):Nat->List ds->Bool
 |_,[]=>true
 |i,g::r=>(m.testBit i||Bo g h)&&FP m h (i+1) r
def Fz:List ds->List ds->List Nat->Bool
 |_,[],_=>true
 |pre,h::r,m::ms=>FP m h 0 pre&&Fz (pre++[h]) r ms
 |_,_,[]=>false
def DB:Nat->List Oper->Bool
 |_,[]=>true
 |k,o::os=>o.after.toList.all (fun e=> !Region.binds .any e||decide (e.on<k))&&DB (k+1) os
def Di(gs:List ds)(ops:List Oper):Bool:=DB 0 ops&&Fz [] gs (tI [] ops)
def NY{acc:List Nat}{j:Nat}:∀{es:List Edge},(wB acc es).testBit j=true->∃e∈es,Region.binds .any e=true/\(j=e.on\/(acc.getD e.on 0).testBit j=true)
 |[],h=>by simp[wB]at h
 |e::r,h=>by
  simp only[wB]at h;split at h
  ·rename_i ae;simp only[Nat.testBit_or,mR]at h;rcases h with(h|h)|h
   ·refine⟨e,Ψ,ae,.inl ?_⟩;rw[Nat.testBit_two_pow]at h;have b:e.on=j:=by simpa using h
    exact b.symm
   ·exact⟨e,Ψ,ae,.inr h⟩
   ·obtain⟨a,J,U⟩:=NY h;exact⟨a,by simp[J],U⟩
  ·obtain⟨a,J,U⟩:=NY h;exact⟨a,by simp[J],U⟩
def NZ:∀(os:List Oper) (acc:List Nat) (k:Nat),k<acc.length->(tI acc os)[k]? =acc[k]?
 |[],acc,k,_=>rfl
 |o::os,acc,k,h=>by simp only[tI];rw[NZ os _ k gc,rQ h]
def Ym:∀(os:List Oper) (acc:List Nat) (k:Nat) (o:Oper),os[k]? =some o->∃a,(tI acc os)[acc.length+k]? =some (wB a o.after.toList)/\a.length=acc.length+k/\∀i,i<a.length->a[i]? =(tI acc os)[i]?
 |[],acc,k,o,h=>by simp at h
 |o'::os,acc,0,o,h=>by
  simp only[List.getElem?_cons_zero,dz]at h;subst h;refine⟨acc,?_,Ψ,fun i hi=>?_⟩
  ·simp only[tI,Nat.add_zero];rw[NZ os _ _ Ψ];simp
  ·simp only[tI];rw[NZ os _ i gc,rQ hi]
 |o'::os,acc,k+1,o,h=>by simp only[List.getElem?_cons_succ]at h;obtain⟨a,J,U,b⟩:=Ym os (acc++[wB acc o'.after.toList]) k o h;refine⟨a,?_,by rw[U];simp;omega,fun i hi=>by rw[b i hi];rfl⟩;simp only[tI];rw[show acc.length+(k+1)=(acc++[wB acc o'.after.toList]).length+k from by simp;omega];exact J
def QX(ops:Array Oper)(listed:Array Bool):Prop:= ∀k o,ops[k]? =some o->listed.getD k false=true->∀e∈o.after.toList,Region.binds .any e=true->listed.getD e.on false=true
def al4{ops:Array Oper}{listed:Array Bool}(p:QX ops listed):∀(k:Nat) (o:Oper),ops[k]? =some o->(∀e∈o.after.toList,Region.binds .any e=true->listed.getD e.on false=true)->∀j,((tI [] ops.toList).getD k 0).testBit j=true->listed.getD j false=true:=by
 intro k;induction k using Nat.strongRecOn with
 |_ k m=>
  intro o al d j f;obtain⟨b,J,U,n⟩:=Ym ops.toList [] k o (by simpa using al);simp only[nv,Nat.zero_add]at J U;rw[List.getD_eq_getElem?_getD,J]at f;obtain⟨e,he,ae,a⟩:=NY f;rcases a with rfl|a
  ·exact d e he ae
  ·by_cases l:e.on<b.length
   ·have hm:b.getD e.on 0=(tI [] ops.toList).getD e.on 0:=by rw[List.getD_eq_getElem?_getD,n _ l,List.getD_eq_getElem?_getD]
    have q:k<ops.size:=(Array.getElem?_eq_some_iff.1 al).1;have c:ops[e.on]? =some ops[e.on]:=Array.getElem?_eq_getElem Ω;rw[hm]at a;exact m e.on Ω _ c (fun h g i=>p e.on _ c (d e he ae) h g i) j a
   ·rw[List.getD_eq_getElem?_getD,rR Ω]at a;simp at a
def aaF{m:Nat}{h:ds}:∀{gs:List ds} {i0:Nat},FP m h i0 gs=true->∀i g,gs[i]? =some g->m.testBit (i0+i)=true\/Bo g h=true
 |[],i0,_,i,g,a1=>by simp at a1
 |b::r,i0,a,0,g,a1=>by simp only[FP,cD,mR]at a;simp only[List.getElem?_cons_zero,dz]at a1;subst a1;simpa using a.1
 |b::r,i0,a,i+1,g,a1=>by simp only[FP,cD]at a;have:=aaF a.2 i g (by simpa using a1);rwa[show i0+1+i=i0+(i+1)from by omega]at this
def Zm:∀{gs pre:List ds} {ms:List Nat},Fz pre gs ms=true->∀j h,gs[j]? =some h->∀i g,i<pre.length+j->(pre++gs)[i]? =some g->(ms.getD j 0).testBit i=true\/Bo g h=true
 |[],pre,ms,_,j,h,a,_,_,_,_=>by simp at a
 |c::r,pre,[],b,j,h,a,_,_,_,_=>by simp[Fz]at b
 |c::r,pre,m::ms,b,j,h,a,i,g,hi,a1=>by
  simp only[Fz,cD]at b;cases j with
  |zero=>simp only[List.getElem?_cons_zero,dz]at a;subst a;rw[rQ Ω]at a1;simpa using aaF b.1 i g a1
  |succ j=>have:=Zm b.2 j h (by simpa using a) i g gc (by simpa using a1);simpa using this
def Us:∀{os:List Oper} {k:Nat},DB k os=true->∀i o,os[i]? =some o->∀e∈o.after.toList,Region.binds .any e=true->e.on<k+i
 |[],k,_,i,o,al,_,_,_=>by simp at al
 |o'::os,k,h,0,o,al,e,he,ae=>by simp only[DB,cD,iW]at h;simp only[List.getElem?_cons_zero,dz]at al;subst al;have:=h.1 e he;simpa[ae]using this
 |o'::os,k,h,i+1,o,al,e,he,ae=>by simp only[DB,cD]at h;have:=Us h.2 i o (by simpa using al) e he ae;omega
def VJ{N:Nat}{aT:List (Nat×eJ)}{ops:List Oper}:∀{gs:List ds} {os:List Oper},lh N aT ops gs os=true->∀(i:Nat) (g:ds),gs[i]? =some g->∃o,os[i]? =some o/\DR N aT ops g o=true
 |[],[],_,i,g,h=>by simp at h
 |[],_::_,h,_,_,_=>by simp[lh]at h
 |_::_,[],h,_,_,_=>by simp[lh]at h
 |a::gs,o::os,h,0,g,a1=>by simp only[lh,cD]at h;simp only[List.getElem?_cons_zero,dz]at a1;subst a1;exact⟨o,Ψ,h.1⟩
 |a::gs,o::os,h,i+1,g,a1=>by simp only[lh,cD]at h;obtain⟨o',J,U⟩:=VJ h.2 i g (by simpa using a1);exact⟨o',by simpa using J,U⟩
def Md{N:Nat}{aT:List (Nat×eJ)}{ops:List Oper}:∀{gs:List ds} {os:List Oper},lh N aT ops gs os=true->gs.length=os.length
 |[],[],_=>rfl
 |[],_::_,h=>by simp[lh]at h
 |_::_,[],h=>by simp[lh]at h
 |g::gs,o::os,h=>by simp only[lh,cD]at h;simp[Md h.2]
def aap{l:Array Bool}:∀(gs:List ds) (k:Nat),rem l k gs=[]\/ ∃i g,i<gs.length/\gs[i]? =some g/\l.getD (k+i) false=false/\∀j,j<i->l.getD (k+j) false=true
 |[],_=>.inl rfl
 |g::r,k=>by
  by_cases h:l.getD k false=true
  ·rcases aap (l:=l) r (k+1)with J|⟨i,a,J,U,b,d⟩
   ·left;simp only[rem,h,if_true,J]
   ·refine .inr ⟨i+1,a,by simp;omega,by simpa using U,by rw[show k+(i+1)=k+1+i from by omega];exact b,fun j c=>?_⟩;cases j with
    |zero=>simpa using h
    |succ j=>rw[show k+(j+1)=k+1+j from by omega];exact d j Ω
  ·exact .inr ⟨0,g,Ψ,Ψ,by simpa using h,fun j c=>Ω⟩
def ac5{P:cE}{aT:List (Nat×eJ)}(aM:hl P aT=true){C:fb}{q:Bool}{n0:Nat}{ops:Array Oper}{gs:List ds}(G:lh C.N aT ops.toList gs ops.toList=true)(R:Di gs ops.toList=true){K:dA->Prop}{Q:Exit->Act->World->Prop}
  (S:∀A a w,K A->yE C A a w->Q .normal a w):∀(fuel:Nat) (listed:Array Bool) (A:dA) (a:Act) (w:World),listed.size=ops.size->QX ops listed->(rem listed 0 gs).length<=fuel->xp P q n0 K (rem listed 0 gs) A->yE C A a w->wpAny P .any ops Q fuel listed a w:=by
 simp only[Di,cD]at R;obtain⟨Mp,r⟩:=R;have hlen:gs.length=ops.size:=by simpa using Md G
 have O:∀(listed:Array Bool) (A:dA) (a:Act) (w:World),listed.size=ops.size->xp P q n0 K (rem listed 0 gs) A->yE C A a w->Region.ready .any ops listed=[]->Q .normal a w:=by
  intro listed A a w f c d m;rcases aap (l:=listed) gs 0 with h|⟨i,g,J,U,b,Z⟩
  ·rw[h]at c;exact S A a w c d
  ·exfalso;have hi:i<ops.size:=Ω
   have H:i∈Region.ready .any ops listed:=by
    unfold Region.ready;simp only[n3,List.mem_range,cD,Bool.not_eq_true'];refine⟨hi,?_,?_⟩
    ·rw[Nat.zero_add]at b;simp only[Array.getD_eq_getD_getElem?]at b⊢;rw[Array.getElem?_eq_getElem Ω]at b⊢;simpa using b
    ·rw[Array.getElem?_eq_getElem hi];simp only[nz,mv];rw[<-Array.all_toList,iW];intro e he;by_cases ae:Region.binds .any e=true
     ·have bN:=Us Mp i ops[i] (by simp[hi]) e he ae;have:=Z e.on Ω;rw[Nat.zero_add]at this;simp[this]
     ·simp[ae]
   rw[m]at H;simp at H
 intro fuel;induction fuel with
 |zero=>
  intro listed A a w f z B c d;have s:rem listed 0 gs=[]:=vn Ω;have m:Region.ready .any ops listed=[]:=by
   rw[List.eq_nil_iff_forall_not_mem];intro i hi;unfold Region.ready at hi;simp only[n3,List.mem_range,cD,Bool.not_eq_true']at hi;obtain⟨J,U,_⟩:=hi;have n:listed.getD i false=false:=by simp only[Array.getD_eq_getD_getElem?]at U⊢;rw[Array.getElem?_eq_getElem Ω]at U⊢;simpa using U
   obtain⟨F,E,g,_,j,_⟩:=Pq Ω n gs 0 Ω Ω;rw[s]at j;simp at j
  exact⟨m,O listed A a w f c d m⟩
 |succ fuel W=>
  intro listed A a w f z B c d;refine⟨O listed A a w f c d,fun i hi=>?_⟩;unfold Region.ready at hi;simp only[n3,List.mem_range,cD,Bool.not_eq_true']at hi;obtain⟨J,U,b⟩:=hi;have n:listed.getD i false=false:=by simp only[Array.getD_eq_getD_getElem?]at U⊢;rw[Array.getElem?_eq_getElem Ω]at U⊢;simpa using U
  have al:ops[i]? =some ops[i]:=Array.getElem?_eq_getElem J;have N:∀e∈ops[i].after.toList,Region.binds .any e=true->listed.getD e.on false=true:=by rw[al]at b;simp only[nz,mv]at b;rw[<-Array.all_toList,iW]at b;intro e he ae;simpa[ae]using b e he
  obtain⟨F,E,g,u,j,M,L⟩:=Pq Ω n gs 0 Ω Ω;simp only[Nat.sub_zero]at u L;rw[j]at c;obtain⟨x,X,t⟩:=RD F E A (fun y Y=>by
   obtain⟨f1,f2,f3,f4⟩:=L y Y;rcases Zm r i g u y.1 y.2 (by simpa using f3) (by simpa using f1)with h|h
   ·have:=al4 z i ops[i] al N y.1 h;rw[f4]at this;cases this
   ·exact h) c
  obtain⟨o',g1,g2⟩:=VJ G i g u;have:o'=ops[i]:=by rw[uh,al]at g1;exact(ft g1).symm
  subst this;refine acA aM al g2 X d fun bu w' V=>?_;refine W (listed.setIfInBounds i true) (A.do x) bu w' (by simpa using f) ?_ ?_ (by rw[M];exact t) V
  ·intro k o v p e he ae;rw[Hv Ω]at p⊢;split
   ·rfl
   ·by_cases D:i=k
    ·subst D;rw[al]at v;cases v;exact N e he ae
    ·rw[if_neg D]at p;exact z k o v p e he ae
  ·rw[M];rw[j]at B;simp at B⊢;omega
end
end Go.Pv
