/- The closed facts of a card, one theorem each. -/
import Derived.Test.YtlnndmgfngfeiaaGreatDoorProg
import Derived.ProofKit
import Derived.Carry
import Derived.WalkKit
import Derived.Deep.Slices
import Derived.Shelf.SlSortFuncK.WholeK
import Derived.Shelf.GgSortFunc.Tiny
import Derived.Ground.GgsProg
import Derived.Lib.LaidTab
import Derived.Stop.LaidErr
import Derived.Lib.ItoaNum
import Derived.Test.YtlnndmgfngfeiaaGreatDoorRows
import Derived.Test.YtlnndmgfngfeiaaGreatDoorTie
import Derived.Test.YtlnndmgfngfeiaaGreatDoorCards
import Derived.LaidMore
import Derived.SevenTiedAt
import Derived.Test.YtlnndmgfngfeiaaGreatDoorF5
set_option linter.all false
set_option maxHeartbeats 4000000
set_option maxRecDepth 4000
open Bool renaming and_eq_true->bE
open Go renaming Program->bM,TypeId->eZ
open Go.DataW renaming trod->hv
open Go.IntKind renaming i64->mQ
open Go.Lib renaming itoa->br
open Go.Proofs.Tryz renaming f3->h9,prog->aF
open Go.Proofs.YtlnndmgfngfeiaaGreatDoor.Rows renaming fnExactFormatCodeRow->hx,fnExactFormatCodeSpec->mR
open Go.Value renaming cells->km,int->kY
open List renaming cons_append->oA,getElem?_append_left->nC,getElem?_eq_getElem->cB,getElem?_eq_some_iff->dw,length_append->dh,length_cons->hy,length_map->kn,length_nil->l5,length_pos_iff->oB,map_cons->ez,map_nil->mS,mem_cons->hT,mem_of_getElem?->e9,take_length->jY
open List.cons renaming injEq->tb
open Nat renaming le_refl->c7,lt_or_ge->ko
open Option.some renaming inj->fo,injEq->dt
open _root_ renaming False->dz,Option->bf,UInt8->bt,beq_eq_false_iff_ne->fN,beq_iff_eq->cD,decide_eq_false->ha,decide_eq_true->j0,decide_eq_true_eq->fY,if_neg->bu
namespace Go.Proofs.YtlnndmgfngfeiaaGreatDoor
section
open Go
theorem Kv:hx.wfByText (OpenSpec.ofChange mR)=true:=by kernel_rfl
theorem Kt:Tryz.pinned.checked.prog.mainIs=some (Rows.fnExactFormatCodeCard.stood.harness.1,Rows.fnExactFormatCodeCard.stood.harness.2.toList):=by kernel_rfl
theorem Ks:true=Tryz.pinned.checked.prog.looks []:=by kernel_rfl
theorem Kr:false=hx.goesBy Tryz.pinned.checked.prog:=by kernel_rfl
theorem Kq:aF.funcNamed hx.func=some 3:=by kernel_rfl
theorem Ku:([25].all fun u=> !aF.wantsStandIn u)=true:=by kernel_rfl
end
end Go.Proofs.YtlnndmgfngfeiaaGreatDoor
