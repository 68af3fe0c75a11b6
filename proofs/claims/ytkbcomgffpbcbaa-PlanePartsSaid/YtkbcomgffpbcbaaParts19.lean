/- A part of the proof of Parts: walks of functions, and plain lemmas. No conditions. -/
import Derived.ArgAppend
import Derived.Below
import Derived.BigQuiet
import Derived.Deep.AppendLies
import Derived.Deep.CutBlock
import Derived.Deep.DeepCutAuto
import Derived.Deep.DeepFit
import Derived.Deep.DeepMust
import Derived.Deep.Draws
import Derived.Deep.LoopGhost
import Derived.Deep.OwnRows
import Derived.Deep.QuietTactic
import Derived.Deep.RegionHeld3
import Derived.Ground.SlgnProg
import Derived.Ground.SlsfProg
import Derived.KernelRfl
import Derived.Laws.BitsLemmas
import Derived.Laws.BytesArg
import Derived.Laws.IdiomCopy
import Derived.Laws.MakeOwn
import Derived.Laws.OwnMore
import Derived.Laws.Rows
import Derived.Laws.Slices
import Derived.Laws.StructEq
import Derived.Lib.AppendStr
import Derived.Lib.ConvBytes
import Derived.Lib.Hide
import Derived.Lib.QuietBelow
import Derived.Lib.QuietBelowIn
import Derived.Lib.SliceRun
import Derived.Lib.SlicesCompact
import Derived.LoopIn
import Derived.LoopNIn
import Derived.Maps.AppendAt
import Derived.OrdersHeld
import Derived.Outline
import Derived.OwnWalk
import Derived.OwnWalkIn
import Derived.RangeFuncBound
import Derived.RangeFuncBox
import Derived.RangeFuncCalls
import Derived.RangeFuncLeaves
import Derived.RangeFuncNested
import Derived.RowKit
import Derived.RowKit3
import Derived.Shelf.Abstract
import Derived.Shelf.RegionOpen
import Derived.Shelf.SlGeneric
import Derived.Shelf.SlSortCmp.WholeK
import Derived.Shelf.Slices.CompactI
import Derived.Shelf.SlicesQ.Reverse
import Derived.Sort.LoopGhostIn
import Derived.Sort.OwnSorted
import Derived.StillTailTactics
import Derived.Tactics
import Derived.TacticsIn
import Derived.TacticsInMore
import Derived.Test.YtkbcomgffpbcbaaProg
import Derived.WalkKit
import Derived.WalkSmall
import Derived.WalkSpells
import Derived.WideLaws
import Derived.Test.YtkbcomgffpbcbaaParts2
import Derived.Test.YtkbcomgffpbcbaaParts3
import Derived.Test.YtkbcomgffpbcbaaParts5
import Derived.Test.YtkbcomgffpbcbaaParts7
import Derived.Test.YtkbcomgffpbcbaaParts8
import Derived.Test.YtkbcomgffpbcbaaParts10
import Derived.Test.YtkbcomgffpbcbaaParts16
namespace Go.Proofs.Ytkbcomgffpbcbaa.Plane
open Go.RowKit Go.Shelf Go.Sort Go.Proofs.YtkbcomgffpbcbaaW.PrintWords Go.Proofs.YtkbcomgffpbcbaaW.PrintLast Go.Proofs.YtkbcomgffpbcbaaW.PrintMore
set_option linter.unusedVariables false
set_option linter.unusedSimpArgs false
attribute [local go_sem high] eqA31
theorem bal {a w : World} (h : RowKit.Below a.heap.size a w) (o : Obj) : RowKit.Below a.heap.size a (w.alloc o) := h.alloc h.size o
theorem OwnP.alloc {W : World} {base : Nat} {v : Value} {zs : List S31} (h : OwnP W base v zs) (o : Obj) : OwnP (W.alloc o) base v zs := h.below (below_alloc (RowKit.Below.refl _ _) _)
theorem OwnP.drew {W : World} {base : Nat} {v : Value} {zs : List S31} (h : OwnP W base v zs) : OwnP W.drew base v zs := h.below (below_drew (RowKit.Below.refl _ _))
theorem bdr {a w : World} (h : RowKit.Below a.heap.size a w) : RowKit.Below a.heap.size a w.drew := below_drew h
theorem new_at {W : World} {o : Obj} {H : Nat} (h : W.heap.size = H) : (W.alloc o).heap[H]? = some o := by subst h; exact World.alloc_heap_new W o
theorem old_at {W : World} {o o' : Obj} {H : Nat} (h : W.heap[H]? = some o) : (W.alloc o').heap[H]? = some o := ((below_alloc (RowKit.Below.refl _ W) o').block H (Array.getElem?_eq_some_iff.1 h).1).trans h
theorem drew_at {W : World} {o : Obj} {H : Nat} (h : W.heap[H]? = some o) : W.drew.heap[H]? = some o := h
theorem row_one {W : World} {H : Nat} {x0 x1 : Int} (h : W.heap[H]? = some (.cells #[.int .i64 x0, .int .i64 x1] 31)) : ReadsRow (fun x cs => cs = encL x) 2 W (some ⟨H, 0, none⟩) 1 [(⟨x0, x1⟩ : S31)] := by
  refine ⟨rfl, by omega, fun _ => ⟨_, rfl, fun j p hj => ?_⟩⟩
  have : j = 0 := by have := (List.getElem?_eq_some_iff.1 hj).1; simpa using this
  subst this
  simp at hj
  subst hj
  refine ⟨_, rfl, rfl, fun i u hu => ?_⟩
  rw [add_plain, Nat.zero_mul, Nat.zero_add]
  match i with
  | 0 => simp [encL] at hu; subst hu; simp [World.cell?, h]
  | 1 => simp [encL] at hu; subst hu; simp [World.cell?, h]
  | i + 2 => simp [encL] at hu
end Go.Proofs.Ytkbcomgffpbcbaa.Plane
