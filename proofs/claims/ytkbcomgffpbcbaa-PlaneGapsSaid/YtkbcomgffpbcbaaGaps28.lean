/- PlaneGaps: for all lists of points of small numbers and all shifts the function returns true: a hull that is grown by the gap meets the other one, by less it does not, and the gap changes by no more than the shift; the input reads as it did. No conditions. -/
import Derived.ArgAppend
import Derived.Below
import Derived.BigQuiet
import Derived.ChangeOld
import Derived.DataShut
import Derived.Deep.AppendLies
import Derived.Deep.CutBlock
import Derived.Deep.DeepCutAuto
import Derived.Deep.DeepFit
import Derived.Deep.DeepMust
import Derived.Deep.Draws
import Derived.Deep.LoopGhost
import Derived.Deep.OwnRows
import Derived.Deep.QuietTactic
import Derived.Deep.RegionHeld3
import Derived.Deep.Slices
import Derived.Ground.SlgnProg
import Derived.Ground.SlsfProg
import Derived.KernelRfl
import Derived.Laws.BitsLemmas
import Derived.Laws.BytesArg
import Derived.Laws.IdiomCopy
import Derived.Laws.MakeOwn
import Derived.Laws.OwnMore
import Derived.Laws.Rows
import Derived.Laws.Slices
import Derived.Laws.StructEq
import Derived.Lib.AppendStr
import Derived.Lib.ConvBytes
import Derived.Lib.Hide
import Derived.Lib.QuietBelow
import Derived.Lib.QuietBelowIn
import Derived.Lib.SliceRun
import Derived.Lib.SlicesCompact
import Derived.LoopIn
import Derived.LoopNIn
import Derived.Maps.AppendAt
import Derived.OpenShut
import Derived.OrdersHeld
import Derived.Outline
import Derived.OwnWalk
import Derived.OwnWalkIn
import Derived.ProofKit
import Derived.RangeFuncBound
import Derived.RangeFuncBox
import Derived.RangeFuncCalls
import Derived.RangeFuncLeaves
import Derived.RangeFuncNested
import Derived.RowKit
import Derived.RowKit3
import Derived.Shelf.Abstract
import Derived.Shelf.RegionOpen
import Derived.Shelf.SlGeneric
import Derived.Shelf.SlSortCmp.WholeK
import Derived.Shelf.Slices.CompactI
import Derived.Shelf.SlicesQ.Reverse
import Derived.ShutString
import Derived.SizedLaws
import Derived.Sort.LoopGhostIn
import Derived.Sort.OwnSorted
import Derived.StillTail
import Derived.StillTailTactics
import Derived.Tactics
import Derived.TacticsIn
import Derived.TacticsInMore
import Derived.Test.YtkbcomgffpbcbaaProg
import Derived.Test.YtkbcomgffpbcbaaRows
import Derived.WalkKit
import Derived.WalkSmall
import Derived.WalkSpells
import Derived.WideLaws
import Derived.Test.YtkbcomgffpbcbaaGaps0
import Derived.Test.YtkbcomgffpbcbaaGaps3
import Derived.Test.YtkbcomgffpbcbaaGaps5
import Derived.Test.YtkbcomgffpbcbaaGaps7
import Derived.Test.YtkbcomgffpbcbaaGaps8
import Derived.Test.YtkbcomgffpbcbaaGaps10
import Derived.Test.YtkbcomgffpbcbaaGaps16
import Derived.Test.YtkbcomgffpbcbaaGaps25
import Derived.Test.YtkbcomgffpbcbaaGaps26
import Derived.Test.YtkbcomgffpbcbaaGaps27
namespace Go.Proofs.Ytkbcomgffpbcbaa.planeGaps
open Go.ChangeShapes Go.WideShapes Go.ChangeAt Go.RowKit
open Go.ChangeMaps (open_string shut_string)
open Go.Proofs.YtkbcomgffpbcbaaW.PrintWords Plane
set_option linter.unusedVariables false
theorem own : ownKnob Try.prog.godebug = none := by kernel_rfl
theorem laidOut : laidOutB Try.prog = true := by kernel_rfl
theorem len2 : ∀ {cs : List Value}, cs.length = 2 → ∃ v0 v1, cs = [v0, v1]
  | [a, b], _ => ⟨a, b, rfl⟩
set_option maxRecDepth 100000 in
theorem opn49 {H : Type} {enc : TypeId × Value → H} {W : World} {base : Nat} {spare : Nat → Bool} {held : Bool} : Open.Opn enc Try.prog W base spare held k49 49 (fun s => (Lit.int .i8 s.f0).wf = true ∧ (Lit.int .i8 s.f1).wf = true) := fun fuel cs x h => by
  obtain ⟨hl, hf⟩ := Open.opn_fields Try.underlying49 h
  rw [show Try.prog.cellsOf 49 = 2 from by kernel_rfl] at hl
  have hc : Try.prog.cellsOf 42 = 1 := by kernel_rfl
  obtain ⟨v0, v1, rfl⟩ := len2 hl
  obtain ⟨n0, y0, e0⟩ := hf 0 _ rfl
  obtain ⟨n1, y1, e1⟩ := hf 1 _ rfl
  simp [hc] at e0 e1
  obtain ⟨x0, h0, w0⟩ := Open.opn_int Try.underlying42 _ _ _ e0
  obtain ⟨x1, h1, w1⟩ := Open.opn_int Try.underlying42 _ _ _ e1
  have g0 : [v0] = [Value.int .i8 x0] := h0
  have g1 : [v1] = [Value.int .i8 x1] := h1
  injection g0 with g0 _
  injection g1 with g1 _
  subst g0 g1
  exact ⟨⟨x0, x1⟩, k49_mk W _, w0, w1⟩
theorem wf8 {x : Int} (h : (Lit.int .i8 x).wf = true) : -128 ≤ x ∧ x ≤ 127 := (Lit.wf_int_iff _ _).1 h
set_option maxRecDepth 100000 in
theorem lifted (os : Os) (started : os.Started) (H : Type) (enc : TypeId × Value → H) :
    ReturnsInHanded {} Try.checked os 5 .any (Rows.planeGapsSpec.pre6 enc Try.prog Try.f5 Rows.planeGapsRow.domain false) (Rows.planeGapsSpec.post enc Try.prog Try.f5 false true false false) := by
  refine returnsInHanded_of_change_sized (C := Try.checked) own started (by kernel_rfl) Try.func5
    (ChangeSpec.witness6 (enc := enc) (C := Try.checked) false ⟨#[], #[.slice none 0 0, .slice none 0 0, .int .i8 0, .int .i8 0], []⟩ 8 (by kernel_rfl) (by kernel_rfl) (by kernel_rfl) (by kernel_rfl)) ?_
  intro W base args ds gs before hval0 hW hcnd hsz0 _
  have hsz : (DataW.weightsEach Try.prog (Try.f5.params.toList ++ Rows.planeGapsSpec.plain.varTypes Try.prog) (ds ++ gs)).all (· ≤ reachBytes) = true := hsz0
  have hval : ∀ (j : Nat) t v, Try.f5.params[j]? = some t → args[j]? = some v → Value.okWide Try.prog W .any base t v := hval0
  have hW' := hW
  obtain ⟨p, q, hA0, hV, rfl, hfz, hnd⟩ := hW
  have hA : DataW.TrodAll enc Try.prog W 0 (fun _ => true) true Try.f5.params.toList args.toList ds p := hA0
  rw [Try.params5] at hA hval hsz
  obtain ⟨v0, vs0, d0, ds0, p0, q0, hargs, rfl, rfl, h0, r0⟩ := trodAll_cons hA
  obtain ⟨v1, vs1, d1, ds1, p1, q1, rfl, rfl, rfl, h1, r1⟩ := trodAll_cons r0
  obtain ⟨v2, vs2, d2, ds2, p2, q2, rfl, rfl, rfl, h2, r2⟩ := trodAll_cons r1
  obtain ⟨v3, vs3, d3, ds3, p3, q3, rfl, rfl, rfl, h3, r3⟩ := trodAll_cons r2
  obtain ⟨rfl, rfl, rfl⟩ := trodAll_nil r3
  obtain rfl : args = #[v0, v1, v2, v3] := by cases args; simp_all
  obtain ⟨rfl, rfl⟩ := trodVars_none hV
  obtain ⟨a0, len0, cap0, rfl⟩ := okWide_slice Try.underlying22 (hval 0 22 v0 rfl rfl)
  have k0 := h0
  have lt0 : ∀ x ∈ p0, x.block < W.heap.size := by obtain ⟨m, hm⟩ := k0; exact DataW.trod_lt m _ _ _ hm
  obtain ⟨l0, rfl, hc0, hC0, ⟨hm0, hw0⟩, y0⟩ := Open.arg_slice (Open.opn_slice (k := k49) Try.underlying22 (by kernel_rfl) opn49) Try.underlying22 h0 hsz (j := 0) rfl rfl (B := 2) (by kernel_rfl)
  obtain ⟨a1, len1, cap1, rfl⟩ := okWide_slice Try.underlying22 (hval 1 22 v1 rfl rfl)
  have k1 := h1
  have lt1 : ∀ x ∈ p1, x.block < W.heap.size := by obtain ⟨m, hm⟩ := k1; exact DataW.trod_lt m _ _ _ hm
  obtain ⟨l1, rfl, hc1, hC1, ⟨hm1, hw1⟩, y1⟩ := Open.arg_slice (Open.opn_slice (k := k49) Try.underlying22 (by kernel_rfl) opn49) Try.underlying22 h1 hsz (j := 1) rfl rfl (B := 2) (by kernel_rfl)
  obtain ⟨a2, rfl, rfl, rfl, w2⟩ := open_int Try.underlying42 (hval 2 42 v2 rfl rfl) h2
  obtain ⟨a3, rfl, rfl, rfl, w3⟩ := open_int Try.underlying42 (hval 3 42 v3 rfl rfl) h3
  clear hA0 hval0 hsz0 hsz
  obtain ⟨k, hk⟩ := (PlaneGaps_ev l0 l1 a2 a3 (by omega) (by omega) (fun s hs => ⟨wf8 (hw0 s hs).1, wf8 (hw0 s hs).2⟩) (fun s hs => ⟨wf8 (hw1 s hs).1, wf8 (hw1 s hs).2⟩) (wf8 w2) (wf8 w3)).rounds
  refine (goosenecklaw01_PlaneGaps.calls k a0 cap0 l0 a1 cap1 l1 a2 a3 true W hC0 hc0 hC1 hc1 hk).mono fun e W' ⟨he, bel⟩ => ?_
  subst he
  exact ⟨_, rfl, _, _, _, [], _, [], hW', trodAll_mk1 (shut_bool Try.underlying4 _), (trodAll_cons_mk (Below.trod laidOut (by kernel_rfl) (of_decide_eq_true (by kernel_rfl)) k0 bel lt0) (trodAll_cons_mk (Below.trod laidOut (by kernel_rfl) (of_decide_eq_true (by kernel_rfl)) k1 bel lt1) (trodAll_cons_mk (shut_int Try.underlying42 w2) (trodAll_cons_mk (shut_int Try.underlying42 w3) trodAll_mk0)))), rfl, bel.frame _, fun h => by cases h⟩
theorem over : Rows.planeGapsRow.holds Try.pinned (OpenSpec.ofChange Rows.planeGapsSpec) :=
  OpenClaim.holds_of_wide 5 Try.f5 rfl rfl rfl rfl rfl rfl rfl ⟨rfl, rfl, rfl, rfl, rfl⟩ rfl rfl rfl rfl rfl (by kernel_rfl) Try.func5 (by kernel_rfl)
    (of_decide_eq_true (by kernel_rfl)) (by unfold Func.isWrapper; first | (rw [if_pos (by decide +kernel)]; kernel_rfl) | (rw [if_neg (by decide +kernel)]; exact ⟨rfl, rfl⟩))
    (fun os started H enc _ => lifted os started H enc)
theorem proved : Rows.PlaneGapsSaid := over
#print axioms proved
end Go.Proofs.Ytkbcomgffpbcbaa.planeGaps
namespace Go.Proofs.Ytkbcomgffpbcbaa
theorem planeGaps_holds : Rows.PlaneGapsSaid := planeGaps.proved
end Go.Proofs.Ytkbcomgffpbcbaa
