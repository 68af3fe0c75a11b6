/- PlaneParts: for all lists of points of small numbers, all lines and all points the function returns true: two hulls meet, or a line parts them, and never both, exchanged they do the same, and they meet just if their gap is 0; the input reads as it did. No conditions. -/
import Derived.ArgAppend
import Derived.Below
import Derived.BigQuiet
import Derived.ChangeOld
import Derived.DataShut
import Derived.Deep.AppendLies
import Derived.Deep.CutBlock
import Derived.Deep.DeepCutAuto
import Derived.Deep.DeepFit
import Derived.Deep.DeepMust
import Derived.Deep.Draws
import Derived.Deep.LoopGhost
import Derived.Deep.OwnRows
import Derived.Deep.QuietTactic
import Derived.Deep.RegionHeld3
import Derived.Deep.Slices
import Derived.Ground.SlgnProg
import Derived.Ground.SlsfProg
import Derived.KernelRfl
import Derived.Laws.BitsLemmas
import Derived.Laws.BytesArg
import Derived.Laws.IdiomCopy
import Derived.Laws.MakeOwn
import Derived.Laws.OwnMore
import Derived.Laws.Rows
import Derived.Laws.Slices
import Derived.Laws.StructEq
import Derived.Lib.AppendStr
import Derived.Lib.ConvBytes
import Derived.Lib.Hide
import Derived.Lib.QuietBelow
import Derived.Lib.QuietBelowIn
import Derived.Lib.SliceRun
import Derived.Lib.SlicesCompact
import Derived.LoopIn
import Derived.LoopNIn
import Derived.Maps.AppendAt
import Derived.OpenShut
import Derived.OrdersHeld
import Derived.Outline
import Derived.OwnWalk
import Derived.OwnWalkIn
import Derived.ProofKit
import Derived.RangeFuncBound
import Derived.RangeFuncBox
import Derived.RangeFuncCalls
import Derived.RangeFuncLeaves
import Derived.RangeFuncNested
import Derived.RowKit
import Derived.RowKit3
import Derived.Shelf.Abstract
import Derived.Shelf.RegionOpen
import Derived.Shelf.SlGeneric
import Derived.Shelf.SlSortCmp.WholeK
import Derived.Shelf.Slices.CompactI
import Derived.Shelf.SlicesQ.Reverse
import Derived.ShutString
import Derived.SizedLaws
import Derived.Sort.LoopGhostIn
import Derived.Sort.OwnSorted
import Derived.StillTail
import Derived.StillTailTactics
import Derived.Tactics
import Derived.TacticsIn
import Derived.TacticsInMore
import Derived.Test.YtkbcomgffpbcbaaProg
import Derived.Test.YtkbcomgffpbcbaaRows
import Derived.WalkKit
import Derived.WalkSmall
import Derived.WalkSpells
import Derived.WideLaws
import Derived.Test.YtkbcomgffpbcbaaParts0
import Derived.Test.YtkbcomgffpbcbaaParts3
import Derived.Test.YtkbcomgffpbcbaaParts5
import Derived.Test.YtkbcomgffpbcbaaParts7
import Derived.Test.YtkbcomgffpbcbaaParts8
import Derived.Test.YtkbcomgffpbcbaaParts10
import Derived.Test.YtkbcomgffpbcbaaParts16
import Derived.Test.YtkbcomgffpbcbaaParts26
import Derived.Test.YtkbcomgffpbcbaaParts27
namespace Go.Proofs.Ytkbcomgffpbcbaa.planeParts
open Go.ChangeShapes Go.WideShapes Go.ChangeAt Go.RowKit
open Go.ChangeMaps (open_string shut_string)
open Go.Proofs.YtkbcomgffpbcbaaW.PrintWords Plane
set_option linter.unusedVariables false
set_option linter.unusedSimpArgs false
theorem own : ownKnob Try.prog.godebug = none := by kernel_rfl
theorem laidOut : laidOutB Try.prog = true := by kernel_rfl
theorem len_49 : ∀ {cs : List Value}, cs.length = 2 → ∃ v0 v1, cs = [v0, v1]
  | [a0, a1], _ => ⟨a0, a1, rfl⟩
set_option maxRecDepth 100000 in
theorem opn49 {H : Type} {enc : TypeId × Value → H} {W : World} {base : Nat} {spare : Nat → Bool} {held : Bool} : Open.Opn enc Try.prog W base spare held k49 49 (fun s => (Lit.int .i8 s.f0).wf = true ∧ (Lit.int .i8 s.f1).wf = true) := fun fuel cs x h => by
  obtain ⟨hl, hf⟩ := Open.opn_fields Try.underlying49 h
  rw [show Try.prog.cellsOf 49 = 2 from by kernel_rfl] at hl
  have hc42 : Try.prog.cellsOf 42 = 1 := by kernel_rfl
  obtain ⟨v0, v1, rfl⟩ := len_49 hl
  obtain ⟨n0, y0, e0⟩ := hf 0 _ rfl
  obtain ⟨n1, y1, e1⟩ := hf 1 _ rfl
  simp [hc42] at e0 e1
  obtain ⟨x0, h0, w0⟩ := Open.opn_int Try.underlying42 _ _ _ e0
  obtain ⟨x1, h1, w1⟩ := Open.opn_int Try.underlying42 _ _ _ e1
  have g0 : [v0] = [Value.int .i8 x0] := h0
  injection g0 with g0 _
  have g1 : [v1] = [Value.int .i8 x1] := h1
  injection g1 with g1 _
  subst g0 g1
  exact ⟨⟨x0, x1⟩, k49_mk W _, w0, w1⟩
theorem len_47 : ∀ {cs : List Value}, cs.length = 3 → ∃ v0 v1 v2, cs = [v0, v1, v2]
  | [a0, a1, a2], _ => ⟨a0, a1, a2, rfl⟩
set_option maxRecDepth 100000 in
theorem opn47 {H : Type} {enc : TypeId × Value → H} {W : World} {base : Nat} {spare : Nat → Bool} {held : Bool} : Open.Opn enc Try.prog W base spare held k47 47 (fun s => (Lit.int .i64 s.f0).wf = true ∧ (Lit.int .i64 s.f1).wf = true ∧ (Lit.int .i64 s.f2).wf = true) := fun fuel cs x h => by
  obtain ⟨hl, hf⟩ := Open.opn_fields Try.underlying47 h
  rw [show Try.prog.cellsOf 47 = 3 from by kernel_rfl] at hl
  have hc2 : Try.prog.cellsOf 2 = 1 := by kernel_rfl
  obtain ⟨v0, v1, v2, rfl⟩ := len_47 hl
  obtain ⟨n0, y0, e0⟩ := hf 0 _ rfl
  obtain ⟨n1, y1, e1⟩ := hf 1 _ rfl
  obtain ⟨n2, y2, e2⟩ := hf 2 _ rfl
  simp [hc2] at e0 e1 e2
  obtain ⟨x0, h0, w0⟩ := Open.opn_int Try.underlying2 _ _ _ e0
  obtain ⟨x1, h1, w1⟩ := Open.opn_int Try.underlying2 _ _ _ e1
  obtain ⟨x2, h2, w2⟩ := Open.opn_int Try.underlying2 _ _ _ e2
  have g0 : [v0] = [Value.int .i64 x0] := h0
  injection g0 with g0 _
  have g1 : [v1] = [Value.int .i64 x1] := h1
  injection g1 with g1 _
  have g2 : [v2] = [Value.int .i64 x2] := h2
  injection g2 with g2 _
  subst g0 g1 g2
  exact ⟨⟨x0, x1, x2⟩, k47_mk W _, w0, w1, w2⟩
theorem wf8 {x : Int} (h : (Lit.int .i8 x).wf = true) : -128 ≤ x ∧ x ≤ 127 := (Lit.wf_int_iff _ _).1 h
theorem wf64 {x : Int} (h : (Lit.int .i64 x).wf = true) : -9223372036854775808 ≤ x ∧ x ≤ 9223372036854775807 := (Lit.wf_int_iff _ _).1 h
theorem wfu8 {x : Int} (h : (Lit.int .u8 x).wf = true) : 0 ≤ x ∧ x ≤ 255 := (Lit.wf_int_iff _ _).1 h
set_option maxRecDepth 100000 in
theorem lifted (os : Os) (started : os.Started) (H : Type) (enc : TypeId × Value → H) :
    ReturnsInHanded {} Try.checked os 6 .any (Rows.planePartsSpec.pre6 enc Try.prog Try.f6 Rows.planePartsRow.domain false) (Rows.planePartsSpec.post enc Try.prog Try.f6 false true false false) := by
  refine returnsInHanded_of_change_sized (C := Try.checked) own started (by kernel_rfl) Try.func6
    (ChangeSpec.witness6 (enc := enc) (C := Try.checked) false ⟨#[], #[.slice none 0 0, .slice none 0 0, .agg #[.int .i64 0, .int .i64 0, .int .i64 0], .agg #[.int .i8 0, .int .i8 0]], []⟩ 8 (by kernel_rfl) (by kernel_rfl) (by kernel_rfl) (by kernel_rfl)) ?_
  intro W base args ds gs before hval0 hW hcnd hsz0 _
  have hsz : (DataW.weightsEach Try.prog (Try.f6.params.toList ++ Rows.planePartsSpec.plain.varTypes Try.prog) (ds ++ gs)).all (· ≤ reachBytes) = true := hsz0
  have hval : ∀ (j : Nat) t v, Try.f6.params[j]? = some t → args[j]? = some v → Value.okWide Try.prog W .any base t v := hval0
  have hW' := hW
  obtain ⟨p, q, hA0, hV, rfl, hfz, hnd⟩ := hW
  have hA : DataW.TrodAll enc Try.prog W 0 (fun _ => true) true Try.f6.params.toList args.toList ds p := hA0
  rw [Try.params6] at hA hval hsz
  obtain ⟨v0, vs0, d0, ds0, p0, q0, hargs, rfl, rfl, h0, r0⟩ := trodAll_cons hA
  obtain ⟨v1, vs1, d1, ds1, p1, q1, rfl, rfl, rfl, h1, r1⟩ := trodAll_cons r0
  obtain ⟨v2, vs2, d2, ds2, p2, q2, rfl, rfl, rfl, h2, r2⟩ := trodAll_cons r1
  obtain ⟨v3, vs3, d3, ds3, p3, q3, rfl, rfl, rfl, h3, r3⟩ := trodAll_cons r2
  obtain ⟨rfl, rfl, rfl⟩ := trodAll_nil r3
  obtain rfl : args = #[v0, v1, v2, v3] := by cases args; simp_all
  obtain ⟨rfl, rfl⟩ := trodVars_none hV
  have k0 := h0
  have lt0 : ∀ x ∈ p0, x.block < W.heap.size := by obtain ⟨m, hm⟩ := k0; exact DataW.trod_lt m _ _ _ hm
  obtain ⟨a0, len0, cap0, rfl⟩ := okWide_slice Try.underlying22 (hval 0 22 v0 rfl rfl)
  obtain ⟨l0, rfl, hc0, hC0, ⟨hm0, hw0⟩, y0⟩ := Open.arg_slice (Open.opn_slice (k := k49) Try.underlying22 (by kernel_rfl) opn49) Try.underlying22 h0 hsz (j := 0) rfl rfl (B := 2) (by kernel_rfl)
  have k1 := h1
  have lt1 : ∀ x ∈ p1, x.block < W.heap.size := by obtain ⟨m, hm⟩ := k1; exact DataW.trod_lt m _ _ _ hm
  obtain ⟨a1, len1, cap1, rfl⟩ := okWide_slice Try.underlying22 (hval 1 22 v1 rfl rfl)
  obtain ⟨l1, rfl, hc1, hC1, ⟨hm1, hw1⟩, y1⟩ := Open.arg_slice (Open.opn_slice (k := k49) Try.underlying22 (by kernel_rfl) opn49) Try.underlying22 h1 hsz (j := 1) rfl rfl (B := 2) (by kernel_rfl)
  have k2 := h2
  have lt2 : ∀ x ∈ p2, x.block < W.heap.size := by obtain ⟨m, hm⟩ := k2; exact DataW.trod_lt m _ _ _ hm
  obtain ⟨cs2, rfl, _⟩ := okWide_struct Try.underlying47 (hval 2 47 v2 rfl rfl)
  obtain ⟨fu2, hf2⟩ := h2
  obtain ⟨s2, hK2, hw2⟩ := opn47 fu2 _ _ hf2
  have hcs2 := k47_open hK2
  obtain rfl : cs2 = #[.int .i64 s2.f0, .int .i64 s2.f1, .int .i64 s2.f2] := by apply Array.ext'; simpa [Value.cells] using hcs2
  have k3 := h3
  have lt3 : ∀ x ∈ p3, x.block < W.heap.size := by obtain ⟨m, hm⟩ := k3; exact DataW.trod_lt m _ _ _ hm
  obtain ⟨cs3, rfl, _⟩ := okWide_struct Try.underlying49 (hval 3 49 v3 rfl rfl)
  obtain ⟨fu3, hf3⟩ := h3
  obtain ⟨s3, hK3, hw3⟩ := opn49 fu3 _ _ hf3
  have hcs3 := k49_open hK3
  obtain rfl : cs3 = #[.int .i8 s3.f0, .int .i8 s3.f1] := by apply Array.ext'; simpa [Value.cells] using hcs3
  clear hA0 hval0 hsz0 hsz
  refine (PlaneParts_calls a0 cap0 l0 a1 cap1 l1 s2 s3 W hC0 hc0 hC1 hc1 (by omega) (by omega) (fun s hs => ⟨wf8 (hw0 s hs).1, wf8 (hw0 s hs).2⟩) (fun s hs => ⟨wf8 (hw1 s hs).1, wf8 (hw1 s hs).2⟩) ⟨wf8 hw3.1, wf8 hw3.2⟩).mono fun e W' ⟨he, bel⟩ => ?_
  subst he
  exact ⟨_, rfl, _, _, _, [], _, [], hW', trodAll_mk1 (shut_bool Try.underlying4 _), (trodAll_cons_mk (Below.trod laidOut (by kernel_rfl) (of_decide_eq_true (by kernel_rfl)) k0 bel lt0) (trodAll_cons_mk (Below.trod laidOut (by kernel_rfl) (of_decide_eq_true (by kernel_rfl)) k1 bel lt1) (trodAll_cons_mk (Below.trod laidOut (by kernel_rfl) (of_decide_eq_true (by kernel_rfl)) k2 bel lt2) (trodAll_cons_mk (Below.trod laidOut (by kernel_rfl) (of_decide_eq_true (by kernel_rfl)) k3 bel lt3) trodAll_mk0)))), rfl, bel.frame _, fun h => by cases h⟩
theorem over : Rows.planePartsRow.holds Try.pinned (OpenSpec.ofChange Rows.planePartsSpec) :=
  OpenClaim.holds_of_wide 6 Try.f6 rfl rfl rfl rfl rfl rfl rfl ⟨rfl, rfl, rfl, rfl, rfl⟩ rfl rfl rfl rfl rfl (by kernel_rfl) Try.func6 (by kernel_rfl)
    (of_decide_eq_true (by kernel_rfl)) (by unfold Func.isWrapper; first | (rw [if_pos (by decide +kernel)]; kernel_rfl) | (rw [if_neg (by decide +kernel)]; exact ⟨rfl, rfl⟩))
    (fun os started H enc _ => lifted os started H enc)
theorem proved : Rows.PlanePartsSaid := over
#print axioms proved
end Go.Proofs.Ytkbcomgffpbcbaa.planeParts
namespace Go.Proofs.Ytkbcomgffpbcbaa
theorem planeParts_holds : Rows.PlanePartsSaid := planeParts.proved
end Go.Proofs.Ytkbcomgffpbcbaa
