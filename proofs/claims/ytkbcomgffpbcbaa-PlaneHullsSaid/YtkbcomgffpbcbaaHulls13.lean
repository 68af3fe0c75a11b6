/- A part of the proof of Hulls: walks of functions, and plain lemmas. No conditions. -/
import Derived.ArgAppend
import Derived.Below
import Derived.BigQuiet
import Derived.Deep.AppendLies
import Derived.Deep.CutBlock
import Derived.Deep.DeepCutAuto
import Derived.Deep.DeepFit
import Derived.Deep.DeepMust
import Derived.Deep.Draws
import Derived.Deep.LoopGhost
import Derived.Deep.OwnRows
import Derived.Deep.QuietTactic
import Derived.Deep.RegionHeld3
import Derived.Ground.SlgnProg
import Derived.Ground.SlsfProg
import Derived.KernelRfl
import Derived.Laws.BitsLemmas
import Derived.Laws.BytesArg
import Derived.Laws.IdiomCopy
import Derived.Laws.MakeOwn
import Derived.Laws.OwnMore
import Derived.Laws.Rows
import Derived.Laws.Slices
import Derived.Laws.StructEq
import Derived.Lib.AppendStr
import Derived.Lib.ConvBytes
import Derived.Lib.Hide
import Derived.Lib.QuietBelowIn
import Derived.Lib.SliceRun
import Derived.Lib.SlicesCompact
import Derived.LoopIn
import Derived.LoopNIn
import Derived.Maps.AppendAt
import Derived.OrdersHeld
import Derived.Outline
import Derived.OwnWalk
import Derived.OwnWalkIn
import Derived.RangeFuncBound
import Derived.RangeFuncBox
import Derived.RangeFuncCalls
import Derived.RangeFuncLeaves
import Derived.RangeFuncNested
import Derived.RowKit
import Derived.RowKit3
import Derived.Shelf.Abstract
import Derived.Shelf.RegionOpen
import Derived.Shelf.SlGeneric
import Derived.Shelf.SlSortCmp.WholeK
import Derived.Shelf.Slices.CompactI
import Derived.Shelf.SlicesQ.Reverse
import Derived.Sort.OwnSorted
import Derived.Tactics
import Derived.TacticsIn
import Derived.TacticsInMore
import Derived.Test.YtkbcomgffpbcbaaProg
import Derived.WalkKit
import Derived.WalkSpells
import Derived.WideLaws
import Derived.Test.YtkbcomgffpbcbaaHulls2
import Derived.Test.YtkbcomgffpbcbaaHulls3
import Derived.Test.YtkbcomgffpbcbaaHulls5
import Derived.Test.YtkbcomgffpbcbaaHulls7
import Derived.Test.YtkbcomgffpbcbaaHulls8
import Derived.Test.YtkbcomgffpbcbaaHulls9
import Derived.Test.YtkbcomgffpbcbaaHulls10
import Derived.Test.YtkbcomgffpbcbaaHulls12
namespace Go.Proofs.Ytkbcomgffpbcbaa.Plane
open Go.RowKit Go.Shelf Go.Sort Go.Lib Go.Proofs.YtkbcomgffpbcbaaW.PrintWords Go.Proofs.YtkbcomgffpbcbaaW.PrintLast Go.Proofs.YtkbcomgffpbcbaaW.PrintMore
set_option linter.unusedVariables false
set_option linter.unusedSimpArgs false
set_option maxRecDepth 100000 in
set_option maxHeartbeats 1000000 in
theorem insertion_empty (a : Option Addr) (cap : Nat) (f : Value) (w : World) :
    Calls Try.prog 172 #[.slice a 0 cap, .int .i64 0, .int .i64 0, f] w fun e w' => e = .returned (.tuple #[]) ∧ w' = w := by
  go_enter Try.func172, Try.ntmps172
  go_wp2
  go_loopg [8] 0 (fun _ s4 wr => s4 = .int .i64 1 ∧ wr = w)
  case atStart => exact ⟨rfl, rfl⟩
  case round =>
    obtain ⟨rfl, rfl⟩ := hrel
    go_wp2
    go_end0
    exact ⟨rfl, rfl⟩
set_option maxRecDepth 100000 in
set_option maxHeartbeats 1000000 in
theorem pdq_empty (a : Option Addr) (cap : Nat) (lim : Int) (f : Value) (w : World) :
    Calls Try.prog 154 #[.slice a 0 cap, .int .i64 0, .int .i64 0, .int .i64 lim, f] w fun e w' => e = .returned (.tuple #[]) ∧ w' = w := by
  go_enter Try.func154, Try.ntmps154
  go_wp2
  go_loopg [1, 2] 0 (fun _ s1 s2 wr => s1 = .int .i64 0 ∧ s2 = .int .i64 0 ∧ wr = w)
  case atStart => exact ⟨rfl, rfl, rfl⟩
  case round =>
    obtain ⟨rfl, rfl, rfl⟩ := hrel
    go_wp2_with (go_at_call 172; refine (insertion_empty _ _ _ _).mono ?_; rintro e w' ⟨rfl, rfl⟩)
    refine bodyPost_ret (results_none rfl _ _ _) rfl ?_
    exact ⟨rfl, rfl⟩
set_option maxRecDepth 100000 in
set_option maxHeartbeats 1000000 in
theorem sort_empty (a : Option Addr) (cap : Nat) (f : Value) (w : World) :
    Calls Try.prog 121 #[.slice a 0 cap, f] w fun e w' => e = .returned (.tuple #[]) ∧ w' = w := by
  have hl : Calls Try.prog 155 #[.int .u64 0] w fun e w' => e = .returned (.int .i64 (Lib.bitLen 0 : Nat)) ∧ w' = w := 
    Any.bits_Len (SlLaysF0.n15.bits (P := Try.prog) (ρ := Try.sortP_ren) { Try.sortP with }) (0 : Int) w (by omega) (by omega)
  go_enter Try.func121, Try.ntmps121
  go_wp2_with (first | (go_at_call 155; refine hl.mono ?_; rintro e w' ⟨rfl, rfl⟩) | (go_at_call 154; refine (pdq_empty _ _ _ _ _).mono ?_; rintro e w' ⟨rfl, rfl⟩))
  go_end0
  exact ⟨rfl, rfl⟩
set_option maxRecDepth 100000 in
set_option maxHeartbeats 1000000 in
theorem compact_empty (a : Option Addr) (cap : Nat) (w : World) :
    Calls Try.prog 123 #[.slice a 0 cap] w fun e w' => e = .returned (.slice a 0 cap) ∧ w' = w := by
  go_enter Try.func123, Try.ntmps123
  go_wp2
  go_ret
  exact ⟨rfl, rfl⟩
end Go.Proofs.Ytkbcomgffpbcbaa.Plane
namespace Go.Proofs.Ytkbcomgffpbcbaa.Plane
open Go.RowKit Go.Shelf Go.Sort Go.Lib Go.Proofs.YtkbcomgffpbcbaaW.PrintWords Go.Proofs.YtkbcomgffpbcbaaW.PrintLast Go.Proofs.YtkbcomgffpbcbaaW.PrintMore
set_option linter.unusedVariables false
set_option linter.unusedSimpArgs false
theorem OwnP.zero {W : World} {base : Nat} {v : Value} {zs : List S31} (h : OwnP W base v zs) (h0 : zs.length = 0) : ∃ a c, v = .slice a 0 c := by
  rcases h.2 with ⟨rfl, _⟩ | ⟨g, cap, cur, rfl, _⟩
  · exact ⟨none, 0, rfl⟩
  · exact ⟨_, cap, by rw [h0]⟩
def SortedP (zs : List S31) : Prop := ∀ i j, i < j → j < zs.length → ¬ Geo.lex ((zs.getD j z31).f0, (zs.getD j z31).f1) ((zs.getD i z31).f0, (zs.getD i z31).f1)
theorem sortO (base : Nat) (v : Value) (zs : List S31) (w : World) (h : OwnP w base v zs) (hsz : zs.length ≤ 65536) :
    Calls Try.prog 121 #[v, .func (.func 122) #[] #[]] w fun e w' => e = .returned (.tuple #[]) ∧ ∃ zs', zs'.Perm zs ∧ SortedP zs' ∧ OwnP w' base v zs' ∧ ∀ B, B ≤ base → B ≤ w.heap.size → Below B w w' := by
  by_cases h0 : zs.length = 0
  · obtain ⟨a, c, rfl⟩ := h.zero h0
    refine (sort_empty a c _ w).mono ?_
    rintro e w' ⟨rfl, rfl⟩
    exact ⟨rfl, zs, List.Perm.refl _, fun i j _ hj => by omega, h, fun B _ _ => Below.refl _ _⟩
  · obtain ⟨g, cap, rfl, hg, _⟩ := h.slice (by omega)
    refine (sort_calls base g cap zs w h hsz).mono ?_
    rintro e w' ⟨rfl, zs', h1, h2, h3, h4⟩
    exact ⟨rfl, zs', h1, h2, by rw [show zs.length = zs'.length from h1.length_eq.symm] at h3 ⊢; exact h3, fun B h5 h6 => (Below.refl B w).grown h4 h6 (fun k e => by injection e with e; omega)⟩
def compactP (zs : List S31) : List S31 := compact zs
theorem compactUpTo_length_le (d : Array S31) (m : Nat) : (compactUpTo d m).length ≤ m := by
  unfold compactUpTo
  rw [List.length_map]
  have := List.length_filter_le (keeps d) (List.range m)
  simpa using this
theorem compactO (base : Nat) (v : Value) (zs : List S31) (w : World) (h : OwnP w base v zs) (hsz : zs.length ≤ 65536) :
    Calls Try.prog 123 #[v] w fun e w' => ∃ v', e = .returned v' ∧ OwnP w' base v' (compactP zs) ∧ ∀ B, B ≤ base → B ≤ w.heap.size → Below B w w' := by
  by_cases h0 : zs.length = 0
  · obtain ⟨a, c, rfl⟩ := h.zero h0
    refine (compact_empty a c w).mono ?_
    rintro e w' ⟨rfl, rfl⟩
    have : zs = [] := List.length_eq_zero_iff.1 h0
    subst this
    exact ⟨_, rfl, h, fun B _ _ => Below.refl _ _⟩
  · obtain ⟨g, cap, rfl, hg, hg2, hg3, _⟩ := h.slice (by omega)
    have hc := compact_arr g cap zs.toArray w h.holds (by simpa using hsz) (by simpa using hg3)
    simp only [List.size_toArray] at hc
    refine hc.mono ?_
    rintro e w' ⟨rfl, q, rfl⟩
    have hl := compactUpTo_length_le zs.toArray zs.length
    refine ⟨_, rfl, ?_, fun B h5 h6 => (Below.refl B w).grown (row := some g) ?_ h6 (fun k e => by injection e with e; omega)⟩
    · have hd : (compactUpTo zs.toArray zs.length ++ List.replicate (zs.length - (compactUpTo zs.toArray zs.length).length) z31).toArray.size = zs.length := by simp; omega
      have h1 := OwnP.sorted (os := #[]) (n := q) h hd
      have h2 := h1.take (m := (compactUpTo zs.toArray zs.length).length) (by simp)
      have e1 : sortWorldK encL 2 w g 0 q (compactUpTo zs.toArray zs.length ++ List.replicate (zs.length - (compactUpTo zs.toArray zs.length).length) z31).toArray #[] = putRowK encL 2 (Sort.ahead w q) g 0 (compactUpTo zs.toArray zs.length ++ List.replicate (zs.length - (compactUpTo zs.toArray zs.length).length) z31).toArray := by
        unfold sortWorldK; rw [grow_empty]
      rw [e1] at h2
      have e2 : ((compactUpTo zs.toArray zs.length ++ List.replicate (zs.length - (compactUpTo zs.toArray zs.length).length) z31).toArray.toList).take (compactUpTo zs.toArray zs.length).length = compactP zs := by
        rw [List.toList_toArray, List.take_left']
        · rfl
        · rfl
      rw [e2] at h2
      exact h2
    · have := grownBy_sortedP (w := w) (g := g) (n := q) (os := #[]) (compactUpTo zs.toArray zs.length ++ List.replicate (zs.length - (compactUpTo zs.toArray zs.length).length) z31).toArray
      unfold sortWorldK at this
      rw [grow_empty] at this
      exact this
theorem reverseO (base : Nat) (v : Value) (zs : List S31) (w : World) (h : OwnP w base v zs) (hsz : zs.length ≤ 65536) :
    Calls Try.prog 127 #[v] w fun e w' => e = .returned (.tuple #[]) ∧ OwnP w' base v zs.reverse ∧ (∀ B, B ≤ base → B ≤ w.heap.size → Below B w w') ∧ w.grownBy w' v.ownBlock := by
  by_cases h0 : zs.length = 0
  · obtain ⟨a, c, rfl⟩ := h.zero h0
    refine Calls.mono (show Calls Try.prog 127 _ w _ from AnyQ.slices_Reverse_empty Try.revP a c w) ?_
    rintro e w' ⟨rfl, rfl⟩
    have : zs = [] := List.length_eq_zero_iff.1 h0
    subst this
    exact ⟨rfl, h, fun B _ _ => Below.refl _ _, rfl, rfl, rfl, Nat.le_refl _, fun _ _ _ => rfl⟩
  · obtain ⟨g, cap, rfl, hg, hg2, hg3, _⟩ := h.slice (by omega)
    have hc := AnyQ.slices_Reverse Try.revP 2 Try.isAgg31 Try.sizeOf31 encL (fun _ => rfl) (fun x v hv => by simp [encL] at hv; rcases hv with rfl | rfl <;> rfl) g 0 cap zs.toArray w h.holds (by simp; omega)
    simp only [List.size_toArray] at hc
    refine Calls.mono (show Calls Try.prog 127 _ w _ from hc) ?_
    rintro e w' ⟨rfl, q, rfl⟩
    have hd : zs.toArray.reverse.size = zs.length := by simp
    have h1 := OwnP.sorted (os := #[]) (n := q) h hd
    have h3 := grownBy_sortedP (w := w) (g := g) (n := q) (os := #[]) zs.toArray.reverse
    unfold sortWorldK at h1 h3
    rw [grow_empty] at h1 h3
    refine ⟨rfl, ?_, fun B h5 h6 => (Below.refl B w).grown (row := some g) h3 h6 (fun k e => by injection e with e; omega), h3⟩
    have e1 : zs.toArray.reverse.toList = zs.reverse := by simp
    rw [e1] at h1
    exact h1
end Go.Proofs.Ytkbcomgffpbcbaa.Plane
