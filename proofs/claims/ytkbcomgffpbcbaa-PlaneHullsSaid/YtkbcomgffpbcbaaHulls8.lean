/- A part of the proof of Hulls: walks of functions, and plain lemmas. No conditions. -/
import Derived.ArgAppend
import Derived.Below
import Derived.BigQuiet
import Derived.Deep.AppendLies
import Derived.Deep.CutBlock
import Derived.Deep.DeepCutAuto
import Derived.Deep.Draws
import Derived.Deep.LoopGhost
import Derived.Deep.OwnRows
import Derived.Deep.QuietTactic
import Derived.Deep.RegionHeld3
import Derived.KernelRfl
import Derived.Laws.BitsLemmas
import Derived.Laws.BytesArg
import Derived.Laws.IdiomCopy
import Derived.Laws.MakeOwn
import Derived.Laws.OwnMore
import Derived.Laws.Rows
import Derived.Laws.Slices
import Derived.Laws.StructEq
import Derived.Lib.AppendStr
import Derived.Lib.ConvBytes
import Derived.Lib.Hide
import Derived.Lib.QuietBelowIn
import Derived.LoopIn
import Derived.LoopNIn
import Derived.Maps.AppendAt
import Derived.OrdersHeld
import Derived.Outline
import Derived.OwnWalk
import Derived.OwnWalkIn
import Derived.RangeFuncBound
import Derived.RangeFuncBox
import Derived.RangeFuncCalls
import Derived.RangeFuncLeaves
import Derived.RangeFuncNested
import Derived.RowKit
import Derived.RowKit3
import Derived.Shelf.Abstract
import Derived.Shelf.RegionOpen
import Derived.Tactics
import Derived.TacticsIn
import Derived.TacticsInMore
import Derived.Test.YtkbcomgffpbcbaaProg
import Derived.WalkKit
import Derived.WideLaws
import Derived.Test.YtkbcomgffpbcbaaHulls2
import Derived.Test.YtkbcomgffpbcbaaHulls3
import Derived.Test.YtkbcomgffpbcbaaHulls4
import Derived.Test.YtkbcomgffpbcbaaHulls5
import Derived.Test.YtkbcomgffpbcbaaHulls7
namespace Go.Proofs.Ytkbcomgffpbcbaa.Plane
open Go.RowKit Go.Shelf Go.Proofs.YtkbcomgffpbcbaaW.PrintWords Go.Proofs.YtkbcomgffpbcbaaW.PrintLast Go.Proofs.YtkbcomgffpbcbaaW.PrintMore
set_option linter.unusedVariables false
set_option linter.unusedSimpArgs false
section
attribute [local go_sem] Oper.semAt_some
def upto {α : Type} (f : Nat → α) (k : Nat) : List α := (List.range k).map f
theorem upto_succ {α : Type} (f : Nat → α) (k : Nat) : upto f (k + 1) = upto f k ++ [f k] := by simp [upto, List.range_succ]
theorem upto_length {α : Type} (f : Nat → α) (k : Nat) : (upto f k).length = k := by simp [upto]
theorem upto_take {α : Type} (z : α) (zs : List α) {k : Nat} (hk : k ≤ zs.length) : upto (fun j => zs.getD j z) k = zs.take k := by
  apply List.ext_getElem
  · simp [upto, hk]
  · intro i h1 h2
    have : i < zs.length := by simp [upto] at h1; omega
    simp [upto, this]
theorem upto_all {α : Type} (z : α) (zs : List α) : upto (fun j => zs.getD j z) zs.length = zs := by rw [upto_take z zs (Nat.le_refl _), List.take_length]
def encP (x : S31) : Array Value := #[.agg #[.int .i64 x.f0, .int .i64 x.f1]]
set_option maxRecDepth 100000 in
set_option maxHeartbeats 2000000 in
theorem values1_in {α : Type} (pr : α → S31) (z : α) (F : Fence) (n : Nat) (h157 : F.fn 157) (hro : F.round = none) (hn : 1 ≤ n) (l Bs n₀ b off len cap : Nat) (zs : List α) (hreach : len * 16 ≤ 140737488351232) (hb : b < n₀) (J Jx : List α → World → Prop)
    (W : World) (hnW : n₀ ≤ W.heap.size) (hJ : AbidesFrom W.heap.size J)
    (hY : ∀ pre x W, J pre W → pre.length < len → YieldAt F (n - 1) Try.prog l (encP (pr x)) W fun e W' =>
      (e = .returned (.bool true) ∧ J (pre ++ [x]) W' ∧ Below n₀ W W') ∨ (e = .returned (.bool false) ∧ Jx (pre ++ [x]) W'))
    (hBs : W.cell? ⟨Bs, 0, none⟩ = some (.slice (some ⟨b, off, none⟩) len cap))
    (hc : ∀ j, j < len → W.cell? ⟨b, off + j * 2, none⟩ = some (.int .i64 (pr (zs.getD j z)).f0) ∧ W.cell? ⟨b, off + j * 2 + 1, none⟩ = some (.int .i64 (pr (zs.getD j z)).f1)) (h0 : J [] W) :
    CallsIn F n Try.prog 157 #[.func (.yield l) #[] #[], .pointer (some ⟨Bs, 0, none⟩)] W fun e W' => (∃ v, e = .returned v) ∧
      ((∃ ys, ys = upto (fun j => zs.getD j z) len ∧ J ys W') ∨ (∃ pre, (∃ k, k ≤ len ∧ pre = upto (fun j => zs.getD j z) k) ∧ Jx pre W')) := by
  refine callsIn_of_wp Try.func157 rfl h157 ?_ hro
  simp only [Try.ntmps157, List.size_toArray, List.length_cons, List.length_nil, Nat.reduceAdd, Nat.reduceSub, Array.replicate_succ, Array.replicate_zero, List.push_toArray, List.append_toArray, List.nil_append, List.cons_append]
  have hu := Try.underlying31
  gi_wp2
  gi_loopw [7] (fun i wr => ∃ k : Nat, k ≤ len ∧ i = .int .i64 k ∧ J (upto (fun j => zs.getD j z) k) wr ∧ Below n₀ W wr)
    (fun i _ => len - (intOf i).toNat)
  case atStart => exact ⟨0, Nat.zero_le _, rfl, h0, Below.refl _ _⟩
  case round =>
    obtain ⟨k, hk, rfl, hJs, hnx⟩ := hrel
    by_cases hlt : k < len
    · have hJ2 := hJ _ _ (wr.alloc (.cells #[.int .i64 (pr (zs.getD k z)).f0, .int .i64 (pr (zs.getD k z)).f1] 31)) none hJs (World.grownBy_alloc wr _ none) (fun r e => by cases e)
      obtain ⟨fn, tmps, assign, body, hy, hR⟩ := hY _ (zs.getD k z) _ hJ2 (by rw [upto_length]; exact hlt)
      have hcx := hc k hlt
      have hc0 : wr.cell? ⟨b, off + k * 2, none⟩ = some (.int .i64 (pr (zs.getD k z)).f0) := (hnx.cell (p := ⟨b, off + k * 2, none⟩) hb).trans hcx.1
      have hc1 : wr.cell? ⟨b, off + k * 2 + 1, none⟩ = some (.int .i64 (pr (zs.getD k z)).f1) := (hnx.cell (p := ⟨b, off + k * 2 + 1, none⟩) hb).trans hcx.2
      have hnr : n₀ ≤ wr.heap.size := Nat.le_trans hnW hnx.size
      unfold encP at hy
      obtain ⟨x, hx⟩ : ∃ x, x = zs.getD k z := ⟨_, rfl⟩
      rw [← hx] at hJ2 hy hR hc0 hc1
      have Hx := Lib.hid hx
      clear hx
      clear hcx
      gi_wp2
      refine hR.mono ?_
      rintro e W3 (⟨rfl, hJ3, hk3⟩ | ⟨rfl, hJx3⟩)
      · gi_wp2
        go_roundw
        case rel => exact ⟨k + 1, by omega, by simp, by rw [upto_succ, show zs.getD k z = x from Hx.out.symm]; exact hJ3, hnx.trans (((Below.refl _ wr).alloc hnr _).trans hk3)⟩
        case measure => simp [intOf]; omega
      · gi_wp2
        refine bodyPost_ret (results_none rfl _ _ _) rfl ?_
        exact ⟨⟨_, rfl⟩, .inr ⟨_, ⟨k + 1, by omega, by rw [upto_succ, show zs.getD k z = x from Hx.out.symm]⟩, hJx3⟩⟩
    · obtain rfl : k = len := by omega
      gi_wp2
      go_end0
      exact ⟨⟨_, rfl⟩, .inl ⟨_, rfl, hJs⟩⟩
set_option maxHeartbeats 1000000 in
theorem values_in (F : Fence) (n : Nat) (h126 : F.fn 126) (hro : F.round = none) (a : Option Addr) (len cap : Nat) (w : World) :
    CallsIn F n Try.prog 126 #[.slice a len cap] w fun e w' => e = .returned (.func (.func 157) #[] #[.pointer (some ⟨w.heap.size, 0, none⟩)]) ∧ w' = w.alloc (.cells #[.slice a len cap] 23) := by
  refine callsIn_of_wp Try.func126 rfl h126 ?_ hro
  simp only [Try.ntmps126, List.size_toArray, List.length_cons, List.length_nil, Nat.reduceAdd, Nat.reduceSub, Array.replicate_succ, Array.replicate_zero, List.push_toArray, List.append_toArray, List.nil_append, List.cons_append]
  gi_wp2
  go_ret
  exact ⟨rfl, rfl⟩
def Cells (W : World) (b : Nat) (zs : List S31) : Prop := ∀ j, j < zs.length → W.cell? ⟨b, 0 + j * 2, none⟩ = some (.int .i64 (zs.getD j z31).f0) ∧ W.cell? ⟨b, 0 + j * 2 + 1, none⟩ = some (.int .i64 (zs.getD j z31).f1)
theorem Cells.below {n₀ b : Nat} {A B : World} {zs : List S31} (hc : Cells A b zs) (h : Below n₀ A B) (hb : b < n₀) : Cells B b zs :=
  fun j hj => ⟨(h.cell (p := ⟨b, 0 + j * 2, none⟩) hb).trans (hc j hj).1, (h.cell (p := ⟨b, 0 + j * 2 + 1, none⟩) hb).trans (hc j hj).2⟩
theorem values_stops {α : Type} (pr : α → S31) (z : α) (hz : pr z = z31) (F : Fence) (n : Nat) (h157 : F.fn 157) (hro : F.round = none) (hn : 1 ≤ n) (Bs n₀ b cap : Nat) (zs : List α) (hreach : zs.length * 16 ≤ 140737488351232) (w : World) (hBs : Bs < w.heap.size) (hn₀ : n₀ ≤ w.heap.size) (hb : b < n₀)
    (hc : w.cell? ⟨Bs, 0, none⟩ = some (.slice (some ⟨b, 0, none⟩) zs.length cap)) (hI : Cells w b (zs.map pr)) :
    SeqStopsK F n Try.prog 157 #[.pointer (some ⟨Bs, 0, none⟩)] (fun x => encP (pr x)) (Below n₀) (fun ys => ys = zs) (fun pre => pre <+: zs) zs.length w := fun l J Jx W hW hJ _ hY h0 => by
  have hc' := (hW.cell (p := ⟨Bs, 0, none⟩) hBs).trans hc
  have hI' := hI.below hW (by omega)
  refine (values1_in pr z F n h157 hro hn l Bs n₀ b 0 zs.length cap zs hreach hb J Jx W (Nat.le_trans hn₀ hW.size) hJ hY hc' (fun j hj => ?_) h0).mono ?_
  · have := hI' j (by simpa using hj)
    have e : (zs.map pr).getD j z31 = pr (zs.getD j z) := by rw [← hz]; simp [List.getD_eq_getElem?_getD, hj]
    rw [e] at this
    exact this
  · rintro e W' ⟨he, ⟨ys, rfl, hj⟩ | ⟨pre, ⟨k, hk, rfl⟩, hj⟩⟩
    · exact ⟨he, .inl ⟨_, upto_all z zs, hj⟩⟩
    · exact ⟨he, .inr ⟨_, by rw [upto_take z zs hk]; exact List.take_prefix _ _, hj⟩⟩
def flat (zs : List S31) : List Value := zs.flatMap fun p => [.int .i64 p.f0, .int .i64 p.f1]
theorem flat_length (zs : List S31) : (flat zs).length = zs.length * 2 := by
  induction zs with
  | nil => rfl
  | cons a r ih => simp only [flat, List.flatMap_cons, List.length_append, List.length_cons, List.length_nil] at ih ⊢; omega
theorem flat_append (xs ys : List S31) : flat (xs ++ ys) = flat xs ++ flat ys := by simp [flat]
theorem flat_take (zs : List S31) (k : Nat) : flat (zs.take k) = (flat zs).take (k * 2) := by
  induction zs generalizing k with
  | nil => simp [flat]
  | cons a r ih =>
    cases k with
    | zero => simp [flat]
    | succ k =>
      have e : (k + 1) * 2 = k * 2 + 1 + 1 := by omega
      rw [e]
      have := ih k
      simp only [flat, List.take_succ_cons, List.flatMap_cons, List.cons_append, List.nil_append] at this ⊢
      rw [this]
theorem flat_at (zs : List S31) (j : Nat) (hj : j < zs.length) : (flat zs)[j * 2]? = some (.int .i64 (zs.getD j z31).f0) ∧ (flat zs)[j * 2 + 1]? = some (.int .i64 (zs.getD j z31).f1) := by
  induction zs generalizing j with
  | nil => simp at hj
  | cons a r ih =>
    cases j with
    | zero => simp [flat]
    | succ j =>
      have e : (j + 1) * 2 = j * 2 + 1 + 1 := by omega
      have e2 : (j + 1) * 2 + 1 = j * 2 + 1 + 1 + 1 := by omega
      have := ih j (by simpa using hj)
      rw [e]
      simpa [flat] using this
def OwnP (W : World) (base : Nat) (v : Value) (zs : List S31) : Prop := W.ownsRow base 31 2 v zs.length (flat zs)
theorem OwnP.nil (W : World) (base : Nat) : OwnP W base (.slice none 0 0) [] := ⟨rfl, .inl ⟨rfl, rfl⟩⟩
theorem OwnP.slice {W : World} {base : Nat} {v : Value} {zs : List S31} (h : OwnP W base v zs) (hp : 0 < zs.length) :
    ∃ g cap, v = .slice (some ⟨g, 0, none⟩) zs.length cap ∧ base ≤ g ∧ g < W.heap.size ∧ zs.length ≤ cap ∧ cap ≤ maxLen ∧ ∃ cur, W.heap[g]? = some (.cells cur 31 (0, 0)) := by
  obtain ⟨h1, ⟨rfl, h2⟩ | ⟨g, cap, cur, rfl, hb, hh, hc, hm, r⟩⟩ := h
  · omega
  · exact ⟨g, cap, rfl, hb, (Array.getElem?_eq_some_iff.1 hh).1, hc, hm, cur, hh⟩
theorem OwnP.cell {W : World} {base g n cap : Nat} {zs : List S31} (h : OwnP W base (.slice (some ⟨g, 0, none⟩) n cap) zs) {j : Nat} (hj : j < zs.length) :
    W.cell? ⟨g, j * 2, none⟩ = some (.int .i64 (zs.getD j z31).f0) ∧ W.cell? ⟨g, j * 2 + 1, none⟩ = some (.int .i64 (zs.getD j z31).f1) := by
  have ha := flat_at zs j hj
  have := h.cells (g := g) (by simp [Value.ownBlock])
  have q1 := this _ _ ha.1
  have q2 := this _ _ ha.2
  rw [add_plain] at q1 q2
  exact ⟨q1, q2⟩
theorem OwnP.take {W : World} {base g n cap : Nat} {zs : List S31} (h : OwnP W base (.slice (some ⟨g, 0, none⟩) n cap) zs) {m : Nat} (hm : m ≤ zs.length) : OwnP W base (.slice (some ⟨g, 0, none⟩) m cap) (zs.take m) := by
  obtain ⟨h1, ⟨h2, _⟩ | ⟨g', cap', cur, e, hb, hh, hc, hm', hs, ht⟩⟩ := h
  · simp at h2
  · injection e with e1 e2 e3
    injection e1 with e1
    injection e1 with e1
    subst e1
    subst e2
    subst e3
    refine ⟨by rw [flat_length], .inr ⟨g, cap, cur, ?_, hb, hh, by rw [List.length_take]; omega, hm', hs, ?_⟩⟩
    · rw [List.length_take, Nat.min_eq_left hm]
    · rw [flat_take, ← ht, List.take_take, List.length_take, Nat.min_eq_left hm]
      congr 1
      omega
theorem OwnP.below {W W' : World} {base : Nat} {v : Value} {zs : List S31} (h : OwnP W base v zs) (hb : Below W.heap.size W W') : OwnP W' base v zs := by
  refine ⟨h.1, ?_⟩
  rcases h.2 with h2 | ⟨g, cap, cur, e, hb', hh, r⟩
  · exact .inl h2
  · exact .inr ⟨g, cap, cur, e, hb', (hb.block g (Array.getElem?_eq_some_iff.1 hh).1).trans hh, r⟩
theorem OwnP.setBox {W : World} {base B : Nat} {t : TypeId} {u v : Value} {zs : List S31} (h : OwnP W base v zs) (hB : Boxed W B t u) (ht : t ≠ 31) (u' : Value) : OwnP (W.setCell ⟨B, 0, none⟩ u') base v zs := by
  refine ⟨h.1, ?_⟩
  rcases h.2 with h2 | ⟨g, cap, cur, e, hb', hh, r⟩
  · exact .inl h2
  · refine .inr ⟨g, cap, cur, e, hb', (Below.heap_setCell W _ u' g ?_).trans hh, r⟩
    rintro rfl
    rw [show W.heap[g]? = _ from hB] at hh
    simp at hh
    exact ht hh.2
theorem OwnP.toR {W : World} {base : Nat} {v : Value} {zs : List S31} (h : OwnP W base v zs) {ok : Nat → Prop} (hok : ∀ k, v.ownBlock = some k → ok k) : Kd.R k31 31 W base ok v zs := by
  refine ⟨hok, flat zs, h, flat_length zs, fun j p hj => ?_⟩
  obtain ⟨hl, rfl⟩ := List.getElem?_eq_some_iff.1 hj
  have e : ((flat zs).drop (j * 2)).take 2 = [.int .i64 zs[j].f0, .int .i64 zs[j].f1] := by
    have ha := flat_at zs j hl
    have hd : zs.getD j z31 = zs[j] := by simp [hl]
    rw [hd] at ha
    apply List.ext_getElem?
    intro i
    match i with
    | 0 => simpa using ha.1
    | 1 => simpa using ha.2
    | i + 2 => simp; omega
  rw [show k31.sz = 2 from rfl, e]
  exact k31_mkM _ _ _ _
theorem flat_of_reps {W : World} {base : Nat} {ok : Nat → Prop} {zs : List S31} {inner : List Value} (h : Reps (k31.M W base ok) 2 zs inner) : inner = flat zs := by
  apply List.ext_getElem?
  intro i
  by_cases hi : i / 2 < zs.length
  · have hM := h.2 (i / 2) _ (List.getElem?_eq_getElem hi)
    have e := k31_openM hM
    have ha := flat_at zs (i / 2) hi
    have hd : zs.getD (i / 2) z31 = zs[i / 2] := by simp [hi]
    rw [hd] at ha
    have g0 : ((inner.drop (i / 2 * 2)).take 2)[i % 2]? = inner[i]? := by
      rw [List.getElem?_take, if_pos (by omega), List.getElem?_drop]
      congr 1
      omega
    rw [← g0, e]
    rcases Nat.mod_two_eq_zero_or_one i with h2 | h2
    · have : i = i / 2 * 2 := by omega
      rw [h2]; conv => rhs; rw [this]
      rw [ha.1]; rfl
    · have : i = i / 2 * 2 + 1 := by omega
      rw [h2]; conv => rhs; rw [this]
      rw [ha.2]; rfl
  · have l1 := h.1
    have l2 := flat_length zs
    rw [List.getElem?_eq_none (by omega), List.getElem?_eq_none (by omega)]
theorem OwnP.ofR {W : World} {base : Nat} {ok : Nat → Prop} {v : Value} {zs : List S31} (h : Kd.R k31 31 W base ok v zs) : OwnP W base v zs := by
  obtain ⟨_, inner, ho, hr⟩ := h
  have : inner = flat zs := flat_of_reps hr
  rw [this] at ho
  exact ho
end
end Go.Proofs.Ytkbcomgffpbcbaa.Plane
namespace Go.Proofs.Ytkbcomgffpbcbaa.Plane
open Go.RowKit Go.Proofs.YtkbcomgffpbcbaaW.PrintWords Go.Proofs.YtkbcomgffpbcbaaW.PrintLast Go.Proofs.YtkbcomgffpbcbaaW.PrintMore
theorem wrap_id {x : Int} (h1 : -9223372036854775808 ≤ x) (h2 : x ≤ 9223372036854775807) : wrap64 x = x := by
  unfold wrap64
  omega
theorem mul_bound {u v A B : Int} (h1 : -A ≤ u) (h2 : u ≤ A) (h3 : -B ≤ v) (h4 : v ≤ B) : -(A * B) ≤ u * v ∧ u * v ≤ A * B := by
  have hA : 0 ≤ A := by omega
  have hB : 0 ≤ B := by omega
  have e1 : (A - u) * (B + v) = A * B + A * v - u * B - u * v := by grind
  have e2 : (A + u) * (B - v) = A * B - A * v + u * B - u * v := by grind
  have e3 : (A - u) * (B - v) = A * B - A * v - u * B + u * v := by grind
  have e4 : (A + u) * (B + v) = A * B + A * v + u * B + u * v := by grind
  have p1 := Int.mul_nonneg (a := A - u) (b := B + v) (by omega) (by omega)
  have p2 := Int.mul_nonneg (a := A + u) (b := B - v) (by omega) (by omega)
  have p3 := Int.mul_nonneg (a := A - u) (b := B - v) (by omega) (by omega)
  have p4 := Int.mul_nonneg (a := A + u) (b := B + v) (by omega) (by omega)
  constructor <;> omega
theorem cross_some {a0 a1 b0 b1 c0 c1 : Int} (ha : (-67108864 ≤ a0 ∧ a0 ≤ 67108864) ∧ -67108864 ≤ a1 ∧ a1 ≤ 67108864) (hb : (-67108864 ≤ b0 ∧ b0 ≤ 67108864) ∧ -67108864 ≤ b1 ∧ b1 ≤ 67108864)
    (hc : (-67108864 ≤ c0 ∧ c0 ≤ 67108864) ∧ -67108864 ≤ c1 ∧ c1 ≤ 67108864) : plane_cross.f a0 a1 b0 b1 c0 c1 = some (Geo.crs (a0, a1) (b0, b1) (c0, c1)) := by
  unfold plane_cross.f Geo.crs
  have m1 := mul_bound (u := b0 - a0) (v := c1 - a1) (A := 134217728) (B := 134217728) (by omega) (by omega) (by omega) (by omega)
  have m2 := mul_bound (u := b1 - a1) (v := c0 - a0) (A := 134217728) (B := 134217728) (by omega) (by omega) (by omega) (by omega)
  rw [wrap_id (x := b0 - a0) (by omega) (by omega), wrap_id (x := c1 - a1) (by omega) (by omega), wrap_id (x := b1 - a1) (by omega) (by omega), wrap_id (x := c0 - a0) (by omega) (by omega),
    wrap_id (x := (b0 - a0) * (c1 - a1)) (by omega) (by omega), wrap_id (x := (b1 - a1) * (c0 - a0)) (by omega) (by omega), wrap_id (by omega) (by omega)]
theorem right_some {a0 a1 b0 b1 c0 c1 : Int} (ha : (-67108864 ≤ a0 ∧ a0 ≤ 67108864) ∧ -67108864 ≤ a1 ∧ a1 ≤ 67108864) (hb : (-67108864 ≤ b0 ∧ b0 ≤ 67108864) ∧ -67108864 ≤ b1 ∧ b1 ≤ 67108864)
    (hc : (-67108864 ≤ c0 ∧ c0 ≤ 67108864) ∧ -67108864 ≤ c1 ∧ c1 ≤ 67108864) : plane_corners_1.f a0 a1 b0 b1 c0 c1 = some (decide (Geo.crs (a0, a1) (b0, b1) (c0, c1) ≤ 0)) := by
  unfold plane_corners_1.f
  rw [cross_some ha hb hc]
  rfl
end Go.Proofs.Ytkbcomgffpbcbaa.Plane
