/- A part of the proof of Hulls: walks of functions, and plain lemmas. No conditions. -/
import Derived.ArgAppend
import Derived.Below
import Derived.BigQuiet
import Derived.Deep.AppendLies
import Derived.Deep.CutBlock
import Derived.Deep.DeepCutAuto
import Derived.Deep.Draws
import Derived.Deep.LoopGhost
import Derived.Deep.OwnRows
import Derived.Deep.QuietTactic
import Derived.Deep.RegionHeld3
import Derived.KernelRfl
import Derived.Laws.BitsLemmas
import Derived.Laws.BytesArg
import Derived.Laws.IdiomCopy
import Derived.Laws.MakeOwn
import Derived.Laws.OwnMore
import Derived.Laws.Rows
import Derived.Laws.Slices
import Derived.Laws.StructEq
import Derived.Lib.AppendStr
import Derived.Lib.ConvBytes
import Derived.Lib.Hide
import Derived.Maps.AppendAt
import Derived.OrdersHeld
import Derived.Outline
import Derived.OwnWalk
import Derived.RowKit
import Derived.RowKit3
import Derived.Shelf.Abstract
import Derived.Tactics
import Derived.Test.YtkbcomgffpbcbaaProg
import Derived.WalkKit
import Derived.WideLaws
import Derived.Test.YtkbcomgffpbcbaaHulls3
import Derived.Test.YtkbcomgffpbcbaaHulls5
import Derived.Test.YtkbcomgffpbcbaaHulls7
import Derived.Test.YtkbcomgffpbcbaaHulls17
namespace Go.Proofs.Ytkbcomgffpbcbaa.Plane
open Go.RowKit Go.Shelf Go.Proofs.YtkbcomgffpbcbaaW.PrintWords Go.Proofs.YtkbcomgffpbcbaaW.PrintLast Go.Proofs.YtkbcomgffpbcbaaW.PrintMore
set_option linter.unusedVariables false
set_option linter.unusedSimpArgs false
theorem F31 {W : World} {A : Option Addr} {n : Nat} {xs : List S31} (h : Kd.C k31 W A n xs) : Kd.F k31 W (fun _ => True) A n xs := fun W' hW' => by
  refine ⟨h.1, h.2.1, fun hn => ?_⟩
  obtain ⟨ad, e, hc⟩ := h.2.2 hn
  refine ⟨ad, e, fun j p hj => ?_⟩
  obtain ⟨c, hl, hK, hcell⟩ := hc j p hj
  refine ⟨c, hl, ?_, fun i u hu => ?_⟩
  · exact hK
  · have hx := hcell i u hu
    have hlt := World.block_lt_of_cell? W _ hx
    have := hW' _ trivial hlt
    unfold World.cell? at hx ⊢
    rw [this]
    exact hx
theorem V31 {W : World} {A : Option Addr} {c : Nat} {xs : List S31} (h : Kd.C k31 W A xs.length xs) (hc : xs.length ≤ c) : Kd.V k31 31 W W.heap.size (fun _ => True) (.slice A xs.length c) xs := Kd.V_mk hc (F31 h)
set_option maxRecDepth 100000 in
set_option maxHeartbeats 1000000 in
theorem notHull_calls (k : Nat) (A : Option Addr) (c : Nat) (l : List S31) (b : Bool) (w : World) (hr : Kd.C k31 w A l.length l) (hc : l.length ≤ c) (h : plane_IsHull.f k l = some b) :
    Calls Try.prog 131 #[.slice A l.length c] w fun e w' => e = .returned (.bool (!b)) ∧ Below w.heap.size w w' := by
  have hk := plane_IsHull.calls k (fun _ => True) A c l b w (V31 hr hc) h
  clear hr
  go_enter Try.func131, Try.ntmps131
  go_wp2_with (go_at_call 16; refine hk.mono ?_; rintro e w' ⟨rfl, hb⟩)
  go_ret
  exact ⟨rfl, hb⟩
def firstNot (k : Nat) : List (List S31) → Int → Option Int
  | [], _ => some (-1)
  | x :: r, i => (plane_IsHull.f k x).bind fun b => if b = true then firstNot k r (i + 1) else some i
theorem firstNot_drop (k : Nat) (ls : List (List S31)) (i : Nat) (hi : i < ls.length) : firstNot k (ls.drop i) i = (plane_IsHull.f k (rd_L4 ls i)).bind fun b => if b = true then firstNot k (ls.drop (i + 1)) ((i + 1 : Nat) : Int) else some (i : Int) := by
  have e : rd_L4 ls i = ls[i] := by unfold rd_L4; simp [List.getD_eq_getElem?_getD, hi]
  rw [List.drop_eq_getElem_cons hi, e]
  rfl
set_option maxRecDepth 100000 in
set_option maxHeartbeats 2000000 in
theorem index_calls (k : Nat) (A : Option Addr) (c : Nat) (ls : List (List S31)) (r : Int) (w : World) (hr : Kd.C (Kd.slice 31 k31) w A ls.length ls) (hc : ls.length ≤ c) (h : firstNot k ls 0 = some r) :
    Calls Try.prog 161 #[.slice A ls.length c, .func (.func 131) #[] #[]] w fun e w' => e = .returned (.int .i64 r) ∧ Below w.heap.size w w' := by
  have HR := Lib.hid hr
  have H0 := Lib.hid h
  have hmax := hr.2.1
  clear hr h
  go_enter Try.func161, Try.ntmps161
  go_wp2
  go_loopg [8] ls.length (fun g v8 wr => ∃ i : Nat, v8 = .int .i64 i ∧ i ≤ ls.length ∧ Hid (firstNot k (ls.drop i) i = some r) ∧ Hid (Below w.heap.size w wr) ∧ ls.length - i ≤ g)
  case atStart => exact ⟨0, rfl, Nat.zero_le _, H0, Lib.hid (Below.refl _ _), by omega⟩
  case round =>
    obtain ⟨i, rfl, hi, HS, HB, hg⟩ := hrel
    by_cases hlt : i < ls.length
    · have hs := HS.out
      rw [firstNot_drop k ls i hlt] at hs
      obtain ⟨b, hb, hs⟩ := Option.bind_eq_some_iff.1 hs
      obtain ⟨ad, A1, c1, e, hx, hl, hi1⟩ := at_L4 HR.out i (by omega) (by omega)
      cases e
      replace hx := (HB.out.cell (World.block_lt_of_cell? w _ hx)).trans hx
      rw [Int.toNat_natCast] at hx
      generalize rd_L4 ls i = x at hb hx hl hi1
      have hi2 : Kd.C k31 wr A1 x.length x := ReadsRow.imp_ hi1 HB.out (fun _ _ h => h)
      have hk := notHull_calls k A1 c1 x b wr hi2 hl hb
      clear hi1 hi2 hb
      cases b
      · injection hs with hs
        subst hs
        go_wp2_with (go_at_call 131; refine hk.mono ?_; rintro e w' ⟨rfl, hb'⟩)
        go_ret
        exact ⟨rfl, HB.out.trans (hb'.mono HB.out.size)⟩
      · have HS2 := Lib.hid hs
        clear hs
        go_wp2_with (go_at_call 131; refine hk.mono ?_; rintro e w' ⟨rfl, hb'⟩)
        go_roundg (ls.length - (i + 1))
        case measure => omega
        case rel => exact ⟨i + 1, by go_num, by omega, HS2, Lib.hid (HB.out.trans (hb'.mono HB.out.size)), by omega⟩
    · obtain rfl : i = ls.length := by omega
      have hs := HS.out
      rw [List.drop_length] at hs
      injection hs with hs
      subst hs
      go_wp2
      go_ret
      exact ⟨rfl, HB.out⟩
theorem firstNot_any (k : Nat) : ∀ (ls : List (List S31)) (i : Nat) (b : Bool), plane_checkHulls.any k ls = some b → ∃ r, firstNot k ls i = some r ∧ decide (0 ≤ r) = b ∧ (-1 ≤ r ∧ r ≤ i + ls.length)
  | [], i, b, h => by
    injection h with h
    subst h
    exact ⟨-1, rfl, by simp, by simp⟩
  | x :: l, i, b, h => by
    obtain ⟨t, ht, h⟩ := Option.bind_eq_some_iff.1 h
    unfold firstNot
    rw [ht]
    cases t
    · injection h with h
      subst h
      exact ⟨i, rfl, by simp, by simp; omega⟩
    · obtain ⟨r, h1, h2, h3⟩ := firstNot_any k l (i + 1) b h
      exact ⟨r, h1, h2, by simp at h3 ⊢; omega⟩
set_option maxRecDepth 100000 in
set_option maxHeartbeats 1000000 in
theorem contains_calls (k : Nat) (A : Option Addr) (c : Nat) (ls : List (List S31)) (b : Bool) (w : World) (hr : Kd.C (Kd.slice 31 k31) w A ls.length ls) (hc : ls.length ≤ c) (h : plane_checkHulls.any k ls = some b) :
    Calls Try.prog 130 #[.slice A ls.length c, .func (.func 131) #[] #[]] w fun e w' => e = .returned (.bool b) ∧ Below w.heap.size w w' := by
  obtain ⟨r, h1, h2, h3⟩ := firstNot_any k ls 0 b h
  have hk := index_calls k A c ls r w hr hc h1
  have HB2 := Lib.hid h2
  clear hr h1 h h2
  go_enter Try.func130, Try.ntmps130
  go_wp2_with (go_at_call 161; refine hk.mono ?_; rintro e w' ⟨rfl, hb⟩)
  go_ret
  exact ⟨by rw [← HB2.out]; rfl, hb⟩
set_option maxRecDepth 100000 in
set_option maxHeartbeats 1000000 in
theorem checkHulls_calls (k : Nat) (A0 : Option Addr) (c0 : Nat) (l0 : List (List (S31))) (r : Int) (w : World) (hr0 : Kd.C (Kd.slice 31 k31) w A0 l0.length l0) (hc0 : l0.length ≤ c0) (h : plane_checkHulls.f k l0 = some r) :
    Calls Try.prog 64 #[.slice A0 l0.length c0] w fun e w' => e = .returned (.int .i64 r) ∧ Below w.heap.size w w' := by
  unfold plane_checkHulls.f at h
  obtain ⟨t, ht, h⟩ := Option.bind_eq_some_iff.1 h
  have hk := plane_checkPoints.calls k A0 c0 l0 t w hr0 hc0 ht
  by_cases h0 : t = 0
  · subst h0
    rw [if_pos rfl] at h
    obtain ⟨b, hb, h⟩ := Option.bind_eq_some_iff.1 h
    have hk2 : ∀ w1, Below w.heap.size w w1 → Calls Try.prog 130 #[.slice A0 l0.length c0, .func (.func 131) #[] #[]] w1 fun e w' => e = .returned (.bool b) ∧ Below w1.heap.size w1 w' := fun w1 hw1 => contains_calls k A0 c0 l0 b w1 (Kd.C_below hr0 hw1) hc0 hb
    have HK := Lib.hid hk2
    clear hr0 hk2 ht hb
    cases b
    · injection h with h
      subst h
      go_enter Try.func64, Try.ntmps64
      go_wp2_with (first | (go_at_call 58; refine hk.mono ?_; rintro e w1 ⟨rfl, hb1⟩) | (go_at_call 130; refine (HK.out _ hb1).mono ?_; rintro e w2 ⟨rfl, hb2⟩))
      go_ret
      exact ⟨rfl, hb1.trans (hb2.mono hb1.size)⟩
    · injection h with h
      subst h
      go_enter Try.func64, Try.ntmps64
      go_wp2_with (first | (go_at_call 58; refine hk.mono ?_; rintro e w1 ⟨rfl, hb1⟩) | (go_at_call 130; refine (HK.out _ hb1).mono ?_; rintro e w2 ⟨rfl, hb2⟩))
      go_ret
      exact ⟨rfl, hb1.trans (hb2.mono hb1.size)⟩
  · rw [if_neg h0] at h
    injection h with h
    subst h
    have h1 : (t != 0) = true := bne_iff_ne.2 h0
    clear hr0 ht
    go_enter Try.func64, Try.ntmps64
    go_wp2_with (first | (go_at_call 58; refine hk.mono ?_; rintro e w1 ⟨rfl, hb1⟩))
    go_ret
    exact ⟨rfl, hb1⟩
end Go.Proofs.Ytkbcomgffpbcbaa.Plane
