/- A part of the proof of Hulls: walks of functions, and plain lemmas. No conditions. -/
import Derived.ArgAppend
import Derived.Below
import Derived.BigQuiet
import Derived.Deep.AppendLies
import Derived.Deep.CutBlock
import Derived.Deep.DeepCutAuto
import Derived.Deep.DeepFit
import Derived.Deep.DeepMust
import Derived.Deep.Draws
import Derived.Deep.LoopGhost
import Derived.Deep.OwnRows
import Derived.Deep.QuietTactic
import Derived.Deep.RegionHeld3
import Derived.Ground.SlgnProg
import Derived.Ground.SlsfProg
import Derived.KernelRfl
import Derived.Laws.BitsLemmas
import Derived.Laws.BytesArg
import Derived.Laws.IdiomCopy
import Derived.Laws.MakeOwn
import Derived.Laws.OwnMore
import Derived.Laws.Rows
import Derived.Laws.Slices
import Derived.Laws.StructEq
import Derived.Lib.AppendStr
import Derived.Lib.ConvBytes
import Derived.Lib.Hide
import Derived.Lib.QuietBelow
import Derived.Lib.QuietBelowIn
import Derived.Lib.SliceRun
import Derived.Lib.SlicesCompact
import Derived.LoopIn
import Derived.LoopNIn
import Derived.Maps.AppendAt
import Derived.OrdersHeld
import Derived.Outline
import Derived.OwnWalk
import Derived.OwnWalkIn
import Derived.RangeFuncBound
import Derived.RangeFuncBox
import Derived.RangeFuncCalls
import Derived.RangeFuncLeaves
import Derived.RangeFuncNested
import Derived.RowKit
import Derived.RowKit3
import Derived.Shelf.Abstract
import Derived.Shelf.RegionOpen
import Derived.Shelf.SlGeneric
import Derived.Shelf.SlSortCmp.WholeK
import Derived.Shelf.Slices.CompactI
import Derived.Shelf.SlicesQ.Reverse
import Derived.Sort.LoopGhostIn
import Derived.Sort.OwnSorted
import Derived.StillTailTactics
import Derived.Tactics
import Derived.TacticsIn
import Derived.TacticsInMore
import Derived.Test.YtkbcomgffpbcbaaProg
import Derived.WalkKit
import Derived.WalkSmall
import Derived.WalkSpells
import Derived.WideLaws
import Derived.Test.YtkbcomgffpbcbaaHulls2
import Derived.Test.YtkbcomgffpbcbaaHulls3
import Derived.Test.YtkbcomgffpbcbaaHulls4
import Derived.Test.YtkbcomgffpbcbaaHulls5
import Derived.Test.YtkbcomgffpbcbaaHulls7
import Derived.Test.YtkbcomgffpbcbaaHulls8
import Derived.Test.YtkbcomgffpbcbaaHulls10
import Derived.Test.YtkbcomgffpbcbaaHulls16
import Derived.Test.YtkbcomgffpbcbaaHulls18
import Derived.Test.YtkbcomgffpbcbaaHulls24
namespace Go.Proofs.Ytkbcomgffpbcbaa.Plane
open Go.RowKit Go.Shelf Go.Sort Go.Proofs.YtkbcomgffpbcbaaW.PrintWords Go.Proofs.YtkbcomgffpbcbaaW.PrintLast Go.Proofs.YtkbcomgffpbcbaaW.PrintMore
set_option linter.unusedVariables false
set_option linter.unusedSimpArgs false
theorem list_appP {ops : Array Oper} {rest : List Oper} {o : Oper} {a : Act} {W : World} {Q : Exit → Act → World → Prop} (base : Nat) (w0 : World) (hgd : o.guard = none) (s x : Operand)
    (ho : o.op = .call { callee := .builtin .append, args := #[s, x], argTypes := #[23, 23] }) (v : Value) (xs ys : List S31) (A : Option Addr) (m c : Nat) (hs : a.eval s = v) (hx : a.eval x = .slice A m c)
    (HO : OwnP W base v xs) (HR : ReadsRow (fun x cs => cs = encL x) 2 W A m ys) (HB : RowKit.Below base w0 W) (hbase : base ≤ W.heap.size) (hl : xs.length + m ≤ 200000)
    (h : ∀ v1 w1, OwnP w1 base v1 (xs ++ ys) → RowKit.Below base w0 w1 → W.grownBy w1 v.ownBlock → (v1.ownBlock = v.ownBlock ∨ ∃ b, v1.ownBlock = some b ∧ W.heap.size ≤ b) → wpList Try.prog ops Q rest (a.put o.dst v1) w1) :
    wpList Try.prog ops Q (o :: rest) a W :=
  Kd.R_append_rows k31 (Rr := fun x cs => cs = encL x) (w0 := w0) base hgd s x 23 31 (.agg #[(.int .i64 0), (.int .i64 0)]) 16 ho Try.underlying23 info31 rfl (by decide) (by omega) v xs ys A m c (fun _ => True) (fun _ => False) hs hx (HO.toR (fun _ _ => trivial)) HR (fun x cs h => by rw [h]; exact k31_mkM _ _ _ _) (fun _ h => h.elim) (fun _ _ => trivial) HB hbase (by omega)
    (fun v1 w1 h1 h2 h3 h4 => h v1 w1 (OwnP.ofR h1) h2 h3 h4)
section
variable (m t : Int) (w : World)
theorem idx0 : (Instr.index 178 (.agg #[.int .i64 m, .int .i64 m, .int .i64 m, .int .i64 t, .int .i64 t, .int .i64 m, .int .i64 t, .int .i64 t]) (.int .i64 0)).run Try.prog w = .ok (.agg #[.int .i64 m, .int .i64 m]) w := by kernel_rfl
theorem idx1 : (Instr.index 178 (.agg #[.int .i64 m, .int .i64 m, .int .i64 m, .int .i64 t, .int .i64 t, .int .i64 m, .int .i64 t, .int .i64 t]) (.int .i64 1)).run Try.prog w = .ok (.agg #[.int .i64 m, .int .i64 t]) w := by kernel_rfl
theorem idx2 : (Instr.index 178 (.agg #[.int .i64 m, .int .i64 m, .int .i64 m, .int .i64 t, .int .i64 t, .int .i64 m, .int .i64 t, .int .i64 t]) (.int .i64 2)).run Try.prog w = .ok (.agg #[.int .i64 t, .int .i64 m]) w := by kernel_rfl
theorem idx3 : (Instr.index 178 (.agg #[.int .i64 m, .int .i64 m, .int .i64 m, .int .i64 t, .int .i64 t, .int .i64 m, .int .i64 t, .int .i64 t]) (.int .i64 3)).run Try.prog w = .ok (.agg #[.int .i64 t, .int .i64 t]) w := by kernel_rfl
end
theorem OwnP.toC {W : World} {base : Nat} {A : Option Addr} {c : Nat} {zs : List S31} (h : OwnP W base (.slice A zs.length c) zs) : Kd.C k31 W A zs.length zs ∧ zs.length ≤ c := by
  rcases h.2 with ⟨hv, h0⟩ | ⟨g, cap, cur, hv, hb, hh, hc, hm, _⟩
  · injection hv with e1 e2 e3
    subst e1 e3
    refine ⟨⟨rfl, by omega, fun hp => by omega⟩, by omega⟩
  · injection hv with e1 e2 e3
    subst e1 e3
    have := h.reads (by unfold maxLen at hm; omega)
    refine ⟨⟨this.1, this.2.1, fun hp => ?_⟩, hc⟩
    obtain ⟨ad, e, hx⟩ := this.2.2 hp
    refine ⟨ad, e, fun j p hj => ?_⟩
    obtain ⟨cs, h1, h2, h3⟩ := hx j p hj
    exact ⟨cs, h1, by rw [h2]; exact k31_mk W p, h3⟩
def gr4 (x : S31) (t : Int) : List S31 := [⟨wrap64 (x.f0 + wrap64 (-t)), wrap64 (x.f1 + wrap64 (-t))⟩, ⟨wrap64 (x.f0 + wrap64 (-t)), wrap64 (x.f1 + t)⟩, ⟨wrap64 (x.f0 + t), wrap64 (x.f1 + wrap64 (-t))⟩, ⟨wrap64 (x.f0 + t), wrap64 (x.f1 + t)⟩]
theorem grown_list (l : List S31) (t : Int) : plane_grown.list l t = l.flatMap fun p => gr4 p t := rfl
theorem grown_take (l : List S31) (t : Int) (i : Nat) (hi : i < l.length) : plane_grown.list (l.take (i + 1)) t = plane_grown.list (l.take i) t ++ gr4 (rd_T31 l i) t := by
  have e : l.take (i + 1) = l.take i ++ [rd_T31 l i] := by
    rw [List.take_add_one]
    unfold rd_T31
    simp [List.getD_eq_getElem?_getD, hi]
  rw [e, grown_list, grown_list, List.flatMap_append]
  simp
theorem grown_length (l : List S31) (t : Int) : (plane_grown.list l t).length = 4 * l.length := by
  induction l with
  | nil => rfl
  | cons a r ih => rw [grown_list] at ih ⊢; rw [List.flatMap_cons, List.length_append, ih]; simp [gr4]; omega
set_option maxRecDepth 100000 in
set_option maxHeartbeats 2000000 in
theorem grown_calls (A0 : Option Addr) (c0 : Nat) (l0 : List (S31)) (t : Int) (r : List (S31)) (w : World) (hr0 : Kd.C k31 w A0 l0.length l0) (hc0 : l0.length ≤ c0) (h : plane_grown.f l0 t = some r) :
    Calls Try.prog 75 #[.slice A0 l0.length c0, .int .i64 t] w fun e w' => ∃ v0_ : Value, e = .returned (v0_) ∧ Kd.R k31 31 w' w.heap.size (fun _ => True) v0_ r ∧ Below w.heap.size w w' := by
  unfold plane_grown.f at h
  split at h
  case isFalse => cases h
  case isTrue hlen =>
  have HR := Lib.hid hr0
  have HF := Lib.hid h
  have hu := Try.underlying31
  clear hr0 h
  go_enter Try.func75, Try.ntmps75
  go_wp2
  go_loopg [5, 12] l0.length (fun g v5 v12 wr => ∃ (i : Nat) (acc : List S31), v12 = .int .i64 i ∧ i ≤ l0.length ∧ Hid (acc = plane_grown.list (l0.take i) t) ∧ OwnP wr w.heap.size v5 acc ∧ Hid (Below w.heap.size w wr) ∧ l0.length - i ≤ g)
  case atStart => exact ⟨0, [], rfl, Nat.zero_le _, Lib.hid (by simp [plane_grown.list]), OwnP.nil _ _, Lib.hid (Below.refl _ _), by omega⟩
  case round =>
    obtain ⟨i, acc, rfl, hi, HA, ho, HB, hg⟩ := hrel
    by_cases hlt : i < l0.length
    · obtain ⟨ad, e, hx0, hx1⟩ := at_T31 HR.out i (by omega) (by omega)
      cases e
      rw [Int.toNat_natCast] at hx0 hx1
      replace hx0 := (HB.out.cell (World.block_lt_of_cell? w _ hx0)).trans hx0
      replace hx1 := (HB.out.cell (World.block_lt_of_cell? w _ hx1)).trans hx1
      have HT := Lib.hid (grown_take l0 t i hlt)
      rw [← HA.out] at HT
      generalize rd_T31 l0 i = x at hx0 hx1 HT
      have HL : Hid (acc.length = 4 * i) := Lib.hid (by rw [HA.out, grown_length, List.length_take]; omega)
      have hle := HB.out.size
      go_wp2
      rename World => wo
      have hne : ∀ g, u5.ownBlock = some g → g ≠ wo.heap.size := fun g hg' => by
        rcases ho.2 with ⟨rfl, _⟩ | ⟨g', cp, cur, rfl, _, hh, _⟩
        · simp [Value.ownBlock] at hg'
        · simp [Value.ownBlock] at hg'
          have := (Array.getElem?_eq_some_iff.1 hh).1
          omega
      go_loopg [5, 33] 4 (fun g v5 v33 wq => ∃ (k : Nat), v33 = .int .i64 k ∧ k ≤ 4 ∧ OwnP wq w.heap.size v5 (acc ++ (gr4 x t).take k) ∧ Hid (∀ g, v5.ownBlock = some g → g ≠ wo.heap.size) ∧ Hid (Below w.heap.size w wq) ∧ wq.heap[wo.heap.size]? = some (.cells #[.int .i64 x.f0, .int .i64 x.f1] 31) ∧ 4 - k ≤ g)
      case atStart => exact ⟨0, rfl, by omega, by rw [List.take_zero, List.append_nil]; exact ho.alloc _, Lib.hid hne, Lib.hid (RowKit.Below.alloc HB.out hle _), World.alloc_heap_new _ _, by omega⟩
      case round =>
        rename World => wq
        obtain ⟨k, rfl, hk, ho2, HN, HBq, hbx, hg2⟩ := hrel
        have hle2 := HBq.out.size
        have hwq : wo.heap.size < wq.heap.size := (Array.getElem?_eq_some_iff.1 hbx).1
        have hb0 : wq.cell? ⟨wo.heap.size, 0, none⟩ = some (.int .i64 x.f0) := by simp [World.cell?, hbx]
        have hb1 : wq.cell? ⟨wo.heap.size, 1, none⟩ = some (.int .i64 x.f1) := by simp [World.cell?, hbx]
        have Hbx := Lib.hid hbx
        clear hbx
        rcases (show k = 0 ∨ k = 1 ∨ k = 2 ∨ k = 3 ∨ k = 4 by omega) with rfl | rfl | rfl | rfl | rfl
        · have hi0 := idx0 (wrap64 (-t)) t
          go_wp2_with (at_builtin; go_must (refine list_appP w.heap.size w rfl (.tmp 36) (.tmp 48) rfl _ (acc ++ (gr4 x t).take 0) [(⟨wrap64 (x.f0 + wrap64 (-t)), wrap64 (x.f1 + wrap64 (-t))⟩ : S31)] _ 1 1 rfl rfl (by repeat (first | exact ho2 | refine OwnP.alloc ?_ _)) (row_one (by repeat (first | exact new_at (by simp)| refine old_at ?_))) (by repeat (first | exact HBq.out | refine RowKit.Below.alloc ?_ (by first | exact hle2 | (simp; omega)) _)) (by simp; omega) (by have := HL.out; first | (simp [gr4]; done) | (simp [gr4]; omega)) ?_); intro v1 w1 hO1 hB1 hg1 hat1)
          go_roundg (4 - (0 + 1))
          case measure => omega
          case rel =>
            have hv : ∀ g, v1.ownBlock = some g → g ≠ wo.heap.size := fun g hg' => by
              rcases hat1 with h | ⟨b, h, hb⟩
              · rw [h] at hg'; exact HN.out g hg'
              · rw [h] at hg'; injection hg' with hg'; simp at hb; omega
            refine ⟨0 + 1, by go_num, by omega, ?_, Lib.hid hv, Lib.hid hB1, ?_, Nat.le_refl _⟩
            · rw [List.append_assoc] at hO1; exact hO1
            · refine (hg1.block _ (by simp; omega) (fun e => HN.out _ e.symm rfl)).trans ?_
              repeat (first | exact Hbx.out | refine old_at ?_)
        · have hi1 := idx1 (wrap64 (-t)) t
          go_wp2_with (at_builtin; go_must (refine list_appP w.heap.size w rfl (.tmp 36) (.tmp 48) rfl _ (acc ++ (gr4 x t).take 1) [(⟨wrap64 (x.f0 + wrap64 (-t)), wrap64 (x.f1 + t)⟩ : S31)] _ 1 1 rfl rfl (by repeat (first | exact ho2 | refine OwnP.alloc ?_ _)) (row_one (by repeat (first | exact new_at (by simp)| refine old_at ?_))) (by repeat (first | exact HBq.out | refine RowKit.Below.alloc ?_ (by first | exact hle2 | (simp; omega)) _)) (by simp; omega) (by have := HL.out; first | (simp [gr4]; done) | (simp [gr4]; omega)) ?_); intro v1 w1 hO1 hB1 hg1 hat1)
          go_roundg (4 - (1 + 1))
          case measure => omega
          case rel =>
            have hv : ∀ g, v1.ownBlock = some g → g ≠ wo.heap.size := fun g hg' => by
              rcases hat1 with h | ⟨b, h, hb⟩
              · rw [h] at hg'; exact HN.out g hg'
              · rw [h] at hg'; injection hg' with hg'; simp at hb; omega
            refine ⟨1 + 1, by go_num, by omega, ?_, Lib.hid hv, Lib.hid hB1, ?_, Nat.le_refl _⟩
            · rw [List.append_assoc] at hO1; exact hO1
            · refine (hg1.block _ (by simp; omega) (fun e => HN.out _ e.symm rfl)).trans ?_
              repeat (first | exact Hbx.out | refine old_at ?_)
        · have hi2 := idx2 (wrap64 (-t)) t
          go_wp2_with (at_builtin; go_must (refine list_appP w.heap.size w rfl (.tmp 36) (.tmp 48) rfl _ (acc ++ (gr4 x t).take 2) [(⟨wrap64 (x.f0 + t), wrap64 (x.f1 + wrap64 (-t))⟩ : S31)] _ 1 1 rfl rfl (by repeat (first | exact ho2 | refine OwnP.alloc ?_ _)) (row_one (by repeat (first | exact new_at (by simp)| refine old_at ?_))) (by repeat (first | exact HBq.out | refine RowKit.Below.alloc ?_ (by first | exact hle2 | (simp; omega)) _)) (by simp; omega) (by have := HL.out; first | (simp [gr4]; done) | (simp [gr4]; omega)) ?_); intro v1 w1 hO1 hB1 hg1 hat1)
          go_roundg (4 - (2 + 1))
          case measure => omega
          case rel =>
            have hv : ∀ g, v1.ownBlock = some g → g ≠ wo.heap.size := fun g hg' => by
              rcases hat1 with h | ⟨b, h, hb⟩
              · rw [h] at hg'; exact HN.out g hg'
              · rw [h] at hg'; injection hg' with hg'; simp at hb; omega
            refine ⟨2 + 1, by go_num, by omega, ?_, Lib.hid hv, Lib.hid hB1, ?_, Nat.le_refl _⟩
            · rw [List.append_assoc] at hO1; exact hO1
            · refine (hg1.block _ (by simp; omega) (fun e => HN.out _ e.symm rfl)).trans ?_
              repeat (first | exact Hbx.out | refine old_at ?_)
        · have hi3 := idx3 (wrap64 (-t)) t
          go_wp2_with (at_builtin; go_must (refine list_appP w.heap.size w rfl (.tmp 36) (.tmp 48) rfl _ (acc ++ (gr4 x t).take 3) [(⟨wrap64 (x.f0 + t), wrap64 (x.f1 + t)⟩ : S31)] _ 1 1 rfl rfl (by repeat (first | exact ho2 | refine OwnP.alloc ?_ _)) (row_one (by repeat (first | exact new_at (by simp)| refine old_at ?_))) (by repeat (first | exact HBq.out | refine RowKit.Below.alloc ?_ (by first | exact hle2 | (simp; omega)) _)) (by simp; omega) (by have := HL.out; first | (simp [gr4]; done) | (simp [gr4]; omega)) ?_); intro v1 w1 hO1 hB1 hg1 hat1)
          go_roundg (4 - (3 + 1))
          case measure => omega
          case rel =>
            have hv : ∀ g, v1.ownBlock = some g → g ≠ wo.heap.size := fun g hg' => by
              rcases hat1 with h | ⟨b, h, hb⟩
              · rw [h] at hg'; exact HN.out g hg'
              · rw [h] at hg'; injection hg' with hg'; simp at hb; omega
            refine ⟨3 + 1, by go_num, by omega, ?_, Lib.hid hv, Lib.hid hB1, ?_, Nat.le_refl _⟩
            · rw [List.append_assoc] at hO1; exact hO1
            · refine (hg1.block _ (by simp; omega) (fun e => HN.out _ e.symm rfl)).trans ?_
              repeat (first | exact Hbx.out | refine old_at ?_)
        · go_wp2
          go_roundg (l0.length - (i + 1))
          case measure => omega
          case rel => exact ⟨i + 1, acc ++ gr4 x t, by go_num, by omega, Lib.hid HT.out.symm, ho2, HBq, Nat.le_refl _⟩
    · obtain rfl : i = l0.length := by omega
      obtain ⟨A5, c5, rfl⟩ := ho.form
      have HC : Hid (acc.length ≤ 200000) := Lib.hid (by rw [HA.out, grown_length, List.length_take]; omega)
      have he : acc = plane_grown.list l0 t := by rw [HA.out, List.take_length]
      have hk := corners_calls A5 c5 acc r wr ho.toC.1 ho.toC.2 (by rw [he]; exact HF.out)
      have HS := HB.out.size
      clear ho he HR
      go_wp2_with (go_at_call 59; refine hk.mono ?_; rintro e w1 ⟨v0, rfl, hR1, hB1⟩)
      go_ret
      refine ⟨v0, rfl, ?_, ?_⟩
      · exact OwnP.toR ((OwnP.ofR hR1).base HS) (fun _ _ => trivial)
      · exact HB.out.trans (hB1.mono HS)
end Go.Proofs.Ytkbcomgffpbcbaa.Plane
