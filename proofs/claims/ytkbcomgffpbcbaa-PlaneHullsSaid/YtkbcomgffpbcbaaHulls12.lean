/- A part of the proof of Hulls: walks of functions, and plain lemmas. No conditions. -/
import Derived.ArgAppend
import Derived.Below
import Derived.BigQuiet
import Derived.Deep.AppendLies
import Derived.Deep.CutBlock
import Derived.Deep.DeepCutAuto
import Derived.Deep.DeepFit
import Derived.Deep.DeepMust
import Derived.Deep.Draws
import Derived.Deep.LoopGhost
import Derived.Deep.OwnRows
import Derived.Deep.QuietTactic
import Derived.Deep.RegionHeld3
import Derived.Ground.SlgnProg
import Derived.Ground.SlsfProg
import Derived.KernelRfl
import Derived.Laws.BitsLemmas
import Derived.Laws.BytesArg
import Derived.Laws.IdiomCopy
import Derived.Laws.MakeOwn
import Derived.Laws.OwnMore
import Derived.Laws.Rows
import Derived.Laws.Slices
import Derived.Laws.StructEq
import Derived.Lib.AppendStr
import Derived.Lib.ConvBytes
import Derived.Lib.Hide
import Derived.Lib.QuietBelowIn
import Derived.Lib.SliceRun
import Derived.Lib.SlicesCompact
import Derived.LoopIn
import Derived.LoopNIn
import Derived.Maps.AppendAt
import Derived.OrdersHeld
import Derived.Outline
import Derived.OwnWalk
import Derived.OwnWalkIn
import Derived.RangeFuncBound
import Derived.RangeFuncBox
import Derived.RangeFuncCalls
import Derived.RangeFuncLeaves
import Derived.RangeFuncNested
import Derived.RowKit
import Derived.RowKit3
import Derived.Shelf.Abstract
import Derived.Shelf.RegionOpen
import Derived.Shelf.SlGeneric
import Derived.Shelf.SlSortCmp.WholeK
import Derived.Shelf.Slices.CompactI
import Derived.Shelf.SlicesQ.Reverse
import Derived.Sort.OwnSorted
import Derived.Tactics
import Derived.TacticsIn
import Derived.TacticsInMore
import Derived.Test.YtkbcomgffpbcbaaProg
import Derived.WalkKit
import Derived.WideLaws
import Derived.Test.YtkbcomgffpbcbaaHulls2
import Derived.Test.YtkbcomgffpbcbaaHulls3
import Derived.Test.YtkbcomgffpbcbaaHulls5
import Derived.Test.YtkbcomgffpbcbaaHulls7
import Derived.Test.YtkbcomgffpbcbaaHulls8
import Derived.Test.YtkbcomgffpbcbaaHulls10
namespace Go.Proofs.Ytkbcomgffpbcbaa.Plane
open Go.RowKit Go.Shelf Go.Sort Go.Lib Go.Proofs.YtkbcomgffpbcbaaW.PrintWords Go.Proofs.YtkbcomgffpbcbaaW.PrintLast Go.Proofs.YtkbcomgffpbcbaaW.PrintMore
set_option linter.unusedVariables false
set_option linter.unusedSimpArgs false
attribute [local go_sem high] eqA31
theorem run_clear_points (w : World) (ty : TypeId) (b o n c : Nat) (hn : 0 < n)
    (hc : ∀ j, j < n * 2 → (w.cell? ⟨b, o + j, none⟩).isSome = true) (hf : ∀ j, j < n * 2 → w.frozen? ⟨b, o + j, none⟩ = false) :
    (Builtin.clear_ #[23] ty #[.slice (some ⟨b, o, none⟩) n c]).run Try.prog w = .ok (.tuple #[]) (w.setCells b o (List.replicate (n * 2) (.int .i64 0))) := by
  have hv : ∀ w, (zeroValue 31).run Try.prog w = .ok (.agg #[.int .i64 0, .int .i64 0]) w := Try.zeroValue31
  have hzc : (Builtin.zeroCells (Value.agg #[.int .i64 0, .int .i64 0]).cells n).toList = List.replicate (n * 2) (.int .i64 0) := by
    have e : (Value.agg #[.int .i64 0, .int .i64 0]).cells = #[.int .i64 0, .int .i64 0] := rfl
    rw [e]
    simp [Builtin.zeroCells]
    apply List.ext_getElem
    · simp
    · intro i h1 h2
      rcases Nat.mod_two_eq_zero_or_one i with h | h <;> simp [h]
  have hst := run_storeCells_cells (P := Try.prog) b o (List.replicate (n * 2) (.int .i64 0)) 0 w (by simpa using hc) (by simpa using hf) (by intro v hv'; rw [List.eq_of_mem_replicate hv']; rfl)
  simp only [Nat.add_zero] at hst
  obtain ⟨m, rfl⟩ : ∃ m, n = m + 1 := ⟨n - 1, by omega⟩
  simp [Builtin.clear_, run_underlying Try.underlying23, hv, hzc, hst]
theorem setMany_append : ∀ (vs us : List Value) (F : Array Value) (s : Nat), setMany F s (vs ++ us) = setMany (setMany F s vs) (s + vs.length) us
  | [], us, F, s => rfl
  | v :: r, us, F, s => by
    rw [List.cons_append, setMany, setMany, setMany_append r us, List.length_cons, show s + 1 + r.length = s + (r.length + 1) by omega]
theorem setMany_one (d : Array S31) (k : Nat) (x : S31) (hk : k < d.size) : setMany (flatK encL 2 d) (k * 2) (encL x) = flatK encL 2 (d.setIfInBounds k x) := by
  refine ext_get! (by simp) fun t ht => ?_
  have ht' : t < d.size * 2 := by simpa using ht
  rw [get_setMany _ _ _ t (by simpa using ht'), get_flatK _ _ _ t ht', get_flatK _ _ _ t (by simpa using ht')]
  have e : (encL x).length = 2 := rfl
  rw [e]
  by_cases a : t / 2 = k
  · rw [if_pos (by omega)]
    have : (d.setIfInBounds k x)[t / 2]! = x := by rw [a]; simp [hk]
    rw [this, show t - k * 2 = t % 2 by omega]
  · rw [if_neg (by omega)]
    have : (d.setIfInBounds k x)[t / 2]! = d[t / 2]! := by
      simp [Array.getElem!_eq_getD, Array.getD]
      by_cases hb : t / 2 < d.size
      · simp [hb, Array.getElem_setIfInBounds, Ne.symm a]
      · simp [hb]
    rw [this]
theorem setMany_lay : ∀ (xs : List S31) (d : Array S31) (k : Nat), k + xs.length ≤ d.size → setMany (flatK encL 2 d) (k * 2) (xs.flatMap encL) = flatK encL 2 (Lib.lay d k xs)
  | [], d, k, _ => rfl
  | x :: r, d, k, h => by
    have h' : k + (r.length + 1) ≤ d.size := by simpa using h
    rw [Lib.lay, List.flatMap_cons, setMany_append, setMany_one d k x (by omega), show k * 2 + (encL x).length = (k + 1) * 2 by simp [encL]; omega]
    exact setMany_lay r _ (k + 1) (by simp; omega)
theorem store_point {w wr : World} {n blk : Nat} {dk : Array S31} {i : Nat} (hi : i < dk.size) (hwr : wr = putRowK encL 2 (Sort.ahead w n) blk 0 dk) (x : S31) :
    (wr.setCells blk (i * 2) [.int .i64 x.f0, .int .i64 x.f1]).drew = putRowK encL 2 (Sort.ahead w (n + 1)) blk 0 (dk.setIfInBounds i x) := by
  subst hwr
  unfold putRowK
  have := setCells_putRow (Sort.ahead w n) blk 0 (encL x) (i * 2) (flatK encL 2 dk) (by simp [encL]; omega)
  rw [Nat.zero_add] at this
  rw [show [Value.int .i64 x.f0, Value.int .i64 x.f1] = encL x from rfl, this, setMany_one _ _ _ hi, ← ahead_drew]
  rfl
instance : DecidableEq S31 := fun a b => if h : a.f0 = b.f0 ∧ a.f1 = b.f1 then .isTrue (by cases a; cases b; simp at h; simp [h]) else .isFalse (fun e => h (by rw [e]; exact ⟨rfl, rfl⟩))
theorem eq_ne {x y : S31} (h : x ≠ y) : (x.f0 == y.f0 && (x.f1 == y.f1)) = false := by
  rw [Bool.eq_false_iff]
  intro e
  simp only [Bool.and_eq_true, beq_iff_eq] at e
  exact h (by cases x; cases y; simp at e; simp [e])
theorem flatMap_zero (n : Nat) : (List.replicate n z31).flatMap encL = List.replicate (n * 2) (.int .i64 0) := by
  induction n with
  | zero => rfl
  | succ n ih => rw [List.replicate_succ, List.flatMap_cons, ih, show (n + 1) * 2 = n * 2 + 1 + 1 by omega, List.replicate_succ, List.replicate_succ]; rfl
set_option maxRecDepth 100000 in
set_option maxHeartbeats 4000000 in
theorem compact_arr (blk cap : Nat) (d : Array S31) (w : World) (hH : HoldsK encL 2 w blk 0 d) (hsz : d.size ≤ 65536) (hcap : d.size ≤ cap) :
    Calls Try.prog 123 #[.slice (some ⟨blk, 0, none⟩) d.size cap] w fun e w' => e = .returned (.slice (some ⟨blk, 0, none⟩) (compactUpTo d d.size).length cap) ∧ ∃ q, w' = putRowK encL 2 (Sort.ahead w q) blk 0 (compactUpTo d d.size ++ List.replicate (d.size - (compactUpTo d d.size).length) z31).toArray := by
  have same : ∀ q, (∀ j, j < d.size → keeps d j = true) → (compactUpTo d d.size).length = d.size ∧ w.drewN q = putRowK encL 2 (Sort.ahead w q) blk 0 (compactUpTo d d.size ++ List.replicate (d.size - (compactUpTo d d.size).length) z31).toArray := by
    intro q hall
    have e : compactUpTo d d.size = d.toList := by rw [compactUpTo_all d _ hall, range_map_get]
    rw [e]
    refine ⟨by simp, ?_⟩
    simp only [Array.length_toList, Nat.sub_self, List.replicate_zero, List.append_nil, Array.toArray_toList]
    exact (putRowK_self encL 2 (Sort.ahead w q) blk 0 d (holdsK_ahead encL 2 w q blk 0 d hH)).symm
  have HS : Aside (∀ q, (∀ j, j < d.size → keeps d j = true) → (compactUpTo d d.size).length = d.size ∧ w.drewN q = putRowK encL 2 (Sort.ahead w q) blk 0 (compactUpTo d d.size ++ List.replicate (d.size - (compactUpTo d d.size).length) z31).toArray) := same
  clear same
  have hu := Try.underlying31
  have mixed : Try.prog.follows .mixedOrders = true := by kernel_rfl
  by_cases h2 : d.size < 2
  · have HH : Aside (HoldsK encL 2 w blk 0 d) := hH
    clear hH
    go_enter Try.func123, Try.ntmps123
    go_wp2
    go_ret
    obtain ⟨e1, e2⟩ := HS.out 0 (fun j hj => keeps_lt_one d j (by omega))
    exact ⟨by rw [e1]; rfl, 0, e2⟩
  · go_enter Try.func123, Try.ntmps123
    go_wp2
    go_loopg [3] d.size (fun g s3 wr => ∃ k q : Nat, 1 ≤ k ∧ k ≤ d.size ∧ d.size - k ≤ g ∧ s3 = .int .i64 k ∧ wr = w.drewN q ∧ ∀ j, j < k → keeps d j = true)
    case atStart => exact ⟨1, 0, Nat.le_refl _, by omega, by omega, rfl, rfl, keeps_lt_one d⟩
    case round =>
      obtain ⟨k, q, hk1, hk, hg, rfl, rfl, hall⟩ := hrel
      by_cases hlt : k < d.size
      · obtain ⟨c1, f1⟩ := hH.cell hlt (c := 0) (by omega)
        obtain ⟨c2, f2⟩ := hH.cell hlt (c := 1) (by omega)
        obtain ⟨c3, f3⟩ := hH.cell (i := k - 1) (by omega) (c := 0) (by omega)
        obtain ⟨c4, f4⟩ := hH.cell (i := k - 1) (by omega) (c := 1) (by omega)
        have A : Aside (∀ j, j < k → keeps d j = true) := hall
        have HH : Aside (HoldsK encL 2 w blk 0 d) := hH
        clear hall hH
        generalize hx : d[k]! = x at c1 c2
        generalize hy : d[k - 1]! = y at c3 c4
        have B : Aside (d[k]! = x ∧ d[k - 1]! = y) := ⟨hx, hy⟩
        clear hx hy
        rw [show (encL x)[0]! = .int .i64 x.f0 from rfl] at c1
        rw [show (encL x)[1]! = .int .i64 x.f1 from rfl] at c2
        rw [show (encL y)[0]! = .int .i64 y.f0 from rfl] at c3
        rw [show (encL y)[1]! = .int .i64 y.f1 from rfl] at c4
        simp only [Nat.zero_add, Nat.add_zero] at c1 c2 c3 c4
        by_cases hdup : x = y
        · subst hdup
          go_wp2_with fail
          go_region_o
          go_wp2
          clear c1 c2 c3 c4 f1 f2 f3 f4
          go_loopg [3, 5] d.size (fun g s3 s5 wr => ∃ (kk k2 q2 : Nat) (dk : Array S31), s3 = .int .i64 kk ∧ s5 = .int .i64 k2 ∧ 1 ≤ k2 ∧ k + k2 ≤ d.size ∧ d.size - (k + k2) ≤ g ∧ wr = putRowK encL 2 (Sort.ahead w q2) blk 0 dk ∧ CompInv d (k + k2) kk dk)
          case atStart => exact ⟨k, 1, q + 1, d, rfl, rfl, Nat.le_refl _, by omega, by omega, (putRowK_self encL 2 (Sort.ahead w (q + 1)) blk 0 d (holdsK_ahead encL 2 w (q + 1) blk 0 d HH.out)).symm, CompInv.start A.out (keeps_neg (by omega) (by rw [B.out.1, B.out.2]))⟩
          case round =>
            obtain ⟨kk, k2, q2, dk, rfl, rfl, h1, hle, hg2, hwr, hI⟩ := hrel
            have hkk := hI.lt
            have hds := hI.size
            have hHk : HoldsK encL 2 wr blk 0 dk := by rw [hwr]; exact holdsK_putRowK encL 2 _ blk 0 d dk (holdsK_ahead encL 2 w q2 blk 0 d HH.out) hds
            have W2 : Aside (wr = putRowK encL 2 (Sort.ahead w q2) blk 0 dk) := hwr
            have I2 : Aside (CompInv d (k + k2) kk dk) := hI
            clear hwr
            by_cases hlt2 : k + k2 < d.size
            · obtain ⟨cm, _⟩ := hHk.cell (i := k + k2) (c := 0) (by omega) (by omega)
              obtain ⟨cn, _⟩ := hHk.cell (i := k + k2) (c := 1) (by omega) (by omega)
              obtain ⟨cp, _⟩ := hHk.cell (i := k + k2 - 1) (c := 0) (by omega) (by omega)
              obtain ⟨cq, _⟩ := hHk.cell (i := k + k2 - 1) (c := 1) (by omega) (by omega)
              obtain ⟨ck, fk⟩ := hHk.cell (i := kk) (c := 0) (by omega) (by omega)
              obtain ⟨cl, fl⟩ := hHk.cell (i := kk) (c := 1) (by omega) (by omega)
              rw [hI.high (k + k2) (by omega)] at cm cn
              rw [hI.high (k + k2 - 1) (by omega)] at cp cq
              clear hHk hI
              generalize hu : d[k + k2]! = u at cm cn
              generalize hv : d[k + k2 - 1]! = v at cp cq
              generalize dk[kk]! = old at ck cl
              have C : Aside (d[k + k2]! = u ∧ d[k + k2 - 1]! = v) := ⟨hu, hv⟩
              clear hu hv
              rw [show (encL u)[0]! = .int .i64 u.f0 from rfl, show 0 + (k + k2) * 2 + 0 = k * 2 + k2 * 2 by omega] at cm
              rw [show (encL u)[1]! = .int .i64 u.f1 from rfl, show 0 + (k + k2) * 2 + 1 = k * 2 + k2 * 2 + 1 by omega] at cn
              rw [show (encL v)[0]! = .int .i64 v.f0 from rfl, show 0 + (k + k2 - 1) * 2 + 0 = k * 2 + (k2 - 1) * 2 by omega] at cp
              rw [show (encL v)[1]! = .int .i64 v.f1 from rfl, show 0 + (k + k2 - 1) * 2 + 1 = k * 2 + (k2 - 1) * 2 + 1 by omega] at cq
              rw [show (encL old)[0]! = .int .i64 old.f0 from rfl] at ck
              rw [show (encL old)[1]! = .int .i64 old.f1 from rfl] at cl
              simp only [Nat.zero_add, Nat.add_zero] at ck cl fk fl
              by_cases huv : u = v
              · subst huv
                go_wp2_with fail
                go_region_o
                go_wp2
                go_roundg (d.size - (k + (k2 + 1)))
                case measure => omega
                case rel => exact ⟨kk, k2 + 1, q2 + 1, dk, rfl, by go_num, by omega, by omega, Nat.le_refl _, by rw [W2.out]; rfl, I2.out.skip (keeps_neg (by omega) (by rw [C.out.1, C.out.2]))⟩
              · have hne : (u.f0 == v.f0 && (u.f1 == v.f1)) = false := eq_ne huv
                have hne2 : (!(u.f0 == v.f0 && (u.f1 == v.f1))) = true := by rw [hne]; rfl
                go_wp2_with fail
                go_region_o
                go_wp2
                go_roundg (d.size - (k + (k2 + 1)))
                case measure => omega
                case rel => exact ⟨kk + 1, k2 + 1, q2 + 1, dk.setIfInBounds kk u, by go_num, by go_num, by omega, by omega, Nat.le_refl _, store_point (by omega) W2.out u, by have := I2.out.keep hlt2 (keeps_pos (by rw [C.out.1, C.out.2]; exact huv)); rwa [C.out.1] at this⟩
            · have hend : k + k2 = d.size := by omega
              have hcl : ∀ ty, (Builtin.clear_ #[23] ty #[.slice (some ⟨blk, kk * 2, none⟩) (d.size - kk) (cap - kk)]).run Try.prog wr = .ok (.tuple #[]) (wr.setCells blk (kk * 2) (List.replicate ((d.size - kk) * 2) (.int .i64 0))) :=
                fun ty => run_clear_points wr ty blk (kk * 2) _ _ (by omega) (fun j hj => by have := (hHk (kk * 2 + j) (by simp; omega)).1; rw [Nat.zero_add] at this; rw [this]; rfl) (fun j hj => by have := (hHk (kk * 2 + j) (by simp; omega)).2; rw [Nat.zero_add] at this; exact this)
              clear hHk hI
              go_wp2
              go_ret
              have hI := I2.out
              rw [hend] at hI
              refine ⟨by rw [hI.len]; rfl, q2, ?_⟩
              rw [hI.len, ← hI.done z31]
              unfold putRowK
              have hl : kk + (List.replicate (d.size - kk) z31).length ≤ dk.size := by simp; omega
              rw [← setMany_lay _ _ _ hl]
              have := setCells_putRow (Sort.ahead w q2) blk 0 ((List.replicate (d.size - kk) z31).flatMap encL) (kk * 2) (flatK encL 2 dk) (by rw [flatMap_zero]; simp; omega)
              rw [← this, Nat.zero_add, flatMap_zero, W2.out]
              rfl
        · have hne : (x.f0 == y.f0 && (x.f1 == y.f1)) = false := eq_ne hdup
          go_wp2_with fail
          go_region_o
          go_wp2
          go_roundg (d.size - (k + 1))
          case measure => omega
          case rel =>
            refine ⟨k + 1, q + 1, by omega, by omega, Nat.le_refl _, by go_num, rfl, fun j hj => ?_⟩
            by_cases e : j = k
            · subst e
              exact keeps_pos (by rw [B.out.1, B.out.2]; exact hdup)
            · exact A.out j (by omega)
      · have : k = d.size := by omega
        subst this
        have HH : Aside (HoldsK encL 2 w blk 0 d) := hH
        clear hH
        go_wp2
        go_ret
        obtain ⟨e1, e2⟩ := HS.out q hall
        exact ⟨by rw [e1]; rfl, q, e2⟩
end Go.Proofs.Ytkbcomgffpbcbaa.Plane
