/- A part of the proof of Hulls: walks of functions, and plain lemmas. No conditions. -/
import Derived.ArgAppend
import Derived.Below
import Derived.BigQuiet
import Derived.Deep.AppendLies
import Derived.Deep.CutBlock
import Derived.Deep.DeepCutAuto
import Derived.Deep.DeepFit
import Derived.Deep.DeepMust
import Derived.Deep.Draws
import Derived.Deep.LoopGhost
import Derived.Deep.OwnRows
import Derived.Deep.QuietTactic
import Derived.Deep.RegionHeld3
import Derived.Ground.SlgnProg
import Derived.Ground.SlsfProg
import Derived.KernelRfl
import Derived.Laws.BitsLemmas
import Derived.Laws.BytesArg
import Derived.Laws.IdiomCopy
import Derived.Laws.MakeOwn
import Derived.Laws.OwnMore
import Derived.Laws.Rows
import Derived.Laws.Slices
import Derived.Laws.StructEq
import Derived.Lib.AppendStr
import Derived.Lib.ConvBytes
import Derived.Lib.Hide
import Derived.Lib.QuietBelow
import Derived.Lib.QuietBelowIn
import Derived.Lib.SliceRun
import Derived.Lib.SlicesCompact
import Derived.LoopIn
import Derived.LoopNIn
import Derived.Maps.AppendAt
import Derived.OrdersHeld
import Derived.Outline
import Derived.OwnWalk
import Derived.OwnWalkIn
import Derived.RangeFuncBound
import Derived.RangeFuncBox
import Derived.RangeFuncCalls
import Derived.RangeFuncLeaves
import Derived.RangeFuncNested
import Derived.RowKit
import Derived.RowKit3
import Derived.Shelf.Abstract
import Derived.Shelf.RegionOpen
import Derived.Shelf.SlGeneric
import Derived.Shelf.SlSortCmp.WholeK
import Derived.Shelf.Slices.CompactI
import Derived.Shelf.SlicesQ.Reverse
import Derived.Sort.LoopGhostIn
import Derived.Sort.OwnSorted
import Derived.StillTail
import Derived.StillTailTactics
import Derived.Tactics
import Derived.TacticsIn
import Derived.TacticsInMore
import Derived.Test.YtkbcomgffpbcbaaProg
import Derived.WalkKit
import Derived.WalkSmall
import Derived.WalkSpells
import Derived.WideLaws
import Derived.Test.YtkbcomgffpbcbaaHulls0
import Derived.Test.YtkbcomgffpbcbaaHulls1
import Derived.Test.YtkbcomgffpbcbaaHulls2
import Derived.Test.YtkbcomgffpbcbaaHulls3
import Derived.Test.YtkbcomgffpbcbaaHulls4
import Derived.Test.YtkbcomgffpbcbaaHulls5
import Derived.Test.YtkbcomgffpbcbaaHulls7
import Derived.Test.YtkbcomgffpbcbaaHulls8
import Derived.Test.YtkbcomgffpbcbaaHulls13
import Derived.Test.YtkbcomgffpbcbaaHulls14
import Derived.Test.YtkbcomgffpbcbaaHulls17
import Derived.Test.YtkbcomgffpbcbaaHulls18
namespace Go.Proofs.Ytkbcomgffpbcbaa.Plane
open Go.RowKit Go.Shelf Go.Sort Go.Proofs.YtkbcomgffpbcbaaW.PrintWords Go.Proofs.YtkbcomgffpbcbaaW.PrintLast Go.Proofs.YtkbcomgffpbcbaaW.PrintMore Go.Proofs.Ytkbcomgffpbcbaa.Round
set_option linter.unusedVariables false
set_option linter.unusedSimpArgs false
section
attribute [local go_sem] Oper.semAt_some
def encPP (x : S31 × S31) : Array Value := #[.agg #[.int .i64 x.1.f0, .int .i64 x.1.f1], .agg #[.int .i64 x.2.f0, .int .i64 x.2.f1]]
def sidesP (zs : List S31) (j : Nat) : S31 × S31 := (zs.getD j z31, zs.getD ((j + 1) % zs.length) z31)
theorem pair0 (W : World) (a b : Value) (t : TypeId) : (W.alloc (.cells #[a, b] t)).cell? ⟨W.heap.size, 0, none⟩ = some a := by
  unfold World.cell?
  rw [World.alloc_heap_new]
  rfl
theorem pair1 (W : World) (a b : Value) (t : TypeId) : (W.alloc (.cells #[a, b] t)).cell? ⟨W.heap.size, 1, none⟩ = some b := by
  unfold World.cell?
  rw [World.alloc_heap_new]
  rfl
theorem cellAl {W : World} {p : Addr} {v : Value} (h : W.cell? p = some v) (o : Obj) : (W.alloc o).cell? p = some v := ((below_alloc (RowKit.Below.refl _ W) o).cell (World.block_lt_of_cell? W _ h)).trans h
def KeepTwo (x y : Nat) (A B : World) : Prop := A.heap.size ≤ B.heap.size ∧ ∀ k, (k = x ∨ k = y) → k < A.heap.size → B.heap[k]? = A.heap[k]?
namespace KeepTwo
variable {x y : Nat} {A B C : World}
theorem refl (A : World) : KeepTwo x y A A := ⟨Nat.le_refl _, fun _ _ _ => rfl⟩
theorem trans (h : KeepTwo x y A B) (k : KeepTwo x y B C) : KeepTwo x y A C := ⟨Nat.le_trans h.1 k.1, fun i hi hl => (k.2 i hi (Nat.lt_of_lt_of_le hl h.1)).trans (h.2 i hi hl)⟩
theorem of_below (h : RowKit.Below A.heap.size A B) : KeepTwo x y A B := ⟨h.size, fun i _ hl => h.block i hl⟩
theorem cell (h : KeepTwo x y A B) {p : Addr} {v : Value} (hp : p.block = x ∨ p.block = y) (hc : A.cell? p = some v) : B.cell? p = some v := by
  have hl := World.block_lt_of_cell? A _ hc
  unfold World.cell? at hc ⊢
  rw [h.2 _ hp hl]
  exact hc
theorem put {w : World} (hx : x < w.heap.size) (hy : y < w.heap.size) (W : World) (l : Nat) (o o' : Obj) (hl : w.heap.size ≤ l) (h : W.heap[l]? = some o) (_ : o.isCells = false) (_ : o.isWalk = false) : KeepTwo x y W (W.putObj l o') := by
  have hb := grownBy_putObj' W l o'
  refine ⟨hb.size, fun k hk hlt => hb.block k hlt (fun e => ?_)⟩
  injection e with e
  rcases hk with rfl | rfl <;> omega
end KeepTwo
set_option maxRecDepth 100000 in
set_option maxHeartbeats 4000000 in
theorem sides1_in (F : Fence) (n : Nat) (h134 : F.fn 134) (hro : F.round = none) (hn : 1 ≤ n) (l Bs cap : Nat) (ad : Addr) (zs : List S31) (hreach : zs.length ≤ 65536) (J Jx : List (S31 × S31) → World → Prop)
    (W : World) (hJ : AbidesFrom W.heap.size J)
    (hY : ∀ pre x W, J pre W → pre.length < zs.length → YieldAt F (n - 1) Try.prog l (encPP x) W fun e W' =>
      (e = .returned (.bool true) ∧ J (pre ++ [x]) W' ∧ KeepTwo Bs ad.block W W') ∨ (e = .returned (.bool false) ∧ Jx (pre ++ [x]) W'))
    (hBs : W.cell? ⟨Bs, 0, none⟩ = some (.slice (some ad) zs.length cap))
    (hc : ∀ j, j < zs.length → W.cell? (ad.add (j * 2)) = some (.int .i64 (zs.getD j z31).f0) ∧ W.cell? ⟨(ad.add (j * 2)).block, (ad.add (j * 2)).off + 1, none⟩ = some (.int .i64 (zs.getD j z31).f1)) (h0 : J [] W) :
    CallsIn F n Try.prog 134 #[.func (.yield l) #[] #[], .pointer (some ⟨Bs, 0, none⟩)] W fun e W' => (∃ v, e = .returned v) ∧
      ((∃ ys, ys = upto (sidesP zs) zs.length ∧ J ys W') ∨ (∃ pre, (∃ k, k ≤ zs.length ∧ pre = upto (sidesP zs) k) ∧ Jx pre W')) := by
  refine callsIn_of_wp Try.func134 rfl h134 ?_ hro
  simp only [Try.ntmps134, List.size_toArray, List.length_cons, List.length_nil, Nat.reduceAdd, Nat.reduceSub, Array.replicate_succ, Array.replicate_zero, List.push_toArray, List.append_toArray, List.nil_append, List.cons_append]
  have hu := Try.underlying31
  gi_wp2
  gi_loopw [7] (fun i wr => ∃ k : Nat, k ≤ zs.length ∧ i = .int .i64 k ∧ J (upto (sidesP zs) k) wr ∧ KeepTwo Bs ad.block W wr)
    (fun i _ => zs.length - (intOf i).toNat)
  case atStart => exact ⟨0, Nat.zero_le _, rfl, h0, KeepTwo.refl _⟩
  case round =>
    obtain ⟨k, hk, rfl, hJs, hnx⟩ := hrel
    by_cases hlt : k < zs.length
    · have hcx := hc k hlt
      have hmod : (k + 1) % zs.length < zs.length := Nat.mod_lt _ (by omega)
      have hcy := hc ((k + 1) % zs.length) hmod
      have hblk : ∀ j, (ad.add (j * 2)).block = ad.block := fun j => by unfold Addr.add; split <;> rfl
      have g0 := hnx.cell (.inr (hblk _)) hcx.1
      have g1 := hnx.cell (.inr (by show (ad.add (k * 2)).block = _; exact hblk _)) hcx.2
      have g2 := hnx.cell (.inr (hblk _)) hcy.1
      have g3 := hnx.cell (.inr (by show (ad.add ((k + 1) % zs.length * 2)).block = _; exact hblk _)) hcy.2
      have g4 := hnx.cell (.inl rfl) hBs
      obtain ⟨m, hm⟩ : ∃ m, (k + 1) % zs.length = m := ⟨_, rfl⟩
      have hme : ((k : Int) + 1) % (zs.length : Int) = (m : Int) := by rw [← hm]; simp
      rw [hm] at hmod g2 g3
      have Hmm := Lib.hid hm
      clear hcy
      obtain ⟨x, hx⟩ : ∃ x, x = zs.getD k z31 := ⟨_, rfl⟩
      obtain ⟨y, hy⟩ : ∃ y, y = zs.getD m z31 := ⟨_, rfl⟩
      rw [← hx] at g0 g1
      rw [← hy] at g2 g3
      have Hx := Lib.hid hx
      have Hy := Lib.hid hy
      clear hx hy hcx hblk hc hm
      have HY := Lib.hid hY
      clear hY
      gi_wp2_with fail
      have f0 := cell_regrown (pair0 wr (.int .i64 x.f0) (.int .i64 x.f1) 31)
      have f1 := cell_regrown (pair1 wr (.int .i64 x.f0) (.int .i64 x.f1) 31)
      have f2 := cell_regrown (cellAl g2 (.cells #[.int .i64 x.f0, .int .i64 x.f1] 31))
      have f3 := cell_regrown (cellAl g3 (.cells #[.int .i64 x.f0, .int .i64 x.f1] 31))
      have f4 := cell_regrown (cellAl g4 (.cells #[.int .i64 x.f0, .int .i64 x.f1] 31))
      refine wpIn_region_quiet_tail_r 10 (by kernel_rfl) (by kernel_rfl) (by kernel_rfl) ?_
      simp only [List.take_succ_cons, List.take_zero, List.drop_succ_cons, List.drop_zero]
      repeat (gi_big_quiet_step (fail))
      refine wpQuietIn_nil ?_
      intro wq hw'
      have hbq : Below (wr.alloc (.cells #[.int .i64 x.f0, .int .i64 x.f1] 31)).heap.size (wr.alloc (.cells #[.int .i64 x.f0, .int .i64 x.f1] 31)) wq := by obtain ⟨p, rfl⟩ := hw'; exact below_regrown _ _ _
      clear hw' f0 f1 f2 f3 f4
      have hbr : RowKit.Below wr.heap.size wr wq := (bal (RowKit.Below.refl _ _) _).trans (hbq.mono (by simp))
      have hJ2 : J (upto (sidesP zs) k) wq := hJ _ wr wq none hJs (grown_of_below hbr none) (fun r e => by cases e)
      have hnx2 : KeepTwo Bs ad.block W wq := hnx.trans (.of_below hbr)
      have hxy : sidesP zs k = (x, y) := by unfold sidesP; rw [Hmm.out, Hx.out, Hy.out]
      obtain ⟨fn, tmps, assign, body, hy, hR⟩ := HY.out _ (x, y) _ hJ2 (by rw [upto_length]; exact hlt)
      unfold encPP at hy
      gi_wp2
      refine hR.mono ?_
      rintro e W3 (⟨rfl, hJ3, hk3⟩ | ⟨rfl, hJx3⟩)
      · gi_wp2
        go_roundw
        case rel => exact ⟨k + 1, by omega, by simp, by rw [upto_succ, hxy]; exact hJ3, hnx2.trans hk3⟩
        case measure => simp [intOf]; omega
      · gi_wp2
        refine bodyPost_ret (results_none rfl _ _ _) rfl ?_
        exact ⟨⟨_, rfl⟩, .inr ⟨_, ⟨k + 1, by omega, by rw [upto_succ, hxy]⟩, hJx3⟩⟩
    · obtain rfl : k = zs.length := by omega
      gi_wp2
      go_end0
      exact ⟨⟨_, rfl⟩, .inl ⟨_, rfl, hJs⟩⟩
set_option maxHeartbeats 1000000 in
theorem sides_in (F : Fence) (n : Nat) (h72 : F.fn 72) (hro : F.round = none) (a : Option Addr) (len cap : Nat) (w : World) :
    CallsIn F n Try.prog 72 #[.slice a len cap] w fun e w' => e = .returned (.func (.func 134) #[] #[.pointer (some ⟨w.heap.size, 0, none⟩)]) ∧ w' = w.alloc (.cells #[.slice a len cap] 23) := by
  refine callsIn_of_wp Try.func72 rfl h72 ?_ hro
  simp only [Try.ntmps72, List.size_toArray, List.length_cons, List.length_nil, Nat.reduceAdd, Nat.reduceSub, Array.replicate_succ, Array.replicate_zero, List.push_toArray, List.append_toArray, List.nil_append, List.cons_append]
  gi_wp2
  go_ret
  exact ⟨rfl, rfl⟩
theorem upto_prefix {α : Type} (f : Nat → α) {k n : Nat} (h : k ≤ n) : upto f k <+: upto f n := by
  obtain ⟨d, rfl⟩ := Nat.exists_eq_add_of_le h
  induction d with
  | zero => exact List.prefix_refl _
  | succ d ih => rw [← Nat.add_assoc, upto_succ]; exact (ih (by omega)).trans (List.prefix_append _ _)
theorem sides_stops (F : Fence) (n : Nat) (h134 : F.fn 134) (hro : F.round = none) (hn : 1 ≤ n) (Bs cap : Nat) (ad : Addr) (zs : List S31) (hreach : zs.length ≤ 65536) (w : World)
    (hBs : w.cell? ⟨Bs, 0, none⟩ = some (.slice (some ad) zs.length cap)) (hC : Kd.C k31 w (some ad) zs.length zs) :
    SeqStopsK F n Try.prog 134 #[.pointer (some ⟨Bs, 0, none⟩)] encPP (KeepTwo Bs ad.block) (fun ys => ys = upto (sidesP zs) zs.length) (fun pre => pre <+: upto (sidesP zs) zs.length) zs.length w := fun l J Jx W hW hJ _ hY h0 => by
  have hBs' := (hW.cell (World.block_lt_of_cell? w _ hBs)).trans hBs
  have hc : ∀ j, j < zs.length → W.cell? (ad.add (j * 2)) = some (.int .i64 (zs.getD j z31).f0) ∧ W.cell? ⟨(ad.add (j * 2)).block, (ad.add (j * 2)).off + 1, none⟩ = some (.int .i64 (zs.getD j z31).f1) := fun j hj => by
    obtain ⟨ad', e, h1, h2⟩ := at_T31 hC j (by omega) (by omega)
    cases e
    unfold rd_T31 at h1 h2
    rw [Int.toNat_natCast] at h1 h2
    exact ⟨(hW.cell (World.block_lt_of_cell? w _ h1)).trans h1, (hW.cell (World.block_lt_of_cell? w _ h2)).trans h2⟩
  refine (sides1_in F n h134 hro hn l Bs cap ad zs hreach J Jx W hJ hY hBs' hc h0).mono ?_
  rintro e W' ⟨he, ⟨ys, rfl, hj⟩ | ⟨pre, ⟨k, hk, rfl⟩, hj⟩⟩
  · exact ⟨he, .inl ⟨_, rfl, hj⟩⟩
  · exact ⟨he, .inr ⟨_, upto_prefix _ hk, hj⟩⟩
end
end Go.Proofs.Ytkbcomgffpbcbaa.Plane
namespace Go.Proofs.Ytkbcomgffpbcbaa.Plane
open Go.RowKit Go.Shelf Go.Sort Go.Proofs.YtkbcomgffpbcbaaW.PrintWords Go.Proofs.YtkbcomgffpbcbaaW.PrintLast Go.Proofs.YtkbcomgffpbcbaaW.PrintMore
set_option linter.unusedVariables false
set_option linter.unusedSimpArgs false
theorem span_l0_total (l : List S31) (hl : l.length ≤ 65536) (a0 a1 a2 : Int) : ∀ (d k i : Nat) (x y : Int), l.length - i = d → i ≤ l.length → d < k → ∃ r, plane_span.l0 k x y l (l.length : Int) i a0 a1 a2 = some r
  | 0, k, i, x, y, hd, hi, hk => by
    obtain ⟨k, rfl⟩ : ∃ k', k = k' + 1 := ⟨k - 1, by omega⟩
    unfold plane_span.l0
    rw [if_neg (by omega)]
    exact ⟨_, rfl⟩
  | d + 1, k, i, x, y, hd, hi, hk => by
    obtain ⟨k, rfl⟩ : ∃ k', k = k' + 1 := ⟨k - 1, by omega⟩
    unfold plane_span.l0
    rw [if_pos (by omega), if_pos (by omega), if_pos (by omega)]
    have e : wrap64 ((i : Int) + 1) = ((i + 1 : Nat) : Int) := by rw [wrap_id (by omega) (by omega)]; simp
    rw [e]
    exact span_l0_total l hl a0 a1 a2 d k (i + 1) _ _ (by omega) (by omega) (by omega)
theorem span_total (l : List S31) (hp : 0 < l.length) (hl : l.length ≤ 65536) (a0 a1 a2 : Int) (k : Nat) (hk : l.length < k) : ∃ r, plane_span.f k a0 a1 a2 l = some r := by
  unfold plane_span.f
  rw [if_pos (by omega), if_pos (by omega)]
  rw [Option.bind_some]
  exact span_l0_total (l.drop 1) (by simp; omega) a0 a1 a2 _ k 0 _ _ rfl (Nat.zero_le _) (by simp; omega)
theorem try_l0_total (a b : List S31) (ha : 0 < a.length) (hb : 0 < b.length) (ha2 : a.length ≤ 65536) (hb2 : b.length ≤ 65536) (q : List S47) (hq : q.length ≤ 65536) :
    ∀ (d k i : Nat), q.length - i = d → i ≤ q.length → d + 65536 < k → ∃ r, plane_try.l0 k a b q (q.length : Int) i = some r
  | 0, k, i, hd, hi, hk => by
    obtain ⟨k, rfl⟩ : ∃ k', k = k' + 1 := ⟨k - 1, by omega⟩
    unfold plane_try.l0
    rw [if_neg (by omega)]
    exact ⟨_, rfl⟩
  | d + 1, k, i, hd, hi, hk => by
    obtain ⟨k, rfl⟩ : ∃ k', k = k' + 1 := ⟨k - 1, by omega⟩
    unfold plane_try.l0
    rw [if_pos (by omega), if_pos (by omega), if_pos (by omega)]
    obtain ⟨r1, e1⟩ := span_total a ha ha2 (rd_T47 q i).f0 (rd_T47 q i).f1 (rd_T47 q i).f2 k (by omega)
    obtain ⟨r2, e2⟩ := span_total b hb hb2 (rd_T47 q i).f0 (rd_T47 q i).f1 (rd_T47 q i).f2 k (by omega)
    rw [e1, Option.bind_some, e2, Option.bind_some]
    by_cases h : r1.2 < r2.1
    · rw [if_pos h]; exact ⟨_, rfl⟩
    · rw [if_neg h]
      have e : wrap64 ((i : Int) + 1) = ((i + 1 : Nat) : Int) := by rw [wrap_id (by omega) (by omega)]; simp
      rw [e]
      exact try_l0_total a b ha hb ha2 hb2 q hq d k (i + 1) (by omega) (by omega) (by omega)
def tryT (a b : List S31) (q : List S47) : Int × Int × Int × Bool := (plane_try.f 200000 a b q).getD (0, 0, 0, false)
theorem tryT_some {a b : List S31} (ha : 0 < a.length) (hb : 0 < b.length) (ha2 : a.length ≤ 65536) (hb2 : b.length ≤ 65536) {q : List S47} (hq : q.length ≤ 65536) : plane_try.f 200000 a b q = some (tryT a b q) := by
  obtain ⟨r, e⟩ := try_l0_total a b ha hb ha2 hb2 q hq _ 200000 0 rfl (Nat.zero_le _) (by omega)
  have e' : plane_try.f 200000 a b q = some r := e
  unfold tryT
  rw [e']
  rfl
theorem try_mono_le (a b : List S31) (q : List S47) {k k' : Nat} (h : k ≤ k') {t : Int × Int × Int × Bool} (ht : plane_try.f k a b q = some t) : plane_try.f k' a b q = some t := by
  obtain ⟨d, rfl⟩ := Nat.exists_eq_add_of_le h
  induction d with
  | zero => exact ht
  | succ d ih => exact plane_try.mono a b q (k + d) t (ih (by omega))
theorem tryT_eq {a b : List S31} (ha : 0 < a.length) (hb : 0 < b.length) (ha2 : a.length ≤ 65536) (hb2 : b.length ≤ 65536) {q : List S47} (hq : q.length ≤ 65536) {k : Nat} {t : Int × Int × Int × Bool} (h : plane_try.f k a b q = some t) : t = tryT a b q := by
  have h1 := try_mono_le a b q (Nat.le_max_left k 200000) h
  have h2 := try_mono_le a b q (Nat.le_max_right k 200000) (tryT_some ha hb ha2 hb2 hq)
  exact Option.some.inj (h1.symm.trans h2)
def goT (a b : List S31) : List (List S47) → Int × Int × Int × Bool
  | [] => (0, 0, 0, false)
  | q :: r => if (tryT a b q).2.2.2 = true then ((tryT a b q).1, (tryT a b q).2.1, (tryT a b q).2.2.1, true) else goT a b r
theorem go_goT {a b : List S31} (ha : 0 < a.length) (hb : 0 < b.length) (ha2 : a.length ≤ 65536) (hb2 : b.length ≤ 65536) (k : Nat) : ∀ (qs : List (List S47)) (t : Int × Int × Int × Bool), (∀ q ∈ qs, q.length ≤ 65536) → plane_part.go k a b qs = some t → t = goT a b qs
  | [], t, _, h => by injection h with h; exact h.symm
  | q :: r, t, hq, h => by
    obtain ⟨u, hu, h⟩ := Option.bind_eq_some_iff.1 h
    have e := tryT_eq ha hb ha2 hb2 (hq q (by simp)) hu
    subst e
    unfold goT
    by_cases hb' : (tryT a b q).2.2.2 = true
    · rw [if_pos hb'] at h ⊢
      injection h with h
      exact h.symm
    · rw [if_neg hb'] at h ⊢
      exact go_goT ha hb ha2 hb2 k r t (fun q hq' => hq q (by simp [hq'])) h
theorem goT_append (a b : List S31) : ∀ (xs ys : List (List S47)), goT a b (xs ++ ys) = if (goT a b xs).2.2.2 = true then goT a b xs else goT a b ys
  | [], ys => by simp [goT]
  | q :: r, ys => by
    rw [List.cons_append, goT, goT]
    by_cases h : (tryT a b q).2.2.2 = true
    · rw [if_pos h, if_pos h, if_pos rfl]
    · rw [if_neg h, if_neg h]; exact goT_append a b r ys
end Go.Proofs.Ytkbcomgffpbcbaa.Plane
namespace Go.Proofs.Ytkbcomgffpbcbaa.Plane
open Go.RowKit Go.Shelf Go.Sort Go.Proofs.YtkbcomgffpbcbaaW.PrintWords Go.Proofs.YtkbcomgffpbcbaaW.PrintLast Go.Proofs.YtkbcomgffpbcbaaW.PrintMore Go.Proofs.Ytkbcomgffpbcbaa.Round
set_option linter.unusedVariables false
set_option linter.unusedSimpArgs false
def enc47 (x : S47) : List Value := [.int .i64 x.f0, .int .i64 x.f1, .int .i64 x.f2]
theorem flat47_at (q : List S47) (j : Nat) (x : S47) (h : q[j]? = some x) (i : Nat) (u : Value) (hu : (enc47 x)[i]? = some u) : (q.flatMap enc47)[j * 3 + i]? = some u := by
  induction q generalizing j with
  | nil => simp at h
  | cons a r ih =>
    have hi : i < 3 := by have := (List.getElem?_eq_some_iff.1 hu).1; simpa [enc47] using this
    cases j with
    | zero =>
      simp at h
      subst h
      rw [List.flatMap_cons, List.getElem?_append_left (by simp [enc47]; omega), Nat.zero_mul, Nat.zero_add]
      exact hu
    | succ j =>
      rw [List.flatMap_cons, List.getElem?_append_right (by simp [enc47]; omega)]
      have e : (j + 1) * 3 + i - (enc47 a).length = j * 3 + i := by simp [enc47]; omega
      rw [e]
      exact ih j (by simpa using h)
theorem row47 {W : World} {g : Nat} {q : List S47} (h : W.heap[g]? = some (.cells (q.flatMap enc47).toArray 47)) (hl : q.length ≤ 65536) : Kd.C k47 W (some ⟨g, 0, none⟩) q.length q := by
  refine ⟨rfl, by omega, fun _ => ⟨_, rfl, fun j x hj => ⟨enc47 x, rfl, k47_mk W x, fun i u hu => ?_⟩⟩⟩
  rw [add_plain]
  have := flat47_at q j x hj i u hu
  simp only [World.cell?, h]
  rw [show k47.sz = 3 from rfl]
  simpa using this
theorem try_calls (a b : List S31) (ha : 0 < a.length) (hb : 0 < b.length) (ha2 : a.length ≤ 65536) (hb2 : b.length ≤ 65536) (A0 A1 : Option Addr) (c0 c1 : Nat) (q : List S47) (hq : q.length ≤ 65536) (w : World)
    (hr0 : Kd.C k31 w A0 a.length a) (hc0 : a.length ≤ c0) (hr1 : Kd.C k31 w A1 b.length b) (hc1 : b.length ≤ c1) (g : Nat) (hg : w.heap[g]? = some (.cells (q.flatMap enc47).toArray 47)) :
    Calls Try.prog 135 #[.slice A0 a.length c0, .slice A1 b.length c1, .slice (some ⟨g, 0, none⟩) q.length q.length] w fun e w' => e = .returned (.tuple #[.agg #[.int .i64 (tryT a b q).1, .int .i64 (tryT a b q).2.1, .int .i64 (tryT a b q).2.2.1], .bool (tryT a b q).2.2.2]) ∧ Below w.heap.size w w' :=
  plane_try.calls 200000 A0 c0 a A1 c1 b (some ⟨g, 0, none⟩) q.length q _ _ _ _ w hr0 hc0 hr1 hc1 (row47 hg hq) (Nat.le_refl _) (tryT_some ha hb ha2 hb2 hq)
theorem below_then {A W W' : World} (h : RowKit.Below A.heap.size A W) (k : RowKit.Below W.heap.size W W') : RowKit.Below A.heap.size A W' := h.trans (k.mono h.size)
theorem below_under {w A W : World} (h : RowKit.Below w.heap.size w A) (k : RowKit.Below A.heap.size A W) : RowKit.Below w.heap.size w W := h.trans (k.mono h.size)
theorem after_call {W w2 : World} {B : Nat} {o : Obj} (h : W.heap[B]? = some o) (k : RowKit.Below W.heap.size W w2) : w2.heap[B]? = some o := (k.block B (Array.getElem?_eq_some_iff.1 h).1).trans h
theorem bset {A W : World} {B j : Nat} (h : RowKit.Below A.heap.size A W) (hB : A.heap.size ≤ B) (v : Value) : RowKit.Below A.heap.size A (W.setCell ⟨B, j, none⟩ v) := h.setCell (p := ⟨B, j, none⟩) hB v
theorem set3 {W : World} {B : Nat} {a b c : Value} {t : TypeId} (h : W.heap[B]? = some (.cells #[a, b, c] t)) (x y z : Value) : (((W.setCell ⟨B, 0, none⟩ x).setCell ⟨B, 1, none⟩ y).setCell ⟨B, 2, none⟩ z).heap[B]? = some (.cells #[x, y, z] t) := by
  have hl := (Array.getElem?_eq_some_iff.1 h)
  obtain ⟨hl, he⟩ := hl
  simp [World.setCell, Array.getElem?_modify, Array.getElem_modify, hl, he]
theorem box3_cell {W : World} {B : Nat} {a b c : Value} {t : TypeId} (h : W.heap[B]? = some (.cells #[a, b, c] t)) : W.cell? ⟨B, 0, none⟩ = some a ∧ W.cell? ⟨B, 1, none⟩ = some b ∧ W.cell? ⟨B, 2, none⟩ = some c ∧ W.frozen? ⟨B, 0, none⟩ = false ∧ W.frozen? ⟨B, 1, none⟩ = false ∧ W.frozen? ⟨B, 2, none⟩ = false := by
  simp [World.cell?, World.frozen?, h]
def PartPost (l0 l1 : List S31) (ad bd : Addr) (c0 c1 : Nat) (x y : S31) (w W1 : World) : Exit → Act → World → Prop := (fun e a' w' => e = Exit.normal ∧ ∃ (Bx : Nat) (u8 u9 u10 u11 u12 u13 u14 u15 u16 u17 u18 u19 u20 u21 u22 u23 u24 u25 u26 u27 u28 u29 u30 u31 u32 u33 u34 u35 u36 u37 u38 u39 u40 u41 u42 u43 u44 u45 u46 u47 u48 u49 u50 u51 u52 u53 u54 u55 u56 u57 u58 u59 u60 u61 u62 u63 u64 u65 u66 u67 u68 u69 u70 u71 u72 u73 u74 u75 u76 u77 u78 u79 u80 u81 u82 u83 u84 u85 u86 u87 u88 u89 u90 : Value), W1.heap.size ≤ Bx ∧ w'.heap[Bx]? = some (.cells #[.int .i64 (tryT l0 l1 [⟨IntKind.i64.wrap (y.f0 - x.f0), IntKind.i64.wrap (y.f1 - x.f1), 0⟩]).1, .int .i64 (tryT l0 l1 [⟨IntKind.i64.wrap (y.f0 - x.f0), IntKind.i64.wrap (y.f1 - x.f1), 0⟩]).2.1, .int .i64 (tryT l0 l1 [⟨IntKind.i64.wrap (y.f0 - x.f0), IntKind.i64.wrap (y.f1 - x.f1), 0⟩]).2.2.1] 47) ∧ RowKit.Below W1.heap.size W1 w' ∧ a' = { tmps := #[.slice (some ad) l0.length c0, .slice (some bd) l1.length c1, .pointer (some ⟨w.heap.size, 0, none⟩), .pointer (some ⟨w.heap.size + 1, 0, none⟩), .pointer (some ⟨w.heap.size + 1 + 1, 0, none⟩), .pointer (some ⟨w.heap.size + 1 + 1 + 1, 0, none⟩), .pointer (some ⟨Bx, 0, none⟩), .bool (tryT l0 l1 [⟨IntKind.i64.wrap (y.f0 - x.f0), IntKind.i64.wrap (y.f1 - x.f1), 0⟩]).2.2.2, u8, u9, u10, u11, u12, u13, u14, u15, u16, u17, u18, u19, u20, u21, u22, u23, u24, u25, u26, u27, u28, u29, u30, u31, u32, u33, u34, u35, u36, u37, u38, u39, u40, u41, u42, u43, u44, u45, u46, u47, u48, u49, u50, u51, u52, u53, u54, u55, u56, u57, u58, u59, u60, u61, u62, u63, u64, u65, u66, u67, u68, u69, u70, u71, u72, u73, u74, u75, u76, u77, u78, u79, u80, u81, u82, u83, u84, u85, u86, u87, u88, u89, u90], defers := [] })
set_option maxRecDepth 100000 in
set_option maxHeartbeats 4000000 in
theorem part_first (l0 l1 : List S31) (ad bd : Addr) (c0 c1 : Nat) (x y : S31) (w W1 : World) (ha : 0 < l0.length) (hb : 0 < l1.length) (ha2 : l0.length ≤ 65536) (hb2 : l1.length ≤ 65536) (HB1 : Hid (RowKit.Below w.heap.size w W1)) (HS : Hid (∀ W', RowKit.Below W1.heap.size W1 W' → W'.cell? ⟨w.heap.size, 0, none⟩ = some (.slice (some ad) l0.length c0) ∧ W'.cell? ⟨w.heap.size + 1, 0, none⟩ = some (.slice (some bd) l1.length c1) ∧ W'.cell? ad = some (.int .i64 x.f0) ∧ W'.cell? ⟨ad.block, ad.off + 1, none⟩ = some (.int .i64 x.f1) ∧ W'.cell? bd = some (.int .i64 y.f0) ∧ W'.cell? ⟨bd.block, bd.off + 1, none⟩ = some (.int .i64 y.f1))) (HT1 : Hid (∀ (dx dy : Int) W, RowKit.Below w.heap.size w W → ∀ g, W.heap[g]? = some (.cells #[.int .i64 dx, .int .i64 dy, .int .i64 0] 47) → Calls Try.prog 135 #[.slice (some ad) l0.length c0, .slice (some bd) l1.length c1, .slice (some ⟨g, 0, none⟩) 1 1] W fun e w' => e = .returned (.tuple #[.agg #[.int .i64 (tryT l0 l1 [⟨dx, dy, 0⟩]).1, .int .i64 (tryT l0 l1 [⟨dx, dy, 0⟩]).2.1, .int .i64 (tryT l0 l1 [⟨dx, dy, 0⟩]).2.2.1], .bool (tryT l0 l1 [⟨dx, dy, 0⟩]).2.2.2]) ∧ Below W.heap.size W w')) :
    (match Try.f78.body with | some (.seq _ (.seq (.seq r _) _)) => r | _ => .skip : Code).wp Try.prog (PartPost l0 l1 ad bd c0 c1 x y w W1) { tmps := #[.slice (some ad) l0.length c0, .slice (some bd) l1.length c1, .pointer (some ⟨w.heap.size, 0, none⟩), .pointer (some ⟨w.heap.size + 1, 0, none⟩), .pointer (some ⟨w.heap.size + 1 + 1, 0, none⟩), .pointer (some ⟨w.heap.size + 1 + 1 + 1, 0, none⟩), undef, undef, undef, undef, undef, undef, undef, undef, undef, undef, undef, undef, undef, undef, undef, undef, undef, undef, undef, undef, undef, undef, undef, undef, undef, undef, undef, undef, undef, undef, undef, undef, undef, undef, undef, undef, undef, undef, undef, undef, undef, undef, undef, undef, undef, undef, undef, undef, undef, undef, undef, undef, undef, undef, undef, undef, undef, undef, undef, undef, undef, undef, undef, undef, undef, undef, undef, undef, undef, undef, undef, undef, undef, undef, undef, undef, undef, undef, undef, undef, undef, undef, undef, undef, undef], defers := [] } W1 := by
  have hu := Try.underlying31
  have hu47 := Try.underlying47
  have hB1 : RowKit.Below W1.heap.size W1 W1.drew := below_drew (RowKit.Below.refl _ _)
  rw [show (match Try.f78.body with | some (.seq _ (.seq (.seq r _) _)) => r | _ => .skip : Code) = Code.region 1 _ true from rfl]
  go_region_held3 (fun w' => w'.cell? ⟨w.heap.size, 0, none⟩ = some (.slice (some ad) l0.length c0) ∧ w'.cell? ⟨w.heap.size + 1, 0, none⟩ = some (.slice (some bd) l1.length c1) ∧ w'.cell? ad = some (.int .i64 x.f0) ∧ w'.cell? ⟨ad.block, ad.off + 1, none⟩ = some (.int .i64 x.f1) ∧ w'.cell? bd = some (.int .i64 y.f0) ∧ w'.cell? ⟨bd.block, bd.off + 1, none⟩ = some (.int .i64 y.f1))
    (first | (exact HS.out _ (by repeat (first | assumption | exact RowKit.Below.refl _ _ | refine bal ?_ _ | refine bdr ?_ | refine bset ?_ (Nat.le_refl _) _ | refine bset ?_ (Nat.le_succ _) _))))
    (first | ((go_at_call 135; refine (HT1.out (IntKind.i64.wrap (y.f0 - x.f0)) (IntKind.i64.wrap (y.f1 - x.f1)) _ (below_under HB1.out (by (repeat (first | assumption | exact RowKit.Below.refl _ _ | refine bal ?_ _ | refine bdr ?_)))) _ (by first | with_reducible exact drew_at (new_at rfl) | with_reducible exact drew_at (old_at (new_at rfl)) | with_reducible exact drew_at (new_at (World.size_alloc _ _)))).mono ?_; rintro e w2 ⟨rfl, hb2⟩; have hb3 := below_then (A := W1) (by (repeat (first | assumption | exact RowKit.Below.refl _ _ | refine bal ?_ _ | refine bdr ?_))) hb2; (first | (with_reducible have hbx := after_call (o := .cells #[.int .i64 0, .int .i64 0, .int .i64 0] 47) (B := W1.heap.size + 1) (drew_at (new_at (World.size_alloc _ _))) hb2; obtain ⟨d0, d1, d2, e0, e1, e2⟩ := box3_cell hbx; have Hbx := Lib.hid hbx; clear hbx) | (with_reducible have hbx := after_call (o := .cells #[.int .i64 0, .int .i64 0, .int .i64 0] 47) (B := W1.heap.size) (drew_at (old_at (new_at rfl))) hb2; obtain ⟨d0, d1, d2, e0, e1, e2⟩ := box3_cell hbx; have Hbx := Lib.hid hbx; clear hbx) | skip))))
  all_goals unfold PartPost
  all_goals first
    | exact ⟨rfl, _, _, _, _, _, _, _, _, _, _, _, _, _, _, _, _, _, _, _, _, _, _, _, _, _, _, _, _, _, _, _, _, _, _, _, _, _, _, _, _, _, _, _, _, _, _, _, _, _, _, _, _, _, _, _, _, _, _, _, _, _, _, _, _, _, _, _, _, _, _, _, _, _, _, _, _, _, _, _, _, _, _, _, _, Nat.le_refl _, set3 Hbx.out _ _ _, (by (repeat (first | assumption | exact RowKit.Below.refl _ _ | refine bal ?_ _ | refine bdr ?_ | refine bset ?_ (Nat.le_refl _) _ | refine bset ?_ (Nat.le_succ _) _))), rfl⟩
    | exact ⟨rfl, _, _, _, _, _, _, _, _, _, _, _, _, _, _, _, _, _, _, _, _, _, _, _, _, _, _, _, _, _, _, _, _, _, _, _, _, _, _, _, _, _, _, _, _, _, _, _, _, _, _, _, _, _, _, _, _, _, _, _, _, _, _, _, _, _, _, _, _, _, _, _, _, _, _, _, _, _, _, _, _, _, _, _, _, Nat.le_succ _, set3 Hbx.out _ _ _, (by (repeat (first | assumption | exact RowKit.Below.refl _ _ | refine bal ?_ _ | refine bdr ?_ | refine bset ?_ (Nat.le_refl _) _ | refine bset ?_ (Nat.le_succ _) _))), rfl⟩
    | exact ⟨rfl, _, _, _, _, _, _, _, _, _, _, _, _, _, _, _, _, _, _, _, _, _, _, _, _, _, _, _, _, _, _, _, _, _, _, _, _, _, _, _, _, _, _, _, _, _, _, _, _, _, _, _, _, _, _, _, _, _, _, _, _, _, _, _, _, _, _, _, _, _, _, _, _, _, _, _, _, _, _, _, _, _, _, _, _, hb3.size, World.alloc_heap_new _ _, (by (repeat (first | assumption | exact RowKit.Below.refl _ _ | refine bal ?_ _ | refine bdr ?_ | refine bset ?_ (Nat.le_refl _) _ | refine bset ?_ (Nat.le_succ _) _))), rfl⟩
    | skip
end Go.Proofs.Ytkbcomgffpbcbaa.Plane
namespace Go.Proofs.Ytkbcomgffpbcbaa.Plane
open Go.RowKit
theorem results_part {W : World} {Br Bk : Nat} {a b c k : Value} (tmps : Array Value) (h4 : tmps.getD 4 undef = .pointer (some ⟨Br, 0, none⟩)) (h5 : tmps.getD 5 undef = .pointer (some ⟨Bk, 0, none⟩))
    (h1 : W.heap[Br]? = some (.cells #[a, b, c] 47)) (h2 : W.heap[Bk]? = some (.cells #[k] 4)) : (results Try.f78 tmps).run Try.prog W = .ok (.tuple #[.agg #[a, b, c], k]) W := by
  have hu47 := Try.underlying47
  have c0 : W.cell? ⟨Br, 0, none⟩ = some a := by simp [World.cell?, h1]
  have c1 : W.cell? ⟨Br, 1, none⟩ = some b := by simp [World.cell?, h1]
  have c2 : W.cell? ⟨Br, 2, none⟩ = some c := by simp [World.cell?, h1]
  have c3 : W.cell? ⟨Bk, 0, none⟩ = some k := by simp [World.cell?, h2]
  unfold results
  rw [show Try.f78.results = #[.cell 4 47, .cell 5 4] from rfl]
  have h4' : tmps[4]?.getD undef = .pointer (some ⟨Br, 0, none⟩) := by simpa using h4
  have h5' : tmps[5]?.getD undef = .pointer (some ⟨Bk, 0, none⟩) := by simpa using h5
  simp [go_sem, h4', h5', c0, c1, c2, c3]
end Go.Proofs.Ytkbcomgffpbcbaa.Plane
namespace Go.Proofs.Ytkbcomgffpbcbaa.Plane
open Go.RowKit Go.Shelf Go.Sort Go.Proofs.YtkbcomgffpbcbaaW.PrintWords Go.Proofs.YtkbcomgffpbcbaaW.PrintLast Go.Proofs.YtkbcomgffpbcbaaW.PrintMore Go.Proofs.Ytkbcomgffpbcbaa.Round
set_option linter.unusedVariables false
set_option linter.unusedSimpArgs false
section
attribute [local go_sem] Oper.semAt_some
def quadP (x : S31 × S31) : List S47 := [⟨wrap64 (x.2.f1 - x.1.f1), wrap64 (-(wrap64 (x.2.f0 - x.1.f0))), 0⟩, ⟨wrap64 (-(wrap64 (x.2.f1 - x.1.f1))), wrap64 (x.2.f0 - x.1.f0), 0⟩, ⟨wrap64 (x.2.f0 - x.1.f0), wrap64 (x.2.f1 - x.1.f1), 0⟩, ⟨wrap64 (-(wrap64 (x.2.f0 - x.1.f0))), wrap64 (-(wrap64 (x.2.f1 - x.1.f1))), 0⟩]
theorem quads_sides (l : List S31) : plane_part.quads l = (upto (sidesP l) l.length).map quadP := by
  unfold plane_part.quads upto
  rw [List.map_map]
  rfl
def N4 : Int × Int × Int × Bool := (0, 0, 0, false)
theorem goT_snoc (a b : List S31) (qs : List (List S47)) (q : List S47) (h : goT a b qs = N4) : goT a b (qs ++ [q]) = if (tryT a b q).2.2.2 = true then ((tryT a b q).1, (tryT a b q).2.1, (tryT a b q).2.2.1, true) else N4 := by
  rw [goT_append, h]
  rfl
theorem goT_prefix {a b : List S31} {xs ys : List (List S47)} (h : xs <+: ys) {t1 t2 t3 : Int} (hx : goT a b xs = (t1, t2, t3, true)) : goT a b ys = (t1, t2, t3, true) := by
  obtain ⟨zs, rfl⟩ := h
  rw [goT_append, hx, if_pos rfl]
def KeptBut (x y : Nat) (A W : World) : Prop := A.heap.size ≤ W.heap.size ∧ ∀ b, b < A.heap.size → b ≠ x → b ≠ y → W.heap[b]? = A.heap[b]?
theorem keptBut_own {β : Type} {x y B : Nat} {A : World} (hB : A.heap.size ≤ B) : OwnFrom B (fun (_ : β) W => KeptBut x y A W) := fun _ X Y row hs hg hr =>
  ⟨Nat.le_trans hs.1 hg.size, fun b hb h1 h2 => (hg.block b (Nat.lt_of_lt_of_le hb hs.1) (fun e => by have := (hr b e.symm).1; omega)).trans (hs.2 b hb h1 h2)⟩
theorem KeptBut.of_below {x y : Nat} {A W : World} (h : RowKit.Below A.heap.size A W) : KeptBut x y A W := ⟨h.size, fun b hb _ _ => h.block b hb⟩
theorem KeptBut.set {x y : Nat} {A W : World} (h : KeptBut x y A W) (p : Addr) (hp : p.block = x ∨ p.block = y) (v : Value) : KeptBut x y A (W.setCell p v) :=
  ⟨by simpa [World.setCell] using h.1, fun b hb h1 h2 => (Below.heap_setCell W p v b (by rcases hp with e | e <;> (rw [e]; assumption))).trans (h.2 b hb h1 h2)⟩
def RoundPost (l0 l1 : List S31) (ad bd : Addr) (c0 c1 : Nat) (w W0 : World) (zs : List S31) (ki : Int) (ds : List Deferred) : Exit → Act → World → Prop := fun e a' W' =>
  (e = .normal ∧ ∃ (D : Nat) (u6 u7 u8 u9 u10 u11 u12 u13 u14 u15 u16 u17 u18 u19 u20 u21 u22 u23 u24 u25 u26 u27 u28 u29 u30 u31 u32 u33 u34 u35 u36 u37 u38 u39 u40 u41 u42 u43 u44 u45 u48 u49 u50 u51 u52 u53 u54 u55 u56 u57 u58 u59 u60 u61 u62 u63 u64 u65 u66 u67 u68 u69 u70 u71 u72 u73 u74 u75 u76 u77 u78 u79 u80 u81 u82 u83 u84 u85 u86 u87 u88 u89 u90 : Value), W0.heap.size ≤ D ∧ W'.heap[D]? = some (.deferred (some [])) ∧ RowKit.Below W0.heap.size W0 W' ∧ goT l0 l1 (plane_part.quads zs) = N4 ∧ a' = { tmps := #[.slice (some ad) l0.length c0, .slice (some bd) l1.length c1, .pointer (some ⟨w.heap.size, 0, none⟩), .pointer (some ⟨w.heap.size + 1, 0, none⟩), .pointer (some ⟨w.heap.size + 1 + 1, 0, none⟩), .pointer (some ⟨w.heap.size + 1 + 1 + 1, 0, none⟩), u6, u7, u8, u9, u10, u11, u12, u13, u14, u15, u16, u17, u18, u19, u20, u21, u22, u23, u24, u25, u26, u27, u28, u29, u30, u31, u32, u33, u34, u35, u36, u37, u38, u39, u40, u41, u42, u43, u44, u45, .agg #[.slice (some ad) l0.length c0, .slice (some bd) l1.length c1], .int .i64 (ki + 1), u48, u49, u50, u51, u52, u53, u54, u55, u56, u57, u58, u59, u60, u61, u62, u63, u64, u65, u66, u67, u68, u69, u70, u71, u72, u73, u74, u75, u76, u77, u78, u79, u80, u81, u82, u83, u84, u85, u86, u87, u88, u89, u90], defers := { target := .collected D, args := #[] } :: ds }) ∨
  (e = .ret ∧ ∃ (D : Nat) (t1 t2 t3 : Int) (tm : Array Value), W0.heap.size ≤ D ∧ W'.heap[D]? = some (.deferred (some [])) ∧ goT l0 l1 (plane_part.quads zs) = (t1, t2, t3, true) ∧
    W'.heap[w.heap.size + 1 + 1]? = some (.cells #[.int .i64 t1, .int .i64 t2, .int .i64 t3] 47) ∧ W'.heap[w.heap.size + 1 + 1 + 1]? = some (.cells #[.bool true] 4) ∧ KeptBut (w.heap.size + 1 + 1) (w.heap.size + 1 + 1 + 1) W0 W' ∧ RowKit.Below w.heap.size w W' ∧
    a' = { tmps := tm, defers := { target := .collected D, args := #[] } :: ds } ∧ tm.getD 4 undef = .pointer (some ⟨w.heap.size + 1 + 1, 0, none⟩) ∧ tm.getD 5 undef = .pointer (some ⟨w.heap.size + 1 + 1 + 1, 0, none⟩))
def InnerI (l0 l1 : List S31) (Wl : World) (pre : List (S31 × S31)) (W : World) : Prop := goT l0 l1 (pre.map quadP) = N4 ∧ RowKit.Below Wl.heap.size Wl W
def InnerX (l0 l1 : List S31) (w Wl : World) (c : Code) (pre : List (S31 × S31)) (W : World) : Prop := (∃ t1 t2 t3 : Int, goT l0 l1 (pre.map quadP) = (t1, t2, t3, true) ∧ W.heap[w.heap.size + 1 + 1]? = some (.cells #[.int .i64 t1, .int .i64 t2, .int .i64 t3] 47) ∧ W.heap[w.heap.size + 1 + 1 + 1]? = some (.cells #[.bool true] 4)) ∧ (c = .ret ∧ KeptBut (w.heap.size + 1 + 1) (w.heap.size + 1 + 1 + 1) Wl W ∧ RowKit.Below w.heap.size w W)
def Quad4 (l0 l1 : List S31) (ad bd : Addr) (c0 c1 : Nat) (w : World) : Prop := ∀ (x1 y1 x2 y2 x3 y3 x4 y4 : Int) W, RowKit.Below w.heap.size w W → ∀ g, W.heap[g]? = some (.cells #[.int .i64 x1, .int .i64 y1, .int .i64 0, .int .i64 x2, .int .i64 y2, .int .i64 0, .int .i64 x3, .int .i64 y3, .int .i64 0, .int .i64 x4, .int .i64 y4, .int .i64 0] 47) → Calls Try.prog 135 #[.slice (some ad) l0.length c0, .slice (some bd) l1.length c1, .slice (some ⟨g, 0, none⟩) 4 4] W fun e w' => e = .returned (.tuple #[.agg #[.int .i64 (tryT l0 l1 [⟨x1, y1, 0⟩, ⟨x2, y2, 0⟩, ⟨x3, y3, 0⟩, ⟨x4, y4, 0⟩]).1, .int .i64 (tryT l0 l1 [⟨x1, y1, 0⟩, ⟨x2, y2, 0⟩, ⟨x3, y3, 0⟩, ⟨x4, y4, 0⟩]).2.1, .int .i64 (tryT l0 l1 [⟨x1, y1, 0⟩, ⟨x2, y2, 0⟩, ⟨x3, y3, 0⟩, ⟨x4, y4, 0⟩]).2.2.1], .bool (tryT l0 l1 [⟨x1, y1, 0⟩, ⟨x2, y2, 0⟩, ⟨x3, y3, 0⟩, ⟨x4, y4, 0⟩]).2.2.2]) ∧ Below W.heap.size W w'
theorem innerX_ret {l0 l1 : List S31} {w Wl W : World} {pre : List (S31 × S31)} {t1 t2 t3 : Int} (h1 : goT l0 l1 (pre.map quadP) = (t1, t2, t3, true)) (h2 : W.heap[w.heap.size + 1 + 1]? = some (.cells #[.int .i64 t1, .int .i64 t2, .int .i64 t3] 47)) (h3 : W.heap[w.heap.size + 1 + 1 + 1]? = some (.cells #[.bool true] 4)) (h4 : KeptBut (w.heap.size + 1 + 1) (w.heap.size + 1 + 1 + 1) Wl W) (h5 : RowKit.Below w.heap.size w W) : InnerX l0 l1 w Wl .ret pre W :=
  ⟨⟨t1, t2, t3, h1, h2, h3⟩, rfl, h4, h5⟩
theorem ownPostG_ret {α : Type} {B : Nat} {Kp : World → World → Prop} {I : List α → World → Prop} {Ix : Code → List α → World → Prop} {xs : List α} {W Wf : World} {a : Act} (h1 : KeepsFrom B W Wf) (h2 : Ix .ret xs Wf) : ownPostG B Kp I Ix xs W .ret a Wf := ⟨h1, h2⟩
theorem frozAl {W : World} {B j : Nat} {cs : Array Value} {t : TypeId} (h : W.heap[B]? = some (.cells cs t)) (hf : W.frozen? ⟨B, j, none⟩ = false) (o : Obj) : (W.alloc o).frozen? ⟨B, j, none⟩ = false := by
  have := old_at (o := .cells cs t) (o' := o) h
  simp only [World.frozen?, h, this] at hf ⊢
  exact hf
theorem box1_set {W : World} {B : Nat} {a : Value} {t : TypeId} (h : W.heap[B]? = some (.cells #[a] t)) (x : Value) : (W.setCell ⟨B, 0, none⟩ x).heap[B]? = some (.cells #[x] t) := by
  have hl := (Array.getElem?_eq_some_iff.1 h)
  obtain ⟨hl, he⟩ := hl
  simp [World.setCell, Array.getElem?_modify, Array.getElem_modify, hl, he]
theorem far_set {W : World} {B : Nat} {o : Obj} (h : W.heap[B]? = some o) (p : Addr) (hp : B ≠ p.block) (v : Value) : (W.setCell p v).heap[B]? = some o := (Below.heap_setCell W p v B hp).trans h
set_option maxRecDepth 100000 in
set_option maxHeartbeats 8000000 in
theorem part_body (F : Fence) (n : Nat) (hF : ∀ f, F.fn f) (hro : F.round = none) (hdp : F.depth = none) (hw : ∀ (m : Nat) (f : Nat) (args : Array Value) (w : World) (R : Ending → World → Prop), Calls Try.prog f args w R → CallsIn F m Try.prog f args w R) (hn : 3 ≤ n) (l0 l1 : List S31) (ad bd : Addr) (c0 c1 : Nat) (w W0 Wl : World) (b6 b7 b8 b9 b12 b13 b14 b15 b16 b17 b18 b19 b20 b21 b22 b23 b24 b25 b26 b27 b28 b29 b30 b31 b32 b33 b34 b35 b36 b37 b38 b39 b40 b41 b42 b43 b44 b45 b48 b49 b50 b51 b52 b53 b54 b55 b56 b57 b58 b59 b60 b61 b62 b63 b64 b65 b66 b67 b68 b69 b70 b71 b72 b73 b74 b75 b76 b77 b78 b79 b80 b81 b82 b83 b84 b85 b86 b87 b88 b89 b90 : Value) (ki : Int) (hd : Addr) (hdl : hd.block < w.heap.size) (hszW : w.heap.size + 4 ≤ W0.heap.size) (hszA : Wl.heap.size = W0.heap.size + 1) (hB0 : RowKit.Below W0.heap.size W0 Wl)
    (HBw : Hid (RowKit.Below w.heap.size w W0))
    (HbA : Hid (W0.heap[w.heap.size]? = some (.cells #[.slice (some ad) l0.length c0] 23))) (HbB : Hid (W0.heap[w.heap.size + 1]? = some (.cells #[.slice (some bd) l1.length c1] 23))) (HbR : Hid (W0.heap[w.heap.size + 1 + 1]? = some (.cells #[.int .i64 0, .int .i64 0, .int .i64 0] 47))) (HbK : Hid (W0.heap[w.heap.size + 1 + 1 + 1]? = some (.cells #[.bool false] 4)))
    (HT4 : Hid (Quad4 l0 l1 ad bd c0 c1 w)) (l : Nat) (pre : List (S31 × S31)) (x y : S31) (W : World) (hl : Wl.heap.size ≤ l) (hgo : goT l0 l1 (pre.map quadP) = N4) (hB : RowKit.Below Wl.heap.size Wl W) (Ba : Nat) (hBa : Wl.heap.size ≤ Ba)
    (ba : W.heap[Ba]? = some (.cells #[.int .i64 x.f0, .int .i64 x.f1] 31 (0, 0))) (bb : W.heap[Ba + 1]? = some (.cells #[.int .i64 y.f0, .int .i64 y.f1] 31 (0, 0))) :
    (match Try.f78.body with | some (.seq _ (.seq _ (.seq (.seq _ (.block _ (.loop (.seq _ (.seq _ (.seq (.block _ (.seq _ (.seq _ (.block _ (.rangeFunc _ _ _ b))))) _)))))) _))) => b | _ => .skip : Code).wpIn (F.inRound l) (n - 1 - 1) Try.prog
      (ownPostG Wl.heap.size (KeepTwo W0.heap.size hd.block) (InnerI l0 l1 Wl) (InnerX l0 l1 w Wl) (pre ++ [(x, y)]) W) { tmps := #[.slice (some ad) l0.length c0, .slice (some bd) l1.length c1, .pointer (some ⟨w.heap.size, 0, none⟩), .pointer (some ⟨w.heap.size + 1, 0, none⟩), .pointer (some ⟨w.heap.size + 1 + 1, 0, none⟩), .pointer (some ⟨w.heap.size + 1 + 1 + 1, 0, none⟩), b6, b7, b8, b9, .pointer (some ⟨Ba, 0, none⟩), .pointer (some ⟨Ba + 1, 0, none⟩), b12, b13, b14, b15, b16, b17, b18, b19, b20, b21, b22, b23, b24, b25, b26, b27, b28, b29, b30, b31, b32, b33, b34, b35, b36, b37, b38, b39, b40, b41, b42, b43, b44, b45, .agg #[.slice (some ad) l0.length c0, .slice (some bd) l1.length c1], .int .i64 ki, b48, b49, b50, b51, b52, b53, b54, b55, b56, b57, b58, b59, b60, b61, b62, b63, b64, b65, b66, b67, b68, b69, b70, b71, b72, b73, b74, b75, b76, b77, b78, b79, b80, b81, b82, b83, b84, b85, b86, b87, b88, b89, b90], defers := [] } W := by
  have hu := Try.underlying31
  have hu47 := Try.underlying47
  have h1 : 1 ≤ n := by omega
  rw [show (match Try.f78.body with | some (.seq _ (.seq _ (.seq (.seq _ (.block _ (.loop (.seq _ (.seq _ (.seq (.block _ (.seq _ (.seq _ (.block _ (.rangeFunc _ _ _ b))))) _)))))) _))) => b | _ => .skip : Code) = Code.block 3 _ from rfl]
  have hgs := goT_snoc l0 l1 (pre.map quadP) (quadP (x, y)) hgo
  rw [show pre.map quadP ++ [quadP (x, y)] = (pre ++ [(x, y)]).map quadP by simp] at hgs
  have f4 := cell_regrown (show W.cell? ⟨Ba, 0, none⟩ = some (.int .i64 x.f0) by simp [World.cell?, ba])
  have f5 := cell_regrown (show W.cell? ⟨Ba, 1, none⟩ = some (.int .i64 x.f1) by simp [World.cell?, ba])
  have f6 := cell_regrown (show W.cell? ⟨Ba + 1, 0, none⟩ = some (.int .i64 y.f0) by simp [World.cell?, bb])
  have f7 := cell_regrown (show W.cell? ⟨Ba + 1, 1, none⟩ = some (.int .i64 y.f1) by simp [World.cell?, bb])
  clear ba bb
  have HGS := Lib.hid hgs
  have HGO := Lib.hid hgo
  clear hgs hgo
  gi_wp2_with fail
  refine wpIn_region_quiet_below_r (by kernel_rfl) (by kernel_rfl) (by kernel_rfl) ?_
  repeat (gi_big_quiet_step (fail))
  refine wpQuietIn_nil ?_
  intro wq hw'
  have hbq : RowKit.Below W.heap.size W wq := by obtain ⟨p, rfl⟩ := hw'; exact below_regrown _ _ _
  clear hw' f4 f5 f6 f7
  have hBq : RowKit.Below Wl.heap.size Wl wq := below_then hB hbq
  have hB0q : RowKit.Below W0.heap.size W0 wq := hB0.trans (hBq.mono (by omega))
  have hBwq : RowKit.Below w.heap.size w wq := below_under HBw.out hB0q
  have c0' : wq.cell? ⟨w.heap.size, 0, none⟩ = some (.slice (some ad) l0.length c0) := by simp [World.cell?, (hB0q.block _ (by omega)).trans HbA.out]
  have c1' : wq.cell? ⟨w.heap.size + 1, 0, none⟩ = some (.slice (some bd) l1.length c1) := by simp [World.cell?, (hB0q.block _ (by omega)).trans HbB.out]
  have HQ : Hid (∀ W, RowKit.Below w.heap.size w W → ∀ g, W.heap[g]? = some (.cells #[.int .i64 (wrap64 (y.f1 - x.f1)), .int .i64 (wrap64 (-(wrap64 (y.f0 - x.f0)))), .int .i64 0, .int .i64 (wrap64 (-(wrap64 (y.f1 - x.f1)))), .int .i64 (wrap64 (y.f0 - x.f0)), .int .i64 0, .int .i64 (wrap64 (y.f0 - x.f0)), .int .i64 (wrap64 (y.f1 - x.f1)), .int .i64 0, .int .i64 (wrap64 (-(wrap64 (y.f0 - x.f0)))), .int .i64 (wrap64 (-(wrap64 (y.f1 - x.f1)))), .int .i64 0] 47) → Calls Try.prog 135 #[.slice (some ad) l0.length c0, .slice (some bd) l1.length c1, .slice (some ⟨g, 0, none⟩) 4 4] W fun e w' => e = .returned (.tuple #[.agg #[.int .i64 (tryT l0 l1 (quadP (x, y))).1, .int .i64 (tryT l0 l1 (quadP (x, y))).2.1, .int .i64 (tryT l0 l1 (quadP (x, y))).2.2.1], .bool (tryT l0 l1 (quadP (x, y))).2.2.2]) ∧ Below W.heap.size W w') :=
    Lib.hid (fun W hW g hg => HT4.out _ _ _ _ _ _ _ _ W hW g hg)
  generalize wrap64 (y.f0 - x.f0) = dx at HQ ⊢
  generalize wrap64 (y.f1 - x.f1) = dy at HQ ⊢
  generalize tryT l0 l1 (quadP (x, y)) = T at HQ HGS
  obtain ⟨t1, t2, t3, t4⟩ := T
  dsimp only at HQ
  have HBwq := Lib.hid hBwq
  have hszR : w.heap.size + 1 + 1 + 1 < wq.heap.size := by have := hB0q.size; omega
  have HbR' : Hid (wq.heap[w.heap.size + 1 + 1]? = some (.cells #[.int .i64 0, .int .i64 0, .int .i64 0] 47)) := Lib.hid ((hB0q.block _ (by omega)).trans HbR.out)
  have HbK' : Hid (wq.heap[w.heap.size + 1 + 1 + 1]? = some (.cells #[.bool false] 4)) := Lib.hid ((hB0q.block _ (by omega)).trans HbK.out)
  have HBq := Lib.hid hBq
  have HB := Lib.hid hB
  have Hbq := Lib.hid hbq
  clear HBw HbA HbB HbR HbK hB0 hBq hB0q hBwq hbq HT4 hB
  cases t4
  · gi_wp2_with (gi_at_call 135; refine (CallsIn.inRound l (hw _ 135 _ _ _ (HQ.out _ (bal HBwq.out _) _ (World.alloc_heap_new _ _)))).mono ?_; rintro e w3 ⟨rfl, hb3⟩)
    have hs3 := hb3.size
    simp at hs3
    have hb4 : RowKit.Below wq.heap.size wq (w3.alloc (.cells #[.int .i64 t1, .int .i64 t2, .int .i64 t3] 47)) := bal (below_then (bal (RowKit.Below.refl _ _) _) hb3) _
    have hb5 : RowKit.Below W.heap.size W (w3.alloc (.cells #[.int .i64 t1, .int .i64 t2, .int .i64 t3] 47)) := below_then Hbq.out hb4
    refine ⟨(keepsOthers_of_below hb5).from _, KeepTwo.of_below hb5, HGS.out.trans (if_neg Bool.false_ne_true), below_then HB.out hb5⟩
  · gi_wp2_with (gi_at_call 135; refine (CallsIn.inRound l (hw _ 135 _ _ _ (HQ.out _ (bal HBwq.out _) _ (World.alloc_heap_new _ _)))).mono ?_; rintro e w3 ⟨rfl, hb3⟩; have hs3 := hb3.size; have bR := (hb3.block (w.heap.size + 1 + 1) (by simp; omega)).trans (old_at HbR'.out); have bK := (hb3.block (w.heap.size + 1 + 1 + 1) (by simp; omega)).trans (old_at HbK'.out); obtain ⟨q0, q1, q2, qf0, qf1, qf2⟩ := box3_cell bR; have k0 : w3.cell? ⟨w.heap.size + 1 + 1 + 1, 0, none⟩ = some (.bool false) := (by simp [World.cell?, bK]); have kf : w3.frozen? ⟨w.heap.size + 1 + 1 + 1, 0, none⟩ = false := (by simp [World.frozen?, bK]); have r0 := cellAl q0 (.cells #[.int .i64 t1, .int .i64 t2, .int .i64 t3] 47); have r1 := cellAl q1 (.cells #[.int .i64 t1, .int .i64 t2, .int .i64 t3] 47); have r2 := cellAl q2 (.cells #[.int .i64 t1, .int .i64 t2, .int .i64 t3] 47); have r3 := cellAl k0 (.cells #[.int .i64 t1, .int .i64 t2, .int .i64 t3] 47); have rf0 := frozAl bR qf0 (.cells #[.int .i64 t1, .int .i64 t2, .int .i64 t3] 47); have rf1 := frozAl bR qf1 (.cells #[.int .i64 t1, .int .i64 t2, .int .i64 t3] 47); have rf2 := frozAl bR qf2 (.cells #[.int .i64 t1, .int .i64 t2, .int .i64 t3] 47); have rf3 := frozAl bK kf (.cells #[.int .i64 t1, .int .i64 t2, .int .i64 t3] 47); have HbR3 := Lib.hid bR; have HbK3 := Lib.hid bK; clear bR bK q0 q1 q2 qf0 qf1 qf2 k0 kf; simp at hs3; have hlR : w.heap.size + 1 + 1 + 1 < w3.heap.size := (by omega))
    have eR := (far_set (set3 (old_at (o' := .cells #[.int .i64 t1, .int .i64 t2, .int .i64 t3] 47) HbR3.out) (.int .i64 t1) (.int .i64 t2) (.int .i64 t3)) ⟨w.heap.size + 1 + 1 + 1, 0, none⟩ (by show w.heap.size + 1 + 1 ≠ w.heap.size + 1 + 1 + 1; omega) (.bool true))
    have eK := box1_set (far_set (far_set (far_set (old_at (o' := .cells #[.int .i64 t1, .int .i64 t2, .int .i64 t3] 47) HbK3.out) ⟨w.heap.size + 1 + 1, 0, none⟩ (by show w.heap.size + 1 + 1 + 1 ≠ w.heap.size + 1 + 1; omega) (.int .i64 t1)) ⟨w.heap.size + 1 + 1, 1, none⟩ (by show w.heap.size + 1 + 1 + 1 ≠ w.heap.size + 1 + 1; omega) (.int .i64 t2)) ⟨w.heap.size + 1 + 1, 2, none⟩ (by show w.heap.size + 1 + 1 + 1 ≠ w.heap.size + 1 + 1; omega) (.int .i64 t3)) (.bool true)
    have hb4 : RowKit.Below wq.heap.size wq (w3.alloc (.cells #[.int .i64 t1, .int .i64 t2, .int .i64 t3] 47)) := bal (below_then (bal (RowKit.Below.refl _ _) _) hb3) _
    have hb5 : RowKit.Below W.heap.size W (w3.alloc (.cells #[.int .i64 t1, .int .i64 t2, .int .i64 t3] 47)) := below_then Hbq.out hb4
    have hb6 : RowKit.Below Wl.heap.size Wl (w3.alloc (.cells #[.int .i64 t1, .int .i64 t2, .int .i64 t3] 47)) := below_then HB.out hb5
    have hb7 : RowKit.Below w.heap.size w (w3.alloc (.cells #[.int .i64 t1, .int .i64 t2, .int .i64 t3] 47)) := below_under HBwq.out hb4
    have hk1 : KeptBut (w.heap.size + 1 + 1) (w.heap.size + 1 + 1 + 1) Wl (w3.alloc (.cells #[.int .i64 t1, .int .i64 t2, .int .i64 t3] 47)) := KeptBut.of_below hb6
    have hk2 := hk1.set ⟨w.heap.size + 1 + 1, 0, none⟩ (.inl rfl) (.int .i64 t1)
    have hk3 := hk2.set ⟨w.heap.size + 1 + 1, 1, none⟩ (.inl rfl) (.int .i64 t2)
    have hk4 := hk3.set ⟨w.heap.size + 1 + 1, 2, none⟩ (.inl rfl) (.int .i64 t3)
    have hk5 := hk4.set ⟨w.heap.size + 1 + 1 + 1, 0, none⟩ (.inr rfl) (.bool true)
    have hl1 : w.heap.size ≤ (⟨w.heap.size + 1 + 1, 0, none⟩ : Addr).block := by show w.heap.size ≤ w.heap.size + 1 + 1; omega
    have hl2 : w.heap.size ≤ (⟨w.heap.size + 1 + 1, 1, none⟩ : Addr).block := by show w.heap.size ≤ w.heap.size + 1 + 1; omega
    have hl3 : w.heap.size ≤ (⟨w.heap.size + 1 + 1, 2, none⟩ : Addr).block := by show w.heap.size ≤ w.heap.size + 1 + 1; omega
    have hl4 : w.heap.size ≤ (⟨w.heap.size + 1 + 1 + 1, 0, none⟩ : Addr).block := by show w.heap.size ≤ w.heap.size + 1 + 1 + 1; omega
    have hb8 := (((hb7.setCell hl1 (.int .i64 t1)).setCell hl2 (.int .i64 t2)).setCell hl3 (.int .i64 t3)).setCell hl4 (.bool true)
    have hko := ((((keepsOthers_of_below hb5).trans (KeepsOthers.setCell _ ⟨w.heap.size + 1 + 1, 0, none⟩ (.int .i64 t1))).trans (KeepsOthers.setCell _ ⟨w.heap.size + 1 + 1, 1, none⟩ (.int .i64 t2))).trans (KeepsOthers.setCell _ ⟨w.heap.size + 1 + 1, 2, none⟩ (.int .i64 t3))).trans (KeepsOthers.setCell _ ⟨w.heap.size + 1 + 1 + 1, 0, none⟩ (.bool true))
    have hg := HGS.out.trans (if_pos trivial)
    clear HGS HQ HbR3 HbK3 r0 r1 r2 r3 rf0 rf1 rf2 rf3 hk1 hk2 hk3 hk4 hu hu47
    exact ownPostG_ret (hko.from _) (innerX_ret hg eR eK hk5 hb8)
end
end Go.Proofs.Ytkbcomgffpbcbaa.Plane
namespace Go.Proofs.Ytkbcomgffpbcbaa.Plane
open Go.RowKit Go.Shelf Go.Sort Go.Proofs.YtkbcomgffpbcbaaW.PrintWords Go.Proofs.YtkbcomgffpbcbaaW.PrintLast Go.Proofs.YtkbcomgffpbcbaaW.PrintMore Go.Proofs.Ytkbcomgffpbcbaa.Round
set_option linter.unusedVariables false
set_option linter.unusedSimpArgs false
section
attribute [local go_sem] Oper.semAt_some
set_option maxRecDepth 100000 in
set_option maxHeartbeats 8000000 in
theorem part_round (F : Fence) (n : Nat) (hF : ∀ f, F.fn f) (hro : F.round = none) (hdp : F.depth = none) (hw : ∀ (m : Nat) (f : Nat) (args : Array Value) (w : World) (R : Ending → World → Prop), Calls Try.prog f args w R → CallsIn F m Try.prog f args w R) (hn : 3 ≤ n) (l0 l1 : List S31) (ad bd : Addr) (c0 c1 : Nat) (w W0 : World) (v6 v7 v8 v9 v10 v11 v12 v13 v14 v15 v16 v17 v18 v19 v20 v21 v22 v23 v24 v25 v26 v27 v28 v29 v30 v31 v32 v33 v34 v35 v36 v37 v38 v39 v40 v41 v42 v43 v44 v45 v48 v49 v50 v51 v52 v53 v54 v55 v56 v57 v58 v59 v60 v61 v62 v63 v64 v65 v66 v67 v68 v69 v70 v71 v72 v73 v74 v75 v76 v77 v78 v79 v80 v81 v82 v83 v84 v85 v86 v87 v88 v89 v90 : Value) (ki : Int) (hk0 : 0 ≤ ki) (hk1 : decide (ki < 2) = true) (hk2 : ki < 2) (ds : List Deferred) (hd : Addr) (hc : Nat) (zs : List S31) (hz : zs.length ≤ 65536) (hzp : 0 < zs.length)
    (hidx : ∀ W, (Instr.index 180 (.agg #[.slice (some ad) l0.length c0, .slice (some bd) l1.length c1]) (.int .i64 ki)).run Try.prog W = .ok (.slice (some hd) zs.length hc) W) (HC : Hid (Kd.C k31 w (some hd) zs.length zs)) (HBw : Hid (RowKit.Below w.heap.size w W0)) (Hsz : Hid (w.heap.size + 4 ≤ W0.heap.size))
    (HbA : Hid (W0.heap[w.heap.size]? = some (.cells #[.slice (some ad) l0.length c0] 23))) (HbB : Hid (W0.heap[w.heap.size + 1]? = some (.cells #[.slice (some bd) l1.length c1] 23))) (HbR : Hid (W0.heap[w.heap.size + 1 + 1]? = some (.cells #[.int .i64 0, .int .i64 0, .int .i64 0] 47))) (HbK : Hid (W0.heap[w.heap.size + 1 + 1 + 1]? = some (.cells #[.bool false] 4)))
    (HT4 : Hid (Quad4 l0 l1 ad bd c0 c1 w)) :
    (match Try.f78.body with | some (.seq _ (.seq _ (.seq (.seq _ (.block _ (.loop c))) _))) => c | _ => .skip : Code).wpIn F n Try.prog (RoundPost l0 l1 ad bd c0 c1 w W0 zs ki ds) { tmps := #[.slice (some ad) l0.length c0, .slice (some bd) l1.length c1, .pointer (some ⟨w.heap.size, 0, none⟩), .pointer (some ⟨w.heap.size + 1, 0, none⟩), .pointer (some ⟨w.heap.size + 1 + 1, 0, none⟩), .pointer (some ⟨w.heap.size + 1 + 1 + 1, 0, none⟩), v6, v7, v8, v9, v10, v11, v12, v13, v14, v15, v16, v17, v18, v19, v20, v21, v22, v23, v24, v25, v26, v27, v28, v29, v30, v31, v32, v33, v34, v35, v36, v37, v38, v39, v40, v41, v42, v43, v44, v45, .agg #[.slice (some ad) l0.length c0, .slice (some bd) l1.length c1], .int .i64 ki, v48, v49, v50, v51, v52, v53, v54, v55, v56, v57, v58, v59, v60, v61, v62, v63, v64, v65, v66, v67, v68, v69, v70, v71, v72, v73, v74, v75, v76, v77, v78, v79, v80, v81, v82, v83, v84, v85, v86, v87, v88, v89, v90], defers := ds } W0 := by
  have hu := Try.underlying31
  have hu47 := Try.underlying47
  have h1 : 1 ≤ n := by omega
  dsimp only [Try.f78]
  gi_wp2_with (gi_at_call 72; refine (sides_in F _ (hF _) hro _ _ _ _).mono ?_; rintro e w2 ⟨rfl, rfl⟩)
  have bI := Boxed.new W0 23 (.slice (some hd) zs.length hc)
  have hB0 : RowKit.Below W0.heap.size W0 (W0.alloc (.cells #[.slice (some hd) zs.length hc] 23)) := bal (RowKit.Below.refl _ _) _
  have hBw0 : RowKit.Below w.heap.size w (W0.alloc (.cells #[.slice (some hd) zs.length hc] 23)) := below_under HBw.out hB0
  have hC0 := Kd.C_below HC.out hBw0
  have hdl : hd.block < w.heap.size := by
    obtain ⟨ad', e, hx0, _⟩ := at_T31 HC.out 0 (by omega) (by omega)
    cases e
    exact World.block_lt_of_cell? w _ (by rw [show ((0 : Int).toNat * 2) = 0 from rfl] at hx0; exact hx0)
  have hszA : (W0.alloc (.cells #[.slice (some hd) zs.length hc] 23)).heap.size = W0.heap.size + 1 := by simp
  obtain ⟨Wl, hWl⟩ : ∃ Wl, W0.alloc (.cells #[.slice (some hd) zs.length hc] 23) = Wl := ⟨_, rfl⟩
  rw [hWl] at bI hB0 hBw0 hC0 hszA ⊢
  have hszW := Hsz.out
  clear hWl
  refine wpIn_rangeFunc_ownH hro h1 (gf := 134) (lb := #[.pointer (some ⟨W0.heap.size, 0, none⟩)]) rfl (hF _) (enters_of Try.func134 (by kernel_rfl) rfl)
    (sides_stops F (n - 1) (hF _) hro (by omega) W0.heap.size hc hd zs hz Wl bI.cell hC0) KeepTwo.trans (KeepTwo.put (by omega) (by omega)) (Below.refl _ _) (fun _ => rfl)
    (InnerI l0 l1 Wl)
    (InnerX l0 l1 w Wl)
    (OwnFrom.and (ownFrom_pure _ _) (ownFrom_below (Nat.le_refl _) (Nat.le_refl _)))
    (fun c => OwnFrom.and (fun s X Y row hs hg hr => by
        obtain ⟨t1, t2, t3, h1, h2, h3⟩ := hs
        exact ⟨t1, t2, t3, h1, blk_own (β := Unit) _ _ 47 () X Y row h2 hg (fun r e => (hr r e).2), blk_own (β := Unit) _ _ 4 () X Y row h3 hg (fun r e => (hr r e).2)⟩)
      (OwnFrom.and (ownFrom_pure _ _) (OwnFrom.and (keptBut_own (Nat.le_refl _)) (ownFrom_below (Nat.le_refl _) (by omega)))))
    ⟨rfl, Below.refl _ _⟩
    (fun x a' W => ∃ (Ba : Nat) (b6 b7 b8 b9 b12 b13 b14 b15 b16 b17 b18 b19 b20 b21 b22 b23 b24 b25 b26 b27 b28 b29 b30 b31 b32 b33 b34 b35 b36 b37 b38 b39 b40 b41 b42 b43 b44 b45 b48 b49 b50 b51 b52 b53 b54 b55 b56 b57 b58 b59 b60 b61 b62 b63 b64 b65 b66 b67 b68 b69 b70 b71 b72 b73 b74 b75 b76 b77 b78 b79 b80 b81 b82 b83 b84 b85 b86 b87 b88 b89 b90 : Value), Wl.heap.size ≤ Ba ∧ W.heap[Ba]? = some (.cells #[.int .i64 x.1.f0, .int .i64 x.1.f1] 31 (0, 0)) ∧ W.heap[Ba + 1]? = some (.cells #[.int .i64 x.2.f0, .int .i64 x.2.f1] 31 (0, 0)) ∧ a' = { tmps := #[.slice (some ad) l0.length c0, .slice (some bd) l1.length c1, .pointer (some ⟨w.heap.size, 0, none⟩), .pointer (some ⟨w.heap.size + 1, 0, none⟩), .pointer (some ⟨w.heap.size + 1 + 1, 0, none⟩), .pointer (some ⟨w.heap.size + 1 + 1 + 1, 0, none⟩), b6, b7, b8, b9, .pointer (some ⟨Ba, 0, none⟩), .pointer (some ⟨Ba + 1, 0, none⟩), b12, b13, b14, b15, b16, b17, b18, b19, b20, b21, b22, b23, b24, b25, b26, b27, b28, b29, b30, b31, b32, b33, b34, b35, b36, b37, b38, b39, b40, b41, b42, b43, b44, b45, .agg #[.slice (some ad) l0.length c0, .slice (some bd) l1.length c1], .int .i64 ki, b48, b49, b50, b51, b52, b53, b54, b55, b56, b57, b58, b59, b60, b61, b62, b63, b64, b65, b66, b67, b68, b69, b70, b71, b72, b73, b74, b75, b76, b77, b78, b79, b80, b81, b82, b83, b84, b85, b86, b87, b88, b89, b90], defers := [] })
    (fun x a' _ X Y row hs hg hr => by obtain ⟨Ba, b6, b7, b8, b9, b12, b13, b14, b15, b16, b17, b18, b19, b20, b21, b22, b23, b24, b25, b26, b27, b28, b29, b30, b31, b32, b33, b34, b35, b36, b37, b38, b39, b40, b41, b42, b43, b44, b45, b48, b49, b50, b51, b52, b53, b54, b55, b56, b57, b58, b59, b60, b61, b62, b63, b64, b65, b66, b67, b68, b69, b70, b71, b72, b73, b74, b75, b76, b77, b78, b79, b80, b81, b82, b83, b84, b85, b86, b87, b88, b89, b90, h1, h2, h3, h4⟩ := hs; exact ⟨Ba, b6, b7, b8, b9, b12, b13, b14, b15, b16, b17, b18, b19, b20, b21, b22, b23, b24, b25, b26, b27, b28, b29, b30, b31, b32, b33, b34, b35, b36, b37, b38, b39, b40, b41, b42, b43, b44, b45, b48, b49, b50, b51, b52, b53, b54, b55, b56, b57, b58, b59, b60, b61, b62, b63, b64, b65, b66, b67, b68, b69, b70, b71, b72, b73, b74, b75, b76, b77, b78, b79, b80, b81, b82, b83, b84, b85, b86, b87, b88, b89, b90, h1, blk_own (β := Unit) Ba _ 31 () X Y row h2 hg (fun r e => (hr r e).2), blk_own (β := Unit) (Ba + 1) _ 31 () X Y row h3 hg (fun r e => (hr r e).2), h4⟩)
    ?assign ?body ?done ?stop
  case assign =>
    rintro l pre ⟨x, y⟩ W K ⟨hgo, hB⟩ hK
    unfold encPP
    have hu := Try.underlying31
    gi_wp2
    exact hK _ _ (((KeepsOthers.alloc _ _).trans (KeepsOthers.alloc _ _)).from _) (.of_below (bal (bal (RowKit.Below.refl _ _) _) _)) ⟨hgo, bal (bal hB _) _⟩ ⟨W.heap.size, _, _, _, _, _, _, _, _, _, _, _, _, _, _, _, _, _, _, _, _, _, _, _, _, _, _, _, _, _, _, _, _, _, _, _, _, _, _, _, _, _, _, _, _, _, _, _, _, _, _, _, _, _, _, _, _, _, _, _, _, _, _, _, _, _, _, _, _, _, _, _, _, _, _, _, _, _, _, _, _, _, hB.size, old_at (World.alloc_heap_new W _), new_at (by simp), rfl⟩
  case body =>
    rintro l pre ⟨x, y⟩ a' W hl ⟨r, hr⟩ ⟨hgo, hB⟩ ⟨Ba, b6, b7, b8, b9, b12, b13, b14, b15, b16, b17, b18, b19, b20, b21, b22, b23, b24, b25, b26, b27, b28, b29, b30, b31, b32, b33, b34, b35, b36, b37, b38, b39, b40, b41, b42, b43, b44, b45, b48, b49, b50, b51, b52, b53, b54, b55, b56, b57, b58, b59, b60, b61, b62, b63, b64, b65, b66, b67, b68, b69, b70, b71, b72, b73, b74, b75, b76, b77, b78, b79, b80, b81, b82, b83, b84, b85, b86, b87, b88, b89, b90, hBa, ba, bb, rfl⟩ hlt
    exact part_body F n hF hro hdp hw hn l0 l1 ad bd c0 c1 w W0 Wl b6 b7 b8 b9 b12 b13 b14 b15 b16 b17 b18 b19 b20 b21 b22 b23 b24 b25 b26 b27 b28 b29 b30 b31 b32 b33 b34 b35 b36 b37 b38 b39 b40 b41 b42 b43 b44 b45 b48 b49 b50 b51 b52 b53 b54 b55 b56 b57 b58 b59 b60 b61 b62 b63 b64 b65 b66 b67 b68 b69 b70 b71 b72 b73 b74 b75 b76 b77 b78 b79 b80 b81 b82 b83 b84 b85 b86 b87 b88 b89 b90 ki hd hdl hszW hszA hB0 HBw HbA HbB HbR HbK HT4 l pre x y W hl hgo hB Ba hBa ba bb
  case done =>
    rintro D ys W hD rfl ⟨hgo, hB⟩ hK
    have e1 : IntKind.i64.wrap (ki + 1) = ki + 1 := IntWalk.i64_in _ (by omega)
    gi_wp2
    refine .inl ⟨rfl, D, _, _, _, _, _, _, _, _, _, _, _, _, _, _, _, _, _, _, _, _, _, _, _, _, _, _, _, _, _, _, _, _, _, _, _, _, _, _, _, _, _, _, _, _, _, _, _, _, _, _, _, _, _, _, _, _, _, _, _, _, _, _, _, _, _, _, _, _, _, _, _, _, _, _, _, _, _, _, _, _, _, _, _, by omega, hK, hB0.trans (hB.mono (by omega)), by rw [quads_sides]; exact hgo, rfl⟩
  case stop =>
    rintro D c pre W hD hpre ⟨⟨t1, t2, t3, hgo, hR, hK⟩, rfl, hkb, hbw⟩ hDD
    gi_wp2
    refine .inr ⟨rfl, D, t1, t2, t3, _, by omega, hDD, ?_, hR, hK, ⟨by have := hkb.1; omega, fun b hb h1 h2 => (hkb.2 b (by omega) h1 h2).trans (hB0.block b hb)⟩, hbw, rfl, rfl, rfl⟩
    rw [quads_sides]
    exact goT_prefix (hpre.map quadP) hgo
end
end Go.Proofs.Ytkbcomgffpbcbaa.Plane
namespace Go.Proofs.Ytkbcomgffpbcbaa.Plane
open Go.RowKit Go.Shelf Go.Sort Go.Proofs.YtkbcomgffpbcbaaW.PrintWords Go.Proofs.YtkbcomgffpbcbaaW.PrintLast Go.Proofs.YtkbcomgffpbcbaaW.PrintMore Go.Proofs.Ytkbcomgffpbcbaa.Round
set_option linter.unusedVariables false
set_option linter.unusedSimpArgs false
def mark (D : Nat) : Deferred := { target := .collected D, args := #[] }
theorem leaves_mark {F : Fence} {n : Nat} {P : Program} {fn : Func} {tmps : Array Value} {R : Ending → World → Prop} {ds : List Deferred} {D : Nat} {W : World} (hK : W.heap[D]? = some (.deferred (some []))) (h : LeavesInM F n P fn tmps R ds .returning (W.putObj D (.deferred none))) : LeavesInM F n P fn tmps R (mark D :: ds) .returning W :=
  ⟨by simp, .inl ⟨_, _, rfl, run_takeDeferred hK, h⟩⟩
theorem put_other {W : World} {D B : Nat} {o o' : Obj} (hne : B ≠ D) (h : W.heap[B]? = some o) : (W.putObj D o').heap[B]? = some o := by
  have hl := (Array.getElem?_eq_some_iff.1 h).1
  exact ((grownBy_putObj' W D o').block B hl (fun e => by cases e; exact hne rfl)).trans h
structure LoopNone (l0 l1 : List S31) (W2 W' : World) (D0 D1 : Nat) : Prop where
  h0 : W2.heap.size ≤ D0
  h1 : W2.heap.size ≤ D1
  ne : D0 ≠ D1
  k0 : W'.heap[D0]? = some (.deferred (some []))
  k1 : W'.heap[D1]? = some (.deferred (some []))
  below : RowKit.Below W2.heap.size W2 W'
  go : goT l0 l1 (plane_part.quads l0 ++ plane_part.quads l1) = N4
structure LoopFound (l0 l1 : List S31) (w W2 W' : World) (tm : Array Value) (t1 t2 t3 : Int) : Prop where
  go : goT l0 l1 (plane_part.quads l0 ++ plane_part.quads l1) = (t1, t2, t3, true)
  hR : W'.heap[w.heap.size + 1 + 1]? = some (.cells #[.int .i64 t1, .int .i64 t2, .int .i64 t3] 47)
  hK : W'.heap[w.heap.size + 1 + 1 + 1]? = some (.cells #[.bool true] 4)
  below : RowKit.Below w.heap.size w W'
  t4 : tm.getD 4 undef = .pointer (some ⟨w.heap.size + 1 + 1, 0, none⟩)
  t5 : tm.getD 5 undef = .pointer (some ⟨w.heap.size + 1 + 1 + 1, 0, none⟩)
set_option maxRecDepth 100000 in
set_option maxHeartbeats 8000000 in
theorem part_loop (l0 l1 : List S31) (ad bd : Addr) (c0 c1 : Nat) (w W2 : World) (v6 v7 v8 v9 v10 v11 v12 v13 v14 v15 v16 v17 v18 v19 v20 v21 v22 v23 v24 v25 v26 v27 v28 v29 v30 v31 v32 v33 v34 v35 v36 v37 v38 v39 v40 v41 v42 v43 v44 v45 v48 v49 v50 v51 v52 v53 v54 v55 v56 v57 v58 v59 v60 v61 v62 v63 v64 v65 v66 v67 v68 v69 v70 v71 v72 v73 v74 v75 v76 v77 v78 v79 v80 v81 v82 v83 v84 v85 v86 v87 v88 v89 v90 : Value) (ha : 0 < l0.length) (hb : 0 < l1.length) (ha2 : l0.length ≤ 65536) (hb2 : l1.length ≤ 65536) (HR0 : Hid (Kd.C k31 w (some ad) l0.length l0)) (HR1 : Hid (Kd.C k31 w (some bd) l1.length l1)) (HBw : Hid (RowKit.Below w.heap.size w W2)) (Hsz : Hid (w.heap.size + 4 ≤ W2.heap.size))
    (HbA : Hid (W2.heap[w.heap.size]? = some (.cells #[.slice (some ad) l0.length c0] 23))) (HbB : Hid (W2.heap[w.heap.size + 1]? = some (.cells #[.slice (some bd) l1.length c1] 23))) (HbR : Hid (W2.heap[w.heap.size + 1 + 1]? = some (.cells #[.int .i64 0, .int .i64 0, .int .i64 0] 47))) (HbK : Hid (W2.heap[w.heap.size + 1 + 1 + 1]? = some (.cells #[.bool false] 4)))
    (HT4 : Hid (Quad4 l0 l1 ad bd c0 c1 w)) (Q : Exit → Act → World → Prop)
    (hnone : ∀ (D0 D1 : Nat) (u6 u7 u8 u9 u10 u11 u12 u13 u14 u15 u16 u17 u18 u19 u20 u21 u22 u23 u24 u25 u26 u27 u28 u29 u30 u31 u32 u33 u34 u35 u36 u37 u38 u39 u40 u41 u42 u43 u44 u45 u49 u50 u51 u52 u53 u54 u55 u56 u57 u58 u59 u60 u61 u62 u63 u64 u65 u66 u67 u68 u69 u70 u71 u72 u73 u74 u75 u76 u77 u78 u79 u80 u81 u82 u83 u84 u85 u86 u87 u88 u89 u90 : Value) (W' : World), LoopNone l0 l1 W2 W' D0 D1 → Q (.exit 0) { tmps := #[.slice (some ad) l0.length c0, .slice (some bd) l1.length c1, .pointer (some ⟨w.heap.size, 0, none⟩), .pointer (some ⟨w.heap.size + 1, 0, none⟩), .pointer (some ⟨w.heap.size + 1 + 1, 0, none⟩), .pointer (some ⟨w.heap.size + 1 + 1 + 1, 0, none⟩), u6, u7, u8, u9, u10, u11, u12, u13, u14, u15, u16, u17, u18, u19, u20, u21, u22, u23, u24, u25, u26, u27, u28, u29, u30, u31, u32, u33, u34, u35, u36, u37, u38, u39, u40, u41, u42, u43, u44, u45, .agg #[.slice (some ad) l0.length c0, .slice (some bd) l1.length c1], .int .i64 (0 + 1 + 1), .bool false, u49, u50, u51, u52, u53, u54, u55, u56, u57, u58, u59, u60, u61, u62, u63, u64, u65, u66, u67, u68, u69, u70, u71, u72, u73, u74, u75, u76, u77, u78, u79, u80, u81, u82, u83, u84, u85, u86, u87, u88, u89, u90], defers := [mark D1, mark D0] } W')
    (hone : ∀ (D0 : Nat) (tm : Array Value) (t1 t2 t3 : Int) (W' : World), W2.heap.size ≤ D0 → W'.heap[D0]? = some (.deferred (some [])) → LoopFound l0 l1 w W2 W' tm t1 t2 t3 → Q .ret { tmps := tm, defers := [mark D0] } W')
    (htwo : ∀ (D0 D1 : Nat) (tm : Array Value) (t1 t2 t3 : Int) (W' : World), W2.heap.size ≤ D0 → W2.heap.size ≤ D1 → D0 ≠ D1 → W'.heap[D0]? = some (.deferred (some [])) → W'.heap[D1]? = some (.deferred (some [])) → LoopFound l0 l1 w W2 W' tm t1 t2 t3 → Q .ret { tmps := tm, defers := [mark D1, mark D0] } W') :
    (Code.loop (match Try.f78.body with | some (.seq _ (.seq _ (.seq (.seq _ (.block _ (.loop c))) _))) => c | _ => .skip : Code)).wp Try.prog Q { tmps := #[.slice (some ad) l0.length c0, .slice (some bd) l1.length c1, .pointer (some ⟨w.heap.size, 0, none⟩), .pointer (some ⟨w.heap.size + 1, 0, none⟩), .pointer (some ⟨w.heap.size + 1 + 1, 0, none⟩), .pointer (some ⟨w.heap.size + 1 + 1 + 1, 0, none⟩), v6, v7, v8, v9, v10, v11, v12, v13, v14, v15, v16, v17, v18, v19, v20, v21, v22, v23, v24, v25, v26, v27, v28, v29, v30, v31, v32, v33, v34, v35, v36, v37, v38, v39, v40, v41, v42, v43, v44, v45, .agg #[.slice (some ad) l0.length c0, .slice (some bd) l1.length c1], .int .i64 0, v48, v49, v50, v51, v52, v53, v54, v55, v56, v57, v58, v59, v60, v61, v62, v63, v64, v65, v66, v67, v68, v69, v70, v71, v72, v73, v74, v75, v76, v77, v78, v79, v80, v81, v82, v83, v84, v85, v86, v87, v88, v89, v90], defers := [] } W2 := by
  have hsz := Hsz.out
  refine wp_loop_rounds 3 ?_
  rw [rounds_succ]
  have hidx0 : ∀ W, (Instr.index 180 (.agg #[.slice (some ad) l0.length c0, .slice (some bd) l1.length c1]) (.int .i64 0)).run Try.prog W = .ok (.slice (some ad) l0.length c0) W := fun W => by kernel_rfl
  have hidx1 : ∀ W, (Instr.index 180 (.agg #[.slice (some ad) l0.length c0, .slice (some bd) l1.length c1]) (.int .i64 (0 + 1))).run Try.prog W = .ok (.slice (some bd) l1.length c1) W := fun W => by kernel_rfl
  refine Code.wp_mono ?r1 (wpIn_wide.1 (part_round Fence.wide 3 (fun _ => trivial) rfl rfl (fun m f args w R hh => callsIn_wide.2 hh) (by omega) l0 l1 ad bd c0 c1 w W2 v6 v7 v8 v9 v10 v11 v12 v13 v14 v15 v16 v17 v18 v19 v20 v21 v22 v23 v24 v25 v26 v27 v28 v29 v30 v31 v32 v33 v34 v35 v36 v37 v38 v39 v40 v41 v42 v43 v44 v45 v48 v49 v50 v51 v52 v53 v54 v55 v56 v57 v58 v59 v60 v61 v62 v63 v64 v65 v66 v67 v68 v69 v70 v71 v72 v73 v74 v75 v76 v77 v78 v79 v80 v81 v82 v83 v84 v85 v86 v87 v88 v89 v90 0 (by omega) rfl (by omega) [] ad c0 l0 ha2 ha hidx0 HR0 HBw Hsz HbA HbB HbR HbK HT4))
  case r1 =>
  intro e a3 W3 hQ
  unfold RoundPost at hQ
  rcases hQ with ⟨rfl, D0, s6, s7, s8, s9, s10, s11, s12, s13, s14, s15, s16, s17, s18, s19, s20, s21, s22, s23, s24, s25, s26, s27, s28, s29, s30, s31, s32, s33, s34, s35, s36, s37, s38, s39, s40, s41, s42, s43, s44, s45, s48, s49, s50, s51, s52, s53, s54, s55, s56, s57, s58, s59, s60, s61, s62, s63, s64, s65, s66, s67, s68, s69, s70, s71, s72, s73, s74, s75, s76, s77, s78, s79, s80, s81, s82, s83, s84, s85, s86, s87, s88, s89, s90, hD0, hK0, hB3, hgo0, rfl⟩ | ⟨rfl, D0, t1, t2, t3, tm, hD0, hK0, hgo0, hR, hKc, hkb, hbw, rfl, e4, e5⟩
  case inr =>
    exact hone D0 tm t1 t2 t3 W3 hD0 hK0 ⟨goT_prefix (List.prefix_append _ _) hgo0, hR, hKc, hbw, e4, e5⟩
  show Code.rounds Try.prog (match Try.f78.body with | some (.seq _ (.seq _ (.seq (.seq _ (.block _ (.loop c))) _))) => c | _ => .skip : Code) Q 2 _ _
  rw [rounds_succ]
  have hs3 := hB3.size
  refine Code.wp_mono ?r2 (wpIn_wide.1 (part_round Fence.wide 3 (fun _ => trivial) rfl rfl (fun m f args w R hh => callsIn_wide.2 hh) (by omega) l0 l1 ad bd c0 c1 w W3 s6 s7 s8 s9 s10 s11 s12 s13 s14 s15 s16 s17 s18 s19 s20 s21 s22 s23 s24 s25 s26 s27 s28 s29 s30 s31 s32 s33 s34 s35 s36 s37 s38 s39 s40 s41 s42 s43 s44 s45 s48 s49 s50 s51 s52 s53 s54 s55 s56 s57 s58 s59 s60 s61 s62 s63 s64 s65 s66 s67 s68 s69 s70 s71 s72 s73 s74 s75 s76 s77 s78 s79 s80 s81 s82 s83 s84 s85 s86 s87 s88 s89 s90 (0 + 1) (by omega) rfl (by omega) [mark D0] bd c1 l1 hb2 hb hidx1 HR1 (Lib.hid (below_under HBw.out hB3)) (Lib.hid (by omega))
    (Lib.hid ((hB3.block _ (by omega)).trans HbA.out)) (Lib.hid ((hB3.block _ (by omega)).trans HbB.out)) (Lib.hid ((hB3.block _ (by omega)).trans HbR.out)) (Lib.hid ((hB3.block _ (by omega)).trans HbK.out)) HT4))
  case r2 =>
  intro e a4 W4 hQ
  unfold RoundPost at hQ
  have hD3 : D0 < W3.heap.size := (Array.getElem?_eq_some_iff.1 hK0).1
  rcases hQ with ⟨rfl, D1, u6, u7, u8, u9, u10, u11, u12, u13, u14, u15, u16, u17, u18, u19, u20, u21, u22, u23, u24, u25, u26, u27, u28, u29, u30, u31, u32, u33, u34, u35, u36, u37, u38, u39, u40, u41, u42, u43, u44, u45, u48, u49, u50, u51, u52, u53, u54, u55, u56, u57, u58, u59, u60, u61, u62, u63, u64, u65, u66, u67, u68, u69, u70, u71, u72, u73, u74, u75, u76, u77, u78, u79, u80, u81, u82, u83, u84, u85, u86, u87, u88, u89, u90, hD1, hK1, hB4, hgo1, rfl⟩ | ⟨rfl, D1, t1, t2, t3, tm, hD1, hK1, hgo1, hR, hKc, hkb, hbw, rfl, e4, e5⟩
  case inr =>
    refine htwo D0 D1 tm t1 t2 t3 W4 hD0 (by omega) (by omega) ((hkb.2 D0 hD3 (by omega) (by omega)).trans hK0) hK1 ⟨?_, hR, hKc, hbw, e4, e5⟩
    rw [goT_append, hgo0, hgo1]
    rfl
  show Code.rounds Try.prog (match Try.f78.body with | some (.seq _ (.seq _ (.seq (.seq _ (.block _ (.loop c))) _))) => c | _ => .skip : Code) Q 1 _ _
  rw [rounds_succ]
  have hN : LoopNone l0 l1 W2 W4 D0 D1 := ⟨hD0, by omega, by omega, (hB4.block D0 hD3).trans hK0, hK1, below_then hB3 hB4, by rw [goT_append, hgo0, hgo1]; rfl⟩
  have hfin := hnone D0 D1 u6 u7 u8 u9 u10 u11 u12 u13 u14 u15 u16 u17 u18 u19 u20 u21 u22 u23 u24 u25 u26 u27 u28 u29 u30 u31 u32 u33 u34 u35 u36 u37 u38 u39 u40 u41 u42 u43 u44 u45 u49 u50 u51 u52 u53 u54 u55 u56 u57 u58 u59 u60 u61 u62 u63 u64 u65 u66 u67 u68 u69 u70 u71 u72 u73 u74 u75 u76 u77 u78 u79 u80 u81 u82 u83 u84 u85 u86 u87 u88 u89 u90 W4 hN
  clear hnone hone htwo hN hB3 hB4 hgo0 hgo1 hidx0 hidx1 HT4 HbA HbB HbR HbK HR0 HR1 HBw hK0 hK1
  dsimp only [Try.f78]
  go_wp2
  exact hfin
end Go.Proofs.Ytkbcomgffpbcbaa.Plane
namespace Go.Proofs.Ytkbcomgffpbcbaa.Plane
open Go.RowKit Go.Shelf Go.Sort Go.Proofs.YtkbcomgffpbcbaaW.PrintWords Go.Proofs.YtkbcomgffpbcbaaW.PrintLast Go.Proofs.YtkbcomgffpbcbaaW.PrintMore Go.Proofs.Ytkbcomgffpbcbaa.Round
set_option linter.unusedVariables false
set_option linter.unusedSimpArgs false
set_option maxRecDepth 100000 in
set_option maxHeartbeats 4000000 in
theorem part_calls (k : Nat) (A0 : Option Addr) (c0 : Nat) (l0 : List (S31)) (A1 : Option Addr) (c1 : Nat) (l1 : List (S31)) (r1 : Int) (r2 : Int) (r3 : Int) (r4 : Bool) (w : World) (hr0 : Kd.C k31 w A0 l0.length l0) (hc0 : l0.length ≤ c0) (hr1 : Kd.C k31 w A1 l1.length l1) (hc1 : l1.length ≤ c1) (h : plane_part.f k l0 l1 = some (r1, r2, r3, r4)) :
    Calls Try.prog 78 #[.slice A0 l0.length c0, .slice A1 l1.length c1] w fun e w' => e = .returned (.tuple #[.agg #[.int .i64 r1, .int .i64 r2, .int .i64 r3], .bool r4]) ∧ Below w.heap.size w w' := by
  unfold plane_part.f at h
  split at h
  case isTrue => cases h
  case isFalse hne =>
  have ha : 0 < l0.length := List.length_pos_iff.2 fun e => hne (.inl e)
  have hb : 0 < l1.length := List.length_pos_iff.2 fun e => hne (.inr (.inl e))
  have ha2 : l0.length ≤ 65536 := by
    rcases Nat.lt_or_ge 65536 l0.length with h | h
    · exact absurd (.inr (.inr (.inl h))) hne
    · exact h
  have hb2 : l1.length ≤ 65536 := by
    rcases Nat.lt_or_ge 65536 l1.length with h | h
    · exact absurd (.inr (.inr (.inr h))) hne
    · exact h
  have hquad : ∀ l q, q ∈ plane_part.quads l → q.length ≤ 65536 := fun l q hq => by
    obtain ⟨i, _, rfl⟩ := List.mem_map.1 hq
    simp
  have hgo := go_goT ha hb ha2 hb2 k _ _ (fun q hq => by
    rcases List.mem_cons.1 hq with rfl | hq
    · simp
    · rcases List.mem_append.1 hq with hq | hq
      · exact hquad _ q hq
      · exact hquad _ q hq) h
  have Hgo := Lib.hid hgo
  clear h hgo hne hquad
  obtain ⟨ad, e, hx0, hx1⟩ := at_T31 hr0 0 (by omega) (by omega)
  cases e
  obtain ⟨bd, e, hy0, hy1⟩ := at_T31 hr1 0 (by omega) (by omega)
  cases e
  rw [show rd_T31 l0 0 = l0.getD 0 z31 from rfl] at hx0 hx1
  rw [show rd_T31 l1 0 = l1.getD 0 z31 from rfl] at hy0 hy1
  have ha0 : ∀ d : Addr, d.add (Int.toNat 0 * 2) = d := fun d => Addr.add_zero' d
  rw [ha0] at hx0 hx1 hy0 hy1
  generalize l0.getD 0 z31 = x at Hgo hx0 hx1
  generalize l1.getD 0 z31 = y at Hgo hy0 hy1
  have HT : Hid (∀ q : List S47, q.length ≤ 65536 → ∀ W, RowKit.Below w.heap.size w W → ∀ g, W.heap[g]? = some (.cells (q.flatMap enc47).toArray 47) → Calls Try.prog 135 #[.slice (some ad) l0.length c0, .slice (some bd) l1.length c1, .slice (some ⟨g, 0, none⟩) q.length q.length] W fun e w' => e = .returned (.tuple #[.agg #[.int .i64 (tryT l0 l1 q).1, .int .i64 (tryT l0 l1 q).2.1, .int .i64 (tryT l0 l1 q).2.2.1], .bool (tryT l0 l1 q).2.2.2]) ∧ Below W.heap.size W w') :=
    Lib.hid (fun q hq W hW g hg => try_calls l0 l1 ha hb ha2 hb2 (some ad) (some bd) c0 c1 q hq W (Kd.C_below hr0 hW) hc0 (Kd.C_below hr1 hW) hc1 g hg)
  have HT1 : Hid (∀ (dx dy : Int) W, RowKit.Below w.heap.size w W → ∀ g, W.heap[g]? = some (.cells #[.int .i64 dx, .int .i64 dy, .int .i64 0] 47) → Calls Try.prog 135 #[.slice (some ad) l0.length c0, .slice (some bd) l1.length c1, .slice (some ⟨g, 0, none⟩) 1 1] W fun e w' => e = .returned (.tuple #[.agg #[.int .i64 (tryT l0 l1 [⟨dx, dy, 0⟩]).1, .int .i64 (tryT l0 l1 [⟨dx, dy, 0⟩]).2.1, .int .i64 (tryT l0 l1 [⟨dx, dy, 0⟩]).2.2.1], .bool (tryT l0 l1 [⟨dx, dy, 0⟩]).2.2.2]) ∧ Below W.heap.size W w') :=
    Lib.hid (fun dx dy W hW g hg => HT.out [⟨dx, dy, 0⟩] (by simp) W hW g hg)
  have HR0 := Lib.hid hr0
  have HR1 := Lib.hid hr1
  have hu := Try.underlying31
  have hu47 := Try.underlying47
  clear hr0 hr1 ha0
  refine (callsIn_wide (n := 3)).1 (callsIn_of_wp_marks (F := Fence.wide) (n := 3) Try.func78 rfl trivial ?_ rfl)
  simp only [Try.ntmps78, List.size_toArray, List.length_cons, List.length_nil, Nat.reduceAdd, Nat.reduceSub, Array.replicate_succ, Array.replicate_zero, List.push_toArray, List.append_toArray, List.nil_append, List.cons_append]
  refine wpIn_wide.2 ?_
  go_wp2
  have HW1 : Hid (RowKit.Below w.heap.size w ((((w.alloc (Obj.cells #[Value.slice (some ad) l0.length c0] 23)).alloc (Obj.cells #[Value.slice (some bd) l1.length c1] 23)).alloc (Obj.cells #[Value.int IntKind.i64 0, Value.int IntKind.i64 0, Value.int IntKind.i64 0] 47)).alloc (Obj.cells #[Value.bool false] 4))) := Lib.hid (bal (bal (bal (bal (RowKit.Below.refl _ _) _) _) _) _)
  have bA : ((((w.alloc (Obj.cells #[Value.slice (some ad) l0.length c0] 23)).alloc (Obj.cells #[Value.slice (some bd) l1.length c1] 23)).alloc (Obj.cells #[Value.int IntKind.i64 0, Value.int IntKind.i64 0, Value.int IntKind.i64 0] 47)).alloc (Obj.cells #[Value.bool false] 4)).heap[w.heap.size]? = some (.cells #[Value.slice (some ad) l0.length c0] 23) := old_at (old_at (old_at (new_at rfl)))
  have bB : ((((w.alloc (Obj.cells #[Value.slice (some ad) l0.length c0] 23)).alloc (Obj.cells #[Value.slice (some bd) l1.length c1] 23)).alloc (Obj.cells #[Value.int IntKind.i64 0, Value.int IntKind.i64 0, Value.int IntKind.i64 0] 47)).alloc (Obj.cells #[Value.bool false] 4)).heap[w.heap.size + 1]? = some (.cells #[Value.slice (some bd) l1.length c1] 23) := old_at (old_at (new_at (by simp)))
  have bR : ((((w.alloc (Obj.cells #[Value.slice (some ad) l0.length c0] 23)).alloc (Obj.cells #[Value.slice (some bd) l1.length c1] 23)).alloc (Obj.cells #[Value.int IntKind.i64 0, Value.int IntKind.i64 0, Value.int IntKind.i64 0] 47)).alloc (Obj.cells #[Value.bool false] 4)).heap[w.heap.size + 1 + 1]? = some (.cells #[Value.int IntKind.i64 0, Value.int IntKind.i64 0, Value.int IntKind.i64 0] 47) := old_at (new_at (by simp))
  have bK : ((((w.alloc (Obj.cells #[Value.slice (some ad) l0.length c0] 23)).alloc (Obj.cells #[Value.slice (some bd) l1.length c1] 23)).alloc (Obj.cells #[Value.int IntKind.i64 0, Value.int IntKind.i64 0, Value.int IntKind.i64 0] 47)).alloc (Obj.cells #[Value.bool false] 4)).heap[w.heap.size + 1 + 1 + 1]? = some (.cells #[Value.bool false] 4) := new_at (by simp)
  have hsz : ((((w.alloc (Obj.cells #[Value.slice (some ad) l0.length c0] 23)).alloc (Obj.cells #[Value.slice (some bd) l1.length c1] 23)).alloc (Obj.cells #[Value.int IntKind.i64 0, Value.int IntKind.i64 0, Value.int IntKind.i64 0] 47)).alloc (Obj.cells #[Value.bool false] 4)).heap.size = w.heap.size + 1 + 1 + 1 + 1 := by simp
  generalize (((w.alloc (Obj.cells #[Value.slice (some ad) l0.length c0] 23)).alloc (Obj.cells #[Value.slice (some bd) l1.length c1] 23)).alloc (Obj.cells #[Value.int IntKind.i64 0, Value.int IntKind.i64 0, Value.int IntKind.i64 0] 47)).alloc (Obj.cells #[Value.bool false] 4) = W1 at *
  have Hsz := Lib.hid hsz
  have HbA := Lib.hid bA
  have HbB := Lib.hid bB
  have HbR := Lib.hid bR
  have HbK := Lib.hid bK
  have HS : Hid (∀ W', RowKit.Below W1.heap.size W1 W' → W'.cell? ⟨w.heap.size, 0, none⟩ = some (.slice (some ad) l0.length c0) ∧ W'.cell? ⟨w.heap.size + 1, 0, none⟩ = some (.slice (some bd) l1.length c1) ∧ W'.cell? ad = some (.int .i64 x.f0) ∧ W'.cell? ⟨ad.block, ad.off + 1, none⟩ = some (.int .i64 x.f1) ∧ W'.cell? bd = some (.int .i64 y.f0) ∧ W'.cell? ⟨bd.block, bd.off + 1, none⟩ = some (.int .i64 y.f1)) :=
    Lib.hid (fun W' hW' => by
      have hw' : RowKit.Below w.heap.size w W' := HW1.out.trans (hW'.mono HW1.out.size)
      have h1 := (hW'.block w.heap.size (by rw [hsz]; omega)).trans bA
      have h2 := (hW'.block (w.heap.size + 1) (by rw [hsz]; omega)).trans bB
      exact ⟨by simp [World.cell?, h1], by simp [World.cell?, h2], (hw'.cell (World.block_lt_of_cell? w _ hx0)).trans hx0, (hw'.cell (World.block_lt_of_cell? w _ hx1)).trans hx1, (hw'.cell (World.block_lt_of_cell? w _ hy0)).trans hy0, (hw'.cell (World.block_lt_of_cell? w _ hy1)).trans hy1⟩)
  have hB1 : RowKit.Below W1.heap.size W1 W1.drew := below_drew (RowKit.Below.refl _ _)
  have HB1 := Lib.hid HW1.out
  clear bA bB bR bK hsz hx0 hx1 hy0 hy1
  refine Code.wp_mono ?imp (part_first l0 l1 ad bd c0 c1 x y w W1 ha hb ha2 hb2 HB1 HS HT1)
  case imp =>
    intro e a2 W2 hQ
    obtain ⟨rfl, Bx, u8, u9, u10, u11, u12, u13, u14, u15, u16, u17, u18, u19, u20, u21, u22, u23, u24, u25, u26, u27, u28, u29, u30, u31, u32, u33, u34, u35, u36, u37, u38, u39, u40, u41, u42, u43, u44, u45, u46, u47, u48, u49, u50, u51, u52, u53, u54, u55, u56, u57, u58, u59, u60, u61, u62, u63, u64, u65, u66, u67, u68, u69, u70, u71, u72, u73, u74, u75, u76, u77, u78, u79, u80, u81, u82, u83, u84, u85, u86, u87, u88, u89, u90, hBx, hbox, hB2, rfl⟩ := hQ
    have hi : ∀ z : Int, IntKind.i64.wrap z = wrap64 z := IntWalk.i64_left
    rw [hi, hi] at hbox ⊢
    have HT0 : Hid (tryT l0 l1 [⟨wrap64 (y.f0 - x.f0), wrap64 (y.f1 - x.f1), 0⟩] = tryT l0 l1 [⟨wrap64 (y.f0 - x.f0), wrap64 (y.f1 - x.f1), 0⟩]) := Lib.hid rfl
    clear hi
    generalize hTT : tryT l0 l1 [⟨wrap64 (y.f0 - x.f0), wrap64 (y.f1 - x.f1), 0⟩] = T at hbox ⊢
    have HTT := Lib.hid hTT
    clear hTT HT0
    obtain ⟨t1, t2, t3, t4⟩ := T
    dsimp only at hbox ⊢
    obtain ⟨g1, g2, g3, g4, g5, g6⟩ := HS.out W2 hB2
    obtain ⟨x0, x1, x2, xf0, xf1, xf2⟩ := box3_cell hbox
    have hbR := (hB2.block _ (by rw [Hsz.out]; omega)).trans HbR.out
    have hbK := (hB2.block _ (by rw [Hsz.out]; omega)).trans HbK.out
    obtain ⟨q0, q1, q2, qf0, qf1, qf2⟩ := box3_cell hbR
    have k0 : W2.cell? ⟨w.heap.size + 1 + 1 + 1, 0, none⟩ = some (.bool false) := by simp [World.cell?, hbK]
    have kf : W2.frozen? ⟨w.heap.size + 1 + 1 + 1, 0, none⟩ = false := by simp [World.frozen?, hbK]
    have HBox := Lib.hid hbox
    have HBR := Lib.hid hbR
    have HBK := Lib.hid hbK
    clear hbox hbR hbK
    cases t4
    · go_wp2
      have hBw2 : RowKit.Below w.heap.size w W2 := below_under HB1.out hB2
      have hsz2 : w.heap.size + 4 ≤ W2.heap.size := by have := hB2.size; have := Hsz.out; omega
      have hRt : ∀ (W' : World) (tm : Array Value) (t1 t2 t3 : Int) (t4 : Bool), goT l0 l1 (plane_part.quads l0 ++ plane_part.quads l1) = (t1, t2, t3, t4) → W'.heap[w.heap.size + 1 + 1]? = some (.cells #[.int .i64 t1, .int .i64 t2, .int .i64 t3] 47) → W'.heap[w.heap.size + 1 + 1 + 1]? = some (.cells #[.bool t4] 4) → RowKit.Below w.heap.size w W' → tm.getD 4 undef = .pointer (some ⟨w.heap.size + 1 + 1, 0, none⟩) → tm.getD 5 undef = .pointer (some ⟨w.heap.size + 1 + 1 + 1, 0, none⟩) →
          LeavesInM Fence.wide 3 Try.prog Try.f78 tm (fun e w' => e = .returned (.tuple #[.agg #[.int .i64 r1, .int .i64 r2, .int .i64 r3], .bool r4]) ∧ Below w.heap.size w w') [] .returning W' := fun W' tm t1 t2 t3 t4 hgo hR hK hb e4 e5 => by
        have hg := Hgo.out
        unfold goT at hg
        rw [HTT.out, if_neg Bool.false_ne_true, hgo] at hg
        injection hg with hg1 hg
        injection hg with hg2 hg
        injection hg with hg3 hg4
        subst hg1 hg2 hg3 hg4
        exact ⟨_, results_part tm e4 e5 hR hK, rfl, hb⟩
      have HRt := Lib.hid hRt
      clear hRt
      refine part_loop l0 l1 ad bd c0 c1 w W2 _ _ _ _ _ _ _ _ _ _ _ _ _ _ _ _ _ _ _ _ _ _ _ _ _ _ _ _ _ _ _ _ _ _ _ _ _ _ _ _ _ _ _ _ _ _ _ _ _ _ _ _ _ _ _ _ _ _ _ _ _ _ _ _ _ _ _ _ _ _ _ _ _ _ _ _ _ _ _ _ _ _ _ ha hb ha2 hb2 HR0 HR1 (Lib.hid hBw2) (Lib.hid hsz2) (Lib.hid ((hB2.block _ (by rw [Hsz.out]; omega)).trans HbA.out)) (Lib.hid ((hB2.block _ (by rw [Hsz.out]; omega)).trans HbB.out)) HBR HBK (Lib.hid fun x1 y1 x2 y2 x3 y3 x4 y4 W hW g hg => HT.out [⟨x1, y1, 0⟩, ⟨x2, y2, 0⟩, ⟨x3, y3, 0⟩, ⟨x4, y4, 0⟩] (by simp) W hW g hg) _ ?none ?one ?two
      case one =>
        intro D0 tm t1 t2 t3 W' hD0 hK0 hF
        have e1 := put_other (o' := .deferred none) (show w.heap.size + 1 + 1 ≠ D0 by omega) hF.hR
        have e2 := put_other (o' := .deferred none) (show w.heap.size + 1 + 1 + 1 ≠ D0 by omega) hF.hK
        have hb1 := hF.below.trans (belowK_b (w := w) (Nat.le_refl _) W' D0 _ (.deferred none) (by omega) hK0 rfl rfl)
        exact leaves_mark hK0 (HRt.out _ tm t1 t2 t3 true hF.go e1 e2 hb1 hF.t4 hF.t5)
      case two =>
        intro D0 D1 tm t1 t2 t3 W' hD0 hD1 hne hK0 hK1 hF
        have e1 := put_other (o' := .deferred none) (show w.heap.size + 1 + 1 ≠ D1 by omega) hF.hR
        have e2 := put_other (o' := .deferred none) (show w.heap.size + 1 + 1 + 1 ≠ D1 by omega) hF.hK
        have k1 := put_other (o' := .deferred none) hne hK0
        have e3 := put_other (o' := .deferred none) (show w.heap.size + 1 + 1 ≠ D0 by omega) e1
        have e4 := put_other (o' := .deferred none) (show w.heap.size + 1 + 1 + 1 ≠ D0 by omega) e2
        have hb1 := hF.below.trans (belowK_b (w := w) (Nat.le_refl _) W' D1 _ (.deferred none) (by omega) hK1 rfl rfl)
        have hb2 := hb1.trans (belowK_b (w := w) (Nat.le_refl _) _ D0 _ (.deferred none) (by omega) k1 rfl rfl)
        exact leaves_mark hK1 (leaves_mark k1 (HRt.out _ tm t1 t2 t3 true hF.go e3 e4 hb2 hF.t4 hF.t5))
      case none =>
        intro D0 D1 n6 n7 n8 n9 n10 n11 n12 n13 n14 n15 n16 n17 n18 n19 n20 n21 n22 n23 n24 n25 n26 n27 n28 n29 n30 n31 n32 n33 n34 n35 n36 n37 n38 n39 n40 n41 n42 n43 n44 n45 n49 n50 n51 n52 n53 n54 n55 n56 n57 n58 n59 n60 n61 n62 n63 n64 n65 n66 n67 n68 n69 n70 n71 n72 n73 n74 n75 n76 n77 n78 n79 n80 n81 n82 n83 n84 n85 n86 n87 n88 n89 n90 W' hN
        rename_i K hK
        show K _ _
        refine hK _ _ ?_
        have bR := (hN.below.block _ (by omega)).trans HBR.out
        have bK := (hN.below.block _ (by omega)).trans HBK.out
        obtain ⟨p0, p1, p2, pf0, pf1, pf2⟩ := box3_cell bR
        have pk : W'.cell? ⟨w.heap.size + 1 + 1 + 1, 0, none⟩ = some (.bool false) := by simp [World.cell?, bK]
        have pkf : W'.frozen? ⟨w.heap.size + 1 + 1 + 1, 0, none⟩ = false := by simp [World.frozen?, bK]
        have HbR4 := Lib.hid bR
        have HbK4 := Lib.hid bK
        have HN := Lib.hid hN
        have HBw2 := Lib.hid hBw2
        clear bR bK hN hBw2 hK x0 x1 x2 xf0 xf1 xf2 q0 q1 q2 qf0 qf1 qf2 k0 kf g1 g2 g3 g4 g5 g6 hB2 hB1
        go_wp2
        have eR := far_set (set3 HbR4.out (.int .i64 0) (.int .i64 0) (.int .i64 0)) ⟨w.heap.size + 1 + 1 + 1, 0, none⟩ (by show w.heap.size + 1 + 1 ≠ w.heap.size + 1 + 1 + 1; omega) (.bool false)
        have eK := box1_set (far_set (far_set (far_set HbK4.out ⟨w.heap.size + 1 + 1, 0, none⟩ (by show w.heap.size + 1 + 1 + 1 ≠ w.heap.size + 1 + 1; omega) (.int .i64 0)) ⟨w.heap.size + 1 + 1, 1, none⟩ (by show w.heap.size + 1 + 1 + 1 ≠ w.heap.size + 1 + 1; omega) (.int .i64 0)) ⟨w.heap.size + 1 + 1, 2, none⟩ (by show w.heap.size + 1 + 1 + 1 ≠ w.heap.size + 1 + 1; omega) (.int .i64 0)) (.bool false)
        have hl1 : w.heap.size ≤ (⟨w.heap.size + 1 + 1, 0, none⟩ : Addr).block := by show w.heap.size ≤ w.heap.size + 1 + 1; omega
        have hl2 : w.heap.size ≤ (⟨w.heap.size + 1 + 1, 1, none⟩ : Addr).block := by show w.heap.size ≤ w.heap.size + 1 + 1; omega
        have hl3 : w.heap.size ≤ (⟨w.heap.size + 1 + 1, 2, none⟩ : Addr).block := by show w.heap.size ≤ w.heap.size + 1 + 1; omega
        have hl4 : w.heap.size ≤ (⟨w.heap.size + 1 + 1 + 1, 0, none⟩ : Addr).block := by show w.heap.size ≤ w.heap.size + 1 + 1 + 1; omega
        have hb8 := ((((below_under HBw2.out HN.out.below).setCell hl1 (.int .i64 0)).setCell hl2 (.int .i64 0)).setCell hl3 (.int .i64 0)).setCell hl4 (.bool false)
        have d0 := HN.out.h0
        have d1 := HN.out.h1
        have m0 := far_set (far_set (far_set (far_set HN.out.k0 ⟨w.heap.size + 1 + 1, 0, none⟩ (by show D0 ≠ w.heap.size + 1 + 1; omega) (.int .i64 0)) ⟨w.heap.size + 1 + 1, 1, none⟩ (by show D0 ≠ w.heap.size + 1 + 1; omega) (.int .i64 0)) ⟨w.heap.size + 1 + 1, 2, none⟩ (by show D0 ≠ w.heap.size + 1 + 1; omega) (.int .i64 0)) ⟨w.heap.size + 1 + 1 + 1, 0, none⟩ (by show D0 ≠ w.heap.size + 1 + 1 + 1; omega) (.bool false)
        have m1 := far_set (far_set (far_set (far_set HN.out.k1 ⟨w.heap.size + 1 + 1, 0, none⟩ (by show D1 ≠ w.heap.size + 1 + 1; omega) (.int .i64 0)) ⟨w.heap.size + 1 + 1, 1, none⟩ (by show D1 ≠ w.heap.size + 1 + 1; omega) (.int .i64 0)) ⟨w.heap.size + 1 + 1, 2, none⟩ (by show D1 ≠ w.heap.size + 1 + 1; omega) (.int .i64 0)) ⟨w.heap.size + 1 + 1 + 1, 0, none⟩ (by show D1 ≠ w.heap.size + 1 + 1 + 1; omega) (.bool false)
        have k1' := put_other (o' := .deferred none) HN.out.ne m0
        have e3 := put_other (o' := .deferred none) (show w.heap.size + 1 + 1 ≠ D0 by omega) (put_other (o' := .deferred none) (show w.heap.size + 1 + 1 ≠ D1 by omega) eR)
        have e4 := put_other (o' := .deferred none) (show w.heap.size + 1 + 1 + 1 ≠ D0 by omega) (put_other (o' := .deferred none) (show w.heap.size + 1 + 1 + 1 ≠ D1 by omega) eK)
        have hb9 := hb8.trans (belowK_b (w := w) (Nat.le_refl _) _ D1 _ (.deferred none) (by omega) m1 rfl rfl)
        have hb10 := hb9.trans (belowK_b (w := w) (Nat.le_refl _) _ D0 _ (.deferred none) (by omega) k1' rfl rfl)
        exact leaves_mark m1 (leaves_mark k1' (HRt.out _ _ 0 0 0 false HN.out.go e3 e4 hb10 rfl rfl))
    · have hg := Hgo.out
      unfold goT at hg
      rw [HTT.out, if_pos rfl] at hg
      injection hg with hg1 hg
      injection hg with hg2 hg
      injection hg with hg3 hg4
      subst hg1 hg2 hg3 hg4
      clear HT HT1 HR0 HR1 HTT Hgo
      go_wp2
      have eR := far_set (set3 HBR.out (.int .i64 r1) (.int .i64 r2) (.int .i64 r3)) ⟨w.heap.size + 1 + 1 + 1, 0, none⟩ (by show w.heap.size + 1 + 1 ≠ w.heap.size + 1 + 1 + 1; omega) (.bool true)
      have eK := box1_set (far_set (far_set (far_set HBK.out ⟨w.heap.size + 1 + 1, 0, none⟩ (by show w.heap.size + 1 + 1 + 1 ≠ w.heap.size + 1 + 1; omega) (.int .i64 r1)) ⟨w.heap.size + 1 + 1, 1, none⟩ (by show w.heap.size + 1 + 1 + 1 ≠ w.heap.size + 1 + 1; omega) (.int .i64 r2)) ⟨w.heap.size + 1 + 1, 2, none⟩ (by show w.heap.size + 1 + 1 + 1 ≠ w.heap.size + 1 + 1; omega) (.int .i64 r3)) (.bool true)
      have hl1 : w.heap.size ≤ (⟨w.heap.size + 1 + 1, 0, none⟩ : Addr).block := by show w.heap.size ≤ w.heap.size + 1 + 1; omega
      have hl2 : w.heap.size ≤ (⟨w.heap.size + 1 + 1, 1, none⟩ : Addr).block := by show w.heap.size ≤ w.heap.size + 1 + 1; omega
      have hl3 : w.heap.size ≤ (⟨w.heap.size + 1 + 1, 2, none⟩ : Addr).block := by show w.heap.size ≤ w.heap.size + 1 + 1; omega
      have hl4 : w.heap.size ≤ (⟨w.heap.size + 1 + 1 + 1, 0, none⟩ : Addr).block := by show w.heap.size ≤ w.heap.size + 1 + 1 + 1; omega
      have hb8 := ((((below_under HB1.out hB2).setCell hl1 (.int .i64 r1)).setCell hl2 (.int .i64 r2)).setCell hl3 (.int .i64 r3)).setCell hl4 (.bool true)
      exact ⟨_, results_part _ rfl rfl eR eK, rfl, hb8⟩
end Go.Proofs.Ytkbcomgffpbcbaa.Plane
