/- A part of the proof of Gaps: walks of functions, and plain lemmas. No conditions. -/
import Derived.ArgAppend
import Derived.Below
import Derived.BigQuiet
import Derived.Deep.AppendLies
import Derived.Deep.CutBlock
import Derived.Deep.DeepCutAuto
import Derived.Deep.DeepFit
import Derived.Deep.DeepMust
import Derived.Deep.Draws
import Derived.Deep.LoopGhost
import Derived.Deep.OwnRows
import Derived.Deep.QuietTactic
import Derived.Deep.RegionHeld3
import Derived.Ground.SlgnProg
import Derived.Ground.SlsfProg
import Derived.KernelRfl
import Derived.Laws.BitsLemmas
import Derived.Laws.BytesArg
import Derived.Laws.IdiomCopy
import Derived.Laws.MakeOwn
import Derived.Laws.OwnMore
import Derived.Laws.Rows
import Derived.Laws.Slices
import Derived.Laws.StructEq
import Derived.Lib.AppendStr
import Derived.Lib.ConvBytes
import Derived.Lib.Hide
import Derived.Lib.QuietBelow
import Derived.Lib.QuietBelowIn
import Derived.Lib.SliceRun
import Derived.Lib.SlicesCompact
import Derived.LoopIn
import Derived.LoopNIn
import Derived.Maps.AppendAt
import Derived.OrdersHeld
import Derived.Outline
import Derived.OwnWalk
import Derived.OwnWalkIn
import Derived.RangeFuncBound
import Derived.RangeFuncBox
import Derived.RangeFuncCalls
import Derived.RangeFuncLeaves
import Derived.RangeFuncNested
import Derived.RowKit
import Derived.RowKit3
import Derived.Shelf.Abstract
import Derived.Shelf.RegionOpen
import Derived.Shelf.SlGeneric
import Derived.Shelf.SlSortCmp.WholeK
import Derived.Shelf.Slices.CompactI
import Derived.Shelf.SlicesQ.Reverse
import Derived.Sort.LoopGhostIn
import Derived.Sort.OwnSorted
import Derived.StillTail
import Derived.StillTailTactics
import Derived.Tactics
import Derived.TacticsIn
import Derived.TacticsInMore
import Derived.Test.YtkbcomgffpbcbaaProg
import Derived.WalkKit
import Derived.WalkSmall
import Derived.WalkSpells
import Derived.WideLaws
import Derived.Test.YtkbcomgffpbcbaaGaps2
import Derived.Test.YtkbcomgffpbcbaaGaps3
import Derived.Test.YtkbcomgffpbcbaaGaps4
import Derived.Test.YtkbcomgffpbcbaaGaps5
import Derived.Test.YtkbcomgffpbcbaaGaps7
import Derived.Test.YtkbcomgffpbcbaaGaps8
import Derived.Test.YtkbcomgffpbcbaaGaps17
import Derived.Test.YtkbcomgffpbcbaaGaps18
import Derived.Test.YtkbcomgffpbcbaaGaps20
import Derived.Test.YtkbcomgffpbcbaaGaps21
import Derived.Test.YtkbcomgffpbcbaaGaps25
namespace Go.Proofs.Ytkbcomgffpbcbaa.Plane
open Go.RowKit Go.Proofs.YtkbcomgffpbcbaaW.PrintWords Go.Proofs.YtkbcomgffpbcbaaW.PrintLast Go.Proofs.YtkbcomgffpbcbaaW.PrintMore
set_option linter.unusedVariables false
set_option linter.unusedSimpArgs false
theorem near_of_val' {l : List S31} (h : val24 l = true) : Near l := near_iff.1 (near_of_val h)
theorem isH_ne {l : List S31} (h : isH l = true) : l ≠ [] := (isH_iff.1 h).1
theorem isH_len {l : List S31} (h : isH l = true) : l.length ≤ 256 := (isH_iff.1 h).2.1.1
theorem isH_val {l : List S31} (h : isH l = true) : val24 l = true := (isH_iff.1 h).2.1.2
theorem isH_near {l : List S31} (h : isH l = true) : Near l := near_of_val' (isH_val h)
theorem isH_hull {l : List S31} (h : isH l = true) : Geo.hull (pts l) = pts l := (isH_iff.1 h).2.2
theorem pts_ne {l : List S31} (h : l ≠ []) : pts l ≠ [] := fun e => h (pts_inj (e.trans rfl))
theorem hul_ne {l : List S31} (h : l ≠ []) : hul l ≠ [] := by
  intro e
  have := Geo.hull_ne (pts_ne h)
  rw [← pts_hul, e] at this
  exact this rfl
theorem val_sub {l l' : List S31} (h : val24 l = true) (k : ∀ p ∈ l', p ∈ l) : val24 l' = true := by
  unfold val24 at *
  rw [List.all_eq_true] at *
  exact fun p hp => h p (k p hp)
theorem near_sub {l l' : List S31} (h : Near l) (k : ∀ p ∈ l', p ∈ l) : Near l' := fun p hp => h p (k p hp)
theorem hul_isH {l : List S31} (hne : l ≠ []) (hl : (hul l).length ≤ 256) (hv : val24 l = true) : isH (hul l) = true := by
  rw [isH_iff]
  refine ⟨hul_ne hne, ⟨hl, val_sub hv fun p hp => hul_sub hp⟩, ?_⟩
  rw [pts_hul, Geo.hull_hull]
theorem apart_ev {a b : List S31} (ha : a ≠ []) (hb : b ≠ []) (ha2 : a.length ≤ 65536) (hb2 : b.length ≤ 65536) (na : Near a) (nb : Near b) (ea : Geo.hull (pts a) = pts a) (eb : Geo.hull (pts b) = pts b) :
    ∃ r, Ev (fun k => plane_apart.f k a b) r ∧ (r = true ↔ Geo.Sep (pts a) (pts b)) := by
  obtain ⟨r, hE, hP⟩ := part_ev ha hb ha2 hb2 na nb ea eb
  refine ⟨r.2.2.2, ?_, hP.iff⟩
  unfold plane_apart.f
  exact Ev.bind hE (Ev.now _)
theorem chkH_two {a b : List S31} (ha : isH a = true) (hb : isH b = true) : chkH [a, b] = 0 := by
  rw [chkH_zero]
  simp [ha, hb]
theorem two_len {a b : List S31} (ha : isH a = true) (hb : isH b = true) : ∀ l ∈ [a, b], l.length ≤ 4611686018427387904 := fun l hl => by
  have := isH_len ha
  have := isH_len hb
  simp only [List.mem_cons, List.mem_nil_iff, or_false] at hl
  rcases hl with rfl | rfl <;> omega
theorem meet_ev {a b : List S31} (ha : isH a = true) (hb : isH b = true) : ∃ r, Ev (fun k => plane_Meet.f k a b) (r, 0) ∧ (r = true ↔ ¬ Geo.Sep (pts a) (pts b)) := by
  have hc := checkHulls_ev [a, b] (by simp) (two_len ha hb)
  obtain ⟨r, hE, hr⟩ := apart_ev (isH_ne ha) (isH_ne hb) (by have := isH_len ha; omega) (by have := isH_len hb; omega) (isH_near ha) (isH_near hb) (isH_hull ha) (isH_hull hb)
  refine ⟨!r, ?_, by rw [← hr]; cases r <;> simp⟩
  unfold plane_Meet.f
  refine Ev.bind hc (Ev.pos (chkH_two ha hb) (Ev.bind hE (Ev.now _)))
theorem grownL_list {l : List S31} (h : val24 l = true) {t : Int} (h0 : 0 ≤ t) (h1 : t ≤ 33554432) : pts (plane_grown.list l t) = Geo.grow (pts l) t ∧ Near (plane_grown.list l t) := by
  have hv : ∀ p ∈ l, (-16777216 ≤ p.f0 ∧ p.f0 ≤ 16777216) ∧ (-16777216 ≤ p.f1 ∧ p.f1 ≤ 16777216) := fun p hp => by
    unfold val24 in24 at h
    simp only [List.all_eq_true, Bool.and_eq_true, decide_eq_true_eq] at h
    exact h p hp
  have ew : wrap64 (-t) = -t := wrap_id (by omega) (by omega)
  have el : ∀ p ∈ l, wrap64 (p.f0 + wrap64 (-t)) = p.f0 - t ∧ wrap64 (p.f0 + t) = p.f0 + t ∧ wrap64 (p.f1 + wrap64 (-t)) = p.f1 - t ∧ wrap64 (p.f1 + t) = p.f1 + t := fun p hp => by
    have := hv p hp
    rw [ew]
    exact ⟨(wrap_id (by omega) (by omega)).trans (by omega), wrap_id (by omega) (by omega), (wrap_id (by omega) (by omega)).trans (by omega), wrap_id (by omega) (by omega)⟩
  have e : plane_grown.list l t = l.flatMap fun p => [⟨p.f0 - t, p.f1 - t⟩, ⟨p.f0 - t, p.f1 + t⟩, ⟨p.f0 + t, p.f1 - t⟩, ⟨p.f0 + t, p.f1 + t⟩] := by
    clear h hv
    unfold plane_grown.list
    induction l with
    | nil => rfl
    | cons p l ih =>
      obtain ⟨e1, e2, e3, e4⟩ := el p (by simp)
      rw [List.flatMap_cons, List.flatMap_cons, ih fun q hq => el q (by simp [hq]), e1, e2, e3, e4]
  rw [e]
  constructor
  · unfold pts Geo.grow
    rw [List.map_flatMap, List.flatMap_map]
    rfl
  · intro q hq
    obtain ⟨p, hp, hq⟩ := List.mem_flatMap.1 hq
    have := hv p hp
    simp only [List.mem_cons, List.mem_nil_iff, or_false] at hq
    rcases hq with rfl | rfl | rfl | rfl <;> simp only <;> omega
theorem grown_len (l : List S31) (t : Int) : (plane_grown.list l t).length = 4 * l.length := by
  unfold plane_grown.list
  induction l with
  | nil => rfl
  | cons p l ih => rw [List.flatMap_cons, List.length_append, ih]; simp; omega
theorem grown_ne {l : List S31} (h : l ≠ []) (t : Int) : plane_grown.list l t ≠ [] := by
  intro e
  have := congrArg List.length e
  rw [grown_len] at this
  have : 0 < l.length := List.length_pos_iff.2 h
  simp at *
  omega
theorem grown_eq {l : List S31} (h : isH l = true) {t : Int} (h0 : 0 ≤ t) (h1 : t ≤ 33554432) : plane_grown.f l t = some (hul (plane_grown.list l t)) := by
  unfold plane_grown.f
  have := isH_len h
  rw [if_pos (by omega), corners_eq (near_iff.2 (grownL_list (isH_val h) h0 h1).2) (by rw [grown_len]; omega)]
theorem sep_grown {a b : List S31} (ha : isH a = true) {t : Int} (h0 : 0 ≤ t) (h1 : t ≤ 33554432) : Geo.Sep (pts (hul (plane_grown.list a t))) (pts b) ↔ Geo.Sep (Geo.grow (pts a) t) (pts b) := by
  rw [pts_hul, Geo.sep_hull_left, (grownL_list (isH_val ha) h0 h1).1]
theorem apart_grown {a b : List S31} (ha : isH a = true) (hb : isH b = true) {t : Int} (h0 : 0 ≤ t) (h1 : t ≤ 33554432) : ∃ r, Ev (fun k => plane_apart.f k (hul (plane_grown.list a t)) b) r ∧ (r = true ↔ Geo.Sep (Geo.grow (pts a) t) (pts b)) := by
  have hl := hul_len (plane_grown.list a t)
  rw [grown_len] at hl
  have := isH_len ha
  obtain ⟨r, hE, hr⟩ := apart_ev (hul_ne (grown_ne (isH_ne ha) t)) (isH_ne hb) (by omega) (by have := isH_len hb; omega) (near_sub (grownL_list (isH_val ha) h0 h1).2 fun p hp => hul_sub hp) (isH_near hb) (by rw [pts_hul, Geo.hull_hull]) (isH_hull hb)
  exact ⟨r, hE, by rw [hr, sep_grown ha h0 h1]⟩
def IsGap (a b : List S31) (g : Int) : Prop := 0 ≤ g ∧ g ≤ 33554432 ∧ ∀ t, 0 ≤ t → (Geo.Sep (Geo.grow (pts a) t) (pts b) ↔ t < g)
theorem gap_l0 {a b : List S31} (ha : isH a = true) (hb : isH b = true) : ∀ (n : Nat) (lo hi : Int), hi - lo < 2 ^ n → 0 ≤ lo → lo ≤ hi → hi ≤ 33554432 → (∀ t, 0 ≤ t → t < lo → Geo.Sep (Geo.grow (pts a) t) (pts b)) → ¬ Geo.Sep (Geo.grow (pts a) hi) (pts b) →
    ∃ g, Ev (fun k => plane_Gap.l0 k a b lo hi) (g, 0) ∧ IsGap a b g
  | 0, lo, hi, hn, h0, hle, h1, hlo, hhi => by
    have e : lo = hi := by simp at hn; omega
    subst e
    refine ⟨lo, Ev.step (fun k => by rw [plane_Gap.l0, if_neg (by omega)]) (Ev.now (lo, 0)), h0, h1, fun t ht => ⟨fun hs => ?_, hlo t ht⟩⟩
    refine Int.not_le.1 fun hc => hhi (Geo.sep_grow_mono h0 hc hs)
  | n + 1, lo, hi, hn, h0, hle, h1, hlo, hhi => by
    by_cases hlt : lo < hi
    · have em : wrap64 (Int.tdiv (wrap64 (lo + hi)) 2) = (lo + hi) / 2 := by
        rw [wrap_id (x := lo + hi) (by omega) (by omega), Int.tdiv_eq_ediv_of_nonneg (by omega), wrap_id (by omega) (by omega)]
      have em1 : wrap64 ((lo + hi) / 2 + 1) = (lo + hi) / 2 + 1 := wrap_id (by omega) (by omega)
      obtain ⟨r, hE, hr⟩ := apart_grown ha hb (t := (lo + hi) / 2) (by omega) (by omega)
      have hg := grown_eq ha (t := (lo + hi) / 2) (by omega) (by omega)
      have h2 : (2 : Int) ^ (n + 1) = 2 * 2 ^ n := by rw [Int.pow_succ]; omega
      cases hrb : r
      · rw [hrb] at hE hr
        obtain ⟨g, hG, hg'⟩ := gap_l0 ha hb n lo ((lo + hi) / 2) (by omega) h0 (by omega) (by omega) hlo (fun hs => Bool.false_ne_true (hr.2 hs))
        refine ⟨g, Ev.step (fun k => by rw [plane_Gap.l0, if_pos hlt, em, em1, hg, Option.bind_some]) ?_, hg'⟩
        exact Ev.bind hE (Ev.neg (by simp) hG)
      · rw [hrb] at hE hr
        have hs := hr.1 rfl
        obtain ⟨g, hG, hg'⟩ := gap_l0 ha hb n ((lo + hi) / 2 + 1) hi (by omega) (by omega) (by omega) h1 (fun t ht htl => Geo.sep_grow_mono ht (by omega) hs) hhi
        refine ⟨g, Ev.step (fun k => by rw [plane_Gap.l0, if_pos hlt, em, em1, hg, Option.bind_some]) ?_, hg'⟩
        exact Ev.bind hE (Ev.pos rfl hG)
    · have e : lo = hi := by omega
      subst e
      refine ⟨lo, Ev.step (fun k => by rw [plane_Gap.l0, if_neg (by omega)]) (Ev.now (lo, 0)), h0, h1, fun t ht => ⟨fun hs => ?_, hlo t ht⟩⟩
      refine Int.not_le.1 fun hc => hhi (Geo.sep_grow_mono h0 hc hs)
theorem val_pt {l : List S31} (h : val24 l = true) {p : S31} (hp : p ∈ l) : (-16777216 ≤ p.f0 ∧ p.f0 ≤ 16777216) ∧ (-16777216 ≤ p.f1 ∧ p.f1 ≤ 16777216) := by
  unfold val24 in24 at h
  simp only [List.all_eq_true, Bool.and_eq_true, decide_eq_true_eq] at h
  exact h p hp
theorem gap_ev {a b : List S31} (ha : isH a = true) (hb : isH b = true) : ∃ g, Ev (fun k => plane_Gap.f k a b) (g, 0) ∧ IsGap a b g := by
  have hc := checkHulls_ev [a, b] (by simp) (two_len ha hb)
  obtain ⟨p, hp⟩ := List.exists_mem_of_ne_nil _ (isH_ne ha)
  obtain ⟨q, hq⟩ := List.exists_mem_of_ne_nil _ (isH_ne hb)
  have vp := val_pt (isH_val ha) hp
  have vq := val_pt (isH_val hb) hq
  obtain ⟨g, hE, hg⟩ := gap_l0 ha hb 26 0 33554432 (by decide) (by omega) (by omega) (by omega) (fun t h0 h1 => by omega) (Geo.not_sep_near (by omega) (mem_pts' hp) (mem_pts' hq) (by simp only; omega) (by simp only; omega) (by simp only; omega) (by simp only; omega))
  refine ⟨g, ?_, hg⟩
  unfold plane_Gap.f
  exact Ev.bind hc (Ev.pos (chkH_two ha hb) hE)
theorem grow_ev {a : List S31} (ha : isH a = true) {t : Int} (h0 : 0 ≤ t) (h1 : t ≤ 33554432) (hl : (hul (plane_grown.list a t)).length ≤ 256) (hv : val24 (hul (plane_grown.list a t)) = true) : Ev (fun k => plane_Grow.f k a t) (hul (plane_grown.list a t), 0) := by
  have hc := checkHulls_ev [a] (by simp) (fun l hl => by rw [List.mem_singleton] at hl; subst hl; have := isH_len ha; omega)
  unfold plane_Grow.f
  refine Ev.bind hc (Ev.pos (chkH_zero.2 (by simp [ha])) (Ev.bindP (within_eq _ _ _) (Ev.pos (by simp only [Bool.and_eq_true, decide_eq_true_eq]; omega) (Ev.bindP (grown_eq ha h0 h1) (Ev.neg (by omega) ?_)))))
  have := valid_ev (hul (plane_grown.list a t)) (by omega)
  rw [hv] at this
  exact Ev.bind this (Ev.pos rfl (Ev.now _))
theorem hull_ev {l : List S31} (hne : l ≠ []) (hl : l.length ≤ 256) (hv : val24 l = true) : Ev (fun k => plane_Hull.f k l) (hul l, 0) := by
  have hc := checkPoints_ev [l] (by simp)
  unfold plane_Hull.f
  have hp : 0 < l.length := List.length_pos_iff.2 hne
  refine Ev.bind hc (Ev.pos (chk_zero.2 ⟨hl, hv⟩) (Ev.neg (by omega) (Ev.bindP (corners_eq (near_of_val hv) (by omega)) (Ev.now _))))
theorem hull_nil : Ev (fun k => plane_Hull.f k []) ([], 5) := by
  have hc := checkPoints_ev [[]] (by simp)
  unfold plane_Hull.f
  exact Ev.bind hc (Ev.pos rfl (Ev.pos rfl (Ev.now _)))
end Go.Proofs.Ytkbcomgffpbcbaa.Plane
namespace Go.Proofs.Ytkbcomgffpbcbaa.Plane
open Go.RowKit Go.Proofs.YtkbcomgffpbcbaaW.PrintWords Go.Proofs.YtkbcomgffpbcbaaW.PrintLast Go.Proofs.YtkbcomgffpbcbaaW.PrintMore
set_option linter.unusedVariables false
set_option linter.unusedSimpArgs false
theorem works_ev : Ev (fun k => goosenecklaw01_works.f k) true := Ev.of goosenecklaw01_works.mono (k := 100) (by decide +kernel)
def In8 (s : S49) : Prop := (-128 ≤ s.f0 ∧ s.f0 ≤ 127) ∧ (-128 ≤ s.f1 ∧ s.f1 ≤ 127)
def big (s : S49) : S31 := ⟨s.f0, s.f1⟩
def fewL (l : List S49) (n : Nat) : List S31 := (l.take n).map big
theorem rd49 (l : List S49) (i : Nat) (h : i < l.length) : rd_T49 l (i : Int) = l[i] := by
  unfold rd_T49
  rw [Int.toNat_natCast]
  simp [List.getD_eq_getElem?_getD, h]
theorem few_l0 (l : List S49) (n : Nat) (hn : n ≤ 1000) (hl : l.length ≤ 4611686018427387904) (h8 : ∀ s ∈ l, In8 s) : ∀ (d i : Nat) (acc : List S31), n - i = d → i ≤ n → acc.length = i → Ev (fun k => goosenecklaw01_few.l0 k l (n : Int) acc i) (acc ++ ((l.take n).drop i).map big)
  | 0, i, acc, hd, hi, ha => by
    have e : (l.take n).drop i = [] := List.drop_eq_nil_of_le (by rw [List.length_take]; omega)
    rw [e, List.map_nil, List.append_nil]
    by_cases hlt : i < l.length
    · exact Ev.step (fun k => by rw [goosenecklaw01_few.l0, if_pos (by omega), if_neg (by omega)]) (Ev.now acc)
    · exact Ev.step (fun k => by rw [goosenecklaw01_few.l0, if_neg (by omega)]) (Ev.now acc)
  | d + 1, i, acc, hd, hi, ha => by
    by_cases hlt : i < l.length
    · have hlt2 : i < (l.take n).length := by rw [List.length_take]; omega
      have hs := h8 l[i] (List.getElem_mem hlt)
      have e1 : wrap64 l[i].f0 = l[i].f0 := wrap_id (by have := hs.1; omega) (by have := hs.1; omega)
      have e2 : wrap64 l[i].f1 = l[i].f1 := wrap_id (by have := hs.2; omega) (by have := hs.2; omega)
      refine Ev.step (fun k => by rw [goosenecklaw01_few.l0, if_pos (by omega), if_pos (by omega), if_pos (by omega), if_pos (by omega)]) ?_
      rw [rd49 l i hlt, e1, e2, wrap_succ hlt hl]
      have ih := few_l0 l n hn hl h8 d (i + 1) (acc ++ [big l[i]]) (by omega) (by omega) (by simp [ha])
      rw [List.append_assoc] at ih
      rw [drop_cons _ i hlt2, List.map_cons, List.getElem_take]
      exact ih
    · have e : (l.take n).drop i = [] := List.drop_eq_nil_of_le (by rw [List.length_take]; omega)
      rw [e, List.map_nil, List.append_nil]
      exact Ev.step (fun k => by rw [goosenecklaw01_few.l0, if_neg (by omega)]) (Ev.now acc)
theorem few_ev (l : List S49) (n : Nat) (hn : n ≤ 1000) (hl : l.length ≤ 4611686018427387904) (h8 : ∀ s ∈ l, In8 s) : Ev (fun k => goosenecklaw01_few.f k l (n : Int)) (fewL l n) := by
  unfold goosenecklaw01_few.f fewL
  have := few_l0 l n hn hl h8 n 0 [] rfl (Nat.zero_le _) rfl
  rw [List.drop_zero, List.nil_append] at this
  exact this
def Tiny (l : List S31) (r : Int) : Prop := ∀ p ∈ l, (-r ≤ p.f0 ∧ p.f0 ≤ r) ∧ (-r ≤ p.f1 ∧ p.f1 ≤ r)
theorem few_tiny {l : List S49} (h8 : ∀ s ∈ l, In8 s) (n : Nat) : Tiny (fewL l n) 128 := fun p hp => by
  obtain ⟨s, hs, rfl⟩ := List.mem_map.1 hp
  have := h8 s (List.mem_of_mem_take hs)
  unfold In8 at this
  unfold big
  simp only
  omega
theorem few_len (l : List S49) (n : Nat) : (fewL l n).length ≤ n := by unfold fewL; rw [List.length_map, List.length_take]; omega
theorem few_ne {l : List S49} (h : l ≠ []) {n : Nat} (hn : 0 < n) : fewL l n ≠ [] := by
  unfold fewL
  intro e
  have := congrArg List.length e
  rw [List.length_map, List.length_take, List.length_nil] at this
  have : 0 < l.length := List.length_pos_iff.2 h
  omega
theorem tiny_val {l : List S31} {r : Int} (h : Tiny l r) (hr : r ≤ 16777216) : val24 l = true := by
  unfold val24 in24
  simp only [List.all_eq_true, Bool.and_eq_true, decide_eq_true_eq]
  intro p hp
  have := h p hp
  omega
theorem tiny_hul {l : List S31} {r : Int} (h : Tiny l r) : Tiny (hul l) r := fun p hp => h p (hul_sub hp)
theorem tiny_isH {l : List S31} {r : Int} (h : Tiny l r) (hr : r ≤ 16777216) (hne : l ≠ []) (hl : l.length ≤ 256) : isH (hul l) = true := hul_isH hne (by have := hul_len l; omega) (tiny_val h hr)
theorem tiny_hull_ev {l : List S31} {r : Int} (h : Tiny l r) (hr : r ≤ 16777216) (hne : l ≠ []) (hl : l.length ≤ 256) : Ev (fun k => plane_Hull.f k l) (hul l, 0) := hull_ev hne hl (tiny_val h hr)
theorem tiny_grown {l : List S31} {r : Int} (h : Tiny l r) (hr : r ≤ 16777216) {t : Int} (h0 : 0 ≤ t) (h1 : t ≤ 33554432) : Tiny (plane_grown.list l t) (r + t) := fun q hq => by
  have e := (grownL_list (tiny_val h hr) h0 h1).1
  have hq' := mem_pts' hq
  rw [e] at hq'
  obtain ⟨p, hp, hq'⟩ := Geo.mem_grow.1 hq'
  have := h _ (mem_pts.1 hp)
  unfold mkP at this
  simp only at this
  simp only [Prod.mk.injEq] at hq'
  omega
theorem isGap_le {a b : List S31} {g : Int} (h : IsGap a b g) (ha : Tiny a 128) (hb : Tiny b 128) (na : a ≠ []) (nb : b ≠ []) : g ≤ 256 := by
  obtain ⟨p, hp⟩ := List.exists_mem_of_ne_nil _ na
  obtain ⟨q, hq⟩ := List.exists_mem_of_ne_nil _ nb
  have vp := ha p hp
  have vq := hb q hq
  have := Geo.not_sep_near (t := 256) (by omega) (mem_pts' hp) (mem_pts' hq) (by simp only; omega) (by simp only; omega) (by simp only; omega) (by simp only; omega)
  rw [h.2.2 256 (by omega)] at this
  omega
def movedL (b : List S31) (dx dy : Int) : List S31 := b.map fun p => ⟨p.f0 + dx, p.f1 + dy⟩
theorem pts_moved (b : List S31) (dx dy : Int) : pts (movedL b dx dy) = (pts b).map (Geo.sh (dx, dy)) := by
  unfold pts movedL
  rw [List.map_map, List.map_map]
  rfl
theorem moved_isH {b : List S31} (h : isH b = true) (ht : Tiny b 128) {dx dy : Int} (h1 : -128 ≤ dx ∧ dx ≤ 127) (h2 : -128 ≤ dy ∧ dy ≤ 127) : isH (movedL b dx dy) = true := by
  rw [isH_iff]
  refine ⟨?_, ⟨by unfold movedL; rw [List.length_map]; exact isH_len h, ?_⟩, ?_⟩
  · intro e
    have := isH_ne h
    unfold movedL at e
    exact this (List.map_eq_nil_iff.1 e)
  · refine tiny_val (r := 256) (fun p hp => ?_) (by omega)
    obtain ⟨q, hq, rfl⟩ := List.mem_map.1 hp
    have := ht q hq
    simp only
    omega
  · rw [pts_moved, Geo.hull_sh, isH_hull h]
theorem gaps_l1 {a b : List S31} (ha : isH a = true) (hb : isH b = true) (ta : Tiny a 128) (tb : Tiny b 128) {dx dy g : Int} (h1 : -128 ≤ dx ∧ dx ≤ 127) (h2 : -128 ≤ dy ∧ dy ≤ 127) (hg : IsGap a b g) :
    ∀ (d i : Nat) (acc : List S31), b.length - i = d → i ≤ b.length → acc = movedL (b.take i) dx dy → Ev (fun k => goosenecklaw01_PlaneGaps.l1 k dx dy a b g acc i) true
  | 0, i, acc, hd, hi, hacc => by
    have e : acc = movedL b dx dy := by rw [hacc, List.take_of_length_le (by omega)]
    subst e
    have hm := moved_isH hb tb h1 h2
    obtain ⟨h, hE, hh⟩ := gap_ev ha hm
    have g256 := isGap_le hg ta tb (isH_ne ha) (isH_ne hb)
    have g0 := hg.1
    have hl : h ≤ 33554432 := hh.2.1
    have h0 := hh.1
    have em : mx (mx (mx (wrap64 dx) (wrap64 (-(wrap64 dx)))) (wrap64 dy)) (wrap64 (-(wrap64 dy))) = mx (mx (mx dx (-dx)) dy) (-dy) := by
      rw [wrap_id (x := dx) (by omega) (by omega), wrap_id (x := -dx) (by omega) (by omega), wrap_id (x := dy) (by omega) (by omega), wrap_id (x := -dy) (by omega) (by omega)]
    have hmx : ∀ x y : Int, x ≤ mx x y ∧ y ≤ mx x y ∧ (mx x y = x ∨ mx x y = y) := fun x y => by unfold mx; split <;> omega
    refine Ev.step (fun k => by rw [goosenecklaw01_PlaneGaps.l1, if_neg (by omega), em]) ?_
    obtain ⟨m1, m2, m3⟩ := hmx dx (-dx)
    obtain ⟨m4, m5, m6⟩ := hmx (mx dx (-dx)) dy
    obtain ⟨m7, m8, m9⟩ := hmx (mx (mx dx (-dx)) dy) (-dy)
    generalize mx (mx (mx dx (-dx)) dy) (-dy) = t at *
    have et1 : wrap64 (g + t) = g + t := wrap_id (by omega) (by omega)
    have et2 : wrap64 (h + t) = h + t := wrap_id (by omega) (by omega)
    rw [et1]
    have k1 : h ≤ g + t := by
      refine Int.not_lt.1 fun hc => ?_
      have hs := (hh.2.2 (g + t) (by omega)).2 hc
      rw [pts_moved] at hs
      have := Geo.sep_shift (v := (dx, dy)) g0 (by simp only; omega) (by simp only; omega) (by simp only; omega) (by simp only; omega) hs
      have := (hg.2.2 g g0).1 this
      omega
    have k2 : g ≤ h + t := by
      refine Int.not_lt.1 fun hc => ?_
      have hs := (hg.2.2 (h + t) (by omega)).2 hc
      have := Geo.sep_shift_back (v := (dx, dy)) h0 (by simp only; omega) (by simp only; omega) (by simp only; omega) (by simp only; omega) hs
      rw [← pts_moved] at this
      have := (hh.2.2 h h0).1 this
      omega
    refine Ev.bind hE (Ev.pos rfl (Ev.pos k1 ?_))
    simp only [et2]
    exact Ev.pos k2 (Ev.bind works_ev (Ev.now _))
  | d + 1, i, acc, hd, hi, hacc => by
    have hlt : i < b.length := by omega
    have tb1 := tb b[i] (List.getElem_mem hlt)
    have hbl := isH_len hb
    have al : acc.length = i := by rw [hacc]; unfold movedL; rw [List.length_map, List.length_take]; omega
    have e1 : wrap64 (b[i].f0 + wrap64 dx) = b[i].f0 + dx := by rw [wrap_id (x := dx) (by omega) (by omega), wrap_id (by omega) (by omega)]
    have e2 : wrap64 (b[i].f1 + wrap64 dy) = b[i].f1 + dy := by rw [wrap_id (x := dy) (by omega) (by omega), wrap_id (by omega) (by omega)]
    refine Ev.step (fun k => by rw [goosenecklaw01_PlaneGaps.l1, if_pos (by omega), if_pos (by omega), if_pos (by omega)]) ?_
    rw [rd31 b i hlt, e1, e2, wrap_succ hlt (by omega)]
    refine gaps_l1 ha hb ta tb h1 h2 hg d (i + 1) _ (by omega) (by omega) ?_
    rw [hacc, List.take_succ_eq_append_getElem hlt]
    unfold movedL
    rw [List.map_append]
    rfl
theorem gaps_l0 {a b : List S31} (ha : isH a = true) (hb : isH b = true) (al : a.length ≤ 60) (ta : Tiny a 128) (tb : Tiny b 128) {dx dy g : Int} (h1 : -128 ≤ dx ∧ dx ≤ 127) (h2 : -128 ≤ dy ∧ dy ≤ 127) (hg : IsGap a b g) :
    ∀ (d : Nat) (t : Int), 0 ≤ t → (g + 2 - t).toNat = d → Ev (fun k => goosenecklaw01_PlaneGaps.l0 k dx dy a b g t) true
  | 0, t, ht, hd => by
    have g256 := isGap_le hg ta tb (isH_ne ha) (isH_ne hb)
    have g0 := hg.1
    have e : wrap64 (g + 1) = g + 1 := wrap_id (by omega) (by omega)
    refine Ev.step (fun k => by rw [goosenecklaw01_PlaneGaps.l0, e, if_neg (by omega)]) ?_
    exact gaps_l1 ha hb ta tb h1 h2 hg _ 0 [] rfl (Nat.zero_le _) rfl
  | d + 1, t, ht, hd => by
    have g256 := isGap_le hg ta tb (isH_ne ha) (isH_ne hb)
    have g0 := hg.1
    have e : wrap64 (g + 1) = g + 1 := wrap_id (by omega) (by omega)
    have e' : wrap64 (t + 1) = t + 1 := wrap_id (by omega) (by omega)
    refine Ev.step (fun k => by rw [goosenecklaw01_PlaneGaps.l0, e, e', if_pos (by omega)]) ?_
    have tg := tiny_grown ta (by omega) ht (by omega)
    have lg := grown_len a t
    have lh := hul_len (plane_grown.list a t)
    have hh := tiny_isH tg (by omega) (grown_ne (isH_ne ha) t) (by omega)
    have hG := grow_ev ha ht (by omega) (isH_len hh) (isH_val hh)
    obtain ⟨r, hM, hr⟩ := meet_ev hh hb
    rw [sep_grown ha ht (by omega), hg.2.2 t ht] at hr
    have er : r = decide (t ≥ g) := by
      cases r
      · have : ¬ ¬ t < g := fun h => Bool.false_ne_true (hr.2 h)
        simp; omega
      · have := hr.1 rfl
        simp; omega
    refine Ev.bind hG (Ev.bind hM (Ev.pos rfl (Ev.pos rfl (Ev.neg ?_ ?_))))
    · rw [er]; simp
    · exact gaps_l0 ha hb al ta tb h1 h2 hg d (t + 1) (by omega) (by omega)
theorem PlaneGaps_ev (l0 l1 : List S49) (dx dy : Int) (hl0 : l0.length ≤ 4611686018427387904) (hl1 : l1.length ≤ 4611686018427387904) (h8 : ∀ s ∈ l0, In8 s) (h9 : ∀ s ∈ l1, In8 s) (h1 : -128 ≤ dx ∧ dx ≤ 127) (h2 : -128 ≤ dy ∧ dy ≤ 127) :
    Ev (fun k => goosenecklaw01_PlaneGaps.f k l0 l1 dx dy) true := by
  unfold goosenecklaw01_PlaneGaps.f
  refine Ev.bind (few_ev l0 8 (by omega) hl0 h8) ?_
  have bad : ∀ x y, (l0 = [] ∨ l1 = []) → Ev (fun k => goosenecklaw01_PlaneGaps.j0 k l0 l1 dx dy x y true) true := fun x y h => by
    refine Ev.step (fun k => by rw [goosenecklaw01_PlaneGaps.j0, if_pos rfl]) ?_
    by_cases h0 : l0 = []
    · exact Ev.pos (by simp [h0]) (Ev.bind works_ev (Ev.now _))
    · have h1 := h.resolve_left h0
      have : 0 < l0.length := List.length_pos_iff.2 h0
      exact Ev.neg (by omega) (Ev.pos (by simp [h1]) (Ev.bind works_ev (Ev.now _)))
  by_cases h0 : l0 = []
  · subst h0
    refine Ev.bind hull_nil ?_
    refine Ev.bind (few_ev l1 8 (by omega) hl1 h9) ?_
    by_cases h1 : l1 = []
    · subst h1
      exact Ev.bind hull_nil (Ev.neg (by simp) (bad _ _ (.inl rfl)))
    · exact Ev.bind (tiny_hull_ev (few_tiny h9 8) (by omega) (few_ne h1 (by omega)) (by have := few_len l1 8; omega)) (Ev.neg (by simp) (bad _ _ (.inl rfl)))
  · have n0 := few_ne h0 (n := 8) (by omega)
    have la := few_len l0 8
    refine Ev.bind (tiny_hull_ev (few_tiny h8 8) (by omega) n0 (by omega)) ?_
    refine Ev.bind (few_ev l1 8 (by omega) hl1 h9) ?_
    by_cases h1' : l1 = []
    · subst h1'
      refine Ev.bind hull_nil (Ev.pos rfl ?_)
      exact bad _ _ (.inr rfl)
    · have n1 := few_ne h1' (n := 8) (by omega)
      have lb := few_len l1 8
      refine Ev.bind (tiny_hull_ev (few_tiny h9 8) (by omega) n1 (by omega)) (Ev.pos rfl ?_)
      have ha := tiny_isH (few_tiny h8 8) (by omega) n0 (by omega)
      have hb := tiny_isH (few_tiny h9 8) (by omega) n1 (by omega)
      have ta := tiny_hul (few_tiny h8 8)
      have tb := tiny_hul (few_tiny h9 8)
      obtain ⟨g, hE, hg⟩ := gap_ev ha hb
      have g256 := isGap_le hg ta tb (isH_ne ha) (isH_ne hb)
      have g0 := hg.1
      refine Ev.step (fun k => by rw [goosenecklaw01_PlaneGaps.j0, if_neg (by simp)]) ?_
      refine Ev.bind hE (Ev.pos rfl (Ev.neg (by simp only; omega) ?_))
      have e2 : wrap64 (g - 2) = g - 2 := wrap_id (by omega) (by omega)
      refine Ev.step (fun k => by rw [goosenecklaw01_PlaneGaps.j1, if_neg (by simp; omega), e2]) ?_
      have hm : 0 ≤ mx 0 (g - 2) := by unfold mx; split <;> omega
      exact gaps_l0 ha hb (by have := hul_len (fewL l0 8); omega) ta tb h1 h2 hg _ _ hm rfl
end Go.Proofs.Ytkbcomgffpbcbaa.Plane
