/- A part of the proof of Parts: walks of functions, and plain lemmas. No conditions. -/
import Derived.ArgAppend
import Derived.Below
import Derived.BigQuiet
import Derived.Deep.AppendLies
import Derived.Deep.CutBlock
import Derived.Deep.DeepCutAuto
import Derived.Deep.DeepFit
import Derived.Deep.DeepMust
import Derived.Deep.Draws
import Derived.Deep.LoopGhost
import Derived.Deep.OwnRows
import Derived.Deep.QuietTactic
import Derived.Deep.RegionHeld3
import Derived.Ground.SlgnProg
import Derived.Ground.SlsfProg
import Derived.KernelRfl
import Derived.Laws.BitsLemmas
import Derived.Laws.BytesArg
import Derived.Laws.IdiomCopy
import Derived.Laws.MakeOwn
import Derived.Laws.OwnMore
import Derived.Laws.Rows
import Derived.Laws.Slices
import Derived.Laws.StructEq
import Derived.Lib.AppendStr
import Derived.Lib.ConvBytes
import Derived.Lib.Hide
import Derived.Lib.QuietBelow
import Derived.Lib.QuietBelowIn
import Derived.Lib.SliceRun
import Derived.Lib.SlicesCompact
import Derived.LoopIn
import Derived.LoopNIn
import Derived.Maps.AppendAt
import Derived.OrdersHeld
import Derived.Outline
import Derived.OwnWalk
import Derived.OwnWalkIn
import Derived.RangeFuncBound
import Derived.RangeFuncBox
import Derived.RangeFuncCalls
import Derived.RangeFuncLeaves
import Derived.RangeFuncNested
import Derived.RowKit
import Derived.RowKit3
import Derived.Shelf.Abstract
import Derived.Shelf.RegionOpen
import Derived.Shelf.SlGeneric
import Derived.Shelf.SlSortCmp.WholeK
import Derived.Shelf.Slices.CompactI
import Derived.Shelf.SlicesQ.Reverse
import Derived.Sort.LoopGhostIn
import Derived.Sort.OwnSorted
import Derived.StillTail
import Derived.StillTailTactics
import Derived.Tactics
import Derived.TacticsIn
import Derived.TacticsInMore
import Derived.Test.YtkbcomgffpbcbaaProg
import Derived.WalkKit
import Derived.WalkSmall
import Derived.WalkSpells
import Derived.WideLaws
import Derived.Test.YtkbcomgffpbcbaaParts2
import Derived.Test.YtkbcomgffpbcbaaParts3
import Derived.Test.YtkbcomgffpbcbaaParts4
import Derived.Test.YtkbcomgffpbcbaaParts5
import Derived.Test.YtkbcomgffpbcbaaParts7
import Derived.Test.YtkbcomgffpbcbaaParts8
import Derived.Test.YtkbcomgffpbcbaaParts13
import Derived.Test.YtkbcomgffpbcbaaParts16
import Derived.Test.YtkbcomgffpbcbaaParts17
import Derived.Test.YtkbcomgffpbcbaaParts18
import Derived.Test.YtkbcomgffpbcbaaParts19
import Derived.Test.YtkbcomgffpbcbaaParts20
import Derived.Test.YtkbcomgffpbcbaaParts21
import Derived.Test.YtkbcomgffpbcbaaParts23
import Derived.Test.YtkbcomgffpbcbaaParts25
namespace Go.Proofs.Ytkbcomgffpbcbaa.Plane
open Go.RowKit Go.Proofs.YtkbcomgffpbcbaaW.PrintWords Go.Proofs.YtkbcomgffpbcbaaW.PrintLast Go.Proofs.YtkbcomgffpbcbaaW.PrintMore
set_option linter.unusedVariables false
set_option linter.unusedSimpArgs false
theorem near_of_val' {l : List S31} (h : val24 l = true) : Near l := near_iff.1 (near_of_val h)
theorem isH_ne {l : List S31} (h : isH l = true) : l ≠ [] := (isH_iff.1 h).1
theorem isH_len {l : List S31} (h : isH l = true) : l.length ≤ 256 := (isH_iff.1 h).2.1.1
theorem isH_val {l : List S31} (h : isH l = true) : val24 l = true := (isH_iff.1 h).2.1.2
theorem isH_near {l : List S31} (h : isH l = true) : Near l := near_of_val' (isH_val h)
theorem isH_hull {l : List S31} (h : isH l = true) : Geo.hull (pts l) = pts l := (isH_iff.1 h).2.2
theorem pts_ne {l : List S31} (h : l ≠ []) : pts l ≠ [] := fun e => h (pts_inj (e.trans rfl))
theorem hul_ne {l : List S31} (h : l ≠ []) : hul l ≠ [] := by
  intro e
  have := Geo.hull_ne (pts_ne h)
  rw [← pts_hul, e] at this
  exact this rfl
theorem val_sub {l l' : List S31} (h : val24 l = true) (k : ∀ p ∈ l', p ∈ l) : val24 l' = true := by
  unfold val24 at *
  rw [List.all_eq_true] at *
  exact fun p hp => h p (k p hp)
theorem near_sub {l l' : List S31} (h : Near l) (k : ∀ p ∈ l', p ∈ l) : Near l' := fun p hp => h p (k p hp)
theorem hul_isH {l : List S31} (hne : l ≠ []) (hl : (hul l).length ≤ 256) (hv : val24 l = true) : isH (hul l) = true := by
  rw [isH_iff]
  refine ⟨hul_ne hne, ⟨hl, val_sub hv fun p hp => hul_sub hp⟩, ?_⟩
  rw [pts_hul, Geo.hull_hull]
theorem apart_ev {a b : List S31} (ha : a ≠ []) (hb : b ≠ []) (ha2 : a.length ≤ 65536) (hb2 : b.length ≤ 65536) (na : Near a) (nb : Near b) (ea : Geo.hull (pts a) = pts a) (eb : Geo.hull (pts b) = pts b) :
    ∃ r, Ev (fun k => plane_apart.f k a b) r ∧ (r = true ↔ Geo.Sep (pts a) (pts b)) := by
  obtain ⟨r, hE, hP⟩ := part_ev ha hb ha2 hb2 na nb ea eb
  refine ⟨r.2.2.2, ?_, hP.iff⟩
  unfold plane_apart.f
  exact Ev.bind hE (Ev.now _)
theorem one_isH {p : S31} (h : in24 p = true) : isH [p] = true := by
  rw [isH_iff]
  refine ⟨by simp, ⟨by simp, by unfold val24; simp [h]⟩, ?_⟩
  rfl
theorem inside_ev (h : List S31) (p0 p1 : Int) (hl : h.length ≤ 4611686018427387904) : ∃ r, Ev (fun k => plane_Inside.f k h p0 p1) r ∧
    (chkH [h] ≠ 0 → r = (false, chkH [h])) ∧ (chkH [h] = 0 → in24 ⟨p0, p1⟩ = false → r = (false, 2)) ∧
    (chkH [h] = 0 → in24 ⟨p0, p1⟩ = true → r.2 = 0 ∧ (r.1 = true ↔ ¬ Geo.Sep (pts h) [(p0, p1)])) := by
  have hc := checkHulls_ev [h] (by simp) (fun l hl' => by rw [List.mem_singleton] at hl'; subst hl'; exact hl)
  unfold plane_Inside.f
  by_cases h0 : chkH [h] = 0
  · have hv := valid_ev [⟨p0, p1⟩] (by simp)
    have hh : isH h = true := by have := chkH_zero.1 h0; simpa using this
    have ev : val24 [⟨p0, p1⟩] = in24 ⟨p0, p1⟩ := by unfold val24; simp
    rw [ev] at hv
    cases hp : in24 ⟨p0, p1⟩
    · rw [hp] at hv
      exact ⟨(false, 2), Ev.bind hc (Ev.pos h0 (Ev.bind hv (Ev.neg (by simp) (Ev.now _)))), fun h => absurd h0 h, fun _ _ => rfl, fun _ h => by simp at h⟩
    · rw [hp] at hv
      have h1 := one_isH hp
      obtain ⟨r, hE, hr⟩ := apart_ev (isH_ne hh) (isH_ne h1) (by have := isH_len hh; omega) (by simp) (isH_near hh) (isH_near h1) (isH_hull hh) (isH_hull h1)
      refine ⟨(!r, 0), Ev.bind hc (Ev.pos h0 (Ev.bind hv (Ev.pos rfl (Ev.bind hE (Ev.now _))))), fun h => absurd h0 h, fun _ h => by simp at h, fun _ _ => ⟨rfl, ?_⟩⟩
      rw [show pts [(⟨p0, p1⟩ : S31)] = [(p0, p1)] from rfl] at hr
      rw [← hr]
      cases r <;> simp
  · exact ⟨(false, chkH [h]), Ev.bind hc (Ev.neg h0 (Ev.now _)), fun _ => rfl, fun h => absurd h h0, fun h => absurd h h0⟩
theorem chkH_two {a b : List S31} (ha : isH a = true) (hb : isH b = true) : chkH [a, b] = 0 := by
  rw [chkH_zero]
  simp [ha, hb]
theorem two_len {a b : List S31} (ha : isH a = true) (hb : isH b = true) : ∀ l ∈ [a, b], l.length ≤ 4611686018427387904 := fun l hl => by
  have := isH_len ha
  have := isH_len hb
  simp only [List.mem_cons, List.mem_nil_iff, or_false] at hl
  rcases hl with rfl | rfl <;> omega
theorem meet_ev {a b : List S31} (ha : isH a = true) (hb : isH b = true) : ∃ r, Ev (fun k => plane_Meet.f k a b) (r, 0) ∧ (r = true ↔ ¬ Geo.Sep (pts a) (pts b)) := by
  have hc := checkHulls_ev [a, b] (by simp) (two_len ha hb)
  obtain ⟨r, hE, hr⟩ := apart_ev (isH_ne ha) (isH_ne hb) (by have := isH_len ha; omega) (by have := isH_len hb; omega) (isH_near ha) (isH_near hb) (isH_hull ha) (isH_hull hb)
  refine ⟨!r, ?_, by rw [← hr]; cases r <;> simp⟩
  unfold plane_Meet.f
  refine Ev.bind hc (Ev.pos (chkH_two ha hb) (Ev.bind hE (Ev.now _)))
theorem part'_ev {a b : List S31} (ha : isH a = true) (hb : isH b = true) : ∃ r, Ev (fun k => plane_Part.f k a b) r ∧ (Geo.Sep (pts a) (pts b) → r.2.2.2 = 0 ∧ LineParts a b (r.1, r.2.1) r.2.2.1 ∧ (∃ p ∈ pts a, Geo.dot (r.1, r.2.1) p = r.2.2.1) ∧
      ((r.1, r.2.1) = Geo.sub (Geo.cy (pts b) 0) (Geo.cy (pts a) 0) ∨ (∃ j, j < (pts a).length ∧ Geo.dir1 (pts a) j (r.1, r.2.1)) ∨ ∃ j, j < (pts b).length ∧ Geo.dir1 (pts b) j (r.1, r.2.1))) ∧ (¬ Geo.Sep (pts a) (pts b) → r.2.2.2 = 5) := by
  have hc := checkHulls_ev [a, b] (by simp) (two_len ha hb)
  obtain ⟨r, hE, hP⟩ := part_ev (isH_ne ha) (isH_ne hb) (by have := isH_len ha; omega) (by have := isH_len hb; omega) (isH_near ha) (isH_near hb) (isH_hull ha) (isH_hull hb)
  unfold plane_Part.f
  cases h : r.2.2.2
  · refine ⟨(0, 0, 0, 5), Ev.bind hc (Ev.pos (chkH_two ha hb) (Ev.bind hE (Ev.neg (by simp [h]) (Ev.now _)))), fun hs => ?_, fun _ => rfl⟩
    have := hP.iff.2 hs
    rw [h] at this
    cases this
  · refine ⟨(r.1, r.2.1, r.2.2.1, 0), Ev.bind hc (Ev.pos (chkH_two ha hb) (Ev.bind hE (Ev.pos h (Ev.now _)))), fun hs => ⟨rfl, (hP.line h).1, (hP.line h).2, hP.from_ h⟩, fun hs => absurd (hP.iff.1 h) hs⟩
theorem checkPart_ev {a b : List S31} (ha : isH a = true) (hb : isH b = true) (d : S47) : ∃ r, Ev (fun k => plane_CheckPart.f k a b d.f0 d.f1 d.f2) r ∧
    (r = 0 ↔ ((-67108864 ≤ d.f0 ∧ d.f0 ≤ 67108864) ∧ (-67108864 ≤ d.f1 ∧ d.f1 ≤ 67108864) ∧ (-4503599627370496 ≤ d.f2 ∧ d.f2 ≤ 4503599627370496)) ∧ LineParts a b (vec d) d.f2) := by
  have hc := checkHulls_ev [a, b] (by simp) (two_len ha hb)
  unfold plane_CheckPart.f
  have bad : Ev (fun k => plane_CheckPart.j0 k a b true d.f0 d.f1 d.f2) 3 := Ev.step (fun k => by rw [plane_CheckPart.j0, if_pos rfl]) (Ev.now 3)
  by_cases h1 : (decide (-67108864 ≤ d.f0) && decide (d.f0 ≤ 67108864)) = true
  · by_cases h2 : (decide (-67108864 ≤ d.f1) && decide (d.f1 ≤ 67108864)) = true
    · by_cases h3 : (decide (-4503599627370496 ≤ d.f2) && decide (d.f2 ≤ 4503599627370496)) = true
      · have hs : Small27 d := by
          simp only [Bool.and_eq_true, decide_eq_true_eq] at h1 h2
          unfold Small27; omega
        obtain ⟨lo1, hi1, E1, S1⟩ := span_ev hs (isH_ne ha) (by have := isH_len ha; omega) (isH_near ha)
        obtain ⟨lo2, hi2, E2, S2⟩ := span_ev hs (isH_ne hb) (by have := isH_len hb; omega) (isH_near hb)
        refine ⟨if hi1 > d.f2 then 16 else if lo2 ≤ d.f2 then 16 else 0, ?_, ?_⟩
        · refine Ev.bind hc (Ev.pos (chkH_two ha hb) (Ev.bindP (within_eq _ _ _) (Ev.pos h1 (Ev.bindP (within_eq _ _ _) (Ev.pos h2 (Ev.bindP (within_eq _ _ _) ?_))))))
          rw [h3, Bool.not_true]
          refine Ev.step (fun k => by rw [plane_CheckPart.j0, if_neg (by simp)]) ?_
          exact Ev.bind E1 (Ev.bind E2 (Ev.ite (Ev.now 16) (Ev.ite (Ev.now 16) (Ev.now 0))))
        · simp only [Bool.and_eq_true, decide_eq_true_eq] at h1 h2 h3
          constructor
          · intro h
            split at h
            · cases h
            · split at h
              · cases h
              · refine ⟨⟨h1, h2, h3⟩, fun p hp => ?_, fun q hq => ?_⟩
                · have := (S1.le p hp).2; omega
                · have := (S2.le q hq).1; omega
          · rintro ⟨_, k1, k2⟩
            obtain ⟨p, hp, ep⟩ := S1.at_hi
            obtain ⟨q, hq, eq⟩ := S2.at_lo
            have := k1 p hp
            have := k2 q hq
            rw [if_neg (by omega), if_neg (by omega)]
      · refine ⟨3, Ev.bind hc (Ev.pos (chkH_two ha hb) (Ev.bindP (within_eq _ _ _) (Ev.pos h1 (Ev.bindP (within_eq _ _ _) (Ev.pos h2 (Ev.bindP (within_eq _ _ _) ?_)))))), ?_⟩
        · rw [Bool.eq_false_iff.2 h3]
          exact bad
        · constructor
          · intro h; cases h
          · rintro ⟨⟨_, _, k⟩, _⟩; exact absurd (by simpa using k) h3
    · refine ⟨3, Ev.bind hc (Ev.pos (chkH_two ha hb) (Ev.bindP (within_eq _ _ _) (Ev.pos h1 (Ev.bindP (within_eq _ _ _) (Ev.neg h2 bad))))), ?_⟩
      constructor
      · intro h; cases h
      · rintro ⟨⟨_, k, _⟩, _⟩; exact absurd (by simpa using k) h2
  · refine ⟨3, Ev.bind hc (Ev.pos (chkH_two ha hb) (Ev.bindP (within_eq _ _ _) (Ev.neg h1 bad))), ?_⟩
    constructor
    · intro h; cases h
    · rintro ⟨⟨k, _, _⟩, _⟩; exact absurd (by simpa using k) h1
theorem grownL_list {l : List S31} (h : val24 l = true) {t : Int} (h0 : 0 ≤ t) (h1 : t ≤ 33554432) : pts (plane_grown.list l t) = Geo.grow (pts l) t ∧ Near (plane_grown.list l t) := by
  have hv : ∀ p ∈ l, (-16777216 ≤ p.f0 ∧ p.f0 ≤ 16777216) ∧ (-16777216 ≤ p.f1 ∧ p.f1 ≤ 16777216) := fun p hp => by
    unfold val24 in24 at h
    simp only [List.all_eq_true, Bool.and_eq_true, decide_eq_true_eq] at h
    exact h p hp
  have ew : wrap64 (-t) = -t := wrap_id (by omega) (by omega)
  have el : ∀ p ∈ l, wrap64 (p.f0 + wrap64 (-t)) = p.f0 - t ∧ wrap64 (p.f0 + t) = p.f0 + t ∧ wrap64 (p.f1 + wrap64 (-t)) = p.f1 - t ∧ wrap64 (p.f1 + t) = p.f1 + t := fun p hp => by
    have := hv p hp
    rw [ew]
    exact ⟨(wrap_id (by omega) (by omega)).trans (by omega), wrap_id (by omega) (by omega), (wrap_id (by omega) (by omega)).trans (by omega), wrap_id (by omega) (by omega)⟩
  have e : plane_grown.list l t = l.flatMap fun p => [⟨p.f0 - t, p.f1 - t⟩, ⟨p.f0 - t, p.f1 + t⟩, ⟨p.f0 + t, p.f1 - t⟩, ⟨p.f0 + t, p.f1 + t⟩] := by
    clear h hv
    unfold plane_grown.list
    induction l with
    | nil => rfl
    | cons p l ih =>
      obtain ⟨e1, e2, e3, e4⟩ := el p (by simp)
      rw [List.flatMap_cons, List.flatMap_cons, ih fun q hq => el q (by simp [hq]), e1, e2, e3, e4]
  rw [e]
  constructor
  · unfold pts Geo.grow
    rw [List.map_flatMap, List.flatMap_map]
    rfl
  · intro q hq
    obtain ⟨p, hp, hq⟩ := List.mem_flatMap.1 hq
    have := hv p hp
    simp only [List.mem_cons, List.mem_nil_iff, or_false] at hq
    rcases hq with rfl | rfl | rfl | rfl <;> simp only <;> omega
theorem grown_len (l : List S31) (t : Int) : (plane_grown.list l t).length = 4 * l.length := by
  unfold plane_grown.list
  induction l with
  | nil => rfl
  | cons p l ih => rw [List.flatMap_cons, List.length_append, ih]; simp; omega
theorem grown_ne {l : List S31} (h : l ≠ []) (t : Int) : plane_grown.list l t ≠ [] := by
  intro e
  have := congrArg List.length e
  rw [grown_len] at this
  have : 0 < l.length := List.length_pos_iff.2 h
  simp at *
  omega
theorem grown_eq {l : List S31} (h : isH l = true) {t : Int} (h0 : 0 ≤ t) (h1 : t ≤ 33554432) : plane_grown.f l t = some (hul (plane_grown.list l t)) := by
  unfold plane_grown.f
  have := isH_len h
  rw [if_pos (by omega), corners_eq (near_iff.2 (grownL_list (isH_val h) h0 h1).2) (by rw [grown_len]; omega)]
theorem sep_grown {a b : List S31} (ha : isH a = true) {t : Int} (h0 : 0 ≤ t) (h1 : t ≤ 33554432) : Geo.Sep (pts (hul (plane_grown.list a t))) (pts b) ↔ Geo.Sep (Geo.grow (pts a) t) (pts b) := by
  rw [pts_hul, Geo.sep_hull_left, (grownL_list (isH_val ha) h0 h1).1]
theorem apart_grown {a b : List S31} (ha : isH a = true) (hb : isH b = true) {t : Int} (h0 : 0 ≤ t) (h1 : t ≤ 33554432) : ∃ r, Ev (fun k => plane_apart.f k (hul (plane_grown.list a t)) b) r ∧ (r = true ↔ Geo.Sep (Geo.grow (pts a) t) (pts b)) := by
  have hl := hul_len (plane_grown.list a t)
  rw [grown_len] at hl
  have := isH_len ha
  obtain ⟨r, hE, hr⟩ := apart_ev (hul_ne (grown_ne (isH_ne ha) t)) (isH_ne hb) (by omega) (by have := isH_len hb; omega) (near_sub (grownL_list (isH_val ha) h0 h1).2 fun p hp => hul_sub hp) (isH_near hb) (by rw [pts_hul, Geo.hull_hull]) (isH_hull hb)
  exact ⟨r, hE, by rw [hr, sep_grown ha h0 h1]⟩
def IsGap (a b : List S31) (g : Int) : Prop := 0 ≤ g ∧ g ≤ 33554432 ∧ ∀ t, 0 ≤ t → (Geo.Sep (Geo.grow (pts a) t) (pts b) ↔ t < g)
theorem gap_l0 {a b : List S31} (ha : isH a = true) (hb : isH b = true) : ∀ (n : Nat) (lo hi : Int), hi - lo < 2 ^ n → 0 ≤ lo → lo ≤ hi → hi ≤ 33554432 → (∀ t, 0 ≤ t → t < lo → Geo.Sep (Geo.grow (pts a) t) (pts b)) → ¬ Geo.Sep (Geo.grow (pts a) hi) (pts b) →
    ∃ g, Ev (fun k => plane_Gap.l0 k a b lo hi) (g, 0) ∧ IsGap a b g
  | 0, lo, hi, hn, h0, hle, h1, hlo, hhi => by
    have e : lo = hi := by simp at hn; omega
    subst e
    refine ⟨lo, Ev.step (fun k => by rw [plane_Gap.l0, if_neg (by omega)]) (Ev.now (lo, 0)), h0, h1, fun t ht => ⟨fun hs => ?_, hlo t ht⟩⟩
    refine Int.not_le.1 fun hc => hhi (Geo.sep_grow_mono h0 hc hs)
  | n + 1, lo, hi, hn, h0, hle, h1, hlo, hhi => by
    by_cases hlt : lo < hi
    · have em : wrap64 (Int.tdiv (wrap64 (lo + hi)) 2) = (lo + hi) / 2 := by
        rw [wrap_id (x := lo + hi) (by omega) (by omega), Int.tdiv_eq_ediv_of_nonneg (by omega), wrap_id (by omega) (by omega)]
      have em1 : wrap64 ((lo + hi) / 2 + 1) = (lo + hi) / 2 + 1 := wrap_id (by omega) (by omega)
      obtain ⟨r, hE, hr⟩ := apart_grown ha hb (t := (lo + hi) / 2) (by omega) (by omega)
      have hg := grown_eq ha (t := (lo + hi) / 2) (by omega) (by omega)
      have h2 : (2 : Int) ^ (n + 1) = 2 * 2 ^ n := by rw [Int.pow_succ]; omega
      cases hrb : r
      · rw [hrb] at hE hr
        obtain ⟨g, hG, hg'⟩ := gap_l0 ha hb n lo ((lo + hi) / 2) (by omega) h0 (by omega) (by omega) hlo (fun hs => Bool.false_ne_true (hr.2 hs))
        refine ⟨g, Ev.step (fun k => by rw [plane_Gap.l0, if_pos hlt, em, em1, hg, Option.bind_some]) ?_, hg'⟩
        exact Ev.bind hE (Ev.neg (by simp) hG)
      · rw [hrb] at hE hr
        have hs := hr.1 rfl
        obtain ⟨g, hG, hg'⟩ := gap_l0 ha hb n ((lo + hi) / 2 + 1) hi (by omega) (by omega) (by omega) h1 (fun t ht htl => Geo.sep_grow_mono ht (by omega) hs) hhi
        refine ⟨g, Ev.step (fun k => by rw [plane_Gap.l0, if_pos hlt, em, em1, hg, Option.bind_some]) ?_, hg'⟩
        exact Ev.bind hE (Ev.pos rfl hG)
    · have e : lo = hi := by omega
      subst e
      refine ⟨lo, Ev.step (fun k => by rw [plane_Gap.l0, if_neg (by omega)]) (Ev.now (lo, 0)), h0, h1, fun t ht => ⟨fun hs => ?_, hlo t ht⟩⟩
      refine Int.not_le.1 fun hc => hhi (Geo.sep_grow_mono h0 hc hs)
theorem val_pt {l : List S31} (h : val24 l = true) {p : S31} (hp : p ∈ l) : (-16777216 ≤ p.f0 ∧ p.f0 ≤ 16777216) ∧ (-16777216 ≤ p.f1 ∧ p.f1 ≤ 16777216) := by
  unfold val24 in24 at h
  simp only [List.all_eq_true, Bool.and_eq_true, decide_eq_true_eq] at h
  exact h p hp
theorem gap_ev {a b : List S31} (ha : isH a = true) (hb : isH b = true) : ∃ g, Ev (fun k => plane_Gap.f k a b) (g, 0) ∧ IsGap a b g := by
  have hc := checkHulls_ev [a, b] (by simp) (two_len ha hb)
  obtain ⟨p, hp⟩ := List.exists_mem_of_ne_nil _ (isH_ne ha)
  obtain ⟨q, hq⟩ := List.exists_mem_of_ne_nil _ (isH_ne hb)
  have vp := val_pt (isH_val ha) hp
  have vq := val_pt (isH_val hb) hq
  obtain ⟨g, hE, hg⟩ := gap_l0 ha hb 26 0 33554432 (by decide) (by omega) (by omega) (by omega) (fun t h0 h1 => by omega) (Geo.not_sep_near (by omega) (mem_pts' hp) (mem_pts' hq) (by simp only; omega) (by simp only; omega) (by simp only; omega) (by simp only; omega))
  refine ⟨g, ?_, hg⟩
  unfold plane_Gap.f
  exact Ev.bind hc (Ev.pos (chkH_two ha hb) hE)
theorem hull_ev {l : List S31} (hne : l ≠ []) (hl : l.length ≤ 256) (hv : val24 l = true) : Ev (fun k => plane_Hull.f k l) (hul l, 0) := by
  have hc := checkPoints_ev [l] (by simp)
  unfold plane_Hull.f
  have hp : 0 < l.length := List.length_pos_iff.2 hne
  refine Ev.bind hc (Ev.pos (chk_zero.2 ⟨hl, hv⟩) (Ev.neg (by omega) (Ev.bindP (corners_eq (near_of_val hv) (by omega)) (Ev.now _))))
theorem hull_nil : Ev (fun k => plane_Hull.f k []) ([], 5) := by
  have hc := checkPoints_ev [[]] (by simp)
  unfold plane_Hull.f
  exact Ev.bind hc (Ev.pos rfl (Ev.pos rfl (Ev.now _)))
end Go.Proofs.Ytkbcomgffpbcbaa.Plane
namespace Go.Proofs.Ytkbcomgffpbcbaa.Plane
open Go.RowKit Go.Proofs.YtkbcomgffpbcbaaW.PrintWords Go.Proofs.YtkbcomgffpbcbaaW.PrintLast Go.Proofs.YtkbcomgffpbcbaaW.PrintMore
set_option linter.unusedVariables false
set_option linter.unusedSimpArgs false
theorem works_ev : Ev (fun k => goosenecklaw01_works.f k) true := Ev.of goosenecklaw01_works.mono (k := 100) (by decide +kernel)
def In8 (s : S49) : Prop := (-128 ≤ s.f0 ∧ s.f0 ≤ 127) ∧ (-128 ≤ s.f1 ∧ s.f1 ≤ 127)
def big (s : S49) : S31 := ⟨s.f0, s.f1⟩
def fewL (l : List S49) (n : Nat) : List S31 := (l.take n).map big
theorem rd49 (l : List S49) (i : Nat) (h : i < l.length) : rd_T49 l (i : Int) = l[i] := by
  unfold rd_T49
  rw [Int.toNat_natCast]
  simp [List.getD_eq_getElem?_getD, h]
theorem few_l0 (l : List S49) (n : Nat) (hn : n ≤ 1000) (hl : l.length ≤ 4611686018427387904) (h8 : ∀ s ∈ l, In8 s) : ∀ (d i : Nat) (acc : List S31), n - i = d → i ≤ n → acc.length = i → Ev (fun k => goosenecklaw01_few.l0 k l (n : Int) acc i) (acc ++ ((l.take n).drop i).map big)
  | 0, i, acc, hd, hi, ha => by
    have e : (l.take n).drop i = [] := List.drop_eq_nil_of_le (by rw [List.length_take]; omega)
    rw [e, List.map_nil, List.append_nil]
    by_cases hlt : i < l.length
    · exact Ev.step (fun k => by rw [goosenecklaw01_few.l0, if_pos (by omega), if_neg (by omega)]) (Ev.now acc)
    · exact Ev.step (fun k => by rw [goosenecklaw01_few.l0, if_neg (by omega)]) (Ev.now acc)
  | d + 1, i, acc, hd, hi, ha => by
    by_cases hlt : i < l.length
    · have hlt2 : i < (l.take n).length := by rw [List.length_take]; omega
      have hs := h8 l[i] (List.getElem_mem hlt)
      have e1 : wrap64 l[i].f0 = l[i].f0 := wrap_id (by have := hs.1; omega) (by have := hs.1; omega)
      have e2 : wrap64 l[i].f1 = l[i].f1 := wrap_id (by have := hs.2; omega) (by have := hs.2; omega)
      refine Ev.step (fun k => by rw [goosenecklaw01_few.l0, if_pos (by omega), if_pos (by omega), if_pos (by omega), if_pos (by omega)]) ?_
      rw [rd49 l i hlt, e1, e2, wrap_succ hlt hl]
      have ih := few_l0 l n hn hl h8 d (i + 1) (acc ++ [big l[i]]) (by omega) (by omega) (by simp [ha])
      rw [List.append_assoc] at ih
      rw [drop_cons _ i hlt2, List.map_cons, List.getElem_take]
      exact ih
    · have e : (l.take n).drop i = [] := List.drop_eq_nil_of_le (by rw [List.length_take]; omega)
      rw [e, List.map_nil, List.append_nil]
      exact Ev.step (fun k => by rw [goosenecklaw01_few.l0, if_neg (by omega)]) (Ev.now acc)
theorem few_ev (l : List S49) (n : Nat) (hn : n ≤ 1000) (hl : l.length ≤ 4611686018427387904) (h8 : ∀ s ∈ l, In8 s) : Ev (fun k => goosenecklaw01_few.f k l (n : Int)) (fewL l n) := by
  unfold goosenecklaw01_few.f fewL
  have := few_l0 l n hn hl h8 n 0 [] rfl (Nat.zero_le _) rfl
  rw [List.drop_zero, List.nil_append] at this
  exact this
def Tiny (l : List S31) (r : Int) : Prop := ∀ p ∈ l, (-r ≤ p.f0 ∧ p.f0 ≤ r) ∧ (-r ≤ p.f1 ∧ p.f1 ≤ r)
theorem few_tiny {l : List S49} (h8 : ∀ s ∈ l, In8 s) (n : Nat) : Tiny (fewL l n) 128 := fun p hp => by
  obtain ⟨s, hs, rfl⟩ := List.mem_map.1 hp
  have := h8 s (List.mem_of_mem_take hs)
  unfold In8 at this
  unfold big
  simp only
  omega
theorem few_len (l : List S49) (n : Nat) : (fewL l n).length ≤ n := by unfold fewL; rw [List.length_map, List.length_take]; omega
theorem few_ne {l : List S49} (h : l ≠ []) {n : Nat} (hn : 0 < n) : fewL l n ≠ [] := by
  unfold fewL
  intro e
  have := congrArg List.length e
  rw [List.length_map, List.length_take, List.length_nil] at this
  have : 0 < l.length := List.length_pos_iff.2 h
  omega
theorem tiny_val {l : List S31} {r : Int} (h : Tiny l r) (hr : r ≤ 16777216) : val24 l = true := by
  unfold val24 in24
  simp only [List.all_eq_true, Bool.and_eq_true, decide_eq_true_eq]
  intro p hp
  have := h p hp
  omega
theorem tiny_hul {l : List S31} {r : Int} (h : Tiny l r) : Tiny (hul l) r := fun p hp => h p (hul_sub hp)
theorem tiny_isH {l : List S31} {r : Int} (h : Tiny l r) (hr : r ≤ 16777216) (hne : l ≠ []) (hl : l.length ≤ 256) : isH (hul l) = true := hul_isH hne (by have := hul_len l; omega) (tiny_val h hr)
theorem tiny_hull_ev {l : List S31} {r : Int} (h : Tiny l r) (hr : r ≤ 16777216) (hne : l ≠ []) (hl : l.length ≤ 256) : Ev (fun k => plane_Hull.f k l) (hul l, 0) := hull_ev hne hl (tiny_val h hr)
end Go.Proofs.Ytkbcomgffpbcbaa.Plane
namespace Go.Proofs.Ytkbcomgffpbcbaa.Plane
open Go.RowKit Go.Proofs.YtkbcomgffpbcbaaW.PrintWords Go.Proofs.YtkbcomgffpbcbaaW.PrintLast Go.Proofs.YtkbcomgffpbcbaaW.PrintMore
set_option linter.unusedVariables false
set_option linter.unusedSimpArgs false
theorem tiny_pts {l : List S31} {r : Int} (h : Tiny l r) : ∀ p ∈ pts l, (-r ≤ p.1 ∧ p.1 ≤ r) ∧ (-r ≤ p.2 ∧ p.2 ≤ r) := fun p hp => h _ (mem_pts.1 hp)
theorem dir_small {h : List (Int × Int)} (hne : h ≠ []) (ht : ∀ p ∈ h, (-128 ≤ p.1 ∧ p.1 ≤ 128) ∧ (-128 ≤ p.2 ∧ p.2 ≤ 128)) {j : Nat} {d : Int × Int} (hd : Geo.dir1 h j d) : (-256 ≤ d.1 ∧ d.1 ≤ 256) ∧ (-256 ≤ d.2 ∧ d.2 ≤ 256) := by
  have h1 := ht _ (Geo.cy_mem hne j)
  have h2 := ht _ (Geo.cy_mem hne (j + 1))
  unfold Geo.dir1 at hd
  simp only at hd
  rcases hd with rfl | rfl | rfl | rfl <;> simp only <;> omega
structure PartsData (K : Nat) (a b : List S31) (d : S47) (q : S31) (r : Bool) (g t1 t2 t3 t4 c : Int) (i1 i2 : Bool) : Prop where
  meet : plane_Meet.f K a b = some (r, 0)
  meet' : plane_Meet.f K b a = some (r, 0)
  gap : plane_Gap.f K a b = some (g, 0)
  gap' : plane_Gap.f K b a = some (g, 0)
  zero : r = true ↔ g = 0
  part : plane_Part.f K a b = some (t1, t2, t3, t4)
  met : r = true → t4 = 5
  parted : r = false → t4 = 0 ∧ plane_CheckPart.f K a b t1 t2 t3 = some 0
  other : plane_CheckPart.f K a b d.f0 d.f1 d.f2 = some c
  no : r = true → c ≠ 0
  in1 : plane_Inside.f K a q.f0 q.f1 = some (i1, 0)
  in2 : plane_Inside.f K b q.f0 q.f1 = some (i2, 0)
  both : r = false → ¬ (i1 = true ∧ i2 = true)
  works : goosenecklaw01_works.f K = some true
theorem parts_data {a b : List S31} (ha : isH a = true) (hb : isH b = true) (ta : Tiny a 128) (tb : Tiny b 128) (d : S47) (q : S31) (hq : in24 q = true) : ∃ K r g t1 t2 t3 t4 c i1 i2, PartsData K a b d q r g t1 t2 t3 t4 c i1 i2 := by
  have na := isH_ne ha
  have nb := isH_ne hb
  obtain ⟨r, hM, hr⟩ := meet_ev ha hb
  obtain ⟨r', hM', hr'⟩ := meet_ev hb ha
  have er : r' = r := by
    rw [Geo.sep_comm] at hr'
    have : r = true ↔ r' = true := hr.trans hr'.symm
    cases r <;> cases r' <;> simp_all
  subst er
  obtain ⟨g, hG, hg⟩ := gap_ev ha hb
  obtain ⟨g', hG', hg'⟩ := gap_ev hb ha
  have eg : g' = g := by
    have k1 : ¬ g < g' := fun h => by
      have := (hg'.2.2 g hg.1).2 h
      rw [Geo.sep_grow_comm hg.1] at this
      have := (hg.2.2 g hg.1).1 this
      omega
    have k2 : ¬ g' < g := fun h => by
      have := (hg.2.2 g' hg'.1).2 h
      rw [Geo.sep_grow_comm hg'.1] at this
      have := (hg'.2.2 g' hg'.1).1 this
      omega
    omega
  subst eg
  have hz : r' = true ↔ g' = 0 := by
    rw [hr, ← Geo.sep_grow_zero, hg.2.2 0 (by omega)]
    have := hg.1
    omega
  obtain ⟨t, hP, hp1, hp2⟩ := part'_ev ha hb
  obtain ⟨c, hC, hc⟩ := checkPart_ev ha hb d
  have hla : a.length ≤ 4611686018427387904 := by have := isH_len ha; omega
  have hlb : b.length ≤ 4611686018427387904 := by have := isH_len hb; omega
  have c1 : chkH [a] = 0 := chkH_zero.2 (by simp [ha])
  have c2 : chkH [b] = 0 := chkH_zero.2 (by simp [hb])
  obtain ⟨i, hI, _, _, hi⟩ := inside_ev a q.f0 q.f1 hla
  obtain ⟨i', hI', _, _, hi'⟩ := inside_ev b q.f0 q.f1 hlb
  obtain ⟨hi0, hi1⟩ := hi c1 hq
  obtain ⟨hi0', hi1'⟩ := hi' c2 hq
  have hpart : r' = false → t.2.2.2 = 0 ∧ Ev (fun k => plane_CheckPart.f k a b t.1 t.2.1 t.2.2.1) 0 := fun h => by
    have hs : Geo.Sep (pts a) (pts b) := Classical.byContradiction fun hn => by
      have := hr.2 hn
      rw [h] at this
      cases this
    obtain ⟨e0, hL, ⟨p, hp, ep⟩, hd⟩ := hp1 hs
    have hsm : (-256 ≤ t.1 ∧ t.1 ≤ 256) ∧ (-256 ≤ t.2.1 ∧ t.2.1 ≤ 256) := by
      rcases hd with h | ⟨j, hj, h⟩ | ⟨j, hj, h⟩
      · have h1 := tiny_pts ta _ (Geo.cy_mem (pts_ne na) 0)
        have h2 := tiny_pts tb _ (Geo.cy_mem (pts_ne nb) 0)
        have h3 := congrArg Prod.fst h
        have h4 := congrArg Prod.snd h
        unfold Geo.sub at h3 h4
        simp only at h3 h4
        omega
      · exact dir_small (pts_ne na) (tiny_pts ta) h
      · exact dir_small (pts_ne nb) (tiny_pts tb) h
    have htp := tiny_pts ta p hp
    have hK : -65536 ≤ t.2.2.1 ∧ t.2.2.1 ≤ 65536 := by
      have m1 := mul_bound (u := t.1) (v := p.1) (A := 256) (B := 128) hsm.1.1 hsm.1.2 htp.1.1 htp.1.2
      have m2 := mul_bound (u := t.2.1) (v := p.2) (A := 256) (B := 128) hsm.2.1 hsm.2.2 htp.2.1 htp.2.2
      unfold Geo.dot at ep
      simp only at ep
      omega
    obtain ⟨c', hC', hc'⟩ := checkPart_ev ha hb ⟨t.1, t.2.1, t.2.2.1⟩
    have : c' = 0 := hc'.2 ⟨⟨by simp only; omega, by simp only; omega, by simp only; omega⟩, hL⟩
    subst this
    exact ⟨e0, hC'⟩
  obtain ⟨K1, e1⟩ := hM
  obtain ⟨K2, e2⟩ := hM'
  obtain ⟨K3, e3⟩ := hG
  obtain ⟨K4, e4⟩ := hG'
  obtain ⟨K5, e5⟩ := hP
  obtain ⟨K6, e6⟩ := hC
  obtain ⟨K7, e7⟩ := hI
  obtain ⟨K8, e8⟩ := hI'
  obtain ⟨K9, e9⟩ := works_ev
  obtain ⟨K10, e10⟩ : ∃ K, r' = false → ∀ k, K ≤ k → plane_CheckPart.f k a b t.1 t.2.1 t.2.2.1 = some 0 := by
    cases hb' : r'
    · obtain ⟨K, h⟩ := (hpart hb').2
      exact ⟨K, fun _ => h⟩
    · exact ⟨0, fun h => by cases h⟩
  refine ⟨K1 + K2 + K3 + K4 + K5 + K6 + K7 + K8 + K9 + K10, r', g', t.1, t.2.1, t.2.2.1, t.2.2.2, c, i.1, i'.1, e1 _ (by omega), e2 _ (by omega), e3 _ (by omega), e4 _ (by omega), hz, e5 _ (by omega), ?_, fun h => ⟨(hpart h).1, e10 h _ (by omega)⟩, e6 _ (by omega), ?_, ?_, ?_, ?_, e9 _ (by omega)⟩
  · intro h
    exact hp2 (hr.1 h)
  · intro h h0
    exact hr.1 h (line_sep (hc.1 h0).2)
  · exact (e7 _ (by omega)).trans (by rw [← hi0])
  · exact (e8 _ (by omega)).trans (by rw [← hi0'])
  · rintro h ⟨k1, k2⟩
    have hs : Geo.Sep (pts a) (pts b) := Classical.byContradiction fun hn => by
      have := hr.2 hn
      rw [h] at this
      cases this
    obtain ⟨dd, hdd⟩ := hs
    obtain ⟨p, hp, p', hp', hle⟩ := Geo.not_sep.1 (hi1.1 k1) dd
    obtain ⟨s, hs, s', hs', hle'⟩ := Geo.not_sep.1 (hi1'.1 k2) (-dd.1, -dd.2)
    rw [List.mem_singleton] at hp' hs'
    subst hp' hs'
    rw [Geo.dot_neg, Geo.dot_neg] at hle'
    have := hdd p hp s hs
    omega
end Go.Proofs.Ytkbcomgffpbcbaa.Plane
namespace Go.Proofs.Ytkbcomgffpbcbaa.Plane
open Go.RowKit Go.Proofs.YtkbcomgffpbcbaaW.PrintWords Go.Proofs.YtkbcomgffpbcbaaW.PrintLast Go.Proofs.YtkbcomgffpbcbaaW.PrintMore
set_option linter.unusedVariables false
set_option linter.unusedSimpArgs false
theorem balW {a w : World} (h : RowKit.Below a.heap.size a w) (o : Obj) : RowKit.Below a.heap.size a (w.alloc o) := h.alloc h.size o
theorem thenW {A W W' : World} (h : RowKit.Below A.heap.size A W) (k : RowKit.Below W.heap.size W W') : RowKit.Below A.heap.size A W' := h.trans (k.mono h.size)
theorem lateV {W W' : World} {base : Nat} {ok : Nat → Prop} {v : Value} {l : List S31} (h : Kd.R k31 31 W base ok v l) (hb : RowKit.Below W.heap.size W W') : Kd.V k31 31 W' W'.heap.size (fun k_ => ok k_) v l := Kd.R_V (Kd.R_below h hb)
theorem box_late {W W' : World} {B : Nat} {o : Obj} (h : W.heap[B]? = some o) (hb : RowKit.Below W.heap.size W W') : W'.heap[B]? = some o := (hb.block B (Array.getElem?_eq_some_iff.1 h).1).trans h
theorem cells_of {W : World} {B : Nat} {cs : Array Value} {t : TypeId} (h : W.heap[B]? = some (.cells cs t)) (j : Nat) (v : Value) (hj : cs[j]? = some v) : W.cell? ⟨B, j, none⟩ = some v := by
  simp [World.cell?, h, hj]
set_option maxRecDepth 100000 in
set_option maxHeartbeats 8000000 in
theorem parts_two (A0 : Option Addr) (c0 : Nat) (l0 : List S49) (A1 : Option Addr) (c1 : Nat) (l1 : List S49) (d : S47) (p : S49) (w : World) (hr0 : Kd.C k49 w A0 l0.length l0) (hc0 : l0.length ≤ c0) (hr1 : Kd.C k49 w A1 l1.length l1) (hc1 : l1.length ≤ c1) (hp8 : In8 p)
    (a b : List S31) (f1 f2 : List S31) (K0 : Nat) (hf1 : goosenecklaw01_few.f K0 l0 8 = some f1) (hf2 : goosenecklaw01_few.f K0 l1 8 = some f2) (hh1 : plane_Hull.f K0 f1 = some (a, 0)) (hh2 : plane_Hull.f K0 f2 = some (b, 0))
    (K : Nat) (r : Bool) (g t1 t2 t3 t4 c : Int) (i1 i2 : Bool) (hD : PartsData K a b d ⟨p.f0, p.f1⟩ r g t1 t2 t3 t4 c i1 i2) :
    Calls Try.prog 6 #[.slice A0 l0.length c0, .slice A1 l1.length c1, .agg #[.int .i64 d.f0, .int .i64 d.f1, .int .i64 d.f2], .agg #[.int .i8 p.f0, .int .i8 p.f1]] w fun e w' => e = .returned (.bool true) ∧ Below w.heap.size w w' := by
  have hu31 := Try.underlying31
  have hu47 := Try.underlying47
  have hu49 := Try.underlying49
  have HD := Lib.hid hD
  have HF1 := Lib.hid hf1
  have HF2 := Lib.hid hf2
  have HH1 := Lib.hid hh1
  have HH2 := Lib.hid hh2
  have HR0 := Lib.hid hr0
  have HR1 := Lib.hid hr1
  clear hD hf1 hf2 hh1 hh2 hr0 hr1
  obtain ⟨pb1, pb2⟩ := hp8
  obtain ⟨pb3, pb4⟩ := pb1
  obtain ⟨pb5, pb6⟩ := pb2
  go_enter Try.func6, Try.ntmps6
  go_wp2_with fail
  have hbw : RowKit.Below w.heap.size w ((w.alloc (Obj.cells #[Value.int IntKind.i64 d.f0, Value.int IntKind.i64 d.f1, Value.int IntKind.i64 d.f2] 47)).alloc (Obj.cells #[Value.int IntKind.i8 p.f0, Value.int IntKind.i8 p.f1] 49)) := balW (balW (RowKit.Below.refl _ _) _) _
  have b47 : ((w.alloc (Obj.cells #[Value.int IntKind.i64 d.f0, Value.int IntKind.i64 d.f1, Value.int IntKind.i64 d.f2] 47)).alloc (Obj.cells #[Value.int IntKind.i8 p.f0, Value.int IntKind.i8 p.f1] 49)).heap[w.heap.size]? = some (.cells #[Value.int IntKind.i64 d.f0, Value.int IntKind.i64 d.f1, Value.int IntKind.i64 d.f2] 47) := box_late (World.alloc_heap_new w _) (balW (RowKit.Below.refl _ _) _)
  have b49 : ((w.alloc (Obj.cells #[Value.int IntKind.i64 d.f0, Value.int IntKind.i64 d.f1, Value.int IntKind.i64 d.f2] 47)).alloc (Obj.cells #[Value.int IntKind.i8 p.f0, Value.int IntKind.i8 p.f1] 49)).heap[w.heap.size + 1]? = some (.cells #[Value.int IntKind.i8 p.f0, Value.int IntKind.i8 p.f1] 49) := by
    have := World.alloc_heap_new (w.alloc (Obj.cells #[Value.int IntKind.i64 d.f0, Value.int IntKind.i64 d.f1, Value.int IntKind.i64 d.f2] 47)) (Obj.cells #[Value.int IntKind.i8 p.f0, Value.int IntKind.i8 p.f1] 49)
    rwa [World.size_alloc] at this
  generalize (w.alloc (Obj.cells #[Value.int IntKind.i64 d.f0, Value.int IntKind.i64 d.f1, Value.int IntKind.i64 d.f2] 47)).alloc (Obj.cells #[Value.int IntKind.i8 p.f0, Value.int IntKind.i8 p.f1] 49) = W0 at *
  have HB47 := Lib.hid b47
  have HB49 := Lib.hid b49
  have HB0 := Lib.hid hbw
  clear b47 b49 hbw
  -- the points and the hulls
  go_at_call 13
  refine (goosenecklaw01_few.calls K0 A0 c0 l0 8 f1 _ (Kd.C_below HR0.out HB0.out) hc0 HF1.out).mono ?_
  rintro e w1 ⟨v, rfl, hR1, h1⟩
  obtain ⟨Af, cf, rfl, hlf, hCf⟩ := Kd.R_reads hR1
  have HB1 := Lib.hid h1
  have HRf := Lib.hid hR1
  clear hCf h1 hR1
  go_wp2_with fail
  go_at_call 14
  refine (plane_Hull.calls K0 _ Af cf f1 a 0 _ (Kd.R_V HRf.out) HH1.out).mono ?_
  rintro e w2 ⟨v, rfl, hR2, h2⟩
  obtain ⟨Aa, ca, rfl, hla, hCa⟩ := Kd.R_reads hR2
  have HRa := Lib.hid hR2
  have HB2 := Lib.hid (thenW HB1.out h2)
  clear hCa h2 hR2 HRf HB1
  go_wp2_with fail
  go_at_call 13
  refine (goosenecklaw01_few.calls K0 A1 c1 l1 8 f2 _ (Kd.C_below HR1.out (thenW HB0.out HB2.out)) hc1 HF2.out).mono ?_
  rintro e w3 ⟨v, rfl, hR3, h3⟩
  obtain ⟨Ag, cg, rfl, hlg, hCg⟩ := Kd.R_reads hR3
  have HRg := Lib.hid hR3
  have HA3 := Lib.hid h3
  have HB3 := Lib.hid (thenW HB2.out h3)
  clear hCg h3 hR3 HB2
  go_wp2_with fail
  go_at_call 14
  refine (plane_Hull.calls K0 _ Ag cg f2 b 0 _ (Kd.R_V HRg.out) HH2.out).mono ?_
  rintro e w4 ⟨v, rfl, hR4, h4⟩
  obtain ⟨Ab, cb, rfl, hlb, hCb⟩ := Kd.R_reads hR4
  have HRb := Lib.hid hR4
  have HA4 := Lib.hid (thenW HA3.out h4)
  have HB4 := Lib.hid (thenW HB3.out h4)
  clear hCb h4 hR4 HRg HA3 HB3
  go_wp2_with fail
  go_at_call 28
  refine (plane_Meet.calls K _ Aa ca a _ Ab cb b r 0 _ (lateV HRa.out HA4.out) (Kd.R_V HRb.out) HD.out.meet).mono ?_
  rintro e w5 ⟨rfl, h5⟩
  have HC5 := Lib.hid h5
  have HA5 := Lib.hid (thenW HA4.out h5)
  clear h5
  go_wp2_with fail
  go_at_call 28
  refine (plane_Meet.calls K _ Ab cb b _ Aa ca a r 0 _ (lateV HRb.out HC5.out) (lateV HRa.out HA5.out) HD.out.meet').mono ?_
  rintro e w6 ⟨rfl, h6⟩
  have HC6 := Lib.hid (thenW HC5.out h6)
  have HA6 := Lib.hid (thenW HA5.out h6)
  clear h6 HC5 HA5
  go_wp2_with fail
  go_at_call 27
  refine (plane_Gap.calls K _ Aa ca a _ Ab cb b g 0 _ (lateV HRa.out HA6.out) (lateV HRb.out HC6.out) HD.out.gap).mono ?_
  rintro e w7 ⟨rfl, h7⟩
  have HC7 := Lib.hid (thenW HC6.out h7)
  have HA7 := Lib.hid (thenW HA6.out h7)
  clear h7 HC6 HA6
  go_wp2_with fail
  go_at_call 27
  refine (plane_Gap.calls K _ Ab cb b _ Aa ca a g 0 _ (lateV HRb.out HC7.out) (lateV HRa.out HA7.out) HD.out.gap').mono ?_
  rintro e w8 ⟨rfl, h8⟩
  have HC8 := Lib.hid (thenW HC7.out h8)
  have HA8 := Lib.hid (thenW HA7.out h8)
  clear h8 HC7 HA7
  go_wp2_with fail
  go_at_call 29
  refine (plane_Part.calls K _ Aa ca a _ Ab cb b t1 t2 t3 t4 _ (lateV HRa.out HA8.out) (lateV HRb.out HC8.out) HD.out.part).mono ?_
  rintro e w9 ⟨rfl, h9⟩
  have HC9 := Lib.hid (thenW HC8.out h9)
  have HA9 := Lib.hid (thenW HA8.out h9)
  clear h9 HC8 HA8
  have hz := HD.out.zero
  have q47 := box_late HB47.out (thenW HB4.out HC9.out)
  have hszw : w.heap.size + 1 < w9.heap.size := by
    have q49 := box_late HB49.out (thenW HB4.out HC9.out)
    exact (Array.getElem?_eq_some_iff.1 q49).1
  have q47' := box_late q47 (balW (RowKit.Below.refl _ _) (.cells #[.int .i64 t1, .int .i64 t2, .int .i64 t3] 47))
  have o0 := cells_of q47' 0 _ rfl
  have o1 := cells_of q47' 1 _ rfl
  have o2 := cells_of q47' 2 _ rfl
  clear q47 q47'
  have HB9 := Lib.hid (thenW HB0.out (thenW HB4.out HC9.out))
  cases hrr : r
  · -- they don't
    have hg : ¬ g = 0 := fun h => by have := hz.2 h; rw [hrr] at this; cases this
    have h4 := HD.out.parted hrr
    have hbt := HD.out.both hrr
    obtain ⟨h4, hck⟩ := h4
    subst hrr
    obtain rfl := h4
    have hk1 : (g == 0) = false := by simpa using hg
    have hk2 : (g != 0) = true := by simpa using hg
    have HCK := Lib.hid hck
    clear hz hck hg
    go_wp2_with fail
    go_at_call 30
    refine (plane_CheckPart.calls K _ Aa ca a _ Ab cb b t1 t2 t3 0 _ (lateV HRa.out (balW HA9.out _)) (lateV HRb.out (balW HC9.out _)) HCK.out).mono ?_
    rintro e w10 ⟨rfl, h10⟩
    have HC10 := Lib.hid (thenW (balW HC9.out _) h10)
    have HA10 := Lib.hid (thenW (balW HA9.out _) h10)
    clear h10 o0 o1 o2
    have q49 := box_late HB49.out (thenW HB4.out HC10.out)
    have hsz10 : w.heap.size + 1 < w10.heap.size := (Array.getElem?_eq_some_iff.1 q49).1
    have o3 := cells_of q49 0 _ rfl
    have o4 := cells_of q49 1 _ rfl
    clear q49
    go_wp2_with fail
    go_at_call 18
    refine (plane_Inside.calls K _ Aa ca a p.f0 p.f1 i1 0 _ (lateV HRa.out (balW HA10.out _)) HD.out.in1).mono ?_
    rintro e w11 ⟨rfl, h11⟩
    have HC11 := Lib.hid (thenW (balW HC10.out _) h11)
    have HB11 := Lib.hid (thenW HB0.out (thenW HB4.out HC11.out))
    have qq := box_late (World.alloc_heap_new w10 (.cells #[.int .i64 p.f0, .int .i64 p.f1] 31)) h11
    have o5 := cells_of qq 0 _ rfl
    have o6 := cells_of qq 1 _ rfl
    clear h11 qq o3 o4
    go_wp2_with fail
    go_at_call 18
    refine (plane_Inside.calls K _ Ab cb b p.f0 p.f1 i2 0 _ (lateV HRb.out HC11.out) HD.out.in2).mono ?_
    rintro e w12 ⟨rfl, h12⟩
    have HB12 := Lib.hid (thenW HB11.out h12)
    have HW := Lib.hid HD.out.works
    clear h12 o5 o6 HD
    cases i1
    · go_wp2_with fail
      go_at_call 15
      refine (goosenecklaw01_works.calls K true _ HW.out).mono ?_
      rintro e w13 ⟨rfl, h13⟩
      have HB13 := Lib.hid (thenW HB12.out h13)
      clear h13
      go_wp2
      go_ret
      exact ⟨rfl, HB13.out⟩
    · cases i2
      · go_wp2_with fail
        go_at_call 15
        refine (goosenecklaw01_works.calls K true _ HW.out).mono ?_
        rintro e w13 ⟨rfl, h13⟩
        have HB13 := Lib.hid (thenW HB12.out h13)
        clear h13
        go_wp2
        go_ret
        exact ⟨rfl, HB13.out⟩
      · exact absurd ⟨rfl, rfl⟩ hbt
  · -- they meet
    have hg := hz.1 hrr
    have h4 := HD.out.met hrr
    have hno := HD.out.no hrr
    subst hrr
    obtain rfl := hg
    obtain rfl := h4
    have hk1 : (c == 0) = false := by simpa using hno
    have hk2 : (c != 0) = true := by simpa using hno
    have HNO := Lib.hid hno
    clear hz hno
    go_wp2_with fail
    go_at_call 30
    refine (plane_CheckPart.calls K _ Aa ca a _ Ab cb b d.f0 d.f1 d.f2 c _ (lateV HRa.out (balW HA9.out _)) (lateV HRb.out (balW HC9.out _)) HD.out.other).mono ?_
    rintro e w10 ⟨rfl, h10⟩
    have HC10 := Lib.hid (thenW (balW HC9.out _) h10)
    have HA10 := Lib.hid (thenW (balW HA9.out _) h10)
    clear h10 o0 o1 o2
    have q49 := box_late HB49.out (thenW HB4.out HC10.out)
    have hsz10 : w.heap.size + 1 < w10.heap.size := (Array.getElem?_eq_some_iff.1 q49).1
    have o3 := cells_of q49 0 _ rfl
    have o4 := cells_of q49 1 _ rfl
    clear q49
    go_wp2_with fail
    go_at_call 18
    refine (plane_Inside.calls K _ Aa ca a p.f0 p.f1 i1 0 _ (lateV HRa.out (balW HA10.out _)) HD.out.in1).mono ?_
    rintro e w11 ⟨rfl, h11⟩
    have HC11 := Lib.hid (thenW (balW HC10.out _) h11)
    have HB11 := Lib.hid (thenW HB0.out (thenW HB4.out HC11.out))
    have qq := box_late (World.alloc_heap_new w10 (.cells #[.int .i64 p.f0, .int .i64 p.f1] 31)) h11
    have o5 := cells_of qq 0 _ rfl
    have o6 := cells_of qq 1 _ rfl
    clear h11 qq o3 o4
    go_wp2_with fail
    go_at_call 18
    refine (plane_Inside.calls K _ Ab cb b p.f0 p.f1 i2 0 _ (lateV HRb.out HC11.out) HD.out.in2).mono ?_
    rintro e w12 ⟨rfl, h12⟩
    have HB12 := Lib.hid (thenW HB11.out h12)
    clear h12 o5 o6
    go_wp2_with fail
    go_at_call 15
    refine (goosenecklaw01_works.calls K true _ HD.out.works).mono ?_
    rintro e w13 ⟨rfl, h13⟩
    have HB13 := Lib.hid (thenW HB12.out h13)
    clear h13
    go_wp2
    go_ret
    exact ⟨rfl, HB13.out⟩
set_option maxRecDepth 100000 in
set_option maxHeartbeats 8000000 in
theorem parts_none (A0 : Option Addr) (c0 : Nat) (l0 : List S49) (A1 : Option Addr) (c1 : Nat) (l1 : List S49) (d : S47) (p : S49) (w : World) (hr0 : Kd.C k49 w A0 l0.length l0) (hc0 : l0.length ≤ c0) (hr1 : Kd.C k49 w A1 l1.length l1) (hc1 : l1.length ≤ c1) (hp8 : In8 p)
    (a b : List S31) (f1 f2 : List S31) (K0 : Nat) (hf1 : goosenecklaw01_few.f K0 l0 8 = some f1) (hf2 : goosenecklaw01_few.f K0 l1 8 = some f2) (e1 e2 : Int) (hh1 : plane_Hull.f K0 f1 = some (a, e1)) (hh2 : plane_Hull.f K0 f2 = some (b, e2)) (K : Nat) (hW : goosenecklaw01_works.f K = some true) (he : (e1 = 5 ∧ l0.length = 0) ∨ (e1 = 0 ∧ e2 = 5 ∧ 0 < l0.length ∧ l1.length = 0)) :
    Calls Try.prog 6 #[.slice A0 l0.length c0, .slice A1 l1.length c1, .agg #[.int .i64 d.f0, .int .i64 d.f1, .int .i64 d.f2], .agg #[.int .i8 p.f0, .int .i8 p.f1]] w fun e w' => e = .returned (.bool true) ∧ Below w.heap.size w w' := by
  have hu31 := Try.underlying31
  have hu47 := Try.underlying47
  have hu49 := Try.underlying49
  have HW := Lib.hid hW
  have HE := Lib.hid he
  have HF1 := Lib.hid hf1
  have HF2 := Lib.hid hf2
  have HH1 := Lib.hid hh1
  have HH2 := Lib.hid hh2
  have HR0 := Lib.hid hr0
  have HR1 := Lib.hid hr1
  clear hW he hf1 hf2 hh1 hh2 hr0 hr1
  obtain ⟨pb1, pb2⟩ := hp8
  obtain ⟨pb3, pb4⟩ := pb1
  obtain ⟨pb5, pb6⟩ := pb2
  go_enter Try.func6, Try.ntmps6
  go_wp2_with fail
  have hbw : RowKit.Below w.heap.size w ((w.alloc (Obj.cells #[Value.int IntKind.i64 d.f0, Value.int IntKind.i64 d.f1, Value.int IntKind.i64 d.f2] 47)).alloc (Obj.cells #[Value.int IntKind.i8 p.f0, Value.int IntKind.i8 p.f1] 49)) := balW (balW (RowKit.Below.refl _ _) _) _
  have b47 : ((w.alloc (Obj.cells #[Value.int IntKind.i64 d.f0, Value.int IntKind.i64 d.f1, Value.int IntKind.i64 d.f2] 47)).alloc (Obj.cells #[Value.int IntKind.i8 p.f0, Value.int IntKind.i8 p.f1] 49)).heap[w.heap.size]? = some (.cells #[Value.int IntKind.i64 d.f0, Value.int IntKind.i64 d.f1, Value.int IntKind.i64 d.f2] 47) := box_late (World.alloc_heap_new w _) (balW (RowKit.Below.refl _ _) _)
  have b49 : ((w.alloc (Obj.cells #[Value.int IntKind.i64 d.f0, Value.int IntKind.i64 d.f1, Value.int IntKind.i64 d.f2] 47)).alloc (Obj.cells #[Value.int IntKind.i8 p.f0, Value.int IntKind.i8 p.f1] 49)).heap[w.heap.size + 1]? = some (.cells #[Value.int IntKind.i8 p.f0, Value.int IntKind.i8 p.f1] 49) := by
    have := World.alloc_heap_new (w.alloc (Obj.cells #[Value.int IntKind.i64 d.f0, Value.int IntKind.i64 d.f1, Value.int IntKind.i64 d.f2] 47)) (Obj.cells #[Value.int IntKind.i8 p.f0, Value.int IntKind.i8 p.f1] 49)
    rwa [World.size_alloc] at this
  generalize (w.alloc (Obj.cells #[Value.int IntKind.i64 d.f0, Value.int IntKind.i64 d.f1, Value.int IntKind.i64 d.f2] 47)).alloc (Obj.cells #[Value.int IntKind.i8 p.f0, Value.int IntKind.i8 p.f1] 49) = W0 at *
  have HB47 := Lib.hid b47
  have HB49 := Lib.hid b49
  have HB0 := Lib.hid hbw
  clear b47 b49 hbw
  -- the points and the hulls
  go_at_call 13
  refine (goosenecklaw01_few.calls K0 A0 c0 l0 8 f1 _ (Kd.C_below HR0.out HB0.out) hc0 HF1.out).mono ?_
  rintro e w1 ⟨v, rfl, hR1, h1⟩
  obtain ⟨Af, cf, rfl, hlf, hCf⟩ := Kd.R_reads hR1
  have HB1 := Lib.hid h1
  have HRf := Lib.hid hR1
  clear hCf h1 hR1
  go_wp2_with fail
  go_at_call 14
  refine (plane_Hull.calls K0 _ Af cf f1 a e1 _ (Kd.R_V HRf.out) HH1.out).mono ?_
  rintro e w2 ⟨v, rfl, hR2, h2⟩
  obtain ⟨Aa, ca, rfl, hla, hCa⟩ := Kd.R_reads hR2
  have HRa := Lib.hid hR2
  have HB2 := Lib.hid (thenW HB1.out h2)
  clear hCa h2 hR2 HRf HB1
  go_wp2_with fail
  go_at_call 13
  refine (goosenecklaw01_few.calls K0 A1 c1 l1 8 f2 _ (Kd.C_below HR1.out (thenW HB0.out HB2.out)) hc1 HF2.out).mono ?_
  rintro e w3 ⟨v, rfl, hR3, h3⟩
  obtain ⟨Ag, cg, rfl, hlg, hCg⟩ := Kd.R_reads hR3
  have HRg := Lib.hid hR3
  have HA3 := Lib.hid h3
  have HB3 := Lib.hid (thenW HB2.out h3)
  clear hCg h3 hR3 HB2
  go_wp2_with fail
  go_at_call 14
  refine (plane_Hull.calls K0 _ Ag cg f2 b e2 _ (Kd.R_V HRg.out) HH2.out).mono ?_
  rintro e w4 ⟨v, rfl, hR4, h4⟩
  obtain ⟨Ab, cb, rfl, hlb, hCb⟩ := Kd.R_reads hR4
  have HRb := Lib.hid hR4
  have HA4 := Lib.hid (thenW HA3.out h4)
  have HB4 := Lib.hid (thenW HB3.out h4)
  clear hCb h4 hR4 HRg HA3 HB3
  have HB5 := Lib.hid (thenW HB0.out HB4.out)
  rcases HE.out with ⟨rfl, hn⟩ | ⟨rfl, rfl, hp, hn⟩
  · have g1 : ((l0.length : Int) == 0) = true := by simp [hn]
    have HN := Lib.hid hn
    clear hn HE
    go_wp2_with fail
    go_at_call 15
    refine (goosenecklaw01_works.calls K true _ HW.out).mono ?_
    rintro e w5 ⟨rfl, h5⟩
    have HB6 := Lib.hid (thenW HB5.out h5)
    clear h5
    go_wp2
    go_ret
    exact ⟨rfl, HB6.out⟩
  · have g1 : ((l0.length : Int) == 0) = false := by rw [beq_eq_false_iff_ne]; omega
    have g2 : ((l1.length : Int) == 0) = true := by simp [hn]
    have HN := Lib.hid hn
    clear hn HE
    go_wp2_with fail
    go_at_call 15
    refine (goosenecklaw01_works.calls K true _ HW.out).mono ?_
    rintro e w5 ⟨rfl, h5⟩
    have HB6 := Lib.hid (thenW HB5.out h5)
    clear h5
    go_wp2
    go_ret
    exact ⟨rfl, HB6.out⟩
theorem PlaneParts_calls (A0 : Option Addr) (c0 : Nat) (l0 : List S49) (A1 : Option Addr) (c1 : Nat) (l1 : List S49) (d : S47) (p : S49) (w : World) (hr0 : Kd.C k49 w A0 l0.length l0) (hc0 : l0.length ≤ c0) (hr1 : Kd.C k49 w A1 l1.length l1) (hc1 : l1.length ≤ c1)
    (hl0 : l0.length ≤ 4611686018427387904) (hl1 : l1.length ≤ 4611686018427387904) (h8 : ∀ s ∈ l0, In8 s) (h9 : ∀ s ∈ l1, In8 s) (hp8 : In8 p) :
    Calls Try.prog 6 #[.slice A0 l0.length c0, .slice A1 l1.length c1, .agg #[.int .i64 d.f0, .int .i64 d.f1, .int .i64 d.f2], .agg #[.int .i8 p.f0, .int .i8 p.f1]] w fun e w' => e = .returned (.bool true) ∧ Below w.heap.size w w' := by
  obtain ⟨K1, e1⟩ := few_ev l0 8 (by omega) hl0 h8
  obtain ⟨K2, e2⟩ := few_ev l1 8 (by omega) hl1 h9
  obtain ⟨K3, e3⟩ := works_ev
  obtain ⟨K5, e5⟩ := hull_nil
  have la := few_len l0 8
  have lb := few_len l1 8
  by_cases n0 : l0 = []
  · subst n0
    have hx : ∃ (b : List S31) (e : Int) (K4 : Nat), ∀ k, K4 ≤ k → plane_Hull.f k (fewL l1 8) = some (b, e) := by
      by_cases n1 : l1 = []
      · subst n1; exact ⟨_, _, K5, e5⟩
      · obtain ⟨K4, e4⟩ := tiny_hull_ev (few_tiny h9 8) (by omega) (few_ne n1 (by omega)) (by omega)
        exact ⟨_, _, K4, e4⟩
    obtain ⟨b, e, K4, e4⟩ := hx
    exact parts_none A0 c0 [] A1 c1 l1 d p w hr0 hc0 hr1 hc1 hp8 [] b _ _ (K1 + K2 + K4 + K5) (e1 _ (by omega)) (e2 _ (by omega)) 5 e (e5 _ (by omega)) (e4 _ (by omega)) K3 (e3 _ (Nat.le_refl _)) (.inl ⟨rfl, rfl⟩)
  · obtain ⟨K4, e4⟩ := tiny_hull_ev (few_tiny h8 8) (by omega) (few_ne n0 (by omega)) (by omega)
    by_cases n1 : l1 = []
    · subst n1
      exact parts_none A0 c0 l0 A1 c1 [] d p w hr0 hc0 hr1 hc1 hp8 _ [] _ _ (K1 + K2 + K4 + K5) (e1 _ (by omega)) (e2 _ (by omega)) 0 5 (e4 _ (by omega)) (e5 _ (by omega)) K3 (e3 _ (Nat.le_refl _)) (.inr ⟨rfl, rfl, List.length_pos_iff.2 n0, rfl⟩)
    · obtain ⟨K6, e6⟩ := tiny_hull_ev (few_tiny h9 8) (by omega) (few_ne n1 (by omega)) (by omega)
      have ha := tiny_isH (few_tiny h8 8) (by omega) (few_ne n0 (by omega)) (by omega)
      have hb := tiny_isH (few_tiny h9 8) (by omega) (few_ne n1 (by omega)) (by omega)
      have hq : in24 ⟨p.f0, p.f1⟩ = true := by
        unfold in24
        obtain ⟨⟨h1, h2⟩, h3, h4⟩ := hp8
        simp only [Bool.and_eq_true, decide_eq_true_eq]
        omega
      obtain ⟨K, r, g, t1, t2, t3, t4, c, i1, i2, hD⟩ := parts_data ha hb (tiny_hul (few_tiny h8 8)) (tiny_hul (few_tiny h9 8)) d ⟨p.f0, p.f1⟩ hq
      exact parts_two A0 c0 l0 A1 c1 l1 d p w hr0 hc0 hr1 hc1 hp8 _ _ _ _ (K1 + K2 + K4 + K6) (e1 _ (by omega)) (e2 _ (by omega)) (e4 _ (by omega)) (e6 _ (by omega)) K r g t1 t2 t3 t4 c i1 i2 hD
end Go.Proofs.Ytkbcomgffpbcbaa.Plane
