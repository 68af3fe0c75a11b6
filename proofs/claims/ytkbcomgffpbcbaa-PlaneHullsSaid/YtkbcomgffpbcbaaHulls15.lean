/- A part of the proof of Hulls: walks of functions, and plain lemmas. No conditions. -/
import Derived.ArgAppend
import Derived.Below
import Derived.BigQuiet
import Derived.Deep.AppendLies
import Derived.Deep.CutBlock
import Derived.Deep.DeepCutAuto
import Derived.Deep.DeepFit
import Derived.Deep.DeepMust
import Derived.Deep.Draws
import Derived.Deep.LoopGhost
import Derived.Deep.OwnRows
import Derived.Deep.QuietTactic
import Derived.Deep.RegionHeld3
import Derived.Ground.SlgnProg
import Derived.Ground.SlsfProg
import Derived.KernelRfl
import Derived.Laws.BitsLemmas
import Derived.Laws.BytesArg
import Derived.Laws.IdiomCopy
import Derived.Laws.MakeOwn
import Derived.Laws.OwnMore
import Derived.Laws.Rows
import Derived.Laws.Slices
import Derived.Laws.StructEq
import Derived.Lib.AppendStr
import Derived.Lib.ConvBytes
import Derived.Lib.Hide
import Derived.Lib.QuietBelowIn
import Derived.Lib.SliceRun
import Derived.Lib.SlicesCompact
import Derived.LoopIn
import Derived.LoopNIn
import Derived.Maps.AppendAt
import Derived.OrdersHeld
import Derived.Outline
import Derived.OwnWalk
import Derived.OwnWalkIn
import Derived.RangeFuncBound
import Derived.RangeFuncBox
import Derived.RangeFuncCalls
import Derived.RangeFuncLeaves
import Derived.RangeFuncNested
import Derived.RowKit
import Derived.RowKit3
import Derived.Shelf.Abstract
import Derived.Shelf.RegionOpen
import Derived.Shelf.SlGeneric
import Derived.Shelf.SlSortCmp.WholeK
import Derived.Shelf.Slices.CompactI
import Derived.Shelf.SlicesQ.Reverse
import Derived.Sort.LoopGhostIn
import Derived.Sort.OwnSorted
import Derived.Tactics
import Derived.TacticsIn
import Derived.TacticsInMore
import Derived.Test.YtkbcomgffpbcbaaProg
import Derived.WalkKit
import Derived.WalkSmall
import Derived.WalkSpells
import Derived.WideLaws
import Derived.Test.YtkbcomgffpbcbaaHulls2
import Derived.Test.YtkbcomgffpbcbaaHulls3
import Derived.Test.YtkbcomgffpbcbaaHulls4
import Derived.Test.YtkbcomgffpbcbaaHulls7
import Derived.Test.YtkbcomgffpbcbaaHulls8
import Derived.Test.YtkbcomgffpbcbaaHulls13
import Derived.Test.YtkbcomgffpbcbaaHulls14
namespace Go.Proofs.Ytkbcomgffpbcbaa.Plane
open Go.RowKit Go.Shelf Go.Sort Go.Lib Go.Proofs.YtkbcomgffpbcbaaW.PrintWords Go.Proofs.YtkbcomgffpbcbaaW.PrintLast Go.Proofs.YtkbcomgffpbcbaaW.PrintMore
set_option linter.unusedVariables false
set_option linter.unusedSimpArgs false
theorem lex_or {p q : S31} (h : ¬ Geo.lex (ptOf q) (ptOf p)) (hne : q ≠ p) : Geo.lex (ptOf p) (ptOf q) := by
  unfold Geo.lex ptOf at *
  simp only at *
  have : ¬ (p.f0 = q.f0 ∧ p.f1 = q.f1) := fun e => hne (by cases p; cases q; simp at e; simp [e])
  omega
theorem compactUpTo_sorted (d : Array S31) (hs : ∀ i j, i < j → j < d.size → ¬ Geo.lex (ptOf d[j]!) (ptOf d[i]!)) : ∀ m, m + 1 ≤ d.size →
    ∃ l, compactUpTo d (m + 1) = l ++ [d[m]!] ∧ Geo.Adj Geo.lex ((compactUpTo d (m + 1)).map ptOf) ∧ ∀ p, p ∈ compactUpTo d (m + 1) ↔ ∃ j, j < m + 1 ∧ d[j]! = p
  | 0, h => by
    have e : compactUpTo d 1 = [d[0]!] := by
      rw [compactUpTo_succ, keeps_lt_one d 0 (by omega)]
      rfl
    rw [e]
    refine ⟨[], rfl, by simp [Geo.Adj], fun p => ?_⟩
    constructor
    · intro hp
      rw [List.mem_singleton] at hp
      exact ⟨0, by omega, hp.symm⟩
    · rintro ⟨j, hj, rfl⟩
      have : j = 0 := by omega
      subst this
      simp
  | m + 1, h => by
    obtain ⟨l, h1, h2, h3⟩ := compactUpTo_sorted d hs m (by omega)
    by_cases hk : d[m + 1]! = d[m]!
    · have e : compactUpTo d (m + 1 + 1) = compactUpTo d (m + 1) := by
        rw [compactUpTo_succ d (m + 1), keeps_neg (by omega) hk]
        simp
      rw [e]
      refine ⟨l, by rw [hk]; exact h1, h2, fun p => ?_⟩
      rw [h3]
      constructor
      · rintro ⟨j, hj, rfl⟩; exact ⟨j, by omega, rfl⟩
      · rintro ⟨j, hj, rfl⟩
        by_cases ej : j = m + 1
        · subst ej; exact ⟨m, by omega, hk.symm⟩
        · exact ⟨j, by omega, rfl⟩
    · have e : compactUpTo d (m + 1 + 1) = compactUpTo d (m + 1) ++ [d[m + 1]!] := by
        rw [compactUpTo_succ d (m + 1), keeps_pos (by exact hk)]
        simp
      rw [e]
      refine ⟨_, rfl, ?_, fun p => ?_⟩
      · have hx := lex_or (hs m (m + 1) (by omega) (by omega)) hk
        rw [h1] at h2
        rw [h1]
        simp only [List.map_append, List.map_cons, List.map_nil, List.append_assoc, List.cons_append, List.nil_append] at h2 ⊢
        rw [Geo.adj_append]
        exact ⟨h2, hx, trivial⟩
      · rw [List.mem_append, h3, List.mem_singleton]
        constructor
        · rintro (⟨j, hj, rfl⟩ | rfl)
          · exact ⟨j, by omega, rfl⟩
          · exact ⟨m + 1, by omega, rfl⟩
        · rintro ⟨j, hj, rfl⟩
          by_cases ej : j = m + 1
          · subst ej; exact .inr rfl
          · exact .inl ⟨j, by omega, rfl⟩
theorem map_mkP_ptOf (l : List S31) : (l.map ptOf).map mkP = l := by rw [List.map_map]; exact List.map_id' l
theorem map_ptOf_mkP (l : List (Int × Int)) : (l.map mkP).map ptOf = l := by rw [List.map_map]; exact List.map_id' l
theorem compact_canon {l zs : List S31} (hp : zs.Perm l) (hs : SortedP zs) : compactP zs = (Geo.canon (pts l)).map mkP := by
  have key : (compactP zs).map ptOf = Geo.canon (pts l) := by
    unfold compactP compact
    cases hz : zs with
    | nil =>
      subst hz
      have : l = [] := List.nil_perm.1 hp
      subst this
      rfl
    | cons a r =>
      rw [← hz]
      have hl : zs.length = r.length + 1 := by rw [hz]; rfl
      have hg : ∀ k, k < zs.length → zs.toArray[k]! = zs.getD k z31 := fun k hk => by simp [List.getD_eq_getElem?_getD, hk]
      obtain ⟨l', h1, h2, h3⟩ := compactUpTo_sorted zs.toArray (fun i j hij hj => by rw [hg j (by simpa using hj), hg i (by simp at hj; omega)]; exact hs i j hij (by simpa using hj)) r.length (by simp [hl])
      rw [hl]
      refine Geo.sorted_ext h2 (Geo.canon_sorted _) fun q => ?_
      rw [Geo.mem_canon, List.mem_map]
      constructor
      · rintro ⟨p, hq, rfl⟩
        obtain ⟨j, hj, rfl⟩ := (h3 p).1 hq
        rw [hg j (by omega)]
        refine List.mem_map.2 ⟨_, hp.mem_iff.1 ?_, rfl⟩
        rw [show zs.getD j z31 = zs[j]'(by omega) by simp [List.getD_eq_getElem?_getD, show j < zs.length by omega]]
        exact List.getElem_mem _
      · intro hq
        obtain ⟨p, hpl, rfl⟩ := List.mem_map.1 hq
        obtain ⟨j, hj, e⟩ := List.getElem_of_mem (hp.mem_iff.2 hpl)
        exact ⟨p, (h3 p).2 ⟨j, by omega, by rw [hg j hj]; simp [List.getD_eq_getElem?_getD, hj, e]⟩, rfl⟩
  rw [← key, map_mkP_ptOf]
end Go.Proofs.Ytkbcomgffpbcbaa.Plane
