/- A part of the proof of Hulls: walks of functions, and plain lemmas. No conditions. -/
import Derived.ArgAppend
import Derived.Below
import Derived.BigQuiet
import Derived.Deep.AppendLies
import Derived.Deep.CutBlock
import Derived.Deep.DeepCutAuto
import Derived.Deep.DeepFit
import Derived.Deep.DeepMust
import Derived.Deep.Draws
import Derived.Deep.LoopGhost
import Derived.Deep.OwnRows
import Derived.Deep.QuietTactic
import Derived.Deep.RegionHeld3
import Derived.Ground.SlgnProg
import Derived.Ground.SlsfProg
import Derived.KernelRfl
import Derived.Laws.BitsLemmas
import Derived.Laws.BytesArg
import Derived.Laws.IdiomCopy
import Derived.Laws.MakeOwn
import Derived.Laws.OwnMore
import Derived.Laws.Rows
import Derived.Laws.Slices
import Derived.Laws.StructEq
import Derived.Lib.AppendStr
import Derived.Lib.ConvBytes
import Derived.Lib.Hide
import Derived.Lib.QuietBelowIn
import Derived.LoopIn
import Derived.LoopNIn
import Derived.Maps.AppendAt
import Derived.OrdersHeld
import Derived.Outline
import Derived.OwnWalk
import Derived.OwnWalkIn
import Derived.RangeFuncBound
import Derived.RangeFuncBox
import Derived.RangeFuncCalls
import Derived.RangeFuncLeaves
import Derived.RangeFuncNested
import Derived.RowKit
import Derived.RowKit3
import Derived.Shelf.Abstract
import Derived.Shelf.RegionOpen
import Derived.Shelf.SlGeneric
import Derived.Shelf.SlSortCmp.WholeK
import Derived.Shelf.SlicesQ.Reverse
import Derived.Sort.OwnSorted
import Derived.Tactics
import Derived.TacticsIn
import Derived.TacticsInMore
import Derived.Test.YtkbcomgffpbcbaaProg
import Derived.WalkKit
import Derived.WideLaws
import Derived.Test.YtkbcomgffpbcbaaHulls2
import Derived.Test.YtkbcomgffpbcbaaHulls3
import Derived.Test.YtkbcomgffpbcbaaHulls5
import Derived.Test.YtkbcomgffpbcbaaHulls7
import Derived.Test.YtkbcomgffpbcbaaHulls8
import Derived.Test.YtkbcomgffpbcbaaHulls9
namespace Go.Proofs.Ytkbcomgffpbcbaa.Plane
open Go.RowKit Go.Shelf Go.Sort Go.Proofs.YtkbcomgffpbcbaaW.PrintWords Go.Proofs.YtkbcomgffpbcbaaW.PrintLast Go.Proofs.YtkbcomgffpbcbaaW.PrintMore
set_option linter.unusedVariables false
set_option linter.unusedSimpArgs false
instance : Inhabited S31 := ⟨z31⟩
def encL (x : S31) : List Value := [.int .i64 x.f0, .int .i64 x.f1]
def cmpI (a b : Int) : Int := if a < b then -1 else if b < a then 1 else 0
def cmpP (x y : S31) : Int := if x.f0 = y.f0 then cmpI x.f1 y.f1 else cmpI x.f0 y.f0
theorem cmpI_neg (a b : Int) : cmpI a b < 0 ↔ a < b := by
  unfold cmpI
  by_cases h1 : a < b
  · rw [if_pos h1]; omega
  · rw [if_neg h1]
    by_cases h2 : b < a
    · rw [if_pos h2]; omega
    · rw [if_neg h2]; omega
theorem cmpI_some (a b : Int) : cmp_Compare_int64.f a b = some (cmpI a b) := by
  unfold cmp_Compare_int64.f cmp_isNaN_int64.f cmpI
  simp only [bne_self_eq_false, Option.bind_some, Bool.false_eq_true, if_false]
  by_cases h1 : a < b
  · rw [if_pos h1, if_pos h1]
  · rw [if_neg h1, if_neg h1]
    by_cases h2 : a > b
    · rw [if_pos h2, if_pos h2]
    · rw [if_neg h2, if_neg h2]
set_option maxRecDepth 100000 in
set_option maxHeartbeats 1000000 in
theorem compare_grow (x y : S31) (W : World) : Calls Try.prog 122 #[.agg #[.int .i64 x.f0, .int .i64 x.f1], .agg #[.int .i64 y.f0, .int .i64 y.f1]] W fun e w' => e = .returned (.int .i64 (cmpP x y)) ∧ ∃ q os', w' = grow (W.drewN q) os' := by
  have hu31 := Try.underlying31
  have hc : ∀ (a b : Int) (w : World), Calls Try.prog 156 #[.int .i64 a, .int .i64 b] w fun e w' => e = .returned (.int .i64 (cmpI a b)) ∧ Drawn0 w w' := fun a b w => cmp_Compare_int64.calls a b _ w (cmpI_some a b)
  have fin : ∀ (k : Nat), ∃ q os', ((W.alloc (.cells #[.int .i64 x.f0, .int .i64 x.f1] 31)).alloc (.cells #[.int .i64 y.f0, .int .i64 y.f1] 31)).drewN k = grow (W.drewN q) os' := fun k => ⟨k, _, by rw [alloc_eq_grow, alloc_eq_grow, grow_grow]; rfl⟩
  unfold cmpP
  by_cases hx : x.f0 = y.f0
  · have hx1 : (x.f0 != y.f0) = false := by rw [hx]; exact bne_self_eq_false _
    rw [if_pos hx]
    have Hx := Lib.hid hx
    clear hx
    go_enter Try.func122, Try.ntmps122
    go_wp2_with (go_at_call 156; refine (hc _ _ _).mono ?_; rintro e w' ⟨rfl, ⟨k, rfl⟩⟩)
    go_ret
    exact ⟨rfl, fin k⟩
  · have hx1 : (x.f0 != y.f0) = true := bne_iff_ne.2 hx
    rw [if_neg hx]
    have Hx := Lib.hid hx
    clear hx
    go_enter Try.func122, Try.ntmps122
    go_wp2_with (go_at_call 156; refine (hc _ _ _).mono ?_; rintro e w' ⟨rfl, ⟨k, rfl⟩⟩)
    go_ret
    exact ⟨rfl, fin k⟩
theorem cmpLaysP (blk off size : Nat) (w : World) : CmpLays Try.prog 122 #[] encL 2 cmpP blk off size w := fun _ _ _ _ x y => compare_grow x y _
theorem ltP (x y : S31) : ltOf cmpP x y = decide (Geo.lex (x.f0, x.f1) (y.f0, y.f1)) := by
  have h : cmpP x y < 0 ↔ Geo.lex (x.f0, x.f1) (y.f0, y.f1) := by
    unfold cmpP Geo.lex
    by_cases h : x.f0 = y.f0
    · rw [if_pos h, cmpI_neg]; dsimp only; omega
    · rw [if_neg h, cmpI_neg]; dsimp only; omega
  unfold ltOf
  rw [Bool.eq_iff_iff, decide_eq_true_iff, decide_eq_true_iff]
  exact h
theorem swoP : SWO (ltOf cmpP) where
  irrefl x := by rw [ltP]; exact decide_eq_false (Geo.lex_irrefl _)
  trans x y z h1 h2 := by
    rw [ltP] at *
    exact decide_eq_true (Geo.lex_trans (of_decide_eq_true h1) (of_decide_eq_true h2))
  ntrans x y z h1 h2 := by
    rw [ltP] at *
    have h1 := of_decide_eq_false h1
    have h2 := of_decide_eq_false h2
    refine decide_eq_false ?_
    unfold Geo.lex at *
    simp only at *
    omega
theorem flatK_toList (d : Array S31) : (flatK encL 2 d).toList = flat d.toList := by
  apply List.ext_getElem?
  intro t
  by_cases ht : t < d.size * 2
  · have hj : t / 2 < d.size := by omega
    have ha := flat_at d.toList (t / 2) (by simpa using hj)
    have hd : d.toList.getD (t / 2) z31 = d[t / 2]! := by
      simp [List.getD_eq_getElem?_getD, hj]
    rw [hd] at ha
    have e1 : (flatK encL 2 d).toList[t]? = some ((encL d[t / 2]!)[t % 2]!) := by
      rw [Array.getElem?_toList, Array.getElem?_eq_getElem (by simpa using ht)]
      have := get_flatK encL 2 d t ht
      rw [getElem!_pos _ t (by simpa using ht)] at this
      rw [this]
    rw [e1]
    rcases Nat.mod_two_eq_zero_or_one t with h2 | h2
    · have e : t = t / 2 * 2 := by omega
      rw [h2]; conv => rhs; rw [e]
      rw [ha.1]; rfl
    · have e : t = t / 2 * 2 + 1 := by omega
      rw [h2]; conv => rhs; rw [e]
      rw [ha.2]; rfl
  · rw [List.getElem?_eq_none (by simp; omega), List.getElem?_eq_none (by rw [flat_length]; simp; omega)]
theorem heap_sortedP {w : World} {g n : Nat} {os : Array Obj} {cur : Array Value} {e : TypeId} {fr : Nat × Nat} (d : Array S31) (hb : w.heap[g]? = some (.cells cur e fr)) :
    (sortWorldK encL 2 w g 0 n d os).heap[g]? = some (.cells (putCells id 0 (flatK encL 2 d) cur) e fr) := by
  have hg : g < w.heap.size := (Array.getElem?_eq_some_iff.1 hb).1
  unfold sortWorldK putRowK
  rw [heap_grow_old _ _ (by simpa using hg)]
  simp [putRow, mapBlock, Sort.ahead, Array.getElem?_modify, hb, onCells]
theorem grownBy_sortedP {w : World} {g n : Nat} {os : Array Obj} (d : Array S31) : w.grownBy (sortWorldK encL 2 w g 0 n d os) (some g) := by
  unfold sortWorldK putRowK
  refine ⟨rfl, rfl, rfl, by simp, fun k hk hne => ?_⟩
  rw [heap_grow_old _ _ (by simpa using hk)]
  have : g ≠ k := fun e => hne (by rw [e])
  simp [putRow, mapBlock, Sort.ahead, Array.getElem?_modify, this]
theorem take_putCellsP (cur F : Array Value) (h : F.size ≤ cur.size) : (putCells id 0 F cur).toList.take F.size = F.toList := by
  apply List.ext_getElem?
  intro j
  by_cases hj : j < F.size
  · rw [List.getElem?_take_of_lt hj, Array.getElem?_toList]
    simp [putCells, hj, show j < cur.size by omega]
  · rw [List.getElem?_take_eq_none (by omega), List.getElem?_eq_none (by simp; omega)]
theorem OwnP.sorted {w : World} {base g n cap : Nat} {os : Array Obj} {zs : List S31} {d : Array S31} (h : OwnP w base (.slice (some ⟨g, 0, none⟩) zs.length cap) zs) (hd : d.size = zs.length) :
    OwnP (sortWorldK encL 2 w g 0 n d os) base (.slice (some ⟨g, 0, none⟩) zs.length cap) d.toList := by
  obtain ⟨h1, ⟨h2, _⟩ | ⟨g', cap', cur, e, hb, hh, hc, hm, hs, ht⟩⟩ := h
  · simp at h2
  · injection e with e1 e2 e3
    injection e1 with e1
    injection e1 with e1
    subst e1
    subst e3
    have hsz : (flatK encL 2 d).size = zs.length * 2 := by rw [size_flatK, hd]
    have hdl : d.toList.length = zs.length := by simp [hd]
    refine ⟨by rw [flat_length], .inr ⟨g, cap, _, ?_, hb, heap_sortedP d hh, by omega, hm, by simp [putCells, hs], ?_⟩⟩
    · rw [hdl]
    · rw [hdl, ← hsz, take_putCellsP _ _ (by rw [hsz, hs]; omega), flatK_toList]
theorem OwnP.holds {w : World} {base g n cap : Nat} {zs : List S31} (h : OwnP w base (.slice (some ⟨g, 0, none⟩) n cap) zs) : HoldsK encL 2 w g 0 zs.toArray := by
  obtain ⟨h1, ⟨h2, _⟩ | ⟨g', cap', cur, e, hb, hh, hc, hm, hs, ht⟩⟩ := h
  · simp at h2
  · injection e with e1 e2 e3
    injection e1 with e1
    injection e1 with e1
    subst e1
    intro j hj
    refine ⟨?_, by simp [World.frozen?, hh]⟩
    have hj' : j < zs.length * 2 := by simpa using hj
    have hF : (flatK encL 2 zs.toArray).toList = flat zs := flatK_toList zs.toArray
    have h3 : (cur.toList.take (zs.length * 2))[j]? = (flat zs)[j]? := by rw [ht]
    rw [List.getElem?_take_of_lt hj'] at h3
    simp only [World.cell?, hh, Nat.zero_add]
    simp only [Option.isSome_none, Bool.false_eq_true, if_false]
    rw [← Array.getElem?_toList, h3, ← hF, Array.getElem?_toList, Array.getElem?_eq_getElem hj, getElem!_pos _ j hj]
    rfl
theorem sort_calls (base g cap : Nat) (zs : List S31) (w : World) (h : OwnP w base (.slice (some ⟨g, 0, none⟩) zs.length cap) zs) (hsz : zs.length ≤ 65536) :
    Calls Try.prog 121 #[.slice (some ⟨g, 0, none⟩) zs.length cap, .func (.func 122) #[] #[]] w fun e w' => e = .returned (.tuple #[]) ∧ ∃ zs', zs'.Perm zs ∧ (∀ i j, i < j → j < zs'.length → ¬ Geo.lex ((zs'.getD j z31).f0, (zs'.getD j z31).f1) ((zs'.getD i z31).f0, (zs'.getD i z31).f1)) ∧ OwnP w' base (.slice (some ⟨g, 0, none⟩) zs.length cap) zs' ∧ w.grownBy w' (some g) := by
  have eg : ∀ args w, (callFunc 122 args).run Try.prog w = .ok (.enter 122 args) w := enters_of Try.func122 (by kernel_rfl) rfl
  have hg : g < w.heap.size := by
    rcases h.2 with ⟨e, _⟩ | ⟨g', cap', cur, e, hb, hh, _⟩
    · simp at e
    · injection e with e1
      injection e1 with e1
      injection e1 with e1
      subst e1
      exact (Array.getElem?_eq_some_iff.1 hh).1
  have hcon := AnyQ.slices_SortFunc Try.sortP 2 Try.isAgg31 Try.sizeOf31 encL (fun _ => rfl) (fun x v hv => by simp [encL] at hv; rcases hv with rfl | rfl <;> rfl) cmpP swoP 122 #[] g 0 cap zs.toArray w eg (cmpLaysP g 0 _ w) h.holds hg (by simp; omega)
  refine Calls.mono (show Calls Try.prog 121 #[.slice (some ⟨g, 0, none⟩) zs.length cap, .func (.func 122) #[] #[]] w _ from hcon) ?_
  rintro e w' ⟨rfl, d', n, os, hp, hs, rfl⟩
  obtain ⟨hp1, hp2, hp3⟩ := hp
  have hsz' : d'.size = zs.length := by rw [hp1]; simp
  refine ⟨rfl, d'.toList, ?_, ?_, h.sorted hsz', grownBy_sortedP _⟩
  · have e1 : (d'.extract 0 zs.toArray.size).toList = d'.toList := by
      have : zs.toArray.size = d'.size := by rw [hp1]
      rw [this, Array.extract_size]
    have e2 : (zs.toArray.extract 0 zs.toArray.size).toList = zs := by rw [Array.extract_size]
    rw [e1, e2] at hp3
    exact hp3
  · intro i j hij hj
    have hj' : j < d'.size := by simpa using hj
    have := hs i j (Nat.zero_le _) hij (by rw [← hp1]; exact hj')
    rw [ltP] at this
    have := of_decide_eq_false this
    have e : ∀ k, k < d'.size → d'.toList.getD k z31 = d'[k]! := fun k hk => by simp [List.getD_eq_getElem?_getD, hk]
    rw [e j hj', e i (by omega)]
    exact this
end Go.Proofs.Ytkbcomgffpbcbaa.Plane
