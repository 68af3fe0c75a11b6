/- A part of the proof of Hulls: walks of functions, and plain lemmas. No conditions. -/
import Derived.ArgAppend
import Derived.Below
import Derived.BigQuiet
import Derived.Deep.AppendLies
import Derived.Deep.CutBlock
import Derived.Deep.DeepCutAuto
import Derived.Deep.DeepFit
import Derived.Deep.DeepMust
import Derived.Deep.Draws
import Derived.Deep.LoopGhost
import Derived.Deep.OwnRows
import Derived.Deep.QuietTactic
import Derived.Deep.RegionHeld3
import Derived.Ground.SlgnProg
import Derived.Ground.SlsfProg
import Derived.KernelRfl
import Derived.Laws.BitsLemmas
import Derived.Laws.BytesArg
import Derived.Laws.IdiomCopy
import Derived.Laws.MakeOwn
import Derived.Laws.OwnMore
import Derived.Laws.Rows
import Derived.Laws.Slices
import Derived.Laws.StructEq
import Derived.Lib.AppendStr
import Derived.Lib.ConvBytes
import Derived.Lib.Hide
import Derived.Lib.QuietBelowIn
import Derived.Lib.SliceRun
import Derived.Lib.SlicesCompact
import Derived.LoopIn
import Derived.LoopNIn
import Derived.Maps.AppendAt
import Derived.OrdersHeld
import Derived.Outline
import Derived.OwnWalk
import Derived.OwnWalkIn
import Derived.RangeFuncBound
import Derived.RangeFuncBox
import Derived.RangeFuncCalls
import Derived.RangeFuncLeaves
import Derived.RangeFuncNested
import Derived.RowKit
import Derived.RowKit3
import Derived.Shelf.Abstract
import Derived.Shelf.RegionOpen
import Derived.Shelf.SlGeneric
import Derived.Shelf.SlSortCmp.WholeK
import Derived.Shelf.Slices.CompactI
import Derived.Shelf.SlicesQ.Reverse
import Derived.Sort.LoopGhostIn
import Derived.Sort.OwnSorted
import Derived.StillTailTactics
import Derived.Tactics
import Derived.TacticsIn
import Derived.TacticsInMore
import Derived.Test.YtkbcomgffpbcbaaProg
import Derived.WalkKit
import Derived.WalkSmall
import Derived.WalkSpells
import Derived.WideLaws
import Derived.Test.YtkbcomgffpbcbaaHulls2
import Derived.Test.YtkbcomgffpbcbaaHulls3
import Derived.Test.YtkbcomgffpbcbaaHulls4
import Derived.Test.YtkbcomgffpbcbaaHulls5
import Derived.Test.YtkbcomgffpbcbaaHulls7
import Derived.Test.YtkbcomgffpbcbaaHulls8
import Derived.Test.YtkbcomgffpbcbaaHulls10
import Derived.Test.YtkbcomgffpbcbaaHulls11
import Derived.Test.YtkbcomgffpbcbaaHulls13
import Derived.Test.YtkbcomgffpbcbaaHulls14
import Derived.Test.YtkbcomgffpbcbaaHulls15
namespace Go.Proofs.Ytkbcomgffpbcbaa.Plane
open Go.RowKit Go.Shelf Go.Sort Go.Lib Go.Proofs.YtkbcomgffpbcbaaW.PrintWords Go.Proofs.YtkbcomgffpbcbaaW.PrintLast Go.Proofs.YtkbcomgffpbcbaaW.PrintMore
set_option linter.unusedVariables false
set_option linter.unusedSimpArgs false
theorem OwnP.base {W : World} {base m : Nat} {v : Value} {zs : List S31} (h : OwnP W base v zs) (hm : m ≤ base) : OwnP W m v zs := by
  refine ⟨h.1, ?_⟩
  rcases h.2 with h2 | ⟨g, cap, cur, e, hb', r⟩
  · exact .inl h2
  · exact .inr ⟨g, cap, cur, e, by omega, r⟩
theorem liftNP (zs : List S31) (hn : ∀ p ∈ zs, near p) : ∃ ns : List NP, ns.map (·.1) = zs := by
  induction zs with
  | nil => exact ⟨[], rfl⟩
  | cons a r ih =>
    obtain ⟨ns, e⟩ := ih (fun p hp => hn p (List.mem_cons_of_mem _ hp))
    exact ⟨⟨a, hn a (by simp)⟩ :: ns, by rw [List.map_cons, e]⟩
theorem stackO (base : Nat) (v : Value) (zs : List S31) (w : World) (h : OwnP w base v zs) (hn : ∀ p ∈ zs, near p) (h0 : 0 < zs.length) (hsz : zs.length ≤ 65536) (Bs : Nat) (hBs : Bs < w.heap.size) (hc : w.cell? ⟨Bs, 0, none⟩ = some v) :
    Calls Try.prog 125 #[.func (.func 157) #[] #[.pointer (some ⟨Bs, 0, none⟩)], .func (.func 124) #[] #[]] w fun e W' => ∃ v', e = .returned v' ∧ OwnP W' w.heap.size v' (stk zs) ∧ Below w.heap.size w W' := by
  obtain ⟨g, cap, rfl, hg, hg2, _⟩ := h.slice h0
  obtain ⟨ns, hns⟩ := liftNP zs hn
  have hl : ns.length = zs.length := by rw [← hns, List.length_map]
  have := stack_in Fence.wide 3 (fun _ => trivial) rfl rfl (fun m f args w R hh => callsIn_wide.2 hh) (by omega) Bs g cap ns (by omega) w hBs hg2 (by rw [hl]; exact hc) (by rw [hns]; intro j hj; simpa using h.cell hj)
  rw [hns] at this
  exact callsIn_wide.1 this
theorem valuesO (v : Value) (n : Nat) (a : Option Addr) (cap : Nat) (hv : v = .slice a n cap) (w : World) :
    Calls Try.prog 126 #[v] w fun e w' => e = .returned (.func (.func 157) #[] #[.pointer (some ⟨w.heap.size, 0, none⟩)]) ∧ w' = w.alloc (.cells #[v] 23) := by
  subst hv
  exact callsIn_wide.1 (values_in Fence.wide 3 trivial rfl a n cap w)
theorem near26_mem {l : List S31} (h : near26 l = true) : ∀ p ∈ l, near p := fun p hp => by
  have := List.all_eq_true.1 h p hp
  simp only [Bool.and_eq_true, decide_eq_true_eq] at this
  unfold near
  omega
theorem stk_low (s : List (Int × Int)) : stk (s.map mkP) = (Geo.low s).map mkP := by
  unfold stk Geo.low
  rw [map_ptOf_mkP, List.map_reverse]
theorem stk_high (s : List (Int × Int)) : stk (s.map mkP).reverse = (Geo.high s).map mkP := by
  rw [← List.map_reverse, stk_low]
  rfl
theorem chainR_ne (s : List (Int × Int)) (h : 0 < s.length) : 0 < (Geo.chainR s).length := by
  rcases List.eq_nil_or_concat s with rfl | ⟨r, x, rfl⟩
  · simp at h
  · rw [List.concat_eq_append, chainR_snoc]; simp
theorem low_pos (s : List (Int × Int)) (h : 0 < s.length) : 0 < (Geo.low s).length := by
  unfold Geo.low; rw [List.length_reverse]; exact chainR_ne s h
theorem high_pos (s : List (Int × Int)) (h : 0 < s.length) : 0 < (Geo.high s).length := by
  unfold Geo.high; rw [List.length_reverse]; exact chainR_ne _ (by simpa using h)
theorem low_le (s : List (Int × Int)) : (Geo.low s).length ≤ s.length := by
  unfold Geo.low; rw [List.length_reverse]; exact chainR_length s
theorem high_le (s : List (Int × Int)) : (Geo.high s).length ≤ s.length := by
  unfold Geo.high; rw [List.length_reverse]; exact Nat.le_trans (chainR_length _) (by simp)
theorem OwnP.other {W W' : World} {base g : Nat} {v : Value} {zs : List S31} (h : OwnP W base v zs) (hg : W.grownBy W' (some g)) (hb : g < base) : OwnP W' base v zs := by
  refine World.ownsRow.kept h hg ?_
  rcases h.2 with ⟨rfl, _⟩ | ⟨g', cap, cur, rfl, hb', _⟩
  · exact .inl rfl
  · exact .inr (fun e => by simp [Value.ownBlock] at e; omega)
theorem OwnP.form {W : World} {base : Nat} {v : Value} {zs : List S31} (h : OwnP W base v zs) : ∃ a c, v = .slice a zs.length c := by
  rcases h.2 with ⟨rfl, h0⟩ | ⟨g, cap, cur, rfl, _⟩
  · exact ⟨none, 0, by rw [h0]⟩
  · exact ⟨_, cap, rfl⟩
theorem OwnP.reads {W : World} {base g n cap : Nat} {zs : List S31} (h : OwnP W base (.slice (some ⟨g, 0, none⟩) n cap) zs) (hn : zs.length ≤ 9223372036854775807) : ReadsRow (fun x cs => cs = encL x) 2 W (some ⟨g, 0, none⟩) zs.length zs := by
  refine ⟨rfl, hn, fun _ => ⟨_, rfl, fun j p hj => ⟨encL p, rfl, rfl, fun i u hi => ?_⟩⟩⟩
  obtain ⟨hl, e⟩ := List.getElem?_eq_some_iff.1 hj
  have hc := h.cell hl
  have hd : zs.getD j z31 = p := by simp [List.getD_eq_getElem?_getD, hj]
  rw [hd] at hc
  rw [add_plain]
  match i with
  | 0 => simp [encL] at hi; rw [← hi]; exact hc.1
  | 1 => simp [encL] at hi; rw [← hi]; exact hc.2
  | i + 2 => simp [encL] at hi
set_option maxRecDepth 100000 in
set_option maxHeartbeats 2000000 in
theorem corners_calls (A0 : Option Addr) (c0 : Nat) (l0 : List S31) (r : List S31) (w : World) (hr0 : Kd.C k31 w A0 l0.length l0) (hc0 : l0.length ≤ c0) (h : plane_corners.f l0 = some r) :
    Calls Try.prog 59 #[.slice A0 l0.length c0] w fun e w' => ∃ v0_ : Value, e = .returned (v0_) ∧ Kd.R k31 31 w' w.heap.size (fun _ => True) v0_ r ∧ Below w.heap.size w w' := by
  unfold plane_corners.f at h
  split at h
  case isFalse => cases h
  case isTrue hh =>
  obtain ⟨hn26, hlen⟩ := hh
  injection h with hr
  subst hr
  have hk1 := clone_calls A0 c0 l0 w hr0 hc0 hlen
  have Hn := Lib.hid (near26_mem hn26)
  have hs0 := fun v zs w1 hw1 hsz => sortO w.heap.size v zs w1 hw1 hsz
  have hs1 := fun v zs w1 hw1 hsz => compactO w.heap.size v zs w1 hw1 hsz
  have Hsort := Lib.hid hs0
  have Hcomp := Lib.hid hs1
  have Hl := Lib.hid hlen
  clear hs0 hs1 hr0 hn26
  go_enter Try.func59, Try.ntmps59
  go_wp2_with (first | (go_at_call 120; refine hk1.mono ?_; rintro e w1 ⟨v, rfl, ho, hb⟩) | (go_at_call 121; refine (Hsort.out _ l0 _ ho hlen).mono ?_; rintro e w2 ⟨rfl, zs, hp, hs, ho2, hb2⟩))
  have hk3 := Hcomp.out _ zs _ ho2 (by rw [hp.length_eq]; exact hlen)
  obtain ⟨s, Hs⟩ : ∃ s, Hid (Geo.canon (pts l0) = s) := ⟨_, Lib.hid rfl⟩
  rw [compact_canon hp hs, Hs.out] at hk3
  have hmem : ∀ p ∈ s.map mkP, near p := fun p hp => by
    obtain ⟨q, hq, rfl⟩ := List.mem_map.1 hp
    rw [← Hs.out, Geo.mem_canon] at hq
    obtain ⟨p', hp', rfl⟩ := List.mem_map.1 hq
    exact Hn.out _ hp'
  have hsl : s.length ≤ 65536 := by
    have e1 := compactUpTo_length_le zs.toArray zs.length
    have e2 : (compactP zs).length = s.length := by rw [compact_canon hp hs, Hs.out, List.length_map]
    have e3 : (compactP zs).length ≤ zs.length := e1
    have := hp.length_eq
    omega
  have Hmem := Lib.hid hmem
  have Hsl := Lib.hid hsl
  have hB2 : RowKit.Below w.heap.size w w2 := hb.trans (hb2 _ (Nat.le_refl _) hb.size)
  clear hmem hsl hk1 hp hs ho ho2 hb hb2 Hsort Hcomp
  by_cases h2 : s.length < 2
  · go_wp2_with (go_at_call 123; refine hk3.mono ?_; rintro e w3 ⟨v3, rfl, ho3, hb3⟩; (obtain ⟨a3, c3, rfl⟩ := ho3.form); rw [List.length_map] at ho3 ⊢)
    go_ret
    refine ⟨_, rfl, ?_, hB2.trans (hb3 _ (Nat.le_refl _) hB2.size)⟩
    have e : Geo.hull (pts l0) = s := by unfold Geo.hull; rw [Hs.out]; unfold Geo.hullS; rw [if_pos h2]
    rw [e]
    exact OwnP.toR ho3 (fun _ _ => trivial)
  · have hl2 : (s.map mkP).length = s.length := List.length_map _
    obtain ⟨m, Hm⟩ : ∃ m, Hid (s.length = m) := ⟨_, Lib.hid rfl⟩
    have hm2 : ¬ m < 2 := by rw [← Hm.out]; exact h2
    have hm3 : m ≤ 65536 := by rw [← Hm.out]; exact Hsl.out
    go_wp2_with (first | (go_at_call 123; refine hk3.mono ?_; rintro e w3 ⟨v3, rfl, ho3, hb3⟩; (obtain ⟨g, cap, rfl, hg1, hg2, hg3, hg4, cur, hg5⟩ := ho3.slice (by rw [List.length_map]; omega)); rw [List.length_map, Hm.out] at ho3 ⊢) | (go_at_call 126; refine (valuesO _ _ _ _ rfl _).mono ?_; rintro e w4 ⟨rfl, rfl⟩))
    have hB3 := hB2.trans (hb3 _ (Nat.le_refl _) hB2.size)
    have hs3 := hB3.size
    have ho4 := ho3.below (W' := w3.alloc (Obj.cells #[Value.slice (some { block := g, off := 0 }) m cap] 23)) (below_alloc (RowKit.Below.refl _ _) _)
    have hst := stackO w.heap.size _ (s.map mkP) _ ho4 Hmem.out (by rw [List.length_map, Hm.out]; omega) (by rw [List.length_map, Hm.out]; exact hm3) w3.heap.size (by simp) (Boxed.new w3 23 _).cell
    go_wp2_with (first | (go_at_call 125; refine hst.mono ?_; rintro e w4 ⟨low, rfl, hlow, hblow⟩))
    rw [stk_low] at hlow
    have hsz4 := hblow.size
    have ho5 := ho4.below hblow
    have hrv := reverseO w.heap.size _ (s.map mkP) w4 ho5 (by rw [List.length_map, Hm.out]; exact hm3)
    clear hst ho4
    go_wp2_with (first | (go_at_call 127; refine hrv.mono ?_; rintro e w5 ⟨rfl, ho6, hb6, hg6⟩) | (go_at_call 126; refine (valuesO _ _ _ _ rfl _).mono ?_; rintro e w6 ⟨rfl, rfl⟩))
    clear hrv
    have hlow5 := hlow.other hg6 (by simp; omega)
    have hsz5 := hg6.size
    have ho7 := ho6.below (W' := w5.alloc (Obj.cells #[Value.slice (some { block := g, off := 0 }) m cap] 23)) (below_alloc (RowKit.Below.refl _ _) _)
    have hlow6 := hlow5.below (W' := w5.alloc (Obj.cells #[Value.slice (some { block := g, off := 0 }) m cap] 23)) (below_alloc (RowKit.Below.refl _ _) _)
    have hst := stackO w.heap.size _ (s.map mkP).reverse _ ho7 (fun p hp => Hmem.out p (List.mem_reverse.1 hp)) (by rw [List.length_reverse, List.length_map, Hm.out]; omega) (by rw [List.length_reverse, List.length_map, Hm.out]; exact hm3) w5.heap.size (by simp) (Boxed.new w5 23 _).cell
    go_wp2_with (first | (go_at_call 125; refine hst.mono ?_; rintro e w7 ⟨high, rfl, hhigh, hbhigh⟩))
    rw [stk_high] at hhigh
    have hlow7 := hlow6.below hbhigh
    have hB5 : RowKit.Below w.heap.size w w5 := (((hB3.alloc hs3 _).trans (hblow.mono (by simp; omega))).trans (hb6 _ (Nat.le_refl _) (by simp at hsz4; omega)))
    have hB7 : RowKit.Below w.heap.size w w7 := (hB5.alloc hB5.size _).trans (hbhigh.mono (by simp; exact Nat.le_succ_of_le hB5.size))
    clear hst ho3 ho5 ho6 ho7 hb6 hg6 hlow hlow5 hlow6 hblow hbhigh hk3
    have hs0 : 0 < s.length := by rw [Hm.out]; omega
    have hlp := low_pos s hs0
    have hhp := high_pos s hs0
    have hll := low_le s
    have hhl := high_le s
    obtain ⟨kl, Hkl⟩ : ∃ kl, Hid ((Geo.low s).length = kl + 1) := ⟨(Geo.low s).length - 1, Lib.hid (by omega)⟩
    obtain ⟨kh, Hkh⟩ : ∃ kh, Hid ((Geo.high s).length = kh + 1) := ⟨(Geo.high s).length - 1, Lib.hid (by omega)⟩
    have hkl : kl + 1 ≤ 65536 := by rw [← Hkl.out]; have := Hm.out; omega
    have hkh : kh + 1 ≤ 65536 := by rw [← Hkh.out]; have := Hm.out; omega
    obtain ⟨gl, cl, rfl, hl1, hl2', hl3, hl4, curl, hl5⟩ := hlow7.slice (by rw [List.length_map]; exact hlp)
    obtain ⟨gh, ch, rfl, hh1, hh2, hh3, hh4, curh, hh5⟩ := hhigh.slice (by rw [List.length_map]; exact hhp)
    have hlt := hlow7.take (m := kl) (by rw [List.length_map, Hkl.out]; omega)
    have hht := hhigh.take (m := kh) (by rw [List.length_map, Hkh.out]; omega)
    rw [List.length_map, Hkl.out] at hl3 ⊢
    rw [List.length_map, Hkh.out] at hh3 ⊢
    have e1 : ((Geo.low s).map mkP).take kl = (Geo.low s).dropLast.map mkP := by
      rw [List.dropLast_eq_take, Hkl.out, ← List.map_take]; rfl
    have e2 : ((Geo.high s).map mkP).take kh = (Geo.high s).dropLast.map mkP := by
      rw [List.dropLast_eq_take, Hkh.out, ← List.map_take]; rfl
    have hres : (Geo.hull (pts l0)).map mkP = ((Geo.low s).map mkP).take kl ++ ((Geo.high s).map mkP).take kh := by
      rw [e1, e2, ← List.map_append]
      unfold Geo.hull
      rw [Hs.out]
      unfold Geo.hullS
      rw [if_neg h2]
    have Hres := Lib.hid hres
    have hcl : kl ≤ cl := Nat.le_of_succ_le hl3
    have hch : kh ≤ ch := Nat.le_of_succ_le hh3
    have hl4' : cl ≤ 9223372036854775807 := by unfold maxLen at hl4; omega
    have hh4' : ch ≤ 9223372036854775807 := by unfold maxLen at hh4; omega
    have hwl : IntKind.i64.wrap (kl : Int) = kl := by simp [IntKind.wrap, IntKind.bits, IntKind.signed]; omega
    have hwh : IntKind.i64.wrap (kh : Int) = kh := by simp [IntKind.wrap, IntKind.bits, IntKind.signed]; omega
    clear hres e1 e2 hlow7 hhigh hlp hhp hll hhl
    go_still_tail 10, (by kernel_rfl)
    change wpList _ _ _ _ _ w7.drew
    have hbd : RowKit.Below w7.heap.size w7 w7.drew := below_drew (RowKit.Below.refl _ _)
    generalize w7.drew = w8 at *
    have hlt8 := hlt.below hbd
    have hht8 := hht.below hbd
    have HO := Lib.hid ((hlt8.base (m := w.heap.size) (by simp; omega)).toR (ok := fun _ => True) (fun _ _ => trivial))
    have hR0 := hht8.reads (by rw [List.length_take]; omega)
    have ekh : (((Geo.high s).map mkP).take kh).length = kh := by rw [List.length_take, List.length_map, Hkh.out]; omega
    have ekl : (((Geo.low s).map mkP).take kl).length = kl := by rw [List.length_take, List.length_map, Hkl.out]; omega
    rw [ekh] at hR0
    have HR := Lib.hid hR0
    have Hlen := Lib.hid ekl
    clear hR0 ekh ekl hlt hht hlt8 hht8
    have hB8 := hB7.trans (hbd.mono (hB7.size))
    go_wp2_with (at_builtin; go_must (refine Kd.R_append_rows k31 (Rr := fun x cs => cs = encL x) (w0 := w) w.heap.size rfl (.tmp 31) (.tmp 36) 23 31 (.agg #[(.int .i64 0), (.int .i64 0)]) 16 rfl Try.underlying23 info31 rfl (by decide) (by omega) _ _ _ _ _ _ (fun _ => True) (fun _ => False) rfl rfl HO.out HR.out (fun x cs h => by rw [h]; exact k31_mkM _ _ _ _) (fun _ h => h.elim) (fun _ _ => trivial) hB8 (hB8.size) (by rw [Hlen.out]; omega) ?_); intro v1 w9 hR1 hB1 hg1 hat1)
    go_ret
    exact ⟨v1, rfl, by rw [Hres.out]; exact hR1, hB1⟩
end Go.Proofs.Ytkbcomgffpbcbaa.Plane
