/- A part of the proof of Hulls: walks of functions, and plain lemmas. No conditions. -/
import Derived.ArgAppend
import Derived.Below
import Derived.BigQuiet
import Derived.Deep.AppendLies
import Derived.Deep.CutBlock
import Derived.Deep.DeepCutAuto
import Derived.Deep.DeepFit
import Derived.Deep.DeepMust
import Derived.Deep.Draws
import Derived.Deep.LoopGhost
import Derived.Deep.OwnRows
import Derived.Deep.QuietTactic
import Derived.Deep.RegionHeld3
import Derived.Ground.SlgnProg
import Derived.Ground.SlsfProg
import Derived.KernelRfl
import Derived.Laws.BitsLemmas
import Derived.Laws.BytesArg
import Derived.Laws.IdiomCopy
import Derived.Laws.MakeOwn
import Derived.Laws.OwnMore
import Derived.Laws.Rows
import Derived.Laws.Slices
import Derived.Laws.StructEq
import Derived.Lib.AppendStr
import Derived.Lib.ConvBytes
import Derived.Lib.Hide
import Derived.Lib.QuietBelow
import Derived.Lib.QuietBelowIn
import Derived.Lib.SliceRun
import Derived.Lib.SlicesCompact
import Derived.LoopIn
import Derived.LoopNIn
import Derived.Maps.AppendAt
import Derived.OrdersHeld
import Derived.Outline
import Derived.OwnWalk
import Derived.OwnWalkIn
import Derived.RangeFuncBound
import Derived.RangeFuncBox
import Derived.RangeFuncCalls
import Derived.RangeFuncLeaves
import Derived.RangeFuncNested
import Derived.RowKit
import Derived.RowKit3
import Derived.Shelf.Abstract
import Derived.Shelf.RegionOpen
import Derived.Shelf.SlGeneric
import Derived.Shelf.SlSortCmp.WholeK
import Derived.Shelf.Slices.CompactI
import Derived.Shelf.SlicesQ.Reverse
import Derived.Sort.LoopGhostIn
import Derived.Sort.OwnSorted
import Derived.StillTail
import Derived.StillTailTactics
import Derived.Tactics
import Derived.TacticsIn
import Derived.TacticsInMore
import Derived.Test.YtkbcomgffpbcbaaProg
import Derived.WalkKit
import Derived.WalkSmall
import Derived.WalkSpells
import Derived.WideLaws
import Derived.Test.YtkbcomgffpbcbaaHulls1
import Derived.Test.YtkbcomgffpbcbaaHulls2
import Derived.Test.YtkbcomgffpbcbaaHulls3
import Derived.Test.YtkbcomgffpbcbaaHulls4
import Derived.Test.YtkbcomgffpbcbaaHulls5
import Derived.Test.YtkbcomgffpbcbaaHulls7
import Derived.Test.YtkbcomgffpbcbaaHulls8
import Derived.Test.YtkbcomgffpbcbaaHulls13
import Derived.Test.YtkbcomgffpbcbaaHulls14
import Derived.Test.YtkbcomgffpbcbaaHulls16
import Derived.Test.YtkbcomgffpbcbaaHulls17
import Derived.Test.YtkbcomgffpbcbaaHulls18
import Derived.Test.YtkbcomgffpbcbaaHulls19
import Derived.Test.YtkbcomgffpbcbaaHulls20
import Derived.Test.YtkbcomgffpbcbaaHulls21
import Derived.Test.YtkbcomgffpbcbaaHulls22
import Derived.Test.YtkbcomgffpbcbaaHulls23
import Derived.Test.YtkbcomgffpbcbaaHulls24
import Derived.Test.YtkbcomgffpbcbaaHulls26
namespace Go.Proofs.Ytkbcomgffpbcbaa.Plane
open Go.RowKit Go.Shelf Go.Sort Go.Proofs.YtkbcomgffpbcbaaW.PrintWords Go.Proofs.YtkbcomgffpbcbaaW.PrintLast Go.Proofs.YtkbcomgffpbcbaaW.PrintMore Go.Proofs.Ytkbcomgffpbcbaa.Round
set_option linter.unusedVariables false
set_option linter.unusedSimpArgs false
section
attribute [local go_sem] Oper.semAt_some
def crossW (o a b : S31) : Int := wrap64 ((wrap64 ((wrap64 (a.f0 - o.f0)) * (wrap64 (b.f1 - o.f1)))) - (wrap64 ((wrap64 (a.f1 - o.f1)) * (wrap64 (b.f0 - o.f0)))))
def sumP (o : S31) (l : List (S31 × S31)) : Int := l.foldl (fun s x => wrap64 (s + crossW o x.1 x.2)) 0
theorem sumP_snoc (o : S31) (l : List (S31 × S31)) (x : S31 × S31) : sumP o (l ++ [x]) = wrap64 (sumP o l + crossW o x.1 x.2) := by
  unfold sumP
  rw [List.foldl_append]
  rfl
theorem area_sum (o : S31) : ∀ (l : List (S31 × S31)) (s : Int), plane_Area.sum o l s = some (l.foldl (fun s x => wrap64 (s + crossW o x.1 x.2)) s)
  | [], s => rfl
  | (a, b) :: r, s => by
    unfold plane_Area.sum
    exact area_sum o r _
theorem blk_ownF {β : Type} (B : Nat) (cs : β → Array Value) (t : TypeId) : Own (fun (s : β) W => W.heap[B]? = some (.cells (cs s) t (0, 0))) := fun s X Y row hs hg hrow => by
  refine (hg.block B (Array.getElem?_eq_some_iff.1 hs).1 fun e' => ?_).trans hs
  obtain ⟨o, ho, hc⟩ := hrow B e'.symm
  rw [show X.heap[B]? = _ from hs] at ho
  cases ho
  cases hc
theorem KeepTwo.setBox {x y Sb : Nat} (hx : x ≠ Sb) (hy : y ≠ Sb) {A : World} (v : Value) : KeepTwo x y A (A.setCell ⟨Sb, 0, none⟩ v) := ⟨by simp [World.setCell], fun k hk _ => Below.heap_setCell A ⟨Sb, 0, none⟩ v k (by rcases hk with rfl | rfl <;> assumption)⟩
theorem row_slices {W : World} {g : Nat} {A : Option Addr} {c : Nat} {l : List S31} (h : W.heap[g]? = some (.cells #[.slice A l.length c] 23)) (hC : Kd.C k31 W A l.length l) (hc : l.length ≤ c) : Kd.C (Kd.slice 31 k31) W (some ⟨g, 0, none⟩) 1 [l] := by
  refine ⟨rfl, by omega, fun _ => ⟨_, rfl, fun j p hj => ?_⟩⟩
  have : j = 0 := by have := (List.getElem?_eq_some_iff.1 hj).1; simpa using this
  subst this
  simp at hj
  subst hj
  refine ⟨[.slice A l.length c], rfl, ⟨A, c, rfl, hc, hC⟩, fun i u hu => ?_⟩
  have hi : i = 0 := by have := (List.getElem?_eq_some_iff.1 hu).1; simpa using this
  subst hi
  simp at hu
  subst hu
  show W.cell? ((⟨g, 0, none⟩ : Addr).add (0 * 1 + 0)) = _
  rw [add_plain]
  simp [World.cell?, h]
set_option maxRecDepth 100000 in
set_option maxHeartbeats 4000000 in
theorem area_in (F : Fence) (n : Nat) (hF : ∀ f, F.fn f) (hro : F.round = none) (hd : F.depth = none) (hw : ∀ (m : Nat) (f : Nat) (args : Array Value) (w : World) (R : Ending → World → Prop), Calls Try.prog f args w R → CallsIn F m Try.prog f args w R) (hn : 3 ≤ n)
    (k : Nat) (A0 : Option Addr) (c0 : Nat) (l0 : List (S31)) (r1 : Int) (r2 : Int) (w : World) (hr0 : Kd.C k31 w A0 l0.length l0) (hc0 : l0.length ≤ c0) (h : plane_Area.f k l0 = some (r1, r2)) :
    CallsIn F n Try.prog 23 #[.slice A0 l0.length c0] w fun e w' => e = .returned (.tuple #[.int .i64 r1, .int .i64 r2]) ∧ Below w.heap.size w w' := by
  have h1 : 1 ≤ n := by omega
  unfold plane_Area.f at h
  obtain ⟨t, ht, h⟩ := Option.bind_eq_some_iff.1 h
  have HK : Hid (∀ W, RowKit.Below w.heap.size w W → ∀ g, W.heap[g]? = some (.cells #[.slice A0 l0.length c0] 23) → Calls Try.prog 64 #[.slice (some ⟨g, 0, none⟩) 1 1] W fun e w' => e = .returned (.int .i64 t) ∧ Below W.heap.size W w') :=
    Lib.hid (fun W hW g hg => checkHulls_calls k (some ⟨g, 0, none⟩) 1 [l0] t W (row_slices hg (Kd.C_below hr0 hW) hc0) (by simp) ht)
  have HR := Lib.hid hr0
  clear hr0 ht
  by_cases h0 : t = 0
  · subst h0
    rw [if_pos rfl] at h
    split at h
    case isTrue => cases h
    case isFalse hne =>
    rw [area_sum] at h
    injection h with h
    injection h with e1 e2
    subst e2
    have hne1 : l0 ≠ [] := fun e => hne (.inl e)
    have hlen : l0.length ≤ 65536 := by
      rcases Nat.lt_or_ge 65536 l0.length with h | h
      · exact absurd (.inr h) hne
      · exact h
    have hpos : 0 < l0.length := List.length_pos_iff.2 hne1
    have He : Hid (sumP (l0.getD 0 z31) (upto (sidesP l0) l0.length) = r1) := Lib.hid e1
    clear hne hne1 e1 h
    obtain ⟨ad, e, hx0, hx1⟩ := at_T31 HR.out 0 (by omega) (by omega)
    cases e
    have had : ad.block < w.heap.size := World.block_lt_of_cell? w _ (by rw [show ((0 : Int).toNat * 2) = 0 from rfl] at hx0; exact hx0)
    have eo : rd_T31 l0 0 = l0.getD 0 z31 := rfl
    rw [eo] at hx0 hx1
    generalize l0.getD 0 z31 = o at He hx0 hx1
    refine callsIn_of_wp_marks Try.func23 rfl (hF _) ?_ hro
    simp only [Try.ntmps23, List.size_toArray, List.length_cons, List.length_nil, Nat.reduceAdd, Nat.reduceSub, Array.replicate_succ, Array.replicate_zero, List.push_toArray, List.append_toArray, List.nil_append, List.cons_append]
    gi_wp2_with (first | (gi_at_call 64; refine (hw _ 64 _ _ _ (HK.out _ (bal (bal (RowKit.Below.refl _ _) _) _) _ (new_at (by simp)))).mono ?_; rintro e w1 ⟨rfl, hb1⟩; have hbx := (hb1.block w.heap.size (by simp; omega)).trans (old_at (new_at rfl)); have hbc : w1.cell? ⟨w.heap.size, 0, none⟩ = some (.slice (some ad) l0.length c0) := (by simp [World.cell?, hbx]); have hbd := cellAl hbc (.cells #[.int .i64 0] 2); have hs1 := hb1.size; have hlt1 : w.heap.size < w1.heap.size := by (simp at hs1; omega)) | (gi_at_call 72; refine (sides_in F _ (hF _) hro _ _ _ _).mono ?_; rintro e w2 ⟨rfl, rfl⟩))
    have bS : Boxed ((w1.alloc (Obj.cells #[Value.int IntKind.i64 0] 2)).alloc (Obj.cells #[Value.slice (some ad) l0.length c0] 23)) w1.heap.size 2 (.int .i64 0) := (Boxed.new w1 2 (.int .i64 0)).alloc _
    have bI := Boxed.new (w1.alloc (Obj.cells #[Value.int IntKind.i64 0] 2)) 23 (.slice (some ad) l0.length c0)
    rw [World.size_alloc] at bI
    have bH : Boxed ((w1.alloc (Obj.cells #[Value.int IntKind.i64 0] 2)).alloc (Obj.cells #[Value.slice (some ad) l0.length c0] 23)) w.heap.size 23 (.slice (some ad) l0.length c0) := old_at (old_at hbx)
    have hB1 : RowKit.Below w.heap.size w w1 := (bal (bal (RowKit.Below.refl _ _) _) _).trans (hb1.mono (by simp; omega))
    have hB0 : RowKit.Below w.heap.size w ((w1.alloc (Obj.cells #[Value.int IntKind.i64 0] 2)).alloc (Obj.cells #[Value.slice (some ad) l0.length c0] 23)) := (hB1.trans ((bal (bal (RowKit.Below.refl _ _) _) _).mono hB1.size))
    have hsz : ((w1.alloc (Obj.cells #[Value.int IntKind.i64 0] 2)).alloc (Obj.cells #[Value.slice (some ad) l0.length c0] 23)).heap.size = w1.heap.size + 2 := by simp
    obtain ⟨Sb, HSb⟩ : ∃ Sb, Hid (w1.heap.size = Sb) := ⟨_, Lib.hid rfl⟩
    obtain ⟨W0, hW0⟩ : ∃ W0, (w1.alloc (Obj.cells #[Value.int IntKind.i64 0] 2)).alloc (Obj.cells #[Value.slice (some ad) l0.length c0] 23) = W0 := ⟨_, rfl⟩
    rw [hW0] at bS bI bH hB0 hsz ⊢
    rw [HSb.out] at bS bI hsz hlt1 ⊢
    have hC0 := Kd.C_below HR.out hB0
    clear hW0 hbx hbc hbd hs1 hB1 hb1 HSb HK
    have ha0 : ad.add 0 = ad := by obtain ⟨b, o, i⟩ := ad; unfold Addr.add; split <;> simp_all
    have hol : ∀ (j : Nat), (ad.add j).block = ad.block := fun j => by unfold Addr.add; split <;> rfl
    refine wpIn_rangeFunc_ownH hro h1 (gf := 134) (lb := #[.pointer (some ⟨Sb + 1, 0, none⟩)]) rfl (hF _) (enters_of Try.func134 (by kernel_rfl) rfl)
      (sides_stops F (n - 1) (hF _) hro (by omega) (Sb + 1) c0 ad l0 hlen W0 bI.cell hC0) KeepTwo.trans (KeepTwo.put (by omega) (by have := hB0.size; omega)) (Below.refl _ _) (fun _ => rfl)
      (fun pre W => (Boxed W Sb 2 (.int .i64 (sumP o pre)) ∧ Boxed W w.heap.size 23 (.slice (some ad) l0.length c0)) ∧ Below w.heap.size w W)
      (fun _ _ _ => False)
      (OwnFrom.and (OwnFrom.and (Own.from (blk_ownF Sb (fun pre => #[.int .i64 (sumP o pre)]) 2) _) (Own.from (boxed_own _ _ _) _)) (ownFrom_below (Nat.le_refl _) hB0.size))
      (fun _ _ _ _ _ hs _ _ => hs)
      ⟨⟨bS, bH⟩, hB0⟩
      (fun x a' W => ∃ Ba, Sb < Ba ∧ W.heap[Ba]? = some (.cells #[.int .i64 x.1.f0, .int .i64 x.1.f1] 31 (0, 0)) ∧ W.heap[Ba + 1]? = some (.cells #[.int .i64 x.2.f0, .int .i64 x.2.f1] 31 (0, 0)) ∧ a' = { tmps := #[.slice (some ad) l0.length c0, .pointer (some ⟨w.heap.size, 0, none⟩), .int .i64 0, .int .i64 0, .int .i64 0, .pointer (some ⟨Sb, 0, none⟩), .pointer (some ⟨Ba, 0, none⟩), .pointer (some ⟨Ba + 1, 0, none⟩), .slice (some ad) l0.length c0, .slice (some ⟨w.heap.size + 1, 0, none⟩) 1 1, .int .i64 0, .int .i64 0, .bool false, undef, .slice (some ad) l0.length c0, .func (.func 134) #[] #[.pointer (some ⟨Sb + 1, 0, none⟩)], .agg #[.int .i64 x.1.f0, .int .i64 x.1.f1], .agg #[.int .i64 x.2.f0, .int .i64 x.2.f1], undef, undef, undef, undef, undef, undef, undef, undef, undef], defers := [] })
      (fun x a' _ X Y row hs hg hr => by obtain ⟨Ba, h1, h2, h3, h4⟩ := hs; exact ⟨Ba, h1, blk_own (β := Unit) Ba _ 31 () X Y row h2 hg (fun r e => (hr r e).2), blk_own (β := Unit) (Ba + 1) _ 31 () X Y row h3 hg (fun r e => (hr r e).2), h4⟩)
      ?assign ?body ?done ?stop
    case assign =>
      rintro l pre ⟨x, y⟩ W K ⟨⟨bs, bh⟩, hB⟩ hK
      unfold encPP
      have hu := Try.underlying31
      gi_wp2
      exact hK _ _ (((KeepsOthers.alloc _ _).trans (KeepsOthers.alloc _ _)).from _) (.of_below (bal (bal (RowKit.Below.refl _ _) _) _)) ⟨⟨old_at (old_at bs), old_at (old_at bh)⟩, hB.trans ((bal (bal (RowKit.Below.refl _ _) _) _).mono hB.size)⟩ ⟨W.heap.size, bs.lt, old_at (World.alloc_heap_new W _), new_at (by simp), rfl⟩
    case body =>
      rintro l pre ⟨x, y⟩ a' W hl ⟨r, hr⟩ ⟨⟨bs, bh⟩, hB⟩ ⟨Ba, hBa, ba, bb, rfl⟩ hlt
      dsimp only at ba bb
      have hu31 := Try.underlying31
      have hcc : ∀ m W, CallsIn (F.inRound l) m Try.prog 73 #[.agg #[.int .i64 o.f0, .int .i64 o.f1], .agg #[.int .i64 x.f0, .int .i64 x.f1], .agg #[.int .i64 y.f0, .int .i64 y.f1]] W fun e w' => e = .returned (.int .i64 (crossW o x y)) ∧ Below W.heap.size W w' :=
        fun m W => CallsIn.inRound l (hw m 73 _ W _ (plane_cross.calls _ _ _ _ _ _ _ W rfl))
      have hs2 := Lib.hid (sumP_snoc o pre (x, y))
      generalize sumP o pre = s at bs hs2
      generalize crossW o x y = cr at hcc hs2
      have f0 := cell_regrown (show W.cell? ⟨Sb, 0, none⟩ = some (.int .i64 s) by simp [World.cell?, show W.heap[Sb]? = _ from bs])
      have f1 := cell_regrown (show W.cell? ⟨w.heap.size, 0, none⟩ = some (.slice (some ad) l0.length c0) by simp [World.cell?, show W.heap[w.heap.size]? = _ from bh])
      have f2 := cell_regrown ((hB.cell (World.block_lt_of_cell? w _ hx0)).trans hx0)
      have f3 := cell_regrown ((hB.cell (World.block_lt_of_cell? w _ hx1)).trans hx1)
      have f4 := cell_regrown (show W.cell? ⟨Ba, 0, none⟩ = some (.int .i64 x.f0) by simp [World.cell?, ba])
      have f5 := cell_regrown (show W.cell? ⟨Ba, 1, none⟩ = some (.int .i64 x.f1) by simp [World.cell?, ba])
      have f6 := cell_regrown (show W.cell? ⟨Ba + 1, 0, none⟩ = some (.int .i64 y.f0) by simp [World.cell?, bb])
      have f7 := cell_regrown (show W.cell? ⟨Ba + 1, 1, none⟩ = some (.int .i64 y.f1) by simp [World.cell?, bb])
      simp only [show (Int.toNat 0 * 2) = 0 from rfl, ha0] at f2 f3
      clear ba bb hC0 hol ha0
      gi_wp2_with fail
      refine wpIn_region_quiet_tail_r 7 (by kernel_rfl) (by kernel_rfl) (by kernel_rfl) ?_
      simp only [List.take_succ_cons, List.take_zero, List.drop_succ_cons, List.drop_zero]
      repeat (gi_big_quiet_step ((gi_at_call 73; refine CallsIn.regrown_of (hcc _ _))))
      refine wpQuietIn_nil ?_
      intro wq hw'
      have hbq : RowKit.Below W.heap.size W wq := by obtain ⟨p, rfl⟩ := hw'; exact below_regrown _ _ _
      clear hw' f0 f1 f2 f3 f4 f5 f6 f7 hcc
      have bq : Boxed wq Sb 2 (.int .i64 s) := (hbq.block _ bs.lt).trans bs
      have hq1 := bq.cell
      have hq2 := bq.frozen
      have hSb1 : Sb + 1 ≠ Sb := by omega
      have hadS : ad.block ≠ Sb := by omega
      gi_wp2
      have hle : w.heap.size ≤ W.heap.size := hB.size
      refine ⟨((keepsOthers_of_below hbq).trans (KeepsOthers.setCell _ _ _)).from _, (KeepTwo.of_below hbq).trans (KeepTwo.setBox hSb1 hadS _), ⟨⟨?_, boxed_below bh hbq |>.other (by omega) _⟩, hB.trans ((hbq.mono hle).setCell (p := ⟨Sb, 0, none⟩) (by show w.heap.size ≤ Sb; omega) _)⟩⟩
      rw [hs2.out]
      exact bq.set _
    case done =>
      rintro D ys W hD rfl ⟨⟨bs, bh⟩, hB⟩ hK
      have hcv := bs.cell
      rw [He.out] at hcv
      gi_wp2
      refine ⟨by simp, .inl ⟨_, _, rfl, run_takeDeferred hK, ?_⟩⟩
      exact ⟨_, results_tmp2 rfl _ _ _, rfl, hB.trans (belowK_b (w := w) (Nat.le_refl _) W D _ _ (by omega) hK rfl rfl)⟩
    case stop =>
      rintro D c pre W _ _ h _
      exact h.elim
  · rw [if_neg h0] at h
    injection h with h
    injection h with e1 e2
    subst e1 e2
    have h2 : (t != 0) = true := bne_iff_ne.2 h0
    clear h
    refine callsIn_of_wp Try.func23 rfl (hF _) ?_ hro
    simp only [Try.ntmps23, List.size_toArray, List.length_cons, List.length_nil, Nat.reduceAdd, Nat.reduceSub, Array.replicate_succ, Array.replicate_zero, List.push_toArray, List.append_toArray, List.nil_append, List.cons_append]
    gi_wp2_with (gi_at_call 64; refine (hw _ 64 _ _ _ (HK.out _ (bal (bal (RowKit.Below.refl _ _) _) _) _ (new_at (by simp)))).mono ?_; rintro e w1 ⟨rfl, hb1⟩)
    refine bodyPost_ret (results_tmp2 rfl _ _ _) rfl ?_
    exact ⟨rfl, (bal (bal (RowKit.Below.refl _ _) _) _).trans (hb1.mono (by simp; omega))⟩
theorem area_calls (k : Nat) (A0 : Option Addr) (c0 : Nat) (l0 : List (S31)) (r1 : Int) (r2 : Int) (w : World) (hr0 : Kd.C k31 w A0 l0.length l0) (hc0 : l0.length ≤ c0) (h : plane_Area.f k l0 = some (r1, r2)) :
    Calls Try.prog 23 #[.slice A0 l0.length c0] w fun e w' => e = .returned (.tuple #[.int .i64 r1, .int .i64 r2]) ∧ Below w.heap.size w w' :=
  callsIn_wide.1 (area_in Fence.wide 3 (fun _ => trivial) rfl rfl (fun m f args w R hh => callsIn_wide.2 hh) (by omega) k A0 c0 l0 r1 r2 w hr0 hc0 h)
end
end Go.Proofs.Ytkbcomgffpbcbaa.Plane
namespace Go.Proofs.Ytkbcomgffpbcbaa.Plane
open Go.RowKit Go.Proofs.YtkbcomgffpbcbaaW.PrintWords Go.Proofs.YtkbcomgffpbcbaaW.PrintLast Go.Proofs.YtkbcomgffpbcbaaW.PrintMore
set_option linter.unusedVariables false
set_option linter.unusedSimpArgs false
def in24 (p : S31) : Bool := decide (-16777216 ≤ p.f0) && decide (p.f0 ≤ 16777216) && (decide (-16777216 ≤ p.f1) && decide (p.f1 ≤ 16777216))
def val24 (l : List S31) : Bool := l.all in24
theorem within_eq (a b c : Int) : plane_within.f a b c = some (decide (b ≤ a) && decide (a ≤ c)) := by
  unfold plane_within.f
  split
  · rename_i h; simp [h]
  · rename_i h; simp [h]
theorem Ev.bindP {α β : Type} {g : Option α} {f : Nat → α → Option β} {a : α} {r : β} (h : g = some a) (k : Ev (fun n => f n a) r) : Ev (fun n => g.bind (f n)) r := by
  subst h
  exact k
theorem Ev.pos {α : Type} {c : Prop} [Decidable c] {g f : Nat → Option α} {r : α} (h : c) (k : Ev g r) : Ev (fun n => if c then g n else f n) r := by
  simp only [h, if_true]
  exact k
theorem Ev.neg {α : Type} {c : Prop} [Decidable c] {g f : Nat → Option α} {r : α} (h : ¬ c) (k : Ev f r) : Ev (fun n => if c then g n else f n) r := by
  simp only [h, if_false]
  exact k
theorem Ev.ite {α : Type} {c : Prop} [Decidable c] {g f : Nat → Option α} {r s : α} (h : Ev g r) (k : Ev f s) : Ev (fun n => if c then g n else f n) (if c then r else s) := by
  by_cases hc : c
  · rw [if_pos hc]; exact Ev.pos hc h
  · rw [if_neg hc]; exact Ev.neg hc k
theorem wrap_succ {i n : Nat} (h : i < n) (hn : n ≤ 4611686018427387904) : wrap64 ((i : Int) + 1) = ((i + 1 : Nat) : Int) := by
  rw [wrap_id (by omega) (by omega)]
  rfl
theorem rd31 (l : List S31) (i : Nat) (h : i < l.length) : rd_T31 l (i : Int) = l[i] := by
  unfold rd_T31
  rw [Int.toNat_natCast]
  simp [List.getD_eq_getElem?_getD, h]
theorem drop_cons {α : Type} (l : List α) (i : Nat) (h : i < l.length) : l.drop i = l[i] :: l.drop (i + 1) := List.drop_eq_getElem_cons h
theorem valid_l0 (l : List S31) (hl : l.length ≤ 4611686018427387904) : ∀ (d i : Nat), l.length - i = d → i ≤ l.length → Ev (fun k => plane_valid.l0 k l (l.length : Int) i) (val24 (l.drop i))
  | 0, i, hd, hi => by
    have e : l.drop i = [] := List.drop_eq_nil_of_le (by omega)
    rw [e]
    exact Ev.step (fun k => by rw [plane_valid.l0, if_neg (by omega)]) (Ev.now true)
  | d + 1, i, hd, hi => by
    have hlt : i < l.length := by omega
    rw [drop_cons l i hlt]
    refine Ev.step (fun k => by rw [plane_valid.l0, if_pos (by omega), if_pos (by omega), if_pos (by omega)]) ?_
    rw [rd31 l i hlt]
    refine Ev.bindP (within_eq _ _ _) ?_
    have ih := valid_l0 l hl d (i + 1) (by omega) (by omega)
    rw [show val24 (l[i] :: l.drop (i + 1)) = (in24 l[i] && val24 (l.drop (i + 1))) from rfl]
    by_cases h1 : (decide (-16777216 ≤ l[i].f0) && decide (l[i].f0 ≤ 16777216)) = true
    · refine Ev.pos h1 (Ev.bindP (within_eq _ _ _) ?_)
      by_cases h2 : (decide (-16777216 ≤ l[i].f1) && decide (l[i].f1 ≤ 16777216)) = true
      · refine Ev.pos h2 ?_
        rw [wrap_succ hlt hl]
        unfold in24
        rw [h1, h2]
        exact ih
      · refine Ev.neg h2 ?_
        unfold in24
        rw [h1, Bool.eq_false_iff.2 h2]
        exact Ev.now false
    · refine Ev.neg h1 ?_
      unfold in24
      rw [Bool.eq_false_iff.2 h1]
      exact Ev.now false
theorem valid_ev (l : List S31) (hl : l.length ≤ 4611686018427387904) : Ev (fun k => plane_valid.f k l) (val24 l) := by
  unfold plane_valid.f
  exact valid_l0 l hl _ 0 rfl (Nat.zero_le _)
def chkPts (ls : List (List S31)) : Int := if ls.any (fun l => decide (256 < l.length)) then 6 else if ls.all val24 then 0 else 2
theorem rdL4 (l : List (List S31)) (i : Nat) (h : i < l.length) : rd_L4 l (i : Int) = l[i] := by
  unfold rd_L4
  rw [Int.toNat_natCast]
  simp [List.getD_eq_getElem?_getD, h]
theorem checkPoints_l1 (ls : List (List S31)) (hl : ls.length ≤ 4611686018427387904) (h4 : ∀ l ∈ ls, l.length ≤ 256) : ∀ (d i : Nat), ls.length - i = d → i ≤ ls.length → Ev (fun k => plane_checkPoints.l1 k ls (ls.length : Int) i) (if (ls.drop i).all val24 then 0 else 2)
  | 0, i, hd, hi => by
    have e : ls.drop i = [] := List.drop_eq_nil_of_le (by omega)
    rw [e]
    exact Ev.step (fun k => by rw [plane_checkPoints.l1, if_neg (by omega)]) (Ev.now 0)
  | d + 1, i, hd, hi => by
    have hlt : i < ls.length := by omega
    rw [drop_cons ls i hlt]
    refine Ev.step (fun k => by rw [plane_checkPoints.l1, if_pos (by omega), if_pos (by omega), if_pos (by omega)]) ?_
    rw [rdL4 ls i hlt]
    refine Ev.bind (valid_ev ls[i] (by have := h4 ls[i] (List.getElem_mem hlt); omega)) ?_
    have ih := checkPoints_l1 ls hl h4 d (i + 1) (by omega) (by omega)
    rw [List.all_cons]
    cases hv : val24 ls[i]
    · exact Ev.neg (by simp) (Ev.now 2)
    · refine Ev.pos rfl ?_
      rw [wrap_succ hlt hl, Bool.true_and]
      exact ih
theorem checkPoints_l0 (ls : List (List S31)) (hl : ls.length ≤ 4611686018427387904) : ∀ (d i : Nat), ls.length - i = d → i ≤ ls.length → (∀ l ∈ ls.take i, l.length ≤ 256) → Ev (fun k => plane_checkPoints.l0 k ls ls (ls.length : Int) i) (if (ls.drop i).any (fun l => decide (256 < l.length)) then 6 else if ls.all val24 then 0 else 2)
  | 0, i, hd, hi, h4 => by
    have e : ls.drop i = [] := List.drop_eq_nil_of_le (by omega)
    rw [e]
    rw [List.take_of_length_le (by omega)] at h4
    refine Ev.step (fun k => by rw [plane_checkPoints.l0, if_neg (by omega)]) ?_
    have := checkPoints_l1 ls hl h4 _ 0 rfl (Nat.zero_le _)
    rw [List.drop_zero] at this
    exact this
  | d + 1, i, hd, hi, h4 => by
    have hlt : i < ls.length := by omega
    rw [drop_cons ls i hlt]
    refine Ev.step (fun k => by rw [plane_checkPoints.l0, if_pos (by omega), if_pos (by omega), if_pos (by omega)]) ?_
    rw [rdL4 ls i hlt, List.any_cons]
    by_cases h : 256 < ls[i].length
    · rw [if_pos (by simp [h])]
      exact Ev.pos (by omega) (Ev.now 6)
    · refine Ev.neg (by omega) ?_
      rw [wrap_succ hlt hl, show decide (256 < ls[i].length) = false by simpa using h, Bool.false_or]
      refine checkPoints_l0 ls hl d (i + 1) (by omega) (by omega) fun l hl => ?_
      rw [List.take_succ_eq_append_getElem hlt] at hl
      rcases List.mem_append.1 hl with h' | h'
      · exact h4 l h'
      · rw [List.mem_singleton] at h'; subst h'; omega
theorem checkPoints_ev (ls : List (List S31)) (hl : ls.length ≤ 4611686018427387904) : Ev (fun k => plane_checkPoints.f k ls) (chkPts ls) := by
  unfold plane_checkPoints.f chkPts
  have := checkPoints_l0 ls hl _ 0 rfl (Nat.zero_le _) (by simp)
  rw [List.drop_zero] at this
  exact this
theorem mkP_pts (l : List S31) : (pts l).map mkP = l := by
  unfold pts
  rw [List.map_map]
  have : mkP ∘ (fun p : S31 => (p.f0, p.f1)) = id := by funext p; rfl
  rw [this, List.map_id]
theorem pts_mkP (l : List (Int × Int)) : pts (l.map mkP) = l := by
  unfold pts
  rw [List.map_map]
  have : (fun p : S31 => (p.f0, p.f1)) ∘ mkP = id := by funext p; rfl
  rw [this, List.map_id]
theorem pts_inj {a b : List S31} (h : pts a = pts b) : a = b := by rw [← mkP_pts a, h, mkP_pts]
theorem pts_len (l : List S31) : (pts l).length = l.length := by simp [pts]
def hul (l : List S31) : List S31 := (Geo.hull (pts l)).map mkP
theorem pts_hul (l : List S31) : pts (hul l) = Geo.hull (pts l) := pts_mkP _
theorem mem_pts {l : List S31} {p : Int × Int} : p ∈ pts l ↔ mkP p ∈ l := by
  unfold pts
  rw [List.mem_map]
  constructor
  · rintro ⟨a, ha, rfl⟩; exact ha
  · intro h; exact ⟨_, h, rfl⟩
theorem corners_eq {l : List S31} (h1 : near26 l = true) (h2 : l.length ≤ 65536) : plane_corners.f l = some (hul l) := by
  unfold plane_corners.f
  rw [if_pos ⟨h1, h2⟩]
  rfl
theorem near_of_val {l : List S31} (h : val24 l = true) : near26 l = true := by
  unfold val24 in24 at h
  unfold near26
  simp only [List.all_eq_true, Bool.and_eq_true, decide_eq_true_eq] at h ⊢
  intro p hp
  have := h p hp
  omega
theorem hul_len (l : List S31) : (hul l).length ≤ l.length := by
  have hn : (Geo.hull (pts l)).Nodup := Geo.hull_nodup _
  have hs : ∀ x ∈ Geo.hull (pts l), x ∈ pts l := fun x hx => Geo.hull_sub hx
  have := List.Nodup.length_le_of_subset hn hs
  unfold hul
  rw [List.length_map]
  simpa [pts] using this
def isH (l : List S31) : Bool := !l.isEmpty && (chkPts [l] == 0 && decide (pts (hul l) = pts l))
theorem eq31 (a b : S31) : (!(a.f0 == b.f0) || !(a.f1 == b.f1)) = !decide ((a.f0, a.f1) = (b.f0, b.f1)) := by
  by_cases h1 : a.f0 = b.f0 <;> by_cases h2 : a.f1 = b.f1 <;> simp [h1, h2]
theorem pts_cons (a : S31) (l : List S31) : pts (a :: l) = (a.f0, a.f1) :: pts l := rfl
theorem equal_l0 (x y : List S31) (he : x.length = y.length) (hl : x.length ≤ 4611686018427387904) : ∀ (d i : Nat), x.length - i = d → i ≤ x.length → Ev (fun k => api_Point.l0 k x y (x.length : Int) i) (decide (pts (x.drop i) = pts (y.drop i)))
  | 0, i, hd, hi => by
    have e : x.drop i = [] := List.drop_eq_nil_of_le (by omega)
    have e' : y.drop i = [] := List.drop_eq_nil_of_le (by omega)
    rw [e, e']
    exact Ev.step (fun k => by rw [api_Point.l0, if_neg (by omega)]) (Ev.now true)
  | d + 1, i, hd, hi => by
    have hlt : i < x.length := by omega
    have hlt' : i < y.length := by omega
    rw [drop_cons x i hlt, drop_cons y i hlt', pts_cons, pts_cons]
    refine Ev.step (fun k => by rw [api_Point.l0, if_pos (by omega), if_pos (by omega), if_pos (by omega), if_pos (by omega)]) ?_
    rw [rd31 x i hlt, rd31 y i hlt', eq31]
    have ih := equal_l0 x y he hl d (i + 1) (by omega) (by omega)
    by_cases h : (x[i].f0, x[i].f1) = (y[i].f0, y[i].f1)
    · refine Ev.neg (by simp [h]) ?_
      rw [wrap_succ hlt hl, h]
      simpa using ih
    · refine Ev.pos (by simp [h]) ?_
      have : decide ((x[i].f0, x[i].f1) :: pts (x.drop (i + 1)) = (y[i].f0, y[i].f1) :: pts (y.drop (i + 1))) = false := by
        rw [decide_eq_false_iff_not]
        intro hc
        injection hc with hc _
        exact h hc
      rw [this]
      exact Ev.now false
theorem equal_ev (x y : List S31) (hl : x.length ≤ 4611686018427387904) : Ev (fun k => api_Point.f k x y) (decide (pts x = pts y)) := by
  unfold api_Point.f
  by_cases h : x.length = y.length
  · refine Ev.pos (by omega) ?_
    have := equal_l0 x y h hl _ 0 rfl (Nat.zero_le _)
    rw [List.drop_zero, List.drop_zero] at this
    exact this
  · refine Ev.neg (by omega) ?_
    have : decide (pts x = pts y) = false := by
      rw [decide_eq_false_iff_not]
      intro hc
      exact h (by rw [← pts_len x, ← pts_len y, hc])
    rw [this]
    exact Ev.now false
theorem chk_one (l : List S31) : chkPts [l] = if 256 < l.length then 6 else if val24 l then 0 else 2 := by
  unfold chkPts
  simp
theorem chk_zero {l : List S31} : chkPts [l] = 0 ↔ l.length ≤ 256 ∧ val24 l = true := by
  rw [chk_one]
  split
  · constructor
    · intro h; omega
    · intro h; omega
  · split
    · rename_i h1 h2; simp [h2]; omega
    · rename_i h1 h2; simp [h2]
theorem isHull_ev (l : List S31) (hl : l.length ≤ 4611686018427387904) : Ev (fun k => plane_IsHull.f k l) (isH l) := by
  unfold plane_IsHull.f isH
  by_cases h0 : l = []
  · subst h0
    exact Ev.neg (by simp) (Ev.now false)
  · have hp : 0 < l.length := List.length_pos_iff.2 h0
    refine Ev.pos (by omega) (Ev.bind (checkPoints_ev [l] (by simp)) ?_)
    have e : l.isEmpty = false := by simpa using h0
    rw [e]
    by_cases hc : chkPts [l] = 0
    · refine Ev.pos hc ?_
      obtain ⟨h1, h2⟩ := chk_zero.1 hc
      refine Ev.bindP (corners_eq (near_of_val h2) (by omega)) ?_
      have he := equal_ev (hul l) l (by have := hul_len l; omega)
      refine Ev.bind he ?_
      rw [hc]
      exact Ev.now _
    · refine Ev.neg hc ?_
      have : (chkPts [l] == 0) = false := by simpa using hc
      rw [this]
      exact Ev.now false
theorem isH_iff {l : List S31} : isH l = true ↔ l ≠ [] ∧ (l.length ≤ 256 ∧ val24 l = true) ∧ Geo.hull (pts l) = pts l := by
  unfold isH
  rw [Bool.and_eq_true, Bool.and_eq_true, beq_iff_eq, decide_eq_true_eq, chk_zero, pts_hul]
  simp
def chkH (ls : List (List S31)) : Int := if chkPts ls = 0 then (if ls.all isH then 0 else 2) else chkPts ls
theorem any_ev : ∀ (ls : List (List S31)), (∀ l ∈ ls, l.length ≤ 4611686018427387904) → Ev (fun k => plane_checkHulls.any k ls) (!ls.all isH)
  | [], _ => Ev.now false
  | x :: r, h => by
    refine Ev.bind (isHull_ev x (h x (by simp))) ?_
    have ih := any_ev r fun l hl => h l (by simp [hl])
    rw [List.all_cons]
    cases hx : isH x
    · exact Ev.neg (by simp) (Ev.now true)
    · exact Ev.pos rfl (by simpa using ih)
theorem checkHulls_ev (ls : List (List S31)) (hl : ls.length ≤ 4611686018427387904) (h : ∀ l ∈ ls, l.length ≤ 4611686018427387904) : Ev (fun k => plane_checkHulls.f k ls) (chkH ls) := by
  unfold plane_checkHulls.f chkH
  refine Ev.bind (checkPoints_ev ls hl) ?_
  refine Ev.ite (Ev.bind (any_ev ls h) ?_) (Ev.now _)
  cases ls.all isH
  · exact Ev.pos rfl (Ev.now 2)
  · exact Ev.neg (by simp) (Ev.now 0)
theorem chkH_zero {ls : List (List S31)} : chkH ls = 0 ↔ ls.all isH = true := by
  unfold chkH
  have k : ls.all isH = true → chkPts ls = 0 := fun h => by
    rw [List.all_eq_true] at h
    unfold chkPts
    rw [if_neg, if_pos]
    · rw [List.all_eq_true]; intro l hl; exact (isH_iff.1 (h l hl)).2.1.2
    · simp only [List.any_eq_true, decide_eq_true_eq, not_exists, not_and]
      intro l hl; have := (isH_iff.1 (h l hl)).2.1.1; omega
  split
  · split
    · rename_i h; simp [h]
    · rename_i h; simp [h]
  · rename_i h
    constructor
    · intro h'; exact absurd h' h
    · intro h'; exact absurd (k h') h
end Go.Proofs.Ytkbcomgffpbcbaa.Plane
namespace Go.Proofs.Ytkbcomgffpbcbaa.Plane
open Go.RowKit Go.Proofs.YtkbcomgffpbcbaaW.PrintWords Go.Proofs.YtkbcomgffpbcbaaW.PrintLast Go.Proofs.YtkbcomgffpbcbaaW.PrintMore
set_option linter.unusedVariables false
set_option linter.unusedSimpArgs false
def vec (d : S47) : Int × Int := (d.f0, d.f1)
def Small27 (d : S47) : Prop := (-134217728 ≤ d.f0 ∧ d.f0 ≤ 134217728) ∧ (-134217728 ≤ d.f1 ∧ d.f1 ≤ 134217728)
def Near (l : List S31) : Prop := ∀ p ∈ l, (-67108864 ≤ p.f0 ∧ p.f0 ≤ 67108864) ∧ (-67108864 ≤ p.f1 ∧ p.f1 ≤ 67108864)
theorem near_iff {l : List S31} : near26 l = true ↔ Near l := by
  unfold near26 Near
  simp only [List.all_eq_true, Bool.and_eq_true, decide_eq_true_eq]
  constructor
  · intro h p hp; have := h p hp; omega
  · intro h p hp; have := h p hp; omega
theorem dot_some {d : S47} (hd : Small27 d) {p : S31} (hp : (-67108864 ≤ p.f0 ∧ p.f0 ≤ 67108864) ∧ (-67108864 ≤ p.f1 ∧ p.f1 ≤ 67108864)) : wrap64 (wrap64 (d.f0 * p.f0) + wrap64 (d.f1 * p.f1)) = Geo.dot (vec d) (p.f0, p.f1) := by
  obtain ⟨⟨h1, h2⟩, h3, h4⟩ := hd
  obtain ⟨⟨g1, g2⟩, g3, g4⟩ := hp
  have m1 := mul_bound (u := d.f0) (v := p.f0) (A := 134217728) (B := 67108864) h1 h2 g1 g2
  have m2 := mul_bound (u := d.f1) (v := p.f1) (A := 134217728) (B := 67108864) h3 h4 g3 g4
  rw [wrap_id (x := d.f0 * p.f0) (by omega) (by omega), wrap_id (x := d.f1 * p.f1) (by omega) (by omega), wrap_id (by omega) (by omega)]
  rfl
structure Span (d : S47) (l : List S31) (lo hi : Int) : Prop where
  le : ∀ p ∈ pts l, lo ≤ Geo.dot (vec d) p ∧ Geo.dot (vec d) p ≤ hi
  at_lo : ∃ p ∈ pts l, Geo.dot (vec d) p = lo
  at_hi : ∃ p ∈ pts l, Geo.dot (vec d) p = hi
theorem span_l0 {d : S47} (hd : Small27 d) (l : List S31) (hl : l.length ≤ 65536) (hn : Near l) : ∀ (n i : Nat) (x y : Int), l.length - i = n → i ≤ l.length → x ≤ y →
    ∃ lo hi, Ev (fun k => plane_span.l0 k x y l (l.length : Int) i d.f0 d.f1 d.f2) (lo, hi) ∧ lo ≤ x ∧ y ≤ hi ∧ (∀ p ∈ l.drop i, lo ≤ Geo.dot (vec d) (p.f0, p.f1) ∧ Geo.dot (vec d) (p.f0, p.f1) ≤ hi) ∧
      (lo = x ∨ ∃ p ∈ l.drop i, Geo.dot (vec d) (p.f0, p.f1) = lo) ∧ (hi = y ∨ ∃ p ∈ l.drop i, Geo.dot (vec d) (p.f0, p.f1) = hi)
  | 0, i, x, y, hd', hi, hxy => by
    refine ⟨x, y, Ev.step (fun k => by rw [plane_span.l0, if_neg (by omega)]) (Ev.now (x, y)), Int.le_refl _, Int.le_refl _, ?_, .inl rfl, .inl rfl⟩
    rw [List.drop_eq_nil_of_le (by omega)]
    intro p hp; simp at hp
  | n + 1, i, x, y, hd', hi, hxy => by
    have hlt : i < l.length := by omega
    have hdot := dot_some hd (hn l[i] (List.getElem_mem hlt))
    have e0 : ∀ a b : Int, mn a b = if a ≤ b then a else b := fun a b => by unfold mn; split <;> split <;> omega
    have e1 : ∀ a b : Int, mx a b = if a ≤ b then b else a := fun a b => by unfold mx; split <;> split <;> omega
    obtain ⟨lo, hi', hE, h1, h2, h3, h4, h5⟩ := span_l0 hd l hl hn n (i + 1) (mn x (Geo.dot (vec d) (l[i].f0, l[i].f1))) (mx y (Geo.dot (vec d) (l[i].f0, l[i].f1))) (by omega) (by omega) (by rw [e0, e1]; split <;> split <;> omega)
    rw [e0] at h1 h4
    rw [e1] at h2 h5
    refine ⟨lo, hi', Ev.step (fun k => by rw [plane_span.l0, if_pos (by omega), if_pos (by omega), if_pos (by omega)]) ?_, ?_, ?_, ?_, ?_, ?_⟩
    · rw [rd31 l i hlt, hdot, wrap_succ hlt (by omega)]
      exact hE
    · split at h1 <;> omega
    · split at h2 <;> omega
    · intro p hp
      rw [drop_cons l i hlt] at hp
      rcases List.mem_cons.1 hp with rfl | hp
      · split at h1 <;> split at h2 <;> omega
      · exact h3 p hp
    · rcases h4 with h4 | ⟨p, hp, e⟩
      · split at h4
        · exact .inl h4
        · exact .inr ⟨l[i], by rw [drop_cons l i hlt]; exact List.mem_cons_self, h4.symm⟩
      · exact .inr ⟨p, by rw [drop_cons l i hlt]; exact List.mem_cons_of_mem _ hp, e⟩
    · rcases h5 with h5 | ⟨p, hp, e⟩
      · split at h5
        · exact .inr ⟨l[i], by rw [drop_cons l i hlt]; exact List.mem_cons_self, h5.symm⟩
        · exact .inl h5
      · exact .inr ⟨p, by rw [drop_cons l i hlt]; exact List.mem_cons_of_mem _ hp, e⟩
theorem mem_pts' {l : List S31} {p : S31} (h : p ∈ l) : (p.f0, p.f1) ∈ pts l := List.mem_map_of_mem h
theorem span_ev {d : S47} (hd : Small27 d) {l : List S31} (hp : l ≠ []) (hl : l.length ≤ 65536) (hn : Near l) : ∃ lo hi, Ev (fun k => plane_span.f k d.f0 d.f1 d.f2 l) (lo, hi) ∧ Span d l lo hi := by
  match l, hp with
  | a :: r, _ =>
    have hdot := dot_some hd (hn a (by simp))
    obtain ⟨lo, hi, hE, h1, h2, h3, h4, h5⟩ := span_l0 hd r (by simp at hl; omega) (fun p hp => hn p (by simp [hp])) r.length 0 (Geo.dot (vec d) (a.f0, a.f1)) (Geo.dot (vec d) (a.f0, a.f1)) rfl (Nat.zero_le _) (Int.le_refl _)
    rw [List.drop_zero] at h3 h4 h5
    refine ⟨lo, hi, ?_, ?_, ?_, ?_⟩
    · unfold plane_span.f
      refine Ev.pos (by simp only [List.length_cons]; omega) (Ev.pos (by simp only [List.length_cons]; omega) ?_)
      simp only [Option.bind_some, List.drop_one, List.tail_cons]
      rw [show rd_T31 (a :: r) 0 = a from rfl, hdot]
      exact hE
    · intro p hp
      obtain ⟨q, hq, rfl⟩ := List.mem_map.1 hp
      rcases List.mem_cons.1 hq with rfl | hq
      · exact ⟨h1, h2⟩
      · exact h3 q hq
    · rcases h4 with h | ⟨p, hp, e⟩
      · exact ⟨_, mem_pts' (List.mem_cons_self), h.symm⟩
      · exact ⟨_, mem_pts' (List.mem_cons_of_mem _ hp), e⟩
    · rcases h5 with h | ⟨p, hp, e⟩
      · exact ⟨_, mem_pts' (List.mem_cons_self), h.symm⟩
      · exact ⟨_, mem_pts' (List.mem_cons_of_mem _ hp), e⟩
def Parts (a b : List S31) (d : Int × Int) : Prop := ∀ p ∈ pts a, ∀ q ∈ pts b, Geo.dot d p < Geo.dot d q
def LineParts (a b : List S31) (d : Int × Int) (K : Int) : Prop := (∀ p ∈ pts a, Geo.dot d p ≤ K) ∧ ∀ q ∈ pts b, K < Geo.dot d q
theorem rd47 (l : List S47) (i : Nat) (h : i < l.length) : rd_T47 l (i : Int) = l[i] := by
  unfold rd_T47
  rw [Int.toNat_natCast]
  simp [List.getD_eq_getElem?_getD, h]
def TryPost (a b : List S31) (q : List S47) (r : Int × Int × Int × Bool) : Prop := (r.2.2.2 = true → (∃ d ∈ q, vec d = (r.1, r.2.1)) ∧ LineParts a b (r.1, r.2.1) r.2.2.1 ∧ ∃ p ∈ pts a, Geo.dot (r.1, r.2.1) p = r.2.2.1) ∧ (r.2.2.2 = false → r = (0, 0, 0, false) ∧ ∀ d ∈ q, ¬ Parts a b (vec d))
theorem try_l0 {a b : List S31} (ha : a ≠ []) (hb : b ≠ []) (ha2 : a.length ≤ 65536) (hb2 : b.length ≤ 65536) (na : Near a) (nb : Near b) (q : List S47) (hq : q.length ≤ 65536) (hs : ∀ d ∈ q, Small27 d) :
    ∀ (n i : Nat), q.length - i = n → i ≤ q.length → ∃ r, Ev (fun k => plane_try.l0 k a b q (q.length : Int) i) r ∧ TryPost a b (q.drop i) r
  | 0, i, hd, hi => by
    refine ⟨_, Ev.step (fun k => by rw [plane_try.l0, if_neg (by omega)]) (Ev.now (0, 0, 0, false)), by simp, fun _ => ⟨rfl, ?_⟩⟩
    rw [List.drop_eq_nil_of_le (by omega)]
    intro d hd; simp at hd
  | n + 1, i, hd, hi => by
    have hlt : i < q.length := by omega
    have hsi := hs q[i] (List.getElem_mem hlt)
    obtain ⟨lo1, hi1, E1, S1⟩ := span_ev hsi ha ha2 na
    obtain ⟨lo2, hi2, E2, S2⟩ := span_ev hsi hb hb2 nb
    by_cases h : hi1 < lo2
    · refine ⟨(q[i].f0, q[i].f1, hi1, true), Ev.step (fun k => by rw [plane_try.l0, if_pos (by omega), if_pos (by omega), if_pos (by omega)]) ?_, fun _ => ⟨⟨q[i], by rw [drop_cons q i hlt]; exact List.mem_cons_self, rfl⟩, ⟨?_, ?_⟩, S1.at_hi⟩, by simp⟩
      · rw [rd47 q i hlt]
        exact Ev.bind E1 (Ev.bind E2 (Ev.pos h (Ev.now _)))
      · intro p hp; exact (S1.le p hp).2
      · intro p hp; have := (S2.le p hp).1; show hi1 < Geo.dot (vec q[i]) p; omega
    · obtain ⟨r, hE, h1, h2⟩ := try_l0 ha hb ha2 hb2 na nb q hq hs n (i + 1) (by omega) (by omega)
      refine ⟨r, Ev.step (fun k => by rw [plane_try.l0, if_pos (by omega), if_pos (by omega), if_pos (by omega)]) ?_, fun hr => ?_, fun hr => ⟨(h2 hr).1, ?_⟩⟩
      · rw [rd47 q i hlt]
        refine Ev.bind E1 (Ev.bind E2 (Ev.neg h ?_))
        rw [wrap_succ hlt (by omega)]
        exact hE
      · obtain ⟨⟨d, hd, e⟩, h4⟩ := h1 hr
        exact ⟨⟨d, by rw [drop_cons q i hlt]; exact List.mem_cons_of_mem _ hd, e⟩, h4⟩
      · intro d hd hP
        rw [drop_cons q i hlt] at hd
        rcases List.mem_cons.1 hd with rfl | hd
        · obtain ⟨p, hp, ep⟩ := S1.at_hi
          obtain ⟨p', hp', ep'⟩ := S2.at_lo
          have := hP p hp p' hp'
          omega
        · exact (h2 hr).2 d hd hP
theorem try_ev {a b : List S31} (ha : a ≠ []) (hb : b ≠ []) (ha2 : a.length ≤ 65536) (hb2 : b.length ≤ 65536) (na : Near a) (nb : Near b) (q : List S47) (hq : q.length ≤ 65536) (hs : ∀ d ∈ q, Small27 d) : ∃ r, Ev (fun k => plane_try.f k a b q) r ∧ TryPost a b q r := by
  obtain ⟨r, h⟩ := try_l0 ha hb ha2 hb2 na nb q hq hs _ 0 rfl (Nat.zero_le _)
  rw [List.drop_zero] at h
  exact ⟨r, h⟩
theorem go_ev {a b : List S31} (ha : a ≠ []) (hb : b ≠ []) (ha2 : a.length ≤ 65536) (hb2 : b.length ≤ 65536) (na : Near a) (nb : Near b) : ∀ (qs : List (List S47)), (∀ q ∈ qs, q.length ≤ 65536 ∧ ∀ d ∈ q, Small27 d) →
    ∃ r, Ev (fun k => plane_part.go k a b qs) r ∧ TryPost a b qs.flatten r
  | [], _ => ⟨_, Ev.now (0, 0, 0, false), by simp, fun _ => ⟨rfl, by simp⟩⟩
  | q :: qs, h => by
    obtain ⟨t, hE, h1, h2⟩ := try_ev ha hb ha2 hb2 na nb q (h q (by simp)).1 (h q (by simp)).2
    by_cases ht : t.2.2.2 = true
    · refine ⟨(t.1, t.2.1, t.2.2.1, true), Ev.bind hE (Ev.pos ht (Ev.now _)), fun _ => ?_, by simp⟩
      obtain ⟨⟨d, hd, e⟩, h3⟩ := h1 ht
      exact ⟨⟨d, by simp [hd], e⟩, h3⟩
    · obtain ⟨r, hE', k1, k2⟩ := go_ev ha hb ha2 hb2 na nb qs fun q hq => h q (by simp [hq])
      refine ⟨r, Ev.bind hE (Ev.neg ht hE'), fun hr => ?_, fun hr => ⟨(k2 hr).1, fun d hd => ?_⟩⟩
      · obtain ⟨⟨d, hd, e⟩, h3⟩ := k1 hr
        exact ⟨⟨d, by rw [List.flatten_cons]; exact List.mem_append.2 (.inr hd), e⟩, h3⟩
      · rw [List.flatten_cons] at hd
        rcases List.mem_append.1 hd with hd | hd
        · exact (h2 (by simpa using ht)).2 d hd
        · exact (k2 hr).2 d hd
theorem getD31 (l : List S31) (i : Nat) (h : i < l.length) : l.getD i z31 = l[i] := by simp [List.getD_eq_getElem?_getD, h]
theorem cy_pts (l : List S31) (i : Nat) (h : i < l.length) : Geo.cy (pts l) i = (l[i].f0, l[i].f1) := by
  rw [Geo.cy_lt (by rw [pts_len]; exact h)]
  simp [pts]
theorem cy_pts_mod (l : List S31) (i : Nat) (h : 0 < l.length) : Geo.cy (pts l) i = ((l[i % l.length]'(Nat.mod_lt _ h)).f0, (l[i % l.length]'(Nat.mod_lt _ h)).f1) := by
  rw [← cy_pts l (i % l.length) (Nat.mod_lt _ h)]
  unfold Geo.cy
  rw [pts_len, Nat.mod_mod]
theorem diff_in {x y : Int} (hx : -67108864 ≤ x ∧ x ≤ 67108864) (hy : -67108864 ≤ y ∧ y ≤ 67108864) : wrap64 (y - x) = y - x ∧ wrap64 (-(wrap64 (y - x))) = -(y - x) ∧ -134217728 ≤ y - x ∧ y - x ≤ 134217728 := by
  have e : wrap64 (y - x) = y - x := wrap_id (by omega) (by omega)
  rw [e]
  exact ⟨rfl, wrap_id (by omega) (by omega), by omega, by omega⟩
def quadF (l : List S31) (i : Nat) : List S47 :=
  let p := l.getD i z31; let q := l.getD ((i + 1) % l.length) z31
  let x := wrap64 (q.f0 - p.f0); let y := wrap64 (q.f1 - p.f1)
  [⟨y, wrap64 (-x), 0⟩, ⟨wrap64 (-y), x, 0⟩, ⟨x, y, 0⟩, ⟨wrap64 (-x), wrap64 (-y), 0⟩]
theorem quads_eq (l : List S31) : plane_part.quads l = (List.range l.length).map (quadF l) := rfl
theorem quads_flat {l : List S31} (hn : Near l) : (∀ q ∈ plane_part.quads l, q.length ≤ 65536 ∧ ∀ d ∈ q, Small27 d) ∧ (∀ d ∈ (plane_part.quads l).flatten, ∃ j, j < (pts l).length ∧ Geo.dir1 (pts l) j (vec d)) ∧ ∀ (j : Nat) (d : Int × Int), j < (pts l).length → Geo.dir1 (pts l) j d → ∃ x ∈ (plane_part.quads l).flatten, vec x = d := by
  have key : ∀ i, i < l.length → ∃ x y : Int, (-134217728 ≤ x ∧ x ≤ 134217728) ∧ (-134217728 ≤ y ∧ y ≤ 134217728) ∧ (Geo.cy (pts l) (i + 1)).1 - (Geo.cy (pts l) i).1 = x ∧ (Geo.cy (pts l) (i + 1)).2 - (Geo.cy (pts l) i).2 = y ∧
      quadF l i = [⟨y, -x, 0⟩, ⟨-y, x, 0⟩, ⟨x, y, 0⟩, ⟨-x, -y, 0⟩] := fun i hi => by
    have hm : (i + 1) % l.length < l.length := Nat.mod_lt _ (by omega)
    rw [cy_pts_mod l (i + 1) (by omega), cy_pts l i hi]
    have np := hn l[i] (List.getElem_mem hi)
    have nq := hn l[(i + 1) % l.length] (List.getElem_mem hm)
    obtain ⟨a1, a2, a3, a4⟩ := diff_in np.1 nq.1
    obtain ⟨b1, b2, b3, b4⟩ := diff_in np.2 nq.2
    refine ⟨_, _, ⟨a3, a4⟩, ⟨b3, b4⟩, rfl, rfl, ?_⟩
    unfold quadF
    simp only [getD31 l i hi, getD31 l _ hm]
    rw [a2, b2, a1, b1]
  rw [quads_eq]
  refine ⟨fun q hq => ?_, fun d hd => ?_, fun j d hj hdir => ?_⟩
  · obtain ⟨i, hi, rfl⟩ := List.mem_map.1 hq
    obtain ⟨x, y, hx, hy, _, _, e⟩ := key i (List.mem_range.1 hi)
    rw [e]
    refine ⟨by simp, fun d hd => ?_⟩
    simp only [List.mem_cons, List.mem_nil_iff, or_false] at hd
    unfold Small27
    rcases hd with rfl | rfl | rfl | rfl <;> simp only <;> omega
  · obtain ⟨q, hq, hd⟩ := List.mem_flatten.1 hd
    obtain ⟨i, hi, rfl⟩ := List.mem_map.1 hq
    obtain ⟨x, y, _, _, ex, ey, e⟩ := key i (List.mem_range.1 hi)
    rw [e] at hd
    refine ⟨i, by rw [pts_len]; exact List.mem_range.1 hi, ?_⟩
    unfold Geo.dir1
    simp only
    rw [ex, ey]
    simp only [List.mem_cons, List.mem_nil_iff, or_false] at hd
    rcases hd with rfl | rfl | rfl | rfl
    · exact .inl rfl
    · exact .inr (.inl rfl)
    · exact .inr (.inr (.inl rfl))
    · exact .inr (.inr (.inr rfl))
  · rw [pts_len] at hj
    obtain ⟨x, y, _, _, ex, ey, e⟩ := key j hj
    have hmem : ∀ z ∈ ([⟨y, -x, 0⟩, ⟨-y, x, 0⟩, ⟨x, y, 0⟩, ⟨-x, -y, 0⟩] : List S47), z ∈ ((List.range l.length).map (quadF l)).flatten := fun z hz => by
      refine List.mem_flatten.2 ⟨_, List.mem_map.2 ⟨j, List.mem_range.2 hj, rfl⟩, ?_⟩
      rw [e]
      exact hz
    unfold Geo.dir1 at hdir
    simp only at hdir
    rw [ex, ey] at hdir
    rcases hdir with rfl | rfl | rfl | rfl
    · exact ⟨⟨y, -x, 0⟩, hmem _ (by simp), rfl⟩
    · exact ⟨⟨-y, x, 0⟩, hmem _ (by simp), rfl⟩
    · exact ⟨⟨x, y, 0⟩, hmem _ (by simp), rfl⟩
    · exact ⟨⟨-x, -y, 0⟩, hmem _ (by simp), rfl⟩
theorem line_sep {a b : List S31} {d : Int × Int} {K : Int} (h : LineParts a b d K) : Geo.Sep (pts a) (pts b) := ⟨d, fun p hp q hq => by have := h.1 p hp; have := h.2 q hq; omega⟩
structure PartPost' (a b : List S31) (r : Int × Int × Int × Bool) : Prop where
  iff : r.2.2.2 = true ↔ Geo.Sep (pts a) (pts b)
  line : r.2.2.2 = true → LineParts a b (r.1, r.2.1) r.2.2.1 ∧ ∃ p ∈ pts a, Geo.dot (r.1, r.2.1) p = r.2.2.1
  from_ : r.2.2.2 = true → (r.1, r.2.1) = Geo.sub (Geo.cy (pts b) 0) (Geo.cy (pts a) 0) ∨ (∃ j, j < (pts a).length ∧ Geo.dir1 (pts a) j (r.1, r.2.1)) ∨ ∃ j, j < (pts b).length ∧ Geo.dir1 (pts b) j (r.1, r.2.1)
  none : r.2.2.2 = false → r = (0, 0, 0, false)
theorem part_ev {a b : List S31} (ha : a ≠ []) (hb : b ≠ []) (ha2 : a.length ≤ 65536) (hb2 : b.length ≤ 65536) (na : Near a) (nb : Near b) (ea : Geo.hull (pts a) = pts a) (eb : Geo.hull (pts b) = pts b) :
    ∃ r, Ev (fun k => plane_part.f k a b) r ∧ PartPost' a b r := by
  have pa : 0 < a.length := List.length_pos_iff.2 ha
  have pb : 0 < b.length := List.length_pos_iff.2 hb
  have nx := na a[0] (List.getElem_mem pa)
  have ny := nb b[0] (List.getElem_mem pb)
  obtain ⟨a1, _, a3, a4⟩ := diff_in nx.1 ny.1
  obtain ⟨b1, _, b3, b4⟩ := diff_in nx.2 ny.2
  have e0 : Geo.cy (pts a) 0 = (a[0].f0, a[0].f1) := cy_pts a 0 pa
  have e0' : Geo.cy (pts b) 0 = (b[0].f0, b[0].f1) := cy_pts b 0 pb
  obtain ⟨qa1, qa2, qa3⟩ := quads_flat na
  obtain ⟨qb1, qb2, qb3⟩ := quads_flat nb
  obtain ⟨r, hE, h1, h2⟩ := go_ev ha hb ha2 hb2 na nb ([⟨b[0].f0 - a[0].f0, b[0].f1 - a[0].f1, 0⟩] :: (plane_part.quads a ++ plane_part.quads b)) (fun q hq => by
    rcases List.mem_cons.1 hq with rfl | hq
    · refine ⟨by simp, fun d hd => ?_⟩
      rw [List.mem_singleton] at hd
      subst hd
      exact ⟨⟨a3, a4⟩, b3, b4⟩
    · rcases List.mem_append.1 hq with hq | hq
      · exact qa1 q hq
      · exact qb1 q hq)
  have hne : ¬ (a = [] ∨ b = [] ∨ 65536 < a.length ∨ 65536 < b.length) := by
    rintro (h | h | h | h)
    · exact ha h
    · exact hb h
    · omega
    · omega
  have hfl : ([⟨b[0].f0 - a[0].f0, b[0].f1 - a[0].f1, 0⟩] :: (plane_part.quads a ++ plane_part.quads b) : List (List S47)).flatten = ⟨b[0].f0 - a[0].f0, b[0].f1 - a[0].f1, 0⟩ :: ((plane_part.quads a).flatten ++ (plane_part.quads b).flatten) := by simp
  rw [hfl] at h1 h2
  refine ⟨r, ?_, ⟨fun hr => line_sep (h1 hr).2.1, fun hs => ?_⟩, fun hr => (h1 hr).2, fun hr => ?_, fun hr => (h2 hr).1⟩
  · refine Ev.congr (fun k => by unfold plane_part.f; rw [if_neg hne, getD31 a 0 pa, getD31 b 0 pb, a1, b1]) hE
  · cases hb' : r.2.2.2
    · exfalso
      obtain ⟨d, hd, hp⟩ := Geo.sep_tried ea eb (by intro e; exact ha (pts_inj (e.trans rfl))) (by intro e; exact hb (pts_inj (e.trans rfl))) hs
      have hno := (h2 hb').2
      rcases hd with rfl | ⟨j, hj, hdir⟩ | ⟨j, hj, hdir⟩
      · refine hno _ (List.mem_cons_self) fun p hp' q hq' => ?_
        have := hp p hp' q hq'
        rw [e0, e0'] at this
        exact this
      · obtain ⟨x, hx, e⟩ := qa3 j d hj hdir
        exact hno x (List.mem_cons_of_mem _ (List.mem_append.2 (.inl hx))) (by rw [e]; exact hp)
      · obtain ⟨x, hx, e⟩ := qb3 j d hj hdir
        exact hno x (List.mem_cons_of_mem _ (List.mem_append.2 (.inr hx))) (by rw [e]; exact hp)
    · rfl
  · obtain ⟨⟨d, hd, e⟩, _⟩ := h1 hr
    rw [← e]
    rcases List.mem_cons.1 hd with rfl | hd
    · left; rw [e0, e0']; rfl
    · rcases List.mem_append.1 hd with hd | hd
      · exact .inr (.inl (qa2 d hd))
      · exact .inr (.inr (qb2 d hd))
end Go.Proofs.Ytkbcomgffpbcbaa.Plane
namespace Go.Proofs.Ytkbcomgffpbcbaa.Plane
open Go.RowKit Go.Proofs.YtkbcomgffpbcbaaW.PrintWords Go.Proofs.YtkbcomgffpbcbaaW.PrintLast Go.Proofs.YtkbcomgffpbcbaaW.PrintMore
set_option linter.unusedVariables false
set_option linter.unusedSimpArgs false
theorem near_of_val' {l : List S31} (h : val24 l = true) : Near l := near_iff.1 (near_of_val h)
theorem isH_ne {l : List S31} (h : isH l = true) : l ≠ [] := (isH_iff.1 h).1
theorem isH_len {l : List S31} (h : isH l = true) : l.length ≤ 256 := (isH_iff.1 h).2.1.1
theorem isH_val {l : List S31} (h : isH l = true) : val24 l = true := (isH_iff.1 h).2.1.2
theorem isH_near {l : List S31} (h : isH l = true) : Near l := near_of_val' (isH_val h)
theorem isH_hull {l : List S31} (h : isH l = true) : Geo.hull (pts l) = pts l := (isH_iff.1 h).2.2
theorem pts_ne {l : List S31} (h : l ≠ []) : pts l ≠ [] := fun e => h (pts_inj (e.trans rfl))
theorem near_sub {l l' : List S31} (h : Near l) (k : ∀ p ∈ l', p ∈ l) : Near l' := fun p hp => h p (k p hp)
theorem apart_ev {a b : List S31} (ha : a ≠ []) (hb : b ≠ []) (ha2 : a.length ≤ 65536) (hb2 : b.length ≤ 65536) (na : Near a) (nb : Near b) (ea : Geo.hull (pts a) = pts a) (eb : Geo.hull (pts b) = pts b) :
    ∃ r, Ev (fun k => plane_apart.f k a b) r ∧ (r = true ↔ Geo.Sep (pts a) (pts b)) := by
  obtain ⟨r, hE, hP⟩ := part_ev ha hb ha2 hb2 na nb ea eb
  refine ⟨r.2.2.2, ?_, hP.iff⟩
  unfold plane_apart.f
  exact Ev.bind hE (Ev.now _)
theorem one_isH {p : S31} (h : in24 p = true) : isH [p] = true := by
  rw [isH_iff]
  refine ⟨by simp, ⟨by simp, by unfold val24; simp [h]⟩, ?_⟩
  rfl
theorem inside_ev (h : List S31) (p0 p1 : Int) (hl : h.length ≤ 4611686018427387904) : ∃ r, Ev (fun k => plane_Inside.f k h p0 p1) r ∧
    (chkH [h] ≠ 0 → r = (false, chkH [h])) ∧ (chkH [h] = 0 → in24 ⟨p0, p1⟩ = false → r = (false, 2)) ∧
    (chkH [h] = 0 → in24 ⟨p0, p1⟩ = true → r.2 = 0 ∧ (r.1 = true ↔ ¬ Geo.Sep (pts h) [(p0, p1)])) := by
  have hc := checkHulls_ev [h] (by simp) (fun l hl' => by rw [List.mem_singleton] at hl'; subst hl'; exact hl)
  unfold plane_Inside.f
  by_cases h0 : chkH [h] = 0
  · have hv := valid_ev [⟨p0, p1⟩] (by simp)
    have hh : isH h = true := by have := chkH_zero.1 h0; simpa using this
    have ev : val24 [⟨p0, p1⟩] = in24 ⟨p0, p1⟩ := by unfold val24; simp
    rw [ev] at hv
    cases hp : in24 ⟨p0, p1⟩
    · rw [hp] at hv
      exact ⟨(false, 2), Ev.bind hc (Ev.pos h0 (Ev.bind hv (Ev.neg (by simp) (Ev.now _)))), fun h => absurd h0 h, fun _ _ => rfl, fun _ h => by simp at h⟩
    · rw [hp] at hv
      have h1 := one_isH hp
      obtain ⟨r, hE, hr⟩ := apart_ev (isH_ne hh) (isH_ne h1) (by have := isH_len hh; omega) (by simp) (isH_near hh) (isH_near h1) (isH_hull hh) (isH_hull h1)
      refine ⟨(!r, 0), Ev.bind hc (Ev.pos h0 (Ev.bind hv (Ev.pos rfl (Ev.bind hE (Ev.now _))))), fun h => absurd h0 h, fun _ h => by simp at h, fun _ _ => ⟨rfl, ?_⟩⟩
      rw [show pts [(⟨p0, p1⟩ : S31)] = [(p0, p1)] from rfl] at hr
      rw [← hr]
      cases r <;> simp
  · exact ⟨(false, chkH [h]), Ev.bind hc (Ev.neg h0 (Ev.now _)), fun _ => rfl, fun h => absurd h h0, fun h => absurd h h0⟩
theorem grownL_list {l : List S31} (h : val24 l = true) {t : Int} (h0 : 0 ≤ t) (h1 : t ≤ 33554432) : pts (plane_grown.list l t) = Geo.grow (pts l) t ∧ Near (plane_grown.list l t) := by
  have hv : ∀ p ∈ l, (-16777216 ≤ p.f0 ∧ p.f0 ≤ 16777216) ∧ (-16777216 ≤ p.f1 ∧ p.f1 ≤ 16777216) := fun p hp => by
    unfold val24 in24 at h
    simp only [List.all_eq_true, Bool.and_eq_true, decide_eq_true_eq] at h
    exact h p hp
  have ew : wrap64 (-t) = -t := wrap_id (by omega) (by omega)
  have el : ∀ p ∈ l, wrap64 (p.f0 + wrap64 (-t)) = p.f0 - t ∧ wrap64 (p.f0 + t) = p.f0 + t ∧ wrap64 (p.f1 + wrap64 (-t)) = p.f1 - t ∧ wrap64 (p.f1 + t) = p.f1 + t := fun p hp => by
    have := hv p hp
    rw [ew]
    exact ⟨(wrap_id (by omega) (by omega)).trans (by omega), wrap_id (by omega) (by omega), (wrap_id (by omega) (by omega)).trans (by omega), wrap_id (by omega) (by omega)⟩
  have e : plane_grown.list l t = l.flatMap fun p => [⟨p.f0 - t, p.f1 - t⟩, ⟨p.f0 - t, p.f1 + t⟩, ⟨p.f0 + t, p.f1 - t⟩, ⟨p.f0 + t, p.f1 + t⟩] := by
    clear h hv
    unfold plane_grown.list
    induction l with
    | nil => rfl
    | cons p l ih =>
      obtain ⟨e1, e2, e3, e4⟩ := el p (by simp)
      rw [List.flatMap_cons, List.flatMap_cons, ih fun q hq => el q (by simp [hq]), e1, e2, e3, e4]
  rw [e]
  constructor
  · unfold pts Geo.grow
    rw [List.map_flatMap, List.flatMap_map]
    rfl
  · intro q hq
    obtain ⟨p, hp, hq⟩ := List.mem_flatMap.1 hq
    have := hv p hp
    simp only [List.mem_cons, List.mem_nil_iff, or_false] at hq
    rcases hq with rfl | rfl | rfl | rfl <;> simp only <;> omega
theorem grown_len (l : List S31) (t : Int) : (plane_grown.list l t).length = 4 * l.length := by
  unfold plane_grown.list
  induction l with
  | nil => rfl
  | cons p l ih => rw [List.flatMap_cons, List.length_append, ih]; simp; omega
theorem grown_eq {l : List S31} (h : isH l = true) {t : Int} (h0 : 0 ≤ t) (h1 : t ≤ 33554432) : plane_grown.f l t = some (hul (plane_grown.list l t)) := by
  unfold plane_grown.f
  have := isH_len h
  rw [if_pos (by omega), corners_eq (near_iff.2 (grownL_list (isH_val h) h0 h1).2) (by rw [grown_len]; omega)]
theorem val_pt {l : List S31} (h : val24 l = true) {p : S31} (hp : p ∈ l) : (-16777216 ≤ p.f0 ∧ p.f0 ≤ 16777216) ∧ (-16777216 ≤ p.f1 ∧ p.f1 ≤ 16777216) := by
  unfold val24 in24 at h
  simp only [List.all_eq_true, Bool.and_eq_true, decide_eq_true_eq] at h
  exact h p hp
end Go.Proofs.Ytkbcomgffpbcbaa.Plane
namespace Go.Proofs.Ytkbcomgffpbcbaa.Plane
open Go.RowKit Go.Proofs.YtkbcomgffpbcbaaW.PrintWords Go.Proofs.YtkbcomgffpbcbaaW.PrintLast Go.Proofs.YtkbcomgffpbcbaaW.PrintMore
set_option linter.unusedVariables false
set_option linter.unusedSimpArgs false
theorem works_ev : Ev (fun k => goosenecklaw01_works.f k) true := Ev.of goosenecklaw01_works.mono (k := 100) (by decide +kernel)
end Go.Proofs.Ytkbcomgffpbcbaa.Plane
namespace Go.Proofs.Ytkbcomgffpbcbaa.Plane
open Go.RowKit Go.Proofs.YtkbcomgffpbcbaaW.PrintWords Go.Proofs.YtkbcomgffpbcbaaW.PrintLast Go.Proofs.YtkbcomgffpbcbaaW.PrintMore
set_option linter.unusedVariables false
set_option linter.unusedSimpArgs false
theorem refIn_eq (a b c : Int) : gooseneckref01_In.f a b c = some (decide (b ≤ a) && decide (a ≤ c)) := by
  unfold gooseneckref01_In.f
  by_cases h : b ≤ a
  · rw [if_pos h]; simp [h]
  · rw [if_neg h]; simp [h]
theorem refIs_eq (p : S31) : gooseneckref01_Is.f p.f0 p.f1 = some (in24 p) := by
  unfold gooseneckref01_Is.f
  rw [refIn_eq, Option.bind_some]
  unfold in24
  split
  · rename_i h; rw [refIn_eq, Option.bind_some, h, Bool.true_and]
  · rename_i h; rw [Bool.eq_false_iff.2 h, Bool.false_and]
theorem refPoints_l0 (l : List S31) (hl : l.length ≤ 4611686018427387904) : ∀ (d i : Nat), l.length - i = d → i ≤ l.length → Ev (fun k => gooseneckref01_points.l0 k l i) (if val24 (l.drop i) then 0 else 2)
  | 0, i, hd, hi => by
    rw [List.drop_eq_nil_of_le (by omega)]
    exact Ev.step (fun k => by rw [gooseneckref01_points.l0, if_neg (by omega)]) (Ev.now 0)
  | d + 1, i, hd, hi => by
    have hlt : i < l.length := by omega
    rw [drop_cons l i hlt]
    refine Ev.step (fun k => by rw [gooseneckref01_points.l0, if_pos (by omega), if_pos (by omega)]) ?_
    rw [rd31 l i hlt]
    refine Ev.bindP (refIs_eq _) ?_
    have ih := refPoints_l0 l hl d (i + 1) (by omega) (by omega)
    rw [show val24 (l[i] :: l.drop (i + 1)) = (in24 l[i] && val24 (l.drop (i + 1))) from rfl]
    cases h : in24 l[i]
    · exact Ev.neg (by simp) (Ev.now 2)
    · refine Ev.pos rfl ?_
      rw [wrap_succ hlt hl, Bool.true_and]
      exact ih
theorem refPoints_ev (l : List S31) (hl : l.length ≤ 4611686018427387904) : Ev (fun k => gooseneckref01_points.f k l) (chkPts [l]) := by
  unfold gooseneckref01_points.f
  rw [chk_one]
  by_cases h : 256 < l.length
  · rw [if_pos h]; exact Ev.pos (by omega) (Ev.now 6)
  · rw [if_neg h]
    refine Ev.neg (by omega) ?_
    have := refPoints_l0 l hl _ 0 rfl (Nat.zero_le _)
    rw [List.drop_zero] at this
    exact this
theorem same_l0 (x y : List S31) (he : x.length = y.length) (hl : x.length ≤ 4611686018427387904) : ∀ (d i : Nat), x.length - i = d → i ≤ x.length → Ev (fun k => gooseneckref01_Same.l0 k x y i) (decide (pts (x.drop i) = pts (y.drop i)))
  | 0, i, hd, hi => by
    have e : x.drop i = [] := List.drop_eq_nil_of_le (by omega)
    have e' : y.drop i = [] := List.drop_eq_nil_of_le (by omega)
    rw [e, e']
    exact Ev.step (fun k => by rw [gooseneckref01_Same.l0, if_neg (by omega)]) (Ev.now true)
  | d + 1, i, hd, hi => by
    have hlt : i < x.length := by omega
    have hlt' : i < y.length := by omega
    rw [drop_cons x i hlt, drop_cons y i hlt', pts_cons, pts_cons]
    refine Ev.step (fun k => by rw [gooseneckref01_Same.l0, if_pos (by omega), if_pos (by omega), if_pos (by omega)]) ?_
    rw [rd31 x i hlt, rd31 y i hlt', eq31]
    have ih := same_l0 x y he hl d (i + 1) (by omega) (by omega)
    by_cases h : (x[i].f0, x[i].f1) = (y[i].f0, y[i].f1)
    · refine Ev.neg (by simp [h]) ?_
      rw [wrap_succ hlt hl, h]
      simpa using ih
    · refine Ev.pos (by simp [h]) ?_
      have : decide ((x[i].f0, x[i].f1) :: pts (x.drop (i + 1)) = (y[i].f0, y[i].f1) :: pts (y.drop (i + 1))) = false := by
        rw [decide_eq_false_iff_not]
        intro hc
        injection hc with hc _
        exact h hc
      rw [this]
      exact Ev.now false
theorem same_ev (x y : List S31) (hl : x.length ≤ 4611686018427387904) : Ev (fun k => gooseneckref01_Same.f k x y) (decide (pts x = pts y)) := by
  unfold gooseneckref01_Same.f
  by_cases h : x.length = y.length
  · refine Ev.pos (by omega) ?_
    have := same_l0 x y h hl _ 0 rfl (Nat.zero_le _)
    rw [List.drop_zero, List.drop_zero] at this
    exact this
  · refine Ev.neg (by omega) ?_
    have : decide (pts x = pts y) = false := by
      rw [decide_eq_false_iff_not]
      intro hc
      exact h (by rw [← pts_len x, ← pts_len y, hc])
    rw [this]
    exact Ev.now false
theorem sign_eq {a b c : S31} (ha : (-67108864 ≤ a.f0 ∧ a.f0 ≤ 67108864) ∧ (-67108864 ≤ a.f1 ∧ a.f1 ≤ 67108864)) (hb : (-67108864 ≤ b.f0 ∧ b.f0 ≤ 67108864) ∧ (-67108864 ≤ b.f1 ∧ b.f1 ≤ 67108864)) (hc : (-67108864 ≤ c.f0 ∧ c.f0 ≤ 67108864) ∧ (-67108864 ≤ c.f1 ∧ c.f1 ≤ 67108864)) :
    ∃ s, gooseneckref01_Sign.f a.f0 a.f1 b.f0 b.f1 c.f0 c.f1 = some s ∧ (s ≤ 0 ↔ Geo.crs (a.f0, a.f1) (b.f0, b.f1) (c.f0, c.f1) ≤ 0) := by
  have e := Option.some.inj (cross_some (a0 := a.f0) (a1 := a.f1) (b0 := b.f0) (b1 := b.f1) (c0 := c.f0) (c1 := c.f1) ⟨ha.1, ha.2⟩ ⟨hb.1, hb.2⟩ ⟨hc.1, hc.2⟩)
  unfold gooseneckref01_Sign.f
  rw [e]
  by_cases h1 : Geo.crs (a.f0, a.f1) (b.f0, b.f1) (c.f0, c.f1) > 0
  · exact ⟨1, if_pos h1, by omega⟩
  · rw [if_neg h1]
    by_cases h2 : Geo.crs (a.f0, a.f1) (b.f0, b.f1) (c.f0, c.f1) < 0
    · exact ⟨-1, if_pos h2, by omega⟩
    · exact ⟨0, if_neg h2, by omega⟩
theorem pts_append (a b : List S31) : pts (a ++ b) = pts a ++ pts b := by simp [pts]
theorem popW_snoc (x : Int × Int) (p : List (Int × Int)) (a b : Int × Int) : Geo.popW ((p ++ [a, b]).reverse) x = if Geo.crs a b x ≤ 0 then Geo.popW ((p ++ [a]).reverse) x else (p ++ [a, b]).reverse := by
  simp only [List.reverse_append, List.reverse_cons, List.reverse_nil, List.nil_append, List.cons_append]
  rw [Geo.popW]
theorem popW_short {x : Int × Int} : ∀ {l : List (Int × Int)}, l.length < 2 → Geo.popW l x = l
  | [], _ => rfl
  | [a], _ => rfl
  | a :: b :: r, h => by simp only [List.length_cons] at h; omega
theorem two_last {α : Type} {l : List α} (h : 2 ≤ l.length) : ∃ p a b, l = p ++ [a, b] := by
  rcases List.eq_nil_or_concat l with rfl | ⟨l1, b, rfl⟩
  · simp at h
  · rcases List.eq_nil_or_concat l1 with rfl | ⟨p, a, rfl⟩
    · simp at h
    · exact ⟨p, a, b, by simp⟩
def stF (l : List S31) (i : Nat) : List (Int × Int) := (pts (l.take i)).foldl Geo.push []
def stkR (l : List S31) (i : Nat) : List S31 := (stF l i).reverse.map mkP
theorem stF_succ (l : List S31) (i : Nat) (hi : i < l.length) : stF l (i + 1) = (l[i].f0, l[i].f1) :: Geo.popW (stF l i) (l[i].f0, l[i].f1) := by
  unfold stF
  rw [List.take_succ_eq_append_getElem hi, pts_append, List.foldl_append]
  rfl
theorem stkR_of (l : List S31) (i : Nat) (hi : i < l.length) {st : List S31} (h : (pts st).reverse = Geo.popW (stF l i) (l[i].f0, l[i].f1)) : stkR l (i + 1) = st ++ [l[i]] := by
  unfold stkR
  rw [stF_succ l i hi, ← h, List.reverse_cons, List.reverse_reverse, List.map_append, mkP_pts]
  rfl
theorem side_l1 (l : List S31) (hl : l.length ≤ 65536) (hn : Near l) (i : Nat) (hi : i < l.length) (r : List S31) (hnext : Ev (fun k => gooseneckref01_side.l0 k l (stkR l (i + 1)) ((i + 1 : Nat) : Int)) r) :
    ∀ (n : Nat) (st : List S31), st.length = n → (∀ p ∈ st, p ∈ l) → st.length ≤ i → Geo.popW (pts st).reverse (l[i].f0, l[i].f1) = Geo.popW (stF l i) (l[i].f0, l[i].f1) → Ev (fun k => gooseneckref01_side.l1 k l st i) r := by
  have hw : wrap64 ((i : Int) + 1) = ((i + 1 : Nat) : Int) := wrap_succ hi (by omega)
  have eP : (⟨l[i].f0, l[i].f1⟩ : S31) = l[i] := rfl
  intro n
  induction n with
  | zero =>
    intro st hn' hm hs hp
    have e : st = [] := List.length_eq_zero_iff.1 hn'
    subst e
    rw [show pts ([] : List S31) = [] from rfl, List.reverse_nil, popW_short (by simp)] at hp
    have hst := stkR_of l i hi (st := []) hp
    rw [List.nil_append] at hst
    refine Ev.step (fun k => by rw [gooseneckref01_side.l1, if_neg (by simp)]) ?_
    refine Ev.bindP rfl (Ev.pos (by simp) (Ev.bindP rfl (Ev.pos (by omega) (Ev.pos (by omega) (Ev.bindP rfl (Ev.pos (by simp) ?_))))))
    rw [rd31 l i hi, eP, hw, List.nil_append, List.nil_append, ← hst]
    exact hnext
  | succ n ih =>
    intro st hn' hm hs hp
    by_cases h2 : 2 ≤ st.length
    · obtain ⟨p, a, b, rfl⟩ := two_last h2
      have hlen : (p ++ [a, b]).length = p.length + 2 := by simp
      have e2 : wrap64 (((p ++ [a, b]).length : Int) - 2) = (p.length : Int) := by rw [hlen, wrap_id (by omega) (by omega)]; omega
      have e1 : wrap64 (((p ++ [a, b]).length : Int) - 1) = ((p.length + 1 : Nat) : Int) := by rw [hlen, wrap_id (by omega) (by omega)]; omega
      have ga : rd_T31 (p ++ [a, b]) (p.length : Int) = a := by rw [rd31 _ _ (by simp)]; simp
      have gb : rd_T31 (p ++ [a, b]) ((p.length + 1 : Nat) : Int) = b := by rw [rd31 _ _ (by simp)]; simp
      have hma := hn a (hm a (by simp))
      have hmb := hn b (hm b (by simp))
      have hmx := hn l[i] (List.getElem_mem hi)
      obtain ⟨s, hs1, hs2⟩ := sign_eq hma hmb hmx
      rw [show pts (p ++ [a, b]) = pts p ++ [(a.f0, a.f1), (b.f0, b.f1)] from pts_append _ _, popW_snoc] at hp
      refine Ev.step (fun k => by rw [gooseneckref01_side.l1, if_pos (by omega), e2, e1, if_pos (by omega), if_pos (by omega), if_pos (by omega), if_pos (by omega), if_pos (by omega), if_pos (by omega), ga, gb, rd31 l i hi]) ?_
      refine Ev.bindP hs1 ?_
      by_cases hc : s ≤ 0
      · rw [if_pos (hs2.1 hc)] at hp
        refine Ev.pos hc (Ev.pos (by rw [hlen]; omega) ?_)
        rw [Int.toNat_natCast]
        have et : (p ++ [a, b]).take (p.length + 1) = p ++ [a] := by rw [show p ++ [a, b] = (p ++ [a]) ++ [b] by simp]; exact List.take_left' (by simp)
        rw [et]
        refine ih (p ++ [a]) (by rw [hlen] at hn'; simp; omega) (fun q hq => hm q (by simp at hq ⊢; rcases hq with h | h <;> simp [h])) (by simp; rw [hlen] at hs; omega) ?_
        rw [show pts (p ++ [a]) = pts p ++ [(a.f0, a.f1)] from pts_append _ _]
        exact hp
      · rw [if_neg (fun h => hc (hs2.2 h))] at hp
        have hst := stkR_of l i hi (st := p ++ [a, b]) (by rw [show pts (p ++ [a, b]) = pts p ++ [(a.f0, a.f1), (b.f0, b.f1)] from pts_append _ _]; exact hp)
        refine Ev.neg hc (Ev.bindP rfl (Ev.pos (by rw [hlen]; simp only [List.length_nil]; omega) (Ev.bindP rfl (Ev.bindP rfl (Ev.pos (by rw [List.nil_append, hlen]; simp only [List.length_cons, List.length_nil]; omega) ?_)))))
        rw [eP, hw, List.nil_append, ← hst]
        exact hnext
    · rw [popW_short (by rw [List.length_reverse, pts_len]; omega)] at hp
      have hst := stkR_of l i hi (st := st) hp
      refine Ev.step (fun k => by rw [gooseneckref01_side.l1, if_neg (by omega)]) ?_
      refine Ev.bindP rfl (Ev.pos (by simp only [List.length_nil]; omega) (Ev.bindP rfl (Ev.pos (by omega) (Ev.pos (by omega) (Ev.bindP rfl (Ev.pos (by rw [List.nil_append]; simp only [List.length_cons, List.length_nil]; omega) ?_))))))
      rw [rd31 l i hi, eP, hw, List.nil_append, ← hst]
      exact hnext
theorem popW_sub {x p : Int × Int} : ∀ {l : List (Int × Int)}, p ∈ Geo.popW l x → p ∈ l
  | [], h => h
  | [a], h => h
  | a :: b :: r, h => by
    rw [Geo.popW] at h
    split at h
    · exact List.mem_cons_of_mem _ (popW_sub h)
    · exact h
theorem popW_len (x : Int × Int) : ∀ (l : List (Int × Int)), (Geo.popW l x).length ≤ l.length
  | [] => Nat.le_refl _
  | [a] => Nat.le_refl _
  | a :: b :: r => by
    rw [Geo.popW]
    split
    · have := popW_len x (b :: r); simp only [List.length_cons] at this ⊢; omega
    · exact Nat.le_refl _
theorem stF_spec (l : List S31) : ∀ (i : Nat), i ≤ l.length → (stF l i).length ≤ i ∧ ∀ p ∈ stF l i, p ∈ pts l
  | 0, _ => ⟨by simp [stF, pts], by simp [stF, pts]⟩
  | i + 1, hi => by
    obtain ⟨h1, h2⟩ := stF_spec l i (by omega)
    rw [stF_succ l i (by omega)]
    have := popW_len (l[i].f0, l[i].f1) (stF l i)
    refine ⟨by simp only [List.length_cons]; omega, fun p hp => ?_⟩
    rcases List.mem_cons.1 hp with rfl | hp
    · exact mem_pts' (List.getElem_mem (by omega))
    · exact h2 p (popW_sub hp)
theorem stkR_spec (l : List S31) (i : Nat) (hi : i ≤ l.length) : (stkR l i).length ≤ i ∧ ∀ p ∈ stkR l i, p ∈ l := by
  obtain ⟨h1, h2⟩ := stF_spec l i hi
  unfold stkR
  refine ⟨by rw [List.length_map, List.length_reverse]; exact h1, fun p hp => ?_⟩
  obtain ⟨q, hq, rfl⟩ := List.mem_map.1 hp
  exact mem_pts.1 (h2 q (List.mem_reverse.1 hq))
theorem pts_stkR (l : List S31) (i : Nat) : (pts (stkR l i)).reverse = stF l i := by unfold stkR; rw [pts_mkP, List.reverse_reverse]
theorem side_l0 (l : List S31) (hl : l.length ≤ 65536) (hn : Near l) : ∀ (d i : Nat), l.length - i = d → i ≤ l.length → Ev (fun k => gooseneckref01_side.l0 k l (stkR l i) (i : Int)) (stkR l l.length)
  | 0, i, hd, hi => by
    have e : i = l.length := by omega
    subst e
    exact Ev.step (fun k => by rw [gooseneckref01_side.l0, if_neg (by omega)]) (Ev.now _)
  | d + 1, i, hd, hi => by
    have hlt : i < l.length := by omega
    obtain ⟨h1, h2⟩ := stkR_spec l i hi
    refine Ev.step (fun k => by rw [gooseneckref01_side.l0, if_pos (by omega)]) ?_
    exact side_l1 l hl hn i hlt _ (side_l0 l hl hn d (i + 1) (by omega) (by omega)) _ (stkR l i) rfl h2 h1 (by rw [pts_stkR])
theorem side_ev (l : List S31) (hl : l.length ≤ 65536) (hn : Near l) : Ev (fun k => gooseneckref01_side.f k l) ((Geo.low (pts l)).map mkP) := by
  unfold gooseneckref01_side.f
  have h := side_l0 l hl hn _ 0 rfl (Nat.zero_le _)
  have e : stkR l l.length = (Geo.low (pts l)).map mkP := by
    unfold stkR stF Geo.low Geo.chainR
    rw [List.take_length]
  rw [e] at h
  exact h
end Go.Proofs.Ytkbcomgffpbcbaa.Plane
namespace Go.Proofs.Ytkbcomgffpbcbaa.Plane
open Go.RowKit Go.Proofs.YtkbcomgffpbcbaaW.PrintWords Go.Proofs.YtkbcomgffpbcbaaW.PrintLast Go.Proofs.YtkbcomgffpbcbaaW.PrintMore
set_option linter.unusedVariables false
set_option linter.unusedSimpArgs false
theorem low_ne {s : List (Int × Int)} (h : s ≠ []) : Geo.low s ≠ [] := by
  unfold Geo.low Geo.chainR
  rcases List.eq_nil_or_concat s with rfl | ⟨p, x, rfl⟩
  · exact absurd rfl h
  · rw [List.concat_eq_append, List.foldl_append]
    simp [Geo.push]
theorem low_len (s : List S31) : ((Geo.low (pts s)).map mkP).length ≤ s.length := by
  have e : (Geo.low (pts s)).map mkP = stkR s s.length := by
    unfold stkR stF Geo.low Geo.chainR
    rw [List.take_length]
  rw [e]
  exact (stkR_spec s s.length (Nat.le_refl _)).1
def srt (l : List S31) : List S31 := (Geo.canon (pts l)).map mkP
theorem pts_srt (l : List S31) : pts (srt l) = Geo.canon (pts l) := pts_mkP _
theorem srt_sub {l : List S31} {p : S31} (h : p ∈ srt l) : p ∈ l := by
  obtain ⟨q, hq, rfl⟩ := List.mem_map.1 h
  exact mem_pts.1 (Geo.mem_canon.1 hq)
theorem srt_len (l : List S31) : (srt l).length ≤ l.length := by
  have := List.Nodup.length_le_of_subset (Geo.Two.sorted_nodup (Geo.canon_sorted (pts l))) (fun x hx => (Geo.mem_canon.1 hx : x ∈ pts l))
  unfold srt
  rw [List.length_map]
  rwa [pts_len] at this
theorem cut_last {α : Type} (l : List α) : l.take (l.length - 1) = l.dropLast := List.dropLast_eq_take.symm
theorem corners_l0 (s : List S31) (hl : s.length ≤ 65536) (hn : Near s) (hne : s ≠ []) : ∀ (n : Nat), n ≤ s.length → Ev (fun k => gooseneckref01_Corners.l0 k s ((s.drop n).reverse) ((n : Int) - 1)) (((Geo.low (pts s)).map mkP).dropLast ++ ((Geo.low (pts s.reverse)).map mkP).dropLast)
  | 0, h => by
    have hp : 0 < s.length := List.length_pos_iff.2 hne
    rw [List.drop_zero]
    have e1 := side_ev s hl hn
    have e2 := side_ev s.reverse (by simpa using hl) (near_sub hn fun p hp => List.mem_reverse.1 hp)
    have l1 : 0 < ((Geo.low (pts s)).map mkP).length := by rw [List.length_map]; exact List.length_pos_iff.2 (low_ne (pts_ne hne))
    have l2 : 0 < ((Geo.low (pts s.reverse)).map mkP).length := by rw [List.length_map]; exact List.length_pos_iff.2 (low_ne (pts_ne (by simpa using hne)))
    have u1 := low_len s
    have u2 := low_len s.reverse
    rw [List.length_reverse] at u2
    generalize (Geo.low (pts s)).map mkP = a at *
    generalize (Geo.low (pts s.reverse)).map mkP = b at *
    have w1 : wrap64 ((a.length : Int) - 1) = ((a.length - 1 : Nat) : Int) := by rw [wrap_id (by omega) (by omega)]; omega
    have w2 : wrap64 ((b.length : Int) - 1) = ((b.length - 1 : Nat) : Int) := by rw [wrap_id (by omega) (by omega)]; omega
    refine Ev.step (fun k => by rw [gooseneckref01_Corners.l0, if_neg (by omega)]) ?_
    refine Ev.bind e1 (Ev.bind e2 (Ev.bindP rfl ?_))
    simp only [w1, w2, Int.toNat_natCast, cut_last]
    refine Ev.pos (by omega) (Ev.pos (by omega) (Ev.bindP rfl (Ev.pos (by simp; omega) (Ev.bindP rfl (Ev.pos (by omega) (Ev.pos (by omega) (Ev.bindP rfl (Ev.pos (by simp; omega) ?_))))))))
    rw [List.nil_append]
    exact Ev.now _
  | n + 1, h => by
    have hlt : n < s.length := by omega
    have ih := corners_l0 s hl hn hne n (by omega)
    have ew : wrap64 (((n + 1 : Nat) : Int) - 1 - 1) = (n : Int) - 1 := by rw [wrap_id (by omega) (by omega)]; omega
    have en : ((n + 1 : Nat) : Int) - 1 = (n : Int) := by omega
    refine Ev.step (fun k => by rw [gooseneckref01_Corners.l0, if_pos (by omega), if_pos (by omega), if_pos (by omega), if_pos (by simp; omega), ew, en]) ?_
    rw [rd31 s n hlt, show (⟨s[n].f0, s[n].f1⟩ : S31) = s[n] from rfl]
    rw [drop_cons s n hlt, List.reverse_cons] at ih
    exact ih
theorem refCorners_ev (l : List S31) (hl : l.length ≤ 65536) (hn : Near l) : Ev (fun k => gooseneckref01_Corners.f k l) (hul l) := by
  unfold gooseneckref01_Corners.f
  have hs : gooseneckref01_sorted.f l = some (srt l) := by unfold gooseneckref01_sorted.f; rw [if_pos hl]; rfl
  have hsl := srt_len l
  refine Ev.bindP hs ?_
  by_cases h2 : (srt l).length < 2
  · have e : hul l = srt l := by
      unfold hul srt Geo.hull Geo.hullS
      rw [if_pos (by have := pts_len (srt l); rw [pts_srt] at this; omega)]
    rw [e]
    exact Ev.pos (by omega) (Ev.now _)
  · have hne : srt l ≠ [] := by intro e; rw [e] at h2; simp at h2
    refine Ev.neg (by omega) ?_
    have h := corners_l0 (srt l) (by omega) (near_sub hn fun p hp => srt_sub hp) hne (srt l).length (Nat.le_refl _)
    rw [List.drop_eq_nil_of_le (Nat.le_refl _), List.reverse_nil] at h
    have ew : wrap64 (((srt l).length : Int) - 1) = ((srt l).length : Int) - 1 := wrap_id (by omega) (by omega)
    rw [ew]
    have e : hul l = ((Geo.low (pts (srt l))).map mkP).dropLast ++ ((Geo.low (pts (srt l).reverse)).map mkP).dropLast := by
      unfold hul Geo.hull Geo.hullS
      rw [if_neg (by have := pts_len (srt l); rw [pts_srt] at this; omega), List.map_append, List.map_dropLast, List.map_dropLast]
      have er : pts (srt l).reverse = (Geo.canon (pts l)).reverse := by rw [← pts_srt]; unfold pts; rw [List.map_reverse]
      rw [pts_srt, er]
      rfl
    rw [e]
    exact h
def hullA (l : List S31) : List S31 × Int := if chkPts [l] = 0 then (if l = [] then ([], 5) else (hul l, 0)) else ([], chkPts [l])
theorem hull_gen (l : List S31) (hl : l.length ≤ 4611686018427387904) : Ev (fun k => plane_Hull.f k l) (hullA l) := by
  have hc := checkPoints_ev [l] (by simp)
  unfold plane_Hull.f
  refine Ev.bind hc ?_
  by_cases h0 : chkPts [l] = 0
  · have e : hullA l = if l = [] then ([], 5) else (hul l, 0) := if_pos h0
    rw [e]
    refine Ev.pos h0 ?_
    obtain ⟨h1, h2⟩ := chk_zero.1 h0
    by_cases hn : l = []
    · subst hn; exact Ev.pos rfl (Ev.now _)
    · have : 0 < l.length := List.length_pos_iff.2 hn
      have e' : (if l = [] then (([] : List S31), (5 : Int)) else (hul l, 0)) = (hul l, 0) := if_neg hn
      rw [e']
      exact Ev.neg (by omega) (Ev.bindP (corners_eq (near_of_val h2) (by omega)) (Ev.now _))
  · have e : hullA l = ([], chkPts [l]) := if_neg h0
    rw [e]
    exact Ev.neg h0 (Ev.now _)
theorem refHull_gen (l : List S31) (hl : l.length ≤ 4611686018427387904) : Ev (fun k => gooseneckref01_Hull.f k l) (hullA l) := by
  have hc := refPoints_ev l hl
  unfold gooseneckref01_Hull.f hullA
  refine Ev.bind hc ?_
  by_cases h0 : chkPts [l] = 0
  · rw [if_pos h0]
    refine Ev.pos h0 ?_
    obtain ⟨h1, h2⟩ := chk_zero.1 h0
    by_cases hn : l = []
    · subst hn; exact Ev.pos rfl (Ev.now _)
    · have : 0 < l.length := List.length_pos_iff.2 hn
      rw [if_neg hn]
      exact Ev.neg (by omega) (Ev.bind (refCorners_ev l (by omega) (near_of_val' h2)) (Ev.now _))
  · rw [if_neg h0]; exact Ev.neg h0 (Ev.now _)
theorem refIsHull_ev (l : List S31) (hl : l.length ≤ 4611686018427387904) : Ev (fun k => gooseneckref01_IsHull.f k l) (isH l) := by
  have hc := refPoints_ev l hl
  unfold gooseneckref01_IsHull.f isH
  refine Ev.bind hc ?_
  by_cases h0 : chkPts [l] = 0
  · refine Ev.pos h0 ?_
    obtain ⟨h1, h2⟩ := chk_zero.1 h0
    by_cases hn : l = []
    · subst hn; exact Ev.neg (by simp) (Ev.now false)
    · have hp : 0 < l.length := List.length_pos_iff.2 hn
      have e : l.isEmpty = false := by simpa using hn
      rw [e, h0]
      have := same_ev (hul l) l (by have := hul_len l; omega)
      refine Ev.pos (by omega) (Ev.bind (refCorners_ev l (by omega) (near_of_val' h2)) (Ev.bind this ?_))
      exact Ev.now _
  · refine Ev.neg h0 ?_
    have : (chkPts [l] == 0) = false := by simpa using h0
    rw [this, Bool.false_and, Bool.and_false]
    exact Ev.now false
theorem chkH_one (l : List S31) : chkH [l] = if 256 < l.length then 6 else if isH l then 0 else 2 := by
  unfold chkH
  rw [chk_one]
  by_cases h : 256 < l.length
  · rw [if_pos h, if_neg (by omega), if_pos h]
  · rw [if_neg h, if_neg h]
    by_cases hv : val24 l = true
    · rw [if_pos hv, if_pos rfl]
      simp
    · rw [if_neg hv, if_neg (by omega)]
      have : isH l = false := by
        cases hi : isH l
        · rfl
        · exact absurd (isH_val hi) hv
      rw [this]
      rfl
theorem refHulls_ev (l : List S31) (hl : l.length ≤ 4611686018427387904) : Ev (fun k => gooseneckref01_hulls.f k l l) (chkH [l]) := by
  have hc := refPoints_ev l hl
  have hi := refIsHull_ev l hl
  unfold gooseneckref01_hulls.f
  rw [chkH_one]
  by_cases h : 256 < l.length
  · rw [if_pos h]
    exact Ev.pos (by omega) (Ev.step (fun k => by rw [gooseneckref01_hulls.j0, if_pos rfl]) (Ev.now 6))
  · rw [if_neg h]
    refine Ev.neg (by omega) (Ev.step (fun k => by rw [gooseneckref01_hulls.j0, if_neg (by simp; omega)]) ?_)
    refine Ev.bind hc ?_
    by_cases h0 : chkPts [l] = 0
    · refine Ev.pos h0 (Ev.bind hc (Ev.pos h0 (Ev.bind hi ?_)))
      cases hb : isH l
      · exact Ev.neg (by simp) (Ev.now 2)
      · rw [hb] at hi
        exact Ev.pos rfl (Ev.bind hi (Ev.pos rfl (Ev.now 0)))
    · have : isH l = false := by
        cases hi : isH l
        · rfl
        · exact absurd (chk_zero.2 ⟨isH_len hi, isH_val hi⟩) h0
      rw [this]
      exact Ev.neg h0 (Ev.now 2)
def insA (h : List S31) (p : S31) : Bool × Int := if chkH [h] = 0 then (if in24 p then (decide (Geo.hull (pts h ++ [(p.f0, p.f1)]) = pts h), 0) else (false, 2)) else (false, chkH [h])
theorem has_iff {h : List S31} (hh : isH h = true) (p : Int × Int) : Geo.hull (pts h ++ [p]) = pts h ↔ ¬ Geo.Sep (pts h) [p] :=
  ⟨Geo.not_sep_of_has, Geo.has_of_not_sep (isH_hull hh) (pts_ne (isH_ne hh))⟩
theorem inside_gen (h : List S31) (p : S31) (hl : h.length ≤ 4611686018427387904) : Ev (fun k => plane_Inside.f k h p.f0 p.f1) (insA h p) := by
  obtain ⟨r, hE, h1, h2, h3⟩ := inside_ev h p.f0 p.f1 hl
  have e : r = insA h p := by
    unfold insA
    by_cases h0 : chkH [h] = 0
    · rw [if_pos h0]
      cases hp : in24 p
      · rw [h2 h0 hp]; rfl
      · obtain ⟨k1, k2⟩ := h3 h0 hp
        have hh : isH h = true := by have := chkH_zero.1 h0; simpa using this
        have : r.1 = decide (Geo.hull (pts h ++ [(p.f0, p.f1)]) = pts h) := by
          rw [← has_iff hh] at k2
          cases hb : r.1
          · rw [hb] at k2
            symm
            rw [decide_eq_false_iff_not]
            intro hc
            exact Bool.false_ne_true (k2.2 hc)
          · symm; rw [decide_eq_true_eq]; exact k2.1 hb
        exact Prod.ext this k1
    · rw [if_neg h0, h1 h0]
  rw [← e]
  exact hE
theorem refHas_ev {h : List S31} (hh : isH h = true) {p : S31} (hp : in24 p = true) : Ev (fun k => gooseneckref01_Has.f k h p.f0 p.f1) (decide (Geo.hull (pts h ++ [(p.f0, p.f1)]) = pts h)) := by
  have hl := isH_len hh
  have hn : Near (h ++ [p]) := by
    refine near_of_val' ?_
    unfold val24
    rw [List.all_append]
    have := isH_val hh
    unfold val24 at this
    rw [this]
    simp [hp]
  have hc := refCorners_ev (h ++ [p]) (by simp; omega) hn
  have hs := same_ev (hul (h ++ [p])) h (by have := hul_len (h ++ [p]); simp at this; omega)
  rw [pts_hul, pts_append] at hs
  unfold gooseneckref01_Has.f
  refine Ev.bindP rfl (Ev.pos (by simp; omega) (Ev.bindP rfl (Ev.bindP rfl (Ev.pos (by simp; omega) ?_))))
  rw [List.nil_append]
  exact Ev.bind hc (Ev.bind hs (Ev.now _))
theorem refInside_gen (h : List S31) (p : S31) (hl : h.length ≤ 4611686018427387904) : Ev (fun k => gooseneckref01_Inside.f k h p.f0 p.f1) (insA h p) := by
  unfold gooseneckref01_Inside.f insA
  refine Ev.bind (refHulls_ev h hl) ?_
  by_cases h0 : chkH [h] = 0
  · rw [if_pos h0]
    have hh : isH h = true := by have := chkH_zero.1 h0; simpa using this
    refine Ev.pos h0 (Ev.bindP (refIs_eq p) ?_)
    cases hp : in24 p
    · exact Ev.neg (by simp) (Ev.now _)
    · exact Ev.pos rfl (Ev.bind (refHas_ev hh hp) (Ev.now _))
  · rw [if_neg h0]; exact Ev.neg h0 (Ev.now _)
end Go.Proofs.Ytkbcomgffpbcbaa.Plane
namespace Go.Proofs.Ytkbcomgffpbcbaa.Plane
open Go.RowKit Go.Proofs.YtkbcomgffpbcbaaW.PrintWords Go.Proofs.YtkbcomgffpbcbaaW.PrintLast Go.Proofs.YtkbcomgffpbcbaaW.PrintMore
set_option linter.unusedVariables false
set_option linter.unusedSimpArgs false
def sumR (f : Nat → Int) : Nat → Nat → Int
  | _, 0 => 0
  | i, d + 1 => f i + sumR f (i + 1) d
theorem sumR_last (f : Nat → Int) : ∀ (d i : Nat), sumR f i (d + 1) = sumR f i d + f (i + d)
  | 0, i => by simp [sumR]
  | d + 1, i => by
    have h := sumR_last f d (i + 1)
    rw [sumR, h, sumR]
    rw [show i + 1 + d = i + (d + 1) by omega]
    omega
def fan (l : List S31) (i : Nat) : Int := Geo.crs (Geo.cy (pts l) 0) (Geo.cy (pts l) i) (Geo.cy (pts l) (i + 1))
theorem cy24 {l : List S31} (h : val24 l = true) (hne : l ≠ []) (i : Nat) : (-16777216 ≤ (Geo.cy (pts l) i).1 ∧ (Geo.cy (pts l) i).1 ≤ 16777216) ∧ (-16777216 ≤ (Geo.cy (pts l) i).2 ∧ (Geo.cy (pts l) i).2 ≤ 16777216) :=
  val_pt h (mem_pts.1 (Geo.cy_mem (pts_ne hne) i))
theorem crs_bound {a b c : Int × Int} (ha : (-16777216 ≤ a.1 ∧ a.1 ≤ 16777216) ∧ (-16777216 ≤ a.2 ∧ a.2 ≤ 16777216)) (hb : (-16777216 ≤ b.1 ∧ b.1 ≤ 16777216) ∧ (-16777216 ≤ b.2 ∧ b.2 ≤ 16777216)) (hc : (-16777216 ≤ c.1 ∧ c.1 ≤ 16777216) ∧ (-16777216 ≤ c.2 ∧ c.2 ≤ 16777216)) : -2251799813685248 ≤ Geo.crs a b c ∧ Geo.crs a b c ≤ 2251799813685248 := by
  have m1 := mul_bound (u := b.1 - a.1) (v := c.2 - a.2) (A := 33554432) (B := 33554432) (by omega) (by omega) (by omega) (by omega)
  have m2 := mul_bound (u := b.2 - a.2) (v := c.1 - a.1) (A := 33554432) (B := 33554432) (by omega) (by omega) (by omega) (by omega)
  unfold Geo.crs
  omega
theorem fan_bound {l : List S31} (h : val24 l = true) (hne : l ≠ []) (i : Nat) : -2251799813685248 ≤ fan l i ∧ fan l i ≤ 2251799813685248 := crs_bound (cy24 h hne 0) (cy24 h hne i) (cy24 h hne (i + 1))
theorem near_of24 {p : S31} (h : (-16777216 ≤ p.f0 ∧ p.f0 ≤ 16777216) ∧ (-16777216 ≤ p.f1 ∧ p.f1 ≤ 16777216)) : (-67108864 ≤ p.f0 ∧ p.f0 ≤ 67108864) ∧ -67108864 ≤ p.f1 ∧ p.f1 ≤ 67108864 := by omega
def sideOf (l : List S31) (i : Nat) : S31 × S31 := (l.getD i z31, l.getD ((i + 1) % l.length) z31)
theorem area_sums {l : List S31} (h : val24 l = true) (hl : l.length ≤ 256) : ∀ (d i : Nat) (s : Int), i + d = l.length → -(2251799813685248 * (i : Int)) ≤ s → s ≤ 2251799813685248 * (i : Int) →
    plane_Area.sum (l.getD 0 z31) ((List.range' i d).map (sideOf l)) s = some (s + sumR (fan l) i d)
  | 0, i, s, _, _, _ => by simp [plane_Area.sum, sumR]
  | d + 1, i, s, hd, h1, h2 => by
    have hp : 0 < l.length := by omega
    have hne : l ≠ [] := List.length_pos_iff.1 hp
    have hi : i < l.length := by omega
    have hm : (i + 1) % l.length < l.length := Nat.mod_lt _ hp
    have e0 := cy_pts l 0 hp
    have e1 := cy_pts l i hi
    have e2 := cy_pts_mod l (i + 1) hp
    have v0 := val_pt h (List.getElem_mem hp)
    have v1 := val_pt h (List.getElem_mem hi)
    have v2 := val_pt h (List.getElem_mem hm)
    have hb := fan_bound h hne i
    have hf : fan l i = Geo.crs (l[0].f0, l[0].f1) (l[i].f0, l[i].f1) ((l[(i + 1) % l.length]'hm).f0, (l[(i + 1) % l.length]'hm).f1) := by unfold fan; rw [e0, e1, e2]
    rw [List.range'_succ, List.map_cons, show sideOf l i = (l[i], l[(i + 1) % l.length]'hm) by unfold sideOf; rw [getD31 l i hi, getD31 l _ hm], getD31 l 0 hp]
    rw [plane_Area.sum, cross_some (near_of24 v0) (near_of24 v1) (near_of24 v2), Option.bind_some, ← hf, wrap_id (x := s + fan l i) (by omega) (by omega)]
    have ih := area_sums h hl d (i + 1) (s + fan l i) (by omega) (by omega) (by omega)
    rw [getD31 l 0 hp] at ih
    rw [ih, sumR]
    simp only [Option.some.injEq]
    omega
theorem fan_ends {l : List S31} (hp : 0 < l.length) : fan l 0 = 0 ∧ fan l (l.length - 1) = 0 := by
  unfold fan
  refine ⟨Geo.crs_self1 _ _, ?_⟩
  have : Geo.cy (pts l) (l.length - 1 + 1) = Geo.cy (pts l) 0 := by
    have := Geo.cy_add (h := pts l) 0
    rw [pts_len, Nat.zero_add] at this
    rw [show l.length - 1 + 1 = l.length by omega, this]
  rw [this]
  exact Geo.crs_self3 _ _
def areaA (l : List S31) : Int × Int := if chkH [l] = 0 then (sumR (fan l) 1 (l.length - 2), 0) else (0, chkH [l])
theorem area_gen (l : List S31) (hl : l.length ≤ 4611686018427387904) : Ev (fun k => plane_Area.f k l) (areaA l) := by
  have hc := checkHulls_ev [l] (by simp) (fun x hx => by rw [List.mem_singleton] at hx; subst hx; exact hl)
  unfold plane_Area.f
  refine Ev.bind hc ?_
  by_cases h0 : chkH [l] = 0
  · have hh : isH l = true := by have := chkH_zero.1 h0; simpa using this
    have hp : 0 < l.length := List.length_pos_iff.2 (isH_ne hh)
    have e : areaA l = (sumR (fan l) 1 (l.length - 2), 0) := if_pos h0
    rw [e]
    refine Ev.pos h0 ?_
    have hn : ¬ (l = [] ∨ 65536 < l.length) := by
      rintro (h | h)
      · exact isH_ne hh h
      · have := isH_len hh; omega
    rw [if_neg hn]
    have hs := area_sums (isH_val hh) (isH_len hh) l.length 0 0 (by omega) (by omega) (by omega)
    rw [← List.range_eq_range'] at hs
    have hs' : plane_Area.sum (l.getD 0 z31) ((List.range l.length).map fun i => (l.getD i z31, l.getD ((i + 1) % l.length) z31)) 0 = some (0 + sumR (fan l) 0 l.length) := hs
    rw [hs', Option.bind_some]
    obtain ⟨f0, f1⟩ := fan_ends hp
    have es : 0 + sumR (fan l) 0 l.length = sumR (fan l) 1 (l.length - 2) := by
      obtain ⟨n, hn⟩ : ∃ n, l.length = n + 1 := ⟨l.length - 1, by omega⟩
      rw [hn] at f1 ⊢
      rw [sumR, f0]
      cases n with
      | zero => simp [sumR]
      | succ n =>
        rw [sumR_last, show 1 + n = n + 1 + 1 - 1 by omega, f1]
        simp
    rw [es]
    exact Ev.now _
  · have e : areaA l = (0, chkH [l]) := if_neg h0
    rw [e]
    exact Ev.neg h0 (Ev.now _)
theorem refArea_l0 {l : List S31} (h : val24 l = true) (hl : l.length ≤ 256) : ∀ (d i : Nat) (s : Int), d = l.length - 1 - i → 1 ≤ i → -(2251799813685248 * (i : Int)) ≤ s → s ≤ 2251799813685248 * (i : Int) → i < l.length + 1 →
    Ev (fun k => gooseneckref01_Area.l0 k l s (i : Int)) (s + sumR (fan l) i d, 0)
  | 0, i, s, hd, h0, h1, h2, h3 => by
    have ew : wrap64 ((i : Int) + 1) = ((i + 1 : Nat) : Int) := by rw [wrap_id (by omega) (by omega)]; rfl
    refine Ev.step (fun k => by rw [gooseneckref01_Area.l0, ew, if_neg (by omega)]) ?_
    simp only [sumR, Int.add_zero]
    exact Ev.now _
  | d + 1, i, s, hd, h0, h1, h2, h3 => by
    have hi1 : i + 1 < l.length := by omega
    have hp : 0 < l.length := by omega
    have hne : l ≠ [] := List.length_pos_iff.1 hp
    have hi : i < l.length := by omega
    have ew : wrap64 ((i : Int) + 1) = ((i + 1 : Nat) : Int) := wrap_succ hi (by omega)
    have v0 := val_pt h (List.getElem_mem hp)
    have v1 := val_pt h (List.getElem_mem hi)
    have v2 := val_pt h (List.getElem_mem hi1)
    have hb := fan_bound h hne i
    have hf : fan l i = Geo.crs (l[0].f0, l[0].f1) (l[i].f0, l[i].f1) (l[i + 1].f0, l[i + 1].f1) := by unfold fan; rw [cy_pts l 0 hp, cy_pts l i hi, cy_pts l (i + 1) hi1]
    have m1 := mul_bound (u := l[i].f0 - l[0].f0) (v := l[i + 1].f1 - l[0].f1) (A := 33554432) (B := 33554432) (by omega) (by omega) (by omega) (by omega)
    have m2 := mul_bound (u := l[i].f1 - l[0].f1) (v := l[i + 1].f0 - l[0].f0) (A := 33554432) (B := 33554432) (by omega) (by omega) (by omega) (by omega)
    have g0 : rd_T31 l 0 = l[0] := rd31 l 0 hp
    refine Ev.step (fun k => by rw [gooseneckref01_Area.l0, ew, if_pos (by omega), if_pos (by omega), if_pos (by omega), if_pos (by omega), if_pos (by omega), rd31 l i hi, rd31 l (i + 1) hi1, g0]) ?_
    have ev : wrap64 (wrap64 (s + wrap64 (wrap64 (l[i].f0 - l[0].f0) * wrap64 (l[i + 1].f1 - l[0].f1))) - wrap64 (wrap64 (l[i].f1 - l[0].f1) * wrap64 (l[i + 1].f0 - l[0].f0))) = s + fan l i := by
      rw [wrap_id (x := l[i].f0 - l[0].f0) (by omega) (by omega), wrap_id (x := l[i + 1].f1 - l[0].f1) (by omega) (by omega), wrap_id (x := l[i].f1 - l[0].f1) (by omega) (by omega), wrap_id (x := l[i + 1].f0 - l[0].f0) (by omega) (by omega)]
      rw [wrap_id (x := (l[i].f0 - l[0].f0) * (l[i + 1].f1 - l[0].f1)) (by omega) (by omega), wrap_id (x := (l[i].f1 - l[0].f1) * (l[i + 1].f0 - l[0].f0)) (by omega) (by omega), wrap_id (x := s + _) (by omega) (by omega), wrap_id (by omega) (by omega), hf]
      unfold Geo.crs
      simp only
      omega
    rw [ev]
    have ih := refArea_l0 h hl d (i + 1) (s + fan l i) (by omega) (by omega) (by omega) (by omega) (by omega)
    rw [sumR, ← Int.add_assoc]
    exact ih
theorem refArea_gen (l : List S31) (hl : l.length ≤ 4611686018427387904) : Ev (fun k => gooseneckref01_Area.f k l) (areaA l) := by
  unfold gooseneckref01_Area.f
  refine Ev.bind (refHulls_ev l hl) ?_
  by_cases h0 : chkH [l] = 0
  · have hh : isH l = true := by have := chkH_zero.1 h0; simpa using this
    have hp : 0 < l.length := List.length_pos_iff.2 (isH_ne hh)
    have e : areaA l = (sumR (fan l) 1 (l.length - 2), 0) := if_pos h0
    rw [e]
    refine Ev.pos h0 ?_
    have := refArea_l0 (isH_val hh) (isH_len hh) (l.length - 2) 1 0 (by omega) (by omega) (by omega) (by omega) (by omega)
    rw [Int.zero_add] at this
    exact this
  · have e : areaA l = (0, chkH [l]) := if_neg h0
    rw [e]
    exact Ev.neg h0 (Ev.now _)
def gr (h : List S31) (t : Int) : List S31 := hul (plane_grown.list h t)
def growA (h : List S31) (t : Int) : List S31 × Int := if chkH [h] = 0 then (if 0 ≤ t ∧ t ≤ 33554432 then (if 256 < (gr h t).length then ([], 6) else if val24 (gr h t) then (gr h t, 0) else ([], 4)) else ([], 3)) else ([], chkH [h])
theorem grow_gen (h : List S31) (t : Int) (hl : h.length ≤ 4611686018427387904) : Ev (fun k => plane_Grow.f k h t) (growA h t) := by
  have hc := checkHulls_ev [h] (by simp) (fun x hx => by rw [List.mem_singleton] at hx; subst hx; exact hl)
  unfold plane_Grow.f
  refine Ev.bind hc ?_
  by_cases h0 : chkH [h] = 0
  · have hh : isH h = true := by have := chkH_zero.1 h0; simpa using this
    have e : growA h t = if 0 ≤ t ∧ t ≤ 33554432 then (if 256 < (gr h t).length then ([], 6) else if val24 (gr h t) then (gr h t, 0) else ([], 4)) else ([], 3) := if_pos h0
    rw [e]
    refine Ev.pos h0 (Ev.bindP (within_eq _ _ _) ?_)
    by_cases ht : 0 ≤ t ∧ t ≤ 33554432
    · have e' : (if 0 ≤ t ∧ t ≤ 33554432 then (if 256 < (gr h t).length then (([] : List S31), (6 : Int)) else if val24 (gr h t) then (gr h t, 0) else ([], 4)) else ([], 3)) = if 256 < (gr h t).length then ([], 6) else if val24 (gr h t) then (gr h t, 0) else ([], 4) := if_pos ht
      rw [e']
      refine Ev.pos (by simp only [Bool.and_eq_true, decide_eq_true_eq]; exact ht) (Ev.bindP (grown_eq hh ht.1 ht.2) ?_)
      by_cases hs : 256 < (gr h t).length
      · rw [if_pos hs]; exact Ev.pos (by unfold gr at hs; omega) (Ev.now _)
      · rw [if_neg hs]
        refine Ev.neg (by unfold gr at hs; omega) ?_
        have hv := valid_ev (hul (plane_grown.list h t)) (by unfold gr at hs; omega)
        refine Ev.bind hv ?_
        cases hb : val24 (hul (plane_grown.list h t))
        · rw [show val24 (gr h t) = false from hb]; exact Ev.neg (by simp) (Ev.now _)
        · rw [show val24 (gr h t) = true from hb]; exact Ev.pos rfl (Ev.now _)
    · rw [if_neg ht]
      exact Ev.neg (by simp only [Bool.and_eq_true, decide_eq_true_eq]; exact ht) (Ev.now _)
  · have e : growA h t = ([], chkH [h]) := if_neg h0
    rw [e]
    exact Ev.neg h0 (Ev.now _)
def four (t : Int) (p : S31) : List S31 := [⟨p.f0 - t, p.f1 - t⟩, ⟨p.f0 + t, p.f1 - t⟩, ⟨p.f0 - t, p.f1 + t⟩, ⟨p.f0 + t, p.f1 + t⟩]
theorem refGrown_l0 {l : List S31} (h : val24 l = true) (hl : l.length ≤ 256) {t : Int} (h0 : 0 ≤ t) (h1 : t ≤ 33554432) (r : List S31) (hr : Ev (fun k => gooseneckref01_Corners.f k (l.flatMap (four t))) r) : ∀ (d i : Nat) (acc : List S31), l.length - i = d → i ≤ l.length → acc = (l.take i).flatMap (four t) → acc.length ≤ 4 * i →
    Ev (fun k => gooseneckref01_Grown.l0 k l t acc (i : Int)) r
  | 0, i, acc, hd, hi, ha, hal => by
    rw [List.take_of_length_le (by omega)] at ha
    subst ha
    exact Ev.step (fun k => by rw [gooseneckref01_Grown.l0, if_neg (by omega)]) (Ev.bind hr (Ev.now _))
  | d + 1, i, acc, hd, hi, ha, hal => by
    have hlt : i < l.length := by omega
    have v := val_pt h (List.getElem_mem hlt)
    have e1 : wrap64 (l[i].f0 - t) = l[i].f0 - t := wrap_id (by omega) (by omega)
    have e2 : wrap64 (l[i].f1 - t) = l[i].f1 - t := wrap_id (by omega) (by omega)
    have e3 : wrap64 (l[i].f0 + t) = l[i].f0 + t := wrap_id (by omega) (by omega)
    have e4 : wrap64 (l[i].f1 + t) = l[i].f1 + t := wrap_id (by omega) (by omega)
    refine Ev.step (fun k => by rw [gooseneckref01_Grown.l0, if_pos (by omega), if_pos (by omega), rd31 l i hlt, e1, e2, e3, e4, wrap_succ hlt (by omega)]) ?_
    refine Ev.bindP rfl (Ev.pos (by simp only [List.length_cons, List.length_nil]; omega) ?_)
    refine refGrown_l0 h hl h0 h1 r hr d (i + 1) _ (by omega) (by omega) ?_ (by simp only [List.length_append, List.length_cons, List.length_nil]; omega)
    rw [List.take_succ_eq_append_getElem hlt, List.flatMap_append, ← ha]
    rfl
theorem four_hul {l : List S31} (h : val24 l = true) {t : Int} (h0 : 0 ≤ t) (h1 : t ≤ 33554432) : hul (l.flatMap (four t)) = gr l t ∧ Near (l.flatMap (four t)) := by
  have e := grownL_list h h0 h1
  constructor
  · unfold gr hul
    congr 1
    refine Geo.hull_congr fun p => ?_
    rw [e.1, Geo.mem_grow, mem_pts, List.mem_flatMap]
    constructor
    · rintro ⟨q, hq, hp⟩
      refine ⟨(q.f0, q.f1), mem_pts' hq, ?_⟩
      unfold four mkP at hp
      simp only [List.mem_cons, List.mem_nil_iff, or_false, S31.mk.injEq] at hp
      rcases hp with ⟨a, b⟩ | ⟨a, b⟩ | ⟨a, b⟩ | ⟨a, b⟩
      · exact .inl (Prod.ext a b)
      · exact .inr (.inr (.inl (Prod.ext a b)))
      · exact .inr (.inl (Prod.ext a b))
      · exact .inr (.inr (.inr (Prod.ext a b)))
    · rintro ⟨q, hq, hp⟩
      refine ⟨mkP q, mem_pts.1 hq, ?_⟩
      unfold four mkP
      simp only [List.mem_cons, List.mem_nil_iff, or_false, S31.mk.injEq]
      rcases hp with rfl | rfl | rfl | rfl
      · exact .inl ⟨rfl, rfl⟩
      · exact .inr (.inr (.inl ⟨rfl, rfl⟩))
      · exact .inr (.inl ⟨rfl, rfl⟩)
      · exact .inr (.inr (.inr ⟨rfl, rfl⟩))
  · intro q hq
    obtain ⟨p, hp, hq⟩ := List.mem_flatMap.1 hq
    have v := val_pt h hp
    unfold four at hq
    simp only [List.mem_cons, List.mem_nil_iff, or_false] at hq
    rcases hq with rfl | rfl | rfl | rfl <;> simp only <;> omega
theorem four_len (l : List S31) (t : Int) : (l.flatMap (four t)).length = 4 * l.length := by
  induction l with
  | nil => rfl
  | cons p l ih => rw [List.flatMap_cons, List.length_append, ih]; unfold four; simp; omega
theorem refGrow_l0 (l : List S31) (hl : l.length ≤ 4611686018427387904) : ∀ (d i : Nat), l.length - i = d → i ≤ l.length → Ev (fun k => gooseneckref01_Grow.l0 k l i) (if val24 (l.drop i) then (l, 0) else ([], 4))
  | 0, i, hd, hi => by
    rw [List.drop_eq_nil_of_le (by omega)]
    exact Ev.step (fun k => by rw [gooseneckref01_Grow.l0, if_neg (by omega)]) (Ev.now (l, 0))
  | d + 1, i, hd, hi => by
    have hlt : i < l.length := by omega
    rw [drop_cons l i hlt]
    refine Ev.step (fun k => by rw [gooseneckref01_Grow.l0, if_pos (by omega), if_pos (by omega)]) ?_
    rw [rd31 l i hlt]
    refine Ev.bindP (refIs_eq _) ?_
    have ih := refGrow_l0 l hl d (i + 1) (by omega) (by omega)
    rw [show val24 (l[i] :: l.drop (i + 1)) = (in24 l[i] && val24 (l.drop (i + 1))) from rfl]
    cases h : in24 l[i]
    · exact Ev.neg (by simp) (Ev.now ([], 4))
    · refine Ev.pos rfl ?_
      rw [wrap_succ hlt hl, Bool.true_and]
      exact ih
theorem refGrow_gen (h : List S31) (t : Int) (hl : h.length ≤ 4611686018427387904) : Ev (fun k => gooseneckref01_Grow.f k h t) (growA h t) := by
  unfold gooseneckref01_Grow.f
  refine Ev.bind (refHulls_ev h hl) ?_
  by_cases h0 : chkH [h] = 0
  · have hh : isH h = true := by have := chkH_zero.1 h0; simpa using this
    have e : growA h t = if 0 ≤ t ∧ t ≤ 33554432 then (if 256 < (gr h t).length then ([], 6) else if val24 (gr h t) then (gr h t, 0) else ([], 4)) else ([], 3) := if_pos h0
    rw [e]
    refine Ev.pos h0 (Ev.bindP (refIn_eq _ _ _) ?_)
    by_cases ht : 0 ≤ t ∧ t ≤ 33554432
    · have e' : (if 0 ≤ t ∧ t ≤ 33554432 then (if 256 < (gr h t).length then (([] : List S31), (6 : Int)) else if val24 (gr h t) then (gr h t, 0) else ([], 4)) else ([], 3)) = if 256 < (gr h t).length then ([], 6) else if val24 (gr h t) then (gr h t, 0) else ([], 4) := if_pos ht
      rw [e']
      obtain ⟨f1, f2⟩ := four_hul (isH_val hh) ht.1 ht.2
      have hc := refCorners_ev (h.flatMap (four t)) (by rw [four_len]; have := isH_len hh; omega) f2
      rw [f1] at hc
      have hg : Ev (fun k => gooseneckref01_Grown.f k h t) (gr h t) := by
        unfold gooseneckref01_Grown.f
        exact refGrown_l0 (isH_val hh) (isH_len hh) ht.1 ht.2 _ hc _ 0 [] rfl (Nat.zero_le _) rfl (by simp)
      refine Ev.pos (by simp only [Bool.and_eq_true, decide_eq_true_eq]; exact ht) (Ev.bind hg ?_)
      by_cases hs : 256 < (gr h t).length
      · rw [if_pos hs]; exact Ev.pos (by omega) (Ev.now _)
      · rw [if_neg hs]
        refine Ev.neg (by omega) ?_
        have := refGrow_l0 (gr h t) (by omega) _ 0 rfl (Nat.zero_le _)
        rw [List.drop_zero] at this
        exact this
    · rw [if_neg ht]
      exact Ev.neg (by simp only [Bool.and_eq_true, decide_eq_true_eq]; exact ht) (Ev.now _)
  · have e : growA h t = ([], chkH [h]) := if_neg h0
    rw [e]
    exact Ev.neg h0 (Ev.now _)
end Go.Proofs.Ytkbcomgffpbcbaa.Plane
namespace Go.Proofs.Ytkbcomgffpbcbaa.Plane
open Go.RowKit Go.Proofs.YtkbcomgffpbcbaaW.PrintWords Go.Proofs.YtkbcomgffpbcbaaW.PrintLast Go.Proofs.YtkbcomgffpbcbaaW.PrintMore
set_option linter.unusedVariables false
set_option linter.unusedSimpArgs false
theorem balW {a w : World} (h : RowKit.Below a.heap.size a w) (o : Obj) : RowKit.Below a.heap.size a (w.alloc o) := h.alloc h.size o
theorem thenW {A W W' : World} (h : RowKit.Below A.heap.size A W) (k : RowKit.Below W.heap.size W W') : RowKit.Below A.heap.size A W' := h.trans (k.mono h.size)
theorem box_late {W W' : World} {B : Nat} {o : Obj} (h : W.heap[B]? = some o) (hb : RowKit.Below W.heap.size W W') : W'.heap[B]? = some o := (hb.block B (Array.getElem?_eq_some_iff.1 h).1).trans h
theorem cells_of {W : World} {B : Nat} {cs : Array Value} {t : TypeId} (h : W.heap[B]? = some (.cells cs t)) (j : Nat) (v : Value) (hj : cs[j]? = some v) : W.cell? ⟨B, j, none⟩ = some v := by
  simp [World.cell?, h, hj]
end Go.Proofs.Ytkbcomgffpbcbaa.Plane
namespace Go.Proofs.Ytkbcomgffpbcbaa.Plane
open Go.RowKit Go.Sort Go.Proofs.YtkbcomgffpbcbaaW.PrintWords Go.Proofs.YtkbcomgffpbcbaaW.PrintLast Go.Proofs.YtkbcomgffpbcbaaW.PrintMore
set_option linter.unusedVariables false
set_option linter.unusedSimpArgs false
theorem frozen_of {W : World} {B : Nat} {cs : Array Value} {t : TypeId} (h : W.heap[B]? = some (.cells cs t)) (j : Nat) : W.frozen? ⟨B, j, none⟩ = false := by simp [World.frozen?, h]
theorem set2 {W : World} {B : Nat} {a b : Value} {t : TypeId} (h : W.heap[B]? = some (.cells #[a, b] t)) (x y : Value) : ((W.setCell ⟨B, 0, none⟩ x).setCell ⟨B, 1, none⟩ y).heap[B]? = some (.cells #[x, y] t) := by
  obtain ⟨hl, he⟩ := Array.getElem?_eq_some_iff.1 h
  simp [World.setCell, Array.getElem?_modify, Array.getElem_modify, hl, he]
theorem far_setW {W : World} {B : Nat} {o : Obj} (h : W.heap[B]? = some o) (p : Addr) (hp : B ≠ p.block) (v : Value) : (W.setCell p v).heap[B]? = some o := (Below.heap_setCell W p v B hp).trans h
theorem root16 : plane_root.f 100 256000000 = some 16000 := by decide +kernel
theorem near6 : plane_near.f 96000 16000 = some 6 := by decide +kernel
theorem near8 : plane_near.f 128000 16000 = some 8 := by decide +kernel
theorem res68 : plane_result.f 100 6 8 = some (6, 8, 0) := by decide +kernel
theorem drawn_below {w w' : World} (h : Drawn0 w w') : RowKit.Below w.heap.size w w' := h.below
theorem balD {a w : World} (h : RowKit.Below a.heap.size a w) : RowKit.Below a.heap.size a w.drew := below_drew h
set_option maxRecDepth 100000 in
set_option maxHeartbeats 4000000 in
theorem place_closed (w : World) : Calls Try.prog 129 #[.agg #[.int .i64 0, .int .i64 0], .agg #[.int .i64 300, .int .i64 400], .int .i64 10, .int .i64 0] w fun e w' => e = .returned (.tuple #[.agg #[.int .i64 6, .int .i64 8], .int .i64 0]) ∧ Below w.heap.size w w' := by
  have hu31 := Try.underlying31
  go_enter Try.func129, Try.ntmps129
  go_wp2_with fail
  have bA : (((w.alloc (Obj.cells #[Value.int IntKind.i64 0, Value.int IntKind.i64 0] 31)).alloc (Obj.cells #[Value.int IntKind.i64 300, Value.int IntKind.i64 400] 31)).alloc (Obj.cells #[Value.int IntKind.i64 0, Value.int IntKind.i64 0] 31)).heap[w.heap.size]? = some (.cells #[.int .i64 0, .int .i64 0] 31) := box_late (World.alloc_heap_new w _) (balW (balW (RowKit.Below.refl _ _) _) _)
  have bH : (((w.alloc (Obj.cells #[Value.int IntKind.i64 0, Value.int IntKind.i64 0] 31)).alloc (Obj.cells #[Value.int IntKind.i64 300, Value.int IntKind.i64 400] 31)).alloc (Obj.cells #[Value.int IntKind.i64 0, Value.int IntKind.i64 0] 31)).heap[w.heap.size + 1]? = some (.cells #[.int .i64 300, .int .i64 400] 31) := by
    have h := World.alloc_heap_new (w.alloc (Obj.cells #[Value.int IntKind.i64 0, Value.int IntKind.i64 0] 31)) (Obj.cells #[Value.int IntKind.i64 300, Value.int IntKind.i64 400] 31)
    rw [World.size_alloc] at h
    exact box_late h (balW (RowKit.Below.refl _ _) _)
  have bR : (((w.alloc (Obj.cells #[Value.int IntKind.i64 0, Value.int IntKind.i64 0] 31)).alloc (Obj.cells #[Value.int IntKind.i64 300, Value.int IntKind.i64 400] 31)).alloc (Obj.cells #[Value.int IntKind.i64 0, Value.int IntKind.i64 0] 31)).heap[w.heap.size + 1 + 1]? = some (.cells #[.int .i64 0, .int .i64 0] 31) := by
    have h := World.alloc_heap_new ((w.alloc (Obj.cells #[Value.int IntKind.i64 0, Value.int IntKind.i64 0] 31)).alloc (Obj.cells #[Value.int IntKind.i64 300, Value.int IntKind.i64 400] 31)) (Obj.cells #[Value.int IntKind.i64 0, Value.int IntKind.i64 0] 31)
    rw [World.size_alloc, World.size_alloc] at h
    exact h
  have hbw : RowKit.Below w.heap.size w (((w.alloc (Obj.cells #[Value.int IntKind.i64 0, Value.int IntKind.i64 0] 31)).alloc (Obj.cells #[Value.int IntKind.i64 300, Value.int IntKind.i64 400] 31)).alloc (Obj.cells #[Value.int IntKind.i64 0, Value.int IntKind.i64 0] 31)) := balW (balW (balW (RowKit.Below.refl _ _) _) _) _
  generalize ((w.alloc (Obj.cells #[Value.int IntKind.i64 0, Value.int IntKind.i64 0] 31)).alloc (Obj.cells #[Value.int IntKind.i64 300, Value.int IntKind.i64 400] 31)).alloc (Obj.cells #[Value.int IntKind.i64 0, Value.int IntKind.i64 0] 31) = W1 at *
  have f0 := cell_regrown (cells_of bA 0 _ rfl)
  have f1 := cell_regrown (cells_of bA 1 _ rfl)
  have f2 := cell_regrown (cells_of bH 0 _ rfl)
  have f3 := cell_regrown (cells_of bH 1 _ rfl)
  have HA := Lib.hid bA
  have HRr := Lib.hid bR
  have HBw := Lib.hid hbw
  clear bA bH bR hbw
  refine wp_region_quiet_below (by kernel_rfl) (by kernel_rfl) ?_
  repeat (go_big_quiet_step (fail))
  refine wpQuiet_nil ?_
  intro w2 hw'
  have hbq : RowKit.Below W1.heap.size W1 w2 := by obtain ⟨p, rfl⟩ := hw'; exact below_regrown _ _ _
  have HA2 := Lib.hid (box_late HA.out hbq)
  have HR2 := Lib.hid (box_late HRr.out hbq)
  have HB2 := Lib.hid (thenW HBw.out hbq)
  clear hw' f0 f1 f2 f3 hbq HA HRr HBw
  go_wp2_with fail
  go_at_call 159
  refine (plane_root.calls 100 256000000 16000 _ root16).mono ?_
  rintro e w3 ⟨rfl, hd⟩
  have HA3 := Lib.hid (box_late HA2.out hd.below)
  have HR3 := Lib.hid (box_late HR2.out hd.below)
  have HB3 := Lib.hid (thenW HB2.out hd.below)
  clear hd HA2 HR2 HB2
  go_wp2_with fail
  have HS : Hid (∀ W', RowKit.Below w3.heap.size w3 W' → W'.cell? ⟨w.heap.size, 0, none⟩ = some (.int .i64 0) ∧ W'.cell? ⟨w.heap.size, 1, none⟩ = some (.int .i64 0)) := Lib.hid (fun W' h => ⟨cells_of (box_late HA3.out h) 0 _ rfl, cells_of (box_late HA3.out h) 1 _ rfl⟩)
  have hB3 : RowKit.Below w3.heap.size w3 w3.drew := balD (RowKit.Below.refl _ _)
  go_region_held3 (fun w' => w'.cell? ⟨w.heap.size, 0, none⟩ = some (.int .i64 0) ∧ w'.cell? ⟨w.heap.size, 1, none⟩ = some (.int .i64 0))
    (first
      | (exact ⟨cells_of (far_setW (far_setW HqA.out ⟨w.heap.size + 1 + 1, 0, none⟩ (by show w.heap.size ≠ w.heap.size + 1 + 1; omega) _) ⟨w.heap.size + 1 + 1, 1, none⟩ (by show w.heap.size ≠ w.heap.size + 1 + 1; omega) _) 0 _ rfl, cells_of (far_setW (far_setW HqA.out ⟨w.heap.size + 1 + 1, 0, none⟩ (by show w.heap.size ≠ w.heap.size + 1 + 1; omega) _) ⟨w.heap.size + 1 + 1, 1, none⟩ (by show w.heap.size ≠ w.heap.size + 1 + 1; omega) _) 1 _ rfl⟩)
      | (refine HS.out _ ?_; repeat (first | assumption | exact RowKit.Below.refl _ _ | refine balW ?_ _ | refine balD ?_); done))
    (first
      | ((go_at_call 128; refine (plane_near.calls _ _ _ _ (by first | exact near6 | exact near8)).mono ?_; rintro e w4 ⟨rfl, hd⟩; have hb4 := thenW (A := w3) (by repeat (first | assumption | exact RowKit.Below.refl _ _ | refine balW ?_ _ | refine balD ?_)) hd.below))
      | ((go_at_call 160; refine (plane_result.calls 100 _ _ 6 8 0 _ (by exact res68)).mono ?_; rintro e w5 ⟨rfl, hd⟩; have hb5 := thenW (A := w3) (by repeat (first | assumption | exact RowKit.Below.refl _ _ | refine balW ?_ _ | refine balD ?_)) hd; have qR := box_late HR3.out hb5; have k0 := cells_of qR 0 _ rfl; have k1 := cells_of qR 1 _ rfl; have k2 := frozen_of qR 0; have k3 := frozen_of qR 1; have HqR := Lib.hid qR; have HqA := Lib.hid (box_late HA3.out hb5); have Hb5 := Lib.hid hb5; clear qR)))
  go_wp2_with fail
  refine bodyPost_ret (results_ct rfl _ _ (w.heap.size + 1 + 1) 31 #[.int .i64 6, .int .i64 8] (0, 0) _ rfl (set2 HqR.out _ _) hu31 rfl (by kernel_rfl)) rfl ?_
  exact ⟨rfl, below_set (below_set (thenW HB3.out Hb5.out) (Nat.le_add_right _ 2)) (Nat.le_add_right _ 2)⟩
theorem valid_closed : plane_valid.f 100 [(⟨0, 0⟩ : S31), ⟨300, 400⟩] = some true := by decide +kernel
theorem within10 : plane_within.f 10 (-16777216) 16777216 = some true := by decide +kernel
theorem within0 : plane_within.f 0 (-16777216) 16777216 = some true := by decide +kernel
set_option maxRecDepth 100000 in
set_option maxHeartbeats 4000000 in
theorem Place_closed (w : World) : Calls Try.prog 62 #[.agg #[.int .i64 0, .int .i64 0], .agg #[.int .i64 300, .int .i64 400], .int .i64 10, .int .i64 0] w fun e w' => e = .returned (.tuple #[.agg #[.int .i64 6, .int .i64 8], .int .i64 0]) ∧ Below w.heap.size w w' := by
  have hu31 := Try.underlying31
  have HW := Lib.hid (World.alloc_heap_new w (Obj.cells #[Value.int IntKind.i64 0, Value.int IntKind.i64 0] 31))
  go_enter Try.func62, Try.ntmps62
  go_wp2_with ((with_reducible refine gate_dst (N := 12) rfl ?_); refine Kd.R_lit k31 _ 31 ?hg (N := 12) ?hd (xs := [(⟨0, 0⟩ : S31), ⟨300, 400⟩]) (inner := [.int .i64 0, .int .i64 0, .int .i64 300, .int .i64 400]) (ok := fun _ => True) (okp := fun _ => True) ?hr ?hp (fun _ hk => hk) trivial (Below.refl _ _) (Nat.le_refl _) (by simp) ?_; (case hd => rfl); (case hg => rfl); (case hr => first | (go_simp; done) | (go_simp; rfl)); (case hp => exact (Reps.c2 (k31_mkM _ _ _ (⟨0, 0⟩ : S31)) (Reps.c2 (k31_mkM _ _ _ (⟨300, 400⟩ : S31)) (Reps.none _ _)))); intro v1 w1 ho1 hb1 _ _)
  obtain ⟨Ao, co, rfl⟩ := Kd.R_slice ho1
  have bA : w1.heap[w.heap.size]? = some (.cells #[.int .i64 0, .int .i64 0] 31) := box_late (box_late (World.alloc_heap_new w _) (balW (balW (RowKit.Below.refl _ _) _) _)) hb1
  have bH : w1.heap[w.heap.size + 1]? = some (.cells #[.int .i64 300, .int .i64 400] 31) := by
    have h := World.alloc_heap_new (w.alloc (Obj.cells #[Value.int IntKind.i64 0, Value.int IntKind.i64 0] 31)) (Obj.cells #[Value.int IntKind.i64 300, Value.int IntKind.i64 400] 31)
    rw [World.size_alloc] at h
    exact box_late (box_late h (balW (RowKit.Below.refl _ _) _)) hb1
  have bR : w1.heap[w.heap.size + 1 + 1]? = some (.cells #[.int .i64 0, .int .i64 0] 31) := by
    have h := World.alloc_heap_new ((w.alloc (Obj.cells #[Value.int IntKind.i64 0, Value.int IntKind.i64 0] 31)).alloc (Obj.cells #[Value.int IntKind.i64 300, Value.int IntKind.i64 400] 31)) (Obj.cells #[Value.int IntKind.i64 0, Value.int IntKind.i64 0] 31)
    rw [World.size_alloc, World.size_alloc] at h
    exact box_late h hb1
  have hbw : RowKit.Below w.heap.size w w1 := thenW (balW (balW (balW (RowKit.Below.refl _ _) _) _) _) hb1
  have HA := Lib.hid bA
  have HH := Lib.hid bH
  have HR := Lib.hid bR
  have HB := Lib.hid hbw
  clear bA bH bR hbw hb1
  refine (plane_valid.calls 100 _ _ _ true _ (Kd.R_reads' ho1).2.2 (Kd.R_reads' ho1).2.1 valid_closed).mono ?_
  rintro e w2 ⟨rfl, hb⟩
  have HA2 := Lib.hid (box_late HA.out hb)
  have HH2 := Lib.hid (box_late HH.out hb)
  have HR2 := Lib.hid (box_late HR.out hb)
  have HB2 := Lib.hid (thenW HB.out hb)
  have a0 := cells_of HA2.out 0 _ rfl
  have a1 := cells_of HA2.out 1 _ rfl
  have h0 := cells_of HH2.out 0 _ rfl
  have h1 := cells_of HH2.out 1 _ rfl
  clear hb HA HH HR HB ho1
  go_wp2_with (first | (go_at_call 129; refine (place_closed _).mono ?_; rintro e w5 ⟨rfl, hb⟩; have qR := box_late (W := World.drewN w2 _) HR2.out hb; have k0 := cells_of qR 0 _ rfl; have k1 := cells_of qR 1 _ rfl; have k2 := frozen_of qR 0; have k3 := frozen_of qR 1; have HqR := Lib.hid qR; have HqB := Lib.hid (thenW (pw_below_drewN HB2.out _) hb); clear qR hb) | go_at_call 74; refine (plane_within.calls _ _ _ true _ (by first | exact within10 | exact within0)).mono ?_; rintro e w3 ⟨rfl, ⟨nd, rfl⟩⟩)
  refine bodyPost_ret (results_ct rfl _ _ (w.heap.size + 1 + 1) 31 #[.int .i64 6, .int .i64 8] (0, 0) _ rfl (set2 HqR.out _ _) hu31 rfl (by kernel_rfl)) rfl ?_
  exact ⟨rfl, below_set (below_set HqB.out (Nat.le_add_right _ 2)) (Nat.le_add_right _ 2)⟩
theorem nearest_closed : plane_Nearest.f (-7) 2 = some (-3, 0) := by decide +kernel
theorem half_closed : plane_Half.f 1 2 = some (3, 4, 5, 0) := by decide +kernel
theorem isHull_closed : plane_IsHull.f 100 [(⟨6, 8⟩ : S31)] = some true := by decide +kernel
set_option maxRecDepth 100000 in
set_option maxHeartbeats 4000000 in
theorem works_closed (w : World) : Calls Try.prog 15 #[] w fun e w' => e = .returned (.bool true) ∧ Below w.heap.size w w' := by
  have hu103 := Try.underlying103
  have hu31 := Try.underlying31
  go_enter Try.func15, Try.ntmps15
  go_wp2_with (first | ((with_reducible refine gate_dst (N := 47) rfl ?_); (try (refine gate_guard (by rfl) ?_; dsimp only)); refine Kd.R_lit k31 _ 31 ?hg (N := 47) ?hd (xs := [(⟨6, 8⟩ : S31)]) (inner := [.int .i64 6, .int .i64 8]) (ok := fun _ => True) (okp := fun _ => True) ?hr ?hp (fun _ hk => hk) trivial (Below.refl _ _) (Nat.le_refl _) (by simp) ?_; (case hd => rfl); (case hg => rfl); (case hr => first | (go_simp; done) | (go_simp; rfl)); (case hp => exact (Reps.c2 (k31_mkM _ _ _ (⟨6, 8⟩ : S31)) (Reps.none _ _))); intro v4 w4 ho4 hb4 _ _; obtain ⟨Ao, co, rfl⟩ := Kd.R_slice ho4) | (go_at_call 16; refine (plane_IsHull.calls 100 _ _ _ _ true _ (Kd.R_V (Kd.R_tight rfl ho4)) isHull_closed).mono ?_; rintro e w5 ⟨rfl, hb5⟩) | (go_at_call 62; refine (Place_closed _).mono ?_; rintro e w2 ⟨rfl, hb2⟩; have qH := box_late (World.alloc_heap_new w1 (.cells #[.int .i64 3, .int .i64 4, .int .i64 5] 103)) hb2; have qI := box_late qH (balW (RowKit.Below.refl _ _) (.cells #[.int .i64 6, .int .i64 8] 31)); have c0 := cells_of qI 0 _ rfl; have c1 := cells_of qI 1 _ rfl; have c2 := cells_of qI 2 _ rfl; have HqB := Lib.hid (thenW (balW (thenW (drawn_below hb0) hb1) _) hb2); clear qH qI hb2) | (go_at_call 61; refine (plane_Half.calls 1 2 3 4 5 0 _ half_closed).mono ?_; rintro e w1 ⟨rfl, hb1⟩) | (go_at_call 60; refine (plane_Nearest.calls _ _ _ _ _ nearest_closed).mono ?_; rintro e w0 ⟨rfl, hb0⟩))
  refine bodyPost_ret (results_tmp rfl _ _ _) rfl ?_
  exact ⟨rfl, thenW (thenW (balW HqB.out _) hb4) hb5⟩
theorem works_up {k : Nat} {r : Bool} (h : goosenecklaw01_works.f k = some r) (n : Nat) : goosenecklaw01_works.f (k + n) = some r := by
  induction n with
  | zero => exact h
  | succ n ih => exact goosenecklaw01_works.mono (k + n) _ ih
theorem works_hand (k : Nat) (r : Bool) (w : World) (h : goosenecklaw01_works.f k = some r) :
    Calls Try.prog 15 #[] w fun e w' => e = .returned (.bool r) ∧ Below w.heap.size w w' := by
  obtain ⟨K, hK⟩ := works_ev
  have h1 := works_up h K
  have h2 : goosenecklaw01_works.f (k + K) = some true := hK (k + K) (Nat.le_add_left _ _)
  rw [h2] at h1
  cases h1
  exact works_closed w
end Go.Proofs.Ytkbcomgffpbcbaa.Plane
