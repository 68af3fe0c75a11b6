/- A part of the proof of Hulls: walks of functions, and plain lemmas. No conditions. -/
import Derived.ArgAppend
import Derived.Below
import Derived.BigQuiet
import Derived.Deep.AppendLies
import Derived.Deep.CutBlock
import Derived.Deep.DeepCutAuto
import Derived.Deep.DeepFit
import Derived.Deep.DeepMust
import Derived.Deep.Draws
import Derived.Deep.LoopGhost
import Derived.Deep.OwnRows
import Derived.Deep.QuietTactic
import Derived.Deep.RegionHeld3
import Derived.Ground.SlgnProg
import Derived.Ground.SlsfProg
import Derived.KernelRfl
import Derived.Laws.BitsLemmas
import Derived.Laws.BytesArg
import Derived.Laws.IdiomCopy
import Derived.Laws.MakeOwn
import Derived.Laws.OwnMore
import Derived.Laws.Rows
import Derived.Laws.Slices
import Derived.Laws.StructEq
import Derived.Lib.AppendStr
import Derived.Lib.ConvBytes
import Derived.Lib.Hide
import Derived.Lib.QuietBelow
import Derived.Lib.QuietBelowIn
import Derived.Lib.SliceRun
import Derived.Lib.SlicesCompact
import Derived.LoopIn
import Derived.LoopNIn
import Derived.Maps.AppendAt
import Derived.OrdersHeld
import Derived.Outline
import Derived.OwnWalk
import Derived.OwnWalkIn
import Derived.RangeFuncBound
import Derived.RangeFuncBox
import Derived.RangeFuncCalls
import Derived.RangeFuncLeaves
import Derived.RangeFuncNested
import Derived.RowKit
import Derived.RowKit3
import Derived.Shelf.Abstract
import Derived.Shelf.RegionOpen
import Derived.Shelf.SlGeneric
import Derived.Shelf.SlSortCmp.WholeK
import Derived.Shelf.Slices.CompactI
import Derived.Shelf.SlicesQ.Reverse
import Derived.Sort.LoopGhostIn
import Derived.Sort.OwnSorted
import Derived.StillTail
import Derived.StillTailTactics
import Derived.Tactics
import Derived.TacticsIn
import Derived.TacticsInMore
import Derived.Test.YtkbcomgffpbcbaaProg
import Derived.WalkKit
import Derived.WalkSmall
import Derived.WalkSpells
import Derived.WideLaws
import Derived.Test.YtkbcomgffpbcbaaHulls2
import Derived.Test.YtkbcomgffpbcbaaHulls3
import Derived.Test.YtkbcomgffpbcbaaHulls5
import Derived.Test.YtkbcomgffpbcbaaHulls7
import Derived.Test.YtkbcomgffpbcbaaHulls8
import Derived.Test.YtkbcomgffpbcbaaHulls17
import Derived.Test.YtkbcomgffpbcbaaHulls18
import Derived.Test.YtkbcomgffpbcbaaHulls19
import Derived.Test.YtkbcomgffpbcbaaHulls22
import Derived.Test.YtkbcomgffpbcbaaHulls23
import Derived.Test.YtkbcomgffpbcbaaHulls24
import Derived.Test.YtkbcomgffpbcbaaHulls26
import Derived.Test.YtkbcomgffpbcbaaHulls27
import Derived.Test.YtkbcomgffpbcbaaHulls28
namespace Go.Proofs.Ytkbcomgffpbcbaa.Plane
open Go.RowKit Go.Sort Go.Proofs.YtkbcomgffpbcbaaW.PrintWords Go.Proofs.YtkbcomgffpbcbaaW.PrintLast Go.Proofs.YtkbcomgffpbcbaaW.PrintMore
set_option linter.unusedVariables false
set_option linter.unusedSimpArgs false
theorem heap31 : Kd.Heap k31 := Kd.heap_iso _ (Kd.heap_pair (Kd.heap_int .i64) (Kd.heap_int .i64))
theorem lateC {W W' : World} {A : Option Addr} {c : Nat} {l : List S31} (h : Kd.C k31 W A l.length l) (hc : l.length ≤ c) (hb : RowKit.Below W.heap.size W W') : Kd.V k31 31 W' W'.heap.size (fun k_ => (fun k => k < W'.heap.size) k_) (.slice A l.length c) l :=
  Kd.V_mk hc (Kd.C_F heap31 (Kd.C_below h hb))
structure ListData (K : Nat) (x : List S31) (p : S31) (t : Int) (i : Bool) (ei s es : Int) (g : List S31) (eg : Int) : Prop where
  ins : plane_Inside.f K x p.f0 p.f1 = some (i, ei)
  ins' : gooseneckref01_Inside.f K x p.f0 p.f1 = some (i, ei)
  area : plane_Area.f K x = some (s, es)
  area' : gooseneckref01_Area.f K x = some (s, es)
  grow : plane_Grow.f K x t = some (g, eg)
  grow' : gooseneckref01_Grow.f K x t = some (g, eg)
  same : gooseneckref01_Same.f K g g = some true
theorem list_data (x : List S31) (hl : x.length ≤ 4611686018427387904) (p : S31) (t : Int) : ∃ K i ei s es g eg, ∀ k, K ≤ k → ListData k x p t i ei s es g eg := by
  obtain ⟨K1, e1⟩ := inside_gen x p hl
  obtain ⟨K2, e2⟩ := refInside_gen x p hl
  obtain ⟨K3, e3⟩ := area_gen x hl
  obtain ⟨K4, e4⟩ := refArea_gen x hl
  obtain ⟨K5, e5⟩ := grow_gen x t hl
  obtain ⟨K6, e6⟩ := refGrow_gen x t hl
  have hg : (growA x t).1.length ≤ 4611686018427387904 := by
    unfold growA
    split
    · split
      · split
        · simp
        · split
          · simp only; omega
          · simp
      · simp
    · simp
  obtain ⟨K7, e7⟩ := same_ev (growA x t).1 (growA x t).1 hg
  rw [decide_eq_true rfl] at e7
  exact ⟨K1 + K2 + K3 + K4 + K5 + K6 + K7, _, _, _, _, _, _, fun k hk => ⟨e1 k (by omega), e2 k (by omega), e3 k (by omega), e4 k (by omega), e5 k (by omega), e6 k (by omega), e7 k (by omega)⟩⟩
set_option maxRecDepth 100000 in
set_option maxHeartbeats 8000000 in
theorem hulls_walk (A0 : Option Addr) (c0 : Nat) (l0 : List S31) (p : S31) (t : Int) (w : World) (hr0 : Kd.C k31 w A0 l0.length l0) (hc0 : l0.length ≤ c0)
    (hsm : l0.length ≤ 40 ∨ (256 < l0.length ∧ l0.length ≤ 400)) (K : Nat) (a : List S31) (e0 : Int) (hh : plane_Hull.f K l0 = some (a, e0)) (hh' : gooseneckref01_Hull.f K l0 = some (a, e0)) (hsa : gooseneckref01_Same.f K a a = some true) (q : Bool) (hq : plane_IsHull.f K l0 = some q) (hq' : gooseneckref01_IsHull.f K l0 = some q)
    (i : Bool) (ei s es : Int) (g : List S31) (eg : Int) (hD : ListData K l0 p t i ei s es g eg) (j : Bool) (ej u eu : Int) (o : List S31) (eo : Int) (hE : ListData K a p t j ej u eu o eo) (hW : goosenecklaw01_works.f K = some true) :
    Calls Try.prog 4 #[.slice A0 l0.length c0, .agg #[.int .i64 p.f0, .int .i64 p.f1], .int .i64 t] w fun e w' => e = .returned (.bool true) ∧ Below w.heap.size w w' := by
  have hu31 := Try.underlying31
  have HD := Lib.hid hD
  have HE := Lib.hid hE
  have HH := Lib.hid hh
  have HH' := Lib.hid hh'
  have HSA := Lib.hid hsa
  have HQ := Lib.hid hq
  have HQ' := Lib.hid hq'
  have HW := Lib.hid hW
  have HR0 := Lib.hid hr0
  clear hD hE hh hh' hsa hq hq' hW hr0
  go_enter Try.func4, Try.ntmps4
  rcases hsm with hsm | ⟨hsm, hsm2⟩
  all_goals
    go_wp2_with fail
    go_at_call 14
    refine (plane_Hull.calls K _ A0 c0 l0 a e0 _ (lateC HR0.out hc0 (balW (RowKit.Below.refl _ _) _)) HH.out).mono ?_
    rintro e w1 ⟨v, rfl, hR1, h1⟩
    obtain ⟨Aa, ca, rfl, hla, hCa⟩ := Kd.R_reads hR1
    have bP := box_late (World.alloc_heap_new w (.cells #[.int .i64 p.f0, .int .i64 p.f1] 31)) h1
    have HP1 := Lib.hid bP
    have HB1 := Lib.hid (thenW (balW (RowKit.Below.refl w.heap.size w) (.cells #[.int .i64 p.f0, .int .i64 p.f1] 31)) h1)
    have HCa := Lib.hid hCa
    clear h1 hR1 hCa bP
    go_wp2_with fail
    go_at_call 20
    refine (gooseneckref01_Hull.calls K A0 c0 l0 a e0 _ (Kd.C_below HR0.out HB1.out) hc0 HH'.out).mono ?_
    rintro e w2 ⟨v, rfl, hR2, h2⟩
    obtain ⟨Ab, cb, rfl, hlb, hCb⟩ := Kd.R_reads hR2
    have HP2 := Lib.hid (box_late HP1.out h2)
    have HB2 := Lib.hid (thenW HB1.out h2)
    have HCb := Lib.hid hCb
    have H12 := Lib.hid h2
    clear h2 hR2 hCb HP1
    go_wp2_with fail
    go_at_call 19
    refine (gooseneckref01_Same.calls K Aa ca a Ab cb a true _ (Kd.C_below HCa.out H12.out) hla HCb.out hlb HSA.out).mono ?_
    rintro e w3 ⟨rfl, h3⟩
    have H23 := Lib.hid h3.below
    clear h3
    go_wp2_with fail
    go_at_call 16
    refine (plane_IsHull.calls K _ A0 c0 l0 q _ (lateC HR0.out hc0 (thenW HB2.out H23.out)) HQ.out).mono ?_
    rintro e w4 ⟨rfl, h4⟩
    have H24 := Lib.hid (thenW H23.out h4)
    clear h4
    go_wp2_with fail
    go_at_call 21
    refine (gooseneckref01_IsHull.calls K A0 c0 l0 q _ (Kd.C_below HR0.out (thenW HB2.out H24.out)) hc0 HQ'.out).mono ?_
    rintro e w5 ⟨rfl, h5⟩
    have H25 := Lib.hid (thenW H24.out h5)
    clear h5 H24 H23
    go_wp2_with fail
    have HPl := Lib.hid (box_late HP2.out H25.out)
    have HCELL : Hid (∀ W', RowKit.Below (w5.alloc (Obj.cells #[.slice A0 l0.length c0, .slice Ab a.length cb] 23)).heap.size (w5.alloc (Obj.cells #[.slice A0 l0.length c0, .slice Ab a.length cb] 23)) W' → W'.cell? ⟨w.heap.size, 0, none⟩ = some (.int .i64 p.f0) ∧ W'.cell? ⟨w.heap.size, 1, none⟩ = some (.int .i64 p.f1) ∧ W'.cell? ⟨w5.heap.size, 0, none⟩ = some (.slice A0 l0.length c0) ∧ W'.cell? ⟨w5.heap.size, 1, none⟩ = some (.slice Ab a.length cb)) := Lib.hid (fun W' hW' => by
      have b1 := box_late (box_late HPl.out (balW (RowKit.Below.refl _ _) _)) hW'
      have b2 := box_late (World.alloc_heap_new w5 (Obj.cells #[.slice A0 l0.length c0, .slice Ab a.length cb] 23)) hW'
      exact ⟨cells_of b1 0 _ rfl, cells_of b1 1 _ rfl, cells_of b2 0 _ rfl, cells_of b2 1 _ rfl⟩)
    have HB25 : Hid (RowKit.Below w2.heap.size w2 (w5.alloc (Obj.cells #[.slice A0 l0.length c0, .slice Ab a.length cb] 23))) := Lib.hid (balW H25.out _)
    have HBw5 : Hid (RowKit.Below w.heap.size w (w5.alloc (Obj.cells #[.slice A0 l0.length c0, .slice Ab a.length cb] 23))) := Lib.hid (thenW HB2.out HB25.out)
    obtain ⟨w6, hw6⟩ : ∃ w6, w5.alloc (Obj.cells #[.slice A0 l0.length c0, .slice Ab a.length cb] 23) = w6 := ⟨_, rfl⟩
    rw [hw6] at HCELL HB25 HBw5 ⊢
    have HB6 : Hid (RowKit.Below w6.heap.size w6 w6) := Lib.hid (RowKit.Below.refl _ _)
    obtain ⟨Bl, hBl⟩ : ∃ Bl, w5.heap.size = Bl := ⟨_, rfl⟩
    rw [hBl] at HCELL ⊢
    clear hw6 hBl H25 HPl
    have HIl : Hid (∀ W', RowKit.Below w6.heap.size w6 W' → Calls Try.prog 18 #[.slice A0 l0.length c0, .agg #[.int .i64 p.f0, .int .i64 p.f1]] W' fun e w' => e = .returned (.tuple #[.bool i, .int .i64 ei]) ∧ RowKit.Below W'.heap.size W' w') := Lib.hid (fun W' hW' => plane_Inside.calls K _ A0 c0 l0 p.f0 p.f1 i ei W' (lateC HR0.out hc0 (thenW HBw5.out hW')) HD.out.ins)
    have HJl : Hid (∀ W', RowKit.Below w6.heap.size w6 W' → Calls Try.prog 22 #[.slice A0 l0.length c0, .agg #[.int .i64 p.f0, .int .i64 p.f1]] W' fun e w' => e = .returned (.tuple #[.bool i, .int .i64 ei]) ∧ RowKit.Below W'.heap.size W' w') := Lib.hid (fun W' hW' => gooseneckref01_Inside.calls K A0 c0 l0 p.f0 p.f1 i ei W' (Kd.C_below HR0.out (thenW HBw5.out hW')) hc0 HD.out.ins')
    have HKl : Hid (∀ W', RowKit.Below w6.heap.size w6 W' → Calls Try.prog 23 #[.slice A0 l0.length c0] W' fun e w' => e = .returned (.tuple #[.int .i64 s, .int .i64 es]) ∧ RowKit.Below W'.heap.size W' w') := Lib.hid (fun W' hW' => plane_Area.calls K A0 c0 l0 s es W' (Kd.C_below HR0.out (thenW HBw5.out hW')) hc0 HD.out.area)
    have HLl : Hid (∀ W', RowKit.Below w6.heap.size w6 W' → Calls Try.prog 24 #[.slice A0 l0.length c0] W' fun e w' => e = .returned (.tuple #[.int .i64 s, .int .i64 es]) ∧ RowKit.Below W'.heap.size W' w') := Lib.hid (fun W' hW' => gooseneckref01_Area.calls K A0 c0 l0 s es W' (Kd.C_below HR0.out (thenW HBw5.out hW')) hc0 HD.out.area')
    have HMl : Hid (∀ W', RowKit.Below w6.heap.size w6 W' → Calls Try.prog 25 #[.slice A0 l0.length c0, .int .i64 t] W' fun e w' => ∃ v0_ : Value, e = .returned (.tuple #[v0_, .int .i64 eg]) ∧ Kd.R k31 31 w' W'.heap.size (fun k_ => (W'.heap.size ≤ k_)) v0_ g ∧ RowKit.Below W'.heap.size W' w') := Lib.hid (fun W' hW' => plane_Grow.calls K _ A0 c0 l0 t g eg W' (lateC HR0.out hc0 (thenW HBw5.out hW')) HD.out.grow)
    have HNl : Hid (∀ W', RowKit.Below w6.heap.size w6 W' → Calls Try.prog 26 #[.slice A0 l0.length c0, .int .i64 t] W' fun e w' => ∃ v0_ : Value, e = .returned (.tuple #[v0_, .int .i64 eg]) ∧ Kd.R k31 31 w' W'.heap.size (fun _ => True) v0_ g ∧ RowKit.Below W'.heap.size W' w') := Lib.hid (fun W' hW' => gooseneckref01_Grow.calls K A0 c0 l0 t g eg W' (Kd.C_below HR0.out (thenW HBw5.out hW')) hc0 HD.out.grow')
    have HSl : Hid (gooseneckref01_Same.f K g g = some true) := Lib.hid HD.out.same
    have HIa : Hid (∀ W', RowKit.Below w6.heap.size w6 W' → Calls Try.prog 18 #[.slice Ab a.length cb, .agg #[.int .i64 p.f0, .int .i64 p.f1]] W' fun e w' => e = .returned (.tuple #[.bool j, .int .i64 ej]) ∧ RowKit.Below W'.heap.size W' w') := Lib.hid (fun W' hW' => plane_Inside.calls K _ Ab cb a p.f0 p.f1 j ej W' (lateC HCb.out hlb (thenW HB25.out hW')) HE.out.ins)
    have HJa : Hid (∀ W', RowKit.Below w6.heap.size w6 W' → Calls Try.prog 22 #[.slice Ab a.length cb, .agg #[.int .i64 p.f0, .int .i64 p.f1]] W' fun e w' => e = .returned (.tuple #[.bool j, .int .i64 ej]) ∧ RowKit.Below W'.heap.size W' w') := Lib.hid (fun W' hW' => gooseneckref01_Inside.calls K Ab cb a p.f0 p.f1 j ej W' (Kd.C_below HCb.out (thenW HB25.out hW')) hlb HE.out.ins')
    have HKa : Hid (∀ W', RowKit.Below w6.heap.size w6 W' → Calls Try.prog 23 #[.slice Ab a.length cb] W' fun e w' => e = .returned (.tuple #[.int .i64 u, .int .i64 eu]) ∧ RowKit.Below W'.heap.size W' w') := Lib.hid (fun W' hW' => plane_Area.calls K Ab cb a u eu W' (Kd.C_below HCb.out (thenW HB25.out hW')) hlb HE.out.area)
    have HLa : Hid (∀ W', RowKit.Below w6.heap.size w6 W' → Calls Try.prog 24 #[.slice Ab a.length cb] W' fun e w' => e = .returned (.tuple #[.int .i64 u, .int .i64 eu]) ∧ RowKit.Below W'.heap.size W' w') := Lib.hid (fun W' hW' => gooseneckref01_Area.calls K Ab cb a u eu W' (Kd.C_below HCb.out (thenW HB25.out hW')) hlb HE.out.area')
    have HMa : Hid (∀ W', RowKit.Below w6.heap.size w6 W' → Calls Try.prog 25 #[.slice Ab a.length cb, .int .i64 t] W' fun e w' => ∃ v0_ : Value, e = .returned (.tuple #[v0_, .int .i64 eo]) ∧ Kd.R k31 31 w' W'.heap.size (fun k_ => (W'.heap.size ≤ k_)) v0_ o ∧ RowKit.Below W'.heap.size W' w') := Lib.hid (fun W' hW' => plane_Grow.calls K _ Ab cb a t o eo W' (lateC HCb.out hlb (thenW HB25.out hW')) HE.out.grow)
    have HNa : Hid (∀ W', RowKit.Below w6.heap.size w6 W' → Calls Try.prog 26 #[.slice Ab a.length cb, .int .i64 t] W' fun e w' => ∃ v0_ : Value, e = .returned (.tuple #[v0_, .int .i64 eo]) ∧ Kd.R k31 31 w' W'.heap.size (fun _ => True) v0_ o ∧ RowKit.Below W'.heap.size W' w') := Lib.hid (fun W' hW' => gooseneckref01_Grow.calls K Ab cb a t o eo W' (Kd.C_below HCb.out (thenW HB25.out hW')) hlb HE.out.grow')
    have HSa : Hid (gooseneckref01_Same.f K o o = some true) := Lib.hid HE.out.same
    clear HD HE HR0 HCa HCb HH HH' HSA HQ HQ' HP2 HB2 HB25 H12
    refine wp_loop_rounds 3 ?_
    rw [rounds_succ]
    -- round 0
    go_wp2_with fail
    obtain ⟨p0, p1, s0, s1⟩ := HCELL.out _ HB6.out
    have f0 := cell_regrown p0
    have f1 := cell_regrown p1
    have f2 := cell_regrown s0
    have f3 := cell_regrown s1
    refine wp_region_quiet_below (by kernel_rfl) (by kernel_rfl) ?_
    repeat (go_big_quiet_step ((go_at_call 18; refine Calls.regrown_of (HIl.out _ (thenW HB6.out (below_regrown _ _ _))))))
    refine wpQuiet_nil ?_
    intro wa0 hw'
    have hbq : RowKit.Below w6.heap.size w6 wa0 := by obtain ⟨p, rfl⟩ := hw'; exact below_regrown _ _ _
    have HBa0 := Lib.hid (thenW HB6.out hbq)
    clear hw' f0 f1 f2 f3 p0 p1 s0 s1 hbq
    go_wp2_with fail
    obtain ⟨p0, p1, s0, s1⟩ := HCELL.out _ HBa0.out
    have f0 := cell_regrown p0
    have f1 := cell_regrown p1
    have f2 := cell_regrown s0
    have f3 := cell_regrown s1
    refine wp_region_quiet_below (by kernel_rfl) (by kernel_rfl) ?_
    repeat (go_big_quiet_step ((go_at_call 22; refine Calls.regrown_of (HJl.out _ (thenW HBa0.out (below_regrown _ _ _))))))
    refine wpQuiet_nil ?_
    intro wb0 hw'
    have hbq : RowKit.Below wa0.heap.size wa0 wb0 := by obtain ⟨p, rfl⟩ := hw'; exact below_regrown _ _ _
    have HBb0 := Lib.hid (thenW HBa0.out hbq)
    clear hw' f0 f1 f2 f3 p0 p1 s0 s1 hbq
    obtain ⟨p0, p1, s0, s1⟩ := HCELL.out _ HBb0.out
    go_wp2_with fail
    go_at_call 23
    refine (HKl.out _ HBb0.out).mono ?_
    rintro e wc0 ⟨rfl, h⟩
    have HBc0 := Lib.hid (thenW HBb0.out h)
    clear h p0 p1 s0 s1
    obtain ⟨p0, p1, s0, s1⟩ := HCELL.out _ HBc0.out
    go_wp2_with fail
    go_at_call 24
    refine (HLl.out _ HBc0.out).mono ?_
    rintro e wd0 ⟨rfl, h⟩
    have HBd0 := Lib.hid (thenW HBc0.out h)
    clear h p0 p1 s0 s1
    obtain ⟨p0, p1, s0, s1⟩ := HCELL.out _ HBd0.out
    go_wp2_with fail
    go_at_call 25
    refine (HMl.out _ HBd0.out).mono ?_
    rintro e we0 ⟨v, rfl, hR, h⟩
    obtain ⟨Ae0, ce0, rfl, hle0, hCe0⟩ := Kd.R_reads hR
    have HBe0 := Lib.hid (thenW HBd0.out h)
    have HCe0 := Lib.hid hCe0
    clear h p0 p1 s0 s1 hR hCe0
    obtain ⟨p0, p1, s0, s1⟩ := HCELL.out _ HBe0.out
    go_wp2_with fail
    go_at_call 26
    refine (HNl.out _ HBe0.out).mono ?_
    rintro e wf0 ⟨v, rfl, hR, h⟩
    obtain ⟨Af0, cf0, rfl, hlf0, hCf0⟩ := Kd.R_reads hR
    have HBf0 := Lib.hid (thenW HBe0.out h)
    have HCf0 := Lib.hid hCf0
    have Hef0 := Lib.hid h
    clear h p0 p1 s0 s1 hR hCf0
    go_wp2_with fail
    go_at_call 19
    refine (gooseneckref01_Same.calls K _ _ _ _ _ _ true _ (Kd.C_below HCe0.out Hef0.out) hle0 HCf0.out hlf0 HSl.out).mono ?_
    rintro e w7 ⟨rfl, h⟩
    have HB7 := Lib.hid (thenW HBf0.out h.below)
    clear h
    go_wp2_with fail
    rw [rounds_succ]
    -- round 1
    go_wp2_with fail
    obtain ⟨p0, p1, s0, s1⟩ := HCELL.out _ HB7.out
    have f0 := cell_regrown p0
    have f1 := cell_regrown p1
    have f2 := cell_regrown s0
    have f3 := cell_regrown s1
    refine wp_region_quiet_below (by kernel_rfl) (by kernel_rfl) ?_
    repeat (go_big_quiet_step ((go_at_call 18; refine Calls.regrown_of (HIa.out _ (thenW HB7.out (below_regrown _ _ _))))))
    refine wpQuiet_nil ?_
    intro wa1 hw'
    have hbq : RowKit.Below w7.heap.size w7 wa1 := by obtain ⟨p, rfl⟩ := hw'; exact below_regrown _ _ _
    have HBa1 := Lib.hid (thenW HB7.out hbq)
    clear hw' f0 f1 f2 f3 p0 p1 s0 s1 hbq
    go_wp2_with fail
    obtain ⟨p0, p1, s0, s1⟩ := HCELL.out _ HBa1.out
    have f0 := cell_regrown p0
    have f1 := cell_regrown p1
    have f2 := cell_regrown s0
    have f3 := cell_regrown s1
    refine wp_region_quiet_below (by kernel_rfl) (by kernel_rfl) ?_
    repeat (go_big_quiet_step ((go_at_call 22; refine Calls.regrown_of (HJa.out _ (thenW HBa1.out (below_regrown _ _ _))))))
    refine wpQuiet_nil ?_
    intro wb1 hw'
    have hbq : RowKit.Below wa1.heap.size wa1 wb1 := by obtain ⟨p, rfl⟩ := hw'; exact below_regrown _ _ _
    have HBb1 := Lib.hid (thenW HBa1.out hbq)
    clear hw' f0 f1 f2 f3 p0 p1 s0 s1 hbq
    obtain ⟨p0, p1, s0, s1⟩ := HCELL.out _ HBb1.out
    go_wp2_with fail
    go_at_call 23
    refine (HKa.out _ HBb1.out).mono ?_
    rintro e wc1 ⟨rfl, h⟩
    have HBc1 := Lib.hid (thenW HBb1.out h)
    clear h p0 p1 s0 s1
    obtain ⟨p0, p1, s0, s1⟩ := HCELL.out _ HBc1.out
    go_wp2_with fail
    go_at_call 24
    refine (HLa.out _ HBc1.out).mono ?_
    rintro e wd1 ⟨rfl, h⟩
    have HBd1 := Lib.hid (thenW HBc1.out h)
    clear h p0 p1 s0 s1
    obtain ⟨p0, p1, s0, s1⟩ := HCELL.out _ HBd1.out
    go_wp2_with fail
    go_at_call 25
    refine (HMa.out _ HBd1.out).mono ?_
    rintro e we1 ⟨v, rfl, hR, h⟩
    obtain ⟨Ae1, ce1, rfl, hle1, hCe1⟩ := Kd.R_reads hR
    have HBe1 := Lib.hid (thenW HBd1.out h)
    have HCe1 := Lib.hid hCe1
    clear h p0 p1 s0 s1 hR hCe1
    obtain ⟨p0, p1, s0, s1⟩ := HCELL.out _ HBe1.out
    go_wp2_with fail
    go_at_call 26
    refine (HNa.out _ HBe1.out).mono ?_
    rintro e wf1 ⟨v, rfl, hR, h⟩
    obtain ⟨Af1, cf1, rfl, hlf1, hCf1⟩ := Kd.R_reads hR
    have HBf1 := Lib.hid (thenW HBe1.out h)
    have HCf1 := Lib.hid hCf1
    have Hef1 := Lib.hid h
    clear h p0 p1 s0 s1 hR hCf1
    go_wp2_with fail
    go_at_call 19
    refine (gooseneckref01_Same.calls K _ _ _ _ _ _ true _ (Kd.C_below HCe1.out Hef1.out) hle1 HCf1.out hlf1 HSa.out).mono ?_
    rintro e w8 ⟨rfl, h⟩
    have HB8 := Lib.hid (thenW HBf1.out h.below)
    clear h
    go_wp2_with fail
    rw [rounds_succ]
    go_wp2_with fail
    go_at_call 15
    refine (goosenecklaw01_works.calls K true _ HW.out).mono ?_
    rintro e w9 ⟨rfl, h⟩
    have HB9 := Lib.hid (thenW HBw5.out (thenW HB8.out h))
    clear h
    go_wp2
    go_ret
    exact ⟨rfl, HB9.out⟩
set_option maxRecDepth 100000 in
theorem hulls_great (A0 : Option Addr) (c0 : Nat) (l0 : List S31) (p : S31) (t : Int) (w : World) (hsm : (40 < l0.length ∧ l0.length ≤ 256) ∨ 400 < l0.length) (K : Nat) (hW : goosenecklaw01_works.f K = some true) :
    Calls Try.prog 4 #[.slice A0 l0.length c0, .agg #[.int .i64 p.f0, .int .i64 p.f1], .int .i64 t] w fun e w' => e = .returned (.bool true) ∧ Below w.heap.size w w' := by
  have HW := Lib.hid hW
  clear hW
  go_enter Try.func4, Try.ntmps4
  rcases hsm with ⟨h1, h2⟩ | h1
  all_goals
    go_wp2_with fail
    go_at_call 15
    refine (goosenecklaw01_works.calls K true _ HW.out).mono ?_
    rintro e w9 ⟨rfl, h⟩
    have HB9 := Lib.hid (thenW (balW (RowKit.Below.refl w.heap.size w) (.cells #[.int .i64 p.f0, .int .i64 p.f1] 31)) h)
    clear h
    go_wp2
    go_ret
    exact ⟨rfl, HB9.out⟩
theorem hullA_len (l : List S31) (h : l.length ≤ 4611686018427387904) : (hullA l).1.length ≤ 4611686018427387904 := by
  unfold hullA
  split
  · split
    · simp
    · have := hul_len l; simp only; omega
  · simp
theorem PlaneHulls_calls (A0 : Option Addr) (c0 : Nat) (l0 : List S31) (p : S31) (t : Int) (w : World) (hr0 : Kd.C k31 w A0 l0.length l0) (hc0 : l0.length ≤ c0) (hl : l0.length ≤ 4611686018427387904) :
    Calls Try.prog 4 #[.slice A0 l0.length c0, .agg #[.int .i64 p.f0, .int .i64 p.f1], .int .i64 t] w fun e w' => e = .returned (.bool true) ∧ Below w.heap.size w w' := by
  obtain ⟨K0, e0⟩ := works_ev
  by_cases hs : l0.length ≤ 40 ∨ (256 < l0.length ∧ l0.length ≤ 400)
  · obtain ⟨K1, e1⟩ := hull_gen l0 hl
    obtain ⟨K2, e2⟩ := refHull_gen l0 hl
    obtain ⟨K3, e3⟩ := isHull_ev l0 hl
    obtain ⟨K4, e4⟩ := refIsHull_ev l0 hl
    obtain ⟨K5, e5⟩ := same_ev (hullA l0).1 (hullA l0).1 (hullA_len l0 hl)
    rw [decide_eq_true rfl] at e5
    obtain ⟨K6, i, ei, s, es, g, eg, e6⟩ := list_data l0 hl p t
    obtain ⟨K7, j, ej, u, eu, o, eo, e7⟩ := list_data (hullA l0).1 (hullA_len l0 hl) p t
    exact hulls_walk A0 c0 l0 p t w hr0 hc0 hs (K0 + K1 + K2 + K3 + K4 + K5 + K6 + K7) (hullA l0).1 (hullA l0).2 (e1 _ (by omega)) (e2 _ (by omega)) (e5 _ (by omega)) (isH l0) (e3 _ (by omega)) (e4 _ (by omega)) i ei s es g eg (e6 _ (by omega)) j ej u eu o eo (e7 _ (by omega)) (e0 _ (by omega))
  · exact hulls_great A0 c0 l0 p t w (by omega) K0 (e0 _ (Nat.le_refl _))
end Go.Proofs.Ytkbcomgffpbcbaa.Plane
