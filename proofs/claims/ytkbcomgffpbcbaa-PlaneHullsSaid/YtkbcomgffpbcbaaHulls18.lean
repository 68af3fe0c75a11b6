/- A part of the proof of Hulls: walks of functions, and plain lemmas. No conditions. -/
import Derived.ArgAppend
import Derived.Below
import Derived.BigQuiet
import Derived.Deep.AppendLies
import Derived.Deep.CutBlock
import Derived.Deep.DeepCutAuto
import Derived.Deep.DeepFit
import Derived.Deep.DeepMust
import Derived.Deep.Draws
import Derived.Deep.LoopGhost
import Derived.Deep.OwnRows
import Derived.Deep.QuietTactic
import Derived.Deep.RegionHeld3
import Derived.Ground.SlgnProg
import Derived.Ground.SlsfProg
import Derived.KernelRfl
import Derived.Laws.BitsLemmas
import Derived.Laws.BytesArg
import Derived.Laws.IdiomCopy
import Derived.Laws.MakeOwn
import Derived.Laws.OwnMore
import Derived.Laws.Rows
import Derived.Laws.Slices
import Derived.Laws.StructEq
import Derived.Lib.AppendStr
import Derived.Lib.ConvBytes
import Derived.Lib.Hide
import Derived.Lib.QuietBelow
import Derived.Lib.QuietBelowIn
import Derived.Lib.SliceRun
import Derived.Lib.SlicesCompact
import Derived.LoopIn
import Derived.LoopNIn
import Derived.Maps.AppendAt
import Derived.OrdersHeld
import Derived.Outline
import Derived.OwnWalk
import Derived.OwnWalkIn
import Derived.RangeFuncBound
import Derived.RangeFuncBox
import Derived.RangeFuncCalls
import Derived.RangeFuncLeaves
import Derived.RangeFuncNested
import Derived.RowKit
import Derived.RowKit3
import Derived.Shelf.Abstract
import Derived.Shelf.RegionOpen
import Derived.Shelf.SlGeneric
import Derived.Shelf.SlSortCmp.WholeK
import Derived.Shelf.Slices.CompactI
import Derived.Shelf.SlicesQ.Reverse
import Derived.Sort.LoopGhostIn
import Derived.Sort.OwnSorted
import Derived.StillTailTactics
import Derived.Tactics
import Derived.TacticsIn
import Derived.TacticsInMore
import Derived.Test.YtkbcomgffpbcbaaProg
import Derived.WalkKit
import Derived.WalkSmall
import Derived.WalkSpells
import Derived.WideLaws
import Derived.Test.YtkbcomgffpbcbaaHulls2
import Derived.Test.YtkbcomgffpbcbaaHulls3
import Derived.Test.YtkbcomgffpbcbaaHulls5
import Derived.Test.YtkbcomgffpbcbaaHulls7
import Derived.Test.YtkbcomgffpbcbaaHulls8
import Derived.Test.YtkbcomgffpbcbaaHulls10
import Derived.Test.YtkbcomgffpbcbaaHulls14
import Derived.Test.YtkbcomgffpbcbaaHulls16
import Derived.Test.YtkbcomgffpbcbaaHulls17
namespace Go.Proofs.Ytkbcomgffpbcbaa.Plane
open Go.RowKit Go.Shelf Go.Sort Go.Proofs.YtkbcomgffpbcbaaW.PrintWords Go.Proofs.YtkbcomgffpbcbaaW.PrintLast Go.Proofs.YtkbcomgffpbcbaaW.PrintMore
set_option linter.unusedVariables false
set_option linter.unusedSimpArgs false
attribute [local go_sem high] eqA31
theorem before_f (a b : S31) : gooseneckref01_before.f a.f0 a.f1 b.f0 b.f1 = some (decide (Geo.lex (ptOf a) (ptOf b))) := by
  unfold gooseneckref01_before.f Geo.lex ptOf
  by_cases h : a.f0 < b.f0
  · simp [h]
  · by_cases h2 : a.f0 = b.f0
    · simp [h2]
    · simp [h, h2]
theorem insC_at {x : Int × Int} : ∀ (acc : List (Int × Int)) (at' : Nat), at' ≤ acc.length → (∀ j (h : j < acc.length), j < at' → Geo.lex acc[j] x) → Geo.insC x acc = acc.take at' ++ Geo.insC x (acc.drop at')
  | acc, 0, _, _ => by simp
  | [], n + 1, h, _ => by simp at h
  | a :: r, n + 1, h, hj => by
    have h0 := hj 0 (by simp) (by omega)
    simp only [List.getElem_cons_zero] at h0
    rw [List.take_succ_cons, List.drop_succ_cons, List.cons_append, ← insC_at r n (by simpa using h) (fun j hl hlt => by have := hj (j + 1) (by simpa using hl) (by omega); simpa using this)]
    rw [Geo.insC, if_pos h0]
theorem foldl_take (l : List S31) (i : Nat) (hi : i < l.length) : (pts (l.take (i + 1))).foldl (fun acc x => Geo.insC x acc) [] = Geo.insC (ptOf (l.getD i z31)) ((pts (l.take i)).foldl (fun acc x => Geo.insC x acc) []) := by
  have e : l.take (i + 1) = l.take i ++ [l.getD i z31] := by
    rw [List.take_add_one]
    simp [List.getD_eq_getElem?_getD, hi]
  rw [e]
  unfold pts
  rw [List.map_append, List.foldl_append]
  rfl
theorem insC_length (x : Int × Int) : ∀ acc : List (Int × Int), (Geo.insC x acc).length ≤ acc.length + 1
  | [] => Nat.le_refl _
  | a :: r => by
    have := insC_length x r
    unfold Geo.insC
    by_cases h : Geo.lex a x
    · rw [if_pos h]; simp only [List.length_cons]; omega
    · rw [if_neg h]
      by_cases h2 : a = x
      · rw [if_pos h2]; simp
      · rw [if_neg h2]; simp
theorem step_appP {ops : Array Oper} {o : Oper} {a : Act} {W : World} {K : Act → World → Prop} {Q : Exit → Act → World → Prop} (wy : World) (hgd : o.guard = none) (s x : Operand)
    (ho : o.op = .call { callee := .builtin .append, args := #[s, x], argTypes := #[23, 23] }) (v : Value) (xs ys : List S31) (A : Option Addr) (m c : Nat) (hs : a.eval s = v) (hx : a.eval x = .slice A m c)
    (HO : OwnP W wy.heap.size v xs) (HR : ReadsRow (fun x cs => cs = encL x) 2 W A m ys) (HB : RowKit.Below wy.heap.size wy W) (hl : xs.length + m ≤ 200000)
    (h : ∀ v1 w1, OwnP w1 wy.heap.size v1 (xs ++ ys) → RowKit.Below wy.heap.size wy w1 → W.grownBy w1 v.ownBlock → K (a.put o.dst v1) w1) :
    if Region.wanted o (yielded ops a.tmps) = true then Oper.wp Try.prog o a W K Q else K (a.put o.dst undef) W := by
  have hw : Region.wanted o (yielded ops a.tmps) = true := by simp [Region.wanted, hgd]
  exact Kd.R_append_rows_step k31 (w0 := wy) wy.heap.size hw s x 23 31 (.agg #[(.int .i64 0), (.int .i64 0)]) 16 ho Try.underlying23 info31 rfl (by decide) (by omega) v xs ys A m c (fun _ => True) (fun _ => False) hs hx (HO.toR (fun _ _ => trivial)) HR (fun x cs h => by rw [h]; exact k31_mkM _ _ _ _) (fun _ h => h.elim) (fun _ _ => trivial) HB HB.size (by omega)
    (fun v1 w1 h1 h2 h3 _ => h v1 w1 (OwnP.ofR h1) h2 h3)
theorem bal {a w : World} (h : RowKit.Below a.heap.size a w) (o : Obj) : RowKit.Below a.heap.size a (w.alloc o) := h.alloc h.size o
theorem own_new {W : World} {base H : Nat} (hH : W.heap.size = H) (hb : base ≤ H) : OwnP (W.alloc (.cells #[] 31)) base (.slice (some ⟨H, 0, none⟩) 0 0) [] := by
  subst hH
  exact ⟨rfl, .inr ⟨_, 0, #[], rfl, hb, World.alloc_heap_new W _, Nat.le_refl _, by unfold maxLen; omega, rfl, rfl⟩⟩
theorem OwnP.alloc {W : World} {base : Nat} {v : Value} {zs : List S31} (h : OwnP W base v zs) (o : Obj) : OwnP (W.alloc o) base v zs := h.below (below_alloc (RowKit.Below.refl _ _) _)
theorem OwnP.drew {W : World} {base : Nat} {v : Value} {zs : List S31} (h : OwnP W base v zs) : OwnP W.drew base v zs := h.below (below_drew (RowKit.Below.refl _ _))
theorem bdr {a w : World} (h : RowKit.Below a.heap.size a w) : RowKit.Below a.heap.size a w.drew := below_drew h
theorem new_at {W : World} {o : Obj} {H : Nat} (h : W.heap.size = H) : (W.alloc o).heap[H]? = some o := by subst h; exact World.alloc_heap_new W o
theorem old_at {W : World} {o o' : Obj} {H : Nat} (h : W.heap[H]? = some o) : (W.alloc o').heap[H]? = some o := ((below_alloc (RowKit.Below.refl _ W) o').block H (Array.getElem?_eq_some_iff.1 h).1).trans h
theorem drew_at {W : World} {o : Obj} {H : Nat} (h : W.heap[H]? = some o) : W.drew.heap[H]? = some o := h
theorem row_one {W : World} {H : Nat} {x0 x1 : Int} (h : W.heap[H]? = some (.cells #[.int .i64 x0, .int .i64 x1] 31)) : ReadsRow (fun x cs => cs = encL x) 2 W (some ⟨H, 0, none⟩) 1 [(⟨x0, x1⟩ : S31)] := by
  refine ⟨rfl, by omega, fun _ => ⟨_, rfl, fun j p hj => ?_⟩⟩
  have : j = 0 := by have := (List.getElem?_eq_some_iff.1 hj).1; simpa using this
  subst this
  simp at hj
  subst hj
  refine ⟨_, rfl, rfl, fun i u hu => ?_⟩
  rw [add_plain, Nat.zero_mul, Nat.zero_add]
  match i with
  | 0 => simp [encL] at hu; subst hu; simp [World.cell?, h]
  | 1 => simp [encL] at hu; subst hu; simp [World.cell?, h]
  | i + 2 => simp [encL] at hu
theorem OwnP.dropReads {W : World} {base g n cap : Nat} {zs : List S31} (h : OwnP W base (.slice (some ⟨g, 0, none⟩) n cap) zs) (m : Nat) (hm : m ≤ zs.length) (hn : zs.length ≤ 9223372036854775807) (A : Option Addr) (hA : m < zs.length → A = some ⟨g, m * 2, none⟩) : ReadsRow (fun x cs => cs = encL x) 2 W A (zs.length - m) (zs.drop m) := by
  refine ⟨by rw [List.length_drop], by omega, fun hp => ⟨_, hA (by omega), fun j p hj => ⟨encL p, rfl, rfl, fun i u hu => ?_⟩⟩⟩
  rw [List.getElem?_drop] at hj
  obtain ⟨hl, e⟩ := List.getElem?_eq_some_iff.1 hj
  have hc := h.cell hl
  have hd : zs.getD (m + j) z31 = p := by simp [List.getD_eq_getElem?_getD, hj]
  rw [hd] at hc
  have e2 : (⟨g, m * 2, none⟩ : Addr).add (j * 2 + i) = ⟨g, (m + j) * 2 + i, none⟩ := by
    have e3 : m * 2 + (j * 2 + i) = (m + j) * 2 + i := by omega
    unfold Addr.add
    split
    · simp_all
    · rw [← e3]
  rw [e2]
  match i with
  | 0 => simp [encL] at hu; rw [← hu]; exact hc.1
  | 1 => simp [encL] at hu; rw [← hu]; exact hc.2
  | i + 2 => simp [encL] at hu
theorem OwnP.takeReads {W : World} {base g n cap : Nat} {zs : List S31} (h : OwnP W base (.slice (some ⟨g, 0, none⟩) n cap) zs) (m : Nat) (hm : m ≤ zs.length) (hn : zs.length ≤ 9223372036854775807) : ReadsRow (fun x cs => cs = encL x) 2 W (some ⟨g, 0, none⟩) m (zs.take m) := by
  have := (h.take hm).reads (by rw [List.length_take]; omega)
  rwa [List.length_take, Nat.min_eq_left hm] at this
set_option maxRecDepth 100000 in
set_option maxHeartbeats 16000000 in
theorem sorted_calls (A0 : Option Addr) (c0 : Nat) (l0 : List (S31)) (r : List (S31)) (w : World) (hr0 : Kd.C k31 w A0 l0.length l0) (hc0 : l0.length ≤ c0) (h : gooseneckref01_sorted.f l0 = some r) :
    Calls Try.prog 132 #[.slice A0 l0.length c0] w fun e w' => ∃ v0_ : Value, e = .returned (v0_) ∧ Kd.R k31 31 w' w.heap.size (fun _ => True) v0_ r ∧ Below w.heap.size w w' := by
  unfold gooseneckref01_sorted.f at h
  split at h
  case isFalse => cases h
  case isTrue hlen =>
  injection h with h
  subst h
  have HR := Lib.hid hr0
  have hu := Try.underlying31
  have mixed : Try.prog.follows .mixedOrders = true := by kernel_rfl
  clear hr0
  go_enter Try.func132, Try.ntmps132
  go_wp2
  go_loopg [3, 4] l0.length (fun g v3 v4 wr => ∃ (i : Nat) (acc : List (Int × Int)), v4 = .int .i64 i ∧ i ≤ l0.length ∧ Hid (acc = (pts (l0.take i)).foldl (fun acc x => Geo.insC x acc) []) ∧ acc.length ≤ i ∧ OwnP wr w.heap.size v3 (acc.map mkP) ∧ Hid (Below w.heap.size w wr) ∧ l0.length - i ≤ g)
  case atStart => exact ⟨0, [], rfl, Nat.zero_le _, Lib.hid (by simp [pts]), by simp, OwnP.nil _ _, Lib.hid (Below.refl _ _), by omega⟩
  case round =>
    obtain ⟨i, acc, rfl, hi, HA, hal, ho, HB, hg⟩ := hrel
    by_cases hlt : i < l0.length
    · obtain ⟨ad, e, hx0, hx1⟩ := at_T31 HR.out i (by omega) (by omega)
      cases e
      rw [Int.toNat_natCast] at hx0 hx1
      replace hx0 := (HB.out.cell (World.block_lt_of_cell? w _ hx0)).trans hx0
      replace hx1 := (HB.out.cell (World.block_lt_of_cell? w _ hx1)).trans hx1
      have hxe : rd_T31 l0 i = l0.getD i z31 := by unfold rd_T31; rw [Int.toNat_natCast]
      have HF := Lib.hid (foldl_take l0 i hlt)
      rw [← hxe, ← HA.out] at HF
      generalize rd_T31 l0 i = x at hx0 hx1 HF
      clear hxe
      obtain ⟨af, cf, hv3⟩ := ho.form
      subst hv3
      rw [List.length_map] at ho ⊢
      go_wp2
      rename World => wo
      go_loopg [5] acc.length (fun g v5 wq => ∃ (at' : Nat), v5 = .int .i64 at' ∧ at' ≤ acc.length ∧ Hid (∀ j (h : j < acc.length), j < at' → Geo.lex acc[j] (ptOf x)) ∧ Hid (Below wo.heap.size wo wq) ∧ acc.length - at' ≤ g)
      case atStart => exact ⟨0, rfl, Nat.zero_le _, Lib.hid (fun j _ h => absurd h (Nat.not_lt_zero _)), Lib.hid (Below.refl _ _), by omega⟩
      case round =>
        rename World => wq
        obtain ⟨at', rfl, hat, HJ, HBq, hg2⟩ := hrel
        replace hx0 := (HBq.out.cell (World.block_lt_of_cell? wo _ hx0)).trans hx0
        replace hx1 := (HBq.out.cell (World.block_lt_of_cell? wo _ hx1)).trans hx1
        have ho2 := ho.below HBq.out
        by_cases hla : at' < acc.length
        · obtain ⟨gf, cf', hvf, hgf1, hgf2, hgf3, hgf4, curf, hgf5⟩ := ho.slice (by rw [List.length_map]; omega)
          rw [List.length_map] at hvf hgf3
          injection hvf with e1 e2 e3
          subst e1 e3
          clear e2
          have hy := ho2.cell (j := at') (by rw [List.length_map]; exact hla)
          have ey : (acc.map mkP).getD at' z31 = mkP acc[at'] := by simp [List.getD_eq_getElem?_getD, hla]
          rw [ey] at hy
          have HIns := Lib.hid (insC_at (x := ptOf x) acc at' hat HJ.out)
          have hdrop := List.drop_eq_getElem_cons hla
          rw [hdrop] at HIns
          have HJ2 : Geo.lex acc[at'] (ptOf x) → Hid (∀ j (h : j < acc.length), j < at' + 1 → Geo.lex acc[j] (ptOf x)) := fun hl => Lib.hid (fun j hj hj2 => by
            by_cases e : j = at'
            · subst e; exact hl
            · exact HJ.out j hj (by omega))
          generalize acc[at'] = y at hy HIns HJ2 hdrop
          have hbc : ∀ W, Calls Try.prog 162 #[.agg #[.int .i64 y.1, .int .i64 y.2], .agg #[.int .i64 x.f0, .int .i64 x.f1]] W fun e w' => e = .returned (.bool (decide (Geo.lex y (ptOf x)))) ∧ Below W.heap.size W w' := fun W => gooseneckref01_before.calls _ _ _ _ _ W (before_f (mkP y) x)
          have f1 := cell_regrown hx0
          have f2 := cell_regrown hx1
          have f3 := cell_regrown hy.1
          have f4 := cell_regrown hy.2
          simp only [mkP] at f3 f4
          have hdr := Lib.hid hdrop
          clear hdrop ey
          by_cases hl : Geo.lex y (ptOf x)
          · rw [decide_eq_true hl] at hbc
            have HJ3 := HJ2 hl
            clear HJ2 HIns hl hx0 hx1 hy
            have hgd : decide ((at' : Int) < (acc.length : Int)) = true := decide_eq_true (by omega)
            go_wp2_with fail
            refine wp_region_quiet_below (by kernel_rfl) (by kernel_rfl) ?_
            repeat (go_big_quiet_step ((go_at_call 162; refine Calls.regrown_of (hbc _))))
            refine wpQuiet_nil ?_
            intro wz hw'
            have hbq : Below wq.heap.size wq wz := by obtain ⟨p, rfl⟩ := hw'; exact below_regrown _ _ _
            clear hw' hbc f1 f2 f3 f4
            go_wp2
            go_roundg (acc.length - (at' + 1))
            case measure => omega
            case rel => exact ⟨at' + 1, by go_num, by omega, HJ3, Lib.hid (HBq.out.trans (hbq.mono HBq.out.size)), by omega⟩
          · rw [decide_eq_false hl] at hbc
            clear HJ2
            have hgd : decide ((at' : Int) < (acc.length : Int)) = true := decide_eq_true (by omega)
            have hge : ((at' : Int) == (acc.length : Int)) = false := beq_eq_false_iff_ne.2 (by omega)
            go_wp2_with fail
            refine wp_region_quiet_below (by kernel_rfl) (by kernel_rfl) ?_
            repeat (go_big_quiet_step ((go_at_call 162; refine Calls.regrown_of (hbc _))))
            refine wpQuiet_nil ?_
            intro wz hw'
            have hbq : Below wq.heap.size wq wz := by obtain ⟨p, rfl⟩ := hw'; exact below_regrown _ _ _
            clear hw' hbc f1 f2 f3 f4
            have HBz := Lib.hid (HBq.out.trans (hbq.mono HBq.out.size))
            replace hx0 := (hbq.cell (World.block_lt_of_cell? wq _ hx0)).trans hx0
            replace hx1 := (hbq.cell (World.block_lt_of_cell? wq _ hx1)).trans hx1
            have hy0 := (hbq.cell (World.block_lt_of_cell? wq _ hy.1)).trans hy.1
            have hy1 := (hbq.cell (World.block_lt_of_cell? wq _ hy.2)).trans hy.2
            simp only [mkP] at hy0 hy1
            have ho3 := ho2.below hbq
            clear ho2 hy hgd
            have f1 := cell_regrown hx0
            have f2 := cell_regrown hx1
            have f3 := cell_regrown hy0
            have f4 := cell_regrown hy1
            by_cases he : y = ptOf x
            · have hi9 : Geo.insC (ptOf x) acc = acc := by
                rw [HIns.out, he]
                unfold Geo.insC
                rw [if_neg (Geo.lex_irrefl _), if_pos rfl, ← he, ← hdr.out, List.take_append_drop]
              have HI9 := Lib.hid hi9
              obtain ⟨y0, y1⟩ := y
              unfold ptOf at he
              injection he with he0 he1
              subst he0 he1
              clear HIns hi9 hl
              go_wp2_with fail
              refine wp_region_quiet_below (by kernel_rfl) (by kernel_rfl) ?_
              repeat (go_big_quiet_step (fail))
              refine wpQuiet_nil ?_
              intro wy hw'
              have hby : Below wz.heap.size wz wy := by obtain ⟨p, rfl⟩ := hw'; exact below_regrown _ _ _
              clear hw' f1 f2 f3 f4
              go_wp2
              go_roundg (l0.length - (i + 1))
              case measure => omega
              case rel =>
                refine ⟨i + 1, acc, by go_num, by omega, Lib.hid (by rw [HF.out, HI9.out]), by omega, ?_, Lib.hid ?_, Nat.le_refl _⟩
                · have := ho3.below hby
                  rw [show acc.length = (acc.map mkP).length from (List.length_map _).symm]
                  rw [List.length_map]
                  exact this
                · exact HB.out.trans ((HBz.out.trans (hby.mono HBz.out.size)).mono HB.out.size)
            · have hne3 : (!y.1 == x.f0 || !y.2 == x.f1) = true := by
                have : ¬ (y.1 = x.f0 ∧ y.2 = x.f1) := fun e => he (by obtain ⟨y0, y1⟩ := y; simp at e; simp [ptOf, e])
                simp only [Bool.or_eq_true, Bool.not_eq_true', beq_eq_false_iff_ne]
                omega
              go_wp2_with fail
              refine wp_region_quiet_below (by kernel_rfl) (by kernel_rfl) ?_
              repeat (go_big_quiet_step (fail))
              refine wpQuiet_nil ?_
              intro wy hw'
              have hby : Below wz.heap.size wz wy := by obtain ⟨p, rfl⟩ := hw'; exact below_regrown _ _ _
              clear hw' f1 f2 f3 f4
              go_wp2
              have hres : (Geo.insC (ptOf x) acc).map mkP = (((acc.map mkP).take at' ++ [x]) ++ (acc.map mkP).drop at') := by
                rw [HIns.out]
                unfold Geo.insC
                rw [if_neg hl, if_neg he, ← hdr.out]
                rw [List.map_append, List.map_cons, List.map_take, List.map_drop, List.append_assoc]
                rfl
              have Hres := Lib.hid hres
              have ho9 := ho3.below hby
              have hlm : (acc.map mkP).length = acc.length := List.length_map _
              have hB9 := HB.out.trans ((HBz.out.trans (hby.mono HBz.out.size)).mono HB.out.size)
              have Hrd1 : Hid (∀ W', RowKit.Below wy.heap.size wy W' → ReadsRow (fun x cs => cs = encL x) 2 W' (some ⟨gf, 0, none⟩) at' ((acc.map mkP).take at')) := Lib.hid (fun W' hW' => (ho9.below hW').takeReads at' (by omega) (by omega))
              have Hrd2 : Hid (∀ W', RowKit.Below wy.heap.size wy W' → ReadsRow (fun x cs => cs = encL x) 2 W' (some ⟨gf, at' * 2, none⟩) (acc.length - at') ((acc.map mkP).drop at')) := Lib.hid (fun W' hW' => by have := (ho9.below hW').dropReads at' (by omega) (by omega) (some ⟨gf, at' * 2, none⟩) (fun _ => rfl); rwa [hlm] at this)
              have Hl9 := Lib.hid hlm
              replace hx0 := (hby.cell (World.block_lt_of_cell? wz _ hx0)).trans hx0
              replace hx1 := (hby.cell (World.block_lt_of_cell? wz _ hx1)).trans hx1
              have HS : Hid (∀ W', RowKit.Below wy.heap.size wy W' → W'.cell? (ad.add (i * 2)) = some (.int .i64 x.f0) ∧ W'.cell? ⟨(ad.add (i * 2)).block, (ad.add (i * 2)).off + 1, none⟩ = some (.int .i64 x.f1)) := Lib.hid (fun W' hW' => ⟨(hW'.cell (World.block_lt_of_cell? wy _ hx0)).trans hx0, (hW'.cell (World.block_lt_of_cell? wy _ hx1)).trans hx1⟩)
              have hB0 : RowKit.Below wy.heap.size wy wy.drew := below_drew (RowKit.Below.refl _ _)
              have hc1 : at' ≤ cf := by omega
              have hc2 : ¬ cf = at' := by omega
              go_region_held3 (fun w' => w'.cell? (ad.add (i * 2)) = some (.int .i64 x.f0) ∧ w'.cell? ⟨(ad.add (i * 2)).block, (ad.add (i * 2)).off + 1, none⟩ = some (.int .i64 x.f1)) (first | (exact HS.out _ (by repeat (first | assumption | exact RowKit.Below.refl _ _ | refine bal ?_ _ | refine bdr ?_))))
                (first
                  | ((refine step_appP wy (by rfl) (.tmp 44) (.tmp 47) (by rfl) _ [] _ _ _ _ (by rfl) (by rfl) (by repeat (first | assumption | exact own_new (by simp) (by simp) | refine OwnP.alloc ?_ _ | refine OwnP.drew ?_)) (Hrd1.out _ (by repeat (first | assumption | exact RowKit.Below.refl _ _ | refine bal ?_ _ | refine bdr ?_))) (by repeat (first | assumption | exact RowKit.Below.refl _ _ | refine bal ?_ _ | refine bdr ?_)) (by have := Hl9.out; first | (simp; done) | (simp; omega)) ?_); intro v1 w1 hO1 hb1 hg1)
                  | ((refine step_appP wy (by rfl) (.tmp 48) (.tmp 53) (by rfl) v1 ([] ++ (acc.map mkP).take at') _ _ _ _ (by rfl) (by rfl) (by repeat (first | exact hO1 | refine OwnP.alloc ?_ _ | refine OwnP.drew ?_)) (row_one (x0 := x.f0) (x1 := x.f1) (by first | exact World.alloc_heap_new _ _ | (refine (hg1.block _ (by first | (simp; done) | (simp; omega)) (by show some _ ≠ some _; simp)).trans ?_; repeat (first | exact new_at (by simp) | refine drew_at ?_ | refine old_at ?_)))) (by repeat (first | assumption | exact RowKit.Below.refl _ _ | refine bal ?_ _ | refine bdr ?_)) (by have := Hl9.out; first | (simp; done) | (simp; omega)) ?_); intro v2 w2 hO2 hb2 hg2)
                  | ((refine step_appP wy (by rfl) (.tmp 54) (.tmp 57) (by rfl) v2 ([] ++ (acc.map mkP).take at' ++ [(⟨x.f0, x.f1⟩ : S31)]) _ _ _ _ (by rfl) (by rfl) (by repeat (first | exact hO2 | refine OwnP.alloc ?_ _ | refine OwnP.drew ?_)) (Hrd2.out _ (by repeat (first | assumption | exact RowKit.Below.refl _ _ | refine bal ?_ _ | refine bdr ?_))) (by repeat (first | assumption | exact RowKit.Below.refl _ _ | refine bal ?_ _ | refine bdr ?_)) (by have := Hl9.out; first | (simp; done) | (simp; omega)) ?_); intro v3 w3 hO3 hb3 hg3))
              all_goals
                go_wp2
                go_roundg (l0.length - (i + 1))
                case measure => omega
                case rel =>
                  have hle9 : w.heap.size ≤ wy.heap.size := hB9.size
                  refine ⟨i + 1, Geo.insC (ptOf x) acc, by go_num, by omega, Lib.hid (by rw [HF.out]), Nat.le_trans (insC_length _ _) (by omega), ?_, Lib.hid (hB9.trans (hb3.mono hle9)), Nat.le_refl _⟩
                  rw [Hres.out]
                  exact hO3.base hle9
        · obtain rfl : at' = acc.length := by omega
          have HIns := Lib.hid (insC_at (x := ptOf x) acc acc.length (Nat.le_refl _) HJ.out)
          have hgd : decide ((acc.length : Int) < (acc.length : Int)) = false := decide_eq_false (by omega)
          have hge : ((acc.length : Int) == (acc.length : Int)) = true := beq_self_eq_true _
          go_wp2_with fail
          refine wp_region_quiet_below (by kernel_rfl) (by kernel_rfl) ?_
          repeat (go_big_quiet_step (fail))
          refine wpQuiet_nil ?_
          intro wz hw'
          have hbq : Below wq.heap.size wq wz := by obtain ⟨p, rfl⟩ := hw'; exact below_regrown _ _ _
          clear hw'
          have HBz := Lib.hid (HBq.out.trans (hbq.mono HBq.out.size))
          replace hx0 := (hbq.cell (World.block_lt_of_cell? wq _ hx0)).trans hx0
          replace hx1 := (hbq.cell (World.block_lt_of_cell? wq _ hx1)).trans hx1
          have ho3 := ho2.below hbq
          clear ho2 hgd
          go_wp2_with fail
          refine wp_region_quiet_below (by kernel_rfl) (by kernel_rfl) ?_
          repeat (go_big_quiet_step (fail))
          refine wpQuiet_nil ?_
          intro wy hw'
          have hby : Below wz.heap.size wz wy := by obtain ⟨p, rfl⟩ := hw'; exact below_regrown _ _ _
          clear hw'
          go_wp2
          have hres : (Geo.insC (ptOf x) acc).map mkP = (((acc.map mkP).take acc.length ++ [x]) ++ []) := by
            rw [HIns.out, List.take_length, List.drop_length, List.take_of_length_le (by rw [List.length_map]; exact Nat.le_refl _)]
            simp [Geo.insC, mkP, ptOf]
          have Hres := Lib.hid hres
          have ho9 := ho3.below hby
          have hlm : (acc.map mkP).length = acc.length := List.length_map _
          have hB9 := HB.out.trans ((HBz.out.trans (hby.mono HBz.out.size)).mono HB.out.size)
          have Hl9 := Lib.hid hlm
          replace hx0 := (hby.cell (World.block_lt_of_cell? wz _ hx0)).trans hx0
          replace hx1 := (hby.cell (World.block_lt_of_cell? wz _ hx1)).trans hx1
          have HS : Hid (∀ W', RowKit.Below wy.heap.size wy W' → W'.cell? (ad.add (i * 2)) = some (.int .i64 x.f0) ∧ W'.cell? ⟨(ad.add (i * 2)).block, (ad.add (i * 2)).off + 1, none⟩ = some (.int .i64 x.f1)) := Lib.hid (fun W' hW' => ⟨(hW'.cell (World.block_lt_of_cell? wy _ hx0)).trans hx0, (hW'.cell (World.block_lt_of_cell? wy _ hx1)).trans hx1⟩)
          have hB0 : RowKit.Below wy.heap.size wy wy.drew := below_drew (RowKit.Below.refl _ _)
          have Hrd2 : ∀ A : Option Addr, Hid (∀ W', RowKit.Below wy.heap.size wy W' → ReadsRow (fun x cs => cs = encL x) 2 W' A 0 ([] : List S31)) := fun A => Lib.hid (fun W' _ => ⟨rfl, by omega, fun h => absurd h (Nat.lt_irrefl _)⟩)
          clear hx0 hx1 hres
          rcases ho.2 with ⟨hv, h0⟩ | ⟨gf, cf', curf, hv, hgf1, hgf5, hgf3, hgf4, hgx⟩
          · injection hv with e1 e2 e3
            subst e1 e3
            rw [List.length_map] at h0
            have hacc : acc = [] := List.length_eq_zero_iff.1 h0
            subst hacc
            have Hrd1 : Hid (∀ W', RowKit.Below wy.heap.size wy W' → ReadsRow (fun x cs => cs = encL x) 2 W' none 0 ((([] : List (Int × Int)).map mkP).take ([] : List (Int × Int)).length)) := Lib.hid (fun W' _ => ⟨rfl, by omega, fun h => absurd h (Nat.lt_irrefl _)⟩)
            go_region_held3 (fun w' => w'.cell? (ad.add (i * 2)) = some (.int .i64 x.f0) ∧ w'.cell? ⟨(ad.add (i * 2)).block, (ad.add (i * 2)).off + 1, none⟩ = some (.int .i64 x.f1)) (first | (exact HS.out _ (by repeat (first | assumption | exact RowKit.Below.refl _ _ | refine bal ?_ _ | refine bdr ?_))))
              (first
                | ((refine step_appP wy (by rfl) (.tmp 44) (.tmp 47) (by rfl) _ [] _ _ _ _ (by rfl) (by rfl) (by repeat (first | assumption | exact own_new (by simp) (by simp) | refine OwnP.alloc ?_ _ | refine OwnP.drew ?_)) (Hrd1.out _ (by repeat (first | assumption | exact RowKit.Below.refl _ _ | refine bal ?_ _ | refine bdr ?_))) (by repeat (first | assumption | exact RowKit.Below.refl _ _ | refine bal ?_ _ | refine bdr ?_)) (by have := Hl9.out; first | (simp; done) | (simp; omega)) ?_); intro v1 w1 hO1 hb1 hg1)
                | ((refine step_appP wy (by rfl) (.tmp 48) (.tmp 53) (by rfl) v1 ([] ++ (([] : List (Int × Int)).map mkP).take ([] : List (Int × Int)).length) _ _ _ _ (by rfl) (by rfl) (by repeat (first | exact hO1 | refine OwnP.alloc ?_ _ | refine OwnP.drew ?_)) (row_one (x0 := x.f0) (x1 := x.f1) (by first | exact World.alloc_heap_new _ _ | (refine (hg1.block _ (by first | (simp; done) | (simp; omega)) (by show some _ ≠ some _; simp)).trans ?_; repeat (first | exact new_at (by simp) | refine drew_at ?_ | refine old_at ?_)))) (by repeat (first | assumption | exact RowKit.Below.refl _ _ | refine bal ?_ _ | refine bdr ?_)) (by have := Hl9.out; first | (simp; done) | (simp; omega)) ?_); intro v2 w2 hO2 hb2 hg2)
                | ((refine step_appP wy (by rfl) (.tmp 54) (.tmp 57) (by rfl) v2 ([] ++ (([] : List (Int × Int)).map mkP).take ([] : List (Int × Int)).length ++ [(⟨x.f0, x.f1⟩ : S31)]) _ _ _ _ (by rfl) (by rfl) (by repeat (first | exact hO2 | refine OwnP.alloc ?_ _ | refine OwnP.drew ?_)) ((Hrd2 _).out _ (by repeat (first | assumption | exact RowKit.Below.refl _ _ | refine bal ?_ _ | refine bdr ?_))) (by repeat (first | assumption | exact RowKit.Below.refl _ _ | refine bal ?_ _ | refine bdr ?_)) (by have := Hl9.out; first | (simp; done) | (simp; omega)) ?_); intro v3 w3 hO3 hb3 hg3))
            all_goals
              go_wp2
              go_roundg (l0.length - (i + 1))
              case measure => omega
              case rel =>
                have hle9 : w.heap.size ≤ wy.heap.size := hB9.size
                refine ⟨i + 1, Geo.insC (ptOf x) [], by go_num, by omega, Lib.hid (by rw [HF.out]), Nat.le_trans (insC_length _ _) (by omega), ?_, Lib.hid (hB9.trans (hb3.mono hle9)), Nat.le_refl _⟩
                rw [Hres.out]
                exact hO3.base hle9
          · injection hv with e1 e2 e3
            subst e1 e3
            have Hrd1 : Hid (∀ W', RowKit.Below wy.heap.size wy W' → ReadsRow (fun x cs => cs = encL x) 2 W' (some ⟨gf, 0, none⟩) acc.length ((acc.map mkP).take acc.length)) := Lib.hid (fun W' hW' => (ho9.below hW').takeReads acc.length (by omega) (by omega))
            rw [List.length_map] at hgf3
            clear hgx hgf5 e2
            by_cases hcf : cf = acc.length
            · subst hcf
              go_region_held3 (fun w' => w'.cell? (ad.add (i * 2)) = some (.int .i64 x.f0) ∧ w'.cell? ⟨(ad.add (i * 2)).block, (ad.add (i * 2)).off + 1, none⟩ = some (.int .i64 x.f1)) (first | (exact HS.out _ (by repeat (first | assumption | exact RowKit.Below.refl _ _ | refine bal ?_ _ | refine bdr ?_))))
                (first
                  | ((refine step_appP wy (by rfl) (.tmp 44) (.tmp 47) (by rfl) _ [] _ _ _ _ (by rfl) (by rfl) (by repeat (first | assumption | exact own_new (by simp) (by simp) | refine OwnP.alloc ?_ _ | refine OwnP.drew ?_)) (Hrd1.out _ (by repeat (first | assumption | exact RowKit.Below.refl _ _ | refine bal ?_ _ | refine bdr ?_))) (by repeat (first | assumption | exact RowKit.Below.refl _ _ | refine bal ?_ _ | refine bdr ?_)) (by have := Hl9.out; first | (simp; done) | (simp; omega)) ?_); intro v1 w1 hO1 hb1 hg1)
                  | ((refine step_appP wy (by rfl) (.tmp 48) (.tmp 53) (by rfl) v1 ([] ++ (acc.map mkP).take acc.length) _ _ _ _ (by rfl) (by rfl) (by repeat (first | exact hO1 | refine OwnP.alloc ?_ _ | refine OwnP.drew ?_)) (row_one (x0 := x.f0) (x1 := x.f1) (by first | exact World.alloc_heap_new _ _ | (refine (hg1.block _ (by first | (simp; done) | (simp; omega)) (by show some _ ≠ some _; simp)).trans ?_; repeat (first | exact new_at (by simp) | refine drew_at ?_ | refine old_at ?_)))) (by repeat (first | assumption | exact RowKit.Below.refl _ _ | refine bal ?_ _ | refine bdr ?_)) (by have := Hl9.out; first | (simp; done) | (simp; omega)) ?_); intro v2 w2 hO2 hb2 hg2)
                  | ((refine step_appP wy (by rfl) (.tmp 54) (.tmp 57) (by rfl) v2 ([] ++ (acc.map mkP).take acc.length ++ [(⟨x.f0, x.f1⟩ : S31)]) _ _ _ _ (by rfl) (by rfl) (by repeat (first | exact hO2 | refine OwnP.alloc ?_ _ | refine OwnP.drew ?_)) ((Hrd2 _).out _ (by repeat (first | assumption | exact RowKit.Below.refl _ _ | refine bal ?_ _ | refine bdr ?_))) (by repeat (first | assumption | exact RowKit.Below.refl _ _ | refine bal ?_ _ | refine bdr ?_)) (by have := Hl9.out; first | (simp; done) | (simp; omega)) ?_); intro v3 w3 hO3 hb3 hg3))
              all_goals
                go_wp2
                go_roundg (l0.length - (i + 1))
                case measure => omega
                case rel =>
                  have hle9 : w.heap.size ≤ wy.heap.size := hB9.size
                  refine ⟨i + 1, Geo.insC (ptOf x) acc, by go_num, by omega, Lib.hid (by rw [HF.out]), Nat.le_trans (insC_length _ _) (by omega), ?_, Lib.hid (hB9.trans (hb3.mono hle9)), Nat.le_refl _⟩
                  rw [Hres.out]
                  exact hO3.base hle9
            · have hc1 : acc.length ≤ cf := hgf3
              go_region_held3 (fun w' => w'.cell? (ad.add (i * 2)) = some (.int .i64 x.f0) ∧ w'.cell? ⟨(ad.add (i * 2)).block, (ad.add (i * 2)).off + 1, none⟩ = some (.int .i64 x.f1)) (first | (exact HS.out _ (by repeat (first | assumption | exact RowKit.Below.refl _ _ | refine bal ?_ _ | refine bdr ?_))))
                (first
                  | ((refine step_appP wy (by rfl) (.tmp 44) (.tmp 47) (by rfl) _ [] _ _ _ _ (by rfl) (by rfl) (by repeat (first | assumption | exact own_new (by simp) (by simp) | refine OwnP.alloc ?_ _ | refine OwnP.drew ?_)) (Hrd1.out _ (by repeat (first | assumption | exact RowKit.Below.refl _ _ | refine bal ?_ _ | refine bdr ?_))) (by repeat (first | assumption | exact RowKit.Below.refl _ _ | refine bal ?_ _ | refine bdr ?_)) (by have := Hl9.out; first | (simp; done) | (simp; omega)) ?_); intro v1 w1 hO1 hb1 hg1)
                  | ((refine step_appP wy (by rfl) (.tmp 48) (.tmp 53) (by rfl) v1 ([] ++ (acc.map mkP).take acc.length) _ _ _ _ (by rfl) (by rfl) (by repeat (first | exact hO1 | refine OwnP.alloc ?_ _ | refine OwnP.drew ?_)) (row_one (x0 := x.f0) (x1 := x.f1) (by first | exact World.alloc_heap_new _ _ | (refine (hg1.block _ (by first | (simp; done) | (simp; omega)) (by show some _ ≠ some _; simp)).trans ?_; repeat (first | exact new_at (by simp) | refine drew_at ?_ | refine old_at ?_)))) (by repeat (first | assumption | exact RowKit.Below.refl _ _ | refine bal ?_ _ | refine bdr ?_)) (by have := Hl9.out; first | (simp; done) | (simp; omega)) ?_); intro v2 w2 hO2 hb2 hg2)
                  | ((refine step_appP wy (by rfl) (.tmp 54) (.tmp 57) (by rfl) v2 ([] ++ (acc.map mkP).take acc.length ++ [(⟨x.f0, x.f1⟩ : S31)]) _ _ _ _ (by rfl) (by rfl) (by repeat (first | exact hO2 | refine OwnP.alloc ?_ _ | refine OwnP.drew ?_)) ((Hrd2 _).out _ (by repeat (first | assumption | exact RowKit.Below.refl _ _ | refine bal ?_ _ | refine bdr ?_))) (by repeat (first | assumption | exact RowKit.Below.refl _ _ | refine bal ?_ _ | refine bdr ?_)) (by have := Hl9.out; first | (simp; done) | (simp; omega)) ?_); intro v3 w3 hO3 hb3 hg3))
              all_goals
                go_wp2
                go_roundg (l0.length - (i + 1))
                case measure => omega
                case rel =>
                  have hle9 : w.heap.size ≤ wy.heap.size := hB9.size
                  refine ⟨i + 1, Geo.insC (ptOf x) acc, by go_num, by omega, Lib.hid (by rw [HF.out]), Nat.le_trans (insC_length _ _) (by omega), ?_, Lib.hid (hB9.trans (hb3.mono hle9)), Nat.le_refl _⟩
                  rw [Hres.out]
                  exact hO3.base hle9
    · obtain rfl : i = l0.length := by omega
      go_wp2
      go_ret
      refine ⟨_, rfl, ?_, HB.out⟩
      have e : acc = Geo.canon (pts l0) := by rw [HA.out, List.take_length]; rfl
      rw [← e]
      exact ho.toR (fun _ _ => trivial)
end Go.Proofs.Ytkbcomgffpbcbaa.Plane
