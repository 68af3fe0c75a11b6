/- A part of the proof of Hulls: walks of functions, and plain lemmas. No conditions. -/
import Derived.ArgAppend
import Derived.Below
import Derived.BigQuiet
import Derived.Deep.AppendLies
import Derived.Deep.CutBlock
import Derived.Deep.DeepCutAuto
import Derived.Deep.DeepFit
import Derived.Deep.DeepMust
import Derived.Deep.Draws
import Derived.Deep.LoopGhost
import Derived.Deep.OwnRows
import Derived.Deep.QuietTactic
import Derived.Deep.RegionHeld3
import Derived.KernelRfl
import Derived.Laws.BitsLemmas
import Derived.Laws.BytesArg
import Derived.Laws.IdiomCopy
import Derived.Laws.MakeOwn
import Derived.Laws.OwnMore
import Derived.Laws.Rows
import Derived.Laws.Slices
import Derived.Laws.StructEq
import Derived.Lib.AppendStr
import Derived.Lib.ConvBytes
import Derived.Lib.Hide
import Derived.Lib.QuietBelowIn
import Derived.LoopIn
import Derived.LoopNIn
import Derived.Maps.AppendAt
import Derived.OrdersHeld
import Derived.Outline
import Derived.OwnWalk
import Derived.OwnWalkIn
import Derived.RangeFuncBound
import Derived.RangeFuncBox
import Derived.RangeFuncCalls
import Derived.RangeFuncLeaves
import Derived.RangeFuncNested
import Derived.RowKit
import Derived.RowKit3
import Derived.Shelf.Abstract
import Derived.Shelf.RegionOpen
import Derived.Sort.LoopGhostIn
import Derived.Tactics
import Derived.TacticsIn
import Derived.TacticsInMore
import Derived.Test.YtkbcomgffpbcbaaProg
import Derived.WalkKit
import Derived.WalkSmall
import Derived.WideLaws
import Derived.Test.YtkbcomgffpbcbaaHulls0
import Derived.Test.YtkbcomgffpbcbaaHulls2
import Derived.Test.YtkbcomgffpbcbaaHulls3
import Derived.Test.YtkbcomgffpbcbaaHulls4
import Derived.Test.YtkbcomgffpbcbaaHulls5
import Derived.Test.YtkbcomgffpbcbaaHulls7
import Derived.Test.YtkbcomgffpbcbaaHulls8
namespace Go.Proofs.Ytkbcomgffpbcbaa.Plane
open Go.RowKit Go.Shelf Go.Sort Go.Proofs.YtkbcomgffpbcbaaW.PrintWords Go.Proofs.YtkbcomgffpbcbaaW.PrintLast Go.Proofs.YtkbcomgffpbcbaaW.PrintMore Go.Proofs.Ytkbcomgffpbcbaa.Round
set_option linter.unusedVariables false
set_option linter.unusedSimpArgs false
section
attribute [local go_sem] Oper.semAt_some
def ptOf (p : S31) : Int × Int := (p.f0, p.f1)
def near (p : S31) : Prop := (-67108864 ≤ p.f0 ∧ p.f0 ≤ 67108864) ∧ -67108864 ≤ p.f1 ∧ p.f1 ≤ 67108864
abbrev NP := { p : S31 // near p }
theorem near_z : near z31 := by unfold near z31; simp only; omega
def zNP : NP := ⟨z31, near_z⟩
def stk (pre : List S31) : List S31 := ((Geo.chainR (pre.map ptOf)).map mkP).reverse
theorem popW_length (x : Int × Int) : ∀ st : List (Int × Int), (Geo.popW st x).length ≤ st.length
  | [] => Nat.le_refl _
  | [_] => Nat.le_refl _
  | b :: a :: r => by
    have := popW_length x (a :: r)
    simp only [Geo.popW]
    by_cases h : Geo.crs a b x ≤ 0
    · rw [if_pos h]; simp only [List.length_cons] at this ⊢; omega
    · rw [if_neg h]; exact Nat.le_refl _
theorem popW_mem (x : Int × Int) : ∀ st : List (Int × Int), ∀ q ∈ Geo.popW st x, q ∈ st
  | [], _, h => h
  | [_], _, h => h
  | b :: a :: r, q, h => by
    simp only [Geo.popW] at h
    by_cases hc : Geo.crs a b x ≤ 0
    · rw [if_pos hc] at h; exact List.mem_cons_of_mem _ (popW_mem x (a :: r) q h)
    · rw [if_neg hc] at h; exact h
theorem chainR_snoc (l : List (Int × Int)) (x : Int × Int) : Geo.chainR (l ++ [x]) = x :: Geo.popW (Geo.chainR l) x := by
  unfold Geo.chainR
  rw [List.foldl_append]
  rfl
theorem chainR_aux (l : List (Int × Int)) : ∀ st : List (Int × Int), (l.foldl Geo.push st).length ≤ st.length + l.length ∧ ∀ q ∈ l.foldl Geo.push st, q ∈ st ∨ q ∈ l := by
  induction l with
  | nil => intro st; exact ⟨Nat.le_refl _, fun q h => .inl h⟩
  | cons x l ih =>
    intro st
    obtain ⟨h1, h2⟩ := ih (Geo.push st x)
    have h3 := popW_length x st
    refine ⟨by simp only [List.foldl_cons, List.length_cons, Geo.push] at h1 ⊢; omega, fun q hq => ?_⟩
    rcases h2 q hq with h | h
    · rcases List.mem_cons.1 h with h | h
      · exact .inr (by simp [h])
      · exact .inl (popW_mem x st q h)
    · exact .inr (List.mem_cons_of_mem _ h)
theorem chainR_length (l : List (Int × Int)) : (Geo.chainR l).length ≤ l.length := by have := (chainR_aux l []).1; simp only [List.length_nil, Nat.zero_add] at this; exact this
theorem chainR_mem (l : List (Int × Int)) (q : Int × Int) (h : q ∈ Geo.chainR l) : q ∈ l := by
  rcases (chainR_aux l []).2 q h with h | h
  · simp at h
  · exact h
theorem stk_snoc (pre : List S31) (x : S31) {rs : List (Int × Int)} (h : Geo.popW rs (ptOf x) = Geo.popW (Geo.chainR (pre.map ptOf)) (ptOf x)) (h2 : Geo.popW rs (ptOf x) = rs) : stk (pre ++ [x]) = (rs.map mkP).reverse ++ [x] := by
  unfold stk
  rw [List.map_append, List.map_cons, List.map_nil, chainR_snoc, ← h, h2]
  simp [mkP, ptOf]
theorem blk_own {β : Type} (B : Nat) (cs : Array Value) (t : TypeId) : Own (fun (_ : β) W => W.heap[B]? = some (.cells cs t (0, 0))) := fun s X Y row hs hg hrow => by
  refine (hg.block B (Array.getElem?_eq_some_iff.1 hs).1 fun e' => ?_).trans hs
  obtain ⟨o, ho, hc⟩ := hrow B e'.symm
  rw [show X.heap[B]? = _ from hs] at ho
  cases ho
  cases hc
theorem keepsOthers_of_below {W W' : World} (h : Below W.heap.size W W') : KeepsOthers W W' := ⟨h.size, fun k _ hk _ => (h.block k (Array.getElem?_eq_some_iff.1 hk).1).trans hk⟩
theorem boxed_below {W W' : World} {B : Nat} {t : TypeId} {v : Value} (h : Boxed W B t v) (hb : Below W.heap.size W W') : Boxed W' B t v := (hb.block B h.lt).trans h
theorem blk_belowB {W W' : World} {B : Nat} {o : Obj} (h : W.heap[B]? = some o) (hb : Below W.heap.size W W') : W'.heap[B]? = some o := (hb.block B (Array.getElem?_eq_some_iff.1 h).1).trans h
theorem blk_setBox {W : World} {B Bo : Nat} {o : Obj} (h : W.heap[B]? = some o) (hne : B ≠ Bo) (u : Value) : (W.setCell ⟨Bo, 0, none⟩ u).heap[B]? = some o := (Below.heap_setCell W ⟨Bo, 0, none⟩ u B hne).trans h
set_option maxRecDepth 100000 in
set_option maxHeartbeats 4000000 in
theorem stack_in (F : Fence) (n : Nat) (hF : ∀ f, F.fn f) (hro : F.round = none) (hd : F.depth = none) (hw : ∀ (m : Nat) (f : Nat) (args : Array Value) (w : World) (R : Ending → World → Prop), Calls Try.prog f args w R → CallsIn F m Try.prog f args w R) (hn : 3 ≤ n) (Bs b cap : Nat) (zs : List NP) (hreach : zs.length ≤ 65536) (w : World)
    (hBs : Bs < w.heap.size) (hb : b < w.heap.size) (hc : w.cell? ⟨Bs, 0, none⟩ = some (.slice (some ⟨b, 0, none⟩) zs.length cap)) (hI : Cells w b (zs.map (·.1))) :
    CallsIn F n Try.prog 125 #[.func (.func 157) #[] #[.pointer (some ⟨Bs, 0, none⟩)], .func (.func 124) #[] #[]] w fun e W' => ∃ v, e = .returned v ∧ OwnP W' w.heap.size v (stk (zs.map (·.1))) ∧ Below w.heap.size w W' := by
  have h1 : 1 ≤ n := by omega
  refine callsIn_of_wp_marks Try.func125 rfl (hF _) ?_ hro
  simp only [Try.ntmps125, List.size_toArray, List.length_cons, List.length_nil, Nat.reduceAdd, Nat.reduceSub, Array.replicate_succ, Array.replicate_zero, List.push_toArray, List.append_toArray, List.nil_append, List.cons_append]
  gi_wp2
  have bD := (Boxed.new w 170 (.func (.func 124) #[] #[])).alloc (.cells #[.slice none 0 0] 23)
  have bO := Boxed.new (w.alloc (.cells #[.func (.func 124) #[] #[]] 170)) 23 (.slice none 0 0)
  rw [World.size_alloc] at bO
  have hB0 : Below w.heap.size w ((w.alloc (.cells #[.func (.func 124) #[] #[]] 170)).alloc (.cells #[.slice none 0 0] 23)) := ((Below.refl _ w).alloc (Nat.le_refl _) _).alloc (by simp) _
  have hsz : ((w.alloc (.cells #[.func (.func 124) #[] #[]] 170)).alloc (.cells #[.slice none 0 0] 23)).heap.size = w.heap.size + 2 := by simp
  obtain ⟨W0, hW0⟩ : ∃ W0, (w.alloc (.cells #[.func (.func 124) #[] #[]] 170)).alloc (.cells #[.slice none 0 0] 23) = W0 := ⟨_, rfl⟩
  rw [hW0] at bD bO hB0 hsz ⊢
  clear hW0
  refine wpIn_rangeFunc_ownH hro h1 (gf := 157) (lb := #[.pointer (some ⟨Bs, 0, none⟩)]) rfl (hF _) (enters_of Try.func157 (by kernel_rfl) rfl)
    (values_stops (·.1) zNP rfl F (n - 1) (hF _) hro (by omega) Bs w.heap.size b cap zs (by omega) W0 (by omega) (by omega) hb ((hB0.cell (p := ⟨Bs, 0, none⟩) hBs).trans hc) (hI.below hB0 hb)) belowK_t (belowK_b (by omega)) (Below.refl _ _) (fun _ => rfl)
    (fun pre W => ((∃ v, Boxed W (w.heap.size + 1) 23 v ∧ W.ownsRow w.heap.size 31 2 v (stk (pre.map (·.1))).length (flat (stk (pre.map (·.1)))) ∧ True) ∧ Boxed W w.heap.size 170 (.func (.func 124) #[] #[])) ∧ Below w.heap.size w W)
    (fun _ _ _ => False)
    (OwnFrom.and (OwnFrom.and (Own.from (holdsRow_own w.heap.size (w.heap.size + 1) 23 31 2 (fun (pre : List NP) => (stk (pre.map (·.1))).length) (fun (pre : List NP) => flat (stk (pre.map (·.1)))) (fun _ _ => True)) _) (Own.from (boxed_own _ _ _) _)) (ownFrom_below (Nat.le_refl _) (by omega)))
    (fun _ _ _ _ _ hs _ _ => hs)
    ⟨⟨⟨_, bO, OwnP.nil _ _, trivial⟩, bD⟩, hB0⟩
    (fun x a' W => ∃ Bx, w.heap.size + 1 < Bx ∧ W.heap[Bx]? = some (.cells #[.int .i64 x.1.f0, .int .i64 x.1.f1] 31 (0, 0)) ∧ a' = { tmps := #[.func (.func 157) #[] #[.pointer (some ⟨Bs, 0, none⟩)], .func (.func 124) #[] #[], undef, .pointer (some ⟨w.heap.size, 0, none⟩), .slice none 0 0, .pointer (some ⟨w.heap.size + 1, 0, none⟩), .pointer (some ⟨Bx, 0, none⟩), .func (.func 157) #[] #[.pointer (some ⟨Bs, 0, none⟩)], .agg #[.int .i64 x.1.f0, .int .i64 x.1.f1], undef, undef, undef, undef, undef, undef, undef, undef, undef, undef, undef, undef, undef, undef, undef, undef, undef, undef, undef, undef, undef, undef, undef, undef, undef, undef, undef, undef, undef, undef], defers := [] })
    (fun x a' _ X Y row hs hg hr => by obtain ⟨Bx, h1, h2, h3⟩ := hs; exact ⟨Bx, h1, blk_own (β := Unit) Bx _ 31 () X Y row h2 hg (fun r e => (hr r e).2), h3⟩)
    ?assign ?body ?done ?stop
  case assign =>
    rintro l pre ⟨x, hxn⟩ W K ⟨⟨⟨v, bv, hv, hp⟩, bd⟩, hB⟩ hK
    unfold encP
    have hu := Try.underlying31
    gi_wp2
    exact hK _ _ ((KeepsOthers.alloc _ _).from _) ((Below.refl _ W).alloc hB.size _) ⟨⟨⟨v, bv.alloc _, (OwnP.below (show OwnP W w.heap.size v (stk (pre.map fun (q : NP) => q.1)) from hv) (below_alloc (Below.refl _ _) _)), hp⟩, bd.alloc _⟩, hB.alloc hB.size _⟩ ⟨W.heap.size, bv.lt, World.alloc_heap_new W _, rfl⟩
  case body =>
    rintro l preN ⟨x, hxn⟩ a' W hl ⟨r, hr⟩ ⟨⟨⟨v, bv, hv, -⟩, bd⟩, hB⟩ ⟨Bx, hBx, bX, rfl⟩ hlt
    dsimp only at bX
    obtain ⟨pre, hpre⟩ : ∃ pre, preN.map (·.1) = pre := ⟨_, rfl⟩
    have hpl : pre.length < 65536 := by rw [← hpre, List.length_map]; omega
    have hpn : ∀ p ∈ pre, near p := fun p hp => by rw [← hpre] at hp; obtain ⟨q, _, rfl⟩ := List.mem_map.1 hp; exact q.2
    have hpost : (preN ++ [(⟨x, hxn⟩ : NP)]).map (·.1) = pre ++ [x] := by rw [List.map_append, hpre]; rfl
    rw [hpre] at hv
    have hcv := bv.cell
    have hfv := bv.frozen
    have hcd := bd.cell
    have hmemp : ∀ q ∈ Geo.chainR (pre.map ptOf), (-67108864 ≤ q.1 ∧ q.1 ≤ 67108864) ∧ -67108864 ≤ q.2 ∧ q.2 ≤ 67108864 := fun q hq => by
      obtain ⟨p, hp, rfl⟩ := List.mem_map.1 (chainR_mem _ q hq)
      exact hpn p hp
    have Hpost := Lib.hid hpost
    clear hpost
    obtain ⟨i0, hi, hz0, hz1, hz2⟩ := info_parts info31
    have hu31 := Try.underlying31
    have Hcd := Lib.hid hcd
    have Hcv := Lib.hid hcv
    have Hfv := Lib.hid hfv
    clear hcv hfv hcd
    gi_wp2
    gi_loopg [] ((Geo.chainR (pre.map ptOf)).length) (fun kq wr => ∃ (rs : List (Int × Int)) (v' : Value), rs.length = kq ∧ Geo.popW rs (ptOf x) = Geo.popW (Geo.chainR (pre.map ptOf)) (ptOf x) ∧ (∀ q ∈ rs, q ∈ Geo.chainR (pre.map ptOf)) ∧ rs.length ≤ 65535 ∧ Boxed wr (w.heap.size + 1) 23 v' ∧ OwnP wr w.heap.size v' (rs.map mkP).reverse ∧ Boxed wr w.heap.size 170 (.func (.func 124) #[] #[]) ∧ wr.heap[Bx]? = some (.cells #[.int .i64 x.f0, .int .i64 x.f1] 31 (0, 0)) ∧ Below w.heap.size W wr ∧ KeepsFrom W0.heap.size W wr)
    case atStart => exact ⟨_, v, rfl, rfl, fun _ h => h, by have := chainR_length (pre.map ptOf); rw [List.length_map] at this; omega, bv, hv, bd, bX, Below.refl _ _, KeepsFrom.refl _ _⟩
    case round =>
      obtain ⟨rs, v', hrl, hpop, hmem, hrs, bv', ho', bd', bX', hBW, hKF⟩ := hrel
      have h31 := Try.underlying31
      match rs, hrl, hpop, hmem, hrs, ho' with
      | b1 :: a1 :: rr, hrl, hpop, hmem, hrs, ho' =>
        have hlen : ((b1 :: a1 :: rr).map mkP).reverse.length = rr.length + 2 := by simp
        obtain ⟨g, cp, rfl, hg1, hg2, hg3, hg4, cur, hg5⟩ := ho'.slice (by rw [hlen]; omega)
        rw [hlen] at ho' bv' hg3
        have hca := ho'.cell (j := rr.length) (by rw [hlen]; omega)
        have hcb := ho'.cell (j := rr.length + 1) (by rw [hlen]; omega)
        have ea : ((b1 :: a1 :: rr).map mkP).reverse.getD rr.length z31 = mkP a1 := by simp [List.getD_eq_getElem?_getD, List.getElem?_append]
        have eb : ((b1 :: a1 :: rr).map mkP).reverse.getD (rr.length + 1) z31 = mkP b1 := by simp [List.getD_eq_getElem?_getD, List.getElem?_append]
        rw [ea] at hca
        rw [eb] at hcb
        have na := hmemp a1 (hmem a1 (by simp))
        have nb := hmemp b1 (hmem b1 (by simp))
        have hm1 : rr.length + 2 ≤ 9223372036854775807 := by unfold maxLen at hg4; omega
        have hB1 := right_some na nb hxn
        have hcc : ∀ m W, CallsIn (F.inRound l) m Try.prog 124 #[.agg #[.int .i64 a1.1, .int .i64 a1.2], .agg #[.int .i64 b1.1, .int .i64 b1.2], .agg #[.int .i64 x.f0, .int .i64 x.f1]] W fun e w' => e = .returned (.bool (decide (Geo.crs a1 b1 (ptOf x) ≤ 0))) ∧ Below W.heap.size W w' :=
          fun m W => CallsIn.inRound l (hw m 124 _ W _ (plane_corners_1.calls _ _ _ _ _ _ _ W hB1))
        have f1 := cell_regrown bv'.cell
        have f2 := cell_regrown bd'.cell
        have f3 := cell_regrown hca.1
        have f4 := cell_regrown hca.2
        have f5 := cell_regrown hcb.1
        have f6 := cell_regrown hcb.2
        have f7 := cell_regrown (show wr.cell? ⟨Bx, 0, none⟩ = some (.int .i64 x.f0) by simp [World.cell?, bX'])
        have f8 := cell_regrown (show wr.cell? ⟨Bx, 1, none⟩ = some (.int .i64 x.f1) by simp [World.cell?, bX'])
        simp only [mkP] at f3 f4 f5 f6
        have hk1 : n - 1 - 1 = n - 2 := by omega
        have Hpop := Lib.hid hpop
        have Hmem := Lib.hid hmem
        have Hgk := Lib.hid hrl
        clear hca hcb hB1 hpop hmem na nb hrl hlen ea eb
        generalize hmm : rr.length = m at *
        have Hmm := Lib.hid hmm
        clear hmm
        have hgd : decide ((2 : Int) ≤ (m : Int) + 2) = true := decide_eq_true (by omega)
        by_cases hcr : Geo.crs a1 b1 (ptOf x) ≤ 0
        · rw [decide_eq_true hcr] at hcc
          gi_wp2_with fail
          refine wpIn_region_quiet_below_r (by kernel_rfl) (by kernel_rfl) (by kernel_rfl) ?_
          repeat (gi_big_quiet_step ((gi_at_call 124; refine CallsIn.regrown_of (hcc _ _))))
          refine wpQuietIn_nil ?_
          intro wq hw'
          have hbq : Below wr.heap.size wr wq := by obtain ⟨p, rfl⟩ := hw'; exact below_regrown _ _ _
          clear hw' hcc f1 f2 f3 f4 f5 f6 f7 f8
          have bq : Boxed wq (w.heap.size + 1) 23 (.slice (some ⟨g, 0, none⟩) (m + 2) cp) := (hbq.block _ bv'.lt).trans bv'
          have hq1 := bq.cell
          have hq2 := bq.frozen
          gi_wp2
          have hle : w.heap.size ≤ wr.heap.size := Nat.le_trans hB.size hBW.size
          gi_roundg (m + 1)
          case measure =>
            have h1 := Hgk.out
            have h2 := Hmm.out
            simp at h1
            omega
          case rel =>
            refine ⟨a1 :: rr, _, by rw [List.length_cons, Hmm.out], ?_, fun q hq => Hmem.out q (List.mem_cons_of_mem _ hq), by simp only [List.length_cons] at hrs ⊢; omega, bq.set _, ?_, Boxed.other (boxed_below bd' hbq) (by omega) _, blk_setBox (blk_belowB bX' hbq) (by omega) _, hBW.trans ((hbq.mono hle).setCell (p := ⟨w.heap.size + 1, 0, none⟩) (by simp) _), hKF.trans (((keepsOthers_of_below hbq).trans (KeepsOthers.setCell _ _ _)).from _)⟩
            · have h3 := Hpop.out
              rw [← h3]
              simp only [Geo.popW]
              rw [if_pos hcr]
            · have h4 := (ho'.below hbq).setBox bq (by decide) (.slice (some ⟨g, 0, none⟩) (m + 1) cp)
              have h5 := h4.take (m := m + 1) (by simp [Hmm.out])
              have h6 : (((b1 :: a1 :: rr).map mkP).reverse).take (m + 1) = ((a1 :: rr).map mkP).reverse := by
                rw [List.map_cons, List.reverse_cons, List.take_append_of_le_length (by simp [Hmm.out])]
                exact List.take_of_length_le (by simp [Hmm.out])
              rw [h6] at h5
              exact h5
        · rw [decide_eq_false hcr] at hcc
          gi_wp2_with fail
          refine wpIn_region_quiet_below_r (by kernel_rfl) (by kernel_rfl) (by kernel_rfl) ?_
          repeat (gi_big_quiet_step ((gi_at_call 124; refine CallsIn.regrown_of (hcc _ _))))
          refine wpQuietIn_nil ?_
          intro wq hw'
          have hbq : Below wr.heap.size wr wq := by obtain ⟨p, rfl⟩ := hw'; exact below_regrown _ _ _
          clear hw'
          have hle : w.heap.size ≤ wr.heap.size := Nat.le_trans hB.size hBW.size
          have bq := boxed_below bv' hbq
          have bdq := boxed_below bd' hbq
          have hq1 := bq.cell
          have hq2 := bq.frozen
          have bXq := blk_belowB bX' hbq
          have hx0 : wq.cell? ⟨Bx, 0, none⟩ = some (.int .i64 x.f0) := by simp [World.cell?, bXq]
          have hx1 : wq.cell? ⟨Bx, 1, none⟩ = some (.int .i64 x.f1) := by simp [World.cell?, bXq]
          obtain ⟨kL, Hk⟩ : ∃ k, Hid (k = (((b1 :: a1 :: rr).map mkP).reverse).length) := ⟨_, Lib.hid rfl⟩
          have hrow := ho'.below hbq
          unfold OwnP at hrow
          rw [← Hk.out] at hrow
          have hkb : kL ≤ 65535 := by rw [Hk.out, List.length_reverse, List.length_map]; exact hrs
          have Hsn := Lib.hid (stk_snoc pre x Hpop.out (by simp only [Geo.popW]; rw [if_neg (by omega)]))
          have hbase : w.heap.size ≤ wq.heap.size := Nat.le_trans hle hbq.size
          clear bXq
          gi_wp2_with (gi_at_builtin; go_must (refine wpListIn_append_own _ rfl _ _ 23 rfl w.heap.size 31 i0 (.agg #[.int .i64 0, .int .i64 0]) 2 16 Try.underlying23 hi hz0 hz1 hz2 rfl (by decide) _ _ _ rfl (hrow.alloc _) ⟨wq.heap.size, 0, none⟩ 1 1 [.int .i64 x.f0, .int .i64 x.f1] rfl rfl (cell_two_new _ _ _ _) (by simp [Value.oneCell']) (by unfold maxLen; omega) (by omega) (by simp; omega) ?_); intro v2 w1 hown' hgrow _; obtain ⟨g', cap', rfl⟩ := ownsRow_succ hown'; obtain ⟨hv1, hv2, hr2, hk2, hb2⟩ := Boxed.appended bq (by decide) hrow hbase (by omega) hown' hgrow; have hc1 := hv1.cell; have hf1 := hv1.frozen)
          have hBq : Below w.heap.size wr wq := hbq.mono hle
          refine ⟨hKF.trans (((keepsOthers_of_below hbq).trans hk2).from _), hBW.trans (hBq.trans hb2), ⟨⟨⟨_, hv2, ?_, trivial⟩, Boxed.other (Boxed.kept (Boxed.alloc bdq (.cells #[.int .i64 x.f0, .int .i64 x.f1] 31)) hgrow (bdq.not_row (by decide) hrow)) (B' := w.heap.size + 1) (by omega) _⟩, hB.trans (hBW.trans (hBq.trans hb2))⟩⟩
          rw [Hpost.out, Hsn.out, flat_append, List.length_append, ← Hk.out]
          exact hr2
      | [c1], hrl, hpop, hmem, hrs, ho' =>
        obtain ⟨g, cp, rfl, hg1, hg2, hg3, hg4, cur, hg5⟩ := ho'.slice (by simp)
        have hlen : (([c1] : List (Int × Int)).map mkP).reverse.length = 1 := rfl
        rw [hlen] at ho' bv' hg3
        clear hlen
        have f1 := cell_regrown bv'.cell
        have Hpop := Lib.hid hpop
        have Hgk := Lib.hid hrl
        clear hpop hmem hrl
        gi_wp2_with fail
        refine wpIn_region_quiet_below_r (by kernel_rfl) (by kernel_rfl) (by kernel_rfl) ?_
        repeat (gi_big_quiet_step (fail))
        refine wpQuietIn_nil ?_
        intro wq hw'
        have hbq : Below wr.heap.size wr wq := by obtain ⟨p, rfl⟩ := hw'; exact below_regrown _ _ _
        clear hw'
        have hle : w.heap.size ≤ wr.heap.size := Nat.le_trans hB.size hBW.size
        have bq := boxed_below bv' hbq
        have bdq := boxed_below bd' hbq
        have hq1 := bq.cell
        have hq2 := bq.frozen
        have bXq := blk_belowB bX' hbq
        have hx0 : wq.cell? ⟨Bx, 0, none⟩ = some (.int .i64 x.f0) := by simp [World.cell?, bXq]
        have hx1 : wq.cell? ⟨Bx, 1, none⟩ = some (.int .i64 x.f1) := by simp [World.cell?, bXq]
        obtain ⟨kL, Hk⟩ : ∃ k, Hid (k = (([c1].map mkP).reverse).length) := ⟨_, Lib.hid rfl⟩
        have hrow := ho'.below hbq
        unfold OwnP at hrow
        rw [← Hk.out] at hrow
        have hkb : kL ≤ 65535 := by rw [Hk.out, List.length_reverse, List.length_map]; exact hrs
        have Hsn := Lib.hid (stk_snoc pre x Hpop.out rfl)
        have hbase : w.heap.size ≤ wq.heap.size := Nat.le_trans hle hbq.size
        clear bXq
        gi_wp2_with (gi_at_builtin; go_must (refine wpListIn_append_own _ rfl _ _ 23 rfl w.heap.size 31 i0 (.agg #[.int .i64 0, .int .i64 0]) 2 16 Try.underlying23 hi hz0 hz1 hz2 rfl (by decide) _ _ _ rfl (hrow.alloc _) ⟨wq.heap.size, 0, none⟩ 1 1 [.int .i64 x.f0, .int .i64 x.f1] rfl rfl (cell_two_new _ _ _ _) (by simp [Value.oneCell']) (by unfold maxLen; omega) (by omega) (by simp; omega) ?_); intro v2 w1 hown' hgrow _; obtain ⟨g', cap', rfl⟩ := ownsRow_succ hown'; obtain ⟨hv1, hv2, hr2, hk2, hb2⟩ := Boxed.appended bq (by decide) hrow hbase (by omega) hown' hgrow; have hc1 := hv1.cell; have hf1 := hv1.frozen)
        have hBq : Below w.heap.size wr wq := hbq.mono hle
        refine ⟨hKF.trans (((keepsOthers_of_below hbq).trans hk2).from _), hBW.trans (hBq.trans hb2), ⟨⟨⟨_, hv2, ?_, trivial⟩, Boxed.other (Boxed.kept (Boxed.alloc bdq (.cells #[.int .i64 x.f0, .int .i64 x.f1] 31)) hgrow (bdq.not_row (by decide) hrow)) (B' := w.heap.size + 1) (by omega) _⟩, hB.trans (hBW.trans (hBq.trans hb2))⟩⟩
        rw [Hpost.out, Hsn.out, flat_append, List.length_append, ← Hk.out]
        exact hr2
      | [], hrl, hpop, hmem, hrs, ho' =>
        have hv0 : v' = .slice none 0 0 ∨ ∃ g cp, v' = .slice (some ⟨g, 0, none⟩) 0 cp := by
          rcases ho'.2 with ⟨e, _⟩ | ⟨g, cp, cur, e, _⟩
          · exact .inl e
          · exact .inr ⟨g, cp, e⟩
        rcases hv0 with rfl | ⟨g, cp, rfl⟩
        · have f1 := cell_regrown bv'.cell
          have Hpop := Lib.hid hpop
          have Hgk := Lib.hid hrl
          clear hpop hmem hrl
          gi_wp2_with fail
          refine wpIn_region_quiet_below_r (by kernel_rfl) (by kernel_rfl) (by kernel_rfl) ?_
          repeat (gi_big_quiet_step (fail))
          refine wpQuietIn_nil ?_
          intro wq hw'
          have hbq : Below wr.heap.size wr wq := by obtain ⟨p, rfl⟩ := hw'; exact below_regrown _ _ _
          clear hw'
          have hle : w.heap.size ≤ wr.heap.size := Nat.le_trans hB.size hBW.size
          have bq := boxed_below bv' hbq
          have bdq := boxed_below bd' hbq
          have hq1 := bq.cell
          have hq2 := bq.frozen
          have bXq := blk_belowB bX' hbq
          have hx0 : wq.cell? ⟨Bx, 0, none⟩ = some (.int .i64 x.f0) := by simp [World.cell?, bXq]
          have hx1 : wq.cell? ⟨Bx, 1, none⟩ = some (.int .i64 x.f1) := by simp [World.cell?, bXq]
          obtain ⟨kL, Hk⟩ : ∃ k, Hid (k = ((([] : List (Int × Int)).map mkP).reverse).length) := ⟨_, Lib.hid rfl⟩
          have hrow := ho'.below hbq
          unfold OwnP at hrow
          rw [← Hk.out] at hrow
          have hkb : kL ≤ 65535 := by rw [Hk.out, List.length_reverse, List.length_map]; exact hrs
          have Hsn := Lib.hid (stk_snoc pre x Hpop.out rfl)
          have hbase : w.heap.size ≤ wq.heap.size := Nat.le_trans hle hbq.size
          clear bXq
          gi_wp2_with (gi_at_builtin; go_must (refine wpListIn_append_own _ rfl _ _ 23 rfl w.heap.size 31 i0 (.agg #[.int .i64 0, .int .i64 0]) 2 16 Try.underlying23 hi hz0 hz1 hz2 rfl (by decide) _ _ _ rfl (hrow.alloc _) ⟨wq.heap.size, 0, none⟩ 1 1 [.int .i64 x.f0, .int .i64 x.f1] rfl rfl (cell_two_new _ _ _ _) (by simp [Value.oneCell']) (by unfold maxLen; omega) (by omega) (by simp; omega) ?_); intro v2 w1 hown' hgrow _; obtain ⟨g', cap', rfl⟩ := ownsRow_succ hown'; obtain ⟨hv1, hv2, hr2, hk2, hb2⟩ := Boxed.appended bq (by decide) hrow hbase (by omega) hown' hgrow; have hc1 := hv1.cell; have hf1 := hv1.frozen)
          have hBq : Below w.heap.size wr wq := hbq.mono hle
          refine ⟨hKF.trans (((keepsOthers_of_below hbq).trans hk2).from _), hBW.trans (hBq.trans hb2), ⟨⟨⟨_, hv2, ?_, trivial⟩, Boxed.other (Boxed.kept (Boxed.alloc bdq (.cells #[.int .i64 x.f0, .int .i64 x.f1] 31)) hgrow (bdq.not_row (by decide) hrow)) (B' := w.heap.size + 1) (by omega) _⟩, hB.trans (hBW.trans (hBq.trans hb2))⟩⟩
          rw [Hpost.out, Hsn.out, flat_append, List.length_append, ← Hk.out]
          exact hr2
        · have f1 := cell_regrown bv'.cell
          have Hpop := Lib.hid hpop
          have Hgk := Lib.hid hrl
          clear hpop hmem hrl
          gi_wp2_with fail
          refine wpIn_region_quiet_below_r (by kernel_rfl) (by kernel_rfl) (by kernel_rfl) ?_
          repeat (gi_big_quiet_step (fail))
          refine wpQuietIn_nil ?_
          intro wq hw'
          have hbq : Below wr.heap.size wr wq := by obtain ⟨p, rfl⟩ := hw'; exact below_regrown _ _ _
          clear hw'
          have hle : w.heap.size ≤ wr.heap.size := Nat.le_trans hB.size hBW.size
          have bq := boxed_below bv' hbq
          have bdq := boxed_below bd' hbq
          have hq1 := bq.cell
          have hq2 := bq.frozen
          have bXq := blk_belowB bX' hbq
          have hx0 : wq.cell? ⟨Bx, 0, none⟩ = some (.int .i64 x.f0) := by simp [World.cell?, bXq]
          have hx1 : wq.cell? ⟨Bx, 1, none⟩ = some (.int .i64 x.f1) := by simp [World.cell?, bXq]
          obtain ⟨kL, Hk⟩ : ∃ k, Hid (k = ((([] : List (Int × Int)).map mkP).reverse).length) := ⟨_, Lib.hid rfl⟩
          have hrow := ho'.below hbq
          unfold OwnP at hrow
          rw [← Hk.out] at hrow
          have hkb : kL ≤ 65535 := by rw [Hk.out, List.length_reverse, List.length_map]; exact hrs
          have Hsn := Lib.hid (stk_snoc pre x Hpop.out rfl)
          have hbase : w.heap.size ≤ wq.heap.size := Nat.le_trans hle hbq.size
          clear bXq
          gi_wp2_with (gi_at_builtin; go_must (refine wpListIn_append_own _ rfl _ _ 23 rfl w.heap.size 31 i0 (.agg #[.int .i64 0, .int .i64 0]) 2 16 Try.underlying23 hi hz0 hz1 hz2 rfl (by decide) _ _ _ rfl (hrow.alloc _) ⟨wq.heap.size, 0, none⟩ 1 1 [.int .i64 x.f0, .int .i64 x.f1] rfl rfl (cell_two_new _ _ _ _) (by simp [Value.oneCell']) (by unfold maxLen; omega) (by omega) (by simp; omega) ?_); intro v2 w1 hown' hgrow _; obtain ⟨g', cap', rfl⟩ := ownsRow_succ hown'; obtain ⟨hv1, hv2, hr2, hk2, hb2⟩ := Boxed.appended bq (by decide) hrow hbase (by omega) hown' hgrow; have hc1 := hv1.cell; have hf1 := hv1.frozen)
          have hBq : Below w.heap.size wr wq := hbq.mono hle
          refine ⟨hKF.trans (((keepsOthers_of_below hbq).trans hk2).from _), hBW.trans (hBq.trans hb2), ⟨⟨⟨_, hv2, ?_, trivial⟩, Boxed.other (Boxed.kept (Boxed.alloc bdq (.cells #[.int .i64 x.f0, .int .i64 x.f1] 31)) hgrow (bdq.not_row (by decide) hrow)) (B' := w.heap.size + 1) (by omega) _⟩, hB.trans (hBW.trans (hBq.trans hb2))⟩⟩
          rw [Hpost.out, Hsn.out, flat_append, List.length_append, ← Hk.out]
          exact hr2
  case done =>
    rintro D ys W hD rfl ⟨⟨⟨v, bv, hv, hp⟩, bd⟩, hB⟩ hK
    have hcv := bv.cell
    gi_wp2
    refine ⟨by simp, .inl ⟨_, _, rfl, run_takeDeferred hK, ?_⟩⟩
    exact ⟨_, results_tmp rfl _ _ _, v, rfl, ownsRow_putObj hv _ hK rfl, hB.trans (belowK_b (w := w) (Nat.le_refl _) W D _ _ (by omega) hK rfl rfl)⟩
  case stop =>
    rintro D c pre W _ _ h _
    exact h.elim
end
end Go.Proofs.Ytkbcomgffpbcbaa.Plane
