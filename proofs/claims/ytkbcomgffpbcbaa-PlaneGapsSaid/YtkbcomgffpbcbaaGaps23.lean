/- A part of the proof of Gaps: walks of functions, and plain lemmas. No conditions. -/
import Derived.ArgAppend
import Derived.Below
import Derived.BigQuiet
import Derived.Deep.AppendLies
import Derived.Deep.CutBlock
import Derived.Deep.DeepCutAuto
import Derived.Deep.Draws
import Derived.Deep.LoopGhost
import Derived.Deep.OwnRows
import Derived.Deep.QuietTactic
import Derived.Deep.RegionHeld3
import Derived.KernelRfl
import Derived.Laws.BitsLemmas
import Derived.Laws.BytesArg
import Derived.Laws.IdiomCopy
import Derived.Laws.MakeOwn
import Derived.Laws.OwnMore
import Derived.Laws.Rows
import Derived.Laws.Slices
import Derived.Laws.StructEq
import Derived.Lib.AppendStr
import Derived.Lib.ConvBytes
import Derived.Maps.AppendAt
import Derived.OrdersHeld
import Derived.OwnWalk
import Derived.RowKit
import Derived.RowKit3
import Derived.Tactics
import Derived.Test.YtkbcomgffpbcbaaProg
import Derived.WalkKit
import Derived.WideLaws
import Derived.Test.YtkbcomgffpbcbaaGaps2
import Derived.Test.YtkbcomgffpbcbaaGaps3
import Derived.Test.YtkbcomgffpbcbaaGaps5
import Derived.Test.YtkbcomgffpbcbaaGaps7
import Derived.Test.YtkbcomgffpbcbaaGaps8
import Derived.Test.YtkbcomgffpbcbaaGaps17
import Derived.Test.YtkbcomgffpbcbaaGaps18
import Derived.Test.YtkbcomgffpbcbaaGaps22
namespace Go.Proofs.Ytkbcomgffpbcbaa.Plane
open Go.RowKit Go.Proofs.YtkbcomgffpbcbaaW.PrintWords Go.Proofs.YtkbcomgffpbcbaaW.PrintLast Go.Proofs.YtkbcomgffpbcbaaW.PrintMore
attribute [local go_sem] max2_int min2_int max_two min_two max_three min_three max_four min_four   -- for this text's walks alone
set_option linter.unusedVariables false
set_option linter.unusedSimpArgs false
attribute [local go_sem high] eqA31 eqA103
theorem plane_checkHulls.calls (k : Nat) (A0 : Option Addr) (c0 : Nat) (l0 : List (List (S31))) (r : Int) (w : World) (hr0 : Kd.C (Kd.slice 31 k31) w A0 l0.length l0) (hc0 : l0.length ≤ c0) (h : plane_checkHulls.f k l0 = some r) :
    Calls Try.prog 64 #[.slice A0 l0.length c0] w fun e w' => e = .returned (.int .i64 r) ∧ Below w.heap.size w w' :=
  checkHulls_calls k A0 c0 l0 r w hr0 hc0 h
end Go.Proofs.Ytkbcomgffpbcbaa.Plane
