/-
  No cell of these rows narrows 'for every input' (looked for: loops, veiled, ifaces, maps, wideKeys, modest, calm, conditions, laid).
  DERIVED. THE GIVEN ROWS OF THIS SEAT. 10 by the template 'for every input the law returns true; each argument reads behind the call as it read before'; 0 by the template 'total and deterministic' (their statements: YtkbcomgffpbcbaaTotals.lean).
  GIVEN WITH THE SEED: the statements are not yours to turn. If you find one false, say at which input.
  Laid BY PROGRAM, IN A SANDBOX (cutbox-rows.mjs): the forced cells as the released guide's own fill.sh prints them over the translation 5ab82be4429d6121… (all of the seat's roots in one cut). By AI agents, Wed Nov 11 2026. No macro, syntax, notation, axiom, sorry.
-/
import Derived.Test.YtkbcomgffpbcbaaChecked
import GoSem.Claim
import GoSem.ClaimJoined
import GoSem.ClaimMapViews
import Derived.JoinedTies
import Derived.KernelRfl
namespace Go.Proofs.Ytkbcomgffpbcbaa
/- THE CELL 'sum', in the pinned program and in every row, IS THE sha256 OF THE DUMP (.gsa) THAT YtkbcomgffpbcbaaProg.lean LOADS. Nothing in Lean hashes anything: it is a label: what it is worth is what the hold of that sum in a sandbox is worth. -/
noncomputable def Try.pinned : Pinned := { name := "ytkbcomgffpbcbaa", sum := "5ab82be4429d61216adcb76e29eb9dcd41f9febb54e7f1da91e21b84c610fcf6", checked := Try.checked }
namespace Rows
def none {H : Type} : Left H := { results := [], args := [] }

/-- 'goosenecklaw01.PlaneLeast': WHATEVER THE INPUT: true; the input reads as it did. -/
def planeLeastSpec : ChangeSpec := { name := "planeLeast", fn := fun _ => fun
  | [d1, d2] => { results := [.lit (.bool true)], args := [d1, d2] }
  | _ => none }
def planeLeastRow : OpenClaim := { program := "ytkbcomgffpbcbaa", sum := "5ab82be4429d61216adcb76e29eb9dcd41f9febb54e7f1da91e21b84c610fcf6", func := "gooseneck/goosenecklaw01.PlaneLeast", spec := "planeLeast", unfollowed := true, recurses := true, apart := false }
def PlaneLeastSaid : Prop := planeLeastRow.holds Try.pinned (OpenSpec.ofChange planeLeastSpec)

/-- ITS FALSE NEIGHBOUR: 'it returns false'. Refute it at one input. -/
def planeLeastWrong : ChangeSpec := { name := "planeLeast", fn := fun _ => fun
  | [d1, d2] => { results := [.lit (.bool false)], args := [d1, d2] }
  | _ => none }
def PlaneLeastWrongFalsely : Prop := planeLeastRow.holds Try.pinned (OpenSpec.ofChange planeLeastWrong)

/-- 'goosenecklaw01.PlaneHulls': WHATEVER THE INPUT: true; the input reads as it did. -/
def planeHullsSpec : ChangeSpec := { name := "planeHulls", fn := fun _ => fun
  | [d1, d2, d3] => { results := [.lit (.bool true)], args := [d1, d2, d3] }
  | _ => none }
def planeHullsRow : OpenClaim := { program := "ytkbcomgffpbcbaa", sum := "5ab82be4429d61216adcb76e29eb9dcd41f9febb54e7f1da91e21b84c610fcf6", func := "gooseneck/goosenecklaw01.PlaneHulls", spec := "planeHulls", unfollowed := true, recurses := true, apart := false }
def PlaneHullsSaid : Prop := planeHullsRow.holds Try.pinned (OpenSpec.ofChange planeHullsSpec)

/-- ITS FALSE NEIGHBOUR: 'it returns false'. Refute it at one input. -/
def planeHullsWrong : ChangeSpec := { name := "planeHulls", fn := fun _ => fun
  | [d1, d2, d3] => { results := [.lit (.bool false)], args := [d1, d2, d3] }
  | _ => none }
def PlaneHullsWrongFalsely : Prop := planeHullsRow.holds Try.pinned (OpenSpec.ofChange planeHullsWrong)

/-- 'goosenecklaw01.PlaneGaps': WHATEVER THE INPUT: true; the input reads as it did. -/
def planeGapsSpec : ChangeSpec := { name := "planeGaps", fn := fun _ => fun
  | [d1, d2, d3, d4] => { results := [.lit (.bool true)], args := [d1, d2, d3, d4] }
  | _ => none }
def planeGapsRow : OpenClaim := { program := "ytkbcomgffpbcbaa", sum := "5ab82be4429d61216adcb76e29eb9dcd41f9febb54e7f1da91e21b84c610fcf6", func := "gooseneck/goosenecklaw01.PlaneGaps", spec := "planeGaps", unfollowed := true, recurses := true, apart := false }
def PlaneGapsSaid : Prop := planeGapsRow.holds Try.pinned (OpenSpec.ofChange planeGapsSpec)

/-- ITS FALSE NEIGHBOUR: 'it returns false'. Refute it at one input. -/
def planeGapsWrong : ChangeSpec := { name := "planeGaps", fn := fun _ => fun
  | [d1, d2, d3, d4] => { results := [.lit (.bool false)], args := [d1, d2, d3, d4] }
  | _ => none }
def PlaneGapsWrongFalsely : Prop := planeGapsRow.holds Try.pinned (OpenSpec.ofChange planeGapsWrong)

/-- 'goosenecklaw01.PlaneParts': WHATEVER THE INPUT: true; the input reads as it did. -/
def planePartsSpec : ChangeSpec := { name := "planeParts", fn := fun _ => fun
  | [d1, d2, d3, d4] => { results := [.lit (.bool true)], args := [d1, d2, d3, d4] }
  | _ => none }
def planePartsRow : OpenClaim := { program := "ytkbcomgffpbcbaa", sum := "5ab82be4429d61216adcb76e29eb9dcd41f9febb54e7f1da91e21b84c610fcf6", func := "gooseneck/goosenecklaw01.PlaneParts", spec := "planeParts", unfollowed := true, recurses := true, apart := false }
def PlanePartsSaid : Prop := planePartsRow.holds Try.pinned (OpenSpec.ofChange planePartsSpec)

/-- ITS FALSE NEIGHBOUR: 'it returns false'. Refute it at one input. -/
def planePartsWrong : ChangeSpec := { name := "planeParts", fn := fun _ => fun
  | [d1, d2, d3, d4] => { results := [.lit (.bool false)], args := [d1, d2, d3, d4] }
  | _ => none }
def PlanePartsWrongFalsely : Prop := planePartsRow.holds Try.pinned (OpenSpec.ofChange planePartsWrong)

/-- 'goosenecklaw02.LoadMore': WHATEVER THE INPUT: true; the input reads as it did. -/
def loadMoreSpec : ChangeSpec := { name := "loadMore", fn := fun _ => fun
  | [d1, d2, d3, d4, d5, d6] => { results := [.lit (.bool true)], args := [d1, d2, d3, d4, d5, d6] }
  | _ => none }
def loadMoreRow : OpenClaim := { program := "ytkbcomgffpbcbaa", sum := "5ab82be4429d61216adcb76e29eb9dcd41f9febb54e7f1da91e21b84c610fcf6", func := "gooseneck/goosenecklaw02.LoadMore", spec := "loadMore", unfollowed := true, recurses := true, apart := false }
def LoadMoreSaid : Prop := loadMoreRow.holds Try.pinned (OpenSpec.ofChange loadMoreSpec)

/-- ITS FALSE NEIGHBOUR: 'it returns false'. Refute it at one input. -/
def loadMoreWrong : ChangeSpec := { name := "loadMore", fn := fun _ => fun
  | [d1, d2, d3, d4, d5, d6] => { results := [.lit (.bool false)], args := [d1, d2, d3, d4, d5, d6] }
  | _ => none }
def LoadMoreWrongFalsely : Prop := loadMoreRow.holds Try.pinned (OpenSpec.ofChange loadMoreWrong)

/-- 'goosenecklaw02.LoadLeast': WHATEVER THE INPUT: true; the input reads as it did. -/
def loadLeastSpec : ChangeSpec := { name := "loadLeast", fn := fun _ => fun
  | [d1, d2, d3] => { results := [.lit (.bool true)], args := [d1, d2, d3] }
  | _ => none }
def loadLeastRow : OpenClaim := { program := "ytkbcomgffpbcbaa", sum := "5ab82be4429d61216adcb76e29eb9dcd41f9febb54e7f1da91e21b84c610fcf6", func := "gooseneck/goosenecklaw02.LoadLeast", spec := "loadLeast", unfollowed := true, recurses := true, apart := false }
def LoadLeastSaid : Prop := loadLeastRow.holds Try.pinned (OpenSpec.ofChange loadLeastSpec)

/-- ITS FALSE NEIGHBOUR: 'it returns false'. Refute it at one input. -/
def loadLeastWrong : ChangeSpec := { name := "loadLeast", fn := fun _ => fun
  | [d1, d2, d3] => { results := [.lit (.bool false)], args := [d1, d2, d3] }
  | _ => none }
def LoadLeastWrongFalsely : Prop := loadLeastRow.holds Try.pinned (OpenSpec.ofChange loadLeastWrong)

/-- 'goosenecklaw02.LoadProved': WHATEVER THE INPUT: true; the input reads as it did. -/
def loadProvedSpec : ChangeSpec := { name := "loadProved", fn := fun _ => fun
  | [d1, d2, d3, d4] => { results := [.lit (.bool true)], args := [d1, d2, d3, d4] }
  | _ => none }
def loadProvedRow : OpenClaim := { program := "ytkbcomgffpbcbaa", sum := "5ab82be4429d61216adcb76e29eb9dcd41f9febb54e7f1da91e21b84c610fcf6", func := "gooseneck/goosenecklaw02.LoadProved", spec := "loadProved", unfollowed := true, recurses := true, apart := false }
def LoadProvedSaid : Prop := loadProvedRow.holds Try.pinned (OpenSpec.ofChange loadProvedSpec)

/-- ITS FALSE NEIGHBOUR: 'it returns false'. Refute it at one input. -/
def loadProvedWrong : ChangeSpec := { name := "loadProved", fn := fun _ => fun
  | [d1, d2, d3, d4] => { results := [.lit (.bool false)], args := [d1, d2, d3, d4] }
  | _ => none }
def LoadProvedWrongFalsely : Prop := loadProvedRow.holds Try.pinned (OpenSpec.ofChange loadProvedWrong)

/-- 'goosenecklaw02.LoadChanges': WHATEVER THE INPUT: true; the input reads as it did. -/
def loadChangesSpec : ChangeSpec := { name := "loadChanges", fn := fun _ => fun
  | [d1, d2, d3, d4, d5, d6] => { results := [.lit (.bool true)], args := [d1, d2, d3, d4, d5, d6] }
  | _ => none }
def loadChangesRow : OpenClaim := { program := "ytkbcomgffpbcbaa", sum := "5ab82be4429d61216adcb76e29eb9dcd41f9febb54e7f1da91e21b84c610fcf6", func := "gooseneck/goosenecklaw02.LoadChanges", spec := "loadChanges", unfollowed := true, recurses := true, apart := false }
def LoadChangesSaid : Prop := loadChangesRow.holds Try.pinned (OpenSpec.ofChange loadChangesSpec)

/-- ITS FALSE NEIGHBOUR: 'it returns false'. Refute it at one input. -/
def loadChangesWrong : ChangeSpec := { name := "loadChanges", fn := fun _ => fun
  | [d1, d2, d3, d4, d5, d6] => { results := [.lit (.bool false)], args := [d1, d2, d3, d4, d5, d6] }
  | _ => none }
def LoadChangesWrongFalsely : Prop := loadChangesRow.holds Try.pinned (OpenSpec.ofChange loadChangesWrong)

/-- 'goosenecklaw02.LoadCentres': WHATEVER THE INPUT: true; the input reads as it did. -/
def loadCentresSpec : ChangeSpec := { name := "loadCentres", fn := fun _ => fun
  | [d1, d2, d3, d4, d5] => { results := [.lit (.bool true)], args := [d1, d2, d3, d4, d5] }
  | _ => none }
def loadCentresRow : OpenClaim := { program := "ytkbcomgffpbcbaa", sum := "5ab82be4429d61216adcb76e29eb9dcd41f9febb54e7f1da91e21b84c610fcf6", func := "gooseneck/goosenecklaw02.LoadCentres", spec := "loadCentres", unfollowed := true, recurses := true, apart := false }
def LoadCentresSaid : Prop := loadCentresRow.holds Try.pinned (OpenSpec.ofChange loadCentresSpec)

/-- ITS FALSE NEIGHBOUR: 'it returns false'. Refute it at one input. -/
def loadCentresWrong : ChangeSpec := { name := "loadCentres", fn := fun _ => fun
  | [d1, d2, d3, d4, d5] => { results := [.lit (.bool false)], args := [d1, d2, d3, d4, d5] }
  | _ => none }
def LoadCentresWrongFalsely : Prop := loadCentresRow.holds Try.pinned (OpenSpec.ofChange loadCentresWrong)

/-- 'goosenecklaw02.LoadTurns': WHATEVER THE INPUT: true; the input reads as it did. -/
def loadTurnsSpec : ChangeSpec := { name := "loadTurns", fn := fun _ => fun
  | [d1, d2, d3] => { results := [.lit (.bool true)], args := [d1, d2, d3] }
  | _ => none }
def loadTurnsRow : OpenClaim := { program := "ytkbcomgffpbcbaa", sum := "5ab82be4429d61216adcb76e29eb9dcd41f9febb54e7f1da91e21b84c610fcf6", func := "gooseneck/goosenecklaw02.LoadTurns", spec := "loadTurns", unfollowed := true, recurses := true, apart := false }
def LoadTurnsSaid : Prop := loadTurnsRow.holds Try.pinned (OpenSpec.ofChange loadTurnsSpec)

/-- ITS FALSE NEIGHBOUR: 'it returns false'. Refute it at one input. -/
def loadTurnsWrong : ChangeSpec := { name := "loadTurns", fn := fun _ => fun
  | [d1, d2, d3] => { results := [.lit (.bool false)], args := [d1, d2, d3] }
  | _ => none }
def LoadTurnsWrongFalsely : Prop := loadTurnsRow.holds Try.pinned (OpenSpec.ofChange loadTurnsWrong)

/- THE SECOND FORM. 'bulk': how many values and letters a reading holds, each counted each time it is reached (what is shared counts as often as it is met; a slice's spare places count too). A statement '..UptoSaid' is the law's where the arguments, and the package variables that the reading takes, are together of bulk at most 1048576: NARROWER than '..Said'. Prove '..Said' where nothing that the law and all that it calls make is longer than what came in: it says more and counts as full. Else prove '..UptoSaid'. A law counts once. -/
mutual
def uptoBulk {H : Type} : DataW H → Nat
  | .lit (.string bytes) => bytes.length + 1
  | .lit _ => 1
  | .nil => 1
  | .ptr d => uptoBulk d + 1
  | .slice elems spare => uptoBulkAll elems + uptoBulkAll spare + 1
  | .agg parts => uptoBulkAll parts + 1
  | .iface _ d => uptoBulk d + 1
  | .map entries => uptoBulkEntries entries + 1
  | .held _ => 1
def uptoBulkAll {H : Type} : List (DataW H) → Nat
  | [] => 0
  | d :: r => uptoBulk d + uptoBulkAll r
def uptoBulkEntries {H : Type} : List (Lit × DataW H) → Nat
  | [] => 0
  | x :: r => uptoBulkEntry x + uptoBulkEntries r
def uptoBulkEntry {H : Type} : Lit × DataW H → Nat
  | (.string bytes, d) => bytes.length + uptoBulk d + 1
  | (_, d) => uptoBulk d + 1
 end
def uptoSmall : (H : Type) → List (DataW H) → Bool := fun _ ds => decide (uptoBulkAll ds ≤ 1048576)
def OpenSpec.upto (s : _root_.Go.ChangeSpec) : _root_.Go.OpenSpec := { _root_.Go.OpenSpec.ofChange s with cond := some uptoSmall }

/-- 'goosenecklaw01.PlaneLeast', WHERE WHAT IT READS IS OF BULK AT MOST 1048576: true; the input reads as it did. -/
def planeLeastUptoRow : OpenClaim := { program := "ytkbcomgffpbcbaa", sum := "5ab82be4429d61216adcb76e29eb9dcd41f9febb54e7f1da91e21b84c610fcf6", func := "gooseneck/goosenecklaw01.PlaneLeast", spec := "planeLeast", unfollowed := true, recurses := true, apart := false, narrowed := true }
def PlaneLeastUptoSaid : Prop := planeLeastUptoRow.holds Try.pinned (OpenSpec.upto planeLeastSpec)

/-- 'goosenecklaw01.PlaneHulls', WHERE WHAT IT READS IS OF BULK AT MOST 1048576: true; the input reads as it did. -/
def planeHullsUptoRow : OpenClaim := { program := "ytkbcomgffpbcbaa", sum := "5ab82be4429d61216adcb76e29eb9dcd41f9febb54e7f1da91e21b84c610fcf6", func := "gooseneck/goosenecklaw01.PlaneHulls", spec := "planeHulls", unfollowed := true, recurses := true, apart := false, narrowed := true }
def PlaneHullsUptoSaid : Prop := planeHullsUptoRow.holds Try.pinned (OpenSpec.upto planeHullsSpec)

/-- 'goosenecklaw01.PlaneGaps', WHERE WHAT IT READS IS OF BULK AT MOST 1048576: true; the input reads as it did. -/
def planeGapsUptoRow : OpenClaim := { program := "ytkbcomgffpbcbaa", sum := "5ab82be4429d61216adcb76e29eb9dcd41f9febb54e7f1da91e21b84c610fcf6", func := "gooseneck/goosenecklaw01.PlaneGaps", spec := "planeGaps", unfollowed := true, recurses := true, apart := false, narrowed := true }
def PlaneGapsUptoSaid : Prop := planeGapsUptoRow.holds Try.pinned (OpenSpec.upto planeGapsSpec)

/-- 'goosenecklaw01.PlaneParts', WHERE WHAT IT READS IS OF BULK AT MOST 1048576: true; the input reads as it did. -/
def planePartsUptoRow : OpenClaim := { program := "ytkbcomgffpbcbaa", sum := "5ab82be4429d61216adcb76e29eb9dcd41f9febb54e7f1da91e21b84c610fcf6", func := "gooseneck/goosenecklaw01.PlaneParts", spec := "planeParts", unfollowed := true, recurses := true, apart := false, narrowed := true }
def PlanePartsUptoSaid : Prop := planePartsUptoRow.holds Try.pinned (OpenSpec.upto planePartsSpec)

/-- 'goosenecklaw02.LoadMore', WHERE WHAT IT READS IS OF BULK AT MOST 1048576: true; the input reads as it did. -/
def loadMoreUptoRow : OpenClaim := { program := "ytkbcomgffpbcbaa", sum := "5ab82be4429d61216adcb76e29eb9dcd41f9febb54e7f1da91e21b84c610fcf6", func := "gooseneck/goosenecklaw02.LoadMore", spec := "loadMore", unfollowed := true, recurses := true, apart := false, narrowed := true }
def LoadMoreUptoSaid : Prop := loadMoreUptoRow.holds Try.pinned (OpenSpec.upto loadMoreSpec)

/-- 'goosenecklaw02.LoadLeast', WHERE WHAT IT READS IS OF BULK AT MOST 1048576: true; the input reads as it did. -/
def loadLeastUptoRow : OpenClaim := { program := "ytkbcomgffpbcbaa", sum := "5ab82be4429d61216adcb76e29eb9dcd41f9febb54e7f1da91e21b84c610fcf6", func := "gooseneck/goosenecklaw02.LoadLeast", spec := "loadLeast", unfollowed := true, recurses := true, apart := false, narrowed := true }
def LoadLeastUptoSaid : Prop := loadLeastUptoRow.holds Try.pinned (OpenSpec.upto loadLeastSpec)

/-- 'goosenecklaw02.LoadProved', WHERE WHAT IT READS IS OF BULK AT MOST 1048576: true; the input reads as it did. -/
def loadProvedUptoRow : OpenClaim := { program := "ytkbcomgffpbcbaa", sum := "5ab82be4429d61216adcb76e29eb9dcd41f9febb54e7f1da91e21b84c610fcf6", func := "gooseneck/goosenecklaw02.LoadProved", spec := "loadProved", unfollowed := true, recurses := true, apart := false, narrowed := true }
def LoadProvedUptoSaid : Prop := loadProvedUptoRow.holds Try.pinned (OpenSpec.upto loadProvedSpec)

/-- 'goosenecklaw02.LoadChanges', WHERE WHAT IT READS IS OF BULK AT MOST 1048576: true; the input reads as it did. -/
def loadChangesUptoRow : OpenClaim := { program := "ytkbcomgffpbcbaa", sum := "5ab82be4429d61216adcb76e29eb9dcd41f9febb54e7f1da91e21b84c610fcf6", func := "gooseneck/goosenecklaw02.LoadChanges", spec := "loadChanges", unfollowed := true, recurses := true, apart := false, narrowed := true }
def LoadChangesUptoSaid : Prop := loadChangesUptoRow.holds Try.pinned (OpenSpec.upto loadChangesSpec)

/-- 'goosenecklaw02.LoadCentres', WHERE WHAT IT READS IS OF BULK AT MOST 1048576: true; the input reads as it did. -/
def loadCentresUptoRow : OpenClaim := { program := "ytkbcomgffpbcbaa", sum := "5ab82be4429d61216adcb76e29eb9dcd41f9febb54e7f1da91e21b84c610fcf6", func := "gooseneck/goosenecklaw02.LoadCentres", spec := "loadCentres", unfollowed := true, recurses := true, apart := false, narrowed := true }
def LoadCentresUptoSaid : Prop := loadCentresUptoRow.holds Try.pinned (OpenSpec.upto loadCentresSpec)

/-- 'goosenecklaw02.LoadTurns', WHERE WHAT IT READS IS OF BULK AT MOST 1048576: true; the input reads as it did. -/
def loadTurnsUptoRow : OpenClaim := { program := "ytkbcomgffpbcbaa", sum := "5ab82be4429d61216adcb76e29eb9dcd41f9febb54e7f1da91e21b84c610fcf6", func := "gooseneck/goosenecklaw02.LoadTurns", spec := "loadTurns", unfollowed := true, recurses := true, apart := false, narrowed := true }
def LoadTurnsUptoSaid : Prop := loadTurnsUptoRow.holds Try.pinned (OpenSpec.upto loadTurnsSpec)

end Rows
end Go.Proofs.Ytkbcomgffpbcbaa
