/-
  No cell of these rows narrows 'for every input' (looked for: loops, veiled, ifaces, maps, wideKeys, modest, calm, conditions, laid).
  DERIVED. THE GIVEN ROWS OF THIS SEAT. 5 by the template 'for every input the law returns true; each argument reads behind the call as it read before'; 0 by the template 'total and deterministic' (their statements: YthihffglkheleaaTotals.lean).
  GIVEN WITH THE SEED: the statements are not yours to turn. If you find one false, say at which input.
  Laid BY PROGRAM, IN A SANDBOX (cutbox-rows.mjs): the forced cells as the released guide's own fill.sh prints them over the translation 76fb317c23bd4755… (all of the seat's roots in one cut). By AI agents, Wed Nov 11 2026. No macro, syntax, notation, axiom, sorry.
-/
import Derived.Test.YthihffglkheleaaChecked
import GoSem.Claim
import GoSem.ClaimJoined
import GoSem.ClaimMapViews
import Derived.JoinedTies
import Derived.KernelRfl
namespace Go.Proofs.Ythihffglkheleaa
/- THE CELL 'sum', in the pinned program and in every row, IS THE sha256 OF THE DUMP (.gsa) THAT YthihffglkheleaaProg.lean LOADS. Nothing in Lean hashes anything: it is a label: what it is worth is what the hold of that sum in a sandbox is worth. -/
noncomputable def Try.pinned : Pinned := { name := "ythihffglkheleaa", sum := "76fb317c23bd47550baed8585497a7b98f48258d25736b30fc21b64b658cc08f", checked := Try.checked }
namespace Rows
def none {H : Type} : Left H := { results := [], args := [] }

/-- 'gessolaw10.RunsTiles': WHATEVER THE INPUT: true; the input reads as it did. -/
def runsTilesSpec : ChangeSpec := { name := "runsTiles", fn := fun _ => fun
  | [d1, d2] => { results := [.lit (.bool true)], args := [d1, d2] }
  | _ => none }
def runsTilesRow : OpenClaim := { program := "ythihffglkheleaa", sum := "76fb317c23bd47550baed8585497a7b98f48258d25736b30fc21b64b658cc08f", func := "gesso/gessolaw10.RunsTiles", spec := "runsTiles", unfollowed := true, recurses := true, apart := false }
def RunsTilesSaid : Prop := runsTilesRow.holds Try.pinned (OpenSpec.ofChange runsTilesSpec)

/-- ITS FALSE NEIGHBOUR: 'it returns false'. Refute it at one input. -/
def runsTilesWrong : ChangeSpec := { name := "runsTiles", fn := fun _ => fun
  | [d1, d2] => { results := [.lit (.bool false)], args := [d1, d2] }
  | _ => none }
def RunsTilesWrongFalsely : Prop := runsTilesRow.holds Try.pinned (OpenSpec.ofChange runsTilesWrong)

/-- 'gessolaw10.RunsSpoilt': WHATEVER THE INPUT: true; the input reads as it did. -/
def runsSpoiltSpec : ChangeSpec := { name := "runsSpoilt", fn := fun _ => fun
  | [d1, d2, d3] => { results := [.lit (.bool true)], args := [d1, d2, d3] }
  | _ => none }
def runsSpoiltRow : OpenClaim := { program := "ythihffglkheleaa", sum := "76fb317c23bd47550baed8585497a7b98f48258d25736b30fc21b64b658cc08f", func := "gesso/gessolaw10.RunsSpoilt", spec := "runsSpoilt", unfollowed := true, recurses := true, apart := false }
def RunsSpoiltSaid : Prop := runsSpoiltRow.holds Try.pinned (OpenSpec.ofChange runsSpoiltSpec)

/-- ITS FALSE NEIGHBOUR: 'it returns false'. Refute it at one input. -/
def runsSpoiltWrong : ChangeSpec := { name := "runsSpoilt", fn := fun _ => fun
  | [d1, d2, d3] => { results := [.lit (.bool false)], args := [d1, d2, d3] }
  | _ => none }
def RunsSpoiltWrongFalsely : Prop := runsSpoiltRow.holds Try.pinned (OpenSpec.ofChange runsSpoiltWrong)

/-- 'gessolaw10.RunsBack': WHATEVER THE INPUT: true; the input reads as it did. -/
def runsBackSpec : ChangeSpec := { name := "runsBack", fn := fun _ => fun
  | [d1, d2, d3] => { results := [.lit (.bool true)], args := [d1, d2, d3] }
  | _ => none }
def runsBackRow : OpenClaim := { program := "ythihffglkheleaa", sum := "76fb317c23bd47550baed8585497a7b98f48258d25736b30fc21b64b658cc08f", func := "gesso/gessolaw10.RunsBack", spec := "runsBack", unfollowed := true, recurses := true, apart := false }
def RunsBackSaid : Prop := runsBackRow.holds Try.pinned (OpenSpec.ofChange runsBackSpec)

/-- ITS FALSE NEIGHBOUR: 'it returns false'. Refute it at one input. -/
def runsBackWrong : ChangeSpec := { name := "runsBack", fn := fun _ => fun
  | [d1, d2, d3] => { results := [.lit (.bool false)], args := [d1, d2, d3] }
  | _ => none }
def RunsBackWrongFalsely : Prop := runsBackRow.holds Try.pinned (OpenSpec.ofChange runsBackWrong)

/-- 'gessolaw10.RunsCanvases': WHATEVER THE INPUT: true; the input reads as it did. -/
def runsCanvasesSpec : ChangeSpec := { name := "runsCanvases", fn := fun _ => fun
  | [d1, d2, d3] => { results := [.lit (.bool true)], args := [d1, d2, d3] }
  | _ => none }
def runsCanvasesRow : OpenClaim := { program := "ythihffglkheleaa", sum := "76fb317c23bd47550baed8585497a7b98f48258d25736b30fc21b64b658cc08f", func := "gesso/gessolaw10.RunsCanvases", spec := "runsCanvases", unfollowed := true, recurses := true, apart := false }
def RunsCanvasesSaid : Prop := runsCanvasesRow.holds Try.pinned (OpenSpec.ofChange runsCanvasesSpec)

/-- ITS FALSE NEIGHBOUR: 'it returns false'. Refute it at one input. -/
def runsCanvasesWrong : ChangeSpec := { name := "runsCanvases", fn := fun _ => fun
  | [d1, d2, d3] => { results := [.lit (.bool false)], args := [d1, d2, d3] }
  | _ => none }
def RunsCanvasesWrongFalsely : Prop := runsCanvasesRow.holds Try.pinned (OpenSpec.ofChange runsCanvasesWrong)

/-- 'gessolaw10.RunsPatches': WHATEVER THE INPUT: true; the input reads as it did. -/
def runsPatchesSpec : ChangeSpec := { name := "runsPatches", fn := fun _ => fun
  | [d1, d2, d3] => { results := [.lit (.bool true)], args := [d1, d2, d3] }
  | _ => none }
def runsPatchesRow : OpenClaim := { program := "ythihffglkheleaa", sum := "76fb317c23bd47550baed8585497a7b98f48258d25736b30fc21b64b658cc08f", func := "gesso/gessolaw10.RunsPatches", spec := "runsPatches", unfollowed := true, recurses := true, apart := false }
def RunsPatchesSaid : Prop := runsPatchesRow.holds Try.pinned (OpenSpec.ofChange runsPatchesSpec)

/-- ITS FALSE NEIGHBOUR: 'it returns false'. Refute it at one input. -/
def runsPatchesWrong : ChangeSpec := { name := "runsPatches", fn := fun _ => fun
  | [d1, d2, d3] => { results := [.lit (.bool false)], args := [d1, d2, d3] }
  | _ => none }
def RunsPatchesWrongFalsely : Prop := runsPatchesRow.holds Try.pinned (OpenSpec.ofChange runsPatchesWrong)

/- THE SECOND FORM. 'bulk': how many values and letters a reading holds, each counted each time it is reached (what is shared counts as often as it is met; a slice's spare places count too). A statement '..UptoSaid' is the law's where the arguments, and the package variables that the reading takes, are together of bulk at most 1048576: NARROWER than '..Said'. Prove '..Said' where nothing that the law and all that it calls make is longer than what came in: it says more and counts as full. Else prove '..UptoSaid'. A law counts once. -/
mutual
def uptoBulk {H : Type} : DataW H → Nat
  | .lit (.string bytes) => bytes.length + 1
  | .lit _ => 1
  | .nil => 1
  | .ptr d => uptoBulk d + 1
  | .slice elems spare => uptoBulkAll elems + uptoBulkAll spare + 1
  | .agg parts => uptoBulkAll parts + 1
  | .iface _ d => uptoBulk d + 1
  | .map entries => uptoBulkEntries entries + 1
  | .held _ => 1
def uptoBulkAll {H : Type} : List (DataW H) → Nat
  | [] => 0
  | d :: r => uptoBulk d + uptoBulkAll r
def uptoBulkEntries {H : Type} : List (Lit × DataW H) → Nat
  | [] => 0
  | x :: r => uptoBulkEntry x + uptoBulkEntries r
def uptoBulkEntry {H : Type} : Lit × DataW H → Nat
  | (.string bytes, d) => bytes.length + uptoBulk d + 1
  | (_, d) => uptoBulk d + 1
 end
def uptoSmall : (H : Type) → List (DataW H) → Bool := fun _ ds => decide (uptoBulkAll ds ≤ 1048576)
def OpenSpec.upto (s : _root_.Go.ChangeSpec) : _root_.Go.OpenSpec := { _root_.Go.OpenSpec.ofChange s with cond := some uptoSmall }

/-- 'gessolaw10.RunsTiles', WHERE WHAT IT READS IS OF BULK AT MOST 1048576: true; the input reads as it did. -/
def runsTilesUptoRow : OpenClaim := { program := "ythihffglkheleaa", sum := "76fb317c23bd47550baed8585497a7b98f48258d25736b30fc21b64b658cc08f", func := "gesso/gessolaw10.RunsTiles", spec := "runsTiles", unfollowed := true, recurses := true, apart := false, narrowed := true }
def RunsTilesUptoSaid : Prop := runsTilesUptoRow.holds Try.pinned (OpenSpec.upto runsTilesSpec)

/-- 'gessolaw10.RunsSpoilt', WHERE WHAT IT READS IS OF BULK AT MOST 1048576: true; the input reads as it did. -/
def runsSpoiltUptoRow : OpenClaim := { program := "ythihffglkheleaa", sum := "76fb317c23bd47550baed8585497a7b98f48258d25736b30fc21b64b658cc08f", func := "gesso/gessolaw10.RunsSpoilt", spec := "runsSpoilt", unfollowed := true, recurses := true, apart := false, narrowed := true }
def RunsSpoiltUptoSaid : Prop := runsSpoiltUptoRow.holds Try.pinned (OpenSpec.upto runsSpoiltSpec)

/-- 'gessolaw10.RunsBack', WHERE WHAT IT READS IS OF BULK AT MOST 1048576: true; the input reads as it did. -/
def runsBackUptoRow : OpenClaim := { program := "ythihffglkheleaa", sum := "76fb317c23bd47550baed8585497a7b98f48258d25736b30fc21b64b658cc08f", func := "gesso/gessolaw10.RunsBack", spec := "runsBack", unfollowed := true, recurses := true, apart := false, narrowed := true }
def RunsBackUptoSaid : Prop := runsBackUptoRow.holds Try.pinned (OpenSpec.upto runsBackSpec)

/-- 'gessolaw10.RunsCanvases', WHERE WHAT IT READS IS OF BULK AT MOST 1048576: true; the input reads as it did. -/
def runsCanvasesUptoRow : OpenClaim := { program := "ythihffglkheleaa", sum := "76fb317c23bd47550baed8585497a7b98f48258d25736b30fc21b64b658cc08f", func := "gesso/gessolaw10.RunsCanvases", spec := "runsCanvases", unfollowed := true, recurses := true, apart := false, narrowed := true }
def RunsCanvasesUptoSaid : Prop := runsCanvasesUptoRow.holds Try.pinned (OpenSpec.upto runsCanvasesSpec)

/-- 'gessolaw10.RunsPatches', WHERE WHAT IT READS IS OF BULK AT MOST 1048576: true; the input reads as it did. -/
def runsPatchesUptoRow : OpenClaim := { program := "ythihffglkheleaa", sum := "76fb317c23bd47550baed8585497a7b98f48258d25736b30fc21b64b658cc08f", func := "gesso/gessolaw10.RunsPatches", spec := "runsPatches", unfollowed := true, recurses := true, apart := false, narrowed := true }
def RunsPatchesUptoSaid : Prop := runsPatchesUptoRow.holds Try.pinned (OpenSpec.upto runsPatchesSpec)

end Rows
end Go.Proofs.Ythihffglkheleaa
