/-
  No cell of these rows narrows 'for every input' (looked for: loops, veiled, ifaces, maps, wideKeys, modest, calm, conditions, laid).
  DERIVED. THE GIVEN ROWS OF THIS SEAT. 8 by the template 'for every input the law returns true; each argument reads behind the call as it read before'; 0 by the template 'total and deterministic' (their statements: YtpbobopcmhpbbaaTotals.lean).
  GIVEN WITH THE SEED: the statements are not yours to turn. If you find one false, say at which input.
  Laid BY PROGRAM, IN A SANDBOX (cutbox-rows.mjs): the forced cells as the released guide's own fill.sh prints them over the translation c6a28d1613c83357… (all of the seat's roots in one cut). By AI agents, Wed Nov 11 2026. No macro, syntax, notation, axiom, sorry.
-/
import Derived.Test.YtpbobopcmhpbbaaChecked
import GoSem.Claim
import GoSem.ClaimJoined
import GoSem.ClaimMapViews
import Derived.JoinedTies
import Derived.KernelRfl
namespace Go.Proofs.Ytpbobopcmhpbbaa
/- THE CELL 'sum', in the pinned program and in every row, IS THE sha256 OF THE DUMP (.gsa) THAT YtpbobopcmhpbbaaProg.lean LOADS. Nothing in Lean hashes anything: it is a label: what it is worth is what the hold of that sum in a sandbox is worth. -/
noncomputable def Try.pinned : Pinned := { name := "ytpbobopcmhpbbaa", sum := "c6a28d1613c8335746be4d8e6c9f38d1d3ae17eda06f2d885e49b3bfde49c1ca", checked := Try.checked }
namespace Rows
def none {H : Type} : Left H := { results := [], args := [] }

/-- 'rexmilllaw10.ProgCompiles': WHATEVER THE INPUT: true; the input reads as it did. -/
def progCompilesSpec : ChangeSpec := { name := "progCompiles", fn := fun _ => fun
  | [d1, d2, d3, d4, d5] => { results := [.lit (.bool true)], args := [d1, d2, d3, d4, d5] }
  | _ => none }
def progCompilesRow : OpenClaim := { program := "ytpbobopcmhpbbaa", sum := "c6a28d1613c8335746be4d8e6c9f38d1d3ae17eda06f2d885e49b3bfde49c1ca", func := "rexmill/rexmilllaw10.ProgCompiles", spec := "progCompiles", unfollowed := true, recurses := true, apart := false }
def ProgCompilesSaid : Prop := progCompilesRow.holds Try.pinned (OpenSpec.ofChange progCompilesSpec)

/-- ITS FALSE NEIGHBOUR: 'it returns false'. Refute it at one input. -/
def progCompilesWrong : ChangeSpec := { name := "progCompiles", fn := fun _ => fun
  | [d1, d2, d3, d4, d5] => { results := [.lit (.bool false)], args := [d1, d2, d3, d4, d5] }
  | _ => none }
def ProgCompilesWrongFalsely : Prop := progCompilesRow.holds Try.pinned (OpenSpec.ofChange progCompilesWrong)

/-- 'rexmilllaw10.ProgLimits': WHATEVER THE INPUT: true; the input reads as it did. -/
def progLimitsSpec : ChangeSpec := { name := "progLimits", fn := fun _ => fun
  | [d1, d2, d3, d4, d5] => { results := [.lit (.bool true)], args := [d1, d2, d3, d4, d5] }
  | _ => none }
def progLimitsRow : OpenClaim := { program := "ytpbobopcmhpbbaa", sum := "c6a28d1613c8335746be4d8e6c9f38d1d3ae17eda06f2d885e49b3bfde49c1ca", func := "rexmill/rexmilllaw10.ProgLimits", spec := "progLimits", unfollowed := true, recurses := true, apart := false }
def ProgLimitsSaid : Prop := progLimitsRow.holds Try.pinned (OpenSpec.ofChange progLimitsSpec)

/-- ITS FALSE NEIGHBOUR: 'it returns false'. Refute it at one input. -/
def progLimitsWrong : ChangeSpec := { name := "progLimits", fn := fun _ => fun
  | [d1, d2, d3, d4, d5] => { results := [.lit (.bool false)], args := [d1, d2, d3, d4, d5] }
  | _ => none }
def ProgLimitsWrongFalsely : Prop := progLimitsRow.holds Try.pinned (OpenSpec.ofChange progLimitsWrong)

/-- 'rexmilllaw10.ProgPaths': WHATEVER THE INPUT: true; the input reads as it did. -/
def progPathsSpec : ChangeSpec := { name := "progPaths", fn := fun _ => fun
  | [d1, d2, d3, d4, d5, d6] => { results := [.lit (.bool true)], args := [d1, d2, d3, d4, d5, d6] }
  | _ => none }
def progPathsRow : OpenClaim := { program := "ytpbobopcmhpbbaa", sum := "c6a28d1613c8335746be4d8e6c9f38d1d3ae17eda06f2d885e49b3bfde49c1ca", func := "rexmill/rexmilllaw10.ProgPaths", spec := "progPaths", unfollowed := true, recurses := true, apart := false }
def ProgPathsSaid : Prop := progPathsRow.holds Try.pinned (OpenSpec.ofChange progPathsSpec)

/-- ITS FALSE NEIGHBOUR: 'it returns false'. Refute it at one input. -/
def progPathsWrong : ChangeSpec := { name := "progPaths", fn := fun _ => fun
  | [d1, d2, d3, d4, d5, d6] => { results := [.lit (.bool false)], args := [d1, d2, d3, d4, d5, d6] }
  | _ => none }
def ProgPathsWrongFalsely : Prop := progPathsRow.holds Try.pinned (OpenSpec.ofChange progPathsWrong)

/-- 'rexmilllaw10.ProgValid': WHATEVER THE INPUT: true; the input reads as it did. -/
def progValidSpec : ChangeSpec := { name := "progValid", fn := fun _ => fun
  | [d1, d2, d3, d4, d5] => { results := [.lit (.bool true)], args := [d1, d2, d3, d4, d5] }
  | _ => none }
def progValidRow : OpenClaim := { program := "ytpbobopcmhpbbaa", sum := "c6a28d1613c8335746be4d8e6c9f38d1d3ae17eda06f2d885e49b3bfde49c1ca", func := "rexmill/rexmilllaw10.ProgValid", spec := "progValid", unfollowed := true, recurses := true, apart := false }
def ProgValidSaid : Prop := progValidRow.holds Try.pinned (OpenSpec.ofChange progValidSpec)

/-- ITS FALSE NEIGHBOUR: 'it returns false'. Refute it at one input. -/
def progValidWrong : ChangeSpec := { name := "progValid", fn := fun _ => fun
  | [d1, d2, d3, d4, d5] => { results := [.lit (.bool false)], args := [d1, d2, d3, d4, d5] }
  | _ => none }
def ProgValidWrongFalsely : Prop := progValidRow.holds Try.pinned (OpenSpec.ofChange progValidWrong)

/-- 'rexmilllaw10.ProgPrefix': WHATEVER THE INPUT: true; the input reads as it did. -/
def progPrefixSpec : ChangeSpec := { name := "progPrefix", fn := fun _ => fun
  | [d1, d2, d3, d4, d5] => { results := [.lit (.bool true)], args := [d1, d2, d3, d4, d5] }
  | _ => none }
def progPrefixRow : OpenClaim := { program := "ytpbobopcmhpbbaa", sum := "c6a28d1613c8335746be4d8e6c9f38d1d3ae17eda06f2d885e49b3bfde49c1ca", func := "rexmill/rexmilllaw10.ProgPrefix", spec := "progPrefix", unfollowed := true, recurses := true, apart := false }
def ProgPrefixSaid : Prop := progPrefixRow.holds Try.pinned (OpenSpec.ofChange progPrefixSpec)

/-- ITS FALSE NEIGHBOUR: 'it returns false'. Refute it at one input. -/
def progPrefixWrong : ChangeSpec := { name := "progPrefix", fn := fun _ => fun
  | [d1, d2, d3, d4, d5] => { results := [.lit (.bool false)], args := [d1, d2, d3, d4, d5] }
  | _ => none }
def ProgPrefixWrongFalsely : Prop := progPrefixRow.holds Try.pinned (OpenSpec.ofChange progPrefixWrong)

/-- 'rexmilllaw10.ProgExpands': WHATEVER THE INPUT: true; the input reads as it did. -/
def progExpandsSpec : ChangeSpec := { name := "progExpands", fn := fun _ => fun
  | [d1, d2] => { results := [.lit (.bool true)], args := [d1, d2] }
  | _ => none }
def progExpandsRow : OpenClaim := { program := "ytpbobopcmhpbbaa", sum := "c6a28d1613c8335746be4d8e6c9f38d1d3ae17eda06f2d885e49b3bfde49c1ca", func := "rexmill/rexmilllaw10.ProgExpands", spec := "progExpands", unfollowed := true, recurses := true, apart := false }
def ProgExpandsSaid : Prop := progExpandsRow.holds Try.pinned (OpenSpec.ofChange progExpandsSpec)

/-- ITS FALSE NEIGHBOUR: 'it returns false'. Refute it at one input. -/
def progExpandsWrong : ChangeSpec := { name := "progExpands", fn := fun _ => fun
  | [d1, d2] => { results := [.lit (.bool false)], args := [d1, d2] }
  | _ => none }
def ProgExpandsWrongFalsely : Prop := progExpandsRow.holds Try.pinned (OpenSpec.ofChange progExpandsWrong)

/-- 'rexmilllaw10.ProgBytes': WHATEVER THE INPUT: true; the input reads as it did. -/
def progBytesSpec : ChangeSpec := { name := "progBytes", fn := fun _ => fun
  | [d1, d2, d3, d4, d5, d6, d7] => { results := [.lit (.bool true)], args := [d1, d2, d3, d4, d5, d6, d7] }
  | _ => none }
def progBytesRow : OpenClaim := { program := "ytpbobopcmhpbbaa", sum := "c6a28d1613c8335746be4d8e6c9f38d1d3ae17eda06f2d885e49b3bfde49c1ca", func := "rexmill/rexmilllaw10.ProgBytes", spec := "progBytes", unfollowed := true, recurses := true, apart := false }
def ProgBytesSaid : Prop := progBytesRow.holds Try.pinned (OpenSpec.ofChange progBytesSpec)

/-- ITS FALSE NEIGHBOUR: 'it returns false'. Refute it at one input. -/
def progBytesWrong : ChangeSpec := { name := "progBytes", fn := fun _ => fun
  | [d1, d2, d3, d4, d5, d6, d7] => { results := [.lit (.bool false)], args := [d1, d2, d3, d4, d5, d6, d7] }
  | _ => none }
def ProgBytesWrongFalsely : Prop := progBytesRow.holds Try.pinned (OpenSpec.ofChange progBytesWrong)

/-- 'rexmilllaw10.ProgSets': WHATEVER THE INPUT: true; the input reads as it did. -/
def progSetsSpec : ChangeSpec := { name := "progSets", fn := fun _ => fun
  | [d1, d2] => { results := [.lit (.bool true)], args := [d1, d2] }
  | _ => none }
def progSetsRow : OpenClaim := { program := "ytpbobopcmhpbbaa", sum := "c6a28d1613c8335746be4d8e6c9f38d1d3ae17eda06f2d885e49b3bfde49c1ca", func := "rexmill/rexmilllaw10.ProgSets", spec := "progSets", unfollowed := true, recurses := true, apart := false }
def ProgSetsSaid : Prop := progSetsRow.holds Try.pinned (OpenSpec.ofChange progSetsSpec)

/-- ITS FALSE NEIGHBOUR: 'it returns false'. Refute it at one input. -/
def progSetsWrong : ChangeSpec := { name := "progSets", fn := fun _ => fun
  | [d1, d2] => { results := [.lit (.bool false)], args := [d1, d2] }
  | _ => none }
def ProgSetsWrongFalsely : Prop := progSetsRow.holds Try.pinned (OpenSpec.ofChange progSetsWrong)

/- THE SECOND FORM. 'bulk': how many values and letters a reading holds, each counted each time it is reached (what is shared counts as often as it is met; a slice's spare places count too). A statement '..UptoSaid' is the law's where the arguments, and the package variables that the reading takes, are together of bulk at most 1048576: NARROWER than '..Said'. Prove '..Said' where nothing that the law and all that it calls make is longer than what came in: it says more and counts as full. Else prove '..UptoSaid'. A law counts once. -/
mutual
def uptoBulk {H : Type} : DataW H → Nat
  | .lit (.string bytes) => bytes.length + 1
  | .lit _ => 1
  | .nil => 1
  | .ptr d => uptoBulk d + 1
  | .slice elems spare => uptoBulkAll elems + uptoBulkAll spare + 1
  | .agg parts => uptoBulkAll parts + 1
  | .iface _ d => uptoBulk d + 1
  | .map entries => uptoBulkEntries entries + 1
  | .held _ => 1
def uptoBulkAll {H : Type} : List (DataW H) → Nat
  | [] => 0
  | d :: r => uptoBulk d + uptoBulkAll r
def uptoBulkEntries {H : Type} : List (Lit × DataW H) → Nat
  | [] => 0
  | x :: r => uptoBulkEntry x + uptoBulkEntries r
def uptoBulkEntry {H : Type} : Lit × DataW H → Nat
  | (.string bytes, d) => bytes.length + uptoBulk d + 1
  | (_, d) => uptoBulk d + 1
 end
def uptoSmall : (H : Type) → List (DataW H) → Bool := fun _ ds => decide (uptoBulkAll ds ≤ 1048576)
def OpenSpec.upto (s : _root_.Go.ChangeSpec) : _root_.Go.OpenSpec := { _root_.Go.OpenSpec.ofChange s with cond := some uptoSmall }

/-- 'rexmilllaw10.ProgCompiles', WHERE WHAT IT READS IS OF BULK AT MOST 1048576: true; the input reads as it did. -/
def progCompilesUptoRow : OpenClaim := { program := "ytpbobopcmhpbbaa", sum := "c6a28d1613c8335746be4d8e6c9f38d1d3ae17eda06f2d885e49b3bfde49c1ca", func := "rexmill/rexmilllaw10.ProgCompiles", spec := "progCompiles", unfollowed := true, recurses := true, apart := false, narrowed := true }
def ProgCompilesUptoSaid : Prop := progCompilesUptoRow.holds Try.pinned (OpenSpec.upto progCompilesSpec)

/-- 'rexmilllaw10.ProgLimits', WHERE WHAT IT READS IS OF BULK AT MOST 1048576: true; the input reads as it did. -/
def progLimitsUptoRow : OpenClaim := { program := "ytpbobopcmhpbbaa", sum := "c6a28d1613c8335746be4d8e6c9f38d1d3ae17eda06f2d885e49b3bfde49c1ca", func := "rexmill/rexmilllaw10.ProgLimits", spec := "progLimits", unfollowed := true, recurses := true, apart := false, narrowed := true }
def ProgLimitsUptoSaid : Prop := progLimitsUptoRow.holds Try.pinned (OpenSpec.upto progLimitsSpec)

/-- 'rexmilllaw10.ProgPaths', WHERE WHAT IT READS IS OF BULK AT MOST 1048576: true; the input reads as it did. -/
def progPathsUptoRow : OpenClaim := { program := "ytpbobopcmhpbbaa", sum := "c6a28d1613c8335746be4d8e6c9f38d1d3ae17eda06f2d885e49b3bfde49c1ca", func := "rexmill/rexmilllaw10.ProgPaths", spec := "progPaths", unfollowed := true, recurses := true, apart := false, narrowed := true }
def ProgPathsUptoSaid : Prop := progPathsUptoRow.holds Try.pinned (OpenSpec.upto progPathsSpec)

/-- 'rexmilllaw10.ProgValid', WHERE WHAT IT READS IS OF BULK AT MOST 1048576: true; the input reads as it did. -/
def progValidUptoRow : OpenClaim := { program := "ytpbobopcmhpbbaa", sum := "c6a28d1613c8335746be4d8e6c9f38d1d3ae17eda06f2d885e49b3bfde49c1ca", func := "rexmill/rexmilllaw10.ProgValid", spec := "progValid", unfollowed := true, recurses := true, apart := false, narrowed := true }
def ProgValidUptoSaid : Prop := progValidUptoRow.holds Try.pinned (OpenSpec.upto progValidSpec)

/-- 'rexmilllaw10.ProgPrefix', WHERE WHAT IT READS IS OF BULK AT MOST 1048576: true; the input reads as it did. -/
def progPrefixUptoRow : OpenClaim := { program := "ytpbobopcmhpbbaa", sum := "c6a28d1613c8335746be4d8e6c9f38d1d3ae17eda06f2d885e49b3bfde49c1ca", func := "rexmill/rexmilllaw10.ProgPrefix", spec := "progPrefix", unfollowed := true, recurses := true, apart := false, narrowed := true }
def ProgPrefixUptoSaid : Prop := progPrefixUptoRow.holds Try.pinned (OpenSpec.upto progPrefixSpec)

/-- 'rexmilllaw10.ProgExpands', WHERE WHAT IT READS IS OF BULK AT MOST 1048576: true; the input reads as it did. -/
def progExpandsUptoRow : OpenClaim := { program := "ytpbobopcmhpbbaa", sum := "c6a28d1613c8335746be4d8e6c9f38d1d3ae17eda06f2d885e49b3bfde49c1ca", func := "rexmill/rexmilllaw10.ProgExpands", spec := "progExpands", unfollowed := true, recurses := true, apart := false, narrowed := true }
def ProgExpandsUptoSaid : Prop := progExpandsUptoRow.holds Try.pinned (OpenSpec.upto progExpandsSpec)

/-- 'rexmilllaw10.ProgBytes', WHERE WHAT IT READS IS OF BULK AT MOST 1048576: true; the input reads as it did. -/
def progBytesUptoRow : OpenClaim := { program := "ytpbobopcmhpbbaa", sum := "c6a28d1613c8335746be4d8e6c9f38d1d3ae17eda06f2d885e49b3bfde49c1ca", func := "rexmill/rexmilllaw10.ProgBytes", spec := "progBytes", unfollowed := true, recurses := true, apart := false, narrowed := true }
def ProgBytesUptoSaid : Prop := progBytesUptoRow.holds Try.pinned (OpenSpec.upto progBytesSpec)

/-- 'rexmilllaw10.ProgSets', WHERE WHAT IT READS IS OF BULK AT MOST 1048576: true; the input reads as it did. -/
def progSetsUptoRow : OpenClaim := { program := "ytpbobopcmhpbbaa", sum := "c6a28d1613c8335746be4d8e6c9f38d1d3ae17eda06f2d885e49b3bfde49c1ca", func := "rexmill/rexmilllaw10.ProgSets", spec := "progSets", unfollowed := true, recurses := true, apart := false, narrowed := true }
def ProgSetsUptoSaid : Prop := progSetsUptoRow.holds Try.pinned (OpenSpec.upto progSetsSpec)

end Rows
end Go.Proofs.Ytpbobopcmhpbbaa
