/-
  No cell of these rows narrows 'for every input' (looked for: loops, veiled, ifaces, maps, wideKeys, modest, calm, conditions, laid).
  DERIVED. THE GIVEN ROWS OF THIS SEAT. 6 by the template 'for every input the law returns true; each argument reads behind the call as it read before'; 0 by the template 'total and deterministic' (their statements: YtdklnlnbemogbaaGreatTotals.lean).
  GIVEN WITH THE SEED: the statements are not yours to turn. If you find one false, say at which input.
  Laid BY PROGRAM, IN A SANDBOX (cutbox-rows.mjs): the forced cells as the released guide's own fill.sh prints them over the translation 3e18c90542102aa4… (all of the seat's roots in one cut). By AI agents, Wed Nov 11 2026. No macro, syntax, notation, axiom, sorry.
-/
import Derived.Test.YtdklnlnbemogbaaGreatChecked
import GoSem.Claim
import GoSem.ClaimJoined
import GoSem.ClaimMapViews
import Derived.JoinedTies
import Derived.KernelRfl
namespace Go.Proofs.YtdklnlnbemogbaaGreat
/- THE CELL 'sum', in the pinned program and in every row, IS THE sha256 OF THE DUMP (.gsa) THAT YtdklnlnbemogbaaGreatProg.lean LOADS. Nothing in Lean hashes anything: it is a label: what it is worth is what the hold of that sum in a sandbox is worth. -/
noncomputable def Tryz.pinned : Pinned := { name := "ytdklnlnbemogbaagreat", sum := "3e18c90542102aa492452ddce1ff8525e94d5ce3062bfc9544a7087123b371d7", checked := Tryz.checked }
namespace Rows
def none {H : Type} : Left H := { results := [], args := [] }

/-- 'rexmilllaw16.AutoOf': WHATEVER THE INPUT: true; the input reads as it did. -/
def autoOfSpec : ChangeSpec := { name := "autoOf", fn := fun _ => fun
  | [d1, d2, d3, d4, d5, d6] => { results := [.lit (.bool true)], args := [d1, d2, d3, d4, d5, d6] }
  | _ => none }
def autoOfRow : OpenClaim := { program := "ytdklnlnbemogbaagreat", sum := "3e18c90542102aa492452ddce1ff8525e94d5ce3062bfc9544a7087123b371d7", func := "rexmill/rexmilllaw16.AutoOf", spec := "autoOf", unfollowed := true, recurses := true, plainKeys := false, apart := false }
def AutoOfSaid : Prop := autoOfRow.holds Tryz.pinned (OpenSpec.ofChange autoOfSpec)

/-- ITS FALSE NEIGHBOUR: 'it returns false'. Refute it at one input. -/
def autoOfWrong : ChangeSpec := { name := "autoOf", fn := fun _ => fun
  | [d1, d2, d3, d4, d5, d6] => { results := [.lit (.bool false)], args := [d1, d2, d3, d4, d5, d6] }
  | _ => none }
def AutoOfWrongFalsely : Prop := autoOfRow.holds Tryz.pinned (OpenSpec.ofChange autoOfWrong)

/-- 'rexmilllaw16.AutoCount': WHATEVER THE INPUT: true; the input reads as it did. -/
def autoCountSpec : ChangeSpec := { name := "autoCount", fn := fun _ => fun
  | [d1, d2, d3, d4, d5] => { results := [.lit (.bool true)], args := [d1, d2, d3, d4, d5] }
  | _ => none }
def autoCountRow : OpenClaim := { program := "ytdklnlnbemogbaagreat", sum := "3e18c90542102aa492452ddce1ff8525e94d5ce3062bfc9544a7087123b371d7", func := "rexmill/rexmilllaw16.AutoCount", spec := "autoCount", unfollowed := true, recurses := true, plainKeys := false, apart := false }
def AutoCountSaid : Prop := autoCountRow.holds Tryz.pinned (OpenSpec.ofChange autoCountSpec)

/-- ITS FALSE NEIGHBOUR: 'it returns false'. Refute it at one input. -/
def autoCountWrong : ChangeSpec := { name := "autoCount", fn := fun _ => fun
  | [d1, d2, d3, d4, d5] => { results := [.lit (.bool false)], args := [d1, d2, d3, d4, d5] }
  | _ => none }
def AutoCountWrongFalsely : Prop := autoCountRow.holds Tryz.pinned (OpenSpec.ofChange autoCountWrong)

/-- 'rexmilllaw16.AutoCombines': WHATEVER THE INPUT: true; the input reads as it did. -/
def autoCombinesSpec : ChangeSpec := { name := "autoCombines", fn := fun _ => fun
  | [d1, d2, d3, d4, d5, d6] => { results := [.lit (.bool true)], args := [d1, d2, d3, d4, d5, d6] }
  | _ => none }
def autoCombinesRow : OpenClaim := { program := "ytdklnlnbemogbaagreat", sum := "3e18c90542102aa492452ddce1ff8525e94d5ce3062bfc9544a7087123b371d7", func := "rexmill/rexmilllaw16.AutoCombines", spec := "autoCombines", unfollowed := true, recurses := true, plainKeys := false, apart := false }
def AutoCombinesSaid : Prop := autoCombinesRow.holds Tryz.pinned (OpenSpec.ofChange autoCombinesSpec)

/-- ITS FALSE NEIGHBOUR: 'it returns false'. Refute it at one input. -/
def autoCombinesWrong : ChangeSpec := { name := "autoCombines", fn := fun _ => fun
  | [d1, d2, d3, d4, d5, d6] => { results := [.lit (.bool false)], args := [d1, d2, d3, d4, d5, d6] }
  | _ => none }
def AutoCombinesWrongFalsely : Prop := autoCombinesRow.holds Tryz.pinned (OpenSpec.ofChange autoCombinesWrong)

/-- 'rexmilllaw16.AutoAlgebra': WHATEVER THE INPUT: true; the input reads as it did. -/
def autoAlgebraSpec : ChangeSpec := { name := "autoAlgebra", fn := fun _ => fun
  | [d1, d2, d3] => { results := [.lit (.bool true)], args := [d1, d2, d3] }
  | _ => none }
def autoAlgebraRow : OpenClaim := { program := "ytdklnlnbemogbaagreat", sum := "3e18c90542102aa492452ddce1ff8525e94d5ce3062bfc9544a7087123b371d7", func := "rexmill/rexmilllaw16.AutoAlgebra", spec := "autoAlgebra", unfollowed := true, recurses := true, plainKeys := false, apart := false }
def AutoAlgebraSaid : Prop := autoAlgebraRow.holds Tryz.pinned (OpenSpec.ofChange autoAlgebraSpec)

/-- ITS FALSE NEIGHBOUR: 'it returns false'. Refute it at one input. -/
def autoAlgebraWrong : ChangeSpec := { name := "autoAlgebra", fn := fun _ => fun
  | [d1, d2, d3] => { results := [.lit (.bool false)], args := [d1, d2, d3] }
  | _ => none }
def AutoAlgebraWrongFalsely : Prop := autoAlgebraRow.holds Tryz.pinned (OpenSpec.ofChange autoAlgebraWrong)

/-- 'rexmilllaw16.AutoLeast': WHATEVER THE INPUT: true; the input reads as it did. -/
def autoLeastSpec : ChangeSpec := { name := "autoLeast", fn := fun _ => fun
  | [d1, d2, d3] => { results := [.lit (.bool true)], args := [d1, d2, d3] }
  | _ => none }
def autoLeastRow : OpenClaim := { program := "ytdklnlnbemogbaagreat", sum := "3e18c90542102aa492452ddce1ff8525e94d5ce3062bfc9544a7087123b371d7", func := "rexmill/rexmilllaw16.AutoLeast", spec := "autoLeast", unfollowed := true, recurses := true, plainKeys := false, apart := false }
def AutoLeastSaid : Prop := autoLeastRow.holds Tryz.pinned (OpenSpec.ofChange autoLeastSpec)

/-- ITS FALSE NEIGHBOUR: 'it returns false'. Refute it at one input. -/
def autoLeastWrong : ChangeSpec := { name := "autoLeast", fn := fun _ => fun
  | [d1, d2, d3] => { results := [.lit (.bool false)], args := [d1, d2, d3] }
  | _ => none }
def AutoLeastWrongFalsely : Prop := autoLeastRow.holds Tryz.pinned (OpenSpec.ofChange autoLeastWrong)

/-- 'rexmilllaw16.AutoAccepts': WHATEVER THE INPUT: true; the input reads as it did. -/
def autoAcceptsSpec : ChangeSpec := { name := "autoAccepts", fn := fun _ => fun
  | [d1, d2, d3] => { results := [.lit (.bool true)], args := [d1, d2, d3] }
  | _ => none }
def autoAcceptsRow : OpenClaim := { program := "ytdklnlnbemogbaagreat", sum := "3e18c90542102aa492452ddce1ff8525e94d5ce3062bfc9544a7087123b371d7", func := "rexmill/rexmilllaw16.AutoAccepts", spec := "autoAccepts", unfollowed := true, recurses := true, plainKeys := false, apart := false }
def AutoAcceptsSaid : Prop := autoAcceptsRow.holds Tryz.pinned (OpenSpec.ofChange autoAcceptsSpec)

/-- ITS FALSE NEIGHBOUR: 'it returns false'. Refute it at one input. -/
def autoAcceptsWrong : ChangeSpec := { name := "autoAccepts", fn := fun _ => fun
  | [d1, d2, d3] => { results := [.lit (.bool false)], args := [d1, d2, d3] }
  | _ => none }
def AutoAcceptsWrongFalsely : Prop := autoAcceptsRow.holds Tryz.pinned (OpenSpec.ofChange autoAcceptsWrong)

/- THE SECOND FORM. 'bulk': how many values and letters a reading holds, each counted each time it is reached (what is shared counts as often as it is met; a slice's spare places count too). A statement '..UptoSaid' is the law's where the arguments, and the package variables that the reading takes, are together of bulk at most 1048576: NARROWER than '..Said'. Prove '..Said' where nothing that the law and all that it calls make is longer than what came in: it says more and counts as full. Else prove '..UptoSaid'. A law counts once. -/
mutual
def uptoBulk {H : Type} : DataW H → Nat
  | .lit (.string bytes) => bytes.length + 1
  | .lit _ => 1
  | .nil => 1
  | .ptr d => uptoBulk d + 1
  | .slice elems spare => uptoBulkAll elems + uptoBulkAll spare + 1
  | .agg parts => uptoBulkAll parts + 1
  | .iface _ d => uptoBulk d + 1
  | .map entries => uptoBulkEntries entries + 1
  | .held _ => 1
def uptoBulkAll {H : Type} : List (DataW H) → Nat
  | [] => 0
  | d :: r => uptoBulk d + uptoBulkAll r
def uptoBulkEntries {H : Type} : List (Lit × DataW H) → Nat
  | [] => 0
  | x :: r => uptoBulkEntry x + uptoBulkEntries r
def uptoBulkEntry {H : Type} : Lit × DataW H → Nat
  | (.string bytes, d) => bytes.length + uptoBulk d + 1
  | (_, d) => uptoBulk d + 1
 end
def uptoSmall : (H : Type) → List (DataW H) → Bool := fun _ ds => decide (uptoBulkAll ds ≤ 1048576)
def OpenSpec.upto (s : _root_.Go.ChangeSpec) : _root_.Go.OpenSpec := { _root_.Go.OpenSpec.ofChange s with cond := some uptoSmall }

/-- 'rexmilllaw16.AutoOf', WHERE WHAT IT READS IS OF BULK AT MOST 1048576: true; the input reads as it did. -/
def autoOfUptoRow : OpenClaim := { program := "ytdklnlnbemogbaagreat", sum := "3e18c90542102aa492452ddce1ff8525e94d5ce3062bfc9544a7087123b371d7", func := "rexmill/rexmilllaw16.AutoOf", spec := "autoOf", unfollowed := true, recurses := true, plainKeys := false, apart := false, narrowed := true }
def AutoOfUptoSaid : Prop := autoOfUptoRow.holds Tryz.pinned (OpenSpec.upto autoOfSpec)

/-- 'rexmilllaw16.AutoCount', WHERE WHAT IT READS IS OF BULK AT MOST 1048576: true; the input reads as it did. -/
def autoCountUptoRow : OpenClaim := { program := "ytdklnlnbemogbaagreat", sum := "3e18c90542102aa492452ddce1ff8525e94d5ce3062bfc9544a7087123b371d7", func := "rexmill/rexmilllaw16.AutoCount", spec := "autoCount", unfollowed := true, recurses := true, plainKeys := false, apart := false, narrowed := true }
def AutoCountUptoSaid : Prop := autoCountUptoRow.holds Tryz.pinned (OpenSpec.upto autoCountSpec)

/-- 'rexmilllaw16.AutoCombines', WHERE WHAT IT READS IS OF BULK AT MOST 1048576: true; the input reads as it did. -/
def autoCombinesUptoRow : OpenClaim := { program := "ytdklnlnbemogbaagreat", sum := "3e18c90542102aa492452ddce1ff8525e94d5ce3062bfc9544a7087123b371d7", func := "rexmill/rexmilllaw16.AutoCombines", spec := "autoCombines", unfollowed := true, recurses := true, plainKeys := false, apart := false, narrowed := true }
def AutoCombinesUptoSaid : Prop := autoCombinesUptoRow.holds Tryz.pinned (OpenSpec.upto autoCombinesSpec)

/-- 'rexmilllaw16.AutoAlgebra', WHERE WHAT IT READS IS OF BULK AT MOST 1048576: true; the input reads as it did. -/
def autoAlgebraUptoRow : OpenClaim := { program := "ytdklnlnbemogbaagreat", sum := "3e18c90542102aa492452ddce1ff8525e94d5ce3062bfc9544a7087123b371d7", func := "rexmill/rexmilllaw16.AutoAlgebra", spec := "autoAlgebra", unfollowed := true, recurses := true, plainKeys := false, apart := false, narrowed := true }
def AutoAlgebraUptoSaid : Prop := autoAlgebraUptoRow.holds Tryz.pinned (OpenSpec.upto autoAlgebraSpec)

/-- 'rexmilllaw16.AutoLeast', WHERE WHAT IT READS IS OF BULK AT MOST 1048576: true; the input reads as it did. -/
def autoLeastUptoRow : OpenClaim := { program := "ytdklnlnbemogbaagreat", sum := "3e18c90542102aa492452ddce1ff8525e94d5ce3062bfc9544a7087123b371d7", func := "rexmill/rexmilllaw16.AutoLeast", spec := "autoLeast", unfollowed := true, recurses := true, plainKeys := false, apart := false, narrowed := true }
def AutoLeastUptoSaid : Prop := autoLeastUptoRow.holds Tryz.pinned (OpenSpec.upto autoLeastSpec)

/-- 'rexmilllaw16.AutoAccepts', WHERE WHAT IT READS IS OF BULK AT MOST 1048576: true; the input reads as it did. -/
def autoAcceptsUptoRow : OpenClaim := { program := "ytdklnlnbemogbaagreat", sum := "3e18c90542102aa492452ddce1ff8525e94d5ce3062bfc9544a7087123b371d7", func := "rexmill/rexmilllaw16.AutoAccepts", spec := "autoAccepts", unfollowed := true, recurses := true, plainKeys := false, apart := false, narrowed := true }
def AutoAcceptsUptoSaid : Prop := autoAcceptsUptoRow.holds Tryz.pinned (OpenSpec.upto autoAcceptsSpec)

end Rows
end Go.Proofs.YtdklnlnbemogbaaGreat
