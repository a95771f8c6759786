/-
  No cell of these rows narrows 'for every input' (looked for: loops, veiled, ifaces, maps, wideKeys, modest, calm, conditions, laid).
  DERIVED. THE GIVEN ROWS OF THIS SEAT. 6 by the template 'for every input the law returns true; each argument reads behind the call as it read before'; 0 by the template 'total and deterministic' (their statements: YtmfpcondongbjaaGreatTotals.lean).
  GIVEN WITH THE SEED: the statements are not yours to turn. If you find one false, say at which input.
  Laid BY PROGRAM, IN A SANDBOX (cutbox-rows.mjs): the forced cells as the released guide's own fill.sh prints them over the translation c891470a3ed3f258… (all of the seat's roots in one cut). By AI agents, Wed Nov 11 2026. No macro, syntax, notation, axiom, sorry.
-/
import Derived.Test.YtmfpcondongbjaaGreatChecked
import GoSem.Claim
import GoSem.ClaimJoined
import GoSem.ClaimMapViews
import Derived.JoinedTies
import Derived.KernelRfl
namespace Go.Proofs.YtmfpcondongbjaaGreat
/- THE CELL 'sum', in the pinned program and in every row, IS THE sha256 OF THE DUMP (.gsa) THAT YtmfpcondongbjaaGreatProg.lean LOADS. Nothing in Lean hashes anything: it is a label: what it is worth is what the hold of that sum in a sandbox is worth. -/
noncomputable def Tryz.pinned : Pinned := { name := "ytmfpcondongbjaagreat", sum := "c891470a3ed3f25895c50d3df0d60f39ba7903f2c33eb1f3fd7c3ac2fabc6024", checked := Tryz.checked }
namespace Rows
def none {H : Type} : Left H := { results := [], args := [] }

/-- 'rexmilllaw13.OnepassCompiles': WHATEVER THE INPUT: true; the input reads as it did. -/
def onepassCompilesSpec : ChangeSpec := { name := "onepassCompiles", fn := fun _ => fun
  | [d1, d2, d3, d4] => { results := [.lit (.bool true)], args := [d1, d2, d3, d4] }
  | _ => none }
def onepassCompilesRow : OpenClaim := { program := "ytmfpcondongbjaagreat", sum := "c891470a3ed3f25895c50d3df0d60f39ba7903f2c33eb1f3fd7c3ac2fabc6024", func := "rexmill/rexmilllaw13.OnepassCompiles", spec := "onepassCompiles", unfollowed := true, recurses := true, apart := false }
def OnepassCompilesSaid : Prop := onepassCompilesRow.holds Tryz.pinned (OpenSpec.ofChange onepassCompilesSpec)

/-- ITS FALSE NEIGHBOUR: 'it returns false'. Refute it at one input. -/
def onepassCompilesWrong : ChangeSpec := { name := "onepassCompiles", fn := fun _ => fun
  | [d1, d2, d3, d4] => { results := [.lit (.bool false)], args := [d1, d2, d3, d4] }
  | _ => none }
def OnepassCompilesWrongFalsely : Prop := onepassCompilesRow.holds Tryz.pinned (OpenSpec.ofChange onepassCompilesWrong)

/-- 'rexmilllaw13.OnepassRuns': WHATEVER THE INPUT: true; the input reads as it did. -/
def onepassRunsSpec : ChangeSpec := { name := "onepassRuns", fn := fun _ => fun
  | [d1, d2, d3] => { results := [.lit (.bool true)], args := [d1, d2, d3] }
  | _ => none }
def onepassRunsRow : OpenClaim := { program := "ytmfpcondongbjaagreat", sum := "c891470a3ed3f25895c50d3df0d60f39ba7903f2c33eb1f3fd7c3ac2fabc6024", func := "rexmill/rexmilllaw13.OnepassRuns", spec := "onepassRuns", unfollowed := true, recurses := true, apart := false }
def OnepassRunsSaid : Prop := onepassRunsRow.holds Tryz.pinned (OpenSpec.ofChange onepassRunsSpec)

/-- ITS FALSE NEIGHBOUR: 'it returns false'. Refute it at one input. -/
def onepassRunsWrong : ChangeSpec := { name := "onepassRuns", fn := fun _ => fun
  | [d1, d2, d3] => { results := [.lit (.bool false)], args := [d1, d2, d3] }
  | _ => none }
def OnepassRunsWrongFalsely : Prop := onepassRunsRow.holds Tryz.pinned (OpenSpec.ofChange onepassRunsWrong)

/-- 'rexmilllaw13.OnepassForks': WHATEVER THE INPUT: true; the input reads as it did. -/
def onepassForksSpec : ChangeSpec := { name := "onepassForks", fn := fun _ => fun
  | [d1, d2] => { results := [.lit (.bool true)], args := [d1, d2] }
  | _ => none }
def onepassForksRow : OpenClaim := { program := "ytmfpcondongbjaagreat", sum := "c891470a3ed3f25895c50d3df0d60f39ba7903f2c33eb1f3fd7c3ac2fabc6024", func := "rexmill/rexmilllaw13.OnepassForks", spec := "onepassForks", unfollowed := true, recurses := true, apart := false }
def OnepassForksSaid : Prop := onepassForksRow.holds Tryz.pinned (OpenSpec.ofChange onepassForksSpec)

/-- ITS FALSE NEIGHBOUR: 'it returns false'. Refute it at one input. -/
def onepassForksWrong : ChangeSpec := { name := "onepassForks", fn := fun _ => fun
  | [d1, d2] => { results := [.lit (.bool false)], args := [d1, d2] }
  | _ => none }
def OnepassForksWrongFalsely : Prop := onepassForksRow.holds Tryz.pinned (OpenSpec.ofChange onepassForksWrong)

/-- 'rexmilllaw13.OnepassOthers': WHATEVER THE INPUT: true; the input reads as it did. -/
def onepassOthersSpec : ChangeSpec := { name := "onepassOthers", fn := fun _ => fun
  | [d1, d2, d3, d4] => { results := [.lit (.bool true)], args := [d1, d2, d3, d4] }
  | _ => none }
def onepassOthersRow : OpenClaim := { program := "ytmfpcondongbjaagreat", sum := "c891470a3ed3f25895c50d3df0d60f39ba7903f2c33eb1f3fd7c3ac2fabc6024", func := "rexmill/rexmilllaw13.OnepassOthers", spec := "onepassOthers", unfollowed := true, recurses := true, apart := false }
def OnepassOthersSaid : Prop := onepassOthersRow.holds Tryz.pinned (OpenSpec.ofChange onepassOthersSpec)

/-- ITS FALSE NEIGHBOUR: 'it returns false'. Refute it at one input. -/
def onepassOthersWrong : ChangeSpec := { name := "onepassOthers", fn := fun _ => fun
  | [d1, d2, d3, d4] => { results := [.lit (.bool false)], args := [d1, d2, d3, d4] }
  | _ => none }
def OnepassOthersWrongFalsely : Prop := onepassOthersRow.holds Tryz.pinned (OpenSpec.ofChange onepassOthersWrong)

/-- 'rexmilllaw13.OnepassApart': WHATEVER THE INPUT: true; the input reads as it did. -/
def onepassApartSpec : ChangeSpec := { name := "onepassApart", fn := fun _ => fun
  | [d1, d2] => { results := [.lit (.bool true)], args := [d1, d2] }
  | _ => none }
def onepassApartRow : OpenClaim := { program := "ytmfpcondongbjaagreat", sum := "c891470a3ed3f25895c50d3df0d60f39ba7903f2c33eb1f3fd7c3ac2fabc6024", func := "rexmill/rexmilllaw13.OnepassApart", spec := "onepassApart", unfollowed := true, recurses := true, apart := false }
def OnepassApartSaid : Prop := onepassApartRow.holds Tryz.pinned (OpenSpec.ofChange onepassApartSpec)

/-- ITS FALSE NEIGHBOUR: 'it returns false'. Refute it at one input. -/
def onepassApartWrong : ChangeSpec := { name := "onepassApart", fn := fun _ => fun
  | [d1, d2] => { results := [.lit (.bool false)], args := [d1, d2] }
  | _ => none }
def OnepassApartWrongFalsely : Prop := onepassApartRow.holds Tryz.pinned (OpenSpec.ofChange onepassApartWrong)

/-- 'rexmilllaw13.OnepassMeaning': WHATEVER THE INPUT: true; the input reads as it did. -/
def onepassMeaningSpec : ChangeSpec := { name := "onepassMeaning", fn := fun _ => fun
  | [d1, d2] => { results := [.lit (.bool true)], args := [d1, d2] }
  | _ => none }
def onepassMeaningRow : OpenClaim := { program := "ytmfpcondongbjaagreat", sum := "c891470a3ed3f25895c50d3df0d60f39ba7903f2c33eb1f3fd7c3ac2fabc6024", func := "rexmill/rexmilllaw13.OnepassMeaning", spec := "onepassMeaning", unfollowed := true, recurses := true, apart := false }
def OnepassMeaningSaid : Prop := onepassMeaningRow.holds Tryz.pinned (OpenSpec.ofChange onepassMeaningSpec)

/-- ITS FALSE NEIGHBOUR: 'it returns false'. Refute it at one input. -/
def onepassMeaningWrong : ChangeSpec := { name := "onepassMeaning", fn := fun _ => fun
  | [d1, d2] => { results := [.lit (.bool false)], args := [d1, d2] }
  | _ => none }
def OnepassMeaningWrongFalsely : Prop := onepassMeaningRow.holds Tryz.pinned (OpenSpec.ofChange onepassMeaningWrong)

/- THE SECOND FORM. 'bulk': how many values and letters a reading holds, each counted each time it is reached (what is shared counts as often as it is met; a slice's spare places count too). A statement '..UptoSaid' is the law's where the arguments, and the package variables that the reading takes, are together of bulk at most 1048576: NARROWER than '..Said'. Prove '..Said' where nothing that the law and all that it calls make is longer than what came in: it says more and counts as full. Else prove '..UptoSaid'. A law counts once. -/
mutual
def uptoBulk {H : Type} : DataW H → Nat
  | .lit (.string bytes) => bytes.length + 1
  | .lit _ => 1
  | .nil => 1
  | .ptr d => uptoBulk d + 1
  | .slice elems spare => uptoBulkAll elems + uptoBulkAll spare + 1
  | .agg parts => uptoBulkAll parts + 1
  | .iface _ d => uptoBulk d + 1
  | .map entries => uptoBulkEntries entries + 1
  | .held _ => 1
def uptoBulkAll {H : Type} : List (DataW H) → Nat
  | [] => 0
  | d :: r => uptoBulk d + uptoBulkAll r
def uptoBulkEntries {H : Type} : List (Lit × DataW H) → Nat
  | [] => 0
  | x :: r => uptoBulkEntry x + uptoBulkEntries r
def uptoBulkEntry {H : Type} : Lit × DataW H → Nat
  | (.string bytes, d) => bytes.length + uptoBulk d + 1
  | (_, d) => uptoBulk d + 1
 end
def uptoSmall : (H : Type) → List (DataW H) → Bool := fun _ ds => decide (uptoBulkAll ds ≤ 1048576)
def OpenSpec.upto (s : _root_.Go.ChangeSpec) : _root_.Go.OpenSpec := { _root_.Go.OpenSpec.ofChange s with cond := some uptoSmall }

/-- 'rexmilllaw13.OnepassCompiles', WHERE WHAT IT READS IS OF BULK AT MOST 1048576: true; the input reads as it did. -/
def onepassCompilesUptoRow : OpenClaim := { program := "ytmfpcondongbjaagreat", sum := "c891470a3ed3f25895c50d3df0d60f39ba7903f2c33eb1f3fd7c3ac2fabc6024", func := "rexmill/rexmilllaw13.OnepassCompiles", spec := "onepassCompiles", unfollowed := true, recurses := true, apart := false, narrowed := true }
def OnepassCompilesUptoSaid : Prop := onepassCompilesUptoRow.holds Tryz.pinned (OpenSpec.upto onepassCompilesSpec)

/-- 'rexmilllaw13.OnepassRuns', WHERE WHAT IT READS IS OF BULK AT MOST 1048576: true; the input reads as it did. -/
def onepassRunsUptoRow : OpenClaim := { program := "ytmfpcondongbjaagreat", sum := "c891470a3ed3f25895c50d3df0d60f39ba7903f2c33eb1f3fd7c3ac2fabc6024", func := "rexmill/rexmilllaw13.OnepassRuns", spec := "onepassRuns", unfollowed := true, recurses := true, apart := false, narrowed := true }
def OnepassRunsUptoSaid : Prop := onepassRunsUptoRow.holds Tryz.pinned (OpenSpec.upto onepassRunsSpec)

/-- 'rexmilllaw13.OnepassForks', WHERE WHAT IT READS IS OF BULK AT MOST 1048576: true; the input reads as it did. -/
def onepassForksUptoRow : OpenClaim := { program := "ytmfpcondongbjaagreat", sum := "c891470a3ed3f25895c50d3df0d60f39ba7903f2c33eb1f3fd7c3ac2fabc6024", func := "rexmill/rexmilllaw13.OnepassForks", spec := "onepassForks", unfollowed := true, recurses := true, apart := false, narrowed := true }
def OnepassForksUptoSaid : Prop := onepassForksUptoRow.holds Tryz.pinned (OpenSpec.upto onepassForksSpec)

/-- 'rexmilllaw13.OnepassOthers', WHERE WHAT IT READS IS OF BULK AT MOST 1048576: true; the input reads as it did. -/
def onepassOthersUptoRow : OpenClaim := { program := "ytmfpcondongbjaagreat", sum := "c891470a3ed3f25895c50d3df0d60f39ba7903f2c33eb1f3fd7c3ac2fabc6024", func := "rexmill/rexmilllaw13.OnepassOthers", spec := "onepassOthers", unfollowed := true, recurses := true, apart := false, narrowed := true }
def OnepassOthersUptoSaid : Prop := onepassOthersUptoRow.holds Tryz.pinned (OpenSpec.upto onepassOthersSpec)

/-- 'rexmilllaw13.OnepassApart', WHERE WHAT IT READS IS OF BULK AT MOST 1048576: true; the input reads as it did. -/
def onepassApartUptoRow : OpenClaim := { program := "ytmfpcondongbjaagreat", sum := "c891470a3ed3f25895c50d3df0d60f39ba7903f2c33eb1f3fd7c3ac2fabc6024", func := "rexmill/rexmilllaw13.OnepassApart", spec := "onepassApart", unfollowed := true, recurses := true, apart := false, narrowed := true }
def OnepassApartUptoSaid : Prop := onepassApartUptoRow.holds Tryz.pinned (OpenSpec.upto onepassApartSpec)

/-- 'rexmilllaw13.OnepassMeaning', WHERE WHAT IT READS IS OF BULK AT MOST 1048576: true; the input reads as it did. -/
def onepassMeaningUptoRow : OpenClaim := { program := "ytmfpcondongbjaagreat", sum := "c891470a3ed3f25895c50d3df0d60f39ba7903f2c33eb1f3fd7c3ac2fabc6024", func := "rexmill/rexmilllaw13.OnepassMeaning", spec := "onepassMeaning", unfollowed := true, recurses := true, apart := false, narrowed := true }
def OnepassMeaningUptoSaid : Prop := onepassMeaningUptoRow.holds Tryz.pinned (OpenSpec.upto onepassMeaningSpec)

end Rows
end Go.Proofs.YtmfpcondongbjaaGreat
