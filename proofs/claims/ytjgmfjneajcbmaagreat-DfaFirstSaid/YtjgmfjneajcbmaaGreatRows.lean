/-
  No cell of these rows narrows 'for every input' (looked for: loops, veiled, ifaces, maps, wideKeys, modest, calm, conditions, laid).
  DERIVED. THE GIVEN ROWS OF THIS SEAT. 4 by the template 'for every input the law returns true; each argument reads behind the call as it read before'; 0 by the template 'total and deterministic' (their statements: YtjgmfjneajcbmaaGreatTotals.lean).
  GIVEN WITH THE SEED: the statements are not yours to turn. If you find one false, say at which input.
  Laid BY PROGRAM, IN A SANDBOX (cutbox-rows.mjs): the forced cells as the released guide's own fill.sh prints them over the translation a351a165f977b7b4… (all of the seat's roots in one cut). By AI agents, Wed Nov 11 2026. No macro, syntax, notation, axiom, sorry.
-/
import Derived.Test.YtjgmfjneajcbmaaGreatChecked
import GoSem.Claim
import GoSem.ClaimJoined
import GoSem.ClaimMapViews
import Derived.JoinedTies
import Derived.KernelRfl
namespace Go.Proofs.YtjgmfjneajcbmaaGreat
/- THE CELL 'sum', in the pinned program and in every row, IS THE sha256 OF THE DUMP (.gsa) THAT YtjgmfjneajcbmaaGreatProg.lean LOADS. Nothing in Lean hashes anything: it is a label: what it is worth is what the hold of that sum in a sandbox is worth. -/
noncomputable def Tryz.pinned : Pinned := { name := "ytjgmfjneajcbmaagreat", sum := "a351a165f977b7b4cc38dce30343281752f9b88368026b5b1d1ec50600ad92ad", checked := Tryz.checked }
namespace Rows
def none {H : Type} : Left H := { results := [], args := [] }

/-- 'rexmilllaw12.DfaFull': WHATEVER THE INPUT: true; the input reads as it did. -/
def dfaFullSpec : ChangeSpec := { name := "dfaFull", fn := fun _ => fun
  | [d1, d2, d3, d4, d5, d6] => { results := [.lit (.bool true)], args := [d1, d2, d3, d4, d5, d6] }
  | _ => none }
def dfaFullRow : OpenClaim := { program := "ytjgmfjneajcbmaagreat", sum := "a351a165f977b7b4cc38dce30343281752f9b88368026b5b1d1ec50600ad92ad", func := "rexmill/rexmilllaw12.DfaFull", spec := "dfaFull", unfollowed := true, recurses := true, plainKeys := false, apart := false }
def DfaFullSaid : Prop := dfaFullRow.holds Tryz.pinned (OpenSpec.ofChange dfaFullSpec)

/-- ITS FALSE NEIGHBOUR: 'it returns false'. Refute it at one input. -/
def dfaFullWrong : ChangeSpec := { name := "dfaFull", fn := fun _ => fun
  | [d1, d2, d3, d4, d5, d6] => { results := [.lit (.bool false)], args := [d1, d2, d3, d4, d5, d6] }
  | _ => none }
def DfaFullWrongFalsely : Prop := dfaFullRow.holds Tryz.pinned (OpenSpec.ofChange dfaFullWrong)

/-- 'rexmilllaw12.DfaRuns': WHATEVER THE INPUT: true; the input reads as it did. -/
def dfaRunsSpec : ChangeSpec := { name := "dfaRuns", fn := fun _ => fun
  | [d1, d2, d3, d4, d5] => { results := [.lit (.bool true)], args := [d1, d2, d3, d4, d5] }
  | _ => none }
def dfaRunsRow : OpenClaim := { program := "ytjgmfjneajcbmaagreat", sum := "a351a165f977b7b4cc38dce30343281752f9b88368026b5b1d1ec50600ad92ad", func := "rexmill/rexmilllaw12.DfaRuns", spec := "dfaRuns", unfollowed := true, recurses := true, plainKeys := false, apart := false }
def DfaRunsSaid : Prop := dfaRunsRow.holds Tryz.pinned (OpenSpec.ofChange dfaRunsSpec)

/-- ITS FALSE NEIGHBOUR: 'it returns false'. Refute it at one input. -/
def dfaRunsWrong : ChangeSpec := { name := "dfaRuns", fn := fun _ => fun
  | [d1, d2, d3, d4, d5] => { results := [.lit (.bool false)], args := [d1, d2, d3, d4, d5] }
  | _ => none }
def DfaRunsWrongFalsely : Prop := dfaRunsRow.holds Tryz.pinned (OpenSpec.ofChange dfaRunsWrong)

/-- 'rexmilllaw12.DfaCaches': WHATEVER THE INPUT: true; the input reads as it did. -/
def dfaCachesSpec : ChangeSpec := { name := "dfaCaches", fn := fun _ => fun
  | [d1, d2, d3, d4] => { results := [.lit (.bool true)], args := [d1, d2, d3, d4] }
  | _ => none }
def dfaCachesRow : OpenClaim := { program := "ytjgmfjneajcbmaagreat", sum := "a351a165f977b7b4cc38dce30343281752f9b88368026b5b1d1ec50600ad92ad", func := "rexmill/rexmilllaw12.DfaCaches", spec := "dfaCaches", unfollowed := true, recurses := true, plainKeys := false, apart := false }
def DfaCachesSaid : Prop := dfaCachesRow.holds Tryz.pinned (OpenSpec.ofChange dfaCachesSpec)

/-- ITS FALSE NEIGHBOUR: 'it returns false'. Refute it at one input. -/
def dfaCachesWrong : ChangeSpec := { name := "dfaCaches", fn := fun _ => fun
  | [d1, d2, d3, d4] => { results := [.lit (.bool false)], args := [d1, d2, d3, d4] }
  | _ => none }
def DfaCachesWrongFalsely : Prop := dfaCachesRow.holds Tryz.pinned (OpenSpec.ofChange dfaCachesWrong)

/-- 'rexmilllaw12.DfaFirst': WHATEVER THE INPUT: true; the input reads as it did. -/
def dfaFirstSpec : ChangeSpec := { name := "dfaFirst", fn := fun _ => fun
  | [d1, d2, d3] => { results := [.lit (.bool true)], args := [d1, d2, d3] }
  | _ => none }
def dfaFirstRow : OpenClaim := { program := "ytjgmfjneajcbmaagreat", sum := "a351a165f977b7b4cc38dce30343281752f9b88368026b5b1d1ec50600ad92ad", func := "rexmill/rexmilllaw12.DfaFirst", spec := "dfaFirst", unfollowed := true, recurses := true, plainKeys := false, apart := false }
def DfaFirstSaid : Prop := dfaFirstRow.holds Tryz.pinned (OpenSpec.ofChange dfaFirstSpec)

/-- ITS FALSE NEIGHBOUR: 'it returns false'. Refute it at one input. -/
def dfaFirstWrong : ChangeSpec := { name := "dfaFirst", fn := fun _ => fun
  | [d1, d2, d3] => { results := [.lit (.bool false)], args := [d1, d2, d3] }
  | _ => none }
def DfaFirstWrongFalsely : Prop := dfaFirstRow.holds Tryz.pinned (OpenSpec.ofChange dfaFirstWrong)

/- THE SECOND FORM. 'bulk': how many values and letters a reading holds, each counted each time it is reached (what is shared counts as often as it is met; a slice's spare places count too). A statement '..UptoSaid' is the law's where the arguments, and the package variables that the reading takes, are together of bulk at most 1048576: NARROWER than '..Said'. Prove '..Said' where nothing that the law and all that it calls make is longer than what came in: it says more and counts as full. Else prove '..UptoSaid'. A law counts once. -/
mutual
def uptoBulk {H : Type} : DataW H → Nat
  | .lit (.string bytes) => bytes.length + 1
  | .lit _ => 1
  | .nil => 1
  | .ptr d => uptoBulk d + 1
  | .slice elems spare => uptoBulkAll elems + uptoBulkAll spare + 1
  | .agg parts => uptoBulkAll parts + 1
  | .iface _ d => uptoBulk d + 1
  | .map entries => uptoBulkEntries entries + 1
  | .held _ => 1
def uptoBulkAll {H : Type} : List (DataW H) → Nat
  | [] => 0
  | d :: r => uptoBulk d + uptoBulkAll r
def uptoBulkEntries {H : Type} : List (Lit × DataW H) → Nat
  | [] => 0
  | x :: r => uptoBulkEntry x + uptoBulkEntries r
def uptoBulkEntry {H : Type} : Lit × DataW H → Nat
  | (.string bytes, d) => bytes.length + uptoBulk d + 1
  | (_, d) => uptoBulk d + 1
 end
def uptoSmall : (H : Type) → List (DataW H) → Bool := fun _ ds => decide (uptoBulkAll ds ≤ 1048576)
def OpenSpec.upto (s : _root_.Go.ChangeSpec) : _root_.Go.OpenSpec := { _root_.Go.OpenSpec.ofChange s with cond := some uptoSmall }

/-- 'rexmilllaw12.DfaFull', WHERE WHAT IT READS IS OF BULK AT MOST 1048576: true; the input reads as it did. -/
def dfaFullUptoRow : OpenClaim := { program := "ytjgmfjneajcbmaagreat", sum := "a351a165f977b7b4cc38dce30343281752f9b88368026b5b1d1ec50600ad92ad", func := "rexmill/rexmilllaw12.DfaFull", spec := "dfaFull", unfollowed := true, recurses := true, plainKeys := false, apart := false, narrowed := true }
def DfaFullUptoSaid : Prop := dfaFullUptoRow.holds Tryz.pinned (OpenSpec.upto dfaFullSpec)

/-- 'rexmilllaw12.DfaRuns', WHERE WHAT IT READS IS OF BULK AT MOST 1048576: true; the input reads as it did. -/
def dfaRunsUptoRow : OpenClaim := { program := "ytjgmfjneajcbmaagreat", sum := "a351a165f977b7b4cc38dce30343281752f9b88368026b5b1d1ec50600ad92ad", func := "rexmill/rexmilllaw12.DfaRuns", spec := "dfaRuns", unfollowed := true, recurses := true, plainKeys := false, apart := false, narrowed := true }
def DfaRunsUptoSaid : Prop := dfaRunsUptoRow.holds Tryz.pinned (OpenSpec.upto dfaRunsSpec)

/-- 'rexmilllaw12.DfaCaches', WHERE WHAT IT READS IS OF BULK AT MOST 1048576: true; the input reads as it did. -/
def dfaCachesUptoRow : OpenClaim := { program := "ytjgmfjneajcbmaagreat", sum := "a351a165f977b7b4cc38dce30343281752f9b88368026b5b1d1ec50600ad92ad", func := "rexmill/rexmilllaw12.DfaCaches", spec := "dfaCaches", unfollowed := true, recurses := true, plainKeys := false, apart := false, narrowed := true }
def DfaCachesUptoSaid : Prop := dfaCachesUptoRow.holds Tryz.pinned (OpenSpec.upto dfaCachesSpec)

/-- 'rexmilllaw12.DfaFirst', WHERE WHAT IT READS IS OF BULK AT MOST 1048576: true; the input reads as it did. -/
def dfaFirstUptoRow : OpenClaim := { program := "ytjgmfjneajcbmaagreat", sum := "a351a165f977b7b4cc38dce30343281752f9b88368026b5b1d1ec50600ad92ad", func := "rexmill/rexmilllaw12.DfaFirst", spec := "dfaFirst", unfollowed := true, recurses := true, plainKeys := false, apart := false, narrowed := true }
def DfaFirstUptoSaid : Prop := dfaFirstUptoRow.holds Tryz.pinned (OpenSpec.upto dfaFirstSpec)

end Rows
end Go.Proofs.YtjgmfjneajcbmaaGreat
