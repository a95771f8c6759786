/-
  No cell of these rows narrows 'for every input' (looked for: loops, veiled, ifaces, maps, wideKeys, modest, calm, conditions, laid).
  DERIVED. THE GIVEN ROWS OF THIS SEAT. 3 by the template 'for every input the law returns true; each argument reads behind the call as it read before'; 0 by the template 'total and deterministic' (their statements: YtkolcijbdendhaaGreatTotals.lean).
  GIVEN WITH THE SEED: the statements are not yours to turn. If you find one false, say at which input.
  Laid BY PROGRAM, IN A SANDBOX (cutbox-rows.mjs): the forced cells as the released guide's own fill.sh prints them over the translation 86756b9ba36fc166… (all of the seat's roots in one cut). By AI agents, Wed Nov 11 2026. No macro, syntax, notation, axiom, sorry.
-/
import Derived.Test.YtkolcijbdendhaaGreatChecked
import GoSem.Claim
import GoSem.ClaimJoined
import GoSem.ClaimMapViews
import Derived.JoinedTies
import Derived.KernelRfl
namespace Go.Proofs.YtkolcijbdendhaaGreat
/- THE CELL 'sum', in the pinned program and in every row, IS THE sha256 OF THE DUMP (.gsa) THAT YtkolcijbdendhaaGreatProg.lean LOADS. Nothing in Lean hashes anything: it is a label: what it is worth is what the hold of that sum in a sandbox is worth. -/
noncomputable def Tryz.pinned : Pinned := { name := "ytkolcijbdendhaagreat", sum := "86756b9ba36fc166d827a4921f783116678a66d84a4d22080a54c6b438db0737", checked := Tryz.checked }
namespace Rows
def none {H : Type} : Left H := { results := [], args := [] }

/-- 'rexmilllaw17.DerivAuto': WHATEVER THE INPUT: true; the input reads as it did. -/
def derivAutoSpec : ChangeSpec := { name := "derivAuto", fn := fun _ => fun
  | [d1, d2, d3] => { results := [.lit (.bool true)], args := [d1, d2, d3] }
  | _ => none }
def derivAutoRow : OpenClaim := { program := "ytkolcijbdendhaagreat", sum := "86756b9ba36fc166d827a4921f783116678a66d84a4d22080a54c6b438db0737", func := "rexmill/rexmilllaw17.DerivAuto", spec := "derivAuto", unfollowed := true, recurses := true, plainKeys := false, apart := false }
def DerivAutoSaid : Prop := derivAutoRow.holds Tryz.pinned (OpenSpec.ofChange derivAutoSpec)

/-- ITS FALSE NEIGHBOUR: 'it returns false'. Refute it at one input. -/
def derivAutoWrong : ChangeSpec := { name := "derivAuto", fn := fun _ => fun
  | [d1, d2, d3] => { results := [.lit (.bool false)], args := [d1, d2, d3] }
  | _ => none }
def DerivAutoWrongFalsely : Prop := derivAutoRow.holds Tryz.pinned (OpenSpec.ofChange derivAutoWrong)

/-- 'rexmilllaw17.DerivWhole': WHATEVER THE INPUT: true; the input reads as it did. -/
def derivWholeSpec : ChangeSpec := { name := "derivWhole", fn := fun _ => fun
  | [d1, d2, d3, d4] => { results := [.lit (.bool true)], args := [d1, d2, d3, d4] }
  | _ => none }
def derivWholeRow : OpenClaim := { program := "ytkolcijbdendhaagreat", sum := "86756b9ba36fc166d827a4921f783116678a66d84a4d22080a54c6b438db0737", func := "rexmill/rexmilllaw17.DerivWhole", spec := "derivWhole", unfollowed := true, recurses := true, plainKeys := false, apart := false }
def DerivWholeSaid : Prop := derivWholeRow.holds Tryz.pinned (OpenSpec.ofChange derivWholeSpec)

/-- ITS FALSE NEIGHBOUR: 'it returns false'. Refute it at one input. -/
def derivWholeWrong : ChangeSpec := { name := "derivWhole", fn := fun _ => fun
  | [d1, d2, d3, d4] => { results := [.lit (.bool false)], args := [d1, d2, d3, d4] }
  | _ => none }
def DerivWholeWrongFalsely : Prop := derivWholeRow.holds Tryz.pinned (OpenSpec.ofChange derivWholeWrong)

/-- 'rexmilllaw17.DerivRest': WHATEVER THE INPUT: true; the input reads as it did. -/
def derivRestSpec : ChangeSpec := { name := "derivRest", fn := fun _ => fun
  | [d1, d2] => { results := [.lit (.bool true)], args := [d1, d2] }
  | _ => none }
def derivRestRow : OpenClaim := { program := "ytkolcijbdendhaagreat", sum := "86756b9ba36fc166d827a4921f783116678a66d84a4d22080a54c6b438db0737", func := "rexmill/rexmilllaw17.DerivRest", spec := "derivRest", unfollowed := true, recurses := true, plainKeys := false, apart := false }
def DerivRestSaid : Prop := derivRestRow.holds Tryz.pinned (OpenSpec.ofChange derivRestSpec)

/-- ITS FALSE NEIGHBOUR: 'it returns false'. Refute it at one input. -/
def derivRestWrong : ChangeSpec := { name := "derivRest", fn := fun _ => fun
  | [d1, d2] => { results := [.lit (.bool false)], args := [d1, d2] }
  | _ => none }
def DerivRestWrongFalsely : Prop := derivRestRow.holds Tryz.pinned (OpenSpec.ofChange derivRestWrong)

/- THE SECOND FORM. 'bulk': how many values and letters a reading holds, each counted each time it is reached (what is shared counts as often as it is met; a slice's spare places count too). A statement '..UptoSaid' is the law's where the arguments, and the package variables that the reading takes, are together of bulk at most 1048576: NARROWER than '..Said'. Prove '..Said' where nothing that the law and all that it calls make is longer than what came in: it says more and counts as full. Else prove '..UptoSaid'. A law counts once. -/
mutual
def uptoBulk {H : Type} : DataW H → Nat
  | .lit (.string bytes) => bytes.length + 1
  | .lit _ => 1
  | .nil => 1
  | .ptr d => uptoBulk d + 1
  | .slice elems spare => uptoBulkAll elems + uptoBulkAll spare + 1
  | .agg parts => uptoBulkAll parts + 1
  | .iface _ d => uptoBulk d + 1
  | .map entries => uptoBulkEntries entries + 1
  | .held _ => 1
def uptoBulkAll {H : Type} : List (DataW H) → Nat
  | [] => 0
  | d :: r => uptoBulk d + uptoBulkAll r
def uptoBulkEntries {H : Type} : List (Lit × DataW H) → Nat
  | [] => 0
  | x :: r => uptoBulkEntry x + uptoBulkEntries r
def uptoBulkEntry {H : Type} : Lit × DataW H → Nat
  | (.string bytes, d) => bytes.length + uptoBulk d + 1
  | (_, d) => uptoBulk d + 1
 end
def uptoSmall : (H : Type) → List (DataW H) → Bool := fun _ ds => decide (uptoBulkAll ds ≤ 1048576)
def OpenSpec.upto (s : _root_.Go.ChangeSpec) : _root_.Go.OpenSpec := { _root_.Go.OpenSpec.ofChange s with cond := some uptoSmall }

/-- 'rexmilllaw17.DerivAuto', WHERE WHAT IT READS IS OF BULK AT MOST 1048576: true; the input reads as it did. -/
def derivAutoUptoRow : OpenClaim := { program := "ytkolcijbdendhaagreat", sum := "86756b9ba36fc166d827a4921f783116678a66d84a4d22080a54c6b438db0737", func := "rexmill/rexmilllaw17.DerivAuto", spec := "derivAuto", unfollowed := true, recurses := true, plainKeys := false, apart := false, narrowed := true }
def DerivAutoUptoSaid : Prop := derivAutoUptoRow.holds Tryz.pinned (OpenSpec.upto derivAutoSpec)

/-- 'rexmilllaw17.DerivWhole', WHERE WHAT IT READS IS OF BULK AT MOST 1048576: true; the input reads as it did. -/
def derivWholeUptoRow : OpenClaim := { program := "ytkolcijbdendhaagreat", sum := "86756b9ba36fc166d827a4921f783116678a66d84a4d22080a54c6b438db0737", func := "rexmill/rexmilllaw17.DerivWhole", spec := "derivWhole", unfollowed := true, recurses := true, plainKeys := false, apart := false, narrowed := true }
def DerivWholeUptoSaid : Prop := derivWholeUptoRow.holds Tryz.pinned (OpenSpec.upto derivWholeSpec)

/-- 'rexmilllaw17.DerivRest', WHERE WHAT IT READS IS OF BULK AT MOST 1048576: true; the input reads as it did. -/
def derivRestUptoRow : OpenClaim := { program := "ytkolcijbdendhaagreat", sum := "86756b9ba36fc166d827a4921f783116678a66d84a4d22080a54c6b438db0737", func := "rexmill/rexmilllaw17.DerivRest", spec := "derivRest", unfollowed := true, recurses := true, plainKeys := false, apart := false, narrowed := true }
def DerivRestUptoSaid : Prop := derivRestUptoRow.holds Tryz.pinned (OpenSpec.upto derivRestSpec)

end Rows
end Go.Proofs.YtkolcijbdendhaaGreat
