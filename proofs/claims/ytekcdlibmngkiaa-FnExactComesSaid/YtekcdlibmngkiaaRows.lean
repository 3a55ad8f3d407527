/-
  No cell of these rows narrows 'for every input' (looked for: loops, veiled, ifaces, maps, wideKeys, modest, calm, conditions, laid).
  DERIVED. THE GIVEN ROWS OF THIS SEAT. 4 by the template 'for every input the law returns true; each argument reads behind the call as it read before'; 0 by the template 'total and deterministic' (their statements: YtekcdlibmngkiaaTotals.lean).
  GIVEN WITH THE SEED: the statements are not yours to turn. If you find one false, say at which input.
  Laid BY PROGRAM, IN A SANDBOX (cutbox-rows.mjs): the forced cells as the released guide's own fill.sh prints them over the translation b2a604e9608acb20… (all of the seat's roots in one cut). By AI agents, Wed Nov 11 2026. No macro, syntax, notation, axiom, sorry.
-/
import Derived.Test.YtekcdlibmngkiaaChecked
import GoSem.Claim
import GoSem.ClaimJoined
import GoSem.ClaimMapViews
import Derived.JoinedTies
import Derived.KernelRfl
namespace Go.Proofs.Ytekcdlibmngkiaa
/- THE CELL 'sum', in the pinned program and in every row, IS THE sha256 OF THE DUMP (.gsa) THAT YtekcdlibmngkiaaProg.lean LOADS. Nothing in Lean hashes anything: it is a label: what it is worth is what the hold of that sum in a sandbox is worth. -/
noncomputable def Try.pinned : Pinned := { name := "ytekcdlibmngkiaa", sum := "b2a604e9608acb20e3ddf258efc85897fc3c236bb5c9cf46ab986f92db913354", checked := Try.checked }
namespace Rows
def none {H : Type} : Left H := { results := [], args := [] }

/-- 'laws.FnExactComes': WHATEVER THE INPUT: true; the input reads as it did. -/
def fnExactComesSpec : ChangeSpec := { name := "fnExactComes", fn := fun _ => fun
  | [d1, d2, d3] => { results := [.lit (.bool true)], args := [d1, d2, d3] }
  | _ => none }
def fnExactComesRow : OpenClaim := { program := "ytekcdlibmngkiaa", sum := "b2a604e9608acb20e3ddf258efc85897fc3c236bb5c9cf46ab986f92db913354", func := "loop.example/g00370/laws.FnExactComes", spec := "fnExactComes", inPlace := ["internal/abi.NoEscape", "internal/bytealg.MakeNoZero"], unfollowed := true, recurses := true, apart := false }
def FnExactComesSaid : Prop := fnExactComesRow.holds Try.pinned (OpenSpec.ofChange fnExactComesSpec)

/-- ITS FALSE NEIGHBOUR: 'it returns false'. Refute it at one input. -/
def fnExactComesWrong : ChangeSpec := { name := "fnExactComes", fn := fun _ => fun
  | [d1, d2, d3] => { results := [.lit (.bool false)], args := [d1, d2, d3] }
  | _ => none }
def FnExactComesWrongFalsely : Prop := fnExactComesRow.holds Try.pinned (OpenSpec.ofChange fnExactComesWrong)

/-- 'laws.FnExactPathTo': WHATEVER THE INPUT: true; the input reads as it did. -/
def fnExactPathToSpec : ChangeSpec := { name := "fnExactPathTo", fn := fun _ => fun
  | [d1, d2] => { results := [.lit (.bool true)], args := [d1, d2] }
  | _ => none }
def fnExactPathToRow : OpenClaim := { program := "ytekcdlibmngkiaa", sum := "b2a604e9608acb20e3ddf258efc85897fc3c236bb5c9cf46ab986f92db913354", func := "loop.example/g00370/laws.FnExactPathTo", spec := "fnExactPathTo", inPlace := ["internal/abi.NoEscape", "internal/bytealg.MakeNoZero"], unfollowed := true, recurses := true, apart := false }
def FnExactPathToSaid : Prop := fnExactPathToRow.holds Try.pinned (OpenSpec.ofChange fnExactPathToSpec)

/-- ITS FALSE NEIGHBOUR: 'it returns false'. Refute it at one input. -/
def fnExactPathToWrong : ChangeSpec := { name := "fnExactPathTo", fn := fun _ => fun
  | [d1, d2] => { results := [.lit (.bool false)], args := [d1, d2] }
  | _ => none }
def FnExactPathToWrongFalsely : Prop := fnExactPathToRow.holds Try.pinned (OpenSpec.ofChange fnExactPathToWrong)

/-- 'laws.FnExactScopeAt': WHATEVER THE INPUT: true; the input reads as it did. -/
def fnExactScopeAtSpec : ChangeSpec := { name := "fnExactScopeAt", fn := fun _ => fun
  | [d1, d2] => { results := [.lit (.bool true)], args := [d1, d2] }
  | _ => none }
def fnExactScopeAtRow : OpenClaim := { program := "ytekcdlibmngkiaa", sum := "b2a604e9608acb20e3ddf258efc85897fc3c236bb5c9cf46ab986f92db913354", func := "loop.example/g00370/laws.FnExactScopeAt", spec := "fnExactScopeAt", inPlace := ["internal/abi.NoEscape", "internal/bytealg.MakeNoZero"], unfollowed := true, recurses := true, apart := false }
def FnExactScopeAtSaid : Prop := fnExactScopeAtRow.holds Try.pinned (OpenSpec.ofChange fnExactScopeAtSpec)

/-- ITS FALSE NEIGHBOUR: 'it returns false'. Refute it at one input. -/
def fnExactScopeAtWrong : ChangeSpec := { name := "fnExactScopeAt", fn := fun _ => fun
  | [d1, d2] => { results := [.lit (.bool false)], args := [d1, d2] }
  | _ => none }
def FnExactScopeAtWrongFalsely : Prop := fnExactScopeAtRow.holds Try.pinned (OpenSpec.ofChange fnExactScopeAtWrong)

/-- 'laws.FnExactCallsOf': WHATEVER THE INPUT: true; the input reads as it did. -/
def fnExactCallsOfSpec : ChangeSpec := { name := "fnExactCallsOf", fn := fun _ => fun
  | [d1, d2] => { results := [.lit (.bool true)], args := [d1, d2] }
  | _ => none }
def fnExactCallsOfRow : OpenClaim := { program := "ytekcdlibmngkiaa", sum := "b2a604e9608acb20e3ddf258efc85897fc3c236bb5c9cf46ab986f92db913354", func := "loop.example/g00370/laws.FnExactCallsOf", spec := "fnExactCallsOf", inPlace := ["internal/abi.NoEscape", "internal/bytealg.MakeNoZero"], unfollowed := true, recurses := true, apart := false }
def FnExactCallsOfSaid : Prop := fnExactCallsOfRow.holds Try.pinned (OpenSpec.ofChange fnExactCallsOfSpec)

/-- ITS FALSE NEIGHBOUR: 'it returns false'. Refute it at one input. -/
def fnExactCallsOfWrong : ChangeSpec := { name := "fnExactCallsOf", fn := fun _ => fun
  | [d1, d2] => { results := [.lit (.bool false)], args := [d1, d2] }
  | _ => none }
def FnExactCallsOfWrongFalsely : Prop := fnExactCallsOfRow.holds Try.pinned (OpenSpec.ofChange fnExactCallsOfWrong)

/- THE SECOND FORM. 'bulk': how many values and letters a reading holds, each counted each time it is reached (what is shared counts as often as it is met; a slice's spare places count too). A statement '..UptoSaid' is the law's where the arguments, and the package variables that the reading takes, are together of bulk at most 1048576: NARROWER than '..Said'. Prove '..Said' where nothing that the law and all that it calls make is longer than what came in: it says more and counts as full. Else prove '..UptoSaid'. A law counts once. -/
mutual
def uptoBulk {H : Type} : DataW H → Nat
  | .lit (.string bytes) => bytes.length + 1
  | .lit _ => 1
  | .nil => 1
  | .ptr d => uptoBulk d + 1
  | .slice elems spare => uptoBulkAll elems + uptoBulkAll spare + 1
  | .agg parts => uptoBulkAll parts + 1
  | .iface _ d => uptoBulk d + 1
  | .map entries => uptoBulkEntries entries + 1
  | .held _ => 1
def uptoBulkAll {H : Type} : List (DataW H) → Nat
  | [] => 0
  | d :: r => uptoBulk d + uptoBulkAll r
def uptoBulkEntries {H : Type} : List (Lit × DataW H) → Nat
  | [] => 0
  | x :: r => uptoBulkEntry x + uptoBulkEntries r
def uptoBulkEntry {H : Type} : Lit × DataW H → Nat
  | (.string bytes, d) => bytes.length + uptoBulk d + 1
  | (_, d) => uptoBulk d + 1
 end
def uptoSmall : (H : Type) → List (DataW H) → Bool := fun _ ds => decide (uptoBulkAll ds ≤ 1048576)
def OpenSpec.upto (s : _root_.Go.ChangeSpec) : _root_.Go.OpenSpec := { _root_.Go.OpenSpec.ofChange s with cond := some uptoSmall }

/-- 'laws.FnExactComes', WHERE WHAT IT READS IS OF BULK AT MOST 1048576: true; the input reads as it did. -/
def fnExactComesUptoRow : OpenClaim := { program := "ytekcdlibmngkiaa", sum := "b2a604e9608acb20e3ddf258efc85897fc3c236bb5c9cf46ab986f92db913354", func := "loop.example/g00370/laws.FnExactComes", spec := "fnExactComes", inPlace := ["internal/abi.NoEscape", "internal/bytealg.MakeNoZero"], unfollowed := true, recurses := true, apart := false, narrowed := true }
def FnExactComesUptoSaid : Prop := fnExactComesUptoRow.holds Try.pinned (OpenSpec.upto fnExactComesSpec)

/-- 'laws.FnExactPathTo', WHERE WHAT IT READS IS OF BULK AT MOST 1048576: true; the input reads as it did. -/
def fnExactPathToUptoRow : OpenClaim := { program := "ytekcdlibmngkiaa", sum := "b2a604e9608acb20e3ddf258efc85897fc3c236bb5c9cf46ab986f92db913354", func := "loop.example/g00370/laws.FnExactPathTo", spec := "fnExactPathTo", inPlace := ["internal/abi.NoEscape", "internal/bytealg.MakeNoZero"], unfollowed := true, recurses := true, apart := false, narrowed := true }
def FnExactPathToUptoSaid : Prop := fnExactPathToUptoRow.holds Try.pinned (OpenSpec.upto fnExactPathToSpec)

/-- 'laws.FnExactScopeAt', WHERE WHAT IT READS IS OF BULK AT MOST 1048576: true; the input reads as it did. -/
def fnExactScopeAtUptoRow : OpenClaim := { program := "ytekcdlibmngkiaa", sum := "b2a604e9608acb20e3ddf258efc85897fc3c236bb5c9cf46ab986f92db913354", func := "loop.example/g00370/laws.FnExactScopeAt", spec := "fnExactScopeAt", inPlace := ["internal/abi.NoEscape", "internal/bytealg.MakeNoZero"], unfollowed := true, recurses := true, apart := false, narrowed := true }
def FnExactScopeAtUptoSaid : Prop := fnExactScopeAtUptoRow.holds Try.pinned (OpenSpec.upto fnExactScopeAtSpec)

/-- 'laws.FnExactCallsOf', WHERE WHAT IT READS IS OF BULK AT MOST 1048576: true; the input reads as it did. -/
def fnExactCallsOfUptoRow : OpenClaim := { program := "ytekcdlibmngkiaa", sum := "b2a604e9608acb20e3ddf258efc85897fc3c236bb5c9cf46ab986f92db913354", func := "loop.example/g00370/laws.FnExactCallsOf", spec := "fnExactCallsOf", inPlace := ["internal/abi.NoEscape", "internal/bytealg.MakeNoZero"], unfollowed := true, recurses := true, apart := false, narrowed := true }
def FnExactCallsOfUptoSaid : Prop := fnExactCallsOfUptoRow.holds Try.pinned (OpenSpec.upto fnExactCallsOfSpec)

end Rows
end Go.Proofs.Ytekcdlibmngkiaa
