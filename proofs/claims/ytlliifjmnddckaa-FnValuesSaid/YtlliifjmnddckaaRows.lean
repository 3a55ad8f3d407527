/-
  No cell of these rows narrows 'for every input' (looked for: loops, veiled, ifaces, maps, wideKeys, modest, calm, conditions, laid).
  DERIVED. THE GIVEN ROWS OF THIS SEAT. 7 by the template 'for every input the law returns true; each argument reads behind the call as it read before'; 0 by the template 'total and deterministic' (their statements: YtlliifjmnddckaaTotals.lean).
  GIVEN WITH THE SEED: the statements are not yours to turn. If you find one false, say at which input.
  Laid BY PROGRAM, IN A SANDBOX (cutbox-rows.mjs): the forced cells as the released guide's own fill.sh prints them over the translation ce866514cf64dba9… (all of the seat's roots in one cut). By AI agents, Wed Nov 11 2026. No macro, syntax, notation, axiom, sorry.
-/
import Derived.Test.YtlliifjmnddckaaChecked
import GoSem.Claim
import GoSem.ClaimJoined
import GoSem.ClaimMapViews
import Derived.JoinedTies
import Derived.KernelRfl
namespace Go.Proofs.Ytlliifjmnddckaa
/- THE CELL 'sum', in the pinned program and in every row, IS THE sha256 OF THE DUMP (.gsa) THAT YtlliifjmnddckaaProg.lean LOADS. Nothing in Lean hashes anything: it is a label: what it is worth is what the hold of that sum in a sandbox is worth. -/
noncomputable def Try.pinned : Pinned := { name := "ytlliifjmnddckaa", sum := "ce866514cf64dba9db549f0fe746836e6fba9ff51bd62a086f0add13d91d54ae", checked := Try.checked }
namespace Rows
def none {H : Type} : Left H := { results := [], args := [] }

/-- 'laws.FnExactOpenConn': WHATEVER THE INPUT: true; the input reads as it did. -/
def fnExactOpenConnSpec : ChangeSpec := { name := "fnExactOpenConn", fn := fun _ => fun
  | [] => { results := [.lit (.bool true)], args := [] }
  | _ => none }
def fnExactOpenConnRow : OpenClaim := { program := "ytlliifjmnddckaa", sum := "ce866514cf64dba9db549f0fe746836e6fba9ff51bd62a086f0add13d91d54ae", func := "loop.example/g00370/laws.FnExactOpenConn", spec := "fnExactOpenConn", apart := false }
def FnExactOpenConnSaid : Prop := fnExactOpenConnRow.holds Try.pinned (OpenSpec.ofChange fnExactOpenConnSpec)

/-- ITS FALSE NEIGHBOUR: 'it returns false'. Refute it at one input. -/
def fnExactOpenConnWrong : ChangeSpec := { name := "fnExactOpenConn", fn := fun _ => fun
  | [] => { results := [.lit (.bool false)], args := [] }
  | _ => none }
def FnExactOpenConnWrongFalsely : Prop := fnExactOpenConnRow.holds Try.pinned (OpenSpec.ofChange fnExactOpenConnWrong)

/-- 'laws.FnExactRoomOf': WHATEVER THE INPUT: true; the input reads as it did. -/
def fnExactRoomOfSpec : ChangeSpec := { name := "fnExactRoomOf", fn := fun _ => fun
  | [d] => { results := [.lit (.bool true)], args := [d] }
  | _ => none }
def fnExactRoomOfRow : OpenClaim := { program := "ytlliifjmnddckaa", sum := "ce866514cf64dba9db549f0fe746836e6fba9ff51bd62a086f0add13d91d54ae", func := "loop.example/g00370/laws.FnExactRoomOf", spec := "fnExactRoomOf", apart := false }
def FnExactRoomOfSaid : Prop := fnExactRoomOfRow.holds Try.pinned (OpenSpec.ofChange fnExactRoomOfSpec)

/-- ITS FALSE NEIGHBOUR: 'it returns false'. Refute it at one input. -/
def fnExactRoomOfWrong : ChangeSpec := { name := "fnExactRoomOf", fn := fun _ => fun
  | [d] => { results := [.lit (.bool false)], args := [d] }
  | _ => none }
def FnExactRoomOfWrongFalsely : Prop := fnExactRoomOfRow.holds Try.pinned (OpenSpec.ofChange fnExactRoomOfWrong)

/-- 'laws.FnExactWaitingOf': WHATEVER THE INPUT: true; the input reads as it did. -/
def fnExactWaitingOfSpec : ChangeSpec := { name := "fnExactWaitingOf", fn := fun _ => fun
  | [d] => { results := [.lit (.bool true)], args := [d] }
  | _ => none }
def fnExactWaitingOfRow : OpenClaim := { program := "ytlliifjmnddckaa", sum := "ce866514cf64dba9db549f0fe746836e6fba9ff51bd62a086f0add13d91d54ae", func := "loop.example/g00370/laws.FnExactWaitingOf", spec := "fnExactWaitingOf", apart := false }
def FnExactWaitingOfSaid : Prop := fnExactWaitingOfRow.holds Try.pinned (OpenSpec.ofChange fnExactWaitingOfSpec)

/-- ITS FALSE NEIGHBOUR: 'it returns false'. Refute it at one input. -/
def fnExactWaitingOfWrong : ChangeSpec := { name := "fnExactWaitingOf", fn := fun _ => fun
  | [d] => { results := [.lit (.bool false)], args := [d] }
  | _ => none }
def FnExactWaitingOfWrongFalsely : Prop := fnExactWaitingOfRow.holds Try.pinned (OpenSpec.ofChange fnExactWaitingOfWrong)

/-- 'laws.FnExactConnFlush': WHATEVER THE INPUT: true; the input reads as it did. -/
def fnExactConnFlushSpec : ChangeSpec := { name := "fnExactConnFlush", fn := fun _ => fun
  | [d] => { results := [.lit (.bool true)], args := [d] }
  | _ => none }
def fnExactConnFlushRow : OpenClaim := { program := "ytlliifjmnddckaa", sum := "ce866514cf64dba9db549f0fe746836e6fba9ff51bd62a086f0add13d91d54ae", func := "loop.example/g00370/laws.FnExactConnFlush", spec := "fnExactConnFlush", apart := false }
def FnExactConnFlushSaid : Prop := fnExactConnFlushRow.holds Try.pinned (OpenSpec.ofChange fnExactConnFlushSpec)

/-- ITS FALSE NEIGHBOUR: 'it returns false'. Refute it at one input. -/
def fnExactConnFlushWrong : ChangeSpec := { name := "fnExactConnFlush", fn := fun _ => fun
  | [d] => { results := [.lit (.bool false)], args := [d] }
  | _ => none }
def FnExactConnFlushWrongFalsely : Prop := fnExactConnFlushRow.holds Try.pinned (OpenSpec.ofChange fnExactConnFlushWrong)

/-- 'laws.FnExactConnTake': WHATEVER THE INPUT: true; the input reads as it did. -/
def fnExactConnTakeSpec : ChangeSpec := { name := "fnExactConnTake", fn := fun _ => fun
  | [d1, d2] => { results := [.lit (.bool true)], args := [d1, d2] }
  | _ => none }
def fnExactConnTakeRow : OpenClaim := { program := "ytlliifjmnddckaa", sum := "ce866514cf64dba9db549f0fe746836e6fba9ff51bd62a086f0add13d91d54ae", func := "loop.example/g00370/laws.FnExactConnTake", spec := "fnExactConnTake", apart := false }
def FnExactConnTakeSaid : Prop := fnExactConnTakeRow.holds Try.pinned (OpenSpec.ofChange fnExactConnTakeSpec)

/-- ITS FALSE NEIGHBOUR: 'it returns false'. Refute it at one input. -/
def fnExactConnTakeWrong : ChangeSpec := { name := "fnExactConnTake", fn := fun _ => fun
  | [d1, d2] => { results := [.lit (.bool false)], args := [d1, d2] }
  | _ => none }
def FnExactConnTakeWrongFalsely : Prop := fnExactConnTakeRow.holds Try.pinned (OpenSpec.ofChange fnExactConnTakeWrong)

/-- 'laws.FnExactConnReady': WHATEVER THE INPUT: true; the input reads as it did. -/
def fnExactConnReadySpec : ChangeSpec := { name := "fnExactConnReady", fn := fun _ => fun
  | [d1, d2, d3] => { results := [.lit (.bool true)], args := [d1, d2, d3] }
  | _ => none }
def fnExactConnReadyRow : OpenClaim := { program := "ytlliifjmnddckaa", sum := "ce866514cf64dba9db549f0fe746836e6fba9ff51bd62a086f0add13d91d54ae", func := "loop.example/g00370/laws.FnExactConnReady", spec := "fnExactConnReady", unfollowed := true, recurses := true, apart := false }
def FnExactConnReadySaid : Prop := fnExactConnReadyRow.holds Try.pinned (OpenSpec.ofChange fnExactConnReadySpec)

/-- ITS FALSE NEIGHBOUR: 'it returns false'. Refute it at one input. -/
def fnExactConnReadyWrong : ChangeSpec := { name := "fnExactConnReady", fn := fun _ => fun
  | [d1, d2, d3] => { results := [.lit (.bool false)], args := [d1, d2, d3] }
  | _ => none }
def FnExactConnReadyWrongFalsely : Prop := fnExactConnReadyRow.holds Try.pinned (OpenSpec.ofChange fnExactConnReadyWrong)

/-- 'laws.FnValues': WHATEVER THE INPUT: true; the input reads as it did. -/
def fnValuesSpec : ChangeSpec := { name := "fnValues", fn := fun _ => fun
  | [d1, d2] => { results := [.lit (.bool true)], args := [d1, d2] }
  | _ => none }
def fnValuesRow : OpenClaim := { program := "ytlliifjmnddckaa", sum := "ce866514cf64dba9db549f0fe746836e6fba9ff51bd62a086f0add13d91d54ae", func := "loop.example/g00370/laws.FnValues", spec := "fnValues", apart := false }
def FnValuesSaid : Prop := fnValuesRow.holds Try.pinned (OpenSpec.ofChange fnValuesSpec)

/-- ITS FALSE NEIGHBOUR: 'it returns false'. Refute it at one input. -/
def fnValuesWrong : ChangeSpec := { name := "fnValues", fn := fun _ => fun
  | [d1, d2] => { results := [.lit (.bool false)], args := [d1, d2] }
  | _ => none }
def FnValuesWrongFalsely : Prop := fnValuesRow.holds Try.pinned (OpenSpec.ofChange fnValuesWrong)

/- THE SECOND FORM. 'bulk': how many values and letters a reading holds, each counted each time it is reached (what is shared counts as often as it is met; a slice's spare places count too). A statement '..UptoSaid' is the law's where the arguments, and the package variables that the reading takes, are together of bulk at most 1048576: NARROWER than '..Said'. Prove '..Said' where nothing that the law and all that it calls make is longer than what came in: it says more and counts as full. Else prove '..UptoSaid'. A law counts once. -/
mutual
def uptoBulk {H : Type} : DataW H → Nat
  | .lit (.string bytes) => bytes.length + 1
  | .lit _ => 1
  | .nil => 1
  | .ptr d => uptoBulk d + 1
  | .slice elems spare => uptoBulkAll elems + uptoBulkAll spare + 1
  | .agg parts => uptoBulkAll parts + 1
  | .iface _ d => uptoBulk d + 1
  | .map entries => uptoBulkEntries entries + 1
  | .held _ => 1
def uptoBulkAll {H : Type} : List (DataW H) → Nat
  | [] => 0
  | d :: r => uptoBulk d + uptoBulkAll r
def uptoBulkEntries {H : Type} : List (Lit × DataW H) → Nat
  | [] => 0
  | x :: r => uptoBulkEntry x + uptoBulkEntries r
def uptoBulkEntry {H : Type} : Lit × DataW H → Nat
  | (.string bytes, d) => bytes.length + uptoBulk d + 1
  | (_, d) => uptoBulk d + 1
 end
def uptoSmall : (H : Type) → List (DataW H) → Bool := fun _ ds => decide (uptoBulkAll ds ≤ 1048576)
def OpenSpec.upto (s : _root_.Go.ChangeSpec) : _root_.Go.OpenSpec := { _root_.Go.OpenSpec.ofChange s with cond := some uptoSmall }

/-- 'laws.FnExactOpenConn', WHERE WHAT IT READS IS OF BULK AT MOST 1048576: true; the input reads as it did. -/
def fnExactOpenConnUptoRow : OpenClaim := { program := "ytlliifjmnddckaa", sum := "ce866514cf64dba9db549f0fe746836e6fba9ff51bd62a086f0add13d91d54ae", func := "loop.example/g00370/laws.FnExactOpenConn", spec := "fnExactOpenConn", apart := false, narrowed := true }
def FnExactOpenConnUptoSaid : Prop := fnExactOpenConnUptoRow.holds Try.pinned (OpenSpec.upto fnExactOpenConnSpec)

/-- 'laws.FnExactRoomOf', WHERE WHAT IT READS IS OF BULK AT MOST 1048576: true; the input reads as it did. -/
def fnExactRoomOfUptoRow : OpenClaim := { program := "ytlliifjmnddckaa", sum := "ce866514cf64dba9db549f0fe746836e6fba9ff51bd62a086f0add13d91d54ae", func := "loop.example/g00370/laws.FnExactRoomOf", spec := "fnExactRoomOf", apart := false, narrowed := true }
def FnExactRoomOfUptoSaid : Prop := fnExactRoomOfUptoRow.holds Try.pinned (OpenSpec.upto fnExactRoomOfSpec)

/-- 'laws.FnExactWaitingOf', WHERE WHAT IT READS IS OF BULK AT MOST 1048576: true; the input reads as it did. -/
def fnExactWaitingOfUptoRow : OpenClaim := { program := "ytlliifjmnddckaa", sum := "ce866514cf64dba9db549f0fe746836e6fba9ff51bd62a086f0add13d91d54ae", func := "loop.example/g00370/laws.FnExactWaitingOf", spec := "fnExactWaitingOf", apart := false, narrowed := true }
def FnExactWaitingOfUptoSaid : Prop := fnExactWaitingOfUptoRow.holds Try.pinned (OpenSpec.upto fnExactWaitingOfSpec)

/-- 'laws.FnExactConnFlush', WHERE WHAT IT READS IS OF BULK AT MOST 1048576: true; the input reads as it did. -/
def fnExactConnFlushUptoRow : OpenClaim := { program := "ytlliifjmnddckaa", sum := "ce866514cf64dba9db549f0fe746836e6fba9ff51bd62a086f0add13d91d54ae", func := "loop.example/g00370/laws.FnExactConnFlush", spec := "fnExactConnFlush", apart := false, narrowed := true }
def FnExactConnFlushUptoSaid : Prop := fnExactConnFlushUptoRow.holds Try.pinned (OpenSpec.upto fnExactConnFlushSpec)

/-- 'laws.FnExactConnTake', WHERE WHAT IT READS IS OF BULK AT MOST 1048576: true; the input reads as it did. -/
def fnExactConnTakeUptoRow : OpenClaim := { program := "ytlliifjmnddckaa", sum := "ce866514cf64dba9db549f0fe746836e6fba9ff51bd62a086f0add13d91d54ae", func := "loop.example/g00370/laws.FnExactConnTake", spec := "fnExactConnTake", apart := false, narrowed := true }
def FnExactConnTakeUptoSaid : Prop := fnExactConnTakeUptoRow.holds Try.pinned (OpenSpec.upto fnExactConnTakeSpec)

/-- 'laws.FnExactConnReady', WHERE WHAT IT READS IS OF BULK AT MOST 1048576: true; the input reads as it did. -/
def fnExactConnReadyUptoRow : OpenClaim := { program := "ytlliifjmnddckaa", sum := "ce866514cf64dba9db549f0fe746836e6fba9ff51bd62a086f0add13d91d54ae", func := "loop.example/g00370/laws.FnExactConnReady", spec := "fnExactConnReady", unfollowed := true, recurses := true, apart := false, narrowed := true }
def FnExactConnReadyUptoSaid : Prop := fnExactConnReadyUptoRow.holds Try.pinned (OpenSpec.upto fnExactConnReadySpec)

/-- 'laws.FnValues', WHERE WHAT IT READS IS OF BULK AT MOST 1048576: true; the input reads as it did. -/
def fnValuesUptoRow : OpenClaim := { program := "ytlliifjmnddckaa", sum := "ce866514cf64dba9db549f0fe746836e6fba9ff51bd62a086f0add13d91d54ae", func := "loop.example/g00370/laws.FnValues", spec := "fnValues", apart := false, narrowed := true }
def FnValuesUptoSaid : Prop := fnValuesUptoRow.holds Try.pinned (OpenSpec.upto fnValuesSpec)

end Rows
end Go.Proofs.Ytlliifjmnddckaa
