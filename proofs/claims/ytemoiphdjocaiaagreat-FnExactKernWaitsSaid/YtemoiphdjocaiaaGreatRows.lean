/-
  No cell of these rows narrows 'for every input' (looked for: loops, veiled, ifaces, maps, wideKeys, modest, calm, conditions, laid).
  DERIVED. THE GIVEN ROWS OF THIS SEAT. 3 by the template 'for every input the law returns true; each argument reads behind the call as it read before'; 0 by the template 'total and deterministic' (their statements: YtemoiphdjocaiaaGreatTotals.lean).
  GIVEN WITH THE SEED: the statements are not yours to turn. If you find one false, say at which input.
  Laid BY PROGRAM, IN A SANDBOX (cutbox-rows.mjs): the forced cells as the released guide's own fill.sh prints them over the translation 500bedfeb68aacff… (all of the seat's roots in one cut). By AI agents, Wed Nov 11 2026. No macro, syntax, notation, axiom, sorry.
-/
import Derived.Test.YtemoiphdjocaiaaGreatChecked
import GoSem.Claim
import GoSem.ClaimJoined
import GoSem.ClaimMapViews
import Derived.JoinedTies
import Derived.KernelRfl
namespace Go.Proofs.YtemoiphdjocaiaaGreat
/- THE CELL 'sum', in the pinned program and in every row, IS THE sha256 OF THE DUMP (.gsa) THAT YtemoiphdjocaiaaGreatProg.lean LOADS. Nothing in Lean hashes anything: it is a label: what it is worth is what the hold of that sum in a sandbox is worth. -/
noncomputable def Tryz.pinned : Pinned := { name := "ytemoiphdjocaiaagreat", sum := "500bedfeb68aacffb5e7acaab753915ae5a0cda6c6a46f3a7fd54d9fb40a9bd3", checked := Tryz.checked }
namespace Rows
def none {H : Type} : Left H := { results := [], args := [] }

/-- 'laws.FnExactKernReady': WHATEVER THE INPUT: true; the input reads as it did. -/
def fnExactKernReadySpec : ChangeSpec := { name := "fnExactKernReady", fn := fun _ => fun
  | [d1, d2, d3] => { results := [.lit (.bool true)], args := [d1, d2, d3] }
  | _ => none }
def fnExactKernReadyRow : OpenClaim := { program := "ytemoiphdjocaiaagreat", sum := "500bedfeb68aacffb5e7acaab753915ae5a0cda6c6a46f3a7fd54d9fb40a9bd3", func := "loop.example/quarterdeck/laws.FnExactKernReady", spec := "fnExactKernReady", unfollowed := true, recurses := true, plainKeys := false, apart := false }
def FnExactKernReadySaid : Prop := fnExactKernReadyRow.holds Tryz.pinned (OpenSpec.ofChange fnExactKernReadySpec)

/-- ITS FALSE NEIGHBOUR: 'it returns false'. Refute it at one input. -/
def fnExactKernReadyWrong : ChangeSpec := { name := "fnExactKernReady", fn := fun _ => fun
  | [d1, d2, d3] => { results := [.lit (.bool false)], args := [d1, d2, d3] }
  | _ => none }
def FnExactKernReadyWrongFalsely : Prop := fnExactKernReadyRow.holds Tryz.pinned (OpenSpec.ofChange fnExactKernReadyWrong)

/-- 'laws.FnExactKernPoll': WHATEVER THE INPUT: true; the input reads as it did. -/
def fnExactKernPollSpec : ChangeSpec := { name := "fnExactKernPoll", fn := fun _ => fun
  | [d1, d2] => { results := [.lit (.bool true)], args := [d1, d2] }
  | _ => none }
def fnExactKernPollRow : OpenClaim := { program := "ytemoiphdjocaiaagreat", sum := "500bedfeb68aacffb5e7acaab753915ae5a0cda6c6a46f3a7fd54d9fb40a9bd3", func := "loop.example/quarterdeck/laws.FnExactKernPoll", spec := "fnExactKernPoll", unfollowed := true, recurses := true, plainKeys := false, apart := false }
def FnExactKernPollSaid : Prop := fnExactKernPollRow.holds Tryz.pinned (OpenSpec.ofChange fnExactKernPollSpec)

/-- ITS FALSE NEIGHBOUR: 'it returns false'. Refute it at one input. -/
def fnExactKernPollWrong : ChangeSpec := { name := "fnExactKernPoll", fn := fun _ => fun
  | [d1, d2] => { results := [.lit (.bool false)], args := [d1, d2] }
  | _ => none }
def FnExactKernPollWrongFalsely : Prop := fnExactKernPollRow.holds Tryz.pinned (OpenSpec.ofChange fnExactKernPollWrong)

/-- 'laws.FnExactKernWaits': WHATEVER THE INPUT: true; the input reads as it did. -/
def fnExactKernWaitsSpec : ChangeSpec := { name := "fnExactKernWaits", fn := fun _ => fun
  | [d1, d2] => { results := [.lit (.bool true)], args := [d1, d2] }
  | _ => none }
def fnExactKernWaitsRow : OpenClaim := { program := "ytemoiphdjocaiaagreat", sum := "500bedfeb68aacffb5e7acaab753915ae5a0cda6c6a46f3a7fd54d9fb40a9bd3", func := "loop.example/quarterdeck/laws.FnExactKernWaits", spec := "fnExactKernWaits", unfollowed := true, recurses := true, plainKeys := false, apart := false }
def FnExactKernWaitsSaid : Prop := fnExactKernWaitsRow.holds Tryz.pinned (OpenSpec.ofChange fnExactKernWaitsSpec)

/-- ITS FALSE NEIGHBOUR: 'it returns false'. Refute it at one input. -/
def fnExactKernWaitsWrong : ChangeSpec := { name := "fnExactKernWaits", fn := fun _ => fun
  | [d1, d2] => { results := [.lit (.bool false)], args := [d1, d2] }
  | _ => none }
def FnExactKernWaitsWrongFalsely : Prop := fnExactKernWaitsRow.holds Tryz.pinned (OpenSpec.ofChange fnExactKernWaitsWrong)

/- THE SECOND FORM. 'bulk': how many values and letters a reading holds, each counted each time it is reached (what is shared counts as often as it is met; a slice's spare places count too). A statement '..UptoSaid' is the law's where the arguments, and the package variables that the reading takes, are together of bulk at most 1048576: NARROWER than '..Said'. Prove '..Said' where nothing that the law and all that it calls make is longer than what came in: it says more and counts as full. Else prove '..UptoSaid'. A law counts once. -/
mutual
def uptoBulk {H : Type} : DataW H → Nat
  | .lit (.string bytes) => bytes.length + 1
  | .lit _ => 1
  | .nil => 1
  | .ptr d => uptoBulk d + 1
  | .slice elems spare => uptoBulkAll elems + uptoBulkAll spare + 1
  | .agg parts => uptoBulkAll parts + 1
  | .iface _ d => uptoBulk d + 1
  | .map entries => uptoBulkEntries entries + 1
  | .held _ => 1
def uptoBulkAll {H : Type} : List (DataW H) → Nat
  | [] => 0
  | d :: r => uptoBulk d + uptoBulkAll r
def uptoBulkEntries {H : Type} : List (Lit × DataW H) → Nat
  | [] => 0
  | x :: r => uptoBulkEntry x + uptoBulkEntries r
def uptoBulkEntry {H : Type} : Lit × DataW H → Nat
  | (.string bytes, d) => bytes.length + uptoBulk d + 1
  | (_, d) => uptoBulk d + 1
 end
def uptoSmall : (H : Type) → List (DataW H) → Bool := fun _ ds => decide (uptoBulkAll ds ≤ 1048576)
def OpenSpec.upto (s : _root_.Go.ChangeSpec) : _root_.Go.OpenSpec := { _root_.Go.OpenSpec.ofChange s with cond := some uptoSmall }

/-- 'laws.FnExactKernReady', WHERE WHAT IT READS IS OF BULK AT MOST 1048576: true; the input reads as it did. -/
def fnExactKernReadyUptoRow : OpenClaim := { program := "ytemoiphdjocaiaagreat", sum := "500bedfeb68aacffb5e7acaab753915ae5a0cda6c6a46f3a7fd54d9fb40a9bd3", func := "loop.example/quarterdeck/laws.FnExactKernReady", spec := "fnExactKernReady", unfollowed := true, recurses := true, plainKeys := false, apart := false, narrowed := true }
def FnExactKernReadyUptoSaid : Prop := fnExactKernReadyUptoRow.holds Tryz.pinned (OpenSpec.upto fnExactKernReadySpec)

/-- 'laws.FnExactKernPoll', WHERE WHAT IT READS IS OF BULK AT MOST 1048576: true; the input reads as it did. -/
def fnExactKernPollUptoRow : OpenClaim := { program := "ytemoiphdjocaiaagreat", sum := "500bedfeb68aacffb5e7acaab753915ae5a0cda6c6a46f3a7fd54d9fb40a9bd3", func := "loop.example/quarterdeck/laws.FnExactKernPoll", spec := "fnExactKernPoll", unfollowed := true, recurses := true, plainKeys := false, apart := false, narrowed := true }
def FnExactKernPollUptoSaid : Prop := fnExactKernPollUptoRow.holds Tryz.pinned (OpenSpec.upto fnExactKernPollSpec)

/-- 'laws.FnExactKernWaits', WHERE WHAT IT READS IS OF BULK AT MOST 1048576: true; the input reads as it did. -/
def fnExactKernWaitsUptoRow : OpenClaim := { program := "ytemoiphdjocaiaagreat", sum := "500bedfeb68aacffb5e7acaab753915ae5a0cda6c6a46f3a7fd54d9fb40a9bd3", func := "loop.example/quarterdeck/laws.FnExactKernWaits", spec := "fnExactKernWaits", unfollowed := true, recurses := true, plainKeys := false, apart := false, narrowed := true }
def FnExactKernWaitsUptoSaid : Prop := fnExactKernWaitsUptoRow.holds Tryz.pinned (OpenSpec.upto fnExactKernWaitsSpec)

end Rows
end Go.Proofs.YtemoiphdjocaiaaGreat
