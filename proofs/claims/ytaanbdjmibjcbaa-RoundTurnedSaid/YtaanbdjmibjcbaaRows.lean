/-
  No cell of these rows narrows 'for every input' (looked for: loops, veiled, ifaces, maps, wideKeys, modest, calm, conditions, laid).
  DERIVED. THE GIVEN ROWS OF THIS SEAT. 12 by the template 'for every input the law returns true; each argument reads behind the call as it read before'; 0 by the template 'total and deterministic' (their statements: YtaanbdjmibjcbaaTotals.lean).
  GIVEN WITH THE SEED: the statements are not yours to turn. If you find one false, say at which input.
  Laid BY PROGRAM, IN A SANDBOX (cutbox-rows.mjs): the forced cells as the released guide's own fill.sh prints them over the translation b9bf390126ea22cf… (all of the seat's roots in one cut). By AI agents, Wed Nov 11 2026. No macro, syntax, notation, axiom, sorry.
-/
import Derived.Test.YtaanbdjmibjcbaaChecked
import GoSem.Claim
import GoSem.ClaimJoined
import GoSem.ClaimMapViews
import Derived.JoinedTies
import Derived.KernelRfl
namespace Go.Proofs.Ytaanbdjmibjcbaa
/- THE CELL 'sum', in the pinned program and in every row, IS THE sha256 OF THE DUMP (.gsa) THAT YtaanbdjmibjcbaaProg.lean LOADS. Nothing in Lean hashes anything: it is a label: what it is worth is what the hold of that sum in a sandbox is worth. -/
noncomputable def Try.pinned : Pinned := { name := "ytaanbdjmibjcbaa", sum := "b9bf390126ea22cf23c099a90285c6a3d061519f2b2b95f413187a930e7d77d5", checked := Try.checked }
namespace Rows
def none {H : Type} : Left H := { results := [], args := [] }

/-- 'bolsterlaw11.RoundTowns': WHATEVER THE INPUT: true; the input reads as it did. -/
def roundTownsSpec : ChangeSpec := { name := "roundTowns", fn := fun _ => fun
  | [d1, d2, d3, d4] => { results := [.lit (.bool true)], args := [d1, d2, d3, d4] }
  | _ => none }
def roundTownsRow : OpenClaim := { program := "ytaanbdjmibjcbaa", sum := "b9bf390126ea22cf23c099a90285c6a3d061519f2b2b95f413187a930e7d77d5", func := "bolster/bolsterlaw11.RoundTowns", spec := "roundTowns", unfollowed := true, recurses := true, plainKeys := false, apart := false }
def RoundTownsSaid : Prop := roundTownsRow.holds Try.pinned (OpenSpec.ofChange roundTownsSpec)

/-- ITS FALSE NEIGHBOUR: 'it returns false'. Refute it at one input. -/
def roundTownsWrong : ChangeSpec := { name := "roundTowns", fn := fun _ => fun
  | [d1, d2, d3, d4] => { results := [.lit (.bool false)], args := [d1, d2, d3, d4] }
  | _ => none }
def RoundTownsWrongFalsely : Prop := roundTownsRow.holds Try.pinned (OpenSpec.ofChange roundTownsWrong)

/-- 'bolsterlaw11.RoundVisits': WHATEVER THE INPUT: true; the input reads as it did. -/
def roundVisitsSpec : ChangeSpec := { name := "roundVisits", fn := fun _ => fun
  | [d1, d2, d3, d4] => { results := [.lit (.bool true)], args := [d1, d2, d3, d4] }
  | _ => none }
def roundVisitsRow : OpenClaim := { program := "ytaanbdjmibjcbaa", sum := "b9bf390126ea22cf23c099a90285c6a3d061519f2b2b95f413187a930e7d77d5", func := "bolster/bolsterlaw11.RoundVisits", spec := "roundVisits", unfollowed := true, recurses := true, plainKeys := false, apart := false }
def RoundVisitsSaid : Prop := roundVisitsRow.holds Try.pinned (OpenSpec.ofChange roundVisitsSpec)

/-- ITS FALSE NEIGHBOUR: 'it returns false'. Refute it at one input. -/
def roundVisitsWrong : ChangeSpec := { name := "roundVisits", fn := fun _ => fun
  | [d1, d2, d3, d4] => { results := [.lit (.bool false)], args := [d1, d2, d3, d4] }
  | _ => none }
def RoundVisitsWrongFalsely : Prop := roundVisitsRow.holds Try.pinned (OpenSpec.ofChange roundVisitsWrong)

/-- 'bolsterlaw11.RoundPlans': WHATEVER THE INPUT: true; the input reads as it did. -/
def roundPlansSpec : ChangeSpec := { name := "roundPlans", fn := fun _ => fun
  | [d1, d2, d3] => { results := [.lit (.bool true)], args := [d1, d2, d3] }
  | _ => none }
def roundPlansRow : OpenClaim := { program := "ytaanbdjmibjcbaa", sum := "b9bf390126ea22cf23c099a90285c6a3d061519f2b2b95f413187a930e7d77d5", func := "bolster/bolsterlaw11.RoundPlans", spec := "roundPlans", unfollowed := true, recurses := true, plainKeys := false, apart := false }
def RoundPlansSaid : Prop := roundPlansRow.holds Try.pinned (OpenSpec.ofChange roundPlansSpec)

/-- ITS FALSE NEIGHBOUR: 'it returns false'. Refute it at one input. -/
def roundPlansWrong : ChangeSpec := { name := "roundPlans", fn := fun _ => fun
  | [d1, d2, d3] => { results := [.lit (.bool false)], args := [d1, d2, d3] }
  | _ => none }
def RoundPlansWrongFalsely : Prop := roundPlansRow.holds Try.pinned (OpenSpec.ofChange roundPlansWrong)

/-- 'bolsterlaw11.RoundAparts': WHATEVER THE INPUT: true; the input reads as it did. -/
def roundApartsSpec : ChangeSpec := { name := "roundAparts", fn := fun _ => fun
  | [d1, d2, d3] => { results := [.lit (.bool true)], args := [d1, d2, d3] }
  | _ => none }
def roundApartsRow : OpenClaim := { program := "ytaanbdjmibjcbaa", sum := "b9bf390126ea22cf23c099a90285c6a3d061519f2b2b95f413187a930e7d77d5", func := "bolster/bolsterlaw11.RoundAparts", spec := "roundAparts", unfollowed := true, recurses := true, plainKeys := false, apart := false }
def RoundApartsSaid : Prop := roundApartsRow.holds Try.pinned (OpenSpec.ofChange roundApartsSpec)

/-- ITS FALSE NEIGHBOUR: 'it returns false'. Refute it at one input. -/
def roundApartsWrong : ChangeSpec := { name := "roundAparts", fn := fun _ => fun
  | [d1, d2, d3] => { results := [.lit (.bool false)], args := [d1, d2, d3] }
  | _ => none }
def RoundApartsWrongFalsely : Prop := roundApartsRow.holds Try.pinned (OpenSpec.ofChange roundApartsWrong)

/-- 'bolsterlaw11.RoundKinds': WHATEVER THE INPUT: true; the input reads as it did. -/
def roundKindsSpec : ChangeSpec := { name := "roundKinds", fn := fun _ => fun
  | [d1, d2, d3, d4] => { results := [.lit (.bool true)], args := [d1, d2, d3, d4] }
  | _ => none }
def roundKindsRow : OpenClaim := { program := "ytaanbdjmibjcbaa", sum := "b9bf390126ea22cf23c099a90285c6a3d061519f2b2b95f413187a930e7d77d5", func := "bolster/bolsterlaw11.RoundKinds", spec := "roundKinds", unfollowed := true, recurses := true, plainKeys := false, apart := false }
def RoundKindsSaid : Prop := roundKindsRow.holds Try.pinned (OpenSpec.ofChange roundKindsSpec)

/-- ITS FALSE NEIGHBOUR: 'it returns false'. Refute it at one input. -/
def roundKindsWrong : ChangeSpec := { name := "roundKinds", fn := fun _ => fun
  | [d1, d2, d3, d4] => { results := [.lit (.bool false)], args := [d1, d2, d3, d4] }
  | _ => none }
def RoundKindsWrongFalsely : Prop := roundKindsRow.holds Try.pinned (OpenSpec.ofChange roundKindsWrong)

/-- 'bolsterlaw11.RoundProved': WHATEVER THE INPUT: true; the input reads as it did. -/
def roundProvedSpec : ChangeSpec := { name := "roundProved", fn := fun _ => fun
  | [d1, d2, d3, d4] => { results := [.lit (.bool true)], args := [d1, d2, d3, d4] }
  | _ => none }
def roundProvedRow : OpenClaim := { program := "ytaanbdjmibjcbaa", sum := "b9bf390126ea22cf23c099a90285c6a3d061519f2b2b95f413187a930e7d77d5", func := "bolster/bolsterlaw11.RoundProved", spec := "roundProved", unfollowed := true, recurses := true, plainKeys := false, apart := false }
def RoundProvedSaid : Prop := roundProvedRow.holds Try.pinned (OpenSpec.ofChange roundProvedSpec)

/-- ITS FALSE NEIGHBOUR: 'it returns false'. Refute it at one input. -/
def roundProvedWrong : ChangeSpec := { name := "roundProved", fn := fun _ => fun
  | [d1, d2, d3, d4] => { results := [.lit (.bool false)], args := [d1, d2, d3, d4] }
  | _ => none }
def RoundProvedWrongFalsely : Prop := roundProvedRow.holds Try.pinned (OpenSpec.ofChange roundProvedWrong)

/-- 'bolsterlaw11.RoundOrdered': WHATEVER THE INPUT: true; the input reads as it did. -/
def roundOrderedSpec : ChangeSpec := { name := "roundOrdered", fn := fun _ => fun
  | [d1, d2, d3, d4] => { results := [.lit (.bool true)], args := [d1, d2, d3, d4] }
  | _ => none }
def roundOrderedRow : OpenClaim := { program := "ytaanbdjmibjcbaa", sum := "b9bf390126ea22cf23c099a90285c6a3d061519f2b2b95f413187a930e7d77d5", func := "bolster/bolsterlaw11.RoundOrdered", spec := "roundOrdered", unfollowed := true, recurses := true, plainKeys := false, apart := false }
def RoundOrderedSaid : Prop := roundOrderedRow.holds Try.pinned (OpenSpec.ofChange roundOrderedSpec)

/-- ITS FALSE NEIGHBOUR: 'it returns false'. Refute it at one input. -/
def roundOrderedWrong : ChangeSpec := { name := "roundOrdered", fn := fun _ => fun
  | [d1, d2, d3, d4] => { results := [.lit (.bool false)], args := [d1, d2, d3, d4] }
  | _ => none }
def RoundOrderedWrongFalsely : Prop := roundOrderedRow.holds Try.pinned (OpenSpec.ofChange roundOrderedWrong)

/-- 'bolsterlaw11.RoundFast': WHATEVER THE INPUT: true; the input reads as it did. -/
def roundFastSpec : ChangeSpec := { name := "roundFast", fn := fun _ => fun
  | [d1, d2, d3] => { results := [.lit (.bool true)], args := [d1, d2, d3] }
  | _ => none }
def roundFastRow : OpenClaim := { program := "ytaanbdjmibjcbaa", sum := "b9bf390126ea22cf23c099a90285c6a3d061519f2b2b95f413187a930e7d77d5", func := "bolster/bolsterlaw11.RoundFast", spec := "roundFast", unfollowed := true, recurses := true, plainKeys := false, apart := false }
def RoundFastSaid : Prop := roundFastRow.holds Try.pinned (OpenSpec.ofChange roundFastSpec)

/-- ITS FALSE NEIGHBOUR: 'it returns false'. Refute it at one input. -/
def roundFastWrong : ChangeSpec := { name := "roundFast", fn := fun _ => fun
  | [d1, d2, d3] => { results := [.lit (.bool false)], args := [d1, d2, d3] }
  | _ => none }
def RoundFastWrongFalsely : Prop := roundFastRow.holds Try.pinned (OpenSpec.ofChange roundFastWrong)

/-- 'bolsterlaw11.RoundMore': WHATEVER THE INPUT: true; the input reads as it did. -/
def roundMoreSpec : ChangeSpec := { name := "roundMore", fn := fun _ => fun
  | [d1, d2, d3, d4, d5, d6] => { results := [.lit (.bool true)], args := [d1, d2, d3, d4, d5, d6] }
  | _ => none }
def roundMoreRow : OpenClaim := { program := "ytaanbdjmibjcbaa", sum := "b9bf390126ea22cf23c099a90285c6a3d061519f2b2b95f413187a930e7d77d5", func := "bolster/bolsterlaw11.RoundMore", spec := "roundMore", unfollowed := true, recurses := true, plainKeys := false, apart := false }
def RoundMoreSaid : Prop := roundMoreRow.holds Try.pinned (OpenSpec.ofChange roundMoreSpec)

/-- ITS FALSE NEIGHBOUR: 'it returns false'. Refute it at one input. -/
def roundMoreWrong : ChangeSpec := { name := "roundMore", fn := fun _ => fun
  | [d1, d2, d3, d4, d5, d6] => { results := [.lit (.bool false)], args := [d1, d2, d3, d4, d5, d6] }
  | _ => none }
def RoundMoreWrongFalsely : Prop := roundMoreRow.holds Try.pinned (OpenSpec.ofChange roundMoreWrong)

/-- 'bolsterlaw11.RoundJoined': WHATEVER THE INPUT: true; the input reads as it did. -/
def roundJoinedSpec : ChangeSpec := { name := "roundJoined", fn := fun _ => fun
  | [d1, d2, d3, d4, d5] => { results := [.lit (.bool true)], args := [d1, d2, d3, d4, d5] }
  | _ => none }
def roundJoinedRow : OpenClaim := { program := "ytaanbdjmibjcbaa", sum := "b9bf390126ea22cf23c099a90285c6a3d061519f2b2b95f413187a930e7d77d5", func := "bolster/bolsterlaw11.RoundJoined", spec := "roundJoined", unfollowed := true, recurses := true, plainKeys := false, apart := false }
def RoundJoinedSaid : Prop := roundJoinedRow.holds Try.pinned (OpenSpec.ofChange roundJoinedSpec)

/-- ITS FALSE NEIGHBOUR: 'it returns false'. Refute it at one input. -/
def roundJoinedWrong : ChangeSpec := { name := "roundJoined", fn := fun _ => fun
  | [d1, d2, d3, d4, d5] => { results := [.lit (.bool false)], args := [d1, d2, d3, d4, d5] }
  | _ => none }
def RoundJoinedWrongFalsely : Prop := roundJoinedRow.holds Try.pinned (OpenSpec.ofChange roundJoinedWrong)

/-- 'bolsterlaw11.RoundTurned': WHATEVER THE INPUT: true; the input reads as it did. -/
def roundTurnedSpec : ChangeSpec := { name := "roundTurned", fn := fun _ => fun
  | [d1, d2, d3, d4] => { results := [.lit (.bool true)], args := [d1, d2, d3, d4] }
  | _ => none }
def roundTurnedRow : OpenClaim := { program := "ytaanbdjmibjcbaa", sum := "b9bf390126ea22cf23c099a90285c6a3d061519f2b2b95f413187a930e7d77d5", func := "bolster/bolsterlaw11.RoundTurned", spec := "roundTurned", unfollowed := true, recurses := true, plainKeys := false, apart := false }
def RoundTurnedSaid : Prop := roundTurnedRow.holds Try.pinned (OpenSpec.ofChange roundTurnedSpec)

/-- ITS FALSE NEIGHBOUR: 'it returns false'. Refute it at one input. -/
def roundTurnedWrong : ChangeSpec := { name := "roundTurned", fn := fun _ => fun
  | [d1, d2, d3, d4] => { results := [.lit (.bool false)], args := [d1, d2, d3, d4] }
  | _ => none }
def RoundTurnedWrongFalsely : Prop := roundTurnedRow.holds Try.pinned (OpenSpec.ofChange roundTurnedWrong)

/-- 'bolsterlaw11.RoundKnown': WHATEVER THE INPUT: true; the input reads as it did. -/
def roundKnownSpec : ChangeSpec := { name := "roundKnown", fn := fun _ => fun
  | [] => { results := [.lit (.bool true)], args := [] }
  | _ => none }
def roundKnownRow : OpenClaim := { program := "ytaanbdjmibjcbaa", sum := "b9bf390126ea22cf23c099a90285c6a3d061519f2b2b95f413187a930e7d77d5", func := "bolster/bolsterlaw11.RoundKnown", spec := "roundKnown", unfollowed := true, recurses := true, plainKeys := false, apart := false }
def RoundKnownSaid : Prop := roundKnownRow.holds Try.pinned (OpenSpec.ofChange roundKnownSpec)

/-- ITS FALSE NEIGHBOUR: 'it returns false'. Refute it at one input. -/
def roundKnownWrong : ChangeSpec := { name := "roundKnown", fn := fun _ => fun
  | [] => { results := [.lit (.bool false)], args := [] }
  | _ => none }
def RoundKnownWrongFalsely : Prop := roundKnownRow.holds Try.pinned (OpenSpec.ofChange roundKnownWrong)

/- THE SECOND FORM. 'bulk': how many values and letters a reading holds, each counted each time it is reached (what is shared counts as often as it is met; a slice's spare places count too). A statement '..UptoSaid' is the law's where the arguments, and the package variables that the reading takes, are together of bulk at most 1048576: NARROWER than '..Said'. Prove '..Said' where nothing that the law and all that it calls make is longer than what came in: it says more and counts as full. Else prove '..UptoSaid'. A law counts once. -/
mutual
def uptoBulk {H : Type} : DataW H → Nat
  | .lit (.string bytes) => bytes.length + 1
  | .lit _ => 1
  | .nil => 1
  | .ptr d => uptoBulk d + 1
  | .slice elems spare => uptoBulkAll elems + uptoBulkAll spare + 1
  | .agg parts => uptoBulkAll parts + 1
  | .iface _ d => uptoBulk d + 1
  | .map entries => uptoBulkEntries entries + 1
  | .held _ => 1
def uptoBulkAll {H : Type} : List (DataW H) → Nat
  | [] => 0
  | d :: r => uptoBulk d + uptoBulkAll r
def uptoBulkEntries {H : Type} : List (Lit × DataW H) → Nat
  | [] => 0
  | x :: r => uptoBulkEntry x + uptoBulkEntries r
def uptoBulkEntry {H : Type} : Lit × DataW H → Nat
  | (.string bytes, d) => bytes.length + uptoBulk d + 1
  | (_, d) => uptoBulk d + 1
 end
def uptoSmall : (H : Type) → List (DataW H) → Bool := fun _ ds => decide (uptoBulkAll ds ≤ 1048576)
def OpenSpec.upto (s : _root_.Go.ChangeSpec) : _root_.Go.OpenSpec := { _root_.Go.OpenSpec.ofChange s with cond := some uptoSmall }

/-- 'bolsterlaw11.RoundTowns', WHERE WHAT IT READS IS OF BULK AT MOST 1048576: true; the input reads as it did. -/
def roundTownsUptoRow : OpenClaim := { program := "ytaanbdjmibjcbaa", sum := "b9bf390126ea22cf23c099a90285c6a3d061519f2b2b95f413187a930e7d77d5", func := "bolster/bolsterlaw11.RoundTowns", spec := "roundTowns", unfollowed := true, recurses := true, plainKeys := false, apart := false, narrowed := true }
def RoundTownsUptoSaid : Prop := roundTownsUptoRow.holds Try.pinned (OpenSpec.upto roundTownsSpec)

/-- 'bolsterlaw11.RoundVisits', WHERE WHAT IT READS IS OF BULK AT MOST 1048576: true; the input reads as it did. -/
def roundVisitsUptoRow : OpenClaim := { program := "ytaanbdjmibjcbaa", sum := "b9bf390126ea22cf23c099a90285c6a3d061519f2b2b95f413187a930e7d77d5", func := "bolster/bolsterlaw11.RoundVisits", spec := "roundVisits", unfollowed := true, recurses := true, plainKeys := false, apart := false, narrowed := true }
def RoundVisitsUptoSaid : Prop := roundVisitsUptoRow.holds Try.pinned (OpenSpec.upto roundVisitsSpec)

/-- 'bolsterlaw11.RoundPlans', WHERE WHAT IT READS IS OF BULK AT MOST 1048576: true; the input reads as it did. -/
def roundPlansUptoRow : OpenClaim := { program := "ytaanbdjmibjcbaa", sum := "b9bf390126ea22cf23c099a90285c6a3d061519f2b2b95f413187a930e7d77d5", func := "bolster/bolsterlaw11.RoundPlans", spec := "roundPlans", unfollowed := true, recurses := true, plainKeys := false, apart := false, narrowed := true }
def RoundPlansUptoSaid : Prop := roundPlansUptoRow.holds Try.pinned (OpenSpec.upto roundPlansSpec)

/-- 'bolsterlaw11.RoundAparts', WHERE WHAT IT READS IS OF BULK AT MOST 1048576: true; the input reads as it did. -/
def roundApartsUptoRow : OpenClaim := { program := "ytaanbdjmibjcbaa", sum := "b9bf390126ea22cf23c099a90285c6a3d061519f2b2b95f413187a930e7d77d5", func := "bolster/bolsterlaw11.RoundAparts", spec := "roundAparts", unfollowed := true, recurses := true, plainKeys := false, apart := false, narrowed := true }
def RoundApartsUptoSaid : Prop := roundApartsUptoRow.holds Try.pinned (OpenSpec.upto roundApartsSpec)

/-- 'bolsterlaw11.RoundKinds', WHERE WHAT IT READS IS OF BULK AT MOST 1048576: true; the input reads as it did. -/
def roundKindsUptoRow : OpenClaim := { program := "ytaanbdjmibjcbaa", sum := "b9bf390126ea22cf23c099a90285c6a3d061519f2b2b95f413187a930e7d77d5", func := "bolster/bolsterlaw11.RoundKinds", spec := "roundKinds", unfollowed := true, recurses := true, plainKeys := false, apart := false, narrowed := true }
def RoundKindsUptoSaid : Prop := roundKindsUptoRow.holds Try.pinned (OpenSpec.upto roundKindsSpec)

/-- 'bolsterlaw11.RoundProved', WHERE WHAT IT READS IS OF BULK AT MOST 1048576: true; the input reads as it did. -/
def roundProvedUptoRow : OpenClaim := { program := "ytaanbdjmibjcbaa", sum := "b9bf390126ea22cf23c099a90285c6a3d061519f2b2b95f413187a930e7d77d5", func := "bolster/bolsterlaw11.RoundProved", spec := "roundProved", unfollowed := true, recurses := true, plainKeys := false, apart := false, narrowed := true }
def RoundProvedUptoSaid : Prop := roundProvedUptoRow.holds Try.pinned (OpenSpec.upto roundProvedSpec)

/-- 'bolsterlaw11.RoundOrdered', WHERE WHAT IT READS IS OF BULK AT MOST 1048576: true; the input reads as it did. -/
def roundOrderedUptoRow : OpenClaim := { program := "ytaanbdjmibjcbaa", sum := "b9bf390126ea22cf23c099a90285c6a3d061519f2b2b95f413187a930e7d77d5", func := "bolster/bolsterlaw11.RoundOrdered", spec := "roundOrdered", unfollowed := true, recurses := true, plainKeys := false, apart := false, narrowed := true }
def RoundOrderedUptoSaid : Prop := roundOrderedUptoRow.holds Try.pinned (OpenSpec.upto roundOrderedSpec)

/-- 'bolsterlaw11.RoundFast', WHERE WHAT IT READS IS OF BULK AT MOST 1048576: true; the input reads as it did. -/
def roundFastUptoRow : OpenClaim := { program := "ytaanbdjmibjcbaa", sum := "b9bf390126ea22cf23c099a90285c6a3d061519f2b2b95f413187a930e7d77d5", func := "bolster/bolsterlaw11.RoundFast", spec := "roundFast", unfollowed := true, recurses := true, plainKeys := false, apart := false, narrowed := true }
def RoundFastUptoSaid : Prop := roundFastUptoRow.holds Try.pinned (OpenSpec.upto roundFastSpec)

/-- 'bolsterlaw11.RoundMore', WHERE WHAT IT READS IS OF BULK AT MOST 1048576: true; the input reads as it did. -/
def roundMoreUptoRow : OpenClaim := { program := "ytaanbdjmibjcbaa", sum := "b9bf390126ea22cf23c099a90285c6a3d061519f2b2b95f413187a930e7d77d5", func := "bolster/bolsterlaw11.RoundMore", spec := "roundMore", unfollowed := true, recurses := true, plainKeys := false, apart := false, narrowed := true }
def RoundMoreUptoSaid : Prop := roundMoreUptoRow.holds Try.pinned (OpenSpec.upto roundMoreSpec)

/-- 'bolsterlaw11.RoundJoined', WHERE WHAT IT READS IS OF BULK AT MOST 1048576: true; the input reads as it did. -/
def roundJoinedUptoRow : OpenClaim := { program := "ytaanbdjmibjcbaa", sum := "b9bf390126ea22cf23c099a90285c6a3d061519f2b2b95f413187a930e7d77d5", func := "bolster/bolsterlaw11.RoundJoined", spec := "roundJoined", unfollowed := true, recurses := true, plainKeys := false, apart := false, narrowed := true }
def RoundJoinedUptoSaid : Prop := roundJoinedUptoRow.holds Try.pinned (OpenSpec.upto roundJoinedSpec)

/-- 'bolsterlaw11.RoundTurned', WHERE WHAT IT READS IS OF BULK AT MOST 1048576: true; the input reads as it did. -/
def roundTurnedUptoRow : OpenClaim := { program := "ytaanbdjmibjcbaa", sum := "b9bf390126ea22cf23c099a90285c6a3d061519f2b2b95f413187a930e7d77d5", func := "bolster/bolsterlaw11.RoundTurned", spec := "roundTurned", unfollowed := true, recurses := true, plainKeys := false, apart := false, narrowed := true }
def RoundTurnedUptoSaid : Prop := roundTurnedUptoRow.holds Try.pinned (OpenSpec.upto roundTurnedSpec)

/-- 'bolsterlaw11.RoundKnown', WHERE WHAT IT READS IS OF BULK AT MOST 1048576: true; the input reads as it did. -/
def roundKnownUptoRow : OpenClaim := { program := "ytaanbdjmibjcbaa", sum := "b9bf390126ea22cf23c099a90285c6a3d061519f2b2b95f413187a930e7d77d5", func := "bolster/bolsterlaw11.RoundKnown", spec := "roundKnown", unfollowed := true, recurses := true, plainKeys := false, apart := false, narrowed := true }
def RoundKnownUptoSaid : Prop := roundKnownUptoRow.holds Try.pinned (OpenSpec.upto roundKnownSpec)

end Rows
end Go.Proofs.Ytaanbdjmibjcbaa
