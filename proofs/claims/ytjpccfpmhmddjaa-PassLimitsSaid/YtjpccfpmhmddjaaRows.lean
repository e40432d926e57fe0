/-
  No cell of these rows narrows 'for every input' (looked for: loops, veiled, ifaces, maps, wideKeys, modest, calm, conditions, laid).
  DERIVED. THE GIVEN ROWS OF THIS SEAT. 11 by the template 'for every input the law returns true; each argument reads behind the call as it read before'; 0 by the template 'total and deterministic' (their statements: YtjpccfpmhmddjaaTotals.lean).
  GIVEN WITH THE SEED: the statements are not yours to turn. If you find one false, say at which input.
  Laid BY PROGRAM, IN A SANDBOX (cutbox-rows.mjs): the forced cells as the released guide's own fill.sh prints them over the translation c7d80ef7aecbaa4e… (all of the seat's roots in one cut). By AI agents, Wed Nov 11 2026. No macro, syntax, notation, axiom, sorry.
-/
import Derived.Test.YtjpccfpmhmddjaaChecked
import GoSem.Claim
import GoSem.ClaimJoined
import GoSem.ClaimMapViews
import Derived.JoinedTies
import Derived.KernelRfl
namespace Go.Proofs.Ytjpccfpmhmddjaa
/- THE CELL 'sum', in the pinned program and in every row, IS THE sha256 OF THE DUMP (.gsa) THAT YtjpccfpmhmddjaaProg.lean LOADS. Nothing in Lean hashes anything: it is a label: what it is worth is what the hold of that sum in a sandbox is worth. -/
noncomputable def Try.pinned : Pinned := { name := "ytjpccfpmhmddjaa", sum := "c7d80ef7aecbaa4e9dce30f24f74e3b6a28d1255f1b52d63fed350addace549c", checked := Try.checked }
namespace Rows
def none {H : Type} : Left H := { results := [], args := [] }

/-- 'bolsterlaw04.PassJobs': WHATEVER THE INPUT: true; the input reads as it did. -/
def passJobsSpec : ChangeSpec := { name := "passJobs", fn := fun _ => fun
  | [d1, d2, d3, d4] => { results := [.lit (.bool true)], args := [d1, d2, d3, d4] }
  | _ => none }
def passJobsRow : OpenClaim := { program := "ytjpccfpmhmddjaa", sum := "c7d80ef7aecbaa4e9dce30f24f74e3b6a28d1255f1b52d63fed350addace549c", func := "bolster/bolsterlaw04.PassJobs", spec := "passJobs", unfollowed := true, recurses := true, plainKeys := false, apart := false }
def PassJobsSaid : Prop := passJobsRow.holds Try.pinned (OpenSpec.ofChange passJobsSpec)

/-- ITS FALSE NEIGHBOUR: 'it returns false'. Refute it at one input. -/
def passJobsWrong : ChangeSpec := { name := "passJobs", fn := fun _ => fun
  | [d1, d2, d3, d4] => { results := [.lit (.bool false)], args := [d1, d2, d3, d4] }
  | _ => none }
def PassJobsWrongFalsely : Prop := passJobsRow.holds Try.pinned (OpenSpec.ofChange passJobsWrong)

/-- 'bolsterlaw04.PassBests': WHATEVER THE INPUT: true; the input reads as it did. -/
def passBestsSpec : ChangeSpec := { name := "passBests", fn := fun _ => fun
  | [d1, d2] => { results := [.lit (.bool true)], args := [d1, d2] }
  | _ => none }
def passBestsRow : OpenClaim := { program := "ytjpccfpmhmddjaa", sum := "c7d80ef7aecbaa4e9dce30f24f74e3b6a28d1255f1b52d63fed350addace549c", func := "bolster/bolsterlaw04.PassBests", spec := "passBests", unfollowed := true, recurses := true, plainKeys := false, apart := false }
def PassBestsSaid : Prop := passBestsRow.holds Try.pinned (OpenSpec.ofChange passBestsSpec)

/-- ITS FALSE NEIGHBOUR: 'it returns false'. Refute it at one input. -/
def passBestsWrong : ChangeSpec := { name := "passBests", fn := fun _ => fun
  | [d1, d2] => { results := [.lit (.bool false)], args := [d1, d2] }
  | _ => none }
def PassBestsWrongFalsely : Prop := passBestsRow.holds Try.pinned (OpenSpec.ofChange passBestsWrong)

/-- 'bolsterlaw04.PassBarriers': WHATEVER THE INPUT: true; the input reads as it did. -/
def passBarriersSpec : ChangeSpec := { name := "passBarriers", fn := fun _ => fun
  | [d1, d2] => { results := [.lit (.bool true)], args := [d1, d2] }
  | _ => none }
def passBarriersRow : OpenClaim := { program := "ytjpccfpmhmddjaa", sum := "c7d80ef7aecbaa4e9dce30f24f74e3b6a28d1255f1b52d63fed350addace549c", func := "bolster/bolsterlaw04.PassBarriers", spec := "passBarriers", unfollowed := true, recurses := true, plainKeys := false, apart := false }
def PassBarriersSaid : Prop := passBarriersRow.holds Try.pinned (OpenSpec.ofChange passBarriersSpec)

/-- ITS FALSE NEIGHBOUR: 'it returns false'. Refute it at one input. -/
def passBarriersWrong : ChangeSpec := { name := "passBarriers", fn := fun _ => fun
  | [d1, d2] => { results := [.lit (.bool false)], args := [d1, d2] }
  | _ => none }
def PassBarriersWrongFalsely : Prop := passBarriersRow.holds Try.pinned (OpenSpec.ofChange passBarriersWrong)

/-- 'bolsterlaw04.PassMusts': WHATEVER THE INPUT: true; the input reads as it did. -/
def passMustsSpec : ChangeSpec := { name := "passMusts", fn := fun _ => fun
  | [d1, d2, d3, d4] => { results := [.lit (.bool true)], args := [d1, d2, d3, d4] }
  | _ => none }
def passMustsRow : OpenClaim := { program := "ytjpccfpmhmddjaa", sum := "c7d80ef7aecbaa4e9dce30f24f74e3b6a28d1255f1b52d63fed350addace549c", func := "bolster/bolsterlaw04.PassMusts", spec := "passMusts", unfollowed := true, recurses := true, plainKeys := false, apart := false }
def PassMustsSaid : Prop := passMustsRow.holds Try.pinned (OpenSpec.ofChange passMustsSpec)

/-- ITS FALSE NEIGHBOUR: 'it returns false'. Refute it at one input. -/
def passMustsWrong : ChangeSpec := { name := "passMusts", fn := fun _ => fun
  | [d1, d2, d3, d4] => { results := [.lit (.bool false)], args := [d1, d2, d3, d4] }
  | _ => none }
def PassMustsWrongFalsely : Prop := passMustsRow.holds Try.pinned (OpenSpec.ofChange passMustsWrong)

/-- 'bolsterlaw04.PassProved': WHATEVER THE INPUT: true; the input reads as it did. -/
def passProvedSpec : ChangeSpec := { name := "passProved", fn := fun _ => fun
  | [d1, d2, d3, d4] => { results := [.lit (.bool true)], args := [d1, d2, d3, d4] }
  | _ => none }
def passProvedRow : OpenClaim := { program := "ytjpccfpmhmddjaa", sum := "c7d80ef7aecbaa4e9dce30f24f74e3b6a28d1255f1b52d63fed350addace549c", func := "bolster/bolsterlaw04.PassProved", spec := "passProved", unfollowed := true, recurses := true, plainKeys := false, apart := false }
def PassProvedSaid : Prop := passProvedRow.holds Try.pinned (OpenSpec.ofChange passProvedSpec)

/-- ITS FALSE NEIGHBOUR: 'it returns false'. Refute it at one input. -/
def passProvedWrong : ChangeSpec := { name := "passProved", fn := fun _ => fun
  | [d1, d2, d3, d4] => { results := [.lit (.bool false)], args := [d1, d2, d3, d4] }
  | _ => none }
def PassProvedWrongFalsely : Prop := passProvedRow.holds Try.pinned (OpenSpec.ofChange passProvedWrong)

/-- 'bolsterlaw04.PassLimits': WHATEVER THE INPUT: true; the input reads as it did. -/
def passLimitsSpec : ChangeSpec := { name := "passLimits", fn := fun _ => fun
  | [d1, d2, d3, d4, d5] => { results := [.lit (.bool true)], args := [d1, d2, d3, d4, d5] }
  | _ => none }
def passLimitsRow : OpenClaim := { program := "ytjpccfpmhmddjaa", sum := "c7d80ef7aecbaa4e9dce30f24f74e3b6a28d1255f1b52d63fed350addace549c", func := "bolster/bolsterlaw04.PassLimits", spec := "passLimits", unfollowed := true, recurses := true, plainKeys := false, apart := false }
def PassLimitsSaid : Prop := passLimitsRow.holds Try.pinned (OpenSpec.ofChange passLimitsSpec)

/-- ITS FALSE NEIGHBOUR: 'it returns false'. Refute it at one input. -/
def passLimitsWrong : ChangeSpec := { name := "passLimits", fn := fun _ => fun
  | [d1, d2, d3, d4, d5] => { results := [.lit (.bool false)], args := [d1, d2, d3, d4, d5] }
  | _ => none }
def PassLimitsWrongFalsely : Prop := passLimitsRow.holds Try.pinned (OpenSpec.ofChange passLimitsWrong)

/-- 'bolsterlaw04.PassTold': WHATEVER THE INPUT: true; the input reads as it did. -/
def passToldSpec : ChangeSpec := { name := "passTold", fn := fun _ => fun
  | [d1, d2, d3] => { results := [.lit (.bool true)], args := [d1, d2, d3] }
  | _ => none }
def passToldRow : OpenClaim := { program := "ytjpccfpmhmddjaa", sum := "c7d80ef7aecbaa4e9dce30f24f74e3b6a28d1255f1b52d63fed350addace549c", func := "bolster/bolsterlaw04.PassTold", spec := "passTold", unfollowed := true, recurses := true, plainKeys := false, apart := false }
def PassToldSaid : Prop := passToldRow.holds Try.pinned (OpenSpec.ofChange passToldSpec)

/-- ITS FALSE NEIGHBOUR: 'it returns false'. Refute it at one input. -/
def passToldWrong : ChangeSpec := { name := "passTold", fn := fun _ => fun
  | [d1, d2, d3] => { results := [.lit (.bool false)], args := [d1, d2, d3] }
  | _ => none }
def PassToldWrongFalsely : Prop := passToldRow.holds Try.pinned (OpenSpec.ofChange passToldWrong)

/-- 'bolsterlaw04.PassTurned': WHATEVER THE INPUT: true; the input reads as it did. -/
def passTurnedSpec : ChangeSpec := { name := "passTurned", fn := fun _ => fun
  | [d1, d2, d3] => { results := [.lit (.bool true)], args := [d1, d2, d3] }
  | _ => none }
def passTurnedRow : OpenClaim := { program := "ytjpccfpmhmddjaa", sum := "c7d80ef7aecbaa4e9dce30f24f74e3b6a28d1255f1b52d63fed350addace549c", func := "bolster/bolsterlaw04.PassTurned", spec := "passTurned", unfollowed := true, recurses := true, plainKeys := false, apart := false }
def PassTurnedSaid : Prop := passTurnedRow.holds Try.pinned (OpenSpec.ofChange passTurnedSpec)

/-- ITS FALSE NEIGHBOUR: 'it returns false'. Refute it at one input. -/
def passTurnedWrong : ChangeSpec := { name := "passTurned", fn := fun _ => fun
  | [d1, d2, d3] => { results := [.lit (.bool false)], args := [d1, d2, d3] }
  | _ => none }
def PassTurnedWrongFalsely : Prop := passTurnedRow.holds Try.pinned (OpenSpec.ofChange passTurnedWrong)

/-- 'bolsterlaw04.PassFree': WHATEVER THE INPUT: true; the input reads as it did. -/
def passFreeSpec : ChangeSpec := { name := "passFree", fn := fun _ => fun
  | [d] => { results := [.lit (.bool true)], args := [d] }
  | _ => none }
def passFreeRow : OpenClaim := { program := "ytjpccfpmhmddjaa", sum := "c7d80ef7aecbaa4e9dce30f24f74e3b6a28d1255f1b52d63fed350addace549c", func := "bolster/bolsterlaw04.PassFree", spec := "passFree", unfollowed := true, recurses := true, plainKeys := false, apart := false }
def PassFreeSaid : Prop := passFreeRow.holds Try.pinned (OpenSpec.ofChange passFreeSpec)

/-- ITS FALSE NEIGHBOUR: 'it returns false'. Refute it at one input. -/
def passFreeWrong : ChangeSpec := { name := "passFree", fn := fun _ => fun
  | [d] => { results := [.lit (.bool false)], args := [d] }
  | _ => none }
def PassFreeWrongFalsely : Prop := passFreeRow.holds Try.pinned (OpenSpec.ofChange passFreeWrong)

/-- 'bolsterlaw04.PassShifted': WHATEVER THE INPUT: true; the input reads as it did. -/
def passShiftedSpec : ChangeSpec := { name := "passShifted", fn := fun _ => fun
  | [d1, d2, d3, d4, d5, d6] => { results := [.lit (.bool true)], args := [d1, d2, d3, d4, d5, d6] }
  | _ => none }
def passShiftedRow : OpenClaim := { program := "ytjpccfpmhmddjaa", sum := "c7d80ef7aecbaa4e9dce30f24f74e3b6a28d1255f1b52d63fed350addace549c", func := "bolster/bolsterlaw04.PassShifted", spec := "passShifted", unfollowed := true, recurses := true, plainKeys := false, apart := false }
def PassShiftedSaid : Prop := passShiftedRow.holds Try.pinned (OpenSpec.ofChange passShiftedSpec)

/-- ITS FALSE NEIGHBOUR: 'it returns false'. Refute it at one input. -/
def passShiftedWrong : ChangeSpec := { name := "passShifted", fn := fun _ => fun
  | [d1, d2, d3, d4, d5, d6] => { results := [.lit (.bool false)], args := [d1, d2, d3, d4, d5, d6] }
  | _ => none }
def PassShiftedWrongFalsely : Prop := passShiftedRow.holds Try.pinned (OpenSpec.ofChange passShiftedWrong)

/-- 'bolsterlaw04.PassKnown': WHATEVER THE INPUT: true; the input reads as it did. -/
def passKnownSpec : ChangeSpec := { name := "passKnown", fn := fun _ => fun
  | [] => { results := [.lit (.bool true)], args := [] }
  | _ => none }
def passKnownRow : OpenClaim := { program := "ytjpccfpmhmddjaa", sum := "c7d80ef7aecbaa4e9dce30f24f74e3b6a28d1255f1b52d63fed350addace549c", func := "bolster/bolsterlaw04.PassKnown", spec := "passKnown", unfollowed := true, recurses := true, plainKeys := false, apart := false }
def PassKnownSaid : Prop := passKnownRow.holds Try.pinned (OpenSpec.ofChange passKnownSpec)

/-- ITS FALSE NEIGHBOUR: 'it returns false'. Refute it at one input. -/
def passKnownWrong : ChangeSpec := { name := "passKnown", fn := fun _ => fun
  | [] => { results := [.lit (.bool false)], args := [] }
  | _ => none }
def PassKnownWrongFalsely : Prop := passKnownRow.holds Try.pinned (OpenSpec.ofChange passKnownWrong)

/- THE SECOND FORM. 'bulk': how many values and letters a reading holds, each counted each time it is reached (what is shared counts as often as it is met; a slice's spare places count too). A statement '..UptoSaid' is the law's where the arguments, and the package variables that the reading takes, are together of bulk at most 1048576: NARROWER than '..Said'. Prove '..Said' where nothing that the law and all that it calls make is longer than what came in: it says more and counts as full. Else prove '..UptoSaid'. A law counts once. -/
mutual
def uptoBulk {H : Type} : DataW H → Nat
  | .lit (.string bytes) => bytes.length + 1
  | .lit _ => 1
  | .nil => 1
  | .ptr d => uptoBulk d + 1
  | .slice elems spare => uptoBulkAll elems + uptoBulkAll spare + 1
  | .agg parts => uptoBulkAll parts + 1
  | .iface _ d => uptoBulk d + 1
  | .map entries => uptoBulkEntries entries + 1
  | .held _ => 1
def uptoBulkAll {H : Type} : List (DataW H) → Nat
  | [] => 0
  | d :: r => uptoBulk d + uptoBulkAll r
def uptoBulkEntries {H : Type} : List (Lit × DataW H) → Nat
  | [] => 0
  | x :: r => uptoBulkEntry x + uptoBulkEntries r
def uptoBulkEntry {H : Type} : Lit × DataW H → Nat
  | (.string bytes, d) => bytes.length + uptoBulk d + 1
  | (_, d) => uptoBulk d + 1
 end
def uptoSmall : (H : Type) → List (DataW H) → Bool := fun _ ds => decide (uptoBulkAll ds ≤ 1048576)
def OpenSpec.upto (s : _root_.Go.ChangeSpec) : _root_.Go.OpenSpec := { _root_.Go.OpenSpec.ofChange s with cond := some uptoSmall }

/-- 'bolsterlaw04.PassJobs', WHERE WHAT IT READS IS OF BULK AT MOST 1048576: true; the input reads as it did. -/
def passJobsUptoRow : OpenClaim := { program := "ytjpccfpmhmddjaa", sum := "c7d80ef7aecbaa4e9dce30f24f74e3b6a28d1255f1b52d63fed350addace549c", func := "bolster/bolsterlaw04.PassJobs", spec := "passJobs", unfollowed := true, recurses := true, plainKeys := false, apart := false, narrowed := true }
def PassJobsUptoSaid : Prop := passJobsUptoRow.holds Try.pinned (OpenSpec.upto passJobsSpec)

/-- 'bolsterlaw04.PassBests', WHERE WHAT IT READS IS OF BULK AT MOST 1048576: true; the input reads as it did. -/
def passBestsUptoRow : OpenClaim := { program := "ytjpccfpmhmddjaa", sum := "c7d80ef7aecbaa4e9dce30f24f74e3b6a28d1255f1b52d63fed350addace549c", func := "bolster/bolsterlaw04.PassBests", spec := "passBests", unfollowed := true, recurses := true, plainKeys := false, apart := false, narrowed := true }
def PassBestsUptoSaid : Prop := passBestsUptoRow.holds Try.pinned (OpenSpec.upto passBestsSpec)

/-- 'bolsterlaw04.PassBarriers', WHERE WHAT IT READS IS OF BULK AT MOST 1048576: true; the input reads as it did. -/
def passBarriersUptoRow : OpenClaim := { program := "ytjpccfpmhmddjaa", sum := "c7d80ef7aecbaa4e9dce30f24f74e3b6a28d1255f1b52d63fed350addace549c", func := "bolster/bolsterlaw04.PassBarriers", spec := "passBarriers", unfollowed := true, recurses := true, plainKeys := false, apart := false, narrowed := true }
def PassBarriersUptoSaid : Prop := passBarriersUptoRow.holds Try.pinned (OpenSpec.upto passBarriersSpec)

/-- 'bolsterlaw04.PassMusts', WHERE WHAT IT READS IS OF BULK AT MOST 1048576: true; the input reads as it did. -/
def passMustsUptoRow : OpenClaim := { program := "ytjpccfpmhmddjaa", sum := "c7d80ef7aecbaa4e9dce30f24f74e3b6a28d1255f1b52d63fed350addace549c", func := "bolster/bolsterlaw04.PassMusts", spec := "passMusts", unfollowed := true, recurses := true, plainKeys := false, apart := false, narrowed := true }
def PassMustsUptoSaid : Prop := passMustsUptoRow.holds Try.pinned (OpenSpec.upto passMustsSpec)

/-- 'bolsterlaw04.PassProved', WHERE WHAT IT READS IS OF BULK AT MOST 1048576: true; the input reads as it did. -/
def passProvedUptoRow : OpenClaim := { program := "ytjpccfpmhmddjaa", sum := "c7d80ef7aecbaa4e9dce30f24f74e3b6a28d1255f1b52d63fed350addace549c", func := "bolster/bolsterlaw04.PassProved", spec := "passProved", unfollowed := true, recurses := true, plainKeys := false, apart := false, narrowed := true }
def PassProvedUptoSaid : Prop := passProvedUptoRow.holds Try.pinned (OpenSpec.upto passProvedSpec)

/-- 'bolsterlaw04.PassLimits', WHERE WHAT IT READS IS OF BULK AT MOST 1048576: true; the input reads as it did. -/
def passLimitsUptoRow : OpenClaim := { program := "ytjpccfpmhmddjaa", sum := "c7d80ef7aecbaa4e9dce30f24f74e3b6a28d1255f1b52d63fed350addace549c", func := "bolster/bolsterlaw04.PassLimits", spec := "passLimits", unfollowed := true, recurses := true, plainKeys := false, apart := false, narrowed := true }
def PassLimitsUptoSaid : Prop := passLimitsUptoRow.holds Try.pinned (OpenSpec.upto passLimitsSpec)

/-- 'bolsterlaw04.PassTold', WHERE WHAT IT READS IS OF BULK AT MOST 1048576: true; the input reads as it did. -/
def passToldUptoRow : OpenClaim := { program := "ytjpccfpmhmddjaa", sum := "c7d80ef7aecbaa4e9dce30f24f74e3b6a28d1255f1b52d63fed350addace549c", func := "bolster/bolsterlaw04.PassTold", spec := "passTold", unfollowed := true, recurses := true, plainKeys := false, apart := false, narrowed := true }
def PassToldUptoSaid : Prop := passToldUptoRow.holds Try.pinned (OpenSpec.upto passToldSpec)

/-- 'bolsterlaw04.PassTurned', WHERE WHAT IT READS IS OF BULK AT MOST 1048576: true; the input reads as it did. -/
def passTurnedUptoRow : OpenClaim := { program := "ytjpccfpmhmddjaa", sum := "c7d80ef7aecbaa4e9dce30f24f74e3b6a28d1255f1b52d63fed350addace549c", func := "bolster/bolsterlaw04.PassTurned", spec := "passTurned", unfollowed := true, recurses := true, plainKeys := false, apart := false, narrowed := true }
def PassTurnedUptoSaid : Prop := passTurnedUptoRow.holds Try.pinned (OpenSpec.upto passTurnedSpec)

/-- 'bolsterlaw04.PassFree', WHERE WHAT IT READS IS OF BULK AT MOST 1048576: true; the input reads as it did. -/
def passFreeUptoRow : OpenClaim := { program := "ytjpccfpmhmddjaa", sum := "c7d80ef7aecbaa4e9dce30f24f74e3b6a28d1255f1b52d63fed350addace549c", func := "bolster/bolsterlaw04.PassFree", spec := "passFree", unfollowed := true, recurses := true, plainKeys := false, apart := false, narrowed := true }
def PassFreeUptoSaid : Prop := passFreeUptoRow.holds Try.pinned (OpenSpec.upto passFreeSpec)

/-- 'bolsterlaw04.PassShifted', WHERE WHAT IT READS IS OF BULK AT MOST 1048576: true; the input reads as it did. -/
def passShiftedUptoRow : OpenClaim := { program := "ytjpccfpmhmddjaa", sum := "c7d80ef7aecbaa4e9dce30f24f74e3b6a28d1255f1b52d63fed350addace549c", func := "bolster/bolsterlaw04.PassShifted", spec := "passShifted", unfollowed := true, recurses := true, plainKeys := false, apart := false, narrowed := true }
def PassShiftedUptoSaid : Prop := passShiftedUptoRow.holds Try.pinned (OpenSpec.upto passShiftedSpec)

/-- 'bolsterlaw04.PassKnown', WHERE WHAT IT READS IS OF BULK AT MOST 1048576: true; the input reads as it did. -/
def passKnownUptoRow : OpenClaim := { program := "ytjpccfpmhmddjaa", sum := "c7d80ef7aecbaa4e9dce30f24f74e3b6a28d1255f1b52d63fed350addace549c", func := "bolster/bolsterlaw04.PassKnown", spec := "passKnown", unfollowed := true, recurses := true, plainKeys := false, apart := false, narrowed := true }
def PassKnownUptoSaid : Prop := passKnownUptoRow.holds Try.pinned (OpenSpec.upto passKnownSpec)

end Rows
end Go.Proofs.Ytjpccfpmhmddjaa
