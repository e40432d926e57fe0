/-
  No cell of these rows narrows 'for every input' (looked for: loops, veiled, ifaces, maps, wideKeys, modest, calm, conditions, laid).
  DERIVED. THE GIVEN ROWS OF THIS SEAT. 9 by the template 'for every input the law returns true; each argument reads behind the call as it read before'; 0 by the template 'total and deterministic' (their statements: YtdminglglapnlaaTotals.lean).
  GIVEN WITH THE SEED: the statements are not yours to turn. If you find one false, say at which input.
  Laid BY PROGRAM, IN A SANDBOX (cutbox-rows.mjs): the forced cells as the released guide's own fill.sh prints them over the translation d8ecf01590186c8d… (all of the seat's roots in one cut). By AI agents, Wed Nov 11 2026. No macro, syntax, notation, axiom, sorry.
-/
import Derived.Test.YtdminglglapnlaaChecked
import GoSem.Claim
import GoSem.ClaimJoined
import GoSem.ClaimMapViews
import Derived.JoinedTies
import Derived.KernelRfl
namespace Go.Proofs.Ytdminglglapnlaa
/- THE CELL 'sum', in the pinned program and in every row, IS THE sha256 OF THE DUMP (.gsa) THAT YtdminglglapnlaaProg.lean LOADS. Nothing in Lean hashes anything: it is a label: what it is worth is what the hold of that sum in a sandbox is worth. -/
noncomputable def Try.pinned : Pinned := { name := "ytdminglglapnlaa", sum := "d8ecf01590186c8dd9d5bc2022efe688c96a3a11f2f834a2721a9ba334b6442e", checked := Try.checked }
namespace Rows
def none {H : Type} : Left H := { results := [], args := [] }

/-- 'bolsterlaw10.MarkRegisters': WHATEVER THE INPUT: true; the input reads as it did. -/
def markRegistersSpec : ChangeSpec := { name := "markRegisters", fn := fun _ => fun
  | [d1, d2, d3] => { results := [.lit (.bool true)], args := [d1, d2, d3] }
  | _ => none }
def markRegistersRow : OpenClaim := { program := "ytdminglglapnlaa", sum := "d8ecf01590186c8dd9d5bc2022efe688c96a3a11f2f834a2721a9ba334b6442e", func := "bolster/bolsterlaw10.MarkRegisters", spec := "markRegisters", unfollowed := true, recurses := true, apart := false }
def MarkRegistersSaid : Prop := markRegistersRow.holds Try.pinned (OpenSpec.ofChange markRegistersSpec)

/-- ITS FALSE NEIGHBOUR: 'it returns false'. Refute it at one input. -/
def markRegistersWrong : ChangeSpec := { name := "markRegisters", fn := fun _ => fun
  | [d1, d2, d3] => { results := [.lit (.bool false)], args := [d1, d2, d3] }
  | _ => none }
def MarkRegistersWrongFalsely : Prop := markRegistersRow.holds Try.pinned (OpenSpec.ofChange markRegistersWrong)

/-- 'bolsterlaw10.MarkBests': WHATEVER THE INPUT: true; the input reads as it did. -/
def markBestsSpec : ChangeSpec := { name := "markBests", fn := fun _ => fun
  | [d1, d2] => { results := [.lit (.bool true)], args := [d1, d2] }
  | _ => none }
def markBestsRow : OpenClaim := { program := "ytdminglglapnlaa", sum := "d8ecf01590186c8dd9d5bc2022efe688c96a3a11f2f834a2721a9ba334b6442e", func := "bolster/bolsterlaw10.MarkBests", spec := "markBests", unfollowed := true, recurses := true, apart := false }
def MarkBestsSaid : Prop := markBestsRow.holds Try.pinned (OpenSpec.ofChange markBestsSpec)

/-- ITS FALSE NEIGHBOUR: 'it returns false'. Refute it at one input. -/
def markBestsWrong : ChangeSpec := { name := "markBests", fn := fun _ => fun
  | [d1, d2] => { results := [.lit (.bool false)], args := [d1, d2] }
  | _ => none }
def MarkBestsWrongFalsely : Prop := markBestsRow.holds Try.pinned (OpenSpec.ofChange markBestsWrong)

/-- 'bolsterlaw10.MarkFixed': WHATEVER THE INPUT: true; the input reads as it did. -/
def markFixedSpec : ChangeSpec := { name := "markFixed", fn := fun _ => fun
  | [d1, d2] => { results := [.lit (.bool true)], args := [d1, d2] }
  | _ => none }
def markFixedRow : OpenClaim := { program := "ytdminglglapnlaa", sum := "d8ecf01590186c8dd9d5bc2022efe688c96a3a11f2f834a2721a9ba334b6442e", func := "bolster/bolsterlaw10.MarkFixed", spec := "markFixed", unfollowed := true, recurses := true, apart := false }
def MarkFixedSaid : Prop := markFixedRow.holds Try.pinned (OpenSpec.ofChange markFixedSpec)

/-- ITS FALSE NEIGHBOUR: 'it returns false'. Refute it at one input. -/
def markFixedWrong : ChangeSpec := { name := "markFixed", fn := fun _ => fun
  | [d1, d2] => { results := [.lit (.bool false)], args := [d1, d2] }
  | _ => none }
def MarkFixedWrongFalsely : Prop := markFixedRow.holds Try.pinned (OpenSpec.ofChange markFixedWrong)

/-- 'bolsterlaw10.MarkProved': WHATEVER THE INPUT: true; the input reads as it did. -/
def markProvedSpec : ChangeSpec := { name := "markProved", fn := fun _ => fun
  | [d1, d2, d3, d4] => { results := [.lit (.bool true)], args := [d1, d2, d3, d4] }
  | _ => none }
def markProvedRow : OpenClaim := { program := "ytdminglglapnlaa", sum := "d8ecf01590186c8dd9d5bc2022efe688c96a3a11f2f834a2721a9ba334b6442e", func := "bolster/bolsterlaw10.MarkProved", spec := "markProved", unfollowed := true, recurses := true, apart := false }
def MarkProvedSaid : Prop := markProvedRow.holds Try.pinned (OpenSpec.ofChange markProvedSpec)

/-- ITS FALSE NEIGHBOUR: 'it returns false'. Refute it at one input. -/
def markProvedWrong : ChangeSpec := { name := "markProved", fn := fun _ => fun
  | [d1, d2, d3, d4] => { results := [.lit (.bool false)], args := [d1, d2, d3, d4] }
  | _ => none }
def MarkProvedWrongFalsely : Prop := markProvedRow.holds Try.pinned (OpenSpec.ofChange markProvedWrong)

/-- 'bolsterlaw10.MarkFollowed': WHATEVER THE INPUT: true; the input reads as it did. -/
def markFollowedSpec : ChangeSpec := { name := "markFollowed", fn := fun _ => fun
  | [d1, d2, d3, d4] => { results := [.lit (.bool true)], args := [d1, d2, d3, d4] }
  | _ => none }
def markFollowedRow : OpenClaim := { program := "ytdminglglapnlaa", sum := "d8ecf01590186c8dd9d5bc2022efe688c96a3a11f2f834a2721a9ba334b6442e", func := "bolster/bolsterlaw10.MarkFollowed", spec := "markFollowed", unfollowed := true, recurses := true, apart := false }
def MarkFollowedSaid : Prop := markFollowedRow.holds Try.pinned (OpenSpec.ofChange markFollowedSpec)

/-- ITS FALSE NEIGHBOUR: 'it returns false'. Refute it at one input. -/
def markFollowedWrong : ChangeSpec := { name := "markFollowed", fn := fun _ => fun
  | [d1, d2, d3, d4] => { results := [.lit (.bool false)], args := [d1, d2, d3, d4] }
  | _ => none }
def MarkFollowedWrongFalsely : Prop := markFollowedRow.holds Try.pinned (OpenSpec.ofChange markFollowedWrong)

/-- 'bolsterlaw10.MarkCheaper': WHATEVER THE INPUT: true; the input reads as it did. -/
def markCheaperSpec : ChangeSpec := { name := "markCheaper", fn := fun _ => fun
  | [d1, d2] => { results := [.lit (.bool true)], args := [d1, d2] }
  | _ => none }
def markCheaperRow : OpenClaim := { program := "ytdminglglapnlaa", sum := "d8ecf01590186c8dd9d5bc2022efe688c96a3a11f2f834a2721a9ba334b6442e", func := "bolster/bolsterlaw10.MarkCheaper", spec := "markCheaper", unfollowed := true, recurses := true, apart := false }
def MarkCheaperSaid : Prop := markCheaperRow.holds Try.pinned (OpenSpec.ofChange markCheaperSpec)

/-- ITS FALSE NEIGHBOUR: 'it returns false'. Refute it at one input. -/
def markCheaperWrong : ChangeSpec := { name := "markCheaper", fn := fun _ => fun
  | [d1, d2] => { results := [.lit (.bool false)], args := [d1, d2] }
  | _ => none }
def MarkCheaperWrongFalsely : Prop := markCheaperRow.holds Try.pinned (OpenSpec.ofChange markCheaperWrong)

/-- 'bolsterlaw10.MarkMore': WHATEVER THE INPUT: true; the input reads as it did. -/
def markMoreSpec : ChangeSpec := { name := "markMore", fn := fun _ => fun
  | [d1, d2, d3, d4, d5, d6, d7] => { results := [.lit (.bool true)], args := [d1, d2, d3, d4, d5, d6, d7] }
  | _ => none }
def markMoreRow : OpenClaim := { program := "ytdminglglapnlaa", sum := "d8ecf01590186c8dd9d5bc2022efe688c96a3a11f2f834a2721a9ba334b6442e", func := "bolster/bolsterlaw10.MarkMore", spec := "markMore", unfollowed := true, recurses := true, apart := false }
def MarkMoreSaid : Prop := markMoreRow.holds Try.pinned (OpenSpec.ofChange markMoreSpec)

/-- ITS FALSE NEIGHBOUR: 'it returns false'. Refute it at one input. -/
def markMoreWrong : ChangeSpec := { name := "markMore", fn := fun _ => fun
  | [d1, d2, d3, d4, d5, d6, d7] => { results := [.lit (.bool false)], args := [d1, d2, d3, d4, d5, d6, d7] }
  | _ => none }
def MarkMoreWrongFalsely : Prop := markMoreRow.holds Try.pinned (OpenSpec.ofChange markMoreWrong)

/-- 'bolsterlaw10.MarkTurned': WHATEVER THE INPUT: true; the input reads as it did. -/
def markTurnedSpec : ChangeSpec := { name := "markTurned", fn := fun _ => fun
  | [d1, d2, d3, d4, d5] => { results := [.lit (.bool true)], args := [d1, d2, d3, d4, d5] }
  | _ => none }
def markTurnedRow : OpenClaim := { program := "ytdminglglapnlaa", sum := "d8ecf01590186c8dd9d5bc2022efe688c96a3a11f2f834a2721a9ba334b6442e", func := "bolster/bolsterlaw10.MarkTurned", spec := "markTurned", unfollowed := true, recurses := true, apart := false }
def MarkTurnedSaid : Prop := markTurnedRow.holds Try.pinned (OpenSpec.ofChange markTurnedSpec)

/-- ITS FALSE NEIGHBOUR: 'it returns false'. Refute it at one input. -/
def markTurnedWrong : ChangeSpec := { name := "markTurned", fn := fun _ => fun
  | [d1, d2, d3, d4, d5] => { results := [.lit (.bool false)], args := [d1, d2, d3, d4, d5] }
  | _ => none }
def MarkTurnedWrongFalsely : Prop := markTurnedRow.holds Try.pinned (OpenSpec.ofChange markTurnedWrong)

/-- 'bolsterlaw10.MarkKnown': WHATEVER THE INPUT: true; the input reads as it did. -/
def markKnownSpec : ChangeSpec := { name := "markKnown", fn := fun _ => fun
  | [] => { results := [.lit (.bool true)], args := [] }
  | _ => none }
def markKnownRow : OpenClaim := { program := "ytdminglglapnlaa", sum := "d8ecf01590186c8dd9d5bc2022efe688c96a3a11f2f834a2721a9ba334b6442e", func := "bolster/bolsterlaw10.MarkKnown", spec := "markKnown", unfollowed := true, recurses := true, apart := false }
def MarkKnownSaid : Prop := markKnownRow.holds Try.pinned (OpenSpec.ofChange markKnownSpec)

/-- ITS FALSE NEIGHBOUR: 'it returns false'. Refute it at one input. -/
def markKnownWrong : ChangeSpec := { name := "markKnown", fn := fun _ => fun
  | [] => { results := [.lit (.bool false)], args := [] }
  | _ => none }
def MarkKnownWrongFalsely : Prop := markKnownRow.holds Try.pinned (OpenSpec.ofChange markKnownWrong)

/- THE SECOND FORM. 'bulk': how many values and letters a reading holds, each counted each time it is reached (what is shared counts as often as it is met; a slice's spare places count too). A statement '..UptoSaid' is the law's where the arguments, and the package variables that the reading takes, are together of bulk at most 1048576: NARROWER than '..Said'. Prove '..Said' where nothing that the law and all that it calls make is longer than what came in: it says more and counts as full. Else prove '..UptoSaid'. A law counts once. -/
mutual
def uptoBulk {H : Type} : DataW H → Nat
  | .lit (.string bytes) => bytes.length + 1
  | .lit _ => 1
  | .nil => 1
  | .ptr d => uptoBulk d + 1
  | .slice elems spare => uptoBulkAll elems + uptoBulkAll spare + 1
  | .agg parts => uptoBulkAll parts + 1
  | .iface _ d => uptoBulk d + 1
  | .map entries => uptoBulkEntries entries + 1
  | .held _ => 1
def uptoBulkAll {H : Type} : List (DataW H) → Nat
  | [] => 0
  | d :: r => uptoBulk d + uptoBulkAll r
def uptoBulkEntries {H : Type} : List (Lit × DataW H) → Nat
  | [] => 0
  | x :: r => uptoBulkEntry x + uptoBulkEntries r
def uptoBulkEntry {H : Type} : Lit × DataW H → Nat
  | (.string bytes, d) => bytes.length + uptoBulk d + 1
  | (_, d) => uptoBulk d + 1
 end
def uptoSmall : (H : Type) → List (DataW H) → Bool := fun _ ds => decide (uptoBulkAll ds ≤ 1048576)
def OpenSpec.upto (s : _root_.Go.ChangeSpec) : _root_.Go.OpenSpec := { _root_.Go.OpenSpec.ofChange s with cond := some uptoSmall }

/-- 'bolsterlaw10.MarkRegisters', WHERE WHAT IT READS IS OF BULK AT MOST 1048576: true; the input reads as it did. -/
def markRegistersUptoRow : OpenClaim := { program := "ytdminglglapnlaa", sum := "d8ecf01590186c8dd9d5bc2022efe688c96a3a11f2f834a2721a9ba334b6442e", func := "bolster/bolsterlaw10.MarkRegisters", spec := "markRegisters", unfollowed := true, recurses := true, apart := false, narrowed := true }
def MarkRegistersUptoSaid : Prop := markRegistersUptoRow.holds Try.pinned (OpenSpec.upto markRegistersSpec)

/-- 'bolsterlaw10.MarkBests', WHERE WHAT IT READS IS OF BULK AT MOST 1048576: true; the input reads as it did. -/
def markBestsUptoRow : OpenClaim := { program := "ytdminglglapnlaa", sum := "d8ecf01590186c8dd9d5bc2022efe688c96a3a11f2f834a2721a9ba334b6442e", func := "bolster/bolsterlaw10.MarkBests", spec := "markBests", unfollowed := true, recurses := true, apart := false, narrowed := true }
def MarkBestsUptoSaid : Prop := markBestsUptoRow.holds Try.pinned (OpenSpec.upto markBestsSpec)

/-- 'bolsterlaw10.MarkFixed', WHERE WHAT IT READS IS OF BULK AT MOST 1048576: true; the input reads as it did. -/
def markFixedUptoRow : OpenClaim := { program := "ytdminglglapnlaa", sum := "d8ecf01590186c8dd9d5bc2022efe688c96a3a11f2f834a2721a9ba334b6442e", func := "bolster/bolsterlaw10.MarkFixed", spec := "markFixed", unfollowed := true, recurses := true, apart := false, narrowed := true }
def MarkFixedUptoSaid : Prop := markFixedUptoRow.holds Try.pinned (OpenSpec.upto markFixedSpec)

/-- 'bolsterlaw10.MarkProved', WHERE WHAT IT READS IS OF BULK AT MOST 1048576: true; the input reads as it did. -/
def markProvedUptoRow : OpenClaim := { program := "ytdminglglapnlaa", sum := "d8ecf01590186c8dd9d5bc2022efe688c96a3a11f2f834a2721a9ba334b6442e", func := "bolster/bolsterlaw10.MarkProved", spec := "markProved", unfollowed := true, recurses := true, apart := false, narrowed := true }
def MarkProvedUptoSaid : Prop := markProvedUptoRow.holds Try.pinned (OpenSpec.upto markProvedSpec)

/-- 'bolsterlaw10.MarkFollowed', WHERE WHAT IT READS IS OF BULK AT MOST 1048576: true; the input reads as it did. -/
def markFollowedUptoRow : OpenClaim := { program := "ytdminglglapnlaa", sum := "d8ecf01590186c8dd9d5bc2022efe688c96a3a11f2f834a2721a9ba334b6442e", func := "bolster/bolsterlaw10.MarkFollowed", spec := "markFollowed", unfollowed := true, recurses := true, apart := false, narrowed := true }
def MarkFollowedUptoSaid : Prop := markFollowedUptoRow.holds Try.pinned (OpenSpec.upto markFollowedSpec)

/-- 'bolsterlaw10.MarkCheaper', WHERE WHAT IT READS IS OF BULK AT MOST 1048576: true; the input reads as it did. -/
def markCheaperUptoRow : OpenClaim := { program := "ytdminglglapnlaa", sum := "d8ecf01590186c8dd9d5bc2022efe688c96a3a11f2f834a2721a9ba334b6442e", func := "bolster/bolsterlaw10.MarkCheaper", spec := "markCheaper", unfollowed := true, recurses := true, apart := false, narrowed := true }
def MarkCheaperUptoSaid : Prop := markCheaperUptoRow.holds Try.pinned (OpenSpec.upto markCheaperSpec)

/-- 'bolsterlaw10.MarkMore', WHERE WHAT IT READS IS OF BULK AT MOST 1048576: true; the input reads as it did. -/
def markMoreUptoRow : OpenClaim := { program := "ytdminglglapnlaa", sum := "d8ecf01590186c8dd9d5bc2022efe688c96a3a11f2f834a2721a9ba334b6442e", func := "bolster/bolsterlaw10.MarkMore", spec := "markMore", unfollowed := true, recurses := true, apart := false, narrowed := true }
def MarkMoreUptoSaid : Prop := markMoreUptoRow.holds Try.pinned (OpenSpec.upto markMoreSpec)

/-- 'bolsterlaw10.MarkTurned', WHERE WHAT IT READS IS OF BULK AT MOST 1048576: true; the input reads as it did. -/
def markTurnedUptoRow : OpenClaim := { program := "ytdminglglapnlaa", sum := "d8ecf01590186c8dd9d5bc2022efe688c96a3a11f2f834a2721a9ba334b6442e", func := "bolster/bolsterlaw10.MarkTurned", spec := "markTurned", unfollowed := true, recurses := true, apart := false, narrowed := true }
def MarkTurnedUptoSaid : Prop := markTurnedUptoRow.holds Try.pinned (OpenSpec.upto markTurnedSpec)

/-- 'bolsterlaw10.MarkKnown', WHERE WHAT IT READS IS OF BULK AT MOST 1048576: true; the input reads as it did. -/
def markKnownUptoRow : OpenClaim := { program := "ytdminglglapnlaa", sum := "d8ecf01590186c8dd9d5bc2022efe688c96a3a11f2f834a2721a9ba334b6442e", func := "bolster/bolsterlaw10.MarkKnown", spec := "markKnown", unfollowed := true, recurses := true, apart := false, narrowed := true }
def MarkKnownUptoSaid : Prop := markKnownUptoRow.holds Try.pinned (OpenSpec.upto markKnownSpec)

end Rows
end Go.Proofs.Ytdminglglapnlaa
