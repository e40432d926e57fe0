/-
  No cell of these rows narrows 'for every input' (looked for: loops, veiled, ifaces, maps, wideKeys, modest, calm, conditions, laid).
  DERIVED. THE GIVEN ROWS OF THIS SEAT. 10 by the template 'for every input the law returns true; each argument reads behind the call as it read before'; 0 by the template 'total and deterministic' (their statements: YteingahlmlndkaaTotals.lean).
  GIVEN WITH THE SEED: the statements are not yours to turn. If you find one false, say at which input.
  Laid BY PROGRAM, IN A SANDBOX (cutbox-rows.mjs): the forced cells as the released guide's own fill.sh prints them over the translation 392af6999db4dfe9… (all of the seat's roots in one cut). By AI agents, Wed Nov 11 2026. No macro, syntax, notation, axiom, sorry.
-/
import Derived.Test.YteingahlmlndkaaChecked
import GoSem.Claim
import GoSem.ClaimJoined
import GoSem.ClaimMapViews
import Derived.JoinedTies
import Derived.KernelRfl
namespace Go.Proofs.Yteingahlmlndkaa
/- THE CELL 'sum', in the pinned program and in every row, IS THE sha256 OF THE DUMP (.gsa) THAT YteingahlmlndkaaProg.lean LOADS. Nothing in Lean hashes anything: it is a label: what it is worth is what the hold of that sum in a sandbox is worth. -/
noncomputable def Try.pinned : Pinned := { name := "yteingahlmlndkaa", sum := "392af6999db4dfe95bd6ca9023adf4e9a7b127ecb9d76b65eff98b5905f0b167", checked := Try.checked }
namespace Rows
def none {H : Type} : Left H := { results := [], args := [] }

/-- 'bolsterlaw08.MatchStocks': WHATEVER THE INPUT: true; the input reads as it did. -/
def matchStocksSpec : ChangeSpec := { name := "matchStocks", fn := fun _ => fun
  | [d1, d2, d3, d4, d5] => { results := [.lit (.bool true)], args := [d1, d2, d3, d4, d5] }
  | _ => none }
def matchStocksRow : OpenClaim := { program := "yteingahlmlndkaa", sum := "392af6999db4dfe95bd6ca9023adf4e9a7b127ecb9d76b65eff98b5905f0b167", func := "bolster/bolsterlaw08.MatchStocks", spec := "matchStocks", unfollowed := true, recurses := true, plainKeys := false, apart := false }
def MatchStocksSaid : Prop := matchStocksRow.holds Try.pinned (OpenSpec.ofChange matchStocksSpec)

/-- ITS FALSE NEIGHBOUR: 'it returns false'. Refute it at one input. -/
def matchStocksWrong : ChangeSpec := { name := "matchStocks", fn := fun _ => fun
  | [d1, d2, d3, d4, d5] => { results := [.lit (.bool false)], args := [d1, d2, d3, d4, d5] }
  | _ => none }
def MatchStocksWrongFalsely : Prop := matchStocksRow.holds Try.pinned (OpenSpec.ofChange matchStocksWrong)

/-- 'bolsterlaw08.MatchBests': WHATEVER THE INPUT: true; the input reads as it did. -/
def matchBestsSpec : ChangeSpec := { name := "matchBests", fn := fun _ => fun
  | [d] => { results := [.lit (.bool true)], args := [d] }
  | _ => none }
def matchBestsRow : OpenClaim := { program := "yteingahlmlndkaa", sum := "392af6999db4dfe95bd6ca9023adf4e9a7b127ecb9d76b65eff98b5905f0b167", func := "bolster/bolsterlaw08.MatchBests", spec := "matchBests", unfollowed := true, recurses := true, plainKeys := false, apart := false }
def MatchBestsSaid : Prop := matchBestsRow.holds Try.pinned (OpenSpec.ofChange matchBestsSpec)

/-- ITS FALSE NEIGHBOUR: 'it returns false'. Refute it at one input. -/
def matchBestsWrong : ChangeSpec := { name := "matchBests", fn := fun _ => fun
  | [d] => { results := [.lit (.bool false)], args := [d] }
  | _ => none }
def MatchBestsWrongFalsely : Prop := matchBestsRow.holds Try.pinned (OpenSpec.ofChange matchBestsWrong)

/-- 'bolsterlaw08.MatchKinds': WHATEVER THE INPUT: true; the input reads as it did. -/
def matchKindsSpec : ChangeSpec := { name := "matchKinds", fn := fun _ => fun
  | [d1, d2, d3] => { results := [.lit (.bool true)], args := [d1, d2, d3] }
  | _ => none }
def matchKindsRow : OpenClaim := { program := "yteingahlmlndkaa", sum := "392af6999db4dfe95bd6ca9023adf4e9a7b127ecb9d76b65eff98b5905f0b167", func := "bolster/bolsterlaw08.MatchKinds", spec := "matchKinds", unfollowed := true, recurses := true, plainKeys := false, apart := false }
def MatchKindsSaid : Prop := matchKindsRow.holds Try.pinned (OpenSpec.ofChange matchKindsSpec)

/-- ITS FALSE NEIGHBOUR: 'it returns false'. Refute it at one input. -/
def matchKindsWrong : ChangeSpec := { name := "matchKinds", fn := fun _ => fun
  | [d1, d2, d3] => { results := [.lit (.bool false)], args := [d1, d2, d3] }
  | _ => none }
def MatchKindsWrongFalsely : Prop := matchKindsRow.holds Try.pinned (OpenSpec.ofChange matchKindsWrong)

/-- 'bolsterlaw08.MatchProved': WHATEVER THE INPUT: true; the input reads as it did. -/
def matchProvedSpec : ChangeSpec := { name := "matchProved", fn := fun _ => fun
  | [d1, d2, d3, d4] => { results := [.lit (.bool true)], args := [d1, d2, d3, d4] }
  | _ => none }
def matchProvedRow : OpenClaim := { program := "yteingahlmlndkaa", sum := "392af6999db4dfe95bd6ca9023adf4e9a7b127ecb9d76b65eff98b5905f0b167", func := "bolster/bolsterlaw08.MatchProved", spec := "matchProved", unfollowed := true, recurses := true, plainKeys := false, apart := false }
def MatchProvedSaid : Prop := matchProvedRow.holds Try.pinned (OpenSpec.ofChange matchProvedSpec)

/-- ITS FALSE NEIGHBOUR: 'it returns false'. Refute it at one input. -/
def matchProvedWrong : ChangeSpec := { name := "matchProved", fn := fun _ => fun
  | [d1, d2, d3, d4] => { results := [.lit (.bool false)], args := [d1, d2, d3, d4] }
  | _ => none }
def MatchProvedWrongFalsely : Prop := matchProvedRow.holds Try.pinned (OpenSpec.ofChange matchProvedWrong)

/-- 'bolsterlaw08.MatchWithout': WHATEVER THE INPUT: true; the input reads as it did. -/
def matchWithoutSpec : ChangeSpec := { name := "matchWithout", fn := fun _ => fun
  | [d1, d2, d3, d4, d5] => { results := [.lit (.bool true)], args := [d1, d2, d3, d4, d5] }
  | _ => none }
def matchWithoutRow : OpenClaim := { program := "yteingahlmlndkaa", sum := "392af6999db4dfe95bd6ca9023adf4e9a7b127ecb9d76b65eff98b5905f0b167", func := "bolster/bolsterlaw08.MatchWithout", spec := "matchWithout", unfollowed := true, recurses := true, plainKeys := false, apart := false }
def MatchWithoutSaid : Prop := matchWithoutRow.holds Try.pinned (OpenSpec.ofChange matchWithoutSpec)

/-- ITS FALSE NEIGHBOUR: 'it returns false'. Refute it at one input. -/
def matchWithoutWrong : ChangeSpec := { name := "matchWithout", fn := fun _ => fun
  | [d1, d2, d3, d4, d5] => { results := [.lit (.bool false)], args := [d1, d2, d3, d4, d5] }
  | _ => none }
def MatchWithoutWrongFalsely : Prop := matchWithoutRow.holds Try.pinned (OpenSpec.ofChange matchWithoutWrong)

/-- 'bolsterlaw08.MatchCounts': WHATEVER THE INPUT: true; the input reads as it did. -/
def matchCountsSpec : ChangeSpec := { name := "matchCounts", fn := fun _ => fun
  | [d1, d2] => { results := [.lit (.bool true)], args := [d1, d2] }
  | _ => none }
def matchCountsRow : OpenClaim := { program := "yteingahlmlndkaa", sum := "392af6999db4dfe95bd6ca9023adf4e9a7b127ecb9d76b65eff98b5905f0b167", func := "bolster/bolsterlaw08.MatchCounts", spec := "matchCounts", unfollowed := true, recurses := true, plainKeys := false, apart := false }
def MatchCountsSaid : Prop := matchCountsRow.holds Try.pinned (OpenSpec.ofChange matchCountsSpec)

/-- ITS FALSE NEIGHBOUR: 'it returns false'. Refute it at one input. -/
def matchCountsWrong : ChangeSpec := { name := "matchCounts", fn := fun _ => fun
  | [d1, d2] => { results := [.lit (.bool false)], args := [d1, d2] }
  | _ => none }
def MatchCountsWrongFalsely : Prop := matchCountsRow.holds Try.pinned (OpenSpec.ofChange matchCountsWrong)

/-- 'bolsterlaw08.MatchMore': WHATEVER THE INPUT: true; the input reads as it did. -/
def matchMoreSpec : ChangeSpec := { name := "matchMore", fn := fun _ => fun
  | [d1, d2, d3, d4] => { results := [.lit (.bool true)], args := [d1, d2, d3, d4] }
  | _ => none }
def matchMoreRow : OpenClaim := { program := "yteingahlmlndkaa", sum := "392af6999db4dfe95bd6ca9023adf4e9a7b127ecb9d76b65eff98b5905f0b167", func := "bolster/bolsterlaw08.MatchMore", spec := "matchMore", unfollowed := true, recurses := true, plainKeys := false, apart := false }
def MatchMoreSaid : Prop := matchMoreRow.holds Try.pinned (OpenSpec.ofChange matchMoreSpec)

/-- ITS FALSE NEIGHBOUR: 'it returns false'. Refute it at one input. -/
def matchMoreWrong : ChangeSpec := { name := "matchMore", fn := fun _ => fun
  | [d1, d2, d3, d4] => { results := [.lit (.bool false)], args := [d1, d2, d3, d4] }
  | _ => none }
def MatchMoreWrongFalsely : Prop := matchMoreRow.holds Try.pinned (OpenSpec.ofChange matchMoreWrong)

/-- 'bolsterlaw08.MatchTurned': WHATEVER THE INPUT: true; the input reads as it did. -/
def matchTurnedSpec : ChangeSpec := { name := "matchTurned", fn := fun _ => fun
  | [d1, d2, d3] => { results := [.lit (.bool true)], args := [d1, d2, d3] }
  | _ => none }
def matchTurnedRow : OpenClaim := { program := "yteingahlmlndkaa", sum := "392af6999db4dfe95bd6ca9023adf4e9a7b127ecb9d76b65eff98b5905f0b167", func := "bolster/bolsterlaw08.MatchTurned", spec := "matchTurned", unfollowed := true, recurses := true, plainKeys := false, apart := false }
def MatchTurnedSaid : Prop := matchTurnedRow.holds Try.pinned (OpenSpec.ofChange matchTurnedSpec)

/-- ITS FALSE NEIGHBOUR: 'it returns false'. Refute it at one input. -/
def matchTurnedWrong : ChangeSpec := { name := "matchTurned", fn := fun _ => fun
  | [d1, d2, d3] => { results := [.lit (.bool false)], args := [d1, d2, d3] }
  | _ => none }
def MatchTurnedWrongFalsely : Prop := matchTurnedRow.holds Try.pinned (OpenSpec.ofChange matchTurnedWrong)

/-- 'bolsterlaw08.MatchGroups': WHATEVER THE INPUT: true; the input reads as it did. -/
def matchGroupsSpec : ChangeSpec := { name := "matchGroups", fn := fun _ => fun
  | [d1, d2] => { results := [.lit (.bool true)], args := [d1, d2] }
  | _ => none }
def matchGroupsRow : OpenClaim := { program := "yteingahlmlndkaa", sum := "392af6999db4dfe95bd6ca9023adf4e9a7b127ecb9d76b65eff98b5905f0b167", func := "bolster/bolsterlaw08.MatchGroups", spec := "matchGroups", unfollowed := true, recurses := true, plainKeys := false, apart := false }
def MatchGroupsSaid : Prop := matchGroupsRow.holds Try.pinned (OpenSpec.ofChange matchGroupsSpec)

/-- ITS FALSE NEIGHBOUR: 'it returns false'. Refute it at one input. -/
def matchGroupsWrong : ChangeSpec := { name := "matchGroups", fn := fun _ => fun
  | [d1, d2] => { results := [.lit (.bool false)], args := [d1, d2] }
  | _ => none }
def MatchGroupsWrongFalsely : Prop := matchGroupsRow.holds Try.pinned (OpenSpec.ofChange matchGroupsWrong)

/-- 'bolsterlaw08.MatchKnown': WHATEVER THE INPUT: true; the input reads as it did. -/
def matchKnownSpec : ChangeSpec := { name := "matchKnown", fn := fun _ => fun
  | [] => { results := [.lit (.bool true)], args := [] }
  | _ => none }
def matchKnownRow : OpenClaim := { program := "yteingahlmlndkaa", sum := "392af6999db4dfe95bd6ca9023adf4e9a7b127ecb9d76b65eff98b5905f0b167", func := "bolster/bolsterlaw08.MatchKnown", spec := "matchKnown", unfollowed := true, recurses := true, plainKeys := false, apart := false }
def MatchKnownSaid : Prop := matchKnownRow.holds Try.pinned (OpenSpec.ofChange matchKnownSpec)

/-- ITS FALSE NEIGHBOUR: 'it returns false'. Refute it at one input. -/
def matchKnownWrong : ChangeSpec := { name := "matchKnown", fn := fun _ => fun
  | [] => { results := [.lit (.bool false)], args := [] }
  | _ => none }
def MatchKnownWrongFalsely : Prop := matchKnownRow.holds Try.pinned (OpenSpec.ofChange matchKnownWrong)

/- THE SECOND FORM. 'bulk': how many values and letters a reading holds, each counted each time it is reached (what is shared counts as often as it is met; a slice's spare places count too). A statement '..UptoSaid' is the law's where the arguments, and the package variables that the reading takes, are together of bulk at most 1048576: NARROWER than '..Said'. Prove '..Said' where nothing that the law and all that it calls make is longer than what came in: it says more and counts as full. Else prove '..UptoSaid'. A law counts once. -/
mutual
def uptoBulk {H : Type} : DataW H → Nat
  | .lit (.string bytes) => bytes.length + 1
  | .lit _ => 1
  | .nil => 1
  | .ptr d => uptoBulk d + 1
  | .slice elems spare => uptoBulkAll elems + uptoBulkAll spare + 1
  | .agg parts => uptoBulkAll parts + 1
  | .iface _ d => uptoBulk d + 1
  | .map entries => uptoBulkEntries entries + 1
  | .held _ => 1
def uptoBulkAll {H : Type} : List (DataW H) → Nat
  | [] => 0
  | d :: r => uptoBulk d + uptoBulkAll r
def uptoBulkEntries {H : Type} : List (Lit × DataW H) → Nat
  | [] => 0
  | x :: r => uptoBulkEntry x + uptoBulkEntries r
def uptoBulkEntry {H : Type} : Lit × DataW H → Nat
  | (.string bytes, d) => bytes.length + uptoBulk d + 1
  | (_, d) => uptoBulk d + 1
 end
def uptoSmall : (H : Type) → List (DataW H) → Bool := fun _ ds => decide (uptoBulkAll ds ≤ 1048576)
def OpenSpec.upto (s : _root_.Go.ChangeSpec) : _root_.Go.OpenSpec := { _root_.Go.OpenSpec.ofChange s with cond := some uptoSmall }

/-- 'bolsterlaw08.MatchStocks', WHERE WHAT IT READS IS OF BULK AT MOST 1048576: true; the input reads as it did. -/
def matchStocksUptoRow : OpenClaim := { program := "yteingahlmlndkaa", sum := "392af6999db4dfe95bd6ca9023adf4e9a7b127ecb9d76b65eff98b5905f0b167", func := "bolster/bolsterlaw08.MatchStocks", spec := "matchStocks", unfollowed := true, recurses := true, plainKeys := false, apart := false, narrowed := true }
def MatchStocksUptoSaid : Prop := matchStocksUptoRow.holds Try.pinned (OpenSpec.upto matchStocksSpec)

/-- 'bolsterlaw08.MatchBests', WHERE WHAT IT READS IS OF BULK AT MOST 1048576: true; the input reads as it did. -/
def matchBestsUptoRow : OpenClaim := { program := "yteingahlmlndkaa", sum := "392af6999db4dfe95bd6ca9023adf4e9a7b127ecb9d76b65eff98b5905f0b167", func := "bolster/bolsterlaw08.MatchBests", spec := "matchBests", unfollowed := true, recurses := true, plainKeys := false, apart := false, narrowed := true }
def MatchBestsUptoSaid : Prop := matchBestsUptoRow.holds Try.pinned (OpenSpec.upto matchBestsSpec)

/-- 'bolsterlaw08.MatchKinds', WHERE WHAT IT READS IS OF BULK AT MOST 1048576: true; the input reads as it did. -/
def matchKindsUptoRow : OpenClaim := { program := "yteingahlmlndkaa", sum := "392af6999db4dfe95bd6ca9023adf4e9a7b127ecb9d76b65eff98b5905f0b167", func := "bolster/bolsterlaw08.MatchKinds", spec := "matchKinds", unfollowed := true, recurses := true, plainKeys := false, apart := false, narrowed := true }
def MatchKindsUptoSaid : Prop := matchKindsUptoRow.holds Try.pinned (OpenSpec.upto matchKindsSpec)

/-- 'bolsterlaw08.MatchProved', WHERE WHAT IT READS IS OF BULK AT MOST 1048576: true; the input reads as it did. -/
def matchProvedUptoRow : OpenClaim := { program := "yteingahlmlndkaa", sum := "392af6999db4dfe95bd6ca9023adf4e9a7b127ecb9d76b65eff98b5905f0b167", func := "bolster/bolsterlaw08.MatchProved", spec := "matchProved", unfollowed := true, recurses := true, plainKeys := false, apart := false, narrowed := true }
def MatchProvedUptoSaid : Prop := matchProvedUptoRow.holds Try.pinned (OpenSpec.upto matchProvedSpec)

/-- 'bolsterlaw08.MatchWithout', WHERE WHAT IT READS IS OF BULK AT MOST 1048576: true; the input reads as it did. -/
def matchWithoutUptoRow : OpenClaim := { program := "yteingahlmlndkaa", sum := "392af6999db4dfe95bd6ca9023adf4e9a7b127ecb9d76b65eff98b5905f0b167", func := "bolster/bolsterlaw08.MatchWithout", spec := "matchWithout", unfollowed := true, recurses := true, plainKeys := false, apart := false, narrowed := true }
def MatchWithoutUptoSaid : Prop := matchWithoutUptoRow.holds Try.pinned (OpenSpec.upto matchWithoutSpec)

/-- 'bolsterlaw08.MatchCounts', WHERE WHAT IT READS IS OF BULK AT MOST 1048576: true; the input reads as it did. -/
def matchCountsUptoRow : OpenClaim := { program := "yteingahlmlndkaa", sum := "392af6999db4dfe95bd6ca9023adf4e9a7b127ecb9d76b65eff98b5905f0b167", func := "bolster/bolsterlaw08.MatchCounts", spec := "matchCounts", unfollowed := true, recurses := true, plainKeys := false, apart := false, narrowed := true }
def MatchCountsUptoSaid : Prop := matchCountsUptoRow.holds Try.pinned (OpenSpec.upto matchCountsSpec)

/-- 'bolsterlaw08.MatchMore', WHERE WHAT IT READS IS OF BULK AT MOST 1048576: true; the input reads as it did. -/
def matchMoreUptoRow : OpenClaim := { program := "yteingahlmlndkaa", sum := "392af6999db4dfe95bd6ca9023adf4e9a7b127ecb9d76b65eff98b5905f0b167", func := "bolster/bolsterlaw08.MatchMore", spec := "matchMore", unfollowed := true, recurses := true, plainKeys := false, apart := false, narrowed := true }
def MatchMoreUptoSaid : Prop := matchMoreUptoRow.holds Try.pinned (OpenSpec.upto matchMoreSpec)

/-- 'bolsterlaw08.MatchTurned', WHERE WHAT IT READS IS OF BULK AT MOST 1048576: true; the input reads as it did. -/
def matchTurnedUptoRow : OpenClaim := { program := "yteingahlmlndkaa", sum := "392af6999db4dfe95bd6ca9023adf4e9a7b127ecb9d76b65eff98b5905f0b167", func := "bolster/bolsterlaw08.MatchTurned", spec := "matchTurned", unfollowed := true, recurses := true, plainKeys := false, apart := false, narrowed := true }
def MatchTurnedUptoSaid : Prop := matchTurnedUptoRow.holds Try.pinned (OpenSpec.upto matchTurnedSpec)

/-- 'bolsterlaw08.MatchGroups', WHERE WHAT IT READS IS OF BULK AT MOST 1048576: true; the input reads as it did. -/
def matchGroupsUptoRow : OpenClaim := { program := "yteingahlmlndkaa", sum := "392af6999db4dfe95bd6ca9023adf4e9a7b127ecb9d76b65eff98b5905f0b167", func := "bolster/bolsterlaw08.MatchGroups", spec := "matchGroups", unfollowed := true, recurses := true, plainKeys := false, apart := false, narrowed := true }
def MatchGroupsUptoSaid : Prop := matchGroupsUptoRow.holds Try.pinned (OpenSpec.upto matchGroupsSpec)

/-- 'bolsterlaw08.MatchKnown', WHERE WHAT IT READS IS OF BULK AT MOST 1048576: true; the input reads as it did. -/
def matchKnownUptoRow : OpenClaim := { program := "yteingahlmlndkaa", sum := "392af6999db4dfe95bd6ca9023adf4e9a7b127ecb9d76b65eff98b5905f0b167", func := "bolster/bolsterlaw08.MatchKnown", spec := "matchKnown", unfollowed := true, recurses := true, plainKeys := false, apart := false, narrowed := true }
def MatchKnownUptoSaid : Prop := matchKnownUptoRow.holds Try.pinned (OpenSpec.upto matchKnownSpec)

end Rows
end Go.Proofs.Yteingahlmlndkaa
