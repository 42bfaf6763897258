/-
  No cell of these rows narrows 'for every input' (looked for: loops, veiled, ifaces, maps, wideKeys, modest, calm, conditions, laid).
  DERIVED. THE GIVEN ROWS OF THIS SEAT. 8 by the template 'for every input the law returns true; each argument reads behind the call as it read before'; 0 by the template 'total and deterministic' (their statements: YtofgjlfgpnmmdaaTotals.lean).
  GIVEN WITH THE SEED: the statements are not yours to turn. If you find one false, say at which input.
  Laid BY PROGRAM, IN A SANDBOX (cutbox-rows.mjs): the forced cells as the released guide's own fill.sh prints them over the translation 427ff36045a5b1a6… (all of the seat's roots in one cut). By AI agents, Wed Nov 11 2026. No macro, syntax, notation, axiom, sorry.
-/
import Derived.Test.YtofgjlfgpnmmdaaChecked
import GoSem.Claim
import GoSem.ClaimJoined
import GoSem.ClaimMapViews
import Derived.JoinedTies
import Derived.KernelRfl
namespace Go.Proofs.Ytofgjlfgpnmmdaa
/- THE CELL 'sum', in the pinned program and in every row, IS THE sha256 OF THE DUMP (.gsa) THAT YtofgjlfgpnmmdaaProg.lean LOADS. Nothing in Lean hashes anything: it is a label: what it is worth is what the hold of that sum in a sandbox is worth. -/
noncomputable def Try.pinned : Pinned := { name := "ytofgjlfgpnmmdaa", sum := "427ff36045a5b1a6513a5744b5e37a54c1a191ab5e2e8f5ceaa283e0fd6ef029", checked := Try.checked }
namespace Rows
def none {H : Type} : Left H := { results := [], args := [] }

/-- 'shuttlelaw6.GlobChecks': WHATEVER THE INPUT: true; the input reads as it did. -/
def globChecksSpec : ChangeSpec := { name := "globChecks", fn := fun _ => fun
  | [d] => { results := [.lit (.bool true)], args := [d] }
  | _ => none }
def globChecksRow : OpenClaim := { program := "ytofgjlfgpnmmdaa", sum := "427ff36045a5b1a6513a5744b5e37a54c1a191ab5e2e8f5ceaa283e0fd6ef029", func := "shuttle/shuttlelaw6.GlobChecks", spec := "globChecks", unfollowed := true, recurses := true, apart := false }
def GlobChecksSaid : Prop := globChecksRow.holds Try.pinned (OpenSpec.ofChange globChecksSpec)

/-- ITS FALSE NEIGHBOUR: 'it returns false'. Refute it at one input. -/
def globChecksWrong : ChangeSpec := { name := "globChecks", fn := fun _ => fun
  | [d] => { results := [.lit (.bool false)], args := [d] }
  | _ => none }
def GlobChecksWrongFalsely : Prop := globChecksRow.holds Try.pinned (OpenSpec.ofChange globChecksWrong)

/-- 'shuttlelaw6.GlobMatches': WHATEVER THE INPUT: true; the input reads as it did. -/
def globMatchesSpec : ChangeSpec := { name := "globMatches", fn := fun _ => fun
  | [d1, d2] => { results := [.lit (.bool true)], args := [d1, d2] }
  | _ => none }
def globMatchesRow : OpenClaim := { program := "ytofgjlfgpnmmdaa", sum := "427ff36045a5b1a6513a5744b5e37a54c1a191ab5e2e8f5ceaa283e0fd6ef029", func := "shuttle/shuttlelaw6.GlobMatches", spec := "globMatches", unfollowed := true, recurses := true, apart := false }
def GlobMatchesSaid : Prop := globMatchesRow.holds Try.pinned (OpenSpec.ofChange globMatchesSpec)

/-- ITS FALSE NEIGHBOUR: 'it returns false'. Refute it at one input. -/
def globMatchesWrong : ChangeSpec := { name := "globMatches", fn := fun _ => fun
  | [d1, d2] => { results := [.lit (.bool false)], args := [d1, d2] }
  | _ => none }
def GlobMatchesWrongFalsely : Prop := globMatchesRow.holds Try.pinned (OpenSpec.ofChange globMatchesWrong)

/-- 'shuttlelaw6.GlobPlain': WHATEVER THE INPUT: true; the input reads as it did. -/
def globPlainSpec : ChangeSpec := { name := "globPlain", fn := fun _ => fun
  | [d1, d2] => { results := [.lit (.bool true)], args := [d1, d2] }
  | _ => none }
def globPlainRow : OpenClaim := { program := "ytofgjlfgpnmmdaa", sum := "427ff36045a5b1a6513a5744b5e37a54c1a191ab5e2e8f5ceaa283e0fd6ef029", func := "shuttle/shuttlelaw6.GlobPlain", spec := "globPlain", unfollowed := true, recurses := true, apart := false }
def GlobPlainSaid : Prop := globPlainRow.holds Try.pinned (OpenSpec.ofChange globPlainSpec)

/-- ITS FALSE NEIGHBOUR: 'it returns false'. Refute it at one input. -/
def globPlainWrong : ChangeSpec := { name := "globPlain", fn := fun _ => fun
  | [d1, d2] => { results := [.lit (.bool false)], args := [d1, d2] }
  | _ => none }
def GlobPlainWrongFalsely : Prop := globPlainRow.holds Try.pinned (OpenSpec.ofChange globPlainWrong)

/-- 'shuttlelaw6.GlobStars': WHATEVER THE INPUT: true; the input reads as it did. -/
def globStarsSpec : ChangeSpec := { name := "globStars", fn := fun _ => fun
  | [d] => { results := [.lit (.bool true)], args := [d] }
  | _ => none }
def globStarsRow : OpenClaim := { program := "ytofgjlfgpnmmdaa", sum := "427ff36045a5b1a6513a5744b5e37a54c1a191ab5e2e8f5ceaa283e0fd6ef029", func := "shuttle/shuttlelaw6.GlobStars", spec := "globStars", unfollowed := true, recurses := true, apart := false }
def GlobStarsSaid : Prop := globStarsRow.holds Try.pinned (OpenSpec.ofChange globStarsSpec)

/-- ITS FALSE NEIGHBOUR: 'it returns false'. Refute it at one input. -/
def globStarsWrong : ChangeSpec := { name := "globStars", fn := fun _ => fun
  | [d] => { results := [.lit (.bool false)], args := [d] }
  | _ => none }
def GlobStarsWrongFalsely : Prop := globStarsRow.holds Try.pinned (OpenSpec.ofChange globStarsWrong)

/-- 'shuttlelaw6.GlobJoins': WHATEVER THE INPUT: true; the input reads as it did. -/
def globJoinsSpec : ChangeSpec := { name := "globJoins", fn := fun _ => fun
  | [d1, d2, d3] => { results := [.lit (.bool true)], args := [d1, d2, d3] }
  | _ => none }
def globJoinsRow : OpenClaim := { program := "ytofgjlfgpnmmdaa", sum := "427ff36045a5b1a6513a5744b5e37a54c1a191ab5e2e8f5ceaa283e0fd6ef029", func := "shuttle/shuttlelaw6.GlobJoins", spec := "globJoins", unfollowed := true, recurses := true, apart := false }
def GlobJoinsSaid : Prop := globJoinsRow.holds Try.pinned (OpenSpec.ofChange globJoinsSpec)

/-- ITS FALSE NEIGHBOUR: 'it returns false'. Refute it at one input. -/
def globJoinsWrong : ChangeSpec := { name := "globJoins", fn := fun _ => fun
  | [d1, d2, d3] => { results := [.lit (.bool false)], args := [d1, d2, d3] }
  | _ => none }
def GlobJoinsWrongFalsely : Prop := globJoinsRow.holds Try.pinned (OpenSpec.ofChange globJoinsWrong)

/-- 'shuttlelaw6.GlobClasses': WHATEVER THE INPUT: true; the input reads as it did. -/
def globClassesSpec : ChangeSpec := { name := "globClasses", fn := fun _ => fun
  | [d1, d2, d3] => { results := [.lit (.bool true)], args := [d1, d2, d3] }
  | _ => none }
def globClassesRow : OpenClaim := { program := "ytofgjlfgpnmmdaa", sum := "427ff36045a5b1a6513a5744b5e37a54c1a191ab5e2e8f5ceaa283e0fd6ef029", func := "shuttle/shuttlelaw6.GlobClasses", spec := "globClasses", unfollowed := true, recurses := true, apart := false }
def GlobClassesSaid : Prop := globClassesRow.holds Try.pinned (OpenSpec.ofChange globClassesSpec)

/-- ITS FALSE NEIGHBOUR: 'it returns false'. Refute it at one input. -/
def globClassesWrong : ChangeSpec := { name := "globClasses", fn := fun _ => fun
  | [d1, d2, d3] => { results := [.lit (.bool false)], args := [d1, d2, d3] }
  | _ => none }
def GlobClassesWrongFalsely : Prop := globClassesRow.holds Try.pinned (OpenSpec.ofChange globClassesWrong)

/-- 'shuttlelaw6.GlobLong': WHATEVER THE INPUT: true; the input reads as it did. -/
def globLongSpec : ChangeSpec := { name := "globLong", fn := fun _ => fun
  | [d1, d2] => { results := [.lit (.bool true)], args := [d1, d2] }
  | _ => none }
def globLongRow : OpenClaim := { program := "ytofgjlfgpnmmdaa", sum := "427ff36045a5b1a6513a5744b5e37a54c1a191ab5e2e8f5ceaa283e0fd6ef029", func := "shuttle/shuttlelaw6.GlobLong", spec := "globLong", unfollowed := true, recurses := true, apart := false }
def GlobLongSaid : Prop := globLongRow.holds Try.pinned (OpenSpec.ofChange globLongSpec)

/-- ITS FALSE NEIGHBOUR: 'it returns false'. Refute it at one input. -/
def globLongWrong : ChangeSpec := { name := "globLong", fn := fun _ => fun
  | [d1, d2] => { results := [.lit (.bool false)], args := [d1, d2] }
  | _ => none }
def GlobLongWrongFalsely : Prop := globLongRow.holds Try.pinned (OpenSpec.ofChange globLongWrong)

/-- 'shuttlelaw6.GlobWithin': WHATEVER THE INPUT: true; the input reads as it did. -/
def globWithinSpec : ChangeSpec := { name := "globWithin", fn := fun _ => fun
  | [d1, d2, d3, d4] => { results := [.lit (.bool true)], args := [d1, d2, d3, d4] }
  | _ => none }
def globWithinRow : OpenClaim := { program := "ytofgjlfgpnmmdaa", sum := "427ff36045a5b1a6513a5744b5e37a54c1a191ab5e2e8f5ceaa283e0fd6ef029", func := "shuttle/shuttlelaw6.GlobWithin", spec := "globWithin", unfollowed := true, recurses := true, apart := false }
def GlobWithinSaid : Prop := globWithinRow.holds Try.pinned (OpenSpec.ofChange globWithinSpec)

/-- ITS FALSE NEIGHBOUR: 'it returns false'. Refute it at one input. -/
def globWithinWrong : ChangeSpec := { name := "globWithin", fn := fun _ => fun
  | [d1, d2, d3, d4] => { results := [.lit (.bool false)], args := [d1, d2, d3, d4] }
  | _ => none }
def GlobWithinWrongFalsely : Prop := globWithinRow.holds Try.pinned (OpenSpec.ofChange globWithinWrong)

/- THE SECOND FORM. 'bulk': how many values and letters a reading holds, each counted each time it is reached (what is shared counts as often as it is met; a slice's spare places count too). A statement '..UptoSaid' is the law's where the arguments, and the package variables that the reading takes, are together of bulk at most 1048576: NARROWER than '..Said'. Prove '..Said' where nothing that the law and all that it calls make is longer than what came in: it says more and counts as full. Else prove '..UptoSaid'. A law counts once. -/
mutual
def uptoBulk {H : Type} : DataW H → Nat
  | .lit (.string bytes) => bytes.length + 1
  | .lit _ => 1
  | .nil => 1
  | .ptr d => uptoBulk d + 1
  | .slice elems spare => uptoBulkAll elems + uptoBulkAll spare + 1
  | .agg parts => uptoBulkAll parts + 1
  | .iface _ d => uptoBulk d + 1
  | .map entries => uptoBulkEntries entries + 1
  | .held _ => 1
def uptoBulkAll {H : Type} : List (DataW H) → Nat
  | [] => 0
  | d :: r => uptoBulk d + uptoBulkAll r
def uptoBulkEntries {H : Type} : List (Lit × DataW H) → Nat
  | [] => 0
  | x :: r => uptoBulkEntry x + uptoBulkEntries r
def uptoBulkEntry {H : Type} : Lit × DataW H → Nat
  | (.string bytes, d) => bytes.length + uptoBulk d + 1
  | (_, d) => uptoBulk d + 1
 end
def uptoSmall : (H : Type) → List (DataW H) → Bool := fun _ ds => decide (uptoBulkAll ds ≤ 1048576)
def OpenSpec.upto (s : _root_.Go.ChangeSpec) : _root_.Go.OpenSpec := { _root_.Go.OpenSpec.ofChange s with cond := some uptoSmall }

/-- 'shuttlelaw6.GlobChecks', WHERE WHAT IT READS IS OF BULK AT MOST 1048576: true; the input reads as it did. -/
def globChecksUptoRow : OpenClaim := { program := "ytofgjlfgpnmmdaa", sum := "427ff36045a5b1a6513a5744b5e37a54c1a191ab5e2e8f5ceaa283e0fd6ef029", func := "shuttle/shuttlelaw6.GlobChecks", spec := "globChecks", unfollowed := true, recurses := true, apart := false, narrowed := true }
def GlobChecksUptoSaid : Prop := globChecksUptoRow.holds Try.pinned (OpenSpec.upto globChecksSpec)

/-- 'shuttlelaw6.GlobMatches', WHERE WHAT IT READS IS OF BULK AT MOST 1048576: true; the input reads as it did. -/
def globMatchesUptoRow : OpenClaim := { program := "ytofgjlfgpnmmdaa", sum := "427ff36045a5b1a6513a5744b5e37a54c1a191ab5e2e8f5ceaa283e0fd6ef029", func := "shuttle/shuttlelaw6.GlobMatches", spec := "globMatches", unfollowed := true, recurses := true, apart := false, narrowed := true }
def GlobMatchesUptoSaid : Prop := globMatchesUptoRow.holds Try.pinned (OpenSpec.upto globMatchesSpec)

/-- 'shuttlelaw6.GlobPlain', WHERE WHAT IT READS IS OF BULK AT MOST 1048576: true; the input reads as it did. -/
def globPlainUptoRow : OpenClaim := { program := "ytofgjlfgpnmmdaa", sum := "427ff36045a5b1a6513a5744b5e37a54c1a191ab5e2e8f5ceaa283e0fd6ef029", func := "shuttle/shuttlelaw6.GlobPlain", spec := "globPlain", unfollowed := true, recurses := true, apart := false, narrowed := true }
def GlobPlainUptoSaid : Prop := globPlainUptoRow.holds Try.pinned (OpenSpec.upto globPlainSpec)

/-- 'shuttlelaw6.GlobStars', WHERE WHAT IT READS IS OF BULK AT MOST 1048576: true; the input reads as it did. -/
def globStarsUptoRow : OpenClaim := { program := "ytofgjlfgpnmmdaa", sum := "427ff36045a5b1a6513a5744b5e37a54c1a191ab5e2e8f5ceaa283e0fd6ef029", func := "shuttle/shuttlelaw6.GlobStars", spec := "globStars", unfollowed := true, recurses := true, apart := false, narrowed := true }
def GlobStarsUptoSaid : Prop := globStarsUptoRow.holds Try.pinned (OpenSpec.upto globStarsSpec)

/-- 'shuttlelaw6.GlobJoins', WHERE WHAT IT READS IS OF BULK AT MOST 1048576: true; the input reads as it did. -/
def globJoinsUptoRow : OpenClaim := { program := "ytofgjlfgpnmmdaa", sum := "427ff36045a5b1a6513a5744b5e37a54c1a191ab5e2e8f5ceaa283e0fd6ef029", func := "shuttle/shuttlelaw6.GlobJoins", spec := "globJoins", unfollowed := true, recurses := true, apart := false, narrowed := true }
def GlobJoinsUptoSaid : Prop := globJoinsUptoRow.holds Try.pinned (OpenSpec.upto globJoinsSpec)

/-- 'shuttlelaw6.GlobClasses', WHERE WHAT IT READS IS OF BULK AT MOST 1048576: true; the input reads as it did. -/
def globClassesUptoRow : OpenClaim := { program := "ytofgjlfgpnmmdaa", sum := "427ff36045a5b1a6513a5744b5e37a54c1a191ab5e2e8f5ceaa283e0fd6ef029", func := "shuttle/shuttlelaw6.GlobClasses", spec := "globClasses", unfollowed := true, recurses := true, apart := false, narrowed := true }
def GlobClassesUptoSaid : Prop := globClassesUptoRow.holds Try.pinned (OpenSpec.upto globClassesSpec)

/-- 'shuttlelaw6.GlobLong', WHERE WHAT IT READS IS OF BULK AT MOST 1048576: true; the input reads as it did. -/
def globLongUptoRow : OpenClaim := { program := "ytofgjlfgpnmmdaa", sum := "427ff36045a5b1a6513a5744b5e37a54c1a191ab5e2e8f5ceaa283e0fd6ef029", func := "shuttle/shuttlelaw6.GlobLong", spec := "globLong", unfollowed := true, recurses := true, apart := false, narrowed := true }
def GlobLongUptoSaid : Prop := globLongUptoRow.holds Try.pinned (OpenSpec.upto globLongSpec)

/-- 'shuttlelaw6.GlobWithin', WHERE WHAT IT READS IS OF BULK AT MOST 1048576: true; the input reads as it did. -/
def globWithinUptoRow : OpenClaim := { program := "ytofgjlfgpnmmdaa", sum := "427ff36045a5b1a6513a5744b5e37a54c1a191ab5e2e8f5ceaa283e0fd6ef029", func := "shuttle/shuttlelaw6.GlobWithin", spec := "globWithin", unfollowed := true, recurses := true, apart := false, narrowed := true }
def GlobWithinUptoSaid : Prop := globWithinUptoRow.holds Try.pinned (OpenSpec.upto globWithinSpec)

end Rows
end Go.Proofs.Ytofgjlfgpnmmdaa
