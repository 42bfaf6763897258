/-
  No cell of these rows narrows 'for every input' (looked for: loops, veiled, ifaces, maps, wideKeys, modest, calm, conditions, laid).
  DERIVED. THE GIVEN ROWS OF THIS SEAT. 8 by the template 'for every input the law returns true; each argument reads behind the call as it read before'; 0 by the template 'total and deterministic' (their statements: YtinhlaiogkmkfaaTotals.lean).
  GIVEN WITH THE SEED: the statements are not yours to turn. If you find one false, say at which input.
  Laid BY PROGRAM, IN A SANDBOX (cutbox-rows.mjs): the forced cells as the released guide's own fill.sh prints them over the translation 84a15909874604d3… (all of the seat's roots in one cut). By AI agents, Wed Nov 11 2026. No macro, syntax, notation, axiom, sorry.
-/
import Derived.Test.YtinhlaiogkmkfaaChecked
import GoSem.Claim
import GoSem.ClaimJoined
import GoSem.ClaimMapViews
import Derived.JoinedTies
import Derived.KernelRfl
namespace Go.Proofs.Ytinhlaiogkmkfaa
/- THE CELL 'sum', in the pinned program and in every row, IS THE sha256 OF THE DUMP (.gsa) THAT YtinhlaiogkmkfaaProg.lean LOADS. Nothing in Lean hashes anything: it is a label: what it is worth is what the hold of that sum in a sandbox is worth. -/
noncomputable def Try.pinned : Pinned := { name := "ytinhlaiogkmkfaa", sum := "84a15909874604d3984df67dc511cc263d8eeaa3f2119273a80ab271d5c2280a", checked := Try.checked }
namespace Rows
def none {H : Type} : Left H := { results := [], args := [] }

/-- 'shuttlelaw12.RuleEvals': WHATEVER THE INPUT: true; the input reads as it did. -/
def ruleEvalsSpec : ChangeSpec := { name := "ruleEvals", fn := fun _ => fun
  | [d1, d2] => { results := [.lit (.bool true)], args := [d1, d2] }
  | _ => none }
def ruleEvalsRow : OpenClaim := { program := "ytinhlaiogkmkfaa", sum := "84a15909874604d3984df67dc511cc263d8eeaa3f2119273a80ab271d5c2280a", func := "shuttle/shuttlelaw12.RuleEvals", spec := "ruleEvals", unfollowed := true, recurses := true, apart := false }
def RuleEvalsSaid : Prop := ruleEvalsRow.holds Try.pinned (OpenSpec.ofChange ruleEvalsSpec)

/-- ITS FALSE NEIGHBOUR: 'it returns false'. Refute it at one input. -/
def ruleEvalsWrong : ChangeSpec := { name := "ruleEvals", fn := fun _ => fun
  | [d1, d2] => { results := [.lit (.bool false)], args := [d1, d2] }
  | _ => none }
def RuleEvalsWrongFalsely : Prop := ruleEvalsRow.holds Try.pinned (OpenSpec.ofChange ruleEvalsWrong)

/-- 'shuttlelaw12.RuleFolds': WHATEVER THE INPUT: true; the input reads as it did. -/
def ruleFoldsSpec : ChangeSpec := { name := "ruleFolds", fn := fun _ => fun
  | [d1, d2] => { results := [.lit (.bool true)], args := [d1, d2] }
  | _ => none }
def ruleFoldsRow : OpenClaim := { program := "ytinhlaiogkmkfaa", sum := "84a15909874604d3984df67dc511cc263d8eeaa3f2119273a80ab271d5c2280a", func := "shuttle/shuttlelaw12.RuleFolds", spec := "ruleFolds", unfollowed := true, recurses := true, apart := false }
def RuleFoldsSaid : Prop := ruleFoldsRow.holds Try.pinned (OpenSpec.ofChange ruleFoldsSpec)

/-- ITS FALSE NEIGHBOUR: 'it returns false'. Refute it at one input. -/
def ruleFoldsWrong : ChangeSpec := { name := "ruleFolds", fn := fun _ => fun
  | [d1, d2] => { results := [.lit (.bool false)], args := [d1, d2] }
  | _ => none }
def RuleFoldsWrongFalsely : Prop := ruleFoldsRow.holds Try.pinned (OpenSpec.ofChange ruleFoldsWrong)

/-- 'shuttlelaw12.RuleWhens': WHATEVER THE INPUT: true; the input reads as it did. -/
def ruleWhensSpec : ChangeSpec := { name := "ruleWhens", fn := fun _ => fun
  | [d1, d2, d3] => { results := [.lit (.bool true)], args := [d1, d2, d3] }
  | _ => none }
def ruleWhensRow : OpenClaim := { program := "ytinhlaiogkmkfaa", sum := "84a15909874604d3984df67dc511cc263d8eeaa3f2119273a80ab271d5c2280a", func := "shuttle/shuttlelaw12.RuleWhens", spec := "ruleWhens", unfollowed := true, recurses := true, apart := false }
def RuleWhensSaid : Prop := ruleWhensRow.holds Try.pinned (OpenSpec.ofChange ruleWhensSpec)

/-- ITS FALSE NEIGHBOUR: 'it returns false'. Refute it at one input. -/
def ruleWhensWrong : ChangeSpec := { name := "ruleWhens", fn := fun _ => fun
  | [d1, d2, d3] => { results := [.lit (.bool false)], args := [d1, d2, d3] }
  | _ => none }
def RuleWhensWrongFalsely : Prop := ruleWhensRow.holds Try.pinned (OpenSpec.ofChange ruleWhensWrong)

/-- 'shuttlelaw12.RuleFolded': WHATEVER THE INPUT: true; the input reads as it did. -/
def ruleFoldedSpec : ChangeSpec := { name := "ruleFolded", fn := fun _ => fun
  | [d1, d2, d3] => { results := [.lit (.bool true)], args := [d1, d2, d3] }
  | _ => none }
def ruleFoldedRow : OpenClaim := { program := "ytinhlaiogkmkfaa", sum := "84a15909874604d3984df67dc511cc263d8eeaa3f2119273a80ab271d5c2280a", func := "shuttle/shuttlelaw12.RuleFolded", spec := "ruleFolded", unfollowed := true, recurses := true, apart := false }
def RuleFoldedSaid : Prop := ruleFoldedRow.holds Try.pinned (OpenSpec.ofChange ruleFoldedSpec)

/-- ITS FALSE NEIGHBOUR: 'it returns false'. Refute it at one input. -/
def ruleFoldedWrong : ChangeSpec := { name := "ruleFolded", fn := fun _ => fun
  | [d1, d2, d3] => { results := [.lit (.bool false)], args := [d1, d2, d3] }
  | _ => none }
def RuleFoldedWrongFalsely : Prop := ruleFoldedRow.holds Try.pinned (OpenSpec.ofChange ruleFoldedWrong)

/-- 'shuttlelaw12.RuleLogic': WHATEVER THE INPUT: true; the input reads as it did. -/
def ruleLogicSpec : ChangeSpec := { name := "ruleLogic", fn := fun _ => fun
  | [d1, d2, d3, d4, d5] => { results := [.lit (.bool true)], args := [d1, d2, d3, d4, d5] }
  | _ => none }
def ruleLogicRow : OpenClaim := { program := "ytinhlaiogkmkfaa", sum := "84a15909874604d3984df67dc511cc263d8eeaa3f2119273a80ab271d5c2280a", func := "shuttle/shuttlelaw12.RuleLogic", spec := "ruleLogic", unfollowed := true, recurses := true, apart := false }
def RuleLogicSaid : Prop := ruleLogicRow.holds Try.pinned (OpenSpec.ofChange ruleLogicSpec)

/-- ITS FALSE NEIGHBOUR: 'it returns false'. Refute it at one input. -/
def ruleLogicWrong : ChangeSpec := { name := "ruleLogic", fn := fun _ => fun
  | [d1, d2, d3, d4, d5] => { results := [.lit (.bool false)], args := [d1, d2, d3, d4, d5] }
  | _ => none }
def RuleLogicWrongFalsely : Prop := ruleLogicRow.holds Try.pinned (OpenSpec.ofChange ruleLogicWrong)

/-- 'shuttlelaw12.RuleFirst': WHATEVER THE INPUT: true; the input reads as it did. -/
def ruleFirstSpec : ChangeSpec := { name := "ruleFirst", fn := fun _ => fun
  | [d1, d2, d3, d4] => { results := [.lit (.bool true)], args := [d1, d2, d3, d4] }
  | _ => none }
def ruleFirstRow : OpenClaim := { program := "ytinhlaiogkmkfaa", sum := "84a15909874604d3984df67dc511cc263d8eeaa3f2119273a80ab271d5c2280a", func := "shuttle/shuttlelaw12.RuleFirst", spec := "ruleFirst", unfollowed := true, recurses := true, apart := false }
def RuleFirstSaid : Prop := ruleFirstRow.holds Try.pinned (OpenSpec.ofChange ruleFirstSpec)

/-- ITS FALSE NEIGHBOUR: 'it returns false'. Refute it at one input. -/
def ruleFirstWrong : ChangeSpec := { name := "ruleFirst", fn := fun _ => fun
  | [d1, d2, d3, d4] => { results := [.lit (.bool false)], args := [d1, d2, d3, d4] }
  | _ => none }
def RuleFirstWrongFalsely : Prop := ruleFirstRow.holds Try.pinned (OpenSpec.ofChange ruleFirstWrong)

/-- 'shuttlelaw12.RuleKnown': WHATEVER THE INPUT: true; the input reads as it did. -/
def ruleKnownSpec : ChangeSpec := { name := "ruleKnown", fn := fun _ => fun
  | [d1, d2] => { results := [.lit (.bool true)], args := [d1, d2] }
  | _ => none }
def ruleKnownRow : OpenClaim := { program := "ytinhlaiogkmkfaa", sum := "84a15909874604d3984df67dc511cc263d8eeaa3f2119273a80ab271d5c2280a", func := "shuttle/shuttlelaw12.RuleKnown", spec := "ruleKnown", unfollowed := true, recurses := true, apart := false }
def RuleKnownSaid : Prop := ruleKnownRow.holds Try.pinned (OpenSpec.ofChange ruleKnownSpec)

/-- ITS FALSE NEIGHBOUR: 'it returns false'. Refute it at one input. -/
def ruleKnownWrong : ChangeSpec := { name := "ruleKnown", fn := fun _ => fun
  | [d1, d2] => { results := [.lit (.bool false)], args := [d1, d2] }
  | _ => none }
def RuleKnownWrongFalsely : Prop := ruleKnownRow.holds Try.pinned (OpenSpec.ofChange ruleKnownWrong)

/-- 'shuttlelaw12.RuleNames': WHATEVER THE INPUT: true; the input reads as it did. -/
def ruleNamesSpec : ChangeSpec := { name := "ruleNames", fn := fun _ => fun
  | [d1, d2, d3] => { results := [.lit (.bool true)], args := [d1, d2, d3] }
  | _ => none }
def ruleNamesRow : OpenClaim := { program := "ytinhlaiogkmkfaa", sum := "84a15909874604d3984df67dc511cc263d8eeaa3f2119273a80ab271d5c2280a", func := "shuttle/shuttlelaw12.RuleNames", spec := "ruleNames", unfollowed := true, recurses := true, apart := false }
def RuleNamesSaid : Prop := ruleNamesRow.holds Try.pinned (OpenSpec.ofChange ruleNamesSpec)

/-- ITS FALSE NEIGHBOUR: 'it returns false'. Refute it at one input. -/
def ruleNamesWrong : ChangeSpec := { name := "ruleNames", fn := fun _ => fun
  | [d1, d2, d3] => { results := [.lit (.bool false)], args := [d1, d2, d3] }
  | _ => none }
def RuleNamesWrongFalsely : Prop := ruleNamesRow.holds Try.pinned (OpenSpec.ofChange ruleNamesWrong)

/- THE SECOND FORM. 'bulk': how many values and letters a reading holds, each counted each time it is reached (what is shared counts as often as it is met; a slice's spare places count too). A statement '..UptoSaid' is the law's where the arguments, and the package variables that the reading takes, are together of bulk at most 1048576: NARROWER than '..Said'. Prove '..Said' where nothing that the law and all that it calls make is longer than what came in: it says more and counts as full. Else prove '..UptoSaid'. A law counts once. -/
mutual
def uptoBulk {H : Type} : DataW H → Nat
  | .lit (.string bytes) => bytes.length + 1
  | .lit _ => 1
  | .nil => 1
  | .ptr d => uptoBulk d + 1
  | .slice elems spare => uptoBulkAll elems + uptoBulkAll spare + 1
  | .agg parts => uptoBulkAll parts + 1
  | .iface _ d => uptoBulk d + 1
  | .map entries => uptoBulkEntries entries + 1
  | .held _ => 1
def uptoBulkAll {H : Type} : List (DataW H) → Nat
  | [] => 0
  | d :: r => uptoBulk d + uptoBulkAll r
def uptoBulkEntries {H : Type} : List (Lit × DataW H) → Nat
  | [] => 0
  | x :: r => uptoBulkEntry x + uptoBulkEntries r
def uptoBulkEntry {H : Type} : Lit × DataW H → Nat
  | (.string bytes, d) => bytes.length + uptoBulk d + 1
  | (_, d) => uptoBulk d + 1
 end
def uptoSmall : (H : Type) → List (DataW H) → Bool := fun _ ds => decide (uptoBulkAll ds ≤ 1048576)
def OpenSpec.upto (s : _root_.Go.ChangeSpec) : _root_.Go.OpenSpec := { _root_.Go.OpenSpec.ofChange s with cond := some uptoSmall }

/-- 'shuttlelaw12.RuleEvals', WHERE WHAT IT READS IS OF BULK AT MOST 1048576: true; the input reads as it did. -/
def ruleEvalsUptoRow : OpenClaim := { program := "ytinhlaiogkmkfaa", sum := "84a15909874604d3984df67dc511cc263d8eeaa3f2119273a80ab271d5c2280a", func := "shuttle/shuttlelaw12.RuleEvals", spec := "ruleEvals", unfollowed := true, recurses := true, apart := false, narrowed := true }
def RuleEvalsUptoSaid : Prop := ruleEvalsUptoRow.holds Try.pinned (OpenSpec.upto ruleEvalsSpec)

/-- 'shuttlelaw12.RuleFolds', WHERE WHAT IT READS IS OF BULK AT MOST 1048576: true; the input reads as it did. -/
def ruleFoldsUptoRow : OpenClaim := { program := "ytinhlaiogkmkfaa", sum := "84a15909874604d3984df67dc511cc263d8eeaa3f2119273a80ab271d5c2280a", func := "shuttle/shuttlelaw12.RuleFolds", spec := "ruleFolds", unfollowed := true, recurses := true, apart := false, narrowed := true }
def RuleFoldsUptoSaid : Prop := ruleFoldsUptoRow.holds Try.pinned (OpenSpec.upto ruleFoldsSpec)

/-- 'shuttlelaw12.RuleWhens', WHERE WHAT IT READS IS OF BULK AT MOST 1048576: true; the input reads as it did. -/
def ruleWhensUptoRow : OpenClaim := { program := "ytinhlaiogkmkfaa", sum := "84a15909874604d3984df67dc511cc263d8eeaa3f2119273a80ab271d5c2280a", func := "shuttle/shuttlelaw12.RuleWhens", spec := "ruleWhens", unfollowed := true, recurses := true, apart := false, narrowed := true }
def RuleWhensUptoSaid : Prop := ruleWhensUptoRow.holds Try.pinned (OpenSpec.upto ruleWhensSpec)

/-- 'shuttlelaw12.RuleFolded', WHERE WHAT IT READS IS OF BULK AT MOST 1048576: true; the input reads as it did. -/
def ruleFoldedUptoRow : OpenClaim := { program := "ytinhlaiogkmkfaa", sum := "84a15909874604d3984df67dc511cc263d8eeaa3f2119273a80ab271d5c2280a", func := "shuttle/shuttlelaw12.RuleFolded", spec := "ruleFolded", unfollowed := true, recurses := true, apart := false, narrowed := true }
def RuleFoldedUptoSaid : Prop := ruleFoldedUptoRow.holds Try.pinned (OpenSpec.upto ruleFoldedSpec)

/-- 'shuttlelaw12.RuleLogic', WHERE WHAT IT READS IS OF BULK AT MOST 1048576: true; the input reads as it did. -/
def ruleLogicUptoRow : OpenClaim := { program := "ytinhlaiogkmkfaa", sum := "84a15909874604d3984df67dc511cc263d8eeaa3f2119273a80ab271d5c2280a", func := "shuttle/shuttlelaw12.RuleLogic", spec := "ruleLogic", unfollowed := true, recurses := true, apart := false, narrowed := true }
def RuleLogicUptoSaid : Prop := ruleLogicUptoRow.holds Try.pinned (OpenSpec.upto ruleLogicSpec)

/-- 'shuttlelaw12.RuleFirst', WHERE WHAT IT READS IS OF BULK AT MOST 1048576: true; the input reads as it did. -/
def ruleFirstUptoRow : OpenClaim := { program := "ytinhlaiogkmkfaa", sum := "84a15909874604d3984df67dc511cc263d8eeaa3f2119273a80ab271d5c2280a", func := "shuttle/shuttlelaw12.RuleFirst", spec := "ruleFirst", unfollowed := true, recurses := true, apart := false, narrowed := true }
def RuleFirstUptoSaid : Prop := ruleFirstUptoRow.holds Try.pinned (OpenSpec.upto ruleFirstSpec)

/-- 'shuttlelaw12.RuleKnown', WHERE WHAT IT READS IS OF BULK AT MOST 1048576: true; the input reads as it did. -/
def ruleKnownUptoRow : OpenClaim := { program := "ytinhlaiogkmkfaa", sum := "84a15909874604d3984df67dc511cc263d8eeaa3f2119273a80ab271d5c2280a", func := "shuttle/shuttlelaw12.RuleKnown", spec := "ruleKnown", unfollowed := true, recurses := true, apart := false, narrowed := true }
def RuleKnownUptoSaid : Prop := ruleKnownUptoRow.holds Try.pinned (OpenSpec.upto ruleKnownSpec)

/-- 'shuttlelaw12.RuleNames', WHERE WHAT IT READS IS OF BULK AT MOST 1048576: true; the input reads as it did. -/
def ruleNamesUptoRow : OpenClaim := { program := "ytinhlaiogkmkfaa", sum := "84a15909874604d3984df67dc511cc263d8eeaa3f2119273a80ab271d5c2280a", func := "shuttle/shuttlelaw12.RuleNames", spec := "ruleNames", unfollowed := true, recurses := true, apart := false, narrowed := true }
def RuleNamesUptoSaid : Prop := ruleNamesUptoRow.holds Try.pinned (OpenSpec.upto ruleNamesSpec)

end Rows
end Go.Proofs.Ytinhlaiogkmkfaa
