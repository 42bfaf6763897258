/- GlobChecks: which patterns are wrong, and where, is told as the document says: for every text. -/
import Derived.Test.YtofgjlfgpnmmdaaPBx1
import Derived.Test.YtofgjlfgpnmmdaaRm
namespace Go.Proofs.Ytofgjlfgpnmmdaa.Pure
open Go.RowKit Go.Proofs.Ytofgjlfgpnmmdaa.PB Go.Proofs.YtofgjlfgpnmmdaaW.PrintWords Go.Proofs.YtofgjlfgpnmmdaaW.PrintLast
set_option linter.unusedVariables false
theorem awake_true : shuttlelaw6_awake.f = some true := by
  unfold shuttlelaw6_awake.f glob_Match.f glob_Check.f
  rw [if_pos (by decide), if_pos (by decide), if_pos (by decide), if_pos (by decide), if_pos (by decide), G.awake1, G.awake2, G.awake3]
  rfl
theorem GlobChecks : shuttlelaw6_GlobChecks.Pure := by
  intro p hp
  unfold shuttlelaw6_GlobChecks.f shuttleref6_Check.f glob_Check.f
  rw [if_pos (by omega), awake_true]
  simp
end Go.Proofs.Ytofgjlfgpnmmdaa.Pure
