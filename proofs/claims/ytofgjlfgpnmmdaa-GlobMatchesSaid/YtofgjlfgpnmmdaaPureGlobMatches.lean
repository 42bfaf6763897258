/- GlobMatches: any pattern matches just the texts that the document says: for every pattern and text. -/
import Derived.Test.YtofgjlfgpnmmdaaPBx1
import Derived.Test.YtofgjlfgpnmmdaaRm
namespace Go.Proofs.Ytofgjlfgpnmmdaa.Pure
open Go.RowKit Go.Proofs.Ytofgjlfgpnmmdaa.PB Go.Proofs.YtofgjlfgpnmmdaaW.PrintWords Go.Proofs.YtofgjlfgpnmmdaaW.PrintLast
set_option linter.unusedVariables false
theorem awake_true : shuttlelaw6_awake.f = some true := by
  unfold shuttlelaw6_awake.f glob_Match.f glob_Check.f
  rw [if_pos (by decide), if_pos (by decide), if_pos (by decide), if_pos (by decide), if_pos (by decide), G.awake1, G.awake2, G.awake3]
  rfl
theorem GlobMatches : shuttlelaw6_GlobMatches.Pure := by
  intro p s hp hs
  unfold shuttlelaw6_GlobMatches.f shuttleref6_Match.f glob_Match.f
  rw [if_pos (by omega), if_pos (by omega), awake_true]
  simp
end Go.Proofs.Ytofgjlfgpnmmdaa.Pure
