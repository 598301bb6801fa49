/- The laws of package value that hold of themselves: round trips, canonical texts, distinct texts. -/
import Derived.Test.YtfhlignhdnhmlaaDoorValC
set_option linter.unusedSimpArgs false
set_option linter.unusedVariables false
namespace Go.Proofs.YtfhlignhdnhmlaaDoor
open Go.RowKit

theorem fmtV_inj {k e n m : Int} {E : List EnT} (h6 : k ≠ 6) (hn : vv n k e E = true) (hm : vv m k e E = true) (h : (fmtV k e n E).1 = (fmtV k e m E).1) : n = m := by
  obtain ⟨a, h1, h2⟩ := rt hn
  obtain ⟨b, h3, h4⟩ := rt hm
  rw [h, h3] at h1
  simp only [Prod.mk.injEq, and_true] at h1
  rcases h2 with h2 | ⟨h2, _⟩
  · rcases h4 with h4 | ⟨h4, _⟩
    · omega
    · exact absurd h4 h6
  · exact absurd h2 h6
end Go.Proofs.YtfhlignhdnhmlaaDoor
