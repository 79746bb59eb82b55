/- THE PLAIN LAW OF LinkChecks: for all that is handed in, the answer is true. No program in sight. -/
import Derived.Test.YtfbkanhgjpdohaaPlainLk11
import Derived.Test.YtfbkanhgjpdohaaPlainLinks
import Derived.Test.YtfbkanhgjpdohaaPureLA
namespace Cin
theorem plain_LinkChecks (k : Linked) (h0 : Go.Proofs.Ytfbkanhgjpdohaa.Ok_Linked Go.reachBytes k) : ∃ F, L_LinkChecks F k = some true := by
  refine ⟨140737488355940 + 60, ?_⟩
  have hF : 1100 < 140737488355940 + 60 := by omega
  obtain ⟨e, h1, h2, _⟩ := check_link (F := 140737488355940 + 60) hF (fits_of h0.1) (lfits_of h0)
  have h1' : link_Check (140737488355940 + 60) (⟨k.Classes, k.Supers, k.Fields, k.Names, k.Targets⟩ : Linked) = some e := h1
  have h2' : R_CheckLinked (140737488355940 + 60) (⟨k.Classes, k.Supers, k.Fields, k.Names, k.Targets⟩ : Linked) = some e := h2
  unfold L_LinkChecks
  rw [link_begun, Option.bind_some, cond_true, h1', h2', Option.bind_some, Option.bind_some, decide_eq_true rfl]
end Cin
