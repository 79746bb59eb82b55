/- Plain law: LinkLinks answers true, whatever classes come in. No program in sight. -/
import Derived.Test.YtfbkanhgjpdohaaGlueLk
import Derived.Test.YtfbkanhgjpdohaaPureL7
import Derived.KernelRfl
namespace Cin
theorem link_begun (F : Nat) : L_linkBegun (F + 60) = some true := by kernel_rfl
theorem plain_LinkLinks (l : List Class) (h0 : l.length * 80 ≤ Go.reachBytes ∧ ∀ x ∈ l, Go.Proofs.Ytfbkanhgjpdohaa.Ok_Class Go.reachBytes x) : ∃ F, L_LinkLinks F l = some true := by
  refine ⟨140737488355940 + 60, ?_⟩
  have hF : 1100 < 140737488355940 + 60 := by omega
  have hf : Fits (140737488355940 + 60) l := fits_of h0
  obtain ⟨r, h1, h2, h3, h4⟩ := link_both hF hf
  unfold L_LinkLinks
  rw [h1, h2, link_begun]
  simp only [Option.bind_some, decide_true, Bool.and_self, cond_true]
  by_cases h0 : r.2 = 0
  · obtain ⟨hH, e⟩ := h3 h0
    rw [e]
    rw [sameLinked (a := (⟨(linked l).Classes, (linked l).Supers, (linked l).Fields, (linked l).Names, (linked l).Targets⟩ : Linked)) (linked_fits hF hH) (same_self hf)]
    simp
  · rw [h4 h0]
    rfl
end Cin
