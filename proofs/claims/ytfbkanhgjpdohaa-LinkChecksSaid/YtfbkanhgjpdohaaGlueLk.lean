/- What came in is no longer than the plain laws bear. -/
import Derived.Test.YtfbkanhgjpdohaaPlainLk10
import Derived.Test.YtfbkanhgjpdohaaReads
namespace Cin
open Go Go.Proofs.Ytfbkanhgjpdohaa
theorem sm_reach {n : Nat} (h : n ≤ reachBytes) : Small 140737488356000 n := by
  have : reachBytes = 140737488351232 := rfl
  unfold Small
  omega
theorem sm_mul {n : Nat} (k : Nat) (h : n * (k + 1) ≤ reachBytes) : Small 140737488356000 n :=
  sm_reach (Nat.le_trans (Nat.le_mul_of_pos_right n (Nat.succ_pos k)) h)
theorem fits_method {m : Method} (h : Ok_Method reachBytes m) : m.Fits 140737488356000 :=
  ⟨sm_reach h.1, sm_mul 23 h.2.2.1.1, fun k hk => sm_reach (h.2.2.1.2 k hk).2, sm_reach h.2.2.2.1.2, sm_mul 39 h.2.2.2.2.2.2.2.1, fun x hx => sm_reach (h.2.2.2.2.2.2.2.2 x hx).2.2.2⟩
theorem fits_class {c : Class} (h : Ok_Class reachBytes c) : c.Fits 140737488356000 :=
  ⟨sm_reach h.1, sm_reach h.2.1, sm_mul 39 h.2.2.1.1, fun f hf => ⟨sm_reach (h.2.2.1.2 f hf).1, sm_reach (h.2.2.1.2 f hf).2.2⟩, sm_mul 127 h.2.2.2.1, fun m hm => fits_method (h.2.2.2.2 m hm)⟩
theorem fits_of {l : List Class} (h : l.length * 80 ≤ reachBytes ∧ ∀ x ∈ l, Ok_Class reachBytes x) : Fits 140737488356000 l :=
  ⟨sm_mul 79 h.1, fun c hc => fits_class (h.2 c hc)⟩
theorem lfits_of {k : Linked} (h : Ok_Linked reachBytes k) : LFits 140737488356000 k :=
  ⟨sm_mul 7 h.2.1.1, sm_mul 23 h.2.2.1.1, fun x hx => sm_mul 39 (h.2.2.1.2 x hx).1, sm_mul 23 h.2.2.2.1.1, fun x hx => sm_mul 15 (h.2.2.2.1.2 x hx).1, sm_mul 23 h.2.2.2.2.1, fun x hx => sm_mul 15 (h.2.2.2.2.2 x hx).1⟩
end Cin
