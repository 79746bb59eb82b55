/- Plain law, made by program: what the functions of this group compute. -/
import Derived.Test.YtfbkanhgjpdohaaPureL8
namespace Cin
def L_LinkChecks (F : Nat) (k_ : Linked) : Option (Bool) :=
  (L_linkBegun F).bind fun r12_ =>
  cond (r12_) ((link_Check F (⟨k_.Classes, k_.Supers, k_.Fields, k_.Names, k_.Targets⟩ : Linked)).bind fun r15_ =>
  (R_CheckLinked F (⟨k_.Classes, k_.Supers, k_.Fields, k_.Names, k_.Targets⟩ : Linked)).bind fun r17_ =>
  some (decide (r15_ = r17_))) (some false)

end Cin
