/- Plain law, made by program: what the functions of this group compute. -/
import Derived.Test.YtfbkanhgjpdohaaPureL7
namespace Cin
def R_CheckLinked (F : Nat) (k_ : Linked) : Option (Int) :=
  (R_LinkOf F k_.Classes).bind fun r12_ =>
  cond (!decide (r12_.2 = 0)) (some 4) ((R_SameLinked F (⟨k_.Classes, k_.Supers, k_.Fields, k_.Names, k_.Targets⟩ : Linked) (⟨r12_.1.Classes, r12_.1.Supers, r12_.1.Fields, r12_.1.Names, r12_.1.Targets⟩ : Linked)).bind fun r30_ =>
  cond (!r30_) (some 4) (some 0))

def L_choose (c_ : Int) (n_ : Int) : Option (Int) :=
  Option.bind (α := Int) (cond (decide (c_ < 0)) (some (w64 (0 - (w64 (c_ + 1))))) (some c_)) fun (n2_ : Int) =>
  (need (!decide (n_ = 0))).bind fun _ =>
  some (n2_.tmod n_)

end Cin
