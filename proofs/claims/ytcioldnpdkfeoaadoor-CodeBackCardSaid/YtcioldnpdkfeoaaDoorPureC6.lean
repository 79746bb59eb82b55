/- Plain law, made by program: what the functions of this group compute. -/
import Derived.Test.YtcioldnpdkfeoaaDoorPureC5
namespace Cin
def L_textIs (s_ : List UInt8) (e_ : Int) (w_ : Int) (want_ : List UInt8) : Option (Bool) :=
  join (fun (s2_ : List UInt8) =>
  cond (decide (e_ = w_)) (some (decide (s_ = s2_))) (some false)) (fun j3_ =>
  cond (!decide (w_ = 0)) (j3_ []) (j3_ want_))

def L_codeBegun (F : Nat) : Option (Bool) :=
  (code_Decode F [1, 255, 254, 13, 0, 3]).bind fun r1_ =>
  (code_Place F r1_.1 3).bind fun r7_ =>
  cond (decide (r1_.2.Err = 0)) (cond (decide (r7_.2 = 0)) (cond (decide ((r1_.1.length : Int) = 2)) ((idx r1_.1 0).bind fun x12_ =>
  cond (decide (x12_.A = (-2))) (some (decide (r7_.1 = 1))) (some false)) (some false)) (some false)) (some false)

def L_CodePlaces (F : Nat) (l_ : List Ins) (at_ : Int) : Option (Bool) :=
  (code_Place F l_ at_).bind fun r3_ =>
  (R_PlaceOf F l_ at_).bind fun r5_ =>
  join (fun (n8_ : Int) (n9_ : Int) =>
  (L_codeBegun F).bind fun r12_ =>
  cond (r12_) (cond (decide (r3_.2 = n9_)) (some (decide (r3_.1 = n8_))) (some false)) (some false)) (fun j10_ =>
  cond (decide (r5_ < 0)) (j10_ 0 5) (j10_ r5_ 0))

def L_CodeEncodes (F : Nat) (l_ : List Ins) : Option (Bool) :=
  (code_Encode F l_).bind fun r3_ =>
  (R_CodeOf F l_).bind fun r5_ =>
  (L_codeBegun F).bind fun r7_ =>
  cond (r7_) ((L_textIs r3_.1 r3_.2 r5_.2 r5_.1).bind fun r10_ =>
  some r10_) (some false)

def L_CodeDecodes (F : Nat) (s_ : List UInt8) : Option (Bool) :=
  (code_Decode F s_).bind fun r1_ =>
  (R_InsOf F s_).bind fun r7_ =>
  (L_codeBegun F).bind fun r13_ =>
  cond (r13_) (cond (decide ((⟨r1_.2.Err, r1_.2.At⟩ : Fault) = (⟨r7_.2.Err, r7_.2.At⟩ : Fault))) ((R_SameIns F r1_.1 r7_.1).bind fun r17_ =>
  some r17_) (some false)) (some false)

def L_CodeBack_L1 (F : Nat) (r4_ : (List Ins) × Fault) (j276_ : Unit → Option (Bool)) : Nat → Int → Option (Bool)
  | 0, _ => none
  | k1_ + 1, n351_ =>
    cond (decide (n351_ < (r4_.1.length : Int))) (join (fun (_ : Unit) =>
    L_CodeBack_L1 F r4_ j276_ k1_ (w64 (n351_ + 1))) (fun j464_ =>
    (idx r4_.1 n351_).bind fun x465_ =>
    (code_Place F r4_.1 x465_.At).bind fun r470_ =>
    join (fun (b485_ : Bool) =>
    cond (b485_) (some false) (j464_ ())) (fun j486_ =>
    cond (!decide (r470_.2 = 0)) (j486_ true) (cond (!decide (r470_.1 = n351_)) (j486_ true) (cond (decide (0 < n351_)) ((idx r4_.1 n351_).bind fun x490_ =>
    (idx r4_.1 (w64 (n351_ - 1))).bind fun x495_ =>
    j486_ (decide (x490_.At ≤ x495_.At))) (j486_ false)))))) (j276_ ())

def L_CodeBack (F : Nat) (s_ : List UInt8) : Option (Bool) :=
  (L_codeBegun F).bind fun r1_ =>
  cond (!r1_) (some false) ((code_Decode F s_).bind fun r4_ =>
  cond (!decide (r4_.2.Err = 0)) (some (decide ((r4_.1.length : Int) = 0))) ((code_Encode F r4_.1).bind fun r11_ =>
  join (fun (_ : Unit) =>
  join (fun (_ : Unit) =>
  some true) (fun j276_ =>
  L_CodeBack_L1 F r4_ j276_ F 0)) (fun j32_ =>
  join (fun (b41_ : Bool) =>
  cond (b41_) (some false) (j32_ ())) (fun j42_ =>
  cond (!decide (r11_.2 = 0)) (j42_ true) (cond (!decide (r11_.1 = s_)) (j42_ true) (cond (decide ((r4_.1.length : Int) = 0)) (j42_ true) ((idx r4_.1 0).bind fun x46_ =>
  j42_ (!decide (x46_.At = 0)))))))))

end Cin
