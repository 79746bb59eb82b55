/- Plain law, made by program: what the functions of this group compute. -/
import Derived.Test.YtfbkanhgjpdohaaPureT
namespace Cin
def R_between (n_ : Int) (least_ : Int) (most_ : Int) : Option (Bool) :=
  some ((decide (least_ ≤ n_)) && (decide (n_ ≤ most_)))

def image_within (n_ : Int) (least_ : Int) (most_ : Int) : Option (Bool) :=
  some ((decide (least_ ≤ n_)) && (decide (n_ ≤ most_)))

def image_named (k_ : Int) : Option (Bool) :=
  some ((decide (k_ = 3)) || (decide (k_ = 4)))

def image_IsName_L1 (l1_ : List UInt8) : Nat → Int → Option (Way (Bool) (Unit))
  | 0, _ => none
  | k1_ + 1, n40_ =>
    cond (decide (n40_ < (l1_.length : Int))) ((idx l1_ n40_).bind fun x51_ =>
    cond (((((decide ((x51_.toNat : Int) < 97)) || (decide (122 < (x51_.toNat : Int)))) && ((decide ((x51_.toNat : Int) < 65)) || (decide (90 < (x51_.toNat : Int))))) && ((decide ((x51_.toNat : Int) < 48)) || (decide (57 < (x51_.toNat : Int))))) && (!decide ((x51_.toNat : Int) = 95))) (some (.out false)) (image_IsName_L1 l1_ k1_ (w64 (n40_ + 1)))) (some (.go ()))

def image_IsName (F : Nat) (s_ : List UInt8) : Option (Bool) :=
  (bytesOf s_).bind fun l1_ =>
  seqR (α := Unit) (image_IsName_L1 l1_ F 0) fun (_ : Unit) =>
  some ((!decide (s_ = [])) && (decide ((s_.length : Int) ≤ 20)))

def image_isKind (F : Nat) (k_ : Kind) : Option (Bool) :=
  (image_named k_.Kind).bind fun r2_ =>
  cond (r2_) ((image_IsName F k_.Class).bind fun r5_ =>
  some r5_) (some (((decide (k_.Kind = 1)) || (decide (k_.Kind = 2))) && (decide (k_.Class = []))))

def R_IsName_L1 (s_ : List UInt8) : Nat → Int → Option (Way (Bool) (Unit))
  | 0, _ => none
  | k1_ + 1, n20_ =>
    cond (decide (n20_ < (s_.length : Int))) ((idx s_ n20_).bind fun b27_ =>
    cond (!(((((decide (97 ≤ (b27_.toNat : Int))) && (decide ((b27_.toNat : Int) ≤ 122))) || ((decide (65 ≤ (b27_.toNat : Int))) && (decide ((b27_.toNat : Int) ≤ 90)))) || ((decide (48 ≤ (b27_.toNat : Int))) && (decide ((b27_.toNat : Int) ≤ 57)))) || (decide ((b27_.toNat : Int) = 95)))) (some (.out false)) (R_IsName_L1 s_ k1_ (w64 (n20_ + 1)))) (some (.go ()))

def R_IsName (F : Nat) (s_ : List UInt8) : Option (Bool) :=
  seqR (α := Unit) (R_IsName_L1 s_ F 0) fun (_ : Unit) =>
  some ((decide (1 ≤ (s_.length : Int))) && (decide ((s_.length : Int) ≤ 20)))

def R_RightKind (F : Nat) (k_ : Kind) : Option (Bool) :=
  cond ((decide (k_.Kind = 1)) || (decide (k_.Kind = 2))) (some (decide (k_.Class = []))) (cond ((decide (k_.Kind = 3)) || (decide (k_.Kind = 4))) ((R_IsName F k_.Class).bind fun r4_ =>
  some r4_) (some false))

end Cin
