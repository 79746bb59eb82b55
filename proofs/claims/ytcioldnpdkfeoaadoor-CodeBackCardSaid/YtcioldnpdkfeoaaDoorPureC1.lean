/- Plain law, made by program: what the functions of this group compute. -/
import Derived.Test.YtcioldnpdkfeoaaDoorPureBase
namespace Cin
structure Ins where
  At : Int
  Op : Int
  A : Int
  B : Int
  deriving DecidableEq

def g_code_shapes : List Int := [0, 1, 0, 3, 3, 0, 0, 0, 0, 0, 0, 0, 0, 2, 2, 2, 2, 2, 3, 4, 4, 0, 3, 0, 0, 0, 4, 0, 0, 3, 3, 0, 0, 0, 4, 0, 0]

def code_IsOp (n_ : Int) : Option (Bool) :=
  cond (decide (0 ≤ n_)) (some (decide (n_ < 37))) (some false)

def R_GoesTo (op_ : Int) : Option (Bool) :=
  cond (decide (13 ≤ op_)) (some (decide (op_ ≤ 17))) (some false)

def R_PlaceOf_L1 (at_ : Int) (l_ : List Ins) (j26_ : Unit → Option (Int)) : Nat → Int → Option (Int)
  | 0, _ => none
  | k1_ + 1, n34_ =>
    cond (decide (n34_ < (l_.length : Int))) ((idx l_ n34_).bind fun x44_ =>
    cond (decide (x44_.At = at_)) (some n34_) (R_PlaceOf_L1 at_ l_ j26_ k1_ (w64 (n34_ + 1)))) (j26_ ())

def R_PlaceOf (F : Nat) (l_ : List Ins) (at_ : Int) : Option (Int) :=
  join (fun (_ : Unit) =>
  some (-1)) (fun j26_ =>
  R_PlaceOf_L1 at_ l_ j26_ F 0)

def R_Behind (op_ : Int) : Option (Int) :=
  join (fun (_ : Unit) =>
  join (fun (b141_ : Bool) =>
  cond (b141_) (some (-1)) (some 0)) (fun j142_ =>
  cond (decide (op_ < 0)) (j142_ true) (j142_ (decide (36 < op_))))) (fun j70_ =>
  join (fun (_ : Unit) =>
  j70_ ()) (fun j105_ =>
  join (fun (b115_ : Bool) =>
  cond (b115_) (some 2) (join (fun (b132_ : Bool) =>
  cond (b132_) (some 1) (j105_ ())) (fun j133_ =>
  cond (decide (op_ = 3)) (j133_ (decide (op_ = 3))) (cond (decide (op_ = 4)) (j133_ (decide (op_ = 4))) (cond (decide (op_ = 18)) (j133_ (decide (op_ = 18))) (cond (decide (op_ = 22)) (j133_ (decide (op_ = 22))) (cond (decide (op_ = 29)) (j133_ (decide (op_ = 29))) (j133_ (decide (op_ = 30)))))))))) (fun j116_ =>
  cond (decide (op_ = 1)) (j116_ (decide (op_ = 1))) (cond (decide (op_ = 13)) (j116_ (decide (op_ = 13))) (cond (decide (op_ = 14)) (j116_ (decide (op_ = 14))) (cond (decide (op_ = 15)) (j116_ (decide (op_ = 15))) (cond (decide (op_ = 16)) (j116_ (decide (op_ = 16))) (cond (decide (op_ = 17)) (j116_ (decide (op_ = 17))) (cond (decide (op_ = 19)) (j116_ (decide (op_ = 19))) (cond (decide (op_ = 20)) (j116_ (decide (op_ = 20))) (cond (decide (op_ = 26)) (j116_ (decide (op_ = 26))) (j116_ (decide (op_ = 34))))))))))))))

def R_between (n_ : Int) (least_ : Int) (most_ : Int) : Option (Bool) :=
  cond (decide (least_ ≤ n_)) (some (decide (n_ ≤ most_))) (some false)

def code_within (n_ : Int) (least_ : Int) (most_ : Int) : Option (Bool) :=
  cond (decide (least_ ≤ n_)) (some (decide (n_ ≤ most_))) (some false)

def R_ByItself (op_ : Int) : Option (Bool) :=
  cond (decide (op_ = 19)) (some true) (cond (decide (op_ = 20)) (some true) (cond (decide (op_ = 26)) (some true) (some (decide (op_ = 34)))))

def code_shape_size (s_ : Int) : Option (Int) :=
  cond (decide (s_ = 0)) (some 1) (cond (decide (s_ = 3)) (some 2) (some 3))

def code_Goes (n_ : Int) : Option (Bool) :=
  (code_IsOp n_).bind fun r1_ =>
  cond (r1_) ((idx g_code_shapes n_).bind fun x4_ =>
  some (decide (x4_ = 2))) (some false)

end Cin
