/- Plain law, made by program: what the functions of this group compute. -/
import Derived.Test.YtcioldnpdkfeoaaDoorPureC4
namespace Cin
def code_Encode_L1 (l_ : List Ins) (j1348_ : (List UInt8) → Option ((List UInt8) × Int)) : Nat → (List UInt8) → Int → Option ((List UInt8) × Int)
  | 0, _, _ => none
  | k1_ + 1, l1527_, n1529_ =>
    cond (decide (n1529_ < (l_.length : Int))) (join (fun (l1799_ : List UInt8) =>
    code_Encode_L1 l_ j1348_ k1_ l1799_ (w64 (n1529_ + 1))) (fun j1801_ =>
    (idx l_ n1529_).bind fun x1802_ =>
    (code_IsOp x1802_.Op).bind fun r1808_ =>
    cond (!r1808_) (some ([], 7)) ((code_fits (⟨x1802_.At, x1802_.Op, x1802_.A, x1802_.B⟩ : Ins)).bind fun r1811_ =>
    cond (!r1811_) (some ([], 3)) (cond (!decide (x1802_.At = (l1527_.length : Int))) (some ([], 4)) ((app 1 l1527_ [b8 x1802_.Op]).bind fun l1816_ =>
    (idx g_code_shapes x1802_.Op).bind fun x1821_ =>
    join (fun (l1855_ : List UInt8) =>
    j1801_ l1855_) (fun j1857_ =>
    join (fun (l1861_ : List UInt8) (b1863_ : Bool) =>
    cond (b1863_) ((app 1 l1861_ [b8 (shrI x1802_.A 8), b8 x1802_.A]).bind fun l1868_ =>
    j1857_ l1868_) (cond (decide (x1821_ = 3)) ((app 1 l1861_ [b8 x1802_.A]).bind fun l1875_ =>
    j1857_ l1875_) (cond (decide (x1821_ = 4)) ((app 1 l1861_ [b8 x1802_.A, b8 x1802_.B]).bind fun l1882_ =>
    j1857_ l1882_) (j1857_ l1861_)))) (fun j1864_ =>
    cond (decide (x1821_ = 1)) (j1864_ l1816_ (decide (x1821_ = 1))) (j1864_ l1816_ (decide (x1821_ = 2)))))))))) (j1348_ l1527_)

def code_Encode (F : Nat) (l_ : List Ins) : Option ((List UInt8) × Int) :=
  join (fun (l1346_ : List UInt8) =>
  cond (decide (200 < (l1346_.length : Int))) (some ([], 2)) (some (l1346_, 0))) (fun j1348_ =>
  code_Encode_L1 l_ j1348_ F [] 0)

end Cin
