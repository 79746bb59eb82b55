/- Plain law, made by program: what the functions of this group compute. -/
import Derived.Test.YtcioldnpdkfeoaaDoorPureC3
namespace Cin
def code_Place_1 (i_ : Ins) (q1_ : Int) : Option (Bool) :=
  some (decide (i_.At = q1_))

def slices_IndexFunc_api_Ins_api_Ins__code_Place_1_L1 (q3_ : Int) (s_ : List Ins) (j34_ : Unit → Option (Int)) : Nat → Int → Option (Int)
  | 0, _ => none
  | k1_ + 1, n44_ =>
    cond (decide (n44_ < (s_.length : Int))) ((idx s_ n44_).bind fun x56_ =>
    (code_Place_1 x56_ q3_).bind fun r61_ =>
    cond (r61_) (some n44_) (slices_IndexFunc_api_Ins_api_Ins__code_Place_1_L1 q3_ s_ j34_ k1_ (w64 (n44_ + 1)))) (j34_ ())

def slices_IndexFunc_api_Ins_api_Ins__code_Place_1 (F : Nat) (s_ : List Ins) (q3_ : Int) : Option (Int) :=
  join (fun (_ : Unit) =>
  some (-1)) (fun j34_ =>
  slices_IndexFunc_api_Ins_api_Ins__code_Place_1_L1 q3_ s_ j34_ F 0)

def code_Place (F : Nat) (l_ : List Ins) (at_ : Int) : Option (Int × Int) :=
  (slices_IndexFunc_api_Ins_api_Ins__code_Place_1 F l_ at_).bind fun r4_ =>
  cond (decide (r4_ < 0)) (some (0, 5)) (some (r4_, 0))

def code_fits (i_ : Ins) : Option (Bool) :=
  (idx g_code_shapes i_.Op).bind fun x2_ =>
  cond (decide (x2_ = 1)) ((code_within i_.A (-32768) 32767).bind fun r6_ =>
  cond (r6_) (some (decide (i_.B = 0))) (some false)) (cond (decide (x2_ = 2)) ((code_within i_.A 0 65535).bind fun r10_ =>
  cond (r10_) (some (decide (i_.B = 0))) (some false)) (cond (decide (x2_ = 3)) ((code_within i_.A 0 255).bind fun r14_ =>
  cond (r14_) (some (decide (i_.B = 0))) (some false)) (cond (decide (x2_ = 4)) ((code_within i_.A 0 255).bind fun r18_ =>
  cond (r18_) ((code_within i_.B 0 255).bind fun r21_ =>
  some r21_) (some false)) (cond (decide (i_.A = 0)) (some (decide (i_.B = 0))) (some false)))))

def code_Decode_L1 (s_ : List UInt8) (j2276_ : (List Ins) → Option ((List Ins) × Fault)) : Nat → (List Ins) → Int → Option ((List Ins) × Fault)
  | 0, _, _ => none
  | k1_ + 1, l2536_, n2538_ =>
    cond (decide (n2538_ < (s_.length : Int))) (join (fun (l3049_ : List Ins) (n3051_ : Int) =>
    code_Decode_L1 s_ j2276_ k1_ l3049_ n3051_) (fun j3052_ =>
    (idx s_ n2538_).bind fun b3053_ =>
    (code_IsOp (b3053_.toNat : Int)).bind fun r3055_ =>
    cond (!r3055_) (some ([], (⟨7, n2538_⟩ : Fault))) ((idx g_code_shapes (b3053_.toNat : Int)).bind fun x3058_ =>
    (code_shape_size x3058_).bind fun r3061_ =>
    cond (decide ((w64 ((s_.length : Int) - n2538_)) < r3061_)) (some ([], (⟨1, n2538_⟩ : Fault))) (join (fun (n3117_ : Int) (n3118_ : Int) (l3121_ : List Ins) =>
    join (fun (n3191_ : Int) (l3194_ : List Ins) =>
    (app 32 l3194_ [(⟨n2538_, (b3053_.toNat : Int), n3191_, n3118_⟩ : Ins)]).bind fun l3213_ =>
    j3052_ l3213_ (w64 (n2538_ + r3061_))) (fun j3196_ =>
    join (fun (l3203_ : List Ins) (b3205_ : Bool) =>
    cond (b3205_) (j3196_ (w64 (n3117_ - 65536)) l3203_) (j3196_ n3117_ l3203_)) (fun j3206_ =>
    (idx g_code_shapes (b3053_.toNat : Int)).bind fun x3207_ =>
    cond (decide (x3207_ = 1)) (j3206_ l3121_ (decide (32768 ≤ n3117_))) (j3206_ l3121_ false)))) (fun j3123_ =>
    (idx g_code_shapes (b3053_.toNat : Int)).bind fun x3124_ =>
    join (fun (n3148_ : Int) (n3149_ : Int) (l3152_ : List Ins) =>
    j3123_ n3148_ n3149_ l3152_) (fun j3154_ =>
    join (fun (l3158_ : List Ins) (b3160_ : Bool) =>
    cond (b3160_) ((idx s_ (w64 (n2538_ + 1))).bind fun b3164_ =>
    (idx s_ (w64 (n2538_ + 2))).bind fun b3166_ =>
    j3154_ (orI (shlI (b3164_.toNat : Int) 8) (b3166_.toNat : Int)) 0 l3158_) (cond (decide (x3124_ = 3)) ((idx s_ (w64 (n2538_ + 1))).bind fun b3169_ =>
    j3154_ (b3169_.toNat : Int) 0 l3158_) (cond (decide (x3124_ = 4)) ((idx s_ (w64 (n2538_ + 1))).bind fun b3172_ =>
    (idx s_ (w64 (n2538_ + 2))).bind fun b3174_ =>
    j3154_ (b3172_.toNat : Int) (b3174_.toNat : Int) l3158_) (j3154_ 0 0 l3158_)))) (fun j3161_ =>
    cond (decide (x3124_ = 1)) (j3161_ l2536_ (decide (x3124_ = 1))) (j3161_ l2536_ (decide (x3124_ = 2)))))))))) (j2276_ l2536_)

def code_Decode_L2 (F : Nat) (l2274_ : List Ins) (j3380_ : (List Ins) → Option ((List Ins) × Fault)) : Nat → (List Ins) → Int → Option ((List Ins) × Fault)
  | 0, _, _ => none
  | k2_ + 1, l3435_, n3437_ =>
    cond (decide (n3437_ < (l2274_.length : Int))) (join (fun (l3515_ : List Ins) =>
    code_Decode_L2 F l2274_ j3380_ k2_ l3515_ (w64 (n3437_ + 1))) (fun j3517_ =>
    (idx l3435_ n3437_).bind fun x3518_ =>
    (code_Place F l3435_ x3518_.A).bind fun r3524_ =>
    join (fun (l3531_ : List Ins) (b3533_ : Bool) =>
    cond (b3533_) (some ([], (⟨3, x3518_.At⟩ : Fault))) (j3517_ l3531_)) (fun j3534_ =>
    (code_Goes x3518_.Op).bind fun r3535_ =>
    cond (r3535_) (j3534_ l3435_ (!decide (r3524_.2 = 0))) (j3534_ l3435_ false)))) (j3380_ l3435_)

def code_Decode (F : Nat) (s_ : List UInt8) : Option ((List Ins) × Fault) :=
  cond (decide (200 < (s_.length : Int))) (some ([], (⟨2, 0⟩ : Fault))) (cond (decide (s_ = [])) (some ([], (⟨1, 0⟩ : Fault))) (join (fun (l2274_ : List Ins) =>
  join (fun (l3378_ : List Ins) =>
  some (l3378_, (⟨0, 0⟩ : Fault))) (fun j3380_ =>
  code_Decode_L2 F l2274_ j3380_ F l2274_ 0)) (fun j2276_ =>
  code_Decode_L1 s_ j2276_ F [] 0)))

end Cin
