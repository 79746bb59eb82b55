/- Plain law, made by program: what the functions of this group compute. -/
import Derived.Test.YtfbkanhgjpdohaaPureL1
namespace Cin
def image_method_L1 (F : Nat) (m_ : Method) : Nat → Int → Option (Way (Int) (Unit))
  | 0, _ => none
  | k1_ + 1, n63_ =>
    cond (decide (n63_ < (m_.Args.length : Int))) ((idx m_.Args n63_).bind fun x77_ =>
    (image_isKind F (⟨x77_.Kind, x77_.Class⟩ : Kind)).bind fun r84_ =>
    cond (!r84_) (some (.out 7)) (image_method_L1 F m_ k1_ (w64 (n63_ + 1)))) (some (.go ()))

def image_method_L2 (F : Nat) (m_ : Method) : Nat → Int → Option (Way (Int) (Unit))
  | 0, _ => none
  | k2_ + 1, n174_ =>
    cond (decide (n174_ < (m_.Handlers.length : Int))) ((idx m_.Handlers n174_).bind fun x197_ =>
    (image_IsName F x197_.Class).bind fun r204_ =>
    cond (!r204_) (some (.out 1)) ((image_within x197_.From 0 200).bind fun r207_ =>
    cond (!r207_) (some (.out 3)) ((image_within x197_.To 0 200).bind fun r210_ =>
    cond (!r210_) (some (.out 3)) ((image_within x197_.At 0 200).bind fun r213_ =>
    cond (!r213_) (some (.out 3)) (image_method_L2 F m_ k2_ (w64 (n174_ + 1))))))) (some (.go ()))

def image_method_L3 (F : Nat) (m_ : Method) : Nat → Int → Option (Way (Int) (Unit))
  | 0, _ => none
  | k3_ + 1, n299_ =>
    cond (decide (n299_ < (m_.Handlers.length : Int))) ((idx m_.Handlers n299_).bind fun x322_ =>
    (image_IsName F x322_.Class).bind fun r329_ =>
    cond (!r329_) (some (.out 1)) ((image_within x322_.From 0 200).bind fun r332_ =>
    cond (!r332_) (some (.out 3)) ((image_within x322_.To 0 200).bind fun r335_ =>
    cond (!r335_) (some (.out 3)) ((image_within x322_.At 0 200).bind fun r338_ =>
    cond (!r338_) (some (.out 3)) (image_method_L3 F m_ k3_ (w64 (n299_ + 1))))))) (some (.go ()))

def image_method (F : Nat) (m_ : Method) : Option (Int) :=
  (image_IsName F m_.Name).bind fun r6_ =>
  cond (!r6_) (some 1) (cond (((decide (4 < (m_.Args.length : Int))) || (decide (200 < (m_.Code.length : Int)))) || (decide (4 < (m_.Handlers.length : Int)))) (some 2) ((image_within m_.Stack 0 10).bind fun r10_ =>
  cond (!r10_) (some 3) ((image_within m_.Locals 0 10).bind fun r13_ =>
  cond (!r13_) (some 3) (seqR (α := Unit) (image_method_L1 F m_ F 0) fun (_ : Unit) =>
  cond (!decide ((⟨m_.Returns.Kind, m_.Returns.Class⟩ : Kind) = (⟨0, []⟩ : Kind))) ((image_isKind F (⟨m_.Returns.Kind, m_.Returns.Class⟩ : Kind)).bind fun r88_ =>
  cond (!r88_) (some 7) (seqR (α := Unit) (image_method_L2 F m_ F 0) fun (_ : Unit) =>
  some 0)) (seqR (α := Unit) (image_method_L3 F m_ F 0) fun (_ : Unit) =>
  some 0)))))

def image_class_L1 (F : Nat) (c_ : Class) : Nat → Int → Option (Way (Int) (Unit))
  | 0, _ => none
  | k1_ + 1, n73_ =>
    cond (decide (n73_ < (c_.Fields.length : Int))) ((idx c_.Fields n73_).bind fun x90_ =>
    (image_IsName F x90_.Name).bind fun r97_ =>
    cond (!r97_) (some (.out 1)) ((image_isKind F (⟨x90_.Kind.Kind, x90_.Kind.Class⟩ : Kind)).bind fun r100_ =>
    cond (!r100_) (some (.out 7)) (image_class_L1 F c_ k1_ (w64 (n73_ + 1))))) (some (.go ()))

def image_class_L2 (F : Nat) (c_ : Class) : Nat → Int → Option (Way (Int) (Unit))
  | 0, _ => none
  | k2_ + 1, n174_ =>
    cond (decide (n174_ < (c_.Methods.length : Int))) ((idx c_.Methods n174_).bind fun x194_ =>
    (image_method F (⟨x194_.Name, x194_.Static, x194_.Args, (⟨x194_.Returns.Kind, x194_.Returns.Class⟩ : Kind), x194_.Stack, x194_.Locals, x194_.Code, x194_.Handlers⟩ : Method)).bind fun r207_ =>
    cond (!decide (r207_ = 0)) (some (.out r207_)) (image_class_L2 F c_ k2_ (w64 (n174_ + 1)))) (some (.go ()))

def image_class_L3 (F : Nat) (c_ : Class) : Nat → Int → Option (Way (Int) (Unit))
  | 0, _ => none
  | k3_ + 1, n270_ =>
    cond (decide (n270_ < (c_.Fields.length : Int))) ((idx c_.Fields n270_).bind fun x287_ =>
    (image_IsName F x287_.Name).bind fun r294_ =>
    cond (!r294_) (some (.out 1)) ((image_isKind F (⟨x287_.Kind.Kind, x287_.Kind.Class⟩ : Kind)).bind fun r297_ =>
    cond (!r297_) (some (.out 7)) (image_class_L3 F c_ k3_ (w64 (n270_ + 1))))) (some (.go ()))

def image_class_L4 (F : Nat) (c_ : Class) : Nat → Int → Option (Way (Int) (Unit))
  | 0, _ => none
  | k4_ + 1, n371_ =>
    cond (decide (n371_ < (c_.Methods.length : Int))) ((idx c_.Methods n371_).bind fun x391_ =>
    (image_method F (⟨x391_.Name, x391_.Static, x391_.Args, (⟨x391_.Returns.Kind, x391_.Returns.Class⟩ : Kind), x391_.Stack, x391_.Locals, x391_.Code, x391_.Handlers⟩ : Method)).bind fun r404_ =>
    cond (!decide (r404_ = 0)) (some (.out r404_)) (image_class_L4 F c_ k4_ (w64 (n371_ + 1)))) (some (.go ()))

def image_class (F : Nat) (c_ : Class) : Option (Int) :=
  (image_IsName F c_.Name).bind fun r6_ =>
  cond (!r6_) (some 1) (cond (!decide (c_.Super = [])) ((image_IsName F c_.Super).bind fun r10_ =>
  cond (!r10_) (some 1) (cond ((decide (6 < (c_.Fields.length : Int))) || (decide (8 < (c_.Methods.length : Int)))) (some 2) (seqR (α := Unit) (image_class_L1 F c_ F 0) fun (_ : Unit) =>
  seqR (α := Unit) (image_class_L2 F c_ F 0) fun (_ : Unit) =>
  some 0))) (cond ((decide (6 < (c_.Fields.length : Int))) || (decide (8 < (c_.Methods.length : Int)))) (some 2) (seqR (α := Unit) (image_class_L3 F c_ F 0) fun (_ : Unit) =>
  seqR (α := Unit) (image_class_L4 F c_ F 0) fun (_ : Unit) =>
  some 0)))

def image_Check_L1 (F : Nat) (l_ : List Class) : Nat → Int → Option (Way (Int) (Unit))
  | 0, _ => none
  | k1_ + 1, n75_ =>
    cond (decide (n75_ < (l_.length : Int))) ((idx l_ n75_).bind fun x95_ =>
    (image_class F (⟨x95_.Name, x95_.Super, x95_.Fields, x95_.Methods⟩ : Class)).bind fun r108_ =>
    cond (!decide (r108_ = 0)) (some (.out r108_)) (image_Check_L1 F l_ k1_ (w64 (n75_ + 1)))) (some (.go ()))

def image_Check (F : Nat) (l_ : List Class) : Option (Int) :=
  cond (decide (10 < (l_.length : Int))) (some 2) (seqR (α := Unit) (image_Check_L1 F l_ F 0) fun (_ : Unit) =>
  some 0)

def R_CheckMethod_L1 (F : Nat) (m_ : Method) : Nat → Int → Option (Way (Int) (Unit))
  | 0, _ => none
  | k1_ + 1, n59_ =>
    cond (decide (n59_ < (m_.Args.length : Int))) ((idx m_.Args n59_).bind fun x72_ =>
    (R_RightKind F x72_).bind fun r78_ =>
    cond (!r78_) (some (.out 7)) (R_CheckMethod_L1 F m_ k1_ (w64 (n59_ + 1)))) (some (.go ()))

def R_CheckMethod_L2 (F : Nat) (m_ : Method) : Nat → Int → Option (Way (Int) (Unit))
  | 0, _ => none
  | k2_ + 1, n167_ =>
    cond (decide (n167_ < (m_.Handlers.length : Int))) ((idx m_.Handlers n167_).bind fun x190_ =>
    (R_IsName F x190_.Class).bind fun r197_ =>
    cond (!r197_) (some (.out 1)) ((R_between x190_.From 0 200).bind fun r200_ =>
    cond (!r200_) (some (.out 3)) ((R_between x190_.To 0 200).bind fun r203_ =>
    cond (!r203_) (some (.out 3)) ((R_between x190_.At 0 200).bind fun r206_ =>
    cond (!r206_) (some (.out 3)) (R_CheckMethod_L2 F m_ k2_ (w64 (n167_ + 1))))))) (some (.go ()))

def R_CheckMethod (F : Nat) (m_ : Method) : Option (Int) :=
  (R_IsName F m_.Name).bind fun r6_ =>
  cond (!r6_) (some 1) (cond (((decide (4 < (m_.Args.length : Int))) || (decide (200 < (m_.Code.length : Int)))) || (decide (4 < (m_.Handlers.length : Int)))) (some 2) ((R_between m_.Stack 0 10).bind fun r10_ =>
  cond (!r10_) (some 3) ((R_between m_.Locals 0 10).bind fun r13_ =>
  cond (!r13_) (some 3) (seqR (α := Unit) (R_CheckMethod_L1 F m_ F 0) fun (_ : Unit) =>
  (R_RightKind F (⟨m_.Returns.Kind, m_.Returns.Class⟩ : Kind)).bind fun r81_ =>
  cond ((!r81_) && ((!decide (m_.Returns.Kind = 0)) || (!decide (m_.Returns.Class = [])))) (some 7) (seqR (α := Unit) (R_CheckMethod_L2 F m_ F 0) fun (_ : Unit) =>
  some 0)))))

def R_CheckClasses_L2 (F : Nat) (x5103_ : Class) : Nat → Int → Option (Way (Int) (Unit))
  | 0, _ => none
  | k2_ + 1, n5203_ =>
    cond (decide (n5203_ < (x5103_.Fields.length : Int))) ((idx x5103_.Fields n5203_).bind fun x5225_ =>
    (R_IsName F x5225_.Name).bind fun r5231_ =>
    cond (!r5231_) (some (.out 1)) ((idx x5103_.Fields n5203_).bind fun x5234_ =>
    (R_RightKind F (⟨x5234_.Kind.Kind, x5234_.Kind.Class⟩ : Kind)).bind fun r5240_ =>
    cond (!r5240_) (some (.out 7)) (R_CheckClasses_L2 F x5103_ k2_ (w64 (n5203_ + 1))))) (some (.go ()))

def R_CheckClasses_L3 (F : Nat) (x5103_ : Class) : Nat → Int → Option (Way (Int) (Unit))
  | 0, _ => none
  | k3_ + 1, n5310_ =>
    cond (decide (n5310_ < (x5103_.Methods.length : Int))) ((idx x5103_.Methods n5310_).bind fun x5329_ =>
    (R_CheckMethod F x5329_).bind fun r5341_ =>
    cond (!decide (r5341_ = 0)) (some (.out r5341_)) (R_CheckClasses_L3 F x5103_ k3_ (w64 (n5310_ + 1)))) (some (.go ()))

def R_CheckClasses_L4 (F : Nat) (x5103_ : Class) : Nat → Int → Option (Way (Int) (Unit))
  | 0, _ => none
  | k4_ + 1, n5424_ =>
    cond (decide (n5424_ < (x5103_.Fields.length : Int))) ((idx x5103_.Fields n5424_).bind fun x5446_ =>
    (R_IsName F x5446_.Name).bind fun r5452_ =>
    cond (!r5452_) (some (.out 1)) ((idx x5103_.Fields n5424_).bind fun x5455_ =>
    (R_RightKind F (⟨x5455_.Kind.Kind, x5455_.Kind.Class⟩ : Kind)).bind fun r5461_ =>
    cond (!r5461_) (some (.out 7)) (R_CheckClasses_L4 F x5103_ k4_ (w64 (n5424_ + 1))))) (some (.go ()))

def R_CheckClasses_L5 (F : Nat) (x5103_ : Class) : Nat → Int → Option (Way (Int) (Unit))
  | 0, _ => none
  | k5_ + 1, n5531_ =>
    cond (decide (n5531_ < (x5103_.Methods.length : Int))) ((idx x5103_.Methods n5531_).bind fun x5550_ =>
    (R_CheckMethod F x5550_).bind fun r5562_ =>
    cond (!decide (r5562_ = 0)) (some (.out r5562_)) (R_CheckClasses_L5 F x5103_ k5_ (w64 (n5531_ + 1)))) (some (.go ()))

def R_CheckClasses_L1 (F : Nat) (l_ : List Class) : Nat → Int → Option (Way (Int) (Unit))
  | 0, _ => none
  | k1_ + 1, n3711_ =>
    cond (decide (n3711_ < (l_.length : Int))) (seqO (α := Unit) ((idx l_ n3711_).bind fun x5103_ =>
    (R_IsName F x5103_.Name).bind fun r5116_ =>
    cond (!r5116_) (some (.out 1)) (cond (!decide (x5103_.Super = [])) ((R_IsName F x5103_.Super).bind fun r5120_ =>
    cond (!r5120_) (some (.out 1)) (cond ((decide (6 < (x5103_.Fields.length : Int))) || (decide (8 < (x5103_.Methods.length : Int)))) (some (.out 2)) (seqO (α := Unit) (R_CheckClasses_L2 F x5103_ F 0) fun (_ : Unit) =>
    seqO (α := Unit) (R_CheckClasses_L3 F x5103_ F 0) fun (_ : Unit) =>
    some (.go ())))) (cond ((decide (6 < (x5103_.Fields.length : Int))) || (decide (8 < (x5103_.Methods.length : Int)))) (some (.out 2)) (seqO (α := Unit) (R_CheckClasses_L4 F x5103_ F 0) fun (_ : Unit) =>
    seqO (α := Unit) (R_CheckClasses_L5 F x5103_ F 0) fun (_ : Unit) =>
    some (.go ()))))) fun (_ : Unit) =>
    R_CheckClasses_L1 F l_ k1_ (w64 (n3711_ + 1))) (some (.go ()))

def R_CheckClasses (F : Nat) (l_ : List Class) : Option (Int) :=
  cond (decide (10 < (l_.length : Int))) (some 2) (seqR (α := Unit) (R_CheckClasses_L1 F l_ F 0) fun (_ : Unit) =>
  some 0)

end Cin
