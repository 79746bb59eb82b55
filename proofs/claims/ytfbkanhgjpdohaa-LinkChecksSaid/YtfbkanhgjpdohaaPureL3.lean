/- Plain law, made by program: what the functions of this group compute. -/
import Derived.Test.YtfbkanhgjpdohaaPureL2
namespace Cin
def R_SameKinds_L1 (a_ : List Kind) (b_ : List Kind) : Nat → Int → Option (Way (Bool) (Unit))
  | 0, _ => none
  | k1_ + 1, n65_ =>
    cond (decide (n65_ < (a_.length : Int))) ((idx a_ n65_).bind fun x82_ =>
    (idx b_ n65_).bind fun x88_ =>
    cond (!decide (x82_ = x88_)) (some (.out false)) (R_SameKinds_L1 a_ b_ k1_ (w64 (n65_ + 1)))) (some (.go ()))

def R_SameKinds (F : Nat) (a_ : List Kind) (b_ : List Kind) : Option (Bool) :=
  cond (!decide ((a_.length : Int) = (b_.length : Int))) (some false) (seqR (α := Unit) (R_SameKinds_L1 a_ b_ F 0) fun (_ : Unit) =>
  some true)

def R_SameFields_L1 (a_ : List Field) (b_ : List Field) : Nat → Int → Option (Way (Bool) (Unit))
  | 0, _ => none
  | k1_ + 1, n65_ =>
    cond (decide (n65_ < (a_.length : Int))) ((idx a_ n65_).bind fun x82_ =>
    (idx b_ n65_).bind fun x88_ =>
    cond (!decide (x82_ = x88_)) (some (.out false)) (R_SameFields_L1 a_ b_ k1_ (w64 (n65_ + 1)))) (some (.go ()))

def R_SameFields (F : Nat) (a_ : List Field) (b_ : List Field) : Option (Bool) :=
  cond (!decide ((a_.length : Int) = (b_.length : Int))) (some false) (seqR (α := Unit) (R_SameFields_L1 a_ b_ F 0) fun (_ : Unit) =>
  some true)

def R_SameClasses_L3 (x17747_ : Method) (x17759_ : Method) : Nat → Int → Option (Way (Bool) (Unit))
  | 0, _ => none
  | k3_ + 1, n17837_ =>
    cond (decide (n17837_ < (x17747_.Handlers.length : Int))) ((idx x17747_.Handlers n17837_).bind fun x17854_ =>
    (idx x17759_.Handlers n17837_).bind fun x17860_ =>
    cond (!decide (x17854_ = x17860_)) (some (.out false)) (R_SameClasses_L3 x17747_ x17759_ k3_ (w64 (n17837_ + 1)))) (some (.go ()))

def R_SameClasses_L2 (F : Nat) (x16380_ : Class) (x16392_ : Class) : Nat → Int → Option (Way (Bool) (Unit))
  | 0, _ => none
  | k2_ + 1, n17381_ =>
    cond (decide (n17381_ < (x16380_.Methods.length : Int))) (seqO (α := Unit) ((idx x16380_.Methods n17381_).bind fun x17747_ =>
    (idx x16392_.Methods n17381_).bind fun x17759_ =>
    cond ((!decide (x17747_.Name = x17759_.Name)) || (!(x17747_.Static == x17759_.Static))) (some (.out false)) ((R_SameKinds F x17747_.Args x17759_.Args).bind fun r17774_ =>
    cond (!r17774_) (some (.out false)) (cond (((((!decide ((⟨x17747_.Returns.Kind, x17747_.Returns.Class⟩ : Kind) = (⟨x17759_.Returns.Kind, x17759_.Returns.Class⟩ : Kind))) || (!decide (x17747_.Stack = x17759_.Stack))) || (!decide (x17747_.Locals = x17759_.Locals))) || (!decide (x17747_.Code = x17759_.Code))) || (!decide ((x17747_.Handlers.length : Int) = (x17759_.Handlers.length : Int)))) (some (.out false)) (seqO (α := Unit) (R_SameClasses_L3 x17747_ x17759_ F 0) fun (_ : Unit) =>
    some (.go ()))))) fun (_ : Unit) =>
    R_SameClasses_L2 F x16380_ x16392_ k2_ (w64 (n17381_ + 1))) (some (.go ()))

def R_SameClasses_L1 (F : Nat) (a_ : List Class) (b_ : List Class) : Nat → Int → Option (Way (Bool) (Unit))
  | 0, _ => none
  | k1_ + 1, n11913_ =>
    cond (decide (n11913_ < (a_.length : Int))) (seqO (α := Unit) ((idx a_ n11913_).bind fun x16380_ =>
    (idx b_ n11913_).bind fun x16392_ =>
    cond ((!decide (x16380_.Name = x16392_.Name)) || (!decide (x16380_.Super = x16392_.Super))) (some (.out false)) ((R_SameFields F x16380_.Fields x16392_.Fields).bind fun r16407_ =>
    cond ((!r16407_) || (!decide ((x16380_.Methods.length : Int) = (x16392_.Methods.length : Int)))) (some (.out false)) (seqO (α := Unit) (R_SameClasses_L2 F x16380_ x16392_ F 0) fun (_ : Unit) =>
    some (.go ())))) fun (_ : Unit) =>
    R_SameClasses_L1 F a_ b_ k1_ (w64 (n11913_ + 1))) (some (.go ()))

def R_SameClasses (F : Nat) (a_ : List Class) (b_ : List Class) : Option (Bool) :=
  cond (!decide ((a_.length : Int) = (b_.length : Int))) (some false) (seqR (α := Unit) (R_SameClasses_L1 F a_ b_ F 0) fun (_ : Unit) =>
  some true)

def R_SameLinked_L1 (a_ : Linked) (b_ : Linked) : Nat → Int → Option (Way (Bool) (Unit))
  | 0, _ => none
  | k1_ + 1, n85_ =>
    cond (decide (n85_ < (a_.Supers.length : Int))) ((idx a_.Supers n85_).bind fun x102_ =>
    (idx b_.Supers n85_).bind fun x108_ =>
    cond (!decide (x102_ = x108_)) (some (.out false)) (R_SameLinked_L1 a_ b_ k1_ (w64 (n85_ + 1)))) (some (.go ()))

def R_SameLinked_L2 (F : Nat) (a_ : Linked) (b_ : Linked) : Nat → Int → Option (Way (Bool) (Unit))
  | 0, _ => none
  | k2_ + 1, n214_ =>
    cond (decide (n214_ < (a_.Fields.length : Int))) ((idx a_.Fields n214_).bind fun x241_ =>
    (idx b_.Fields n214_).bind fun x251_ =>
    (R_SameFields F x241_ x251_).bind fun r261_ =>
    cond (!r261_) (some (.out false)) (R_SameLinked_L2 F a_ b_ k2_ (w64 (n214_ + 1)))) (some (.go ()))

def R_SameLinked_L4 (a_ : Linked) (b_ : Linked) (n2595_ : Int) : Nat → Int → Option (Way (Bool) (Unit))
  | 0, _ => none
  | k4_ + 1, n3671_ =>
    (idx a_.Names n2595_).bind fun x3717_ =>
    cond (decide (n3671_ < (x3717_.length : Int))) ((idx a_.Names n2595_).bind fun x3728_ =>
    (idx x3728_ n3671_).bind fun x3738_ =>
    (idx b_.Names n2595_).bind fun x3744_ =>
    (idx x3744_ n3671_).bind fun x3754_ =>
    cond (!decide (x3738_ = x3754_)) (some (.out false)) (R_SameLinked_L4 a_ b_ n2595_ k4_ (w64 (n3671_ + 1)))) (some (.go ()))

def R_SameLinked_L3 (F : Nat) (a_ : Linked) (b_ : Linked) : Nat → Int → Option (Way (Bool) (Unit))
  | 0, _ => none
  | k3_ + 1, n2595_ =>
    cond (decide (n2595_ < (a_.Names.length : Int))) (seqO (α := Unit) ((idx a_.Names n2595_).bind fun x3471_ =>
    (idx b_.Names n2595_).bind fun x3481_ =>
    cond (!decide ((x3471_.length : Int) = (x3481_.length : Int))) (some (.out false)) (seqO (α := Unit) (R_SameLinked_L4 a_ b_ n2595_ F 0) fun (_ : Unit) =>
    some (.go ()))) fun (_ : Unit) =>
    R_SameLinked_L3 F a_ b_ k3_ (w64 (n2595_ + 1))) (some (.go ()))

def R_SameLinked_L6 (a_ : Linked) (b_ : Linked) (n6092_ : Int) : Nat → Int → Option (Way (Bool) (Unit))
  | 0, _ => none
  | k6_ + 1, n7168_ =>
    (idx a_.Targets n6092_).bind fun x7214_ =>
    cond (decide (n7168_ < (x7214_.length : Int))) ((idx a_.Targets n6092_).bind fun x7225_ =>
    (idx x7225_ n7168_).bind fun x7235_ =>
    (idx b_.Targets n6092_).bind fun x7241_ =>
    (idx x7241_ n7168_).bind fun x7251_ =>
    cond (!decide (x7235_ = x7251_)) (some (.out false)) (R_SameLinked_L6 a_ b_ n6092_ k6_ (w64 (n7168_ + 1)))) (some (.go ()))

def R_SameLinked_L5 (F : Nat) (a_ : Linked) (b_ : Linked) : Nat → Int → Option (Way (Bool) (Unit))
  | 0, _ => none
  | k5_ + 1, n6092_ =>
    cond (decide (n6092_ < (a_.Targets.length : Int))) (seqO (α := Unit) ((idx a_.Targets n6092_).bind fun x6968_ =>
    (idx b_.Targets n6092_).bind fun x6978_ =>
    cond (!decide ((x6968_.length : Int) = (x6978_.length : Int))) (some (.out false)) (seqO (α := Unit) (R_SameLinked_L6 a_ b_ n6092_ F 0) fun (_ : Unit) =>
    some (.go ()))) fun (_ : Unit) =>
    R_SameLinked_L5 F a_ b_ k5_ (w64 (n6092_ + 1))) (some (.go ()))

def R_SameLinked (F : Nat) (a_ : Linked) (b_ : Linked) : Option (Bool) :=
  (R_SameClasses F a_.Classes b_.Classes).bind fun r23_ =>
  cond (((((!r23_) || (!decide ((b_.Supers.length : Int) = (a_.Supers.length : Int)))) || (!decide ((a_.Fields.length : Int) = (b_.Fields.length : Int)))) || (!decide ((a_.Names.length : Int) = (b_.Names.length : Int)))) || (!decide ((a_.Targets.length : Int) = (b_.Targets.length : Int)))) (some false) (seqR (α := Unit) (R_SameLinked_L1 a_ b_ F 0) fun (_ : Unit) =>
  seqR (α := Unit) (R_SameLinked_L2 F a_ b_ F 0) fun (_ : Unit) =>
  seqR (α := Unit) (R_SameLinked_L3 F a_ b_ F 0) fun (_ : Unit) =>
  seqR (α := Unit) (R_SameLinked_L5 F a_ b_ F 0) fun (_ : Unit) =>
  some true)

def R_ClassAt_L1 (l_ : List Class) (name_ : List UInt8) : Nat → Int → Option (Way (Int) (Unit))
  | 0, _ => none
  | k1_ + 1, n62_ =>
    cond (decide (n62_ < (l_.length : Int))) ((idx l_ n62_).bind fun x79_ =>
    cond (decide (x79_.Name = name_)) (some (.out n62_)) (R_ClassAt_L1 l_ name_ k1_ (w64 (n62_ + 1)))) (some (.go ()))

def R_ClassAt (F : Nat) (l_ : List Class) (name_ : List UInt8) : Option (Int) :=
  seqR (α := Unit) (R_ClassAt_L1 l_ name_ F 0) fun (_ : Unit) =>
  some (-1)

def R_UpFrom_L1 (F : Nat) (l_ : List Class) : Nat → Int → (List Int) → Option (Way (List Int) (List Int))
  | 0, _, _ => none
  | k1_ + 1, n149_, l152_ =>
    cond (decide (0 ≤ n149_)) (cond (decide ((l_.length : Int) < (l152_.length : Int))) (some (.out [])) ((app 8 [n149_] l152_).bind fun l182_ =>
    (idx l_ n149_).bind fun x187_ =>
    (R_ClassAt F l_ x187_.Super).bind fun r199_ =>
    R_UpFrom_L1 F l_ k1_ r199_ l182_)) (some (.go l152_))

def R_UpFrom (F : Nat) (l_ : List Class) (n_ : Int) : Option (List Int) :=
  seqR (α := List Int) (R_UpFrom_L1 F l_ F n_ []) fun (l102_ : List Int) =>
  some l102_

def R_Told_L1 (F : Nat) (kinds_ : List Kind) (l_ : List Class) : Nat → Int → Option (Way (Bool) (Unit))
  | 0, _ => none
  | k1_ + 1, n76_ =>
    cond (decide (n76_ < (kinds_.length : Int))) ((idx kinds_ n76_).bind fun x96_ =>
    cond (!decide (x96_.Class = [])) ((idx kinds_ n76_).bind fun x103_ =>
    (R_ClassAt F l_ x103_.Class).bind fun r109_ =>
    cond (decide (r109_ < 0)) (some (.out false)) (R_Told_L1 F kinds_ l_ k1_ (w64 (n76_ + 1)))) (R_Told_L1 F kinds_ l_ k1_ (w64 (n76_ + 1)))) (some (.go ()))

def R_Told (F : Nat) (l_ : List Class) (kinds_ : List Kind) : Option (Bool) :=
  seqR (α := Unit) (R_Told_L1 F kinds_ l_ F 0) fun (_ : Unit) =>
  some true

def R_AllFields_L1 (l_ : List Class) (r3_ : List Int) : Nat → (List Field) → Int → Option (List Field)
  | 0, _, _ => none
  | k1_ + 1, l226_, n228_ =>
    cond (decide (n228_ < (r3_.length : Int))) ((idx r3_ n228_).bind fun x259_ =>
    (idx l_ x259_).bind fun x265_ =>
    (app 40 l226_ x265_.Fields).bind fun l277_ =>
    R_AllFields_L1 l_ r3_ k1_ l277_ (w64 (n228_ + 1))) (some l226_)

def R_AllFields (F : Nat) (l_ : List Class) (n_ : Int) : Option (List Field) :=
  (R_UpFrom F l_ n_).bind fun r3_ =>
  Option.bind (α := List Field) (R_AllFields_L1 l_ r3_ F [] 0) fun (l197_ : List Field) =>
  some l197_

def R_TableOf_L3 (l63445_ : List (List UInt8)) (x63933_ : Method) : Nat → Int → Option (Int)
  | 0, _ => none
  | k3_ + 1, n63981_ =>
    cond (decide (n63981_ < (l63445_.length : Int))) ((idx l63445_ n63981_).bind fun x63992_ =>
    cond (!decide (x63992_ = x63933_.Name)) (R_TableOf_L3 l63445_ x63933_ k3_ (w64 (n63981_ + 1))) (some n63981_)) (some n63981_)

def R_TableOf_L2 (F : Nat) (l_ : List Class) (r3_ : List Int) (n56735_ : Int) : Nat → (List Target) → (List (List UInt8)) → Int → Option ((List Target) × (List (List UInt8)))
  | 0, _, _, _ => none
  | k2_ + 1, l63441_, l63445_, n63447_ =>
    (idx r3_ n56735_).bind fun x63753_ =>
    (idx l_ x63753_).bind fun x63759_ =>
    cond (decide (n63447_ < (x63759_.Methods.length : Int))) (Option.bind (α := (List Target) × (List (List UInt8))) ((idx r3_ n56735_).bind fun x63915_ =>
    (idx l_ x63915_).bind fun x63921_ =>
    (idx x63921_.Methods n63447_).bind fun x63933_ =>
    Option.bind (α := Int) (R_TableOf_L3 l63445_ x63933_ F 0) fun (n63971_ : Int) =>
    Option.bind (α := (List Target) × (List (List UInt8))) (cond (decide (n63971_ = (l63445_.length : Int))) ((app 16 l63445_ [x63933_.Name]).bind fun l64023_ =>
    (app 16 l63441_ [(⟨0, 0⟩ : Target)]).bind fun l64029_ =>
    some (l64029_, l64023_)) (some (l63441_, l63445_))) fun ((l64014_, l64018_) : (List Target) × (List (List UInt8))) =>
    (idx r3_ n56735_).bind fun x64034_ =>
    (idx l64014_ n63971_).bind fun x64040_ =>
    (some (l64014_.set (n63971_).toNat (⟨x64034_, n63447_⟩ : Target))).bind fun l64046_ =>
    some (l64046_, l64018_)) fun ((l63908_, l63912_) : (List Target) × (List (List UInt8))) =>
    R_TableOf_L2 F l_ r3_ n56735_ k2_ l63908_ l63912_ (w64 (n63447_ + 1))) (some (l63441_, l63445_))

def R_TableOf_L1 (F : Nat) (l_ : List Class) (r3_ : List Int) : Nat → (List Target) → (List (List UInt8)) → Int → Option ((List Target) × (List (List UInt8)))
  | 0, _, _, _ => none
  | k1_ + 1, l56729_, l56733_, n56735_ =>
    cond (decide (n56735_ < (r3_.length : Int))) (Option.bind (α := (List Target) × (List (List UInt8))) (Option.bind (α := (List Target) × (List (List UInt8))) (R_TableOf_L2 F l_ r3_ n56735_ F l56729_ l56733_ 0) fun ((l63136_, l63140_) : (List Target) × (List (List UInt8))) =>
    some (l63136_, l63140_)) fun ((l62221_, l62225_) : (List Target) × (List (List UInt8))) =>
    R_TableOf_L1 F l_ r3_ k1_ l62221_ l62225_ (w64 (n56735_ + 1))) (some (l56729_, l56733_))

def R_TableOf (F : Nat) (l_ : List Class) (n_ : Int) : Option ((List (List UInt8)) × (List Target)) :=
  (R_UpFrom F l_ n_).bind fun r3_ =>
  Option.bind (α := (List Target) × (List (List UInt8))) (R_TableOf_L1 F l_ r3_ F [] [] 0) fun ((l53508_, l53512_) : (List Target) × (List (List UInt8))) =>
  some (l53512_, l53508_)

end Cin
