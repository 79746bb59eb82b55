/- Plain law, made by program: what the functions of this group compute. -/
import Derived.Test.YtfbkanhgjpdohaaPureL3
namespace Cin
def R_CheckLink_L1 (F : Nat) (l_ : List Class) : Nat → Int → Option (Way (Int) (Unit))
  | 0, _ => none
  | k1_ + 1, n73_ =>
    cond (decide (n73_ < (l_.length : Int))) ((idx l_ n73_).bind fun x92_ =>
    (R_ClassAt F l_ x92_.Name).bind fun r104_ =>
    cond (!decide (r104_ = n73_)) (some (.out 6)) (R_CheckLink_L1 F l_ k1_ (w64 (n73_ + 1)))) (some (.go ()))

def R_CheckLink_L2 (l_ : List Class) : Nat → Int → Option (Way (Int) (Unit))
  | 0, _ => none
  | k2_ + 1, n220_ =>
    cond (decide (n220_ < (l_.length : Int))) ((idx l_ n220_).bind fun x249_ =>
    (idx l_ n220_).bind fun x261_ =>
    cond (!((decide (x249_.Name = [79, 98, 106, 101, 99, 116])) == (decide (x261_.Super = [])))) (some (.out 4)) (R_CheckLink_L2 l_ k2_ (w64 (n220_ + 1)))) (some (.go ()))

def R_CheckLink_L3 (F : Nat) (l_ : List Class) : Nat → Int → Option (Way (Int) (Unit))
  | 0, _ => none
  | k3_ + 1, n393_ =>
    cond (decide (n393_ < (l_.length : Int))) ((idx l_ n393_).bind fun x425_ =>
    cond (!decide (x425_.Super = [])) ((idx l_ n393_).bind fun x438_ =>
    (R_ClassAt F l_ x438_.Super).bind fun r450_ =>
    cond (decide (r450_ < 0)) (some (.out 5)) (R_CheckLink_L3 F l_ k3_ (w64 (n393_ + 1)))) (R_CheckLink_L3 F l_ k3_ (w64 (n393_ + 1)))) (some (.go ()))

def R_CheckLink_L4 (F : Nat) (l_ : List Class) : Nat → Int → Option (Way (Int) (Unit))
  | 0, _ => none
  | k4_ + 1, n480_ =>
    cond (decide (n480_ < (l_.length : Int))) ((R_UpFrom F l_ n480_).bind fun r489_ =>
    cond (decide ((r489_.length : Int) = 0)) (some (.out 4)) (R_CheckLink_L4 F l_ k4_ (w64 (n480_ + 1)))) (some (.go ()))

def R_CheckLink_L6 (F : Nat) (l_ : List Class) (n12276_ : Int) : Nat → Int → Option (Way (Int) (Unit))
  | 0, _ => none
  | k6_ + 1, n16829_ =>
    (idx l_ n12276_).bind fun x16866_ =>
    cond (decide (n16829_ < (x16866_.Fields.length : Int))) ((idx l_ n12276_).bind fun x16879_ =>
    (idx x16879_.Fields n16829_).bind fun x16891_ =>
    (R_Told F l_ [(⟨x16891_.Kind.Kind, x16891_.Kind.Class⟩ : Kind)]).bind fun r16898_ =>
    cond (!r16898_) (some (.out 5)) (R_CheckLink_L6 F l_ n12276_ k6_ (w64 (n16829_ + 1)))) (some (.go ()))

def R_CheckLink_L8 (F : Nat) (l_ : List Class) (x18069_ : Method) : Nat → Int → Option (Way (Int) (Unit))
  | 0, _ => none
  | k8_ + 1, n18132_ =>
    cond (decide (n18132_ < (x18069_.Handlers.length : Int))) ((idx x18069_.Handlers n18132_).bind fun x18145_ =>
    (R_ClassAt F l_ x18145_.Class).bind fun r18151_ =>
    cond (decide (r18151_ < 0)) (some (.out 5)) (R_CheckLink_L8 F l_ x18069_ k8_ (w64 (n18132_ + 1)))) (some (.go ()))

def R_CheckLink_L7 (F : Nat) (l_ : List Class) (n12276_ : Int) : Nat → Int → Option (Way (Int) (Unit))
  | 0, _ => none
  | k7_ + 1, n17736_ =>
    (idx l_ n12276_).bind fun x17946_ =>
    cond (decide (n17736_ < (x17946_.Methods.length : Int))) (seqO (α := Unit) ((idx l_ n12276_).bind fun x18057_ =>
    (idx x18057_.Methods n17736_).bind fun x18069_ =>
    (R_Told F l_ x18069_.Args).bind fun r18082_ =>
    cond (!r18082_) (some (.out 5)) ((R_Told F l_ [(⟨x18069_.Returns.Kind, x18069_.Returns.Class⟩ : Kind)]).bind fun r18086_ =>
    cond (!r18086_) (some (.out 5)) (seqO (α := Unit) (R_CheckLink_L8 F l_ x18069_ F 0) fun (_ : Unit) =>
    some (.go ())))) fun (_ : Unit) =>
    R_CheckLink_L7 F l_ n12276_ k7_ (w64 (n17736_ + 1))) (some (.go ()))

def R_CheckLink_L5 (F : Nat) (l_ : List Class) : Nat → Int → Option (Way (Int) (Unit))
  | 0, _ => none
  | k5_ + 1, n12276_ =>
    cond (decide (n12276_ < (l_.length : Int))) (seqO (α := Unit) (seqO (α := Unit) (R_CheckLink_L6 F l_ n12276_ F 0) fun (_ : Unit) =>
    seqO (α := Unit) (R_CheckLink_L7 F l_ n12276_ F 0) fun (_ : Unit) =>
    some (.go ())) fun (_ : Unit) =>
    R_CheckLink_L5 F l_ k5_ (w64 (n12276_ + 1))) (some (.go ()))

def R_CheckLink_L11 (r40820_ : List Field) (n41196_ : Int) : Nat → Int → Option (Way (Int) (Unit))
  | 0, _ => none
  | k11_ + 1, n41528_ =>
    cond (decide (n41528_ < n41196_)) ((idx r40820_ n41528_).bind fun x41545_ =>
    (idx r40820_ n41196_).bind fun x41551_ =>
    cond (decide (x41545_.Name = x41551_.Name)) (some (.out 6)) (R_CheckLink_L11 r40820_ n41196_ k11_ (w64 (n41528_ + 1)))) (some (.go ()))

def R_CheckLink_L10 (F : Nat) (r40820_ : List Field) : Nat → Int → Option (Way (Int) (Unit))
  | 0, _ => none
  | k10_ + 1, n41196_ =>
    cond (decide (n41196_ < (r40820_.length : Int))) (seqO (α := Unit) (seqO (α := Unit) (R_CheckLink_L11 r40820_ n41196_ F 0) fun (_ : Unit) =>
    some (.go ())) fun (_ : Unit) =>
    R_CheckLink_L10 F r40820_ k10_ (w64 (n41196_ + 1))) (some (.go ()))

def R_CheckLink_L13 (x41558_ : Class) (n42229_ : Int) : Nat → Int → Option (Way (Int) (Unit))
  | 0, _ => none
  | k13_ + 1, n42825_ =>
    cond (decide (n42825_ < n42229_)) ((idx x41558_.Methods n42825_).bind fun x42854_ =>
    (idx x41558_.Methods n42229_).bind fun x42866_ =>
    cond (decide (x42854_.Name = x42866_.Name)) (some (.out 6)) (R_CheckLink_L13 x41558_ n42229_ k13_ (w64 (n42825_ + 1)))) (some (.go ()))

def R_CheckLink_L12 (F : Nat) (x41558_ : Class) : Nat → Int → Option (Way (Int) (Unit))
  | 0, _ => none
  | k12_ + 1, n42229_ =>
    cond (decide (n42229_ < (x41558_.Methods.length : Int))) (seqO (α := Unit) (seqO (α := Unit) (R_CheckLink_L13 x41558_ n42229_ F 0) fun (_ : Unit) =>
    some (.go ())) fun (_ : Unit) =>
    R_CheckLink_L12 F x41558_ k12_ (w64 (n42229_ + 1))) (some (.go ()))

def R_CheckLink_L9 (F : Nat) (l_ : List Class) : Nat → Int → Option (Way (Int) (Unit))
  | 0, _ => none
  | k9_ + 1, n34637_ =>
    cond (decide (n34637_ < (l_.length : Int))) (seqO (α := Unit) ((R_AllFields F l_ n34637_).bind fun r40820_ =>
    seqO (α := Unit) (R_CheckLink_L10 F r40820_ F 0) fun (_ : Unit) =>
    (idx l_ n34637_).bind fun x41558_ =>
    seqO (α := Unit) (R_CheckLink_L12 F x41558_ F 0) fun (_ : Unit) =>
    some (.go ())) fun (_ : Unit) =>
    R_CheckLink_L9 F l_ k9_ (w64 (n34637_ + 1))) (some (.go ()))

def R_CheckLink_L17 (F : Nat) (l_ : List Class) (n617234_ : Int) (r832619_ : List Int) (n880482_ : Int) (n902418_ : Int) : Nat → Int → Option (Way (Int) (Unit))
  | 0, _ => none
  | k17_ + 1, n904248_ =>
    (idx r832619_ n880482_).bind fun x904331_ =>
    (idx l_ x904331_).bind fun x904337_ =>
    cond (decide (n904248_ < (x904337_.Methods.length : Int))) ((idx l_ n617234_).bind fun x904350_ =>
    (idx x904350_.Methods n902418_).bind fun x904362_ =>
    (idx r832619_ n880482_).bind fun x904374_ =>
    (idx l_ x904374_).bind fun x904380_ =>
    (idx x904380_.Methods n904248_).bind fun x904392_ =>
    cond (decide (x904362_.Name = x904392_.Name)) (cond (x904362_.Static || x904392_.Static) (some (.out 4)) ((R_SameKinds F x904362_.Args x904392_.Args).bind fun r904408_ =>
    cond (!r904408_) (some (.out 4)) (cond (!decide ((⟨x904362_.Returns.Kind, x904362_.Returns.Class⟩ : Kind) = (⟨x904392_.Returns.Kind, x904392_.Returns.Class⟩ : Kind))) (some (.out 4)) (R_CheckLink_L17 F l_ n617234_ r832619_ n880482_ n902418_ k17_ (w64 (n904248_ + 1)))))) (R_CheckLink_L17 F l_ n617234_ r832619_ n880482_ n902418_ k17_ (w64 (n904248_ + 1)))) (some (.go ()))

def R_CheckLink_L16 (F : Nat) (l_ : List Class) (n617234_ : Int) (r832619_ : List Int) (n880482_ : Int) : Nat → Int → Option (Way (Int) (Unit))
  | 0, _ => none
  | k16_ + 1, n902418_ =>
    (idx l_ n617234_).bind fun x903416_ =>
    cond (decide (n902418_ < (x903416_.Methods.length : Int))) (seqO (α := Unit) (seqO (α := Unit) (R_CheckLink_L17 F l_ n617234_ r832619_ n880482_ n902418_ F 0) fun (_ : Unit) =>
    some (.go ())) fun (_ : Unit) =>
    R_CheckLink_L16 F l_ n617234_ r832619_ n880482_ k16_ (w64 (n902418_ + 1))) (some (.go ()))

def R_CheckLink_L15 (F : Nat) (l_ : List Class) (n617234_ : Int) (r832619_ : List Int) : Nat → Int → Option (Way (Int) (Unit))
  | 0, _ => none
  | k15_ + 1, n880482_ =>
    cond (decide (n880482_ < (w64 ((r832619_.length : Int) - 1)))) (seqO (α := Unit) (seqO (α := Unit) (R_CheckLink_L16 F l_ n617234_ r832619_ n880482_ F 0) fun (_ : Unit) =>
    some (.go ())) fun (_ : Unit) =>
    R_CheckLink_L15 F l_ n617234_ r832619_ k15_ (w64 (n880482_ + 1))) (some (.go ()))

def R_CheckLink_L14 (F : Nat) (l_ : List Class) : Nat → Int → Option (Way (Int) (Unit))
  | 0, _ => none
  | k14_ + 1, n617234_ =>
    cond (decide (n617234_ < (l_.length : Int))) (seqO (α := Unit) ((R_UpFrom F l_ n617234_).bind fun r832619_ =>
    seqO (α := Unit) (R_CheckLink_L15 F l_ n617234_ r832619_ F 0) fun (_ : Unit) =>
    some (.go ())) fun (_ : Unit) =>
    R_CheckLink_L14 F l_ k14_ (w64 (n617234_ + 1))) (some (.go ()))

def R_CheckLink (F : Nat) (l_ : List Class) : Option (Int) :=
  (R_CheckClasses F l_).bind fun r3_ =>
  cond (!decide (r3_ = 0)) (some r3_) (seqR (α := Unit) (R_CheckLink_L1 F l_ F 0) fun (_ : Unit) =>
  (R_ClassAt F l_ [79, 98, 106, 101, 99, 116]).bind fun r107_ =>
  cond (decide (r107_ < 0)) (some 5) ((R_ClassAt F l_ [69, 114, 114, 111, 114]).bind fun r110_ =>
  cond (decide (r110_ < 0)) (some 5) (seqR (α := Unit) (R_CheckLink_L2 l_ F 0) fun (_ : Unit) =>
  seqR (α := Unit) (R_CheckLink_L3 F l_ F 0) fun (_ : Unit) =>
  seqR (α := Unit) (R_CheckLink_L4 F l_ F 0) fun (_ : Unit) =>
  (R_ClassAt F l_ [69, 114, 114, 111, 114]).bind fun r494_ =>
  (R_AllFields F l_ r494_).bind fun r496_ =>
  (idx l_ r494_).bind fun x501_ =>
  cond ((!decide (x501_.Super = [79, 98, 106, 101, 99, 116])) || (decide ((r496_.length : Int) = 0))) (some 4) ((idx r496_ 0).bind fun x514_ =>
  cond (!decide (x514_.Kind.Kind = 1)) (some 4) (seqR (α := Unit) (R_CheckLink_L5 F l_ F 0) fun (_ : Unit) =>
  seqR (α := Unit) (R_CheckLink_L9 F l_ F 0) fun (_ : Unit) =>
  seqR (α := Unit) (R_CheckLink_L14 F l_ F 0) fun (_ : Unit) =>
  some 0)))))

def R_LinkOf_L1 (F : Nat) (l_ : List Class) : Nat → (List (List Target)) → (List (List (List UInt8))) → (List (List Field)) → (List Int) → Int → Option (Way (Linked × Int) ((List (List Target)) × (List (List (List UInt8))) × (List (List Field)) × (List Int)))
  | 0, _, _, _, _, _ => none
  | k1_ + 1, l1679_, l1683_, l1687_, l1691_, n1693_ =>
    cond (decide (n1693_ < (l_.length : Int))) ((R_AllFields F l_ n1693_).bind fun r1765_ =>
    (R_TableOf F l_ n1693_).bind fun r1770_ =>
    cond ((decide (12 < (r1765_.length : Int))) || (decide (16 < (r1770_.1.length : Int)))) (some (.out ((⟨[], [], [], [], []⟩ : Linked), 2))) ((idx l_ n1693_).bind fun x1779_ =>
    (R_ClassAt F l_ x1779_.Super).bind fun r1791_ =>
    (app 8 l1691_ [r1791_]).bind fun l1794_ =>
    (app 24 l1687_ [r1765_]).bind fun l1800_ =>
    (app 24 l1683_ [r1770_.1]).bind fun l1806_ =>
    (app 24 l1679_ [r1770_.2]).bind fun l1812_ =>
    R_LinkOf_L1 F l_ k1_ l1812_ l1806_ l1800_ l1794_ (w64 (n1693_ + 1)))) (some (.go (l1679_, l1683_, l1687_, l1691_)))

def R_LinkOf (F : Nat) (l_ : List Class) : Option (Linked × Int) :=
  (R_CheckLink F l_).bind fun r4_ =>
  cond (!decide (r4_ = 0)) (some ((⟨[], [], [], [], []⟩ : Linked), r4_)) (seqR (α := (List (List Target)) × (List (List (List UInt8))) × (List (List Field)) × (List Int)) (R_LinkOf_L1 F l_ F [] [] [] [] 0) fun ((l1609_, l1613_, l1617_, l1621_) : (List (List Target)) × (List (List (List UInt8))) × (List (List Field)) × (List Int)) =>
  some ((⟨l_, l1621_, l1617_, l1613_, l1609_⟩ : Linked), 0))

end Cin
