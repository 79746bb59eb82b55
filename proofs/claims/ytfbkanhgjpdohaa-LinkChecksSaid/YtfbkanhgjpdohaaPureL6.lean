/- Plain law, made by program: what the functions of this group compute. -/
import Derived.Test.YtfbkanhgjpdohaaPureL5
namespace Cin
def slices_Clone_api_Field_api_Field (s_ : List Field) : Option (List Field) :=
  (app 40 ([] : List Field) s_).bind fun l4_ =>
  some l4_

def slices_Clone_api_Method_api_Method (s_ : List Method) : Option (List Method) :=
  (app 128 ([] : List Method) s_).bind fun l4_ =>
  some l4_

def slices_Clone_api_Kind_api_Kind (s_ : List Kind) : Option (List Kind) :=
  (app 24 ([] : List Kind) s_).bind fun l4_ =>
  some l4_

def slices_Clone_api_Handler_api_Handler (s_ : List Handler) : Option (List Handler) :=
  (app 40 ([] : List Handler) s_).bind fun l4_ =>
  some l4_

def link_own_L2 : Nat → (List Method) → Int → Int → Option (List Method)
  | 0, _, _, _ => none
  | k2_ + 1, l7996_, n7998_, n7999_ =>
    cond (decide (n7999_ < n7998_)) ((idx l7996_ n7999_).bind fun x8061_ =>
    (slices_Clone_api_Kind_api_Kind x8061_.Args).bind fun r8074_ =>
    (slices_Clone_api_Handler_api_Handler x8061_.Handlers).bind fun r8079_ =>
    (idx l7996_ n7999_).bind fun x8084_ =>
    (some (l7996_.set (n7999_).toNat (⟨x8084_.Name, x8084_.Static, r8074_, (⟨x8084_.Returns.Kind, x8084_.Returns.Class⟩ : Kind), x8084_.Stack, x8084_.Locals, x8084_.Code, x8084_.Handlers⟩ : Method))).bind fun l8096_ =>
    (idx l8096_ n7999_).bind fun x8099_ =>
    (some (l8096_.set (n7999_).toNat (⟨x8099_.Name, x8099_.Static, x8099_.Args, (⟨x8099_.Returns.Kind, x8099_.Returns.Class⟩ : Kind), x8099_.Stack, x8099_.Locals, x8099_.Code, r8079_⟩ : Method))).bind fun l8111_ =>
    link_own_L2 k2_ l8111_ n7998_ (w64 (n7999_ + 1))) (some l7996_)

def link_own_L1 (F : Nat) (l_ : List Class) : Nat → (List Class) → Int → Option (List Class)
  | 0, _, _ => none
  | k1_ + 1, l6572_, n6574_ =>
    cond (decide (n6574_ < (l_.length : Int))) (Option.bind (α := List Class) ((idx l_ n6574_).bind fun x7738_ =>
    (slices_Clone_api_Field_api_Field x7738_.Fields).bind fun r7751_ =>
    (slices_Clone_api_Method_api_Method x7738_.Methods).bind fun r7756_ =>
    Option.bind (α := List Method) (link_own_L2 F r7756_ (r7756_.length : Int) 0) fun (l7937_ : List Method) =>
    (app 80 l6572_ [(⟨x7738_.Name, x7738_.Super, r7751_, l7937_⟩ : Class)]).bind fun l8115_ =>
    some l8115_) fun (l7735_ : List Class) =>
    link_own_L1 F l_ k1_ l7735_ (w64 (n6574_ + 1))) (some l6572_)

def link_own (F : Nat) (l_ : List Class) : Option (List Class) :=
  Option.bind (α := List Class) (link_own_L1 F l_ F [] 0) fun (l5797_ : List Class) =>
  some l5797_

def slices_Index_string_string_L1 (s_ : List (List UInt8)) (v_ : List UInt8) : Nat → Int → Option (Way (Int) (Unit))
  | 0, _ => none
  | k1_ + 1, n38_ =>
    cond (decide (n38_ < (s_.length : Int))) ((idx s_ n38_).bind fun x49_ =>
    cond (decide (v_ = x49_)) (some (.out n38_)) (slices_Index_string_string_L1 s_ v_ k1_ (w64 (n38_ + 1)))) (some (.go ()))

def slices_Index_string_string (F : Nat) (s_ : List (List UInt8)) (v_ : List UInt8) : Option (Int) :=
  seqR (α := Unit) (slices_Index_string_string_L1 s_ v_ F 0) fun (_ : Unit) =>
  some (-1)

def link_linker_table_L2 (F : Nat) (x18_ : Int) (x8241_ : Class) : Nat → (List (List UInt8)) → (List Target) → Int → Option ((List (List UInt8)) × (List Target))
  | 0, _, _, _ => none
  | k2_ + 1, l8626_, l8630_, n8632_ =>
    cond (decide (n8632_ < (x8241_.Methods.length : Int))) (Option.bind (α := (List (List UInt8)) × (List Target)) ((idx x8241_.Methods n8632_).bind fun x8776_ =>
    (slices_Index_string_string F l8626_ x8776_.Name).bind fun r8790_ =>
    cond (decide (0 ≤ r8790_)) ((idx l8630_ r8790_).bind fun x8793_ =>
    (some (l8630_.set (r8790_).toNat (⟨x18_, n8632_⟩ : Target))).bind fun l8799_ =>
    some (l8626_, l8799_)) ((app 16 l8626_ [x8776_.Name]).bind fun l8803_ =>
    (app 16 l8630_ [(⟨x18_, n8632_⟩ : Target)]).bind fun l8809_ =>
    some (l8803_, l8809_))) fun ((l8769_, l8773_) : (List (List UInt8)) × (List Target)) =>
    link_linker_table_L2 F x18_ x8241_ k2_ l8769_ l8773_ (w64 (n8632_ + 1))) (some (l8626_, l8630_))

def link_linker_table_L1 (F : Nat) (x_ : link_linker) : List Int → (List (List UInt8)) → (List Target) → Option ((List (List UInt8)) × (List Target))
  | [], l6489_, l6493_ => some (l6489_, l6493_)
  | x18_ :: rem20_, l6489_, l6493_ =>
    Option.bind (α := (List (List UInt8)) × (List Target)) ((idx x_.l x18_).bind fun x8241_ =>
    Option.bind (α := (List (List UInt8)) × (List Target)) (link_linker_table_L2 F x18_ x8241_ F l6489_ l6493_ 0) fun ((l8531_, l8535_) : (List (List UInt8)) × (List Target)) =>
    some (l8531_, l8535_)) fun ((l8234_, l8238_) : (List (List UInt8)) × (List Target)) =>
    link_linker_table_L1 F x_ rem20_ l8234_ l8238_

def link_linker_table (F : Nat) (x_ : link_linker) (n_ : Int) : Option ((List (List UInt8)) × (List Target)) :=
  (link_linker_chain F (⟨x_.l, x_.by_, x_.supers⟩ : link_linker) n_).bind fun r10_ =>
  (slices_Backward_int_int r10_).bind fun r15_ =>
  Option.bind (α := (List (List UInt8)) × (List Target)) (link_linker_table_L1 F x_ r10_.reverse [] []) fun ((l6489_, l6493_) : (List (List UInt8)) × (List Target)) =>
  some (l6489_, l6493_)

def link_Link_L1 (F : Nat) (r7_ : List Class) (r15_ : Int × link_linker) (r18_ : Int × link_linker) : Nat → (List (List Target)) → (List (List (List UInt8))) → (List (List Field)) → Int → Option (Way (Linked × Int) ((List (List Target)) × (List (List (List UInt8))) × (List (List Field))))
  | 0, _, _, _, _ => none
  | k1_ + 1, l1017_, l1021_, l1025_, n1027_ =>
    cond (decide (n1027_ < (r7_.length : Int))) ((link_linker_table F (⟨r7_, r15_.2.by_, r18_.2.supers⟩ : link_linker) n1027_).bind fun r1085_ =>
    (link_linker_fields F (⟨r7_, r15_.2.by_, r18_.2.supers⟩ : link_linker) n1027_).bind fun r1093_ =>
    (app 24 l1025_ [r1093_]).bind fun l1099_ =>
    (app 24 l1021_ [r1085_.1]).bind fun l1105_ =>
    (app 24 l1017_ [r1085_.2]).bind fun l1111_ =>
    (idx l1099_ n1027_).bind fun x1116_ =>
    cond ((decide (12 < (x1116_.length : Int))) || (decide (16 < (r1085_.1.length : Int)))) (some (.out ((⟨[], [], [], [], []⟩ : Linked), 2))) (link_Link_L1 F r7_ r15_ r18_ k1_ l1111_ l1105_ l1099_ (w64 (n1027_ + 1)))) (some (.go (l1017_, l1021_, l1025_)))

def link_Link (F : Nat) (l_ : List Class) : Option (Linked × Int) :=
  (image_Check F l_).bind fun r4_ =>
  cond (!decide (r4_ = 0)) (some ((⟨[], [], [], [], []⟩ : Linked), r4_)) ((link_own F l_).bind fun r7_ =>
  (link_linker_names F (⟨r7_, [], []⟩ : link_linker)).bind fun r15_ =>
  cond (!decide (r15_.1 = 0)) (some ((⟨[], [], [], [], []⟩ : Linked), r15_.1)) ((link_linker_above F (⟨r7_, r15_.2.by_, []⟩ : link_linker)).bind fun r18_ =>
  cond (!decide (r18_.1 = 0)) (some ((⟨[], [], [], [], []⟩ : Linked), r18_.1)) ((link_linker_errors F (⟨r7_, r15_.2.by_, r18_.2.supers⟩ : link_linker)).bind fun r24_ =>
  cond (!decide (r24_ = 0)) (some ((⟨[], [], [], [], []⟩ : Linked), r24_)) ((link_linker_told F (⟨r7_, r15_.2.by_, r18_.2.supers⟩ : link_linker)).bind fun r27_ =>
  cond (!decide (r27_ = 0)) (some ((⟨[], [], [], [], []⟩ : Linked), r27_)) ((link_linker_once F (⟨r7_, r15_.2.by_, r18_.2.supers⟩ : link_linker)).bind fun r30_ =>
  cond (!decide (r30_ = 0)) (some ((⟨[], [], [], [], []⟩ : Linked), r30_)) ((link_linker_methods F (⟨r7_, r15_.2.by_, r18_.2.supers⟩ : link_linker)).bind fun r33_ =>
  cond (!decide (r33_ = 0)) (some ((⟨[], [], [], [], []⟩ : Linked), r33_)) (seqR (α := (List (List Target)) × (List (List (List UInt8))) × (List (List Field))) (link_Link_L1 F r7_ r15_ r18_ F [] [] [] 0) fun ((l961_, l965_, l969_) : (List (List Target)) × (List (List (List UInt8))) × (List (List Field))) =>
  some ((⟨r7_, r18_.2.supers, l969_, l965_, l961_⟩ : Linked), 0))))))))

def slices_Equal_int_int_L1 (s1_ : List Int) (s2_ : List Int) : Nat → Int → Option (Way (Bool) (Unit))
  | 0, _ => none
  | k1_ + 1, n65_ =>
    cond (decide (n65_ < (s1_.length : Int))) ((idx s1_ n65_).bind fun x82_ =>
    (idx s2_ n65_).bind fun x88_ =>
    cond (!decide (x82_ = x88_)) (some (.out false)) (slices_Equal_int_int_L1 s1_ s2_ k1_ (w64 (n65_ + 1)))) (some (.go ()))

def slices_Equal_int_int (F : Nat) (s1_ : List Int) (s2_ : List Int) : Option (Bool) :=
  cond (!decide ((s1_.length : Int) = (s2_.length : Int))) (some false) (seqR (α := Unit) (slices_Equal_int_int_L1 s1_ s2_ F 0) fun (_ : Unit) =>
  some true)

def slices_Equal_api_Field_api_Field_L1 (s1_ : List Field) (s2_ : List Field) : Nat → Int → Option (Way (Bool) (Unit))
  | 0, _ => none
  | k1_ + 1, n65_ =>
    cond (decide (n65_ < (s1_.length : Int))) ((idx s1_ n65_).bind fun x82_ =>
    (idx s2_ n65_).bind fun x88_ =>
    cond (!decide (x82_ = x88_)) (some (.out false)) (slices_Equal_api_Field_api_Field_L1 s1_ s2_ k1_ (w64 (n65_ + 1)))) (some (.go ()))

def slices_Equal_api_Field_api_Field (F : Nat) (s1_ : List Field) (s2_ : List Field) : Option (Bool) :=
  cond (!decide ((s1_.length : Int) = (s2_.length : Int))) (some false) (seqR (α := Unit) (slices_Equal_api_Field_api_Field_L1 s1_ s2_ F 0) fun (_ : Unit) =>
  some true)

def slices_EqualFunc_api_Field_api_Field_api_Field_api_Field__slices_Equal_api_Field_api_Field_L1 (F : Nat) (s1_ : List (List Field)) (s2_ : List (List Field)) : Nat → Int → Option (Way (Bool) (Unit))
  | 0, _ => none
  | k1_ + 1, n105_ =>
    cond (decide (n105_ < (s1_.length : Int))) ((idx s1_ n105_).bind fun x132_ =>
    (idx s2_ n105_).bind fun x142_ =>
    (slices_Equal_api_Field_api_Field F x132_ x142_).bind fun r152_ =>
    cond (!r152_) (some (.out false)) (slices_EqualFunc_api_Field_api_Field_api_Field_api_Field__slices_Equal_api_Field_api_Field_L1 F s1_ s2_ k1_ (w64 (n105_ + 1)))) (some (.go ()))

def slices_EqualFunc_api_Field_api_Field_api_Field_api_Field__slices_Equal_api_Field_api_Field (F : Nat) (s1_ : List (List Field)) (s2_ : List (List Field)) : Option (Bool) :=
  cond (!decide ((s1_.length : Int) = (s2_.length : Int))) (some false) (seqR (α := Unit) (slices_EqualFunc_api_Field_api_Field_api_Field_api_Field__slices_Equal_api_Field_api_Field_L1 F s1_ s2_ F 0) fun (_ : Unit) =>
  some true)

def slices_Equal_string_string_L1 (s1_ : List (List UInt8)) (s2_ : List (List UInt8)) : Nat → Int → Option (Way (Bool) (Unit))
  | 0, _ => none
  | k1_ + 1, n65_ =>
    cond (decide (n65_ < (s1_.length : Int))) ((idx s1_ n65_).bind fun x82_ =>
    (idx s2_ n65_).bind fun x88_ =>
    cond (!decide (x82_ = x88_)) (some (.out false)) (slices_Equal_string_string_L1 s1_ s2_ k1_ (w64 (n65_ + 1)))) (some (.go ()))

def slices_Equal_string_string (F : Nat) (s1_ : List (List UInt8)) (s2_ : List (List UInt8)) : Option (Bool) :=
  cond (!decide ((s1_.length : Int) = (s2_.length : Int))) (some false) (seqR (α := Unit) (slices_Equal_string_string_L1 s1_ s2_ F 0) fun (_ : Unit) =>
  some true)

def slices_EqualFunc_string_string_string_string__slices_Equal_string_string_L1 (F : Nat) (s1_ : List (List (List UInt8))) (s2_ : List (List (List UInt8))) : Nat → Int → Option (Way (Bool) (Unit))
  | 0, _ => none
  | k1_ + 1, n105_ =>
    cond (decide (n105_ < (s1_.length : Int))) ((idx s1_ n105_).bind fun x132_ =>
    (idx s2_ n105_).bind fun x142_ =>
    (slices_Equal_string_string F x132_ x142_).bind fun r152_ =>
    cond (!r152_) (some (.out false)) (slices_EqualFunc_string_string_string_string__slices_Equal_string_string_L1 F s1_ s2_ k1_ (w64 (n105_ + 1)))) (some (.go ()))

def slices_EqualFunc_string_string_string_string__slices_Equal_string_string (F : Nat) (s1_ : List (List (List UInt8))) (s2_ : List (List (List UInt8))) : Option (Bool) :=
  cond (!decide ((s1_.length : Int) = (s2_.length : Int))) (some false) (seqR (α := Unit) (slices_EqualFunc_string_string_string_string__slices_Equal_string_string_L1 F s1_ s2_ F 0) fun (_ : Unit) =>
  some true)

def slices_Equal_api_Target_api_Target_L1 (s1_ : List Target) (s2_ : List Target) : Nat → Int → Option (Way (Bool) (Unit))
  | 0, _ => none
  | k1_ + 1, n65_ =>
    cond (decide (n65_ < (s1_.length : Int))) ((idx s1_ n65_).bind fun x82_ =>
    (idx s2_ n65_).bind fun x88_ =>
    cond (!decide (x82_ = x88_)) (some (.out false)) (slices_Equal_api_Target_api_Target_L1 s1_ s2_ k1_ (w64 (n65_ + 1)))) (some (.go ()))

def slices_Equal_api_Target_api_Target (F : Nat) (s1_ : List Target) (s2_ : List Target) : Option (Bool) :=
  cond (!decide ((s1_.length : Int) = (s2_.length : Int))) (some false) (seqR (α := Unit) (slices_Equal_api_Target_api_Target_L1 s1_ s2_ F 0) fun (_ : Unit) =>
  some true)

def slices_EqualFunc_api_Target_api_Target_api_Target_api_Target__slices_Equal_api_Target_api_Target_L1 (F : Nat) (s1_ : List (List Target)) (s2_ : List (List Target)) : Nat → Int → Option (Way (Bool) (Unit))
  | 0, _ => none
  | k1_ + 1, n105_ =>
    cond (decide (n105_ < (s1_.length : Int))) ((idx s1_ n105_).bind fun x132_ =>
    (idx s2_ n105_).bind fun x142_ =>
    (slices_Equal_api_Target_api_Target F x132_ x142_).bind fun r152_ =>
    cond (!r152_) (some (.out false)) (slices_EqualFunc_api_Target_api_Target_api_Target_api_Target__slices_Equal_api_Target_api_Target_L1 F s1_ s2_ k1_ (w64 (n105_ + 1)))) (some (.go ()))

def slices_EqualFunc_api_Target_api_Target_api_Target_api_Target__slices_Equal_api_Target_api_Target (F : Nat) (s1_ : List (List Target)) (s2_ : List (List Target)) : Option (Bool) :=
  cond (!decide ((s1_.length : Int) = (s2_.length : Int))) (some false) (seqR (α := Unit) (slices_EqualFunc_api_Target_api_Target_api_Target_api_Target__slices_Equal_api_Target_api_Target_L1 F s1_ s2_ F 0) fun (_ : Unit) =>
  some true)

def link_same (F : Nat) (a_ : Linked) (b_ : Linked) : Option (Bool) :=
  (slices_Equal_int_int F a_.Supers b_.Supers).bind fun r23_ =>
  cond (r23_) ((slices_EqualFunc_api_Field_api_Field_api_Field_api_Field__slices_Equal_api_Field_api_Field F a_.Fields b_.Fields).bind fun r26_ =>
  cond (r26_) ((slices_EqualFunc_string_string_string_string__slices_Equal_string_string F a_.Names b_.Names).bind fun r29_ =>
  cond (r29_) ((slices_EqualFunc_api_Target_api_Target_api_Target_api_Target__slices_Equal_api_Target_api_Target F a_.Targets b_.Targets).bind fun r32_ =>
  some r32_) (some false)) (some false)) (some false)

def link_Check (F : Nat) (k_ : Linked) : Option (Int) :=
  (link_Link F k_.Classes).bind fun r12_ =>
  cond (!decide (r12_.2 = 0)) (some 4) ((link_same F (⟨k_.Classes, k_.Supers, k_.Fields, k_.Names, k_.Targets⟩ : Linked) (⟨r12_.1.Classes, r12_.1.Supers, r12_.1.Fields, r12_.1.Names, r12_.1.Targets⟩ : Linked)).bind fun r31_ =>
  cond (!r31_) (some 4) (some 0))

def link_Number_1 (c_ : Class) (q5_ : List UInt8) : Option (Bool) :=
  some (decide (c_.Name = q5_))

def slices_IndexFunc_api_Class_api_Class__link_Number_1_L1 (s_ : List Class) (q3_ : List UInt8) : Nat → Int → Option (Way (Int) (Unit))
  | 0, _ => none
  | k1_ + 1, n72_ =>
    cond (decide (n72_ < (s_.length : Int))) ((idx s_ n72_).bind fun x91_ =>
    (link_Number_1 x91_ q3_).bind fun r103_ =>
    cond (r103_) (some (.out n72_)) (slices_IndexFunc_api_Class_api_Class__link_Number_1_L1 s_ q3_ k1_ (w64 (n72_ + 1)))) (some (.go ()))

def slices_IndexFunc_api_Class_api_Class__link_Number_1 (F : Nat) (s_ : List Class) (q3_ : List UInt8) : Option (Int) :=
  seqR (α := Unit) (slices_IndexFunc_api_Class_api_Class__link_Number_1_L1 s_ q3_ F 0) fun (_ : Unit) =>
  some (-1)

def link_Number (F : Nat) (k_ : Linked) (name_ : List UInt8) : Option (Int × Bool) :=
  (slices_IndexFunc_api_Class_api_Class__link_Number_1 F k_.Classes name_).bind fun r13_ =>
  some (r13_, decide (0 ≤ r13_))

def link_Find (F : Nat) (k_ : Linked) (name_ : List UInt8) : Option (Int × Int) :=
  (link_Check F (⟨k_.Classes, k_.Supers, k_.Fields, k_.Names, k_.Targets⟩ : Linked)).bind fun r12_ =>
  cond (!decide (r12_ = 0)) (some (0, r12_)) ((link_Number F (⟨k_.Classes, k_.Supers, k_.Fields, k_.Names, k_.Targets⟩ : Linked) name_).bind fun r15_ =>
  cond (!r15_.2) (some (0, 5)) (some (r15_.1, 0)))

def link_Under_L1 (b_ : Int) (k_ : Linked) : Nat → Int → Option (Way (Bool) (Unit))
  | 0, _ => none
  | k1_ + 1, n47_ =>
    cond (decide (0 ≤ n47_)) (cond (decide (n47_ = b_)) (some (.out true)) ((idx k_.Supers n47_).bind fun x59_ =>
    link_Under_L1 b_ k_ k1_ x59_)) (some (.go ()))

def link_Under (F : Nat) (k_ : Linked) (a_ : Int) (b_ : Int) : Option (Bool) :=
  seqR (α := Unit) (link_Under_L1 b_ k_ F a_) fun (_ : Unit) =>
  some false

def link_check_L1 (k_ : Linked) (numbers_ : List Int) : Nat → Int → Option (Way (Int) (Unit))
  | 0, _ => none
  | k1_ + 1, n52_ =>
    cond (decide (n52_ < (numbers_.length : Int))) ((idx numbers_ n52_).bind fun x63_ =>
    cond ((decide (x63_ < 0)) || (decide ((k_.Classes.length : Int) ≤ x63_))) (some (.out 3)) (link_check_L1 k_ numbers_ k1_ (w64 (n52_ + 1)))) (some (.go ()))

def link_check (F : Nat) (k_ : Linked) (numbers_ : List Int) : Option (Int) :=
  (link_Check F (⟨k_.Classes, k_.Supers, k_.Fields, k_.Names, k_.Targets⟩ : Linked)).bind fun r14_ =>
  cond (!decide (r14_ = 0)) (some r14_) (seqR (α := Unit) (link_check_L1 k_ numbers_ F 0) fun (_ : Unit) =>
  some 0)

def link_Is (F : Nat) (k_ : Linked) (a_ : Int) (b_ : Int) : Option (Bool × Int) :=
  (link_check F (⟨k_.Classes, k_.Supers, k_.Fields, k_.Names, k_.Targets⟩ : Linked) [a_, b_]).bind fun r13_ =>
  cond (!decide (r13_ = 0)) (some (false, r13_)) ((link_Under F (⟨k_.Classes, k_.Supers, k_.Fields, k_.Names, k_.Targets⟩ : Linked) a_ b_).bind fun r16_ =>
  some (r16_, 0))

end Cin
