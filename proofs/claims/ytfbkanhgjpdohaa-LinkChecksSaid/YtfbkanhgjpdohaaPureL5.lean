/- Plain law, made by program: what the functions of this group compute. -/
import Derived.Test.YtfbkanhgjpdohaaPureL4
namespace Cin
def link_linker_names_L1 (x_ : link_linker) : Nat → (List ((List UInt8) × Int)) → Int → Option (Way (Int × link_linker) (List ((List UInt8) × Int)))
  | 0, _, _ => none
  | k1_ + 1, m73_, n74_ =>
    cond (decide (n74_ < (x_.l.length : Int))) ((idx x_.l n74_).bind fun x93_ =>
    cond ((mget m73_ x93_.Name).isSome) (some (.out (6, (⟨x_.l, m73_, x_.supers⟩ : link_linker)))) (link_linker_names_L1 x_ k1_ (mput m73_ x93_.Name n74_) (w64 (n74_ + 1)))) (some (.go m73_))

def link_linker_names (F : Nat) (x_ : link_linker) : Option (Int × link_linker) :=
  seqR (α := List ((List UInt8) × Int)) (link_linker_names_L1 x_ F x_.by_ 0) fun (m56_ : List ((List UInt8) × Int)) =>
  cond ((!((mget m56_ [79, 98, 106, 101, 99, 116]).isSome)) || (!((mget m56_ [69, 114, 114, 111, 114]).isSome))) (some (5, (⟨x_.l, m56_, x_.supers⟩ : link_linker))) (some (0, (⟨x_.l, m56_, x_.supers⟩ : link_linker)))

def link_linker_above_L1 (x_ : link_linker) : Nat → Int → Option (Way (Int × link_linker) (Unit))
  | 0, _ => none
  | k1_ + 1, n71_ =>
    cond (decide (n71_ < (x_.l.length : Int))) ((idx x_.l n71_).bind fun x89_ =>
    cond (!((decide (x89_.Name = [79, 98, 106, 101, 99, 116])) == (decide (x89_.Super = [])))) (some (.out (4, (⟨x_.l, x_.by_, x_.supers⟩ : link_linker)))) (link_linker_above_L1 x_ k1_ (w64 (n71_ + 1)))) (some (.go ()))

def link_linker_above_L2 (x_ : link_linker) : Nat → (List Int) → Int → Option (Way (Int × link_linker) (List Int))
  | 0, _, _ => none
  | k2_ + 1, l408_, n410_ =>
    cond (decide (n410_ < (x_.l.length : Int))) (seqO (α := List Int) ((idx x_.l n410_).bind fun x527_ =>
    seqO (α := Int) (seqO (α := Int) (cond (decide (x527_.Super = [])) (some (.go (-1))) (cond (!((mget x_.by_ x527_.Super).isSome)) (some (.out (5, (⟨x_.l, x_.by_, l408_⟩ : link_linker)))) (some (.go ((mget x_.by_ x527_.Super).getD 0))))) fun (n550_ : Int) =>
    some (.go n550_)) fun (n546_ : Int) =>
    (app 8 l408_ [n546_]).bind fun l555_ =>
    some (.go l555_)) fun (l524_ : List Int) =>
    link_linker_above_L2 x_ k2_ l524_ (w64 (n410_ + 1))) (some (.go l408_))

def link_linker_above_L4 (x_ : link_linker) (l331_ : List Int) : Nat → Int → Int → Option (Int)
  | 0, _, _ => none
  | k4_ + 1, n1968_, n1969_ =>
    cond (decide (n1969_ < (x_.l.length : Int))) ((idx l331_ n1968_).bind fun x1981_ =>
    cond (decide (x1981_ < 0)) (some x1981_) (link_linker_above_L4 x_ l331_ k4_ x1981_ (w64 (n1969_ + 1)))) (some n1968_)

def link_linker_above_L3 (F : Nat) (x_ : link_linker) (l331_ : List Int) : Nat → Int → Option (Way (Int × link_linker) (Unit))
  | 0, _ => none
  | k3_ + 1, n1507_ =>
    cond (decide (n1507_ < (x_.l.length : Int))) (seqO (α := Unit) (Option.bind (α := Int) (Option.bind (α := Int) (link_linker_above_L4 x_ l331_ F n1507_ 0) fun (n1958_ : Int) =>
    some n1958_) fun (n1928_ : Int) =>
    cond (decide (0 ≤ n1928_)) (some (.out (4, (⟨x_.l, x_.by_, l331_⟩ : link_linker)))) (some (.go ()))) fun (_ : Unit) =>
    link_linker_above_L3 F x_ l331_ k3_ (w64 (n1507_ + 1))) (some (.go ()))

def link_linker_above (F : Nat) (x_ : link_linker) : Option (Int × link_linker) :=
  seqR (α := Unit) (link_linker_above_L1 x_ F 0) fun (_ : Unit) =>
  seqR (α := List Int) (link_linker_above_L2 x_ F x_.supers 0) fun (l331_ : List Int) =>
  seqR (α := Unit) (link_linker_above_L3 F x_ l331_ F 0) fun (_ : Unit) =>
  some (0, (⟨x_.l, x_.by_, l331_⟩ : link_linker))

def link_linker_chain_L1 (x_ : link_linker) : Nat → (List Int) → Int → Option (List Int)
  | 0, _, _ => none
  | k1_ + 1, l139_, n141_ =>
    cond (decide (0 ≤ n141_)) ((app 8 l139_ [n141_]).bind fun l162_ =>
    (idx x_.supers n141_).bind fun x167_ =>
    link_linker_chain_L1 x_ k1_ l162_ x167_) (some l139_)

def link_linker_chain (F : Nat) (x_ : link_linker) (n_ : Int) : Option (List Int) :=
  Option.bind (α := List Int) (link_linker_chain_L1 x_ F [] n_) fun (l121_ : List Int) =>
  some l121_

def slices_Backward_int_int (_ : List Int) : Option Unit := some ()


def link_linker_fields_L1 (x_ : link_linker) : List Int → (List Field) → Option (List Field)
  | [], l56_ => some l56_
  | x17_ :: rem19_, l56_ =>
    (idx x_.l x17_).bind fun x80_ =>
    (app 40 l56_ x80_.Fields).bind fun l92_ =>
    link_linker_fields_L1 x_ rem19_ l92_

def link_linker_fields (F : Nat) (x_ : link_linker) (n_ : Int) : Option (List Field) :=
  (link_linker_chain F (⟨x_.l, x_.by_, x_.supers⟩ : link_linker) n_).bind fun r9_ =>
  (slices_Backward_int_int r9_).bind fun r14_ =>
  Option.bind (α := List Field) (link_linker_fields_L1 x_ r9_.reverse []) fun (l56_ : List Field) =>
  some l56_

def link_linker_errors (F : Nat) (x_ : link_linker) : Option (Int) :=
  (link_linker_fields F (⟨x_.l, x_.by_, x_.supers⟩ : link_linker) ((mget x_.by_ [69, 114, 114, 111, 114]).getD 0)).bind fun r7_ =>
  (idx x_.l ((mget x_.by_ [69, 114, 114, 111, 114]).getD 0)).bind fun x12_ =>
  cond ((!decide (x12_.Super = [79, 98, 106, 101, 99, 116])) || (decide ((r7_.length : Int) = 0))) (some 4) ((idx r7_ 0).bind fun x25_ =>
  cond (!decide (x25_.Kind.Kind = 1)) (some 4) (some 0))

def link_linker_told_1 (k_ : Kind) (q1_ : List (List UInt8)) : Option (List (List UInt8)) :=
  cond (!decide (k_.Class = [])) ((app 16 q1_ [k_.Class]).bind fun l9_ =>
  some l9_) (some q1_)

def link_linker_told_L2 (x58905_ : Class) : Nat → (List (List UInt8)) → Int → Option (List (List UInt8))
  | 0, _, _ => none
  | k2_ + 1, l58987_, n58989_ =>
    cond (decide (n58989_ < (x58905_.Fields.length : Int))) ((idx x58905_.Fields n58989_).bind fun x59009_ =>
    (link_linker_told_1 (⟨x59009_.Kind.Kind, x59009_.Kind.Class⟩ : Kind) l58987_).bind fun r59016_ =>
    link_linker_told_L2 x58905_ k2_ r59016_ (w64 (n58989_ + 1))) (some l58987_)

def link_linker_told_L4 (x61612_ : Method) : Nat → (List (List UInt8)) → Int → Option (List (List UInt8))
  | 0, _, _ => none
  | k4_ + 1, l61694_, n61696_ =>
    cond (decide (n61696_ < (x61612_.Args.length : Int))) ((idx x61612_.Args n61696_).bind fun x61716_ =>
    (link_linker_told_1 (⟨x61716_.Kind, x61716_.Class⟩ : Kind) l61694_).bind fun r61723_ =>
    link_linker_told_L4 x61612_ k4_ r61723_ (w64 (n61696_ + 1))) (some l61694_)

def link_linker_told_L5 (x61612_ : Method) : Nat → (List (List UInt8)) → Int → Option (List (List UInt8))
  | 0, _, _ => none
  | k5_ + 1, l61806_, n61808_ =>
    cond (decide (n61808_ < (x61612_.Handlers.length : Int))) ((idx x61612_.Handlers n61808_).bind fun x61829_ =>
    (app 16 l61806_ [x61829_.Class]).bind fun l61837_ =>
    link_linker_told_L5 x61612_ k5_ l61837_ (w64 (n61808_ + 1))) (some l61806_)

def link_linker_told_L3 (F : Nat) (x58905_ : Class) : Nat → (List (List UInt8)) → Int → Option (List (List UInt8))
  | 0, _, _ => none
  | k3_ + 1, l60902_, n60904_ =>
    cond (decide (n60904_ < (x58905_.Methods.length : Int))) (Option.bind (α := List (List UInt8)) ((idx x58905_.Methods n60904_).bind fun x61612_ =>
    Option.bind (α := List (List UInt8)) (link_linker_told_L4 x61612_ F l60902_ 0) fun (l61676_ : List (List UInt8)) =>
    (link_linker_told_1 (⟨x61612_.Returns.Kind, x61612_.Returns.Class⟩ : Kind) l61676_).bind fun r61728_ =>
    Option.bind (α := List (List UInt8)) (link_linker_told_L5 x61612_ F r61728_ 0) fun (l61787_ : List (List UInt8)) =>
    some l61787_) fun (l61609_ : List (List UInt8)) =>
    link_linker_told_L3 F x58905_ k3_ l61609_ (w64 (n60904_ + 1))) (some l60902_)

def link_linker_told_L1 (F : Nat) (x_ : link_linker) : Nat → (List (List UInt8)) → Int → Option (List (List UInt8))
  | 0, _, _ => none
  | k1_ + 1, l50074_, n50076_ =>
    cond (decide (n50076_ < (x_.l.length : Int))) (Option.bind (α := List (List UInt8)) ((idx x_.l n50076_).bind fun x58905_ =>
    Option.bind (α := List (List UInt8)) (link_linker_told_L2 x58905_ F l50074_ 0) fun (l58969_ : List (List UInt8)) =>
    Option.bind (α := List (List UInt8)) (link_linker_told_L3 F x58905_ F l58969_ 0) fun (l60431_ : List (List UInt8)) =>
    some l60431_) fun (l58902_ : List (List UInt8)) =>
    link_linker_told_L1 F x_ k1_ l58902_ (w64 (n50076_ + 1))) (some l50074_)

def link_linker_told_L6 (x_ : link_linker) (l44189_ : List (List UInt8)) : Nat → Int → Option (Way (Int) (Unit))
  | 0, _ => none
  | k6_ + 1, n61877_ =>
    cond (decide (n61877_ < (l44189_.length : Int))) ((idx l44189_ n61877_).bind fun x61888_ =>
    cond (!((mget x_.by_ x61888_).isSome)) (some (.out 5)) (link_linker_told_L6 x_ l44189_ k6_ (w64 (n61877_ + 1)))) (some (.go ()))

def link_linker_told (F : Nat) (x_ : link_linker) : Option (Int) :=
  Option.bind (α := List (List UInt8)) (link_linker_told_L1 F x_ F [] 0) fun (l44189_ : List (List UInt8)) =>
  seqR (α := Unit) (link_linker_told_L6 x_ l44189_ F 0) fun (_ : Unit) =>
  some 0

def link_twice_L1 (l_ : List (List UInt8)) : Nat → (List ((List UInt8) × Bool)) → Int → Option (List ((List UInt8) × Bool))
  | 0, _, _ => none
  | k1_ + 1, m38_, n39_ =>
    cond (decide (n39_ < (l_.length : Int))) ((idx l_ n39_).bind fun x50_ =>
    link_twice_L1 l_ k1_ (mput m38_ x50_ true) (w64 (n39_ + 1))) (some m38_)

def link_twice (F : Nat) (l_ : List (List UInt8)) : Option (Bool) :=
  Option.bind (α := List ((List UInt8) × Bool)) (link_twice_L1 l_ F [] 0) fun (m29_ : List ((List UInt8) × Bool)) =>
  some (decide ((m29_.length : Int) < (l_.length : Int)))

def link_linker_once_L2 (r4811_ : List Field) : Nat → (List (List UInt8)) → Int → Option (List (List UInt8))
  | 0, _, _ => none
  | k2_ + 1, l4955_, n4957_ =>
    cond (decide (n4957_ < (r4811_.length : Int))) ((idx r4811_ n4957_).bind fun x4978_ =>
    (app 16 l4955_ [x4978_.Name]).bind fun l4986_ =>
    link_linker_once_L2 r4811_ k2_ l4986_ (w64 (n4957_ + 1))) (some l4955_)

def link_linker_once_L3 (x4798_ : Class) : Nat → (List (List UInt8)) → Int → Option (List (List UInt8))
  | 0, _, _ => none
  | k3_ + 1, l5178_, n5180_ =>
    cond (decide (n5180_ < (x4798_.Methods.length : Int))) ((idx x4798_.Methods n5180_).bind fun x5207_ =>
    (app 16 l5178_ [x5207_.Name]).bind fun l5221_ =>
    link_linker_once_L3 x4798_ k3_ l5221_ (w64 (n5180_ + 1))) (some l5178_)

def link_linker_once_L1 (F : Nat) (x_ : link_linker) : Nat → Int → Option (Way (Int) (Unit))
  | 0, _ => none
  | k1_ + 1, n3490_ =>
    cond (decide (n3490_ < (x_.l.length : Int))) (seqO (α := Unit) ((idx x_.l n3490_).bind fun x4798_ =>
    (link_linker_fields F (⟨x_.l, x_.by_, x_.supers⟩ : link_linker) n3490_).bind fun r4811_ =>
    Option.bind (α := List (List UInt8)) (link_linker_once_L2 r4811_ F [] 0) fun (l4936_ : List (List UInt8)) =>
    Option.bind (α := List (List UInt8)) (link_linker_once_L3 x4798_ F [] 0) fun (l5153_ : List (List UInt8)) =>
    (link_twice F l4936_).bind fun r5226_ =>
    cond (r5226_) (some (.out 6)) ((link_twice F l5153_).bind fun r5229_ =>
    cond (r5229_) (some (.out 6)) (some (.go ())))) fun (_ : Unit) =>
    link_linker_once_L1 F x_ k1_ (w64 (n3490_ + 1))) (some (.go ()))

def link_linker_once (F : Nat) (x_ : link_linker) : Option (Int) :=
  seqR (α := Unit) (link_linker_once_L1 F x_ F 0) fun (_ : Unit) =>
  some 0

def slices_Equal_api_Kind_api_Kind_L1 (s1_ : List Kind) (s2_ : List Kind) : Nat → Int → Option (Way (Bool) (Unit))
  | 0, _ => none
  | k1_ + 1, n65_ =>
    cond (decide (n65_ < (s1_.length : Int))) ((idx s1_ n65_).bind fun x82_ =>
    (idx s2_ n65_).bind fun x88_ =>
    cond (!decide (x82_ = x88_)) (some (.out false)) (slices_Equal_api_Kind_api_Kind_L1 s1_ s2_ k1_ (w64 (n65_ + 1)))) (some (.go ()))

def slices_Equal_api_Kind_api_Kind (F : Nat) (s1_ : List Kind) (s2_ : List Kind) : Option (Bool) :=
  cond (!decide ((s1_.length : Int) = (s2_.length : Int))) (some false) (seqR (α := Unit) (slices_Equal_api_Kind_api_Kind_L1 s1_ s2_ F 0) fun (_ : Unit) =>
  some true)

def link_alike (F : Nat) (a_ : Method) (b_ : Method) : Option (Bool) :=
  cond ((!a_.Static) && (!b_.Static)) ((slices_Equal_api_Kind_api_Kind F a_.Args b_.Args).bind fun r12_ =>
  cond (r12_) (some (decide ((⟨a_.Returns.Kind, a_.Returns.Class⟩ : Kind) = (⟨b_.Returns.Kind, b_.Returns.Class⟩ : Kind)))) (some false)) (some false)

def link_linker_methods_L4 (F : Nat) (x242130_ : Method) (x242143_ : Class) : Nat → Int → Option (Way (Int) (Unit))
  | 0, _ => none
  | k4_ + 1, n242230_ =>
    cond (decide (n242230_ < (x242143_.Methods.length : Int))) ((idx x242143_.Methods n242230_).bind fun x242251_ =>
    cond (decide (x242130_.Name = x242251_.Name)) ((link_alike F (⟨x242130_.Name, x242130_.Static, x242130_.Args, (⟨x242130_.Returns.Kind, x242130_.Returns.Class⟩ : Kind), x242130_.Stack, x242130_.Locals, x242130_.Code, x242130_.Handlers⟩ : Method) (⟨x242251_.Name, x242251_.Static, x242251_.Args, (⟨x242251_.Returns.Kind, x242251_.Returns.Class⟩ : Kind), x242251_.Stack, x242251_.Locals, x242251_.Code, x242251_.Handlers⟩ : Method)).bind fun r242265_ =>
    cond (!r242265_) (some (.out 4)) (link_linker_methods_L4 F x242130_ x242143_ k4_ (w64 (n242230_ + 1)))) (link_linker_methods_L4 F x242130_ x242143_ k4_ (w64 (n242230_ + 1)))) (some (.go ()))

def link_linker_methods_L3 (F : Nat) (x_ : link_linker) (x222081_ : Class) (x240589_ : Int) : Nat → Int → Option (Way (Int) (Unit))
  | 0, _ => none
  | k3_ + 1, n241710_ =>
    cond (decide (n241710_ < (x222081_.Methods.length : Int))) (seqO (α := Unit) ((idx x222081_.Methods n241710_).bind fun x242130_ =>
    (idx x_.l x240589_).bind fun x242143_ =>
    seqO (α := Unit) (link_linker_methods_L4 F x242130_ x242143_ F 0) fun (_ : Unit) =>
    some (.go ())) fun (_ : Unit) =>
    link_linker_methods_L3 F x_ x222081_ x240589_ k3_ (w64 (n241710_ + 1))) (some (.go ()))

def link_linker_methods_L2 (F : Nat) (x_ : link_linker) (x222081_ : Class) (l222099_ : List Int) : Nat → Int → Option (Way (Int) (Unit))
  | 0, _ => none
  | k2_ + 1, n235546_ =>
    cond (decide (n235546_ < (l222099_.length : Int))) (seqO (α := Unit) ((idx l222099_ n235546_).bind fun x240589_ =>
    seqO (α := Unit) (link_linker_methods_L3 F x_ x222081_ x240589_ F 0) fun (_ : Unit) =>
    some (.go ())) fun (_ : Unit) =>
    link_linker_methods_L2 F x_ x222081_ l222099_ k2_ (w64 (n235546_ + 1))) (some (.go ()))

def link_linker_methods_L1 (F : Nat) (x_ : link_linker) : Nat → Int → Option (Way (Int) (Unit))
  | 0, _ => none
  | k1_ + 1, n161514_ =>
    cond (decide (n161514_ < (x_.l.length : Int))) (seqO (α := Unit) ((idx x_.l n161514_).bind fun x222081_ =>
    (link_linker_chain F (⟨x_.l, x_.by_, x_.supers⟩ : link_linker) n161514_).bind fun r222094_ =>
    (cut r222094_ 1 (r222094_.length : Int)).bind fun l222099_ =>
    seqO (α := Unit) (link_linker_methods_L2 F x_ x222081_ l222099_ F 0) fun (_ : Unit) =>
    some (.go ())) fun (_ : Unit) =>
    link_linker_methods_L1 F x_ k1_ (w64 (n161514_ + 1))) (some (.go ()))

def link_linker_methods (F : Nat) (x_ : link_linker) : Option (Int) :=
  seqR (α := Unit) (link_linker_methods_L1 F x_ F 0) fun (_ : Unit) =>
  some 0

end Cin
