/- Plain law, made by program: what the functions of this group compute. -/
import Derived.Test.YtcioldnpdkfeoaaDoorPureC2
namespace Cin
def R_CodeOf_L1 (l_ : List Ins) (j797_ : (List UInt8) → Option ((List UInt8) × Int)) : Nat → (List UInt8) → Int → Option ((List UInt8) × Int)
  | 0, _, _ => none
  | k1_ + 1, s1061_, n1062_ =>
    cond (decide (n1062_ < (l_.length : Int))) (join (fun (s1459_ : List UInt8) =>
    R_CodeOf_L1 l_ j797_ k1_ s1459_ (w64 (n1062_ + 1))) (fun j1460_ =>
    (idx l_ n1062_).bind fun x1461_ =>
    (R_Behind x1461_.Op).bind fun r1467_ =>
    cond (decide (r1467_ < 0)) (some ([], 7)) (join (fun (n1479_ : Int) =>
    join (fun (n1493_ : Int) =>
    join (fun (n1501_ : Int) =>
    join (fun (n1507_ : Int) (n1508_ : Int) =>
    join (fun (_ : Unit) =>
    cond (!decide (x1461_.At = (s1061_.length : Int))) (some ([], 4)) ((R_Count x1461_.Op).bind fun r1539_ =>
    (cat s1061_ r1539_).bind fun s1541_ =>
    join (fun (n1544_ : Int) =>
    join (fun (s1568_ : List UInt8) =>
    j1460_ s1568_) (fun j1569_ =>
    cond (decide (r1467_ = 1)) ((R_Count n1544_).bind fun r1571_ =>
    (cat s1541_ r1571_).bind fun s1573_ =>
    j1569_ s1573_) ((R_ByItself x1461_.Op).bind fun r1575_ =>
    cond (r1575_) ((R_Count n1544_).bind fun r1578_ =>
    (R_Count x1461_.B).bind fun r1580_ =>
    (cat r1578_ r1580_).bind fun s1582_ =>
    (cat s1541_ s1582_).bind fun s1584_ =>
    j1569_ s1584_) (cond (decide (r1467_ = 2)) ((R_Two n1544_).bind fun r1587_ =>
    (cat s1541_ r1587_).bind fun s1589_ =>
    j1569_ s1589_) (j1569_ s1541_))))) (fun j1545_ =>
    cond (decide (x1461_.A < 0)) (j1545_ (w64 (x1461_.A + 65536))) (j1545_ x1461_.A)))) (fun j1524_ =>
    join (fun (b1530_ : Bool) =>
    cond (b1530_) (some ([], 3)) (j1524_ ())) (fun j1531_ =>
    (R_between x1461_.A n1507_ n1508_).bind fun r1532_ =>
    cond (!r1532_) (j1531_ true) ((R_between x1461_.B 0 n1493_).bind fun r1535_ =>
    j1531_ (!r1535_))))) (fun j1509_ =>
    cond (decide (x1461_.Op = 1)) (j1509_ (-32768) 32767) (j1509_ 0 n1501_))) (fun j1502_ =>
    (R_GoesTo x1461_.Op).bind fun r1503_ =>
    cond (r1503_) (j1502_ 65535) (j1502_ n1479_))) (fun j1494_ =>
    (R_ByItself x1461_.Op).bind fun r1495_ =>
    cond (r1495_) (j1494_ 255) (j1494_ 0))) (fun j1480_ =>
    join (fun (b1484_ : Bool) =>
    cond (b1484_) (j1480_ 255) (j1480_ 0)) (fun j1485_ =>
    cond (decide (r1467_ = 1)) (j1485_ true) ((R_ByItself x1461_.Op).bind fun r1487_ =>
    j1485_ r1487_)))))) (j797_ s1061_)

def R_CodeOf (F : Nat) (l_ : List Ins) : Option ((List UInt8) × Int) :=
  join (fun (s796_ : List UInt8) =>
  cond (decide (200 < (s796_.length : Int))) (some ([], 2)) (some (s796_, 0))) (fun j797_ =>
  R_CodeOf_L1 l_ j797_ F [] 0)

def R_SameIns_L1 (a_ : List Ins) (b_ : List Ins) (j44_ : Unit → Option (Bool)) : Nat → Int → Option (Bool)
  | 0, _ => none
  | k1_ + 1, n57_ =>
    cond (decide (n57_ < (a_.length : Int))) ((idx a_ n57_).bind fun x72_ =>
    (idx b_ n57_).bind fun x77_ =>
    cond (!decide (x72_ = x77_)) (some false) (R_SameIns_L1 a_ b_ j44_ k1_ (w64 (n57_ + 1)))) (j44_ ())

def R_SameIns (F : Nat) (a_ : List Ins) (b_ : List Ins) : Option (Bool) :=
  cond (!decide ((a_.length : Int) = (b_.length : Int))) (some false) (join (fun (_ : Unit) =>
  some true) (fun j44_ =>
  R_SameIns_L1 a_ b_ j44_ F 0))

end Cin
