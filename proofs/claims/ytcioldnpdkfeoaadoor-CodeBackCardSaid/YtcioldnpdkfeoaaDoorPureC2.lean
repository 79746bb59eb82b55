/- Plain law, made by program: what the functions of this group compute. -/
import Derived.Test.YtcioldnpdkfeoaaDoorPureC1
namespace Cin
structure Fault where
  Err : Int
  At : Int
  deriving DecidableEq

def R_Count (n_ : Int) : Option ((List UInt8)) :=
  some [b8 n_]

def R_Two (n_ : Int) : Option ((List UInt8)) :=
  some [b8 (w64 (n_.tdiv 256)), b8 (n_.tmod 256)]

def R_InsOf_L1 (s_ : List UInt8) (j961_ : (List Ins) → Option ((List Ins) × Fault)) : Nat → (List Ins) → Int → Option ((List Ins) × Fault)
  | 0, _, _ => none
  | k1_ + 1, l1067_, n1069_ =>
    cond (decide (n1069_ < (s_.length : Int))) (join (fun (l1289_ : List Ins) (n1291_ : Int) =>
    R_InsOf_L1 s_ j961_ k1_ l1289_ n1291_) (fun j1292_ =>
    (idx s_ n1069_).bind fun b1293_ =>
    (R_Behind (b1293_.toNat : Int)).bind fun r1296_ =>
    cond (decide (r1296_ < 0)) (some ([], (⟨7, n1069_⟩ : Fault))) (cond (decide ((s_.length : Int) < (w64 ((w64 (n1069_ + 1)) + r1296_)))) (some ([], (⟨1, n1069_⟩ : Fault))) (join (fun (n1303_ : Int) (l1306_ : List Ins) =>
    join (fun (n1318_ : Int) (n1319_ : Int) (l1322_ : List Ins) =>
    join (fun (n1340_ : Int) (l1343_ : List Ins) =>
    (app 32 l1343_ [(⟨n1069_, (b1293_.toNat : Int), n1340_, n1319_⟩ : Ins)]).bind fun l1356_ =>
    j1292_ l1356_ (w64 (n1069_ + (w64 (1 + r1296_))))) (fun j1345_ =>
    join (fun (l1349_ : List Ins) (b1351_ : Bool) =>
    cond (b1351_) (j1345_ (w64 (n1318_ - 65536)) l1349_) (j1345_ n1318_ l1349_)) (fun j1352_ =>
    cond (decide ((b1293_.toNat : Int) = 1)) (j1352_ l1322_ (decide (32767 < n1318_))) (j1352_ l1322_ false)))) (fun j1324_ =>
    cond (decide (r1296_ = 2)) ((idx s_ (w64 (n1069_ + 2))).bind fun b1326_ =>
    (R_ByItself (b1293_.toNat : Int)).bind fun r1328_ =>
    cond (!r1328_) (j1324_ (w64 ((w64 (256 * n1303_)) + (b1326_.toNat : Int))) 0 l1306_) (j1324_ n1303_ (b1326_.toNat : Int) l1306_)) (j1324_ n1303_ 0 l1306_))) (fun j1308_ =>
    cond (decide (1 ≤ r1296_)) ((idx s_ (w64 (n1069_ + 1))).bind fun b1310_ =>
    j1308_ (b1310_.toNat : Int) l1067_) (j1308_ 0 l1067_)))))) (j961_ l1067_)

def R_InsOf_L2 (F : Nat) (j1649_ : (List Ins) → Option ((List Ins) × Fault)) : Nat → (List Ins) → Int → Option ((List Ins) × Fault)
  | 0, _, _ => none
  | k2_ + 1, l1746_, n1748_ =>
    cond (decide (n1748_ < (l1746_.length : Int))) (join (fun (l1889_ : List Ins) =>
    R_InsOf_L2 F j1649_ k2_ l1889_ (w64 (n1748_ + 1))) (fun j1891_ =>
    join (fun (l1909_ : List Ins) (b1911_ : Bool) =>
    cond (b1911_) ((idx l1909_ n1748_).bind fun x1929_ =>
    some ([], (⟨3, x1929_.At⟩ : Fault))) (j1891_ l1909_)) (fun j1912_ =>
    (idx l1746_ n1748_).bind fun x1913_ =>
    (R_GoesTo x1913_.Op).bind fun r1918_ =>
    cond (r1918_) ((idx l1746_ n1748_).bind fun x1921_ =>
    (R_PlaceOf F l1746_ x1921_.A).bind fun r1926_ =>
    j1912_ l1746_ (decide (r1926_ < 0))) (j1912_ l1746_ false)))) (j1649_ l1746_)

def R_InsOf (F : Nat) (s_ : List UInt8) : Option ((List Ins) × Fault) :=
  cond (decide (200 < (s_.length : Int))) (some ([], (⟨2, 0⟩ : Fault))) (cond (decide (s_ = [])) (some ([], (⟨1, 0⟩ : Fault))) (join (fun (l959_ : List Ins) =>
  join (fun (l1647_ : List Ins) =>
  some (l1647_, (⟨0, 0⟩ : Fault))) (fun j1649_ =>
  R_InsOf_L2 F j1649_ F l959_ 0)) (fun j961_ =>
  R_InsOf_L1 s_ j961_ F [] 0)))

end Cin
