/- Plain law: CodeEncodes answers true: Encode and the second writing agree, whatever list comes in. No program in sight. -/
import Derived.Test.YtcioldnpdkfeoaaDoorPlainDecodes
namespace Cin
def stepE (j1801_ : List UInt8 → Option (List UInt8 × Int)) (x1802_ : Ins) (l1527_ : List UInt8) : Option (List UInt8 × Int) :=
    (code_IsOp x1802_.Op).bind fun r1808_ =>
    cond (!r1808_) (some ([], 7)) ((code_fits (⟨x1802_.At, x1802_.Op, x1802_.A, x1802_.B⟩ : Ins)).bind fun r1811_ =>
    cond (!r1811_) (some ([], 3)) (cond (!decide (x1802_.At = (l1527_.length : Int))) (some ([], 4)) ((app 1 l1527_ [b8 x1802_.Op]).bind fun l1816_ =>
    (idx g_code_shapes x1802_.Op).bind fun x1821_ =>
    join (fun (l1855_ : List UInt8) =>
    j1801_ l1855_) (fun j1857_ =>
    join (fun (l1861_ : List UInt8) (b1863_ : Bool) =>
    cond (b1863_) ((app 1 l1861_ [b8 (shrI x1802_.A 8), b8 x1802_.A]).bind fun l1868_ =>
    j1857_ l1868_) (cond (decide (x1821_ = 3)) ((app 1 l1861_ [b8 x1802_.A]).bind fun l1875_ =>
    j1857_ l1875_) (cond (decide (x1821_ = 4)) ((app 1 l1861_ [b8 x1802_.A, b8 x1802_.B]).bind fun l1882_ =>
    j1857_ l1882_) (j1857_ l1861_)))) (fun j1864_ =>
    cond (decide (x1821_ = 1)) (j1864_ l1816_ (decide (x1821_ = 1))) (j1864_ l1816_ (decide (x1821_ = 2))))))))

def stepC (j1460_ : List UInt8 → Option (List UInt8 × Int)) (x1461_ : Ins) (s1061_ : List UInt8) : Option (List UInt8 × Int) :=
    (R_Behind x1461_.Op).bind fun r1467_ =>
    cond (decide (r1467_ < 0)) (some ([], 7)) (join (fun (n1479_ : Int) =>
    join (fun (n1493_ : Int) =>
    join (fun (n1501_ : Int) =>
    join (fun (n1507_ : Int) (n1508_ : Int) =>
    join (fun (_ : Unit) =>
    cond (!decide (x1461_.At = (s1061_.length : Int))) (some ([], 4)) ((R_Count x1461_.Op).bind fun r1539_ =>
    (cat s1061_ r1539_).bind fun s1541_ =>
    join (fun (n1544_ : Int) =>
    join (fun (s1568_ : List UInt8) =>
    j1460_ s1568_) (fun j1569_ =>
    cond (decide (r1467_ = 1)) ((R_Count n1544_).bind fun r1571_ =>
    (cat s1541_ r1571_).bind fun s1573_ =>
    j1569_ s1573_) ((R_ByItself x1461_.Op).bind fun r1575_ =>
    cond (r1575_) ((R_Count n1544_).bind fun r1578_ =>
    (R_Count x1461_.B).bind fun r1580_ =>
    (cat r1578_ r1580_).bind fun s1582_ =>
    (cat s1541_ s1582_).bind fun s1584_ =>
    j1569_ s1584_) (cond (decide (r1467_ = 2)) ((R_Two n1544_).bind fun r1587_ =>
    (cat s1541_ r1587_).bind fun s1589_ =>
    j1569_ s1589_) (j1569_ s1541_))))) (fun j1545_ =>
    cond (decide (x1461_.A < 0)) (j1545_ (w64 (x1461_.A + 65536))) (j1545_ x1461_.A)))) (fun j1524_ =>
    join (fun (b1530_ : Bool) =>
    cond (b1530_) (some ([], 3)) (j1524_ ())) (fun j1531_ =>
    (R_between x1461_.A n1507_ n1508_).bind fun r1532_ =>
    cond (!r1532_) (j1531_ true) ((R_between x1461_.B 0 n1493_).bind fun r1535_ =>
    j1531_ (!r1535_))))) (fun j1509_ =>
    cond (decide (x1461_.Op = 1)) (j1509_ (-32768) 32767) (j1509_ 0 n1501_))) (fun j1502_ =>
    (R_GoesTo x1461_.Op).bind fun r1503_ =>
    cond (r1503_) (j1502_ 65535) (j1502_ n1479_))) (fun j1494_ =>
    (R_ByItself x1461_.Op).bind fun r1495_ =>
    cond (r1495_) (j1494_ 255) (j1494_ 0))) (fun j1480_ =>
    join (fun (b1484_ : Bool) =>
    cond (b1484_) (j1480_ 255) (j1480_ 0)) (fun j1485_ =>
    cond (decide (r1467_ = 1)) (j1485_ true) ((R_ByItself x1461_.Op).bind fun r1487_ =>
    j1485_ r1487_))))

theorem encL_step (l : List Ins) (j : List UInt8 → Option (List UInt8 × Int)) (k : Nat) (o : List UInt8) (n : Int) : code_Encode_L1 l j (k + 1) o n = cond (decide (n < (l.length : Int))) ((idx l n).bind fun x => stepE (fun o2 => code_Encode_L1 l j k o2 (w64 (n + 1))) x o) (j o) := rfl
theorem codL_step (l : List Ins) (j : List UInt8 → Option (List UInt8 × Int)) (k : Nat) (o : List UInt8) (n : Int) : R_CodeOf_L1 l j (k + 1) o n = cond (decide (n < (l.length : Int))) ((idx l n).bind fun x => stepC (fun o2 => R_CodeOf_L1 l j k o2 (w64 (n + 1))) x o) (j o) := rfl
theorem within_eq (n a b : Int) : code_within n a b = some (decide (a ≤ n ∧ n ≤ b)) := by
  unfold code_within
  by_cases h : a ≤ n <;> by_cases h2 : n ≤ b <;> simp [h, h2]
theorem between_eq (n a b : Int) : R_between n a b = some (decide (a ≤ n ∧ n ≤ b)) := by
  unfold R_between
  by_cases h : a ≤ n <;> by_cases h2 : n ≤ b <;> simp [h, h2]
theorem cat_ok {p q : List UInt8} (h : p.length + q.length ≤ 9223372036854775807) : cat p q = some (p ++ q) := by unfold cat; rw [if_pos h]
theorem b8_eq {m n : Int} (h : m % 256 = n % 256) : b8 m = b8 n := by unfold b8; rw [h]
section
variable {K : List UInt8 → Option (List UInt8 × Int)} {x : Ins} {o : List UInt8} {t : Bool}
theorem fits_s0 (h2 : idx g_code_shapes x.Op = some 0) : code_fits (⟨x.At, x.Op, x.A, x.B⟩ : Ins) = some (decide (0 ≤ x.A ∧ x.A ≤ 0) && decide (0 ≤ x.B ∧ x.B ≤ 0)) := by
  unfold code_fits
  refine bind_e h2 ?_
  have hB : decide (x.B = 0) = decide (0 ≤ x.B ∧ x.B ≤ 0) := by rw [decide_eq_decide]; omega
  have hA : decide (x.A = 0) = decide (0 ≤ x.A ∧ x.A ≤ 0) := by rw [decide_eq_decide]; omega
  repeat (first | refine cond_te (by decide) ?_ | refine cond_fe (by decide) ?_)
  rw [hA, hB]
  cases decide (0 ≤ x.A ∧ x.A ≤ 0) <;> rfl
theorem stepE_s0_unfit (h0 : code_IsOp x.Op = some true) (h2 : idx g_code_shapes x.Op = some 0) (hf : code_fits (⟨x.At, x.Op, x.A, x.B⟩ : Ins) = some false) : stepE K x o = some ([], 3) := by
  unfold stepE
  repeat (first | with_reducible refine app1 (by assumption) ?_ | with_reducible refine app2 (by assumption) ?_ | with_reducible refine app3 (by assumption) ?_ | (with_reducible refine join_g ?_; intro j hj) | with_reducible refine bind_e h0 ?_ | with_reducible refine bind_e hf ?_ | refine cond_te (by decide) ?_ | refine cond_fe (by decide) ?_)
  rfl
theorem stepE_s0_at (h0 : code_IsOp x.Op = some true) (h2 : idx g_code_shapes x.Op = some 0) (hf : code_fits (⟨x.At, x.Op, x.A, x.B⟩ : Ins) = some true) (ha : (!decide (x.At = (o.length : Int))) = true) : stepE K x o = some ([], 4) := by
  unfold stepE
  repeat (first | with_reducible refine app1 (by assumption) ?_ | with_reducible refine app2 (by assumption) ?_ | with_reducible refine app3 (by assumption) ?_ | (with_reducible refine join_g ?_; intro j hj) | with_reducible refine cond_te ha ?_ | with_reducible refine bind_e h0 ?_ | with_reducible refine bind_e hf ?_ | refine cond_te (by decide) ?_ | refine cond_fe (by decide) ?_)
  rfl
theorem stepE_s0 (h0 : code_IsOp x.Op = some true) (h2 : idx g_code_shapes x.Op = some 0) (hf : code_fits (⟨x.At, x.Op, x.A, x.B⟩ : Ins) = some true) (ha : (!decide (x.At = (o.length : Int))) = false) (hl : o.length ≤ 140737488355320) : stepE K x o = K (o ++ [b8 x.Op]) := by
  have e1 : app 1 o [b8 x.Op] = some (o ++ [b8 x.Op]) := app_ok (by simp only [List.length_cons, List.length_nil]; omega)
  unfold stepE
  repeat (first | with_reducible refine app1 (by assumption) ?_ | with_reducible refine app2 (by assumption) ?_ | with_reducible refine app3 (by assumption) ?_ | (with_reducible refine join_g ?_; intro j hj) | with_reducible refine cond_fe ha ?_ | with_reducible refine bind_e h0 ?_ | with_reducible refine bind_e hf ?_ | with_reducible refine bind_e h2 ?_ | with_reducible refine bind_e e1 ?_ | refine cond_te (by decide) ?_ | refine cond_fe (by decide) ?_)
  rfl
theorem stepC_s0_A (h1 : R_Behind x.Op = some 0) (h5 : R_ByItself x.Op = some false) (h6 : R_GoesTo x.Op = some false) (h4 : decide (x.Op = 1) = false) (hA : R_between x.A 0 0 = some false) : stepC K x o = some ([], 3) := by
  unfold stepC
  repeat (first | with_reducible refine app1 (by assumption) ?_ | with_reducible refine app2 (by assumption) ?_ | with_reducible refine app3 (by assumption) ?_ | (with_reducible refine join_g ?_; intro j hj) | with_reducible refine bind_e h1 ?_ | with_reducible refine bind_e h5 ?_ | with_reducible refine bind_e h6 ?_ | with_reducible refine cond_fe h4 ?_ | with_reducible refine bind_e hA ?_ | refine cond_te (by decide) ?_ | refine cond_fe (by decide) ?_)
  rfl
theorem stepC_s0_B (h1 : R_Behind x.Op = some 0) (h5 : R_ByItself x.Op = some false) (h6 : R_GoesTo x.Op = some false) (h4 : decide (x.Op = 1) = false) (hA : R_between x.A 0 0 = some true) (hB : R_between x.B 0 0 = some false) : stepC K x o = some ([], 3) := by
  unfold stepC
  repeat (first | with_reducible refine app1 (by assumption) ?_ | with_reducible refine app2 (by assumption) ?_ | with_reducible refine app3 (by assumption) ?_ | (with_reducible refine join_g ?_; intro j hj) | with_reducible refine bind_e h1 ?_ | with_reducible refine bind_e h5 ?_ | with_reducible refine bind_e h6 ?_ | with_reducible refine cond_fe h4 ?_ | with_reducible refine bind_e hA ?_ | with_reducible refine bind_e hB ?_ | refine cond_te (by decide) ?_ | refine cond_fe (by decide) ?_)
  rfl
theorem stepC_s0_at (h1 : R_Behind x.Op = some 0) (h5 : R_ByItself x.Op = some false) (h6 : R_GoesTo x.Op = some false) (h4 : decide (x.Op = 1) = false) (hA : R_between x.A 0 0 = some true) (hB : R_between x.B 0 0 = some true) (ha : (!decide (x.At = (o.length : Int))) = true) : stepC K x o = some ([], 4) := by
  unfold stepC
  repeat (first | with_reducible refine app1 (by assumption) ?_ | with_reducible refine app2 (by assumption) ?_ | with_reducible refine app3 (by assumption) ?_ | (with_reducible refine join_g ?_; intro j hj) | with_reducible refine cond_te ha ?_ | with_reducible refine bind_e h1 ?_ | with_reducible refine bind_e h5 ?_ | with_reducible refine bind_e h6 ?_ | with_reducible refine cond_fe h4 ?_ | with_reducible refine bind_e hA ?_ | with_reducible refine bind_e hB ?_ | refine cond_te (by decide) ?_ | refine cond_fe (by decide) ?_)
  rfl
theorem stepC_s0_pos (h1 : R_Behind x.Op = some 0) (h5 : R_ByItself x.Op = some false) (h6 : R_GoesTo x.Op = some false) (h4 : decide (x.Op = 1) = false) (hA : R_between x.A 0 0 = some true) (hB : R_between x.B 0 0 = some true) (ha : (!decide (x.At = (o.length : Int))) = false) (hl : o.length ≤ 140737488355320) (hs : decide (x.A < 0) = false) : stepC K x o = K (o ++ [b8 x.Op]) := by
  have q0 : R_Count x.Op = some [b8 x.Op] := rfl
  have e1 : cat o [b8 x.Op] = some (o ++ [b8 x.Op]) := cat_ok (by simp only [List.length_cons, List.length_nil]; omega)
  unfold stepC
  repeat (first | with_reducible refine app1 (by assumption) ?_ | with_reducible refine app2 (by assumption) ?_ | with_reducible refine app3 (by assumption) ?_ | (with_reducible refine join_g ?_; intro j hj) | with_reducible refine cond_fe ha ?_ | with_reducible refine cond_fe hs ?_ | with_reducible refine bind_e h1 ?_ | with_reducible refine bind_e h5 ?_ | with_reducible refine bind_e h6 ?_ | with_reducible refine cond_fe h4 ?_ | with_reducible refine bind_e hA ?_ | with_reducible refine bind_e hB ?_ | with_reducible refine bind_e e1 ?_ | with_reducible refine bind_e q0 ?_ | refine cond_te (by decide) ?_ | refine cond_fe (by decide) ?_)
  rfl
theorem fits_s1 (h2 : idx g_code_shapes x.Op = some 1) : code_fits (⟨x.At, x.Op, x.A, x.B⟩ : Ins) = some (decide ((-32768) ≤ x.A ∧ x.A ≤ 32767) && decide (0 ≤ x.B ∧ x.B ≤ 0)) := by
  unfold code_fits
  refine bind_e h2 ?_
  have hB : decide (x.B = 0) = decide (0 ≤ x.B ∧ x.B ≤ 0) := by rw [decide_eq_decide]; omega
  repeat (first | refine cond_te (by decide) ?_ | refine cond_fe (by decide) ?_)
  refine bind_e (within_eq _ _ _) ?_
  rw [hB]
  cases decide ((-32768) ≤ x.A ∧ x.A ≤ 32767) <;> rfl
theorem stepE_s1_unfit (h0 : code_IsOp x.Op = some true) (h2 : idx g_code_shapes x.Op = some 1) (hf : code_fits (⟨x.At, x.Op, x.A, x.B⟩ : Ins) = some false) : stepE K x o = some ([], 3) := by
  unfold stepE
  repeat (first | with_reducible refine app1 (by assumption) ?_ | with_reducible refine app2 (by assumption) ?_ | with_reducible refine app3 (by assumption) ?_ | (with_reducible refine join_g ?_; intro j hj) | with_reducible refine bind_e h0 ?_ | with_reducible refine bind_e hf ?_ | refine cond_te (by decide) ?_ | refine cond_fe (by decide) ?_)
  rfl
theorem stepE_s1_at (h0 : code_IsOp x.Op = some true) (h2 : idx g_code_shapes x.Op = some 1) (hf : code_fits (⟨x.At, x.Op, x.A, x.B⟩ : Ins) = some true) (ha : (!decide (x.At = (o.length : Int))) = true) : stepE K x o = some ([], 4) := by
  unfold stepE
  repeat (first | with_reducible refine app1 (by assumption) ?_ | with_reducible refine app2 (by assumption) ?_ | with_reducible refine app3 (by assumption) ?_ | (with_reducible refine join_g ?_; intro j hj) | with_reducible refine cond_te ha ?_ | with_reducible refine bind_e h0 ?_ | with_reducible refine bind_e hf ?_ | refine cond_te (by decide) ?_ | refine cond_fe (by decide) ?_)
  rfl
theorem stepE_s1 (h0 : code_IsOp x.Op = some true) (h2 : idx g_code_shapes x.Op = some 1) (hf : code_fits (⟨x.At, x.Op, x.A, x.B⟩ : Ins) = some true) (ha : (!decide (x.At = (o.length : Int))) = false) (hl : o.length ≤ 140737488355320) : stepE K x o = K (o ++ [b8 x.Op] ++ [b8 (shrI x.A 8), b8 x.A]) := by
  have e1 : app 1 o [b8 x.Op] = some (o ++ [b8 x.Op]) := app_ok (by simp only [List.length_cons, List.length_nil]; omega)
  have e2 : app 1 (o ++ [b8 x.Op]) [b8 (shrI x.A 8), b8 x.A] = some (o ++ [b8 x.Op] ++ [b8 (shrI x.A 8), b8 x.A]) := app_ok (by simp only [List.length_append, List.length_cons, List.length_nil]; omega)
  unfold stepE
  repeat (first | with_reducible refine app1 (by assumption) ?_ | with_reducible refine app2 (by assumption) ?_ | with_reducible refine app3 (by assumption) ?_ | (with_reducible refine join_g ?_; intro j hj) | with_reducible refine cond_fe ha ?_ | with_reducible refine bind_e h0 ?_ | with_reducible refine bind_e hf ?_ | with_reducible refine bind_e h2 ?_ | with_reducible refine bind_e e1 ?_ | with_reducible refine bind_e e2 ?_ | refine cond_te (by decide) ?_ | refine cond_fe (by decide) ?_)
  rfl
theorem stepC_s1_A (h1 : R_Behind x.Op = some 2) (h5 : R_ByItself x.Op = some false) (h6 : R_GoesTo x.Op = some false) (h4 : decide (x.Op = 1) = true) (hA : R_between x.A (-32768) 32767 = some false) : stepC K x o = some ([], 3) := by
  unfold stepC
  repeat (first | with_reducible refine app1 (by assumption) ?_ | with_reducible refine app2 (by assumption) ?_ | with_reducible refine app3 (by assumption) ?_ | (with_reducible refine join_g ?_; intro j hj) | with_reducible refine bind_e h1 ?_ | with_reducible refine bind_e h5 ?_ | with_reducible refine bind_e h6 ?_ | with_reducible refine cond_te h4 ?_ | with_reducible refine bind_e hA ?_ | refine cond_te (by decide) ?_ | refine cond_fe (by decide) ?_)
  rfl
theorem stepC_s1_B (h1 : R_Behind x.Op = some 2) (h5 : R_ByItself x.Op = some false) (h6 : R_GoesTo x.Op = some false) (h4 : decide (x.Op = 1) = true) (hA : R_between x.A (-32768) 32767 = some true) (hB : R_between x.B 0 0 = some false) : stepC K x o = some ([], 3) := by
  unfold stepC
  repeat (first | with_reducible refine app1 (by assumption) ?_ | with_reducible refine app2 (by assumption) ?_ | with_reducible refine app3 (by assumption) ?_ | (with_reducible refine join_g ?_; intro j hj) | with_reducible refine bind_e h1 ?_ | with_reducible refine bind_e h5 ?_ | with_reducible refine bind_e h6 ?_ | with_reducible refine cond_te h4 ?_ | with_reducible refine bind_e hA ?_ | with_reducible refine bind_e hB ?_ | refine cond_te (by decide) ?_ | refine cond_fe (by decide) ?_)
  rfl
theorem stepC_s1_at (h1 : R_Behind x.Op = some 2) (h5 : R_ByItself x.Op = some false) (h6 : R_GoesTo x.Op = some false) (h4 : decide (x.Op = 1) = true) (hA : R_between x.A (-32768) 32767 = some true) (hB : R_between x.B 0 0 = some true) (ha : (!decide (x.At = (o.length : Int))) = true) : stepC K x o = some ([], 4) := by
  unfold stepC
  repeat (first | with_reducible refine app1 (by assumption) ?_ | with_reducible refine app2 (by assumption) ?_ | with_reducible refine app3 (by assumption) ?_ | (with_reducible refine join_g ?_; intro j hj) | with_reducible refine cond_te ha ?_ | with_reducible refine bind_e h1 ?_ | with_reducible refine bind_e h5 ?_ | with_reducible refine bind_e h6 ?_ | with_reducible refine cond_te h4 ?_ | with_reducible refine bind_e hA ?_ | with_reducible refine bind_e hB ?_ | refine cond_te (by decide) ?_ | refine cond_fe (by decide) ?_)
  rfl
theorem stepC_s1_neg (h1 : R_Behind x.Op = some 2) (h5 : R_ByItself x.Op = some false) (h6 : R_GoesTo x.Op = some false) (h4 : decide (x.Op = 1) = true) (hA : R_between x.A (-32768) 32767 = some true) (hB : R_between x.B 0 0 = some true) (ha : (!decide (x.At = (o.length : Int))) = false) (hl : o.length ≤ 140737488355320) (hs : decide (x.A < 0) = true) : stepC K x o = K (o ++ [b8 x.Op] ++ [b8 (w64 ((w64 (x.A + 65536)).tdiv 256)), b8 ((w64 (x.A + 65536)).tmod 256)]) := by
  have q0 : R_Count x.Op = some [b8 x.Op] := rfl
  have e1 : cat o [b8 x.Op] = some (o ++ [b8 x.Op]) := cat_ok (by simp only [List.length_cons, List.length_nil]; omega)
  have e2 : cat (o ++ [b8 x.Op]) [b8 (w64 ((w64 (x.A + 65536)).tdiv 256)), b8 ((w64 (x.A + 65536)).tmod 256)] = some (o ++ [b8 x.Op] ++ [b8 (w64 ((w64 (x.A + 65536)).tdiv 256)), b8 ((w64 (x.A + 65536)).tmod 256)]) := cat_ok (by simp only [List.length_append, List.length_cons, List.length_nil]; omega)
  have q1 : R_Two (w64 (x.A + 65536)) = some [b8 (w64 ((w64 (x.A + 65536)).tdiv 256)), b8 ((w64 (x.A + 65536)).tmod 256)] := rfl
  unfold stepC
  repeat (first | with_reducible refine app1 (by assumption) ?_ | with_reducible refine app2 (by assumption) ?_ | with_reducible refine app3 (by assumption) ?_ | (with_reducible refine join_g ?_; intro j hj) | with_reducible refine cond_fe ha ?_ | with_reducible refine cond_te hs ?_ | with_reducible refine bind_e h1 ?_ | with_reducible refine bind_e h5 ?_ | with_reducible refine bind_e h6 ?_ | with_reducible refine cond_te h4 ?_ | with_reducible refine bind_e hA ?_ | with_reducible refine bind_e hB ?_ | with_reducible refine bind_e e1 ?_ | with_reducible refine bind_e q0 ?_ | with_reducible refine bind_e e2 ?_ | with_reducible refine bind_e q1 ?_ | refine cond_te (by decide) ?_ | refine cond_fe (by decide) ?_)
  rfl
theorem stepC_s1_pos (h1 : R_Behind x.Op = some 2) (h5 : R_ByItself x.Op = some false) (h6 : R_GoesTo x.Op = some false) (h4 : decide (x.Op = 1) = true) (hA : R_between x.A (-32768) 32767 = some true) (hB : R_between x.B 0 0 = some true) (ha : (!decide (x.At = (o.length : Int))) = false) (hl : o.length ≤ 140737488355320) (hs : decide (x.A < 0) = false) : stepC K x o = K (o ++ [b8 x.Op] ++ [b8 (w64 (x.A.tdiv 256)), b8 (x.A.tmod 256)]) := by
  have q0 : R_Count x.Op = some [b8 x.Op] := rfl
  have e1 : cat o [b8 x.Op] = some (o ++ [b8 x.Op]) := cat_ok (by simp only [List.length_cons, List.length_nil]; omega)
  have e2 : cat (o ++ [b8 x.Op]) [b8 (w64 (x.A.tdiv 256)), b8 (x.A.tmod 256)] = some (o ++ [b8 x.Op] ++ [b8 (w64 (x.A.tdiv 256)), b8 (x.A.tmod 256)]) := cat_ok (by simp only [List.length_append, List.length_cons, List.length_nil]; omega)
  have q1 : R_Two x.A = some [b8 (w64 (x.A.tdiv 256)), b8 (x.A.tmod 256)] := rfl
  unfold stepC
  repeat (first | with_reducible refine app1 (by assumption) ?_ | with_reducible refine app2 (by assumption) ?_ | with_reducible refine app3 (by assumption) ?_ | (with_reducible refine join_g ?_; intro j hj) | with_reducible refine cond_fe ha ?_ | with_reducible refine cond_fe hs ?_ | with_reducible refine bind_e h1 ?_ | with_reducible refine bind_e h5 ?_ | with_reducible refine bind_e h6 ?_ | with_reducible refine cond_te h4 ?_ | with_reducible refine bind_e hA ?_ | with_reducible refine bind_e hB ?_ | with_reducible refine bind_e e1 ?_ | with_reducible refine bind_e q0 ?_ | with_reducible refine bind_e e2 ?_ | with_reducible refine bind_e q1 ?_ | refine cond_te (by decide) ?_ | refine cond_fe (by decide) ?_)
  rfl
theorem fits_s2 (h2 : idx g_code_shapes x.Op = some 2) : code_fits (⟨x.At, x.Op, x.A, x.B⟩ : Ins) = some (decide (0 ≤ x.A ∧ x.A ≤ 65535) && decide (0 ≤ x.B ∧ x.B ≤ 0)) := by
  unfold code_fits
  refine bind_e h2 ?_
  have hB : decide (x.B = 0) = decide (0 ≤ x.B ∧ x.B ≤ 0) := by rw [decide_eq_decide]; omega
  repeat (first | refine cond_te (by decide) ?_ | refine cond_fe (by decide) ?_)
  refine bind_e (within_eq _ _ _) ?_
  rw [hB]
  cases decide (0 ≤ x.A ∧ x.A ≤ 65535) <;> rfl
theorem stepE_s2_unfit (h0 : code_IsOp x.Op = some true) (h2 : idx g_code_shapes x.Op = some 2) (hf : code_fits (⟨x.At, x.Op, x.A, x.B⟩ : Ins) = some false) : stepE K x o = some ([], 3) := by
  unfold stepE
  repeat (first | with_reducible refine app1 (by assumption) ?_ | with_reducible refine app2 (by assumption) ?_ | with_reducible refine app3 (by assumption) ?_ | (with_reducible refine join_g ?_; intro j hj) | with_reducible refine bind_e h0 ?_ | with_reducible refine bind_e hf ?_ | refine cond_te (by decide) ?_ | refine cond_fe (by decide) ?_)
  rfl
theorem stepE_s2_at (h0 : code_IsOp x.Op = some true) (h2 : idx g_code_shapes x.Op = some 2) (hf : code_fits (⟨x.At, x.Op, x.A, x.B⟩ : Ins) = some true) (ha : (!decide (x.At = (o.length : Int))) = true) : stepE K x o = some ([], 4) := by
  unfold stepE
  repeat (first | with_reducible refine app1 (by assumption) ?_ | with_reducible refine app2 (by assumption) ?_ | with_reducible refine app3 (by assumption) ?_ | (with_reducible refine join_g ?_; intro j hj) | with_reducible refine cond_te ha ?_ | with_reducible refine bind_e h0 ?_ | with_reducible refine bind_e hf ?_ | refine cond_te (by decide) ?_ | refine cond_fe (by decide) ?_)
  rfl
theorem stepE_s2 (h0 : code_IsOp x.Op = some true) (h2 : idx g_code_shapes x.Op = some 2) (hf : code_fits (⟨x.At, x.Op, x.A, x.B⟩ : Ins) = some true) (ha : (!decide (x.At = (o.length : Int))) = false) (hl : o.length ≤ 140737488355320) : stepE K x o = K (o ++ [b8 x.Op] ++ [b8 (shrI x.A 8), b8 x.A]) := by
  have e1 : app 1 o [b8 x.Op] = some (o ++ [b8 x.Op]) := app_ok (by simp only [List.length_cons, List.length_nil]; omega)
  have e2 : app 1 (o ++ [b8 x.Op]) [b8 (shrI x.A 8), b8 x.A] = some (o ++ [b8 x.Op] ++ [b8 (shrI x.A 8), b8 x.A]) := app_ok (by simp only [List.length_append, List.length_cons, List.length_nil]; omega)
  unfold stepE
  repeat (first | with_reducible refine app1 (by assumption) ?_ | with_reducible refine app2 (by assumption) ?_ | with_reducible refine app3 (by assumption) ?_ | (with_reducible refine join_g ?_; intro j hj) | with_reducible refine cond_fe ha ?_ | with_reducible refine bind_e h0 ?_ | with_reducible refine bind_e hf ?_ | with_reducible refine bind_e h2 ?_ | with_reducible refine bind_e e1 ?_ | with_reducible refine bind_e e2 ?_ | refine cond_te (by decide) ?_ | refine cond_fe (by decide) ?_)
  rfl
theorem stepC_s2_A (h1 : R_Behind x.Op = some 2) (h5 : R_ByItself x.Op = some false) (h6 : R_GoesTo x.Op = some true) (h4 : decide (x.Op = 1) = false) (hA : R_between x.A 0 65535 = some false) : stepC K x o = some ([], 3) := by
  unfold stepC
  repeat (first | with_reducible refine app1 (by assumption) ?_ | with_reducible refine app2 (by assumption) ?_ | with_reducible refine app3 (by assumption) ?_ | (with_reducible refine join_g ?_; intro j hj) | with_reducible refine bind_e h1 ?_ | with_reducible refine bind_e h5 ?_ | with_reducible refine bind_e h6 ?_ | with_reducible refine cond_fe h4 ?_ | with_reducible refine bind_e hA ?_ | refine cond_te (by decide) ?_ | refine cond_fe (by decide) ?_)
  rfl
theorem stepC_s2_B (h1 : R_Behind x.Op = some 2) (h5 : R_ByItself x.Op = some false) (h6 : R_GoesTo x.Op = some true) (h4 : decide (x.Op = 1) = false) (hA : R_between x.A 0 65535 = some true) (hB : R_between x.B 0 0 = some false) : stepC K x o = some ([], 3) := by
  unfold stepC
  repeat (first | with_reducible refine app1 (by assumption) ?_ | with_reducible refine app2 (by assumption) ?_ | with_reducible refine app3 (by assumption) ?_ | (with_reducible refine join_g ?_; intro j hj) | with_reducible refine bind_e h1 ?_ | with_reducible refine bind_e h5 ?_ | with_reducible refine bind_e h6 ?_ | with_reducible refine cond_fe h4 ?_ | with_reducible refine bind_e hA ?_ | with_reducible refine bind_e hB ?_ | refine cond_te (by decide) ?_ | refine cond_fe (by decide) ?_)
  rfl
theorem stepC_s2_at (h1 : R_Behind x.Op = some 2) (h5 : R_ByItself x.Op = some false) (h6 : R_GoesTo x.Op = some true) (h4 : decide (x.Op = 1) = false) (hA : R_between x.A 0 65535 = some true) (hB : R_between x.B 0 0 = some true) (ha : (!decide (x.At = (o.length : Int))) = true) : stepC K x o = some ([], 4) := by
  unfold stepC
  repeat (first | with_reducible refine app1 (by assumption) ?_ | with_reducible refine app2 (by assumption) ?_ | with_reducible refine app3 (by assumption) ?_ | (with_reducible refine join_g ?_; intro j hj) | with_reducible refine cond_te ha ?_ | with_reducible refine bind_e h1 ?_ | with_reducible refine bind_e h5 ?_ | with_reducible refine bind_e h6 ?_ | with_reducible refine cond_fe h4 ?_ | with_reducible refine bind_e hA ?_ | with_reducible refine bind_e hB ?_ | refine cond_te (by decide) ?_ | refine cond_fe (by decide) ?_)
  rfl
theorem stepC_s2_pos (h1 : R_Behind x.Op = some 2) (h5 : R_ByItself x.Op = some false) (h6 : R_GoesTo x.Op = some true) (h4 : decide (x.Op = 1) = false) (hA : R_between x.A 0 65535 = some true) (hB : R_between x.B 0 0 = some true) (ha : (!decide (x.At = (o.length : Int))) = false) (hl : o.length ≤ 140737488355320) (hs : decide (x.A < 0) = false) : stepC K x o = K (o ++ [b8 x.Op] ++ [b8 (w64 (x.A.tdiv 256)), b8 (x.A.tmod 256)]) := by
  have q0 : R_Count x.Op = some [b8 x.Op] := rfl
  have e1 : cat o [b8 x.Op] = some (o ++ [b8 x.Op]) := cat_ok (by simp only [List.length_cons, List.length_nil]; omega)
  have e2 : cat (o ++ [b8 x.Op]) [b8 (w64 (x.A.tdiv 256)), b8 (x.A.tmod 256)] = some (o ++ [b8 x.Op] ++ [b8 (w64 (x.A.tdiv 256)), b8 (x.A.tmod 256)]) := cat_ok (by simp only [List.length_append, List.length_cons, List.length_nil]; omega)
  have q1 : R_Two x.A = some [b8 (w64 (x.A.tdiv 256)), b8 (x.A.tmod 256)] := rfl
  unfold stepC
  repeat (first | with_reducible refine app1 (by assumption) ?_ | with_reducible refine app2 (by assumption) ?_ | with_reducible refine app3 (by assumption) ?_ | (with_reducible refine join_g ?_; intro j hj) | with_reducible refine cond_fe ha ?_ | with_reducible refine cond_fe hs ?_ | with_reducible refine bind_e h1 ?_ | with_reducible refine bind_e h5 ?_ | with_reducible refine bind_e h6 ?_ | with_reducible refine cond_fe h4 ?_ | with_reducible refine bind_e hA ?_ | with_reducible refine bind_e hB ?_ | with_reducible refine bind_e e1 ?_ | with_reducible refine bind_e q0 ?_ | with_reducible refine bind_e e2 ?_ | with_reducible refine bind_e q1 ?_ | refine cond_te (by decide) ?_ | refine cond_fe (by decide) ?_)
  rfl
theorem fits_s3 (h2 : idx g_code_shapes x.Op = some 3) : code_fits (⟨x.At, x.Op, x.A, x.B⟩ : Ins) = some (decide (0 ≤ x.A ∧ x.A ≤ 255) && decide (0 ≤ x.B ∧ x.B ≤ 0)) := by
  unfold code_fits
  refine bind_e h2 ?_
  have hB : decide (x.B = 0) = decide (0 ≤ x.B ∧ x.B ≤ 0) := by rw [decide_eq_decide]; omega
  repeat (first | refine cond_te (by decide) ?_ | refine cond_fe (by decide) ?_)
  refine bind_e (within_eq _ _ _) ?_
  rw [hB]
  cases decide (0 ≤ x.A ∧ x.A ≤ 255) <;> rfl
theorem stepE_s3_unfit (h0 : code_IsOp x.Op = some true) (h2 : idx g_code_shapes x.Op = some 3) (hf : code_fits (⟨x.At, x.Op, x.A, x.B⟩ : Ins) = some false) : stepE K x o = some ([], 3) := by
  unfold stepE
  repeat (first | with_reducible refine app1 (by assumption) ?_ | with_reducible refine app2 (by assumption) ?_ | with_reducible refine app3 (by assumption) ?_ | (with_reducible refine join_g ?_; intro j hj) | with_reducible refine bind_e h0 ?_ | with_reducible refine bind_e hf ?_ | refine cond_te (by decide) ?_ | refine cond_fe (by decide) ?_)
  rfl
theorem stepE_s3_at (h0 : code_IsOp x.Op = some true) (h2 : idx g_code_shapes x.Op = some 3) (hf : code_fits (⟨x.At, x.Op, x.A, x.B⟩ : Ins) = some true) (ha : (!decide (x.At = (o.length : Int))) = true) : stepE K x o = some ([], 4) := by
  unfold stepE
  repeat (first | with_reducible refine app1 (by assumption) ?_ | with_reducible refine app2 (by assumption) ?_ | with_reducible refine app3 (by assumption) ?_ | (with_reducible refine join_g ?_; intro j hj) | with_reducible refine cond_te ha ?_ | with_reducible refine bind_e h0 ?_ | with_reducible refine bind_e hf ?_ | refine cond_te (by decide) ?_ | refine cond_fe (by decide) ?_)
  rfl
theorem stepE_s3 (h0 : code_IsOp x.Op = some true) (h2 : idx g_code_shapes x.Op = some 3) (hf : code_fits (⟨x.At, x.Op, x.A, x.B⟩ : Ins) = some true) (ha : (!decide (x.At = (o.length : Int))) = false) (hl : o.length ≤ 140737488355320) : stepE K x o = K (o ++ [b8 x.Op] ++ [b8 x.A]) := by
  have e1 : app 1 o [b8 x.Op] = some (o ++ [b8 x.Op]) := app_ok (by simp only [List.length_cons, List.length_nil]; omega)
  have e2 : app 1 (o ++ [b8 x.Op]) [b8 x.A] = some (o ++ [b8 x.Op] ++ [b8 x.A]) := app_ok (by simp only [List.length_append, List.length_cons, List.length_nil]; omega)
  unfold stepE
  repeat (first | with_reducible refine app1 (by assumption) ?_ | with_reducible refine app2 (by assumption) ?_ | with_reducible refine app3 (by assumption) ?_ | (with_reducible refine join_g ?_; intro j hj) | with_reducible refine cond_fe ha ?_ | with_reducible refine bind_e h0 ?_ | with_reducible refine bind_e hf ?_ | with_reducible refine bind_e h2 ?_ | with_reducible refine bind_e e1 ?_ | with_reducible refine bind_e e2 ?_ | refine cond_te (by decide) ?_ | refine cond_fe (by decide) ?_)
  rfl
theorem stepC_s3_A (h1 : R_Behind x.Op = some 1) (h5 : R_ByItself x.Op = some false) (h6 : R_GoesTo x.Op = some false) (h4 : decide (x.Op = 1) = false) (hA : R_between x.A 0 255 = some false) : stepC K x o = some ([], 3) := by
  unfold stepC
  repeat (first | with_reducible refine app1 (by assumption) ?_ | with_reducible refine app2 (by assumption) ?_ | with_reducible refine app3 (by assumption) ?_ | (with_reducible refine join_g ?_; intro j hj) | with_reducible refine bind_e h1 ?_ | with_reducible refine bind_e h5 ?_ | with_reducible refine bind_e h6 ?_ | with_reducible refine cond_fe h4 ?_ | with_reducible refine bind_e hA ?_ | refine cond_te (by decide) ?_ | refine cond_fe (by decide) ?_)
  rfl
theorem stepC_s3_B (h1 : R_Behind x.Op = some 1) (h5 : R_ByItself x.Op = some false) (h6 : R_GoesTo x.Op = some false) (h4 : decide (x.Op = 1) = false) (hA : R_between x.A 0 255 = some true) (hB : R_between x.B 0 0 = some false) : stepC K x o = some ([], 3) := by
  unfold stepC
  repeat (first | with_reducible refine app1 (by assumption) ?_ | with_reducible refine app2 (by assumption) ?_ | with_reducible refine app3 (by assumption) ?_ | (with_reducible refine join_g ?_; intro j hj) | with_reducible refine bind_e h1 ?_ | with_reducible refine bind_e h5 ?_ | with_reducible refine bind_e h6 ?_ | with_reducible refine cond_fe h4 ?_ | with_reducible refine bind_e hA ?_ | with_reducible refine bind_e hB ?_ | refine cond_te (by decide) ?_ | refine cond_fe (by decide) ?_)
  rfl
theorem stepC_s3_at (h1 : R_Behind x.Op = some 1) (h5 : R_ByItself x.Op = some false) (h6 : R_GoesTo x.Op = some false) (h4 : decide (x.Op = 1) = false) (hA : R_between x.A 0 255 = some true) (hB : R_between x.B 0 0 = some true) (ha : (!decide (x.At = (o.length : Int))) = true) : stepC K x o = some ([], 4) := by
  unfold stepC
  repeat (first | with_reducible refine app1 (by assumption) ?_ | with_reducible refine app2 (by assumption) ?_ | with_reducible refine app3 (by assumption) ?_ | (with_reducible refine join_g ?_; intro j hj) | with_reducible refine cond_te ha ?_ | with_reducible refine bind_e h1 ?_ | with_reducible refine bind_e h5 ?_ | with_reducible refine bind_e h6 ?_ | with_reducible refine cond_fe h4 ?_ | with_reducible refine bind_e hA ?_ | with_reducible refine bind_e hB ?_ | refine cond_te (by decide) ?_ | refine cond_fe (by decide) ?_)
  rfl
theorem stepC_s3_pos (h1 : R_Behind x.Op = some 1) (h5 : R_ByItself x.Op = some false) (h6 : R_GoesTo x.Op = some false) (h4 : decide (x.Op = 1) = false) (hA : R_between x.A 0 255 = some true) (hB : R_between x.B 0 0 = some true) (ha : (!decide (x.At = (o.length : Int))) = false) (hl : o.length ≤ 140737488355320) (hs : decide (x.A < 0) = false) : stepC K x o = K (o ++ [b8 x.Op] ++ [b8 x.A]) := by
  have q0 : R_Count x.Op = some [b8 x.Op] := rfl
  have e1 : cat o [b8 x.Op] = some (o ++ [b8 x.Op]) := cat_ok (by simp only [List.length_cons, List.length_nil]; omega)
  have e2 : cat (o ++ [b8 x.Op]) [b8 x.A] = some (o ++ [b8 x.Op] ++ [b8 x.A]) := cat_ok (by simp only [List.length_append, List.length_cons, List.length_nil]; omega)
  have q1 : R_Count x.A = some [b8 x.A] := rfl
  unfold stepC
  repeat (first | with_reducible refine app1 (by assumption) ?_ | with_reducible refine app2 (by assumption) ?_ | with_reducible refine app3 (by assumption) ?_ | (with_reducible refine join_g ?_; intro j hj) | with_reducible refine cond_fe ha ?_ | with_reducible refine cond_fe hs ?_ | with_reducible refine bind_e h1 ?_ | with_reducible refine bind_e h5 ?_ | with_reducible refine bind_e h6 ?_ | with_reducible refine cond_fe h4 ?_ | with_reducible refine bind_e hA ?_ | with_reducible refine bind_e hB ?_ | with_reducible refine bind_e e1 ?_ | with_reducible refine bind_e q0 ?_ | with_reducible refine bind_e e2 ?_ | with_reducible refine bind_e q1 ?_ | refine cond_te (by decide) ?_ | refine cond_fe (by decide) ?_)
  rfl
theorem fits_s4 (h2 : idx g_code_shapes x.Op = some 4) : code_fits (⟨x.At, x.Op, x.A, x.B⟩ : Ins) = some (decide (0 ≤ x.A ∧ x.A ≤ 255) && decide (0 ≤ x.B ∧ x.B ≤ 255)) := by
  unfold code_fits
  refine bind_e h2 ?_
  repeat (first | refine cond_te (by decide) ?_ | refine cond_fe (by decide) ?_)
  refine bind_e (within_eq _ _ _) ?_
  rw [within_eq]
  cases decide (0 ≤ x.A ∧ x.A ≤ 255) <;> rfl
theorem stepE_s4_unfit (h0 : code_IsOp x.Op = some true) (h2 : idx g_code_shapes x.Op = some 4) (hf : code_fits (⟨x.At, x.Op, x.A, x.B⟩ : Ins) = some false) : stepE K x o = some ([], 3) := by
  unfold stepE
  repeat (first | with_reducible refine app1 (by assumption) ?_ | with_reducible refine app2 (by assumption) ?_ | with_reducible refine app3 (by assumption) ?_ | (with_reducible refine join_g ?_; intro j hj) | with_reducible refine bind_e h0 ?_ | with_reducible refine bind_e hf ?_ | refine cond_te (by decide) ?_ | refine cond_fe (by decide) ?_)
  rfl
theorem stepE_s4_at (h0 : code_IsOp x.Op = some true) (h2 : idx g_code_shapes x.Op = some 4) (hf : code_fits (⟨x.At, x.Op, x.A, x.B⟩ : Ins) = some true) (ha : (!decide (x.At = (o.length : Int))) = true) : stepE K x o = some ([], 4) := by
  unfold stepE
  repeat (first | with_reducible refine app1 (by assumption) ?_ | with_reducible refine app2 (by assumption) ?_ | with_reducible refine app3 (by assumption) ?_ | (with_reducible refine join_g ?_; intro j hj) | with_reducible refine cond_te ha ?_ | with_reducible refine bind_e h0 ?_ | with_reducible refine bind_e hf ?_ | refine cond_te (by decide) ?_ | refine cond_fe (by decide) ?_)
  rfl
theorem stepE_s4 (h0 : code_IsOp x.Op = some true) (h2 : idx g_code_shapes x.Op = some 4) (hf : code_fits (⟨x.At, x.Op, x.A, x.B⟩ : Ins) = some true) (ha : (!decide (x.At = (o.length : Int))) = false) (hl : o.length ≤ 140737488355320) : stepE K x o = K (o ++ [b8 x.Op] ++ [b8 x.A, b8 x.B]) := by
  have e1 : app 1 o [b8 x.Op] = some (o ++ [b8 x.Op]) := app_ok (by simp only [List.length_cons, List.length_nil]; omega)
  have e2 : app 1 (o ++ [b8 x.Op]) [b8 x.A, b8 x.B] = some (o ++ [b8 x.Op] ++ [b8 x.A, b8 x.B]) := app_ok (by simp only [List.length_append, List.length_cons, List.length_nil]; omega)
  unfold stepE
  repeat (first | with_reducible refine app1 (by assumption) ?_ | with_reducible refine app2 (by assumption) ?_ | with_reducible refine app3 (by assumption) ?_ | (with_reducible refine join_g ?_; intro j hj) | with_reducible refine cond_fe ha ?_ | with_reducible refine bind_e h0 ?_ | with_reducible refine bind_e hf ?_ | with_reducible refine bind_e h2 ?_ | with_reducible refine bind_e e1 ?_ | with_reducible refine bind_e e2 ?_ | refine cond_te (by decide) ?_ | refine cond_fe (by decide) ?_)
  rfl
theorem stepC_s4_A (h1 : R_Behind x.Op = some 2) (h5 : R_ByItself x.Op = some true) (h6 : R_GoesTo x.Op = some false) (h4 : decide (x.Op = 1) = false) (hA : R_between x.A 0 255 = some false) : stepC K x o = some ([], 3) := by
  unfold stepC
  repeat (first | with_reducible refine app1 (by assumption) ?_ | with_reducible refine app2 (by assumption) ?_ | with_reducible refine app3 (by assumption) ?_ | (with_reducible refine join_g ?_; intro j hj) | with_reducible refine bind_e h1 ?_ | with_reducible refine bind_e h5 ?_ | with_reducible refine bind_e h6 ?_ | with_reducible refine cond_fe h4 ?_ | with_reducible refine bind_e hA ?_ | refine cond_te (by decide) ?_ | refine cond_fe (by decide) ?_)
  rfl
theorem stepC_s4_B (h1 : R_Behind x.Op = some 2) (h5 : R_ByItself x.Op = some true) (h6 : R_GoesTo x.Op = some false) (h4 : decide (x.Op = 1) = false) (hA : R_between x.A 0 255 = some true) (hB : R_between x.B 0 255 = some false) : stepC K x o = some ([], 3) := by
  unfold stepC
  repeat (first | with_reducible refine app1 (by assumption) ?_ | with_reducible refine app2 (by assumption) ?_ | with_reducible refine app3 (by assumption) ?_ | (with_reducible refine join_g ?_; intro j hj) | with_reducible refine bind_e h1 ?_ | with_reducible refine bind_e h5 ?_ | with_reducible refine bind_e h6 ?_ | with_reducible refine cond_fe h4 ?_ | with_reducible refine bind_e hA ?_ | with_reducible refine bind_e hB ?_ | refine cond_te (by decide) ?_ | refine cond_fe (by decide) ?_)
  rfl
theorem stepC_s4_at (h1 : R_Behind x.Op = some 2) (h5 : R_ByItself x.Op = some true) (h6 : R_GoesTo x.Op = some false) (h4 : decide (x.Op = 1) = false) (hA : R_between x.A 0 255 = some true) (hB : R_between x.B 0 255 = some true) (ha : (!decide (x.At = (o.length : Int))) = true) : stepC K x o = some ([], 4) := by
  unfold stepC
  repeat (first | with_reducible refine app1 (by assumption) ?_ | with_reducible refine app2 (by assumption) ?_ | with_reducible refine app3 (by assumption) ?_ | (with_reducible refine join_g ?_; intro j hj) | with_reducible refine cond_te ha ?_ | with_reducible refine bind_e h1 ?_ | with_reducible refine bind_e h5 ?_ | with_reducible refine bind_e h6 ?_ | with_reducible refine cond_fe h4 ?_ | with_reducible refine bind_e hA ?_ | with_reducible refine bind_e hB ?_ | refine cond_te (by decide) ?_ | refine cond_fe (by decide) ?_)
  rfl
theorem stepC_s4_pos (h1 : R_Behind x.Op = some 2) (h5 : R_ByItself x.Op = some true) (h6 : R_GoesTo x.Op = some false) (h4 : decide (x.Op = 1) = false) (hA : R_between x.A 0 255 = some true) (hB : R_between x.B 0 255 = some true) (ha : (!decide (x.At = (o.length : Int))) = false) (hl : o.length ≤ 140737488355320) (hs : decide (x.A < 0) = false) : stepC K x o = K (o ++ [b8 x.Op] ++ [b8 x.A, b8 x.B]) := by
  have q0 : R_Count x.Op = some [b8 x.Op] := rfl
  have e1 : cat o [b8 x.Op] = some (o ++ [b8 x.Op]) := cat_ok (by simp only [List.length_cons, List.length_nil]; omega)
  have e2 : cat (o ++ [b8 x.Op]) [b8 x.A, b8 x.B] = some (o ++ [b8 x.Op] ++ [b8 x.A, b8 x.B]) := cat_ok (by simp only [List.length_append, List.length_cons, List.length_nil]; omega)
  have q1 : R_Count x.A = some [b8 x.A] := rfl
  have q2 : R_Count x.B = some [b8 x.B] := rfl
  have q3 : cat [b8 x.A] [b8 x.B] = some [b8 x.A, b8 x.B] := cat_ok (by simp)
  unfold stepC
  repeat (first | with_reducible refine app1 (by assumption) ?_ | with_reducible refine app2 (by assumption) ?_ | with_reducible refine app3 (by assumption) ?_ | (with_reducible refine join_g ?_; intro j hj) | with_reducible refine cond_fe ha ?_ | with_reducible refine cond_fe hs ?_ | with_reducible refine bind_e h1 ?_ | with_reducible refine bind_e h5 ?_ | with_reducible refine bind_e h6 ?_ | with_reducible refine cond_fe h4 ?_ | with_reducible refine bind_e hA ?_ | with_reducible refine bind_e hB ?_ | with_reducible refine bind_e e1 ?_ | with_reducible refine bind_e q0 ?_ | with_reducible refine bind_e e2 ?_ | with_reducible refine bind_e q1 ?_ | with_reducible refine bind_e q2 ?_ | with_reducible refine bind_e q3 ?_ | refine cond_te (by decide) ?_ | refine cond_fe (by decide) ?_)
  rfl
end
end Cin
namespace Cin
def rowC (c : Nat) : Bool :=
  code_IsOp c == some true &&
    (match idx g_code_shapes c, R_Behind c, R_ByItself c, R_GoesTo c with
    | some x, some r, some y, some z => (x == 0 && r == 0 && c != 1 && !y && !z) || (x == 1 && r == 2 && c == 1 && !y && !z) || (x == 2 && r == 2 && c != 1 && !y && z) || (x == 3 && r == 1 && c != 1 && !y && !z) || (x == 4 && r == 2 && c != 1 && y && !z)
    | _, _, _, _ => false)
theorem rowC_all : ((List.range 37).all rowC) = true := by kernel_rfl
inductive RowI (c : Int) : Prop
  | bad (h0 : code_IsOp c = some false) (h1 : R_Behind c = some (-1))
  | s0 (h0 : code_IsOp c = some true) (h2 : idx g_code_shapes c = some 0) (h1 : R_Behind c = some 0) (h5 : R_ByItself c = some false) (h6 : R_GoesTo c = some false) (h4 : decide (c = 1) = false)
  | s1 (h0 : code_IsOp c = some true) (h2 : idx g_code_shapes c = some 1) (h1 : R_Behind c = some 2) (h5 : R_ByItself c = some false) (h6 : R_GoesTo c = some false) (h4 : decide (c = 1) = true)
  | s2 (h0 : code_IsOp c = some true) (h2 : idx g_code_shapes c = some 2) (h1 : R_Behind c = some 2) (h5 : R_ByItself c = some false) (h6 : R_GoesTo c = some true) (h4 : decide (c = 1) = false)
  | s3 (h0 : code_IsOp c = some true) (h2 : idx g_code_shapes c = some 3) (h1 : R_Behind c = some 1) (h5 : R_ByItself c = some false) (h6 : R_GoesTo c = some false) (h4 : decide (c = 1) = false)
  | s4 (h0 : code_IsOp c = some true) (h2 : idx g_code_shapes c = some 4) (h1 : R_Behind c = some 2) (h5 : R_ByItself c = some true) (h6 : R_GoesTo c = some false) (h4 : decide (c = 1) = false)
theorem isop_out {op : Int} (h : ¬ (0 ≤ op ∧ op < 37)) : code_IsOp op = some false := by
  unfold code_IsOp
  by_cases h0 : 0 ≤ op
  · rw [decide_eq_true h0, decide_eq_false (show ¬ op < 37 by omega)]; rfl
  · rw [decide_eq_false h0]; rfl
theorem behind_out {op : Int} (h : op < 0 ∨ 36 < op) : R_Behind op = some (-1) := by
  have d1 : decide (op = 1) = false := decide_eq_false (by omega)
  have d3 : decide (op = 3) = false := decide_eq_false (by omega)
  have d4 : decide (op = 4) = false := decide_eq_false (by omega)
  have d13 : decide (op = 13) = false := decide_eq_false (by omega)
  have d14 : decide (op = 14) = false := decide_eq_false (by omega)
  have d15 : decide (op = 15) = false := decide_eq_false (by omega)
  have d16 : decide (op = 16) = false := decide_eq_false (by omega)
  have d17 : decide (op = 17) = false := decide_eq_false (by omega)
  have d18 : decide (op = 18) = false := decide_eq_false (by omega)
  have d19 : decide (op = 19) = false := decide_eq_false (by omega)
  have d20 : decide (op = 20) = false := decide_eq_false (by omega)
  have d22 : decide (op = 22) = false := decide_eq_false (by omega)
  have d26 : decide (op = 26) = false := decide_eq_false (by omega)
  have d29 : decide (op = 29) = false := decide_eq_false (by omega)
  have d30 : decide (op = 30) = false := decide_eq_false (by omega)
  have d34 : decide (op = 34) = false := decide_eq_false (by omega)
  unfold R_Behind
  by_cases hs : op < 0
  · have ds : decide (op < 0) = true := decide_eq_true hs
    repeat (first | with_reducible refine app1 (by assumption) ?_ | with_reducible refine app2 (by assumption) ?_ | with_reducible refine app3 (by assumption) ?_ | (with_reducible refine join_g ?_; intro j hj) | with_reducible refine cond_fe d1 ?_ | with_reducible refine cond_fe d3 ?_ | with_reducible refine cond_fe d4 ?_ | with_reducible refine cond_fe d13 ?_ | with_reducible refine cond_fe d14 ?_ | with_reducible refine cond_fe d15 ?_ | with_reducible refine cond_fe d16 ?_ | with_reducible refine cond_fe d17 ?_ | with_reducible refine cond_fe d18 ?_ | with_reducible refine cond_fe d19 ?_ | with_reducible refine cond_fe d20 ?_ | with_reducible refine cond_fe d22 ?_ | with_reducible refine cond_fe d26 ?_ | with_reducible refine cond_fe d29 ?_ | with_reducible refine cond_fe d30 ?_ | with_reducible refine cond_fe d34 ?_ | with_reducible refine cond_te ds ?_ | refine cond_te (by decide) ?_ | refine cond_fe (by decide) ?_)
    rfl
  · have ds : decide (op < 0) = false := decide_eq_false hs
    have dg : decide (36 < op) = true := decide_eq_true (by omega)
    repeat (first | with_reducible refine app1 (by assumption) ?_ | with_reducible refine app2 (by assumption) ?_ | with_reducible refine app3 (by assumption) ?_ | (with_reducible refine join_g ?_; intro j hj) | with_reducible refine cond_fe d1 ?_ | with_reducible refine cond_fe d3 ?_ | with_reducible refine cond_fe d4 ?_ | with_reducible refine cond_fe d13 ?_ | with_reducible refine cond_fe d14 ?_ | with_reducible refine cond_fe d15 ?_ | with_reducible refine cond_fe d16 ?_ | with_reducible refine cond_fe d17 ?_ | with_reducible refine cond_fe d18 ?_ | with_reducible refine cond_fe d19 ?_ | with_reducible refine cond_fe d20 ?_ | with_reducible refine cond_fe d22 ?_ | with_reducible refine cond_fe d26 ?_ | with_reducible refine cond_fe d29 ?_ | with_reducible refine cond_fe d30 ?_ | with_reducible refine cond_fe d34 ?_ | with_reducible refine cond_fe ds ?_ | with_reducible refine cond_te dg ?_ | refine cond_te (by decide) ?_ | refine cond_fe (by decide) ?_)
    rfl
theorem rowI (op : Int) : RowI op := by
  by_cases h : 0 ≤ op ∧ op < 37
  · have hb : rowC op.toNat = true := List.all_eq_true.1 rowC_all op.toNat (List.mem_range.2 (by omega))
    have e : ((op.toNat : Nat) : Int) = op := by omega
    unfold rowC at hb
    rw [e] at hb
    simp only [Bool.and_eq_true, beq_iff_eq] at hb
    obtain ⟨h0, hb⟩ := hb
    split at hb
    · rename_i x r y z h2 h1 h5 h6
      simp only [Bool.and_eq_true, Bool.or_eq_true, beq_iff_eq, bne_iff_ne, ne_eq, Bool.not_eq_true'] at hb
      rcases hb with (((⟨⟨⟨⟨rfl, rfl⟩, h4⟩, rfl⟩, rfl⟩ | ⟨⟨⟨⟨rfl, rfl⟩, h4⟩, rfl⟩, rfl⟩) | ⟨⟨⟨⟨rfl, rfl⟩, h4⟩, rfl⟩, rfl⟩) | ⟨⟨⟨⟨rfl, rfl⟩, h4⟩, rfl⟩, rfl⟩) | ⟨⟨⟨⟨rfl, rfl⟩, h4⟩, rfl⟩, rfl⟩
      · exact .s0 h0 h2 h1 h5 h6 (decide_eq_false (by omega))
      · exact .s1 h0 h2 h1 h5 h6 (decide_eq_true (by omega))
      · exact .s2 h0 h2 h1 h5 h6 (decide_eq_false (by omega))
      · exact .s3 h0 h2 h1 h5 h6 (decide_eq_false (by omega))
      · exact .s4 h0 h2 h1 h5 h6 (decide_eq_false (by omega))
    · cases hb
  · exact .bad (isop_out h) (behind_out (by omega))

section
variable {x : Ins} {o : List UInt8}
/-- One step of both encoders: the same refusal, or the same bytes. -/
theorem step_enc (x : Ins) (o : List UInt8) (hl : o.length ≤ 140737488355320) :
    (∃ e : Int, ∀ K, stepE K x o = some ([], e) ∧ stepC K x o = some ([], e)) ∨ ∃ bs : List UInt8, bs.length ≤ 3 ∧ ∀ K, stepE K x o = K (o ++ bs) ∧ stepC K x o = K (o ++ bs) := by
  rcases rowI x.Op with ⟨h0, h1⟩ | ⟨h0, h2, h1, h5, h6, h4⟩ | ⟨h0, h2, h1, h5, h6, h4⟩ | ⟨h0, h2, h1, h5, h6, h4⟩ | ⟨h0, h2, h1, h5, h6, h4⟩ | ⟨h0, h2, h1, h5, h6, h4⟩
  · refine .inl ⟨7, fun K => ⟨?_, ?_⟩⟩
    · unfold stepE; exact bind_e h0 (cond_te (by decide) rfl)
    · unfold stepC; exact bind_e h1 (cond_te (by decide) rfl)
  · have hf := fits_s0 (x := x) h2
    have hA := between_eq x.A 0 0
    have hB := between_eq x.B 0 0
    by_cases pA : 0 ≤ x.A ∧ x.A ≤ 0
    · rw [decide_eq_true pA] at hf hA
      by_cases pB : 0 ≤ x.B ∧ x.B ≤ 0
      · rw [decide_eq_true pB] at hf hB
        by_cases pa : x.At = (o.length : Int)
        · have ha : (!decide (x.At = (o.length : Int))) = false := by rw [decide_eq_true pa]; rfl
          exact .inr ⟨[b8 x.Op], by simp, fun K => ⟨stepE_s0 h0 h2 hf ha hl, stepC_s0_pos h1 h5 h6 h4 hA hB ha hl (decide_eq_false (by omega))⟩⟩
        · have ha : (!decide (x.At = (o.length : Int))) = true := by rw [decide_eq_false pa]; rfl
          exact .inl ⟨4, fun K => ⟨stepE_s0_at h0 h2 hf ha, stepC_s0_at h1 h5 h6 h4 hA hB ha⟩⟩
      · rw [decide_eq_false pB] at hf hB
        exact .inl ⟨3, fun K => ⟨stepE_s0_unfit h0 h2 hf, stepC_s0_B h1 h5 h6 h4 hA hB⟩⟩
    · rw [decide_eq_false pA] at hf hA
      exact .inl ⟨3, fun K => ⟨stepE_s0_unfit h0 h2 hf, stepC_s0_A h1 h5 h6 h4 hA⟩⟩
  · have hf := fits_s1 (x := x) h2
    have hA := between_eq x.A (-32768) 32767
    have hB := between_eq x.B 0 0
    by_cases pA : (-32768) ≤ x.A ∧ x.A ≤ 32767
    · rw [decide_eq_true pA] at hf hA
      by_cases pB : 0 ≤ x.B ∧ x.B ≤ 0
      · rw [decide_eq_true pB] at hf hB
        by_cases pa : x.At = (o.length : Int)
        · have ha : (!decide (x.At = (o.length : Int))) = false := by rw [decide_eq_true pa]; rfl
          refine .inr ⟨[b8 x.Op] ++ [b8 (shrI x.A 8), b8 x.A], by simp, fun K => ⟨by rw [stepE_s1 h0 h2 hf ha hl, List.append_assoc], ?_⟩⟩
          by_cases hs : x.A < 0
          · have hw : w64 (x.A + 65536) = x.A + 65536 := w64_lo (by omega) (by omega)
            have b1 : b8 (w64 ((w64 (x.A + 65536)).tdiv 256)) = b8 (shrI x.A 8) := b8_eq (by rw [hw, Int.tdiv_eq_ediv_of_nonneg (by omega)]; unfold shrI w64; omega)
            have b2 : b8 ((w64 (x.A + 65536)).tmod 256) = b8 x.A := b8_eq (by rw [hw, Int.tmod_eq_emod_of_nonneg (by omega)]; omega)
            rw [stepC_s1_neg h1 h5 h6 h4 hA hB ha hl (decide_eq_true hs), List.append_assoc, b1, b2]
          · have b1 : b8 (w64 (x.A.tdiv 256)) = b8 (shrI x.A 8) := b8_eq (by rw [Int.tdiv_eq_ediv_of_nonneg (by omega)]; unfold shrI w64; omega)
            have b2 : b8 (x.A.tmod 256) = b8 x.A := b8_eq (by rw [Int.tmod_eq_emod_of_nonneg (by omega)]; omega)
            rw [stepC_s1_pos h1 h5 h6 h4 hA hB ha hl (decide_eq_false hs), List.append_assoc, b1, b2]
        · have ha : (!decide (x.At = (o.length : Int))) = true := by rw [decide_eq_false pa]; rfl
          exact .inl ⟨4, fun K => ⟨stepE_s1_at h0 h2 hf ha, stepC_s1_at h1 h5 h6 h4 hA hB ha⟩⟩
      · rw [decide_eq_false pB] at hf hB
        exact .inl ⟨3, fun K => ⟨stepE_s1_unfit h0 h2 hf, stepC_s1_B h1 h5 h6 h4 hA hB⟩⟩
    · rw [decide_eq_false pA] at hf hA
      exact .inl ⟨3, fun K => ⟨stepE_s1_unfit h0 h2 hf, stepC_s1_A h1 h5 h6 h4 hA⟩⟩
  · have hf := fits_s2 (x := x) h2
    have hA := between_eq x.A 0 65535
    have hB := between_eq x.B 0 0
    by_cases pA : 0 ≤ x.A ∧ x.A ≤ 65535
    · rw [decide_eq_true pA] at hf hA
      by_cases pB : 0 ≤ x.B ∧ x.B ≤ 0
      · rw [decide_eq_true pB] at hf hB
        by_cases pa : x.At = (o.length : Int)
        · have ha : (!decide (x.At = (o.length : Int))) = false := by rw [decide_eq_true pa]; rfl
          have b1 : b8 (w64 (x.A.tdiv 256)) = b8 (shrI x.A 8) := b8_eq (by unfold shrI w64; rw [Int.tdiv_eq_ediv_of_nonneg pA.1]; omega)
          have b2 : b8 (x.A.tmod 256) = b8 x.A := b8_eq (by rw [Int.tmod_eq_emod_of_nonneg pA.1]; omega)
          exact .inr ⟨[b8 x.Op] ++ [b8 (shrI x.A 8), b8 x.A], by simp, fun K => ⟨by rw [stepE_s2 h0 h2 hf ha hl, List.append_assoc], by rw [stepC_s2_pos h1 h5 h6 h4 hA hB ha hl (decide_eq_false (by omega)), List.append_assoc, b1, b2]⟩⟩
        · have ha : (!decide (x.At = (o.length : Int))) = true := by rw [decide_eq_false pa]; rfl
          exact .inl ⟨4, fun K => ⟨stepE_s2_at h0 h2 hf ha, stepC_s2_at h1 h5 h6 h4 hA hB ha⟩⟩
      · rw [decide_eq_false pB] at hf hB
        exact .inl ⟨3, fun K => ⟨stepE_s2_unfit h0 h2 hf, stepC_s2_B h1 h5 h6 h4 hA hB⟩⟩
    · rw [decide_eq_false pA] at hf hA
      exact .inl ⟨3, fun K => ⟨stepE_s2_unfit h0 h2 hf, stepC_s2_A h1 h5 h6 h4 hA⟩⟩
  · have hf := fits_s3 (x := x) h2
    have hA := between_eq x.A 0 255
    have hB := between_eq x.B 0 0
    by_cases pA : 0 ≤ x.A ∧ x.A ≤ 255
    · rw [decide_eq_true pA] at hf hA
      by_cases pB : 0 ≤ x.B ∧ x.B ≤ 0
      · rw [decide_eq_true pB] at hf hB
        by_cases pa : x.At = (o.length : Int)
        · have ha : (!decide (x.At = (o.length : Int))) = false := by rw [decide_eq_true pa]; rfl
          exact .inr ⟨[b8 x.Op] ++ [b8 x.A], by simp, fun K => ⟨by rw [stepE_s3 h0 h2 hf ha hl, List.append_assoc], by rw [stepC_s3_pos h1 h5 h6 h4 hA hB ha hl (decide_eq_false (by omega)), List.append_assoc]⟩⟩
        · have ha : (!decide (x.At = (o.length : Int))) = true := by rw [decide_eq_false pa]; rfl
          exact .inl ⟨4, fun K => ⟨stepE_s3_at h0 h2 hf ha, stepC_s3_at h1 h5 h6 h4 hA hB ha⟩⟩
      · rw [decide_eq_false pB] at hf hB
        exact .inl ⟨3, fun K => ⟨stepE_s3_unfit h0 h2 hf, stepC_s3_B h1 h5 h6 h4 hA hB⟩⟩
    · rw [decide_eq_false pA] at hf hA
      exact .inl ⟨3, fun K => ⟨stepE_s3_unfit h0 h2 hf, stepC_s3_A h1 h5 h6 h4 hA⟩⟩
  · have hf := fits_s4 (x := x) h2
    have hA := between_eq x.A 0 255
    have hB := between_eq x.B 0 255
    by_cases pA : 0 ≤ x.A ∧ x.A ≤ 255
    · rw [decide_eq_true pA] at hf hA
      by_cases pB : 0 ≤ x.B ∧ x.B ≤ 255
      · rw [decide_eq_true pB] at hf hB
        by_cases pa : x.At = (o.length : Int)
        · have ha : (!decide (x.At = (o.length : Int))) = false := by rw [decide_eq_true pa]; rfl
          exact .inr ⟨[b8 x.Op] ++ [b8 x.A, b8 x.B], by simp, fun K => ⟨by rw [stepE_s4 h0 h2 hf ha hl, List.append_assoc], by rw [stepC_s4_pos h1 h5 h6 h4 hA hB ha hl (decide_eq_false (by omega)), List.append_assoc]⟩⟩
        · have ha : (!decide (x.At = (o.length : Int))) = true := by rw [decide_eq_false pa]; rfl
          exact .inl ⟨4, fun K => ⟨stepE_s4_at h0 h2 hf ha, stepC_s4_at h1 h5 h6 h4 hA hB ha⟩⟩
      · rw [decide_eq_false pB] at hf hB
        exact .inl ⟨3, fun K => ⟨stepE_s4_unfit h0 h2 hf, stepC_s4_B h1 h5 h6 h4 hA hB⟩⟩
    · rw [decide_eq_false pA] at hf hA
      exact .inl ⟨3, fun K => ⟨stepE_s4_unfit h0 h2 hf, stepC_s4_A h1 h5 h6 h4 hA⟩⟩
end
theorem enc_loop (l : List Ins) (hl : l.length ≤ 40000000000000) (j j' : List UInt8 → Option (List UInt8 × Int)) (hj : ∀ o, ∃ r, j o = some r ∧ j' o = some r ∧ (r.2 ≠ 0 → r.1 = [])) : ∀ (k : Nat) (o : List UInt8) (n : Int), 0 ≤ n → n ≤ l.length → (o.length : Int) ≤ 3 * n → (l.length : Int) < n + k →
    ∃ r, code_Encode_L1 l j k o n = some r ∧ R_CodeOf_L1 l j' k o n = some r ∧ (r.2 ≠ 0 → r.1 = []) := by
  intro k
  induction k with
  | zero => intro o n g0 g1 _ h; exact absurd h (by omega)
  | succ k ih =>
    intro o n g0 g1 go h
    rw [encL_step, codL_step]
    by_cases hn : n < l.length
    · rw [decide_eq_true hn, cond_true, cond_true]
      obtain ⟨x, hx, _⟩ := idx_at g0 hn
      rw [hx]
      simp only [Option.bind_some]
      rcases step_enc x o (by omega) with ⟨e, he⟩ | ⟨bs, hb, he⟩
      · exact ⟨_, (he _).1, (he _).2, fun _ => rfl⟩
      · rw [(he _).1, (he _).2, w64_id ⟨by omega, by omega⟩]
        exact ih (o ++ bs) (n + 1) (by omega) (by omega) (by simp only [List.length_append]; omega) (by omega)
    · rw [decide_eq_false hn, cond_false, cond_false]
      exact hj o

theorem plain_CodeEncodes (l : List Ins) (_ : ∀ d ∈ l, InsWf d) (hb : l.length * 32 ≤ 140737488351232) : ∃ F, L_CodeEncodes F l = some true := by
  have hl : l.length ≤ 40000000000000 := by omega
  refine ⟨l.length + 1 + 20, ?_⟩
  have h : ∃ r, code_Encode (l.length + 1 + 20) l = some r ∧ R_CodeOf (l.length + 1 + 20) l = some r ∧ (r.2 ≠ 0 → r.1 = []) := by
    unfold code_Encode R_CodeOf
    simp only [join]
    exact enc_loop l hl _ _ (fun o => by
      cases decide (200 < (o.length : Int))
      · exact ⟨_, rfl, rfl, fun h => absurd rfl h⟩
      · exact ⟨_, rfl, rfl, fun _ => rfl⟩) _ [] 0 (by omega) (by omega) (by simp) (by omega)
  obtain ⟨r, h1, h2, h3⟩ := h
  unfold L_CodeEncodes
  rw [h1, h2]
  simp only [Option.bind_some]
  rw [begun]
  simp only [Option.bind_some, cond_true]
  have ht : L_textIs r.1 r.2 r.2 r.1 = some true := by
    unfold L_textIs
    simp only [join]
    by_cases h0 : r.2 = 0
    · simp [h0]
    · simp [h0, h3 h0]
  rw [ht]
  rfl
end Cin
