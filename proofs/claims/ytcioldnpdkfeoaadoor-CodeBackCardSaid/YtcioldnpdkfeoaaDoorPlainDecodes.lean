/- Plain law: CodeDecodes answers true: Decode and the second reading agree, whatever text comes in. No program in sight. -/
import Derived.Test.YtcioldnpdkfeoaaDoorPlainPlaces
namespace Cin
/-- What the two tables say of a number. -/
def rowB (c : Nat) : Bool :=
  match code_IsOp c, R_Behind c with
  | some false, some r => r == -1 && decide (37 ≤ c)
  | some true, some r => decide (c < 37) &&
    (match idx g_code_shapes c, R_ByItself c with
    | some x, some y => code_shape_size x == some (1 + r) && ((x == 0 && r == 0 && c != 1) || (x == 1 && r == 2 && c == 1 && !y) || (x == 2 && r == 2 && c != 1 && !y) || (x == 3 && r == 1 && c != 1) || (x == 4 && r == 2 && c != 1 && y))
    | _, _ => false)
  | _, _ => false
theorem rowB_all : ((List.range 256).all rowB) = true := by kernel_rfl
inductive Row (c : Nat) : Prop
  | bad (h0 : code_IsOp c = some false) (h1 : R_Behind c = some (-1))
  | s0 (h0 : code_IsOp c = some true) (h1 : R_Behind c = some 0) (h2 : idx g_code_shapes c = some 0) (h3 : code_shape_size 0 = some 1) (h4 : (c : Int) ≠ 1)
  | s1 (h0 : code_IsOp c = some true) (h1 : R_Behind c = some 2) (h2 : idx g_code_shapes c = some 1) (h3 : code_shape_size 1 = some 3) (h4 : (c : Int) = 1) (h5 : R_ByItself c = some false)
  | s2 (h0 : code_IsOp c = some true) (h1 : R_Behind c = some 2) (h2 : idx g_code_shapes c = some 2) (h3 : code_shape_size 2 = some 3) (h4 : (c : Int) ≠ 1) (h5 : R_ByItself c = some false)
  | s3 (h0 : code_IsOp c = some true) (h1 : R_Behind c = some 1) (h2 : idx g_code_shapes c = some 3) (h3 : code_shape_size 3 = some 2) (h4 : (c : Int) ≠ 1)
  | s4 (h0 : code_IsOp c = some true) (h1 : R_Behind c = some 2) (h2 : idx g_code_shapes c = some 4) (h3 : code_shape_size 4 = some 3) (h4 : (c : Int) ≠ 1) (h5 : R_ByItself c = some true)
theorem row (c : Nat) (h : c < 256) : Row c := by
  have hb : rowB c = true := List.all_eq_true.1 rowB_all c (List.mem_range.2 h)
  unfold rowB at hb
  split at hb
  · rename_i r h0 h1
    simp only [Bool.and_eq_true, beq_iff_eq] at hb
    rw [hb.1] at h1
    exact .bad h0 h1
  · rename_i r h0 h1
    simp only [Bool.and_eq_true] at hb
    obtain ⟨_, hb⟩ := hb
    split at hb
    · rename_i x y h2 h5
      simp only [Bool.and_eq_true, Bool.or_eq_true, beq_iff_eq, bne_iff_ne, ne_eq, Bool.not_eq_true'] at hb
      obtain ⟨h3, hb⟩ := hb
      rcases hb with (((⟨⟨rfl, rfl⟩, h4⟩ | ⟨⟨⟨rfl, rfl⟩, h4⟩, rfl⟩) | ⟨⟨⟨rfl, rfl⟩, h4⟩, rfl⟩) | ⟨⟨rfl, rfl⟩, h4⟩) | ⟨⟨⟨rfl, rfl⟩, h4⟩, rfl⟩
      · exact .s0 h0 h1 h2 h3 (by omega)
      · exact .s1 h0 h1 h2 h3 (by omega) h5
      · exact .s2 h0 h1 h2 h3 (by omega) h5
      · exact .s3 h0 h1 h2 h3 (by omega)
      · exact .s4 h0 h1 h2 h3 (by omega) h5
    · cases hb
  · cases hb

theorem goes_same (op : Int) : code_Goes op = R_GoesTo op := by
  have hall : ((List.range 37).all fun c => code_Goes c == R_GoesTo c) = true := by kernel_rfl
  by_cases h : 0 ≤ op ∧ op < 37
  · have := List.all_eq_true.1 hall op.toNat (List.mem_range.2 (by omega))
    rw [beq_iff_eq, show ((op.toNat : Nat) : Int) = op by omega] at this
    exact this
  · have h1 : code_IsOp op = some false := by
      unfold code_IsOp
      by_cases h0 : 0 ≤ op
      · rw [decide_eq_true h0, decide_eq_false (show ¬ op < 37 by omega)]; rfl
      · rw [decide_eq_false h0]; rfl
    unfold code_Goes R_GoesTo
    rw [h1]
    by_cases h0 : 13 ≤ op
    · rw [decide_eq_true h0, decide_eq_false (show ¬ op ≤ 17 by omega)]; rfl
    · rw [decide_eq_false h0]; rfl

theorem idx_at {α : Type} {l : List α} {n : Int} (h0 : 0 ≤ n) (h : n < l.length) : ∃ x, idx l n = some x ∧ x ∈ l :=
  ⟨l[n.toNat]'(by omega), by unfold idx; rw [if_pos h0]; exact List.getElem?_eq_getElem _, by simp⟩

theorem b16 (a b : UInt8) : orI (shlI (a.toNat : Int) 8) (b.toNat : Int) = w64 (w64 (256 * (a.toNat : Int)) + (b.toNat : Int)) := by
  have ha := a.toNat_lt
  have hb := b.toNat_lt
  have h1 : shlI (a.toNat : Int) 8 = ((a.toNat * 256 : Nat) : Int) := by unfold shlI w64; omega
  have h2 : w64 (w64 (256 * (a.toNat : Int)) + (b.toNat : Int)) = ((a.toNat * 256 + b.toNat : Nat) : Int) := by unfold w64; omega
  rw [h1, h2]
  unfold orI
  have h3 : (BitVec.ofInt 64 ((a.toNat * 256 : Nat) : Int) ||| BitVec.ofInt 64 (b.toNat : Int)).toNat = a.toNat * 256 + b.toNat := by
    rw [BitVec.toNat_or]
    simp only [BitVec.ofInt_natCast, BitVec.toNat_ofNat]
    rw [Nat.mod_eq_of_lt (by omega), Nat.mod_eq_of_lt (by omega)]
    have := Nat.shiftLeft_add_eq_or_of_lt (i := 8) (b := b.toNat) (by omega) a.toNat
    rw [Nat.shiftLeft_eq] at this
    exact this.symm
  rw [h3]
  unfold w64
  omega


end Cin
namespace Cin
def stepD (s_ : List UInt8) (K_ : List Ins → Int → Option (List Ins × Fault)) (l2536_ : List Ins) (n2538_ : Int) : Option (List Ins × Fault) :=
    join (fun (l3049_ : List Ins) (n3051_ : Int) =>
    K_ l3049_ n3051_) (fun j3052_ =>
    (idx s_ n2538_).bind fun b3053_ =>
    (code_IsOp (b3053_.toNat : Int)).bind fun r3055_ =>
    cond (!r3055_) (some ([], (⟨7, n2538_⟩ : Fault))) ((idx g_code_shapes (b3053_.toNat : Int)).bind fun x3058_ =>
    (code_shape_size x3058_).bind fun r3061_ =>
    cond (decide ((w64 ((s_.length : Int) - n2538_)) < r3061_)) (some ([], (⟨1, n2538_⟩ : Fault))) (join (fun (n3117_ : Int) (n3118_ : Int) (l3121_ : List Ins) =>
    join (fun (n3191_ : Int) (l3194_ : List Ins) =>
    (app 32 l3194_ [(⟨n2538_, (b3053_.toNat : Int), n3191_, n3118_⟩ : Ins)]).bind fun l3213_ =>
    j3052_ l3213_ (w64 (n2538_ + r3061_))) (fun j3196_ =>
    join (fun (l3203_ : List Ins) (b3205_ : Bool) =>
    cond (b3205_) (j3196_ (w64 (n3117_ - 65536)) l3203_) (j3196_ n3117_ l3203_)) (fun j3206_ =>
    (idx g_code_shapes (b3053_.toNat : Int)).bind fun x3207_ =>
    cond (decide (x3207_ = 1)) (j3206_ l3121_ (decide (32768 ≤ n3117_))) (j3206_ l3121_ false)))) (fun j3123_ =>
    (idx g_code_shapes (b3053_.toNat : Int)).bind fun x3124_ =>
    join (fun (n3148_ : Int) (n3149_ : Int) (l3152_ : List Ins) =>
    j3123_ n3148_ n3149_ l3152_) (fun j3154_ =>
    join (fun (l3158_ : List Ins) (b3160_ : Bool) =>
    cond (b3160_) ((idx s_ (w64 (n2538_ + 1))).bind fun b3164_ =>
    (idx s_ (w64 (n2538_ + 2))).bind fun b3166_ =>
    j3154_ (orI (shlI (b3164_.toNat : Int) 8) (b3166_.toNat : Int)) 0 l3158_) (cond (decide (x3124_ = 3)) ((idx s_ (w64 (n2538_ + 1))).bind fun b3169_ =>
    j3154_ (b3169_.toNat : Int) 0 l3158_) (cond (decide (x3124_ = 4)) ((idx s_ (w64 (n2538_ + 1))).bind fun b3172_ =>
    (idx s_ (w64 (n2538_ + 2))).bind fun b3174_ =>
    j3154_ (b3172_.toNat : Int) (b3174_.toNat : Int) l3158_) (j3154_ 0 0 l3158_)))) (fun j3161_ =>
    cond (decide (x3124_ = 1)) (j3161_ l2536_ (decide (x3124_ = 1))) (j3161_ l2536_ (decide (x3124_ = 2)))))))))

def stepR (s_ : List UInt8) (K_ : List Ins → Int → Option (List Ins × Fault)) (l1067_ : List Ins) (n1069_ : Int) : Option (List Ins × Fault) :=
    join (fun (l1289_ : List Ins) (n1291_ : Int) =>
    K_ l1289_ n1291_) (fun j1292_ =>
    (idx s_ n1069_).bind fun b1293_ =>
    (R_Behind (b1293_.toNat : Int)).bind fun r1296_ =>
    cond (decide (r1296_ < 0)) (some ([], (⟨7, n1069_⟩ : Fault))) (cond (decide ((s_.length : Int) < (w64 ((w64 (n1069_ + 1)) + r1296_)))) (some ([], (⟨1, n1069_⟩ : Fault))) (join (fun (n1303_ : Int) (l1306_ : List Ins) =>
    join (fun (n1318_ : Int) (n1319_ : Int) (l1322_ : List Ins) =>
    join (fun (n1340_ : Int) (l1343_ : List Ins) =>
    (app 32 l1343_ [(⟨n1069_, (b1293_.toNat : Int), n1340_, n1319_⟩ : Ins)]).bind fun l1356_ =>
    j1292_ l1356_ (w64 (n1069_ + (w64 (1 + r1296_))))) (fun j1345_ =>
    join (fun (l1349_ : List Ins) (b1351_ : Bool) =>
    cond (b1351_) (j1345_ (w64 (n1318_ - 65536)) l1349_) (j1345_ n1318_ l1349_)) (fun j1352_ =>
    cond (decide ((b1293_.toNat : Int) = 1)) (j1352_ l1322_ (decide (32767 < n1318_))) (j1352_ l1322_ false)))) (fun j1324_ =>
    cond (decide (r1296_ = 2)) ((idx s_ (w64 (n1069_ + 2))).bind fun b1326_ =>
    (R_ByItself (b1293_.toNat : Int)).bind fun r1328_ =>
    cond (!r1328_) (j1324_ (w64 ((w64 (256 * n1303_)) + (b1326_.toNat : Int))) 0 l1306_) (j1324_ n1303_ (b1326_.toNat : Int) l1306_)) (j1324_ n1303_ 0 l1306_))) (fun j1308_ =>
    cond (decide (1 ≤ r1296_)) ((idx s_ (w64 (n1069_ + 1))).bind fun b1310_ =>
    j1308_ (b1310_.toNat : Int) l1067_) (j1308_ 0 l1067_)))))



theorem decL_step (s : List UInt8) (j : List Ins → Option (List Ins × Fault)) (k : Nat) (l : List Ins) (n : Int) : code_Decode_L1 s j (k + 1) l n = cond (decide (n < (s.length : Int))) (stepD s (code_Decode_L1 s j k) l n) (j l) := rfl
theorem insL_step (s : List UInt8) (j : List Ins → Option (List Ins × Fault)) (k : Nat) (l : List Ins) (n : Int) : R_InsOf_L1 s j (k + 1) l n = cond (decide (n < (s.length : Int))) (stepR s (R_InsOf_L1 s j k) l n) (j l) := rfl
theorem w64_lo {n : Int} (h : -1000000 ≤ n) (h' : n ≤ 1000000) : w64 n = n := w64_id ⟨by omega, by omega⟩
theorem join_g {κ α : Type} {k : κ} {b : κ → Option α} {r : Option α} (h : ∀ j, j = k → b j = r) : join k b = r := h k rfl
theorem app1 {α ρ : Type} {j k : α → ρ} {a : α} {r : ρ} (hj : j = k) (h : k a = r) : j a = r := by subst hj; exact h
theorem app2 {α β ρ : Type} {j k : α → β → ρ} {a : α} {b : β} {r : ρ} (hj : j = k) (h : k a b = r) : j a b = r := by subst hj; exact h
theorem app3 {α β γ ρ : Type} {j k : α → β → γ → ρ} {a : α} {b : β} {c : γ} {r : ρ} (hj : j = k) (h : k a b c = r) : j a b c = r := by subst hj; exact h
theorem bind_ext {α β : Type} {o : Option α} {f g : α → Option β} (h : ∀ x, f x = g x) : o.bind f = o.bind g := by cases o with | none => rfl | some x => exact h x
theorem join_e {κ α : Type} {k : κ} {b : κ → Option α} {r : Option α} (h : b k = r) : join k b = r := h
theorem bind_e {α β : Type} {o : Option α} {x : α} {f : α → Option β} {r : Option β} (ho : o = some x) (h : f x = r) : o.bind f = r := by subst ho; exact h
theorem cond_te {α : Type} {c : Bool} {x y r : α} (hc : c = true) (h : x = r) : cond c x y = r := by subst hc; exact h
theorem cond_fe {α : Type} {c : Bool} {x y r : α} (hc : c = false) (h : y = r) : cond c x y = r := by subst hc; exact h
def a16 (a b : UInt8) : Int := cond (decide (32767 < w64 (w64 (256 * (a.toNat : Int)) + (b.toNat : Int)))) (w64 (w64 (w64 (256 * (a.toNat : Int)) + (b.toNat : Int)) - 65536)) (w64 (w64 (256 * (a.toNat : Int)) + (b.toNat : Int)))
theorem a16_lo {a1 a2 : UInt8} (hv : decide ((32767 : Int) < w64 (w64 (256 * (a1.toNat : Int)) + (a2.toNat : Int))) = false) : a16 a1 a2 = w64 (w64 (256 * (a1.toNat : Int)) + (a2.toNat : Int)) := by unfold a16; rw [hv, cond_false]
theorem a16_hi {a1 a2 : UInt8} (hv : decide ((32767 : Int) < w64 (w64 (256 * (a1.toNat : Int)) + (a2.toNat : Int))) = true) : a16 a1 a2 = w64 (w64 (w64 (256 * (a1.toNat : Int)) + (a2.toNat : Int)) - 65536) := by unfold a16; rw [hv, cond_true]
theorem ge_gt (x : Int) : decide (32768 ≤ x) = decide (32767 < x) := by rw [decide_eq_decide]; omega

section
variable {s : List UInt8} {K : List Ins → Int → Option (List Ins × Fault)} {l : List Ins} {n : Int} {b a1 a2 : UInt8}
theorem stepD_s0 (hb : idx s n = some b) (g0 : 0 ≤ n) (g1 : n < s.length) (g2 : s.length ≤ 200) (h0 : code_IsOp (b.toNat : Int) = some true) (h2 : idx g_code_shapes (b.toNat : Int) = some 0) (h3 : code_shape_size 0 = some 1) (h4 : (b.toNat : Int) ≠ 1)  (hl : n + 1 ≤ (s.length : Int)) : stepD s K l n = (app 32 l [⟨n, (b.toNat : Int), 0, 0⟩]).bind fun l2 => K l2 (n + 1) := by
  have hq : decide (w64 ((s.length : Int) - n) < 1) = false := by rw [w64_lo (n := (s.length : Int) - n) (by omega) (by omega)]; exact decide_eq_false (by omega)
  have ho : decide ((b.toNat : Int) = 1) = false := decide_eq_false h4
  have hn : w64 (n + 1) = n + 1 := w64_lo (by omega) (by omega)
  unfold stepD
  repeat (first | with_reducible refine app1 (by assumption) ?_ | with_reducible refine app2 (by assumption) ?_ | with_reducible refine app3 (by assumption) ?_ | (with_reducible refine join_g ?_; intro j hj) | with_reducible refine bind_e hb ?_ | with_reducible refine bind_e h0 ?_ | with_reducible refine bind_e h2 ?_ | with_reducible refine bind_e h3 ?_ | with_reducible refine cond_fe hq ?_ | with_reducible refine cond_fe ho ?_ | refine cond_te (by decide) ?_ | refine cond_fe (by decide) ?_)
  rw [hn]
  refine bind_ext fun l2 => ?_
  exact app2 (by assumption) rfl
theorem stepD_s1_short (hb : idx s n = some b) (g0 : 0 ≤ n) (g1 : n < s.length) (g2 : s.length ≤ 200) (h0 : code_IsOp (b.toNat : Int) = some true) (h2 : idx g_code_shapes (b.toNat : Int) = some 1) (h3 : code_shape_size 1 = some 3) (h4 : (b.toNat : Int) = 1) (hl : (s.length : Int) < n + 3) : stepD s K l n = some ([], ⟨1, n⟩) := by
  have hq : decide (w64 ((s.length : Int) - n) < 3) = true := by rw [w64_lo (n := (s.length : Int) - n) (by omega) (by omega)]; exact decide_eq_true (by omega)
  unfold stepD
  repeat (first | with_reducible refine app1 (by assumption) ?_ | with_reducible refine app2 (by assumption) ?_ | with_reducible refine app3 (by assumption) ?_ | (with_reducible refine join_g ?_; intro j hj) | with_reducible refine bind_e hb ?_ | with_reducible refine bind_e h0 ?_ | with_reducible refine bind_e h2 ?_ | with_reducible refine bind_e h3 ?_  | with_reducible refine cond_te hq ?_ | refine cond_fe (by decide) ?_)
  rfl
theorem stepD_s1 (hb : idx s n = some b) (g0 : 0 ≤ n) (g1 : n < s.length) (g2 : s.length ≤ 200) (h0 : code_IsOp (b.toNat : Int) = some true) (h2 : idx g_code_shapes (b.toNat : Int) = some 1) (h3 : code_shape_size 1 = some 3) (h4 : (b.toNat : Int) = 1) (x1 : idx s (n + 1) = some a1) (x2 : idx s (n + 2) = some a2) (hl : n + 3 ≤ (s.length : Int)) : stepD s K l n = (app 32 l [⟨n, (b.toNat : Int), a16 a1 a2, 0⟩]).bind fun l2 => K l2 (n + 3) := by
  have hq : decide (w64 ((s.length : Int) - n) < 3) = false := by rw [w64_lo (n := (s.length : Int) - n) (by omega) (by omega)]; exact decide_eq_false (by omega)
  have y1 : idx s (w64 (n + 1)) = some a1 := by rw [w64_lo (n := n + 1) (by omega) (by omega)]; exact x1
  have y2 : idx s (w64 (n + 2)) = some a2 := by rw [w64_lo (n := n + 2) (by omega) (by omega)]; exact x2
  have ho : decide ((b.toNat : Int) = 1) = true := decide_eq_true h4
  have hn : w64 (n + 3) = n + 3 := w64_lo (by omega) (by omega)
  unfold stepD
  have hd : decide (32768 ≤ orI (shlI (a1.toNat : Int) 8) (a2.toNat : Int)) = decide ((32767 : Int) < w64 (w64 (256 * (a1.toNat : Int)) + (a2.toNat : Int))) := by rw [b16]; exact ge_gt _
  cases hv : decide ((32767 : Int) < w64 (w64 (256 * (a1.toNat : Int)) + (a2.toNat : Int)))
  · rw [hv] at hd
    have ha := a16_lo hv
    repeat (first | with_reducible refine cond_fe hd ?_ | with_reducible refine app1 (by assumption) ?_ | with_reducible refine app2 (by assumption) ?_ | with_reducible refine app3 (by assumption) ?_ | (with_reducible refine join_g ?_; intro j hj) | with_reducible refine bind_e hb ?_ | with_reducible refine bind_e h0 ?_ | with_reducible refine bind_e h2 ?_ | with_reducible refine bind_e h3 ?_ | with_reducible refine bind_e y1 ?_ | with_reducible refine bind_e y2 ?_ | with_reducible refine cond_fe hq ?_ | with_reducible refine cond_te ho ?_ | refine cond_te (by decide) ?_ | refine cond_fe (by decide) ?_)
    rw [hn, b16, ha]
    refine bind_ext fun l2 => ?_
    exact app2 (by assumption) rfl
  · rw [hv] at hd
    have ha := a16_hi hv
    repeat (first | with_reducible refine cond_te hd ?_ | with_reducible refine app1 (by assumption) ?_ | with_reducible refine app2 (by assumption) ?_ | with_reducible refine app3 (by assumption) ?_ | (with_reducible refine join_g ?_; intro j hj) | with_reducible refine bind_e hb ?_ | with_reducible refine bind_e h0 ?_ | with_reducible refine bind_e h2 ?_ | with_reducible refine bind_e h3 ?_ | with_reducible refine bind_e y1 ?_ | with_reducible refine bind_e y2 ?_ | with_reducible refine cond_fe hq ?_ | with_reducible refine cond_te ho ?_ | refine cond_te (by decide) ?_ | refine cond_fe (by decide) ?_)
    rw [hn, b16, ha]
    refine bind_ext fun l2 => ?_
    exact app2 (by assumption) rfl
theorem stepD_s2_short (hb : idx s n = some b) (g0 : 0 ≤ n) (g1 : n < s.length) (g2 : s.length ≤ 200) (h0 : code_IsOp (b.toNat : Int) = some true) (h2 : idx g_code_shapes (b.toNat : Int) = some 2) (h3 : code_shape_size 2 = some 3) (h4 : (b.toNat : Int) ≠ 1) (hl : (s.length : Int) < n + 3) : stepD s K l n = some ([], ⟨1, n⟩) := by
  have hq : decide (w64 ((s.length : Int) - n) < 3) = true := by rw [w64_lo (n := (s.length : Int) - n) (by omega) (by omega)]; exact decide_eq_true (by omega)
  unfold stepD
  repeat (first | with_reducible refine app1 (by assumption) ?_ | with_reducible refine app2 (by assumption) ?_ | with_reducible refine app3 (by assumption) ?_ | (with_reducible refine join_g ?_; intro j hj) | with_reducible refine bind_e hb ?_ | with_reducible refine bind_e h0 ?_ | with_reducible refine bind_e h2 ?_ | with_reducible refine bind_e h3 ?_  | with_reducible refine cond_te hq ?_ | refine cond_fe (by decide) ?_)
  rfl
theorem stepD_s2 (hb : idx s n = some b) (g0 : 0 ≤ n) (g1 : n < s.length) (g2 : s.length ≤ 200) (h0 : code_IsOp (b.toNat : Int) = some true) (h2 : idx g_code_shapes (b.toNat : Int) = some 2) (h3 : code_shape_size 2 = some 3) (h4 : (b.toNat : Int) ≠ 1) (x1 : idx s (n + 1) = some a1) (x2 : idx s (n + 2) = some a2) (hl : n + 3 ≤ (s.length : Int)) : stepD s K l n = (app 32 l [⟨n, (b.toNat : Int), w64 (w64 (256 * (a1.toNat : Int)) + (a2.toNat : Int)), 0⟩]).bind fun l2 => K l2 (n + 3) := by
  have hq : decide (w64 ((s.length : Int) - n) < 3) = false := by rw [w64_lo (n := (s.length : Int) - n) (by omega) (by omega)]; exact decide_eq_false (by omega)
  have y1 : idx s (w64 (n + 1)) = some a1 := by rw [w64_lo (n := n + 1) (by omega) (by omega)]; exact x1
  have y2 : idx s (w64 (n + 2)) = some a2 := by rw [w64_lo (n := n + 2) (by omega) (by omega)]; exact x2
  have ho : decide ((b.toNat : Int) = 1) = false := decide_eq_false h4
  have hn : w64 (n + 3) = n + 3 := w64_lo (by omega) (by omega)
  unfold stepD
  repeat (first | with_reducible refine app1 (by assumption) ?_ | with_reducible refine app2 (by assumption) ?_ | with_reducible refine app3 (by assumption) ?_ | (with_reducible refine join_g ?_; intro j hj) | with_reducible refine bind_e hb ?_ | with_reducible refine bind_e h0 ?_ | with_reducible refine bind_e h2 ?_ | with_reducible refine bind_e h3 ?_ | with_reducible refine bind_e y1 ?_ | with_reducible refine bind_e y2 ?_ | with_reducible refine cond_fe hq ?_ | with_reducible refine cond_fe ho ?_ | refine cond_te (by decide) ?_ | refine cond_fe (by decide) ?_)
  rw [hn, b16]
  refine bind_ext fun l2 => ?_
  exact app2 (by assumption) rfl
theorem stepD_s3_short (hb : idx s n = some b) (g0 : 0 ≤ n) (g1 : n < s.length) (g2 : s.length ≤ 200) (h0 : code_IsOp (b.toNat : Int) = some true) (h2 : idx g_code_shapes (b.toNat : Int) = some 3) (h3 : code_shape_size 3 = some 2) (h4 : (b.toNat : Int) ≠ 1) (hl : (s.length : Int) < n + 2) : stepD s K l n = some ([], ⟨1, n⟩) := by
  have hq : decide (w64 ((s.length : Int) - n) < 2) = true := by rw [w64_lo (n := (s.length : Int) - n) (by omega) (by omega)]; exact decide_eq_true (by omega)
  unfold stepD
  repeat (first | with_reducible refine app1 (by assumption) ?_ | with_reducible refine app2 (by assumption) ?_ | with_reducible refine app3 (by assumption) ?_ | (with_reducible refine join_g ?_; intro j hj) | with_reducible refine bind_e hb ?_ | with_reducible refine bind_e h0 ?_ | with_reducible refine bind_e h2 ?_ | with_reducible refine bind_e h3 ?_  | with_reducible refine cond_te hq ?_ | refine cond_fe (by decide) ?_)
  rfl
theorem stepD_s3 (hb : idx s n = some b) (g0 : 0 ≤ n) (g1 : n < s.length) (g2 : s.length ≤ 200) (h0 : code_IsOp (b.toNat : Int) = some true) (h2 : idx g_code_shapes (b.toNat : Int) = some 3) (h3 : code_shape_size 3 = some 2) (h4 : (b.toNat : Int) ≠ 1) (x1 : idx s (n + 1) = some a1) (hl : n + 2 ≤ (s.length : Int)) : stepD s K l n = (app 32 l [⟨n, (b.toNat : Int), (a1.toNat : Int), 0⟩]).bind fun l2 => K l2 (n + 2) := by
  have hq : decide (w64 ((s.length : Int) - n) < 2) = false := by rw [w64_lo (n := (s.length : Int) - n) (by omega) (by omega)]; exact decide_eq_false (by omega)
  have y1 : idx s (w64 (n + 1)) = some a1 := by rw [w64_lo (n := n + 1) (by omega) (by omega)]; exact x1
  have ho : decide ((b.toNat : Int) = 1) = false := decide_eq_false h4
  have hn : w64 (n + 2) = n + 2 := w64_lo (by omega) (by omega)
  unfold stepD
  repeat (first | with_reducible refine app1 (by assumption) ?_ | with_reducible refine app2 (by assumption) ?_ | with_reducible refine app3 (by assumption) ?_ | (with_reducible refine join_g ?_; intro j hj) | with_reducible refine bind_e hb ?_ | with_reducible refine bind_e h0 ?_ | with_reducible refine bind_e h2 ?_ | with_reducible refine bind_e h3 ?_ | with_reducible refine bind_e y1 ?_ | with_reducible refine cond_fe hq ?_ | with_reducible refine cond_fe ho ?_ | refine cond_te (by decide) ?_ | refine cond_fe (by decide) ?_)
  rw [hn]
  refine bind_ext fun l2 => ?_
  exact app2 (by assumption) rfl
theorem stepD_s4_short (hb : idx s n = some b) (g0 : 0 ≤ n) (g1 : n < s.length) (g2 : s.length ≤ 200) (h0 : code_IsOp (b.toNat : Int) = some true) (h2 : idx g_code_shapes (b.toNat : Int) = some 4) (h3 : code_shape_size 4 = some 3) (h4 : (b.toNat : Int) ≠ 1) (hl : (s.length : Int) < n + 3) : stepD s K l n = some ([], ⟨1, n⟩) := by
  have hq : decide (w64 ((s.length : Int) - n) < 3) = true := by rw [w64_lo (n := (s.length : Int) - n) (by omega) (by omega)]; exact decide_eq_true (by omega)
  unfold stepD
  repeat (first | with_reducible refine app1 (by assumption) ?_ | with_reducible refine app2 (by assumption) ?_ | with_reducible refine app3 (by assumption) ?_ | (with_reducible refine join_g ?_; intro j hj) | with_reducible refine bind_e hb ?_ | with_reducible refine bind_e h0 ?_ | with_reducible refine bind_e h2 ?_ | with_reducible refine bind_e h3 ?_  | with_reducible refine cond_te hq ?_ | refine cond_fe (by decide) ?_)
  rfl
theorem stepD_s4 (hb : idx s n = some b) (g0 : 0 ≤ n) (g1 : n < s.length) (g2 : s.length ≤ 200) (h0 : code_IsOp (b.toNat : Int) = some true) (h2 : idx g_code_shapes (b.toNat : Int) = some 4) (h3 : code_shape_size 4 = some 3) (h4 : (b.toNat : Int) ≠ 1) (x1 : idx s (n + 1) = some a1) (x2 : idx s (n + 2) = some a2) (hl : n + 3 ≤ (s.length : Int)) : stepD s K l n = (app 32 l [⟨n, (b.toNat : Int), (a1.toNat : Int), (a2.toNat : Int)⟩]).bind fun l2 => K l2 (n + 3) := by
  have hq : decide (w64 ((s.length : Int) - n) < 3) = false := by rw [w64_lo (n := (s.length : Int) - n) (by omega) (by omega)]; exact decide_eq_false (by omega)
  have y1 : idx s (w64 (n + 1)) = some a1 := by rw [w64_lo (n := n + 1) (by omega) (by omega)]; exact x1
  have y2 : idx s (w64 (n + 2)) = some a2 := by rw [w64_lo (n := n + 2) (by omega) (by omega)]; exact x2
  have ho : decide ((b.toNat : Int) = 1) = false := decide_eq_false h4
  have hn : w64 (n + 3) = n + 3 := w64_lo (by omega) (by omega)
  unfold stepD
  repeat (first | with_reducible refine app1 (by assumption) ?_ | with_reducible refine app2 (by assumption) ?_ | with_reducible refine app3 (by assumption) ?_ | (with_reducible refine join_g ?_; intro j hj) | with_reducible refine bind_e hb ?_ | with_reducible refine bind_e h0 ?_ | with_reducible refine bind_e h2 ?_ | with_reducible refine bind_e h3 ?_ | with_reducible refine bind_e y1 ?_ | with_reducible refine bind_e y2 ?_ | with_reducible refine cond_fe hq ?_ | with_reducible refine cond_fe ho ?_ | refine cond_te (by decide) ?_ | refine cond_fe (by decide) ?_)
  rw [hn]
  refine bind_ext fun l2 => ?_
  exact app2 (by assumption) rfl
theorem stepR_s0 (hb : idx s n = some b) (g0 : 0 ≤ n) (g1 : n < s.length) (g2 : s.length ≤ 200) (h1 : R_Behind (b.toNat : Int) = some 0) (h4 : (b.toNat : Int) ≠ 1)  (hl : n + 1 ≤ (s.length : Int)) : stepR s K l n = (app 32 l [⟨n, (b.toNat : Int), 0, 0⟩]).bind fun l2 => K l2 (n + 1) := by
  have hq : decide ((s.length : Int) < w64 (w64 (n + 1) + 0)) = false := by rw [w64_lo (n := n + 1) (by omega) (by omega), w64_lo (n := n + 1 + 0) (by omega) (by omega)]; exact decide_eq_false (by omega)
  have ho : decide ((b.toNat : Int) = 1) = false := decide_eq_false h4
  have hn : w64 (n + w64 (1 + 0)) = n + 1 := by rw [show w64 (1 + 0) = 1 from rfl]; exact w64_lo (by omega) (by omega)
  unfold stepR
  repeat (first | with_reducible refine app1 (by assumption) ?_ | with_reducible refine app2 (by assumption) ?_ | with_reducible refine app3 (by assumption) ?_ | (with_reducible refine join_g ?_; intro j hj) | with_reducible refine bind_e hb ?_ | with_reducible refine bind_e h1 ?_ | with_reducible refine cond_fe hq ?_ | with_reducible refine cond_fe ho ?_ | refine cond_te (by decide) ?_ | refine cond_fe (by decide) ?_)
  rw [hn]
  refine bind_ext fun l2 => ?_
  exact app2 (by assumption) rfl
theorem stepR_s1_short (hb : idx s n = some b) (g0 : 0 ≤ n) (g1 : n < s.length) (g2 : s.length ≤ 200) (h1 : R_Behind (b.toNat : Int) = some 2) (h5 : R_ByItself (b.toNat : Int) = some false) (h4 : (b.toNat : Int) = 1) (hl : (s.length : Int) < n + 3) : stepR s K l n = some ([], ⟨1, n⟩) := by
  have hq : decide ((s.length : Int) < w64 (w64 (n + 1) + 2)) = true := by rw [w64_lo (n := n + 1) (by omega) (by omega), w64_lo (n := n + 1 + 2) (by omega) (by omega)]; exact decide_eq_true (by omega)
  unfold stepR
  repeat (first | with_reducible refine app1 (by assumption) ?_ | with_reducible refine app2 (by assumption) ?_ | with_reducible refine app3 (by assumption) ?_ | (with_reducible refine join_g ?_; intro j hj) | with_reducible refine bind_e hb ?_ | with_reducible refine bind_e h1 ?_ | with_reducible refine bind_e h5 ?_  | with_reducible refine cond_te hq ?_ | refine cond_fe (by decide) ?_)
  rfl
theorem stepR_s1 (hb : idx s n = some b) (g0 : 0 ≤ n) (g1 : n < s.length) (g2 : s.length ≤ 200) (h1 : R_Behind (b.toNat : Int) = some 2) (h5 : R_ByItself (b.toNat : Int) = some false) (h4 : (b.toNat : Int) = 1) (x1 : idx s (n + 1) = some a1) (x2 : idx s (n + 2) = some a2) (hl : n + 3 ≤ (s.length : Int)) : stepR s K l n = (app 32 l [⟨n, (b.toNat : Int), a16 a1 a2, 0⟩]).bind fun l2 => K l2 (n + 3) := by
  have hq : decide ((s.length : Int) < w64 (w64 (n + 1) + 2)) = false := by rw [w64_lo (n := n + 1) (by omega) (by omega), w64_lo (n := n + 1 + 2) (by omega) (by omega)]; exact decide_eq_false (by omega)
  have y1 : idx s (w64 (n + 1)) = some a1 := by rw [w64_lo (n := n + 1) (by omega) (by omega)]; exact x1
  have y2 : idx s (w64 (n + 2)) = some a2 := by rw [w64_lo (n := n + 2) (by omega) (by omega)]; exact x2
  have ho : decide ((b.toNat : Int) = 1) = true := decide_eq_true h4
  have hn : w64 (n + w64 (1 + 2)) = n + 3 := by rw [show w64 (1 + 2) = 3 from rfl]; exact w64_lo (by omega) (by omega)
  unfold stepR
  cases hv : decide ((32767 : Int) < w64 (w64 (256 * (a1.toNat : Int)) + (a2.toNat : Int)))
  · have hd := hv
    have ha := a16_lo hv
    repeat (first | with_reducible refine cond_fe hd ?_ | with_reducible refine app1 (by assumption) ?_ | with_reducible refine app2 (by assumption) ?_ | with_reducible refine app3 (by assumption) ?_ | (with_reducible refine join_g ?_; intro j hj) | with_reducible refine bind_e hb ?_ | with_reducible refine bind_e h1 ?_ | with_reducible refine bind_e h5 ?_ | with_reducible refine bind_e y1 ?_ | with_reducible refine bind_e y2 ?_ | with_reducible refine cond_fe hq ?_ | with_reducible refine cond_te ho ?_ | refine cond_te (by decide) ?_ | refine cond_fe (by decide) ?_)
    rw [hn, ha]
    refine bind_ext fun l2 => ?_
    exact app2 (by assumption) rfl
  · have hd := hv
    have ha := a16_hi hv
    repeat (first | with_reducible refine cond_te hd ?_ | with_reducible refine app1 (by assumption) ?_ | with_reducible refine app2 (by assumption) ?_ | with_reducible refine app3 (by assumption) ?_ | (with_reducible refine join_g ?_; intro j hj) | with_reducible refine bind_e hb ?_ | with_reducible refine bind_e h1 ?_ | with_reducible refine bind_e h5 ?_ | with_reducible refine bind_e y1 ?_ | with_reducible refine bind_e y2 ?_ | with_reducible refine cond_fe hq ?_ | with_reducible refine cond_te ho ?_ | refine cond_te (by decide) ?_ | refine cond_fe (by decide) ?_)
    rw [hn, ha]
    refine bind_ext fun l2 => ?_
    exact app2 (by assumption) rfl
theorem stepR_s2_short (hb : idx s n = some b) (g0 : 0 ≤ n) (g1 : n < s.length) (g2 : s.length ≤ 200) (h1 : R_Behind (b.toNat : Int) = some 2) (h5 : R_ByItself (b.toNat : Int) = some false) (h4 : (b.toNat : Int) ≠ 1) (hl : (s.length : Int) < n + 3) : stepR s K l n = some ([], ⟨1, n⟩) := by
  have hq : decide ((s.length : Int) < w64 (w64 (n + 1) + 2)) = true := by rw [w64_lo (n := n + 1) (by omega) (by omega), w64_lo (n := n + 1 + 2) (by omega) (by omega)]; exact decide_eq_true (by omega)
  unfold stepR
  repeat (first | with_reducible refine app1 (by assumption) ?_ | with_reducible refine app2 (by assumption) ?_ | with_reducible refine app3 (by assumption) ?_ | (with_reducible refine join_g ?_; intro j hj) | with_reducible refine bind_e hb ?_ | with_reducible refine bind_e h1 ?_ | with_reducible refine bind_e h5 ?_  | with_reducible refine cond_te hq ?_ | refine cond_fe (by decide) ?_)
  rfl
theorem stepR_s2 (hb : idx s n = some b) (g0 : 0 ≤ n) (g1 : n < s.length) (g2 : s.length ≤ 200) (h1 : R_Behind (b.toNat : Int) = some 2) (h5 : R_ByItself (b.toNat : Int) = some false) (h4 : (b.toNat : Int) ≠ 1) (x1 : idx s (n + 1) = some a1) (x2 : idx s (n + 2) = some a2) (hl : n + 3 ≤ (s.length : Int)) : stepR s K l n = (app 32 l [⟨n, (b.toNat : Int), w64 (w64 (256 * (a1.toNat : Int)) + (a2.toNat : Int)), 0⟩]).bind fun l2 => K l2 (n + 3) := by
  have hq : decide ((s.length : Int) < w64 (w64 (n + 1) + 2)) = false := by rw [w64_lo (n := n + 1) (by omega) (by omega), w64_lo (n := n + 1 + 2) (by omega) (by omega)]; exact decide_eq_false (by omega)
  have y1 : idx s (w64 (n + 1)) = some a1 := by rw [w64_lo (n := n + 1) (by omega) (by omega)]; exact x1
  have y2 : idx s (w64 (n + 2)) = some a2 := by rw [w64_lo (n := n + 2) (by omega) (by omega)]; exact x2
  have ho : decide ((b.toNat : Int) = 1) = false := decide_eq_false h4
  have hn : w64 (n + w64 (1 + 2)) = n + 3 := by rw [show w64 (1 + 2) = 3 from rfl]; exact w64_lo (by omega) (by omega)
  unfold stepR
  repeat (first | with_reducible refine app1 (by assumption) ?_ | with_reducible refine app2 (by assumption) ?_ | with_reducible refine app3 (by assumption) ?_ | (with_reducible refine join_g ?_; intro j hj) | with_reducible refine bind_e hb ?_ | with_reducible refine bind_e h1 ?_ | with_reducible refine bind_e h5 ?_ | with_reducible refine bind_e y1 ?_ | with_reducible refine bind_e y2 ?_ | with_reducible refine cond_fe hq ?_ | with_reducible refine cond_fe ho ?_ | refine cond_te (by decide) ?_ | refine cond_fe (by decide) ?_)
  rw [hn]
  refine bind_ext fun l2 => ?_
  exact app2 (by assumption) rfl
theorem stepR_s3_short (hb : idx s n = some b) (g0 : 0 ≤ n) (g1 : n < s.length) (g2 : s.length ≤ 200) (h1 : R_Behind (b.toNat : Int) = some 1) (h4 : (b.toNat : Int) ≠ 1) (hl : (s.length : Int) < n + 2) : stepR s K l n = some ([], ⟨1, n⟩) := by
  have hq : decide ((s.length : Int) < w64 (w64 (n + 1) + 1)) = true := by rw [w64_lo (n := n + 1) (by omega) (by omega), w64_lo (n := n + 1 + 1) (by omega) (by omega)]; exact decide_eq_true (by omega)
  unfold stepR
  repeat (first | with_reducible refine app1 (by assumption) ?_ | with_reducible refine app2 (by assumption) ?_ | with_reducible refine app3 (by assumption) ?_ | (with_reducible refine join_g ?_; intro j hj) | with_reducible refine bind_e hb ?_ | with_reducible refine bind_e h1 ?_  | with_reducible refine cond_te hq ?_ | refine cond_fe (by decide) ?_)
  rfl
theorem stepR_s3 (hb : idx s n = some b) (g0 : 0 ≤ n) (g1 : n < s.length) (g2 : s.length ≤ 200) (h1 : R_Behind (b.toNat : Int) = some 1) (h4 : (b.toNat : Int) ≠ 1) (x1 : idx s (n + 1) = some a1) (hl : n + 2 ≤ (s.length : Int)) : stepR s K l n = (app 32 l [⟨n, (b.toNat : Int), (a1.toNat : Int), 0⟩]).bind fun l2 => K l2 (n + 2) := by
  have hq : decide ((s.length : Int) < w64 (w64 (n + 1) + 1)) = false := by rw [w64_lo (n := n + 1) (by omega) (by omega), w64_lo (n := n + 1 + 1) (by omega) (by omega)]; exact decide_eq_false (by omega)
  have y1 : idx s (w64 (n + 1)) = some a1 := by rw [w64_lo (n := n + 1) (by omega) (by omega)]; exact x1
  have ho : decide ((b.toNat : Int) = 1) = false := decide_eq_false h4
  have hn : w64 (n + w64 (1 + 1)) = n + 2 := by rw [show w64 (1 + 1) = 2 from rfl]; exact w64_lo (by omega) (by omega)
  unfold stepR
  repeat (first | with_reducible refine app1 (by assumption) ?_ | with_reducible refine app2 (by assumption) ?_ | with_reducible refine app3 (by assumption) ?_ | (with_reducible refine join_g ?_; intro j hj) | with_reducible refine bind_e hb ?_ | with_reducible refine bind_e h1 ?_ | with_reducible refine bind_e y1 ?_ | with_reducible refine cond_fe hq ?_ | with_reducible refine cond_fe ho ?_ | refine cond_te (by decide) ?_ | refine cond_fe (by decide) ?_)
  rw [hn]
  refine bind_ext fun l2 => ?_
  exact app2 (by assumption) rfl
theorem stepR_s4_short (hb : idx s n = some b) (g0 : 0 ≤ n) (g1 : n < s.length) (g2 : s.length ≤ 200) (h1 : R_Behind (b.toNat : Int) = some 2) (h5 : R_ByItself (b.toNat : Int) = some true) (h4 : (b.toNat : Int) ≠ 1) (hl : (s.length : Int) < n + 3) : stepR s K l n = some ([], ⟨1, n⟩) := by
  have hq : decide ((s.length : Int) < w64 (w64 (n + 1) + 2)) = true := by rw [w64_lo (n := n + 1) (by omega) (by omega), w64_lo (n := n + 1 + 2) (by omega) (by omega)]; exact decide_eq_true (by omega)
  unfold stepR
  repeat (first | with_reducible refine app1 (by assumption) ?_ | with_reducible refine app2 (by assumption) ?_ | with_reducible refine app3 (by assumption) ?_ | (with_reducible refine join_g ?_; intro j hj) | with_reducible refine bind_e hb ?_ | with_reducible refine bind_e h1 ?_ | with_reducible refine bind_e h5 ?_  | with_reducible refine cond_te hq ?_ | refine cond_fe (by decide) ?_)
  rfl
theorem stepR_s4 (hb : idx s n = some b) (g0 : 0 ≤ n) (g1 : n < s.length) (g2 : s.length ≤ 200) (h1 : R_Behind (b.toNat : Int) = some 2) (h5 : R_ByItself (b.toNat : Int) = some true) (h4 : (b.toNat : Int) ≠ 1) (x1 : idx s (n + 1) = some a1) (x2 : idx s (n + 2) = some a2) (hl : n + 3 ≤ (s.length : Int)) : stepR s K l n = (app 32 l [⟨n, (b.toNat : Int), (a1.toNat : Int), (a2.toNat : Int)⟩]).bind fun l2 => K l2 (n + 3) := by
  have hq : decide ((s.length : Int) < w64 (w64 (n + 1) + 2)) = false := by rw [w64_lo (n := n + 1) (by omega) (by omega), w64_lo (n := n + 1 + 2) (by omega) (by omega)]; exact decide_eq_false (by omega)
  have y1 : idx s (w64 (n + 1)) = some a1 := by rw [w64_lo (n := n + 1) (by omega) (by omega)]; exact x1
  have y2 : idx s (w64 (n + 2)) = some a2 := by rw [w64_lo (n := n + 2) (by omega) (by omega)]; exact x2
  have ho : decide ((b.toNat : Int) = 1) = false := decide_eq_false h4
  have hn : w64 (n + w64 (1 + 2)) = n + 3 := by rw [show w64 (1 + 2) = 3 from rfl]; exact w64_lo (by omega) (by omega)
  unfold stepR
  repeat (first | with_reducible refine app1 (by assumption) ?_ | with_reducible refine app2 (by assumption) ?_ | with_reducible refine app3 (by assumption) ?_ | (with_reducible refine join_g ?_; intro j hj) | with_reducible refine bind_e hb ?_ | with_reducible refine bind_e h1 ?_ | with_reducible refine bind_e h5 ?_ | with_reducible refine bind_e y1 ?_ | with_reducible refine bind_e y2 ?_ | with_reducible refine cond_fe hq ?_ | with_reducible refine cond_fe ho ?_ | refine cond_te (by decide) ?_ | refine cond_fe (by decide) ?_)
  rw [hn]
  refine bind_ext fun l2 => ?_
  exact app2 (by assumption) rfl
end
end Cin
namespace Cin
section
variable {s : List UInt8} {K : List Ins → Int → Option (List Ins × Fault)} {l : List Ins} {n : Int} {b : UInt8}
theorem stepD_bad (hb : idx s n = some b) (h0 : code_IsOp (b.toNat : Int) = some false) : stepD s K l n = some ([], ⟨7, n⟩) := by
  unfold stepD
  exact join_e (bind_e hb (bind_e h0 (cond_te (by decide) rfl)))
theorem stepR_bad (hb : idx s n = some b) (h1 : R_Behind (b.toNat : Int) = some (-1)) : stepR s K l n = some ([], ⟨7, n⟩) := by
  unfold stepR
  exact join_e (bind_e hb (bind_e h1 (cond_te (by decide) rfl)))
/-- One step of both: one operation is read, or the same fault is told. -/
theorem step_both (s : List UInt8) (g2 : s.length ≤ 200) (l : List Ins) (n : Int) (g0 : 0 ≤ n) (g1 : n < s.length) :
    (∃ f : Fault, ∀ K, stepD s K l n = some ([], f) ∧ stepR s K l n = some ([], f)) ∨
    ∃ (i : Ins) (z : Int), 1 ≤ z ∧ n + z ≤ s.length ∧ (∀ K, stepD s K l n = (app 32 l [i]).bind fun l2 => K l2 (n + z)) ∧ (∀ K, stepR s K l n = (app 32 l [i]).bind fun l2 => K l2 (n + z)) := by
  obtain ⟨b, hb, _⟩ := idx_at g0 g1
  rcases row b.toNat b.toNat_lt with ⟨h0, h1⟩ | ⟨h0, h1, h2, h3, h4⟩ | ⟨h0, h1, h2, h3, h4, h5⟩ | ⟨h0, h1, h2, h3, h4, h5⟩ | ⟨h0, h1, h2, h3, h4⟩ | ⟨h0, h1, h2, h3, h4, h5⟩
  · exact .inl ⟨_, fun K => ⟨stepD_bad hb h0, stepR_bad hb h1⟩⟩
  · exact .inr ⟨_, 1, by omega, by omega, fun K => stepD_s0 hb g0 g1 g2 h0 h2 h3 h4 (by omega), fun K => stepR_s0 hb g0 g1 g2 h1 h4 (by omega)⟩
  · by_cases hl : (s.length : Int) < n + 3
    · exact .inl ⟨_, fun K => ⟨stepD_s1_short hb g0 g1 g2 h0 h2 h3 h4 hl, stepR_s1_short hb g0 g1 g2 h1 h5 h4 hl⟩⟩
    · obtain ⟨a1, x1, _⟩ := idx_at (l := s) (n := n + 1) (by omega) (by omega)
      obtain ⟨a2, x2, _⟩ := idx_at (l := s) (n := n + 2) (by omega) (by omega)
      exact .inr ⟨_, 3, by omega, by omega, fun K => stepD_s1 hb g0 g1 g2 h0 h2 h3 h4 x1 x2 (by omega), fun K => stepR_s1 hb g0 g1 g2 h1 h5 h4 x1 x2 (by omega)⟩
  · by_cases hl : (s.length : Int) < n + 3
    · exact .inl ⟨_, fun K => ⟨stepD_s2_short hb g0 g1 g2 h0 h2 h3 h4 hl, stepR_s2_short hb g0 g1 g2 h1 h5 h4 hl⟩⟩
    · obtain ⟨a1, x1, _⟩ := idx_at (l := s) (n := n + 1) (by omega) (by omega)
      obtain ⟨a2, x2, _⟩ := idx_at (l := s) (n := n + 2) (by omega) (by omega)
      exact .inr ⟨_, 3, by omega, by omega, fun K => stepD_s2 hb g0 g1 g2 h0 h2 h3 h4 x1 x2 (by omega), fun K => stepR_s2 hb g0 g1 g2 h1 h5 h4 x1 x2 (by omega)⟩
  · by_cases hl : (s.length : Int) < n + 2
    · exact .inl ⟨_, fun K => ⟨stepD_s3_short hb g0 g1 g2 h0 h2 h3 h4 hl, stepR_s3_short hb g0 g1 g2 h1 h4 hl⟩⟩
    · obtain ⟨a1, x1, _⟩ := idx_at (l := s) (n := n + 1) (by omega) (by omega)
      exact .inr ⟨_, 2, by omega, by omega, fun K => stepD_s3 hb g0 g1 g2 h0 h2 h3 h4 x1 (by omega), fun K => stepR_s3 hb g0 g1 g2 h1 h4 x1 (by omega)⟩
  · by_cases hl : (s.length : Int) < n + 3
    · exact .inl ⟨_, fun K => ⟨stepD_s4_short hb g0 g1 g2 h0 h2 h3 h4 hl, stepR_s4_short hb g0 g1 g2 h1 h5 h4 hl⟩⟩
    · obtain ⟨a1, x1, _⟩ := idx_at (l := s) (n := n + 1) (by omega) (by omega)
      obtain ⟨a2, x2, _⟩ := idx_at (l := s) (n := n + 2) (by omega) (by omega)
      exact .inr ⟨_, 3, by omega, by omega, fun K => stepD_s4 hb g0 g1 g2 h0 h2 h3 h4 x1 x2 (by omega), fun K => stepR_s4 hb g0 g1 g2 h1 h5 h4 x1 x2 (by omega)⟩
end

theorem app_ok {α : Type} {bytes : Nat} {l m : List α} (h : (l.length + m.length) * bytes ≤ 140737488355328) : app bytes l m = some (l ++ m) := by unfold app; rw [if_pos h]

/-- The first loops agree, and they end. -/
theorem loop1 (s : List UInt8) (g2 : s.length ≤ 200) (j j' : List Ins → Option (List Ins × Fault)) (hj : ∀ l, l.length ≤ 200 → ∃ r, j l = some r ∧ j' l = some r ∧ r.1.length ≤ 200) : ∀ (k : Nat) (l : List Ins) (n : Int), 0 ≤ n → n ≤ s.length → (l.length : Int) ≤ n → (s.length : Int) < n + k →
    ∃ r, code_Decode_L1 s j k l n = some r ∧ R_InsOf_L1 s j' k l n = some r ∧ r.1.length ≤ 200 := by
  intro k
  induction k with
  | zero => intro l n g0 g1 _ h; exact absurd h (by omega)
  | succ k ih =>
    intro l n g0 g1 gl h
    rw [decL_step, insL_step]
    by_cases hn : n < s.length
    · rw [decide_eq_true hn, cond_true, cond_true]
      rcases step_both s g2 l n g0 hn with ⟨f, hf⟩ | ⟨i, z, hz, hz2, hD, hR⟩
      · exact ⟨_, (hf _).1, (hf _).2, Nat.zero_le _⟩
      · rw [hD, hR, app_ok (by simp only [List.length_cons, List.length_nil]; omega)]
        obtain ⟨r, r1, r2, r3⟩ := ih (l ++ [i]) (n + z) (by omega) hz2 (by simp only [List.length_append, List.length_cons, List.length_nil]; omega) (by omega)
        exact ⟨r, r1, r2, r3⟩
    · rw [decide_eq_false hn, cond_false, cond_false]
      exact hj l (by omega)

/-- The second loops agree, and they end. -/
theorem loop2 (F : Nat) (l : List Ins) (hl : l.length ≤ 200) (hF : ∀ q, ∃ i, R_PlaceOf F l q = some i) (j : List Ins → Option (List Ins × Fault)) (hj : ∃ r, j l = some r ∧ r.1.length ≤ 200) : ∀ (k : Nat) (n : Int), 0 ≤ n → n ≤ l.length → (l.length : Int) < n + k →
    ∃ r, code_Decode_L2 F l j k l n = some r ∧ R_InsOf_L2 F j k l n = some r ∧ r.1.length ≤ 200 := by
  intro k
  induction k with
  | zero => intro n g0 g1 h; exact absurd h (by omega)
  | succ k ih =>
    intro n g0 g1 h
    rw [code_Decode_L2, R_InsOf_L2]
    by_cases hn : n < l.length
    · rw [decide_eq_true hn, cond_true, cond_true]
      obtain ⟨x, hx, _⟩ := idx_at g0 hn
      obtain ⟨i, hi⟩ := hF x.A
      have hw : w64 (n + 1) = n + 1 := w64_lo (by omega) (by omega)
      obtain ⟨r, r1, r2, r3⟩ := ih (n + 1) (by omega) (by omega) (by omega)
      have hG : R_GoesTo x.Op = some false ∨ R_GoesTo x.Op = some true := by
        unfold R_GoesTo
        cases decide (13 ≤ x.Op) <;> cases decide (x.Op ≤ 17) <;> simp
      have hP : code_Place F l x.A = some (cond (decide (i < 0)) (0, 5) (i, 0)) := by
        rw [place_same, hi]; simp only [Option.bind_some]; cases decide (i < 0) <;> rfl
      simp only [join]
      rw [hx]
      simp only [Option.bind_some]
      rw [hP, goes_same, hi]
      simp only [Option.bind_some, hw]
      rcases hG with hG | hG
      · rw [hG]; exact ⟨r, r1, r2, r3⟩
      · rw [hG]
        cases hi0 : decide (i < 0)
        · exact ⟨r, r1, r2, r3⟩
        · exact ⟨_, rfl, rfl, Nat.zero_le _⟩
    · rw [decide_eq_false hn, cond_false, cond_false]
      obtain ⟨r, hr, h3⟩ := hj
      exact ⟨r, hr, hr, h3⟩

theorem both (s : List UInt8) (F : Nat) (hF : 300 ≤ F) : ∃ r, code_Decode F s = some r ∧ R_InsOf F s = some r ∧ r.1.length ≤ 200 := by
  unfold code_Decode R_InsOf
  by_cases h1 : 200 < (s.length : Int)
  · rw [decide_eq_true h1]; exact ⟨_, rfl, rfl, Nat.zero_le _⟩
  · rw [decide_eq_false h1, cond_false, cond_false]
    cases decide (s = [])
    · simp only [cond_false, join]
      have hs : s.length ≤ 200 := by omega
      have h2 : ∀ l : List Ins, l.length ≤ 200 → ∃ r, code_Decode_L2 F l (fun l => some (l, ⟨0, 0⟩)) F l 0 = some r ∧ R_InsOf_L2 F (fun l => some (l, ⟨0, 0⟩)) F l 0 = some r ∧ r.1.length ≤ 200 := fun l hl =>
        loop2 F l hl (fun q => find_ends q l (by omega) F 0 (by omega) (by omega) (by omega)) _ ⟨_, rfl, hl⟩ F 0 (by omega) (by omega) (by omega)
      exact loop1 s hs _ _ h2 F [] 0 (by omega) (by omega) (by simp) (by omega)
    · exact ⟨_, rfl, rfl, Nat.zero_le _⟩

theorem same_self (F : Nat) (l : List Ins) (hl : l.length ≤ 9223372036854775807) (hF : l.length < F) : R_SameIns F l l = some true := by
  have key : ∀ (k : Nat) (n : Int), 0 ≤ n → n ≤ l.length → (l.length : Int) < n + k → R_SameIns_L1 l l (fun _ => some true) k n = some true := by
    intro k
    induction k with
    | zero => intro n _ h1 h; exact absurd h (by omega)
    | succ k ih =>
      intro n h0 h1 h
      rw [R_SameIns_L1]
      by_cases hn : n < l.length
      · obtain ⟨x, hx, _⟩ := idx_at h0 hn
        rw [decide_eq_true hn, cond_true, hx]
        simp only [Option.bind_some]
        rw [show (!decide True) = false by simp, cond_false, w64_id ⟨by omega, by omega⟩]
        exact ih (n + 1) (by omega) (by omega) (by omega)
      · rw [decide_eq_false hn]; rfl
  unfold R_SameIns
  rw [show (!decide ((l.length : Int) = (l.length : Int))) = false by simp, cond_false]
  exact key F 0 (by omega) (by omega) (by omega)

theorem plain_CodeDecodes (s : List UInt8) (_ : s.length ≤ 9223372036854775807) : ∃ F, L_CodeDecodes F s = some true := by
  refine ⟨300 + 20, ?_⟩
  obtain ⟨r, h1, h2, h3⟩ := both s (300 + 20) (by omega)
  unfold L_CodeDecodes
  rw [h1, h2]
  simp only [Option.bind_some]
  rw [begun]
  simp only [Option.bind_some, cond_true]
  rw [show decide True = true by simp, cond_true, same_self (300 + 20) r.1 (by omega) (by omega)]
  rfl
end Cin
