/- Plain law: CodeBack answers true: what is decoded is encoded as it was, and stands in order. No program in sight. -/
import Derived.Test.YtcioldnpdkfeoaaDoorPlainEncodes
namespace Cin
section
variable {s : List UInt8} {n : Int} {b a1 a2 : UInt8}
theorem take_one (g0 : 0 ≤ n) (hb : idx s n = some b) : s.take (n + 1).toNat = s.take n.toNat ++ [b] := by
  obtain ⟨_, h1, h2⟩ := idx_some hb
  rw [show (n + 1).toNat = n.toNat + 1 by omega, List.take_add_one, h2]
  rfl
theorem b8_self (b : UInt8) : b8 (b.toNat : Int) = b := by
  unfold b8
  have := b.toNat_lt
  rw [show ((b.toNat : Int) % 256).toNat = b.toNat by omega]
  simp
theorem b8_val {m : Int} {b : UInt8} (h : m % 256 = (b.toNat : Int)) : b8 m = b := by
  rw [← b8_self b]; exact b8_eq (by have := b.toNat_lt; omega)
theorem a16_val (a1 a2 : UInt8) : a16 a1 a2 = (if 32767 < 256 * (a1.toNat : Int) + a2.toNat then 256 * (a1.toNat : Int) + a2.toNat - 65536 else 256 * (a1.toNat : Int) + a2.toNat) := by
  have h1 := a1.toNat_lt
  have h2 := a2.toNat_lt
  have e1 : w64 (256 * (a1.toNat : Int)) = 256 * (a1.toNat : Int) := w64_lo (by omega) (by omega)
  have e2 : w64 (256 * (a1.toNat : Int) + (a2.toNat : Int)) = 256 * (a1.toNat : Int) + (a2.toNat : Int) := w64_lo (by omega) (by omega)
  have e3 : w64 (256 * (a1.toNat : Int) + (a2.toNat : Int) - 65536) = 256 * (a1.toNat : Int) + (a2.toNat : Int) - 65536 := w64_lo (by omega) (by omega)
  unfold a16
  rw [e1, e2, e3]
  by_cases h : (32767 : Int) < 256 * (a1.toNat : Int) + a2.toNat
  · rw [decide_eq_true h, cond_true, if_pos h]
  · rw [decide_eq_false h, cond_false, if_neg h]
theorem two_val (a1 a2 : UInt8) : w64 (w64 (256 * (a1.toNat : Int)) + (a2.toNat : Int)) = 256 * (a1.toNat : Int) + a2.toNat := by
  have h1 := a1.toNat_lt
  have h2 := a2.toNat_lt
  rw [w64_lo (n := 256 * (a1.toNat : Int)) (by omega) (by omega), w64_lo (by omega) (by omega)]

theorem len_take (g0 : 0 ≤ n) (g1 : n ≤ s.length) : ((s.take n.toNat).length : Int) = n := by
  rw [List.length_take]; omega
theorem at_ok (g0 : 0 ≤ n) (g1 : n ≤ s.length) : (!decide (n = ((s.take n.toNat).length : Int))) = false := by rw [len_take g0 g1]; simp
/-- What was read is written again. -/
def Rew (s : List UInt8) (i : Ins) (n z : Int) : Prop := i.At = n ∧ ∀ K, stepE K i (s.take n.toNat) = K (s.take (n + z).toNat)
theorem rew_s0 (hb : idx s n = some b) (g0 : 0 ≤ n) (g1 : n < s.length) (g2 : s.length ≤ 200) (h0 : code_IsOp (b.toNat : Int) = some true) (h2 : idx g_code_shapes (b.toNat : Int) = some 0) : Rew s ⟨n, (b.toNat : Int), 0, 0⟩ n 1 := by
  refine ⟨rfl, fun K => ?_⟩
  have hf := fits_s0 (x := ⟨n, (b.toNat : Int), 0, 0⟩) h2
  rw [stepE_s0 (x := ⟨n, (b.toNat : Int), 0, 0⟩) h0 h2 (hf.trans (by simp)) (at_ok (n := n) g0 (show n ≤ s.length by omega)) (by rw [List.length_take]; omega), take_one g0 hb, b8_self]
theorem rew_s1 (hb : idx s n = some b) (g0 : 0 ≤ n) (g2 : s.length ≤ 200) (h0 : code_IsOp (b.toNat : Int) = some true) (h2 : idx g_code_shapes (b.toNat : Int) = some 1) (x1 : idx s (n + 1) = some a1) (x2 : idx s (n + 2) = some a2) (hl : n + 3 ≤ s.length) :
    Rew s ⟨n, (b.toNat : Int), a16 a1 a2, 0⟩ n 3 := by
  refine ⟨rfl, fun K => ?_⟩
  have hf := fits_s1 (x := ⟨n, (b.toNat : Int), a16 a1 a2, 0⟩) h2
  have l1 := a1.toNat_lt
  have l2 := a2.toNat_lt
  have hv := a16_val a1 a2
  have ha : -32768 ≤ a16 a1 a2 ∧ a16 a1 a2 ≤ 32767 := by rw [hv]; split <;> omega
  have e1 : b8 (shrI (a16 a1 a2) 8) = a1 := b8_val (by unfold shrI; rw [hv]; split <;> omega)
  have e2 : b8 (a16 a1 a2) = a2 := b8_val (by rw [hv]; split <;> omega)
  rw [stepE_s1 (x := ⟨n, (b.toNat : Int), a16 a1 a2, 0⟩) h0 h2 (hf.trans (by simp [ha])) (at_ok (n := n) g0 (show n ≤ s.length by omega)) (by rw [List.length_take]; omega), show n + 3 = n + 1 + 1 + 1 by omega,
    take_one (by omega) (show idx s (n + 1 + 1) = some a2 by rw [show n + 1 + 1 = n + 2 by omega]; exact x2), take_one (by omega) x1, take_one g0 hb, b8_self, e1, e2]
  simp
theorem rew_s2 (hb : idx s n = some b) (g0 : 0 ≤ n) (g2 : s.length ≤ 200) (h0 : code_IsOp (b.toNat : Int) = some true) (h2 : idx g_code_shapes (b.toNat : Int) = some 2) (x1 : idx s (n + 1) = some a1) (x2 : idx s (n + 2) = some a2) (hl : n + 3 ≤ s.length) :
    Rew s ⟨n, (b.toNat : Int), w64 (w64 (256 * (a1.toNat : Int)) + (a2.toNat : Int)), 0⟩ n 3 := by
  rw [two_val]
  refine ⟨rfl, fun K => ?_⟩
  have hf := fits_s2 (x := ⟨n, (b.toNat : Int), 256 * (a1.toNat : Int) + a2.toNat, 0⟩) h2
  have l1 := a1.toNat_lt
  have l2 := a2.toNat_lt
  have ha : 0 ≤ 256 * (a1.toNat : Int) + a2.toNat ∧ 256 * (a1.toNat : Int) + a2.toNat ≤ 65535 := by omega
  have e1 : b8 (shrI (256 * (a1.toNat : Int) + a2.toNat) 8) = a1 := b8_val (by unfold shrI; omega)
  have e2 : b8 (256 * (a1.toNat : Int) + a2.toNat) = a2 := b8_val (by omega)
  rw [stepE_s2 (x := ⟨n, (b.toNat : Int), 256 * (a1.toNat : Int) + a2.toNat, 0⟩) h0 h2 (hf.trans (by simp [ha])) (at_ok (n := n) g0 (show n ≤ s.length by omega)) (by rw [List.length_take]; omega), show n + 3 = n + 1 + 1 + 1 by omega,
    take_one (by omega) (show idx s (n + 1 + 1) = some a2 by rw [show n + 1 + 1 = n + 2 by omega]; exact x2), take_one (by omega) x1, take_one g0 hb, b8_self, e1, e2]
  simp
theorem rew_s3 (hb : idx s n = some b) (g0 : 0 ≤ n) (g2 : s.length ≤ 200) (h0 : code_IsOp (b.toNat : Int) = some true) (h2 : idx g_code_shapes (b.toNat : Int) = some 3) (x1 : idx s (n + 1) = some a1) (hl : n + 2 ≤ s.length) :
    Rew s ⟨n, (b.toNat : Int), (a1.toNat : Int), 0⟩ n 2 := by
  refine ⟨rfl, fun K => ?_⟩
  have hf := fits_s3 (x := ⟨n, (b.toNat : Int), (a1.toNat : Int), 0⟩) h2
  have l1 := a1.toNat_lt
  have ha : 0 ≤ (a1.toNat : Int) ∧ (a1.toNat : Int) ≤ 255 := by omega
  rw [stepE_s3 (x := ⟨n, (b.toNat : Int), (a1.toNat : Int), 0⟩) h0 h2 (hf.trans (by simp [ha])) (at_ok (n := n) g0 (show n ≤ s.length by omega)) (by rw [List.length_take]; omega), show n + 2 = n + 1 + 1 by omega,
    take_one (by omega) x1, take_one g0 hb, b8_self, b8_self]
theorem rew_s4 (hb : idx s n = some b) (g0 : 0 ≤ n) (g2 : s.length ≤ 200) (h0 : code_IsOp (b.toNat : Int) = some true) (h2 : idx g_code_shapes (b.toNat : Int) = some 4) (x1 : idx s (n + 1) = some a1) (x2 : idx s (n + 2) = some a2) (hl : n + 3 ≤ s.length) :
    Rew s ⟨n, (b.toNat : Int), (a1.toNat : Int), (a2.toNat : Int)⟩ n 3 := by
  refine ⟨rfl, fun K => ?_⟩
  have hf := fits_s4 (x := ⟨n, (b.toNat : Int), (a1.toNat : Int), (a2.toNat : Int)⟩) h2
  have l1 := a1.toNat_lt
  have l2 := a2.toNat_lt
  have ha : 0 ≤ (a1.toNat : Int) ∧ (a1.toNat : Int) ≤ 255 := by omega
  have hb2 : 0 ≤ (a2.toNat : Int) ∧ (a2.toNat : Int) ≤ 255 := by omega
  rw [stepE_s4 (x := ⟨n, (b.toNat : Int), (a1.toNat : Int), (a2.toNat : Int)⟩) h0 h2 (hf.trans (by simp [ha, hb2])) (at_ok (n := n) g0 (show n ≤ s.length by omega)) (by rw [List.length_take]; omega), show n + 3 = n + 1 + 1 + 1 by omega,
    take_one (by omega) (show idx s (n + 1 + 1) = some a2 by rw [show n + 1 + 1 = n + 2 by omega]; exact x2), take_one (by omega) x1, take_one g0 hb, b8_self, b8_self, b8_self]
  simp
end
inductive Dec (s : List UInt8) : List Ins → Int → Prop
  | nil : Dec s [] 0
  | snoc {l : List Ins} {n z : Int} {i : Ins} (h : Dec s l n) (g0 : 0 ≤ n) (hr : Rew s i n z) (hz : 1 ≤ z) : Dec s (l ++ [i]) (n + z)

section
variable {s : List UInt8}
theorem step_dec (g2 : s.length ≤ 200) (l : List Ins) (n : Int) (g0 : 0 ≤ n) (g1 : n < s.length) :
    (∃ f : Fault, f.Err ≠ 0 ∧ ∀ K, stepD s K l n = some ([], f)) ∨
    ∃ (i : Ins) (z : Int), 1 ≤ z ∧ n + z ≤ s.length ∧ Rew s i n z ∧ (∀ K, stepD s K l n = (app 32 l [i]).bind fun l2 => K l2 (n + z)) := by
  obtain ⟨b, hb, _⟩ := idx_at g0 g1
  rcases row b.toNat b.toNat_lt with ⟨h0, h1⟩ | ⟨h0, h1, h2, h3, h4⟩ | ⟨h0, h1, h2, h3, h4, h5⟩ | ⟨h0, h1, h2, h3, h4, h5⟩ | ⟨h0, h1, h2, h3, h4⟩ | ⟨h0, h1, h2, h3, h4, h5⟩
  · exact .inl ⟨⟨7, n⟩, by simp, fun K => stepD_bad hb h0⟩
  · exact .inr ⟨_, 1, by omega, by omega, rew_s0 hb g0 g1 g2 h0 h2, fun K => stepD_s0 hb g0 g1 g2 h0 h2 h3 h4 (by omega)⟩
  · by_cases hl : (s.length : Int) < n + 3
    · exact .inl ⟨⟨1, n⟩, by simp, fun K => stepD_s1_short hb g0 g1 g2 h0 h2 h3 h4 hl⟩
    · obtain ⟨a1, x1, _⟩ := idx_at (l := s) (n := n + 1) (by omega) (by omega)
      obtain ⟨a2, x2, _⟩ := idx_at (l := s) (n := n + 2) (by omega) (by omega)
      exact .inr ⟨_, 3, by omega, by omega, rew_s1 hb g0 g2 h0 h2 x1 x2 (by omega), fun K => stepD_s1 hb g0 g1 g2 h0 h2 h3 h4 x1 x2 (by omega)⟩
  · by_cases hl : (s.length : Int) < n + 3
    · exact .inl ⟨⟨1, n⟩, by simp, fun K => stepD_s2_short hb g0 g1 g2 h0 h2 h3 h4 hl⟩
    · obtain ⟨a1, x1, _⟩ := idx_at (l := s) (n := n + 1) (by omega) (by omega)
      obtain ⟨a2, x2, _⟩ := idx_at (l := s) (n := n + 2) (by omega) (by omega)
      exact .inr ⟨_, 3, by omega, by omega, rew_s2 hb g0 g2 h0 h2 x1 x2 (by omega), fun K => stepD_s2 hb g0 g1 g2 h0 h2 h3 h4 x1 x2 (by omega)⟩
  · by_cases hl : (s.length : Int) < n + 2
    · exact .inl ⟨⟨1, n⟩, by simp, fun K => stepD_s3_short hb g0 g1 g2 h0 h2 h3 h4 hl⟩
    · obtain ⟨a1, x1, _⟩ := idx_at (l := s) (n := n + 1) (by omega) (by omega)
      exact .inr ⟨_, 2, by omega, by omega, rew_s3 hb g0 g2 h0 h2 x1 (by omega), fun K => stepD_s3 hb g0 g1 g2 h0 h2 h3 h4 x1 (by omega)⟩
  · by_cases hl : (s.length : Int) < n + 3
    · exact .inl ⟨⟨1, n⟩, by simp, fun K => stepD_s4_short hb g0 g1 g2 h0 h2 h3 h4 hl⟩
    · obtain ⟨a1, x1, _⟩ := idx_at (l := s) (n := n + 1) (by omega) (by omega)
      obtain ⟨a2, x2, _⟩ := idx_at (l := s) (n := n + 2) (by omega) (by omega)
      exact .inr ⟨_, 3, by omega, by omega, rew_s4 hb g0 g2 h0 h2 x1 x2 (by omega), fun K => stepD_s4 hb g0 g1 g2 h0 h2 h3 h4 x1 x2 (by omega)⟩

theorem dec_loop1 (g2 : s.length ≤ 200) (j : List Ins → Option (List Ins × Fault)) (hj : ∀ l, l.length ≤ 200 → ∃ r, j l = some r) : ∀ (k : Nat) (l : List Ins) (n : Int), Dec s l n → 0 ≤ n → n ≤ s.length → (l.length : Int) ≤ n → (s.length : Int) < n + k →
    ∃ r, code_Decode_L1 s j k l n = some r ∧ ((∃ l', Dec s l' s.length ∧ l'.length ≤ 200 ∧ j l' = some r) ∨ (r.1 = [] ∧ r.2.Err ≠ 0)) := by
  intro k
  induction k with
  | zero => intro l n _ g0 g1 _ h; exact absurd h (by omega)
  | succ k ih =>
    intro l n hd g0 g1 gl h
    rw [decL_step]
    by_cases hn : n < s.length
    · rw [decide_eq_true hn, cond_true]
      rcases step_dec g2 l n g0 hn with ⟨f, h0, hf⟩ | ⟨i, z, hz, hz2, hr, hD⟩
      · exact ⟨_, hf _, .inr ⟨rfl, h0⟩⟩
      · rw [hD, app_ok (by simp only [List.length_cons, List.length_nil]; omega)]
        exact ih (l ++ [i]) (n + z) (.snoc hd g0 hr hz) (by omega) hz2 (by simp only [List.length_append, List.length_cons, List.length_nil]; omega) (by omega)
    · rw [decide_eq_false hn, cond_false]
      obtain ⟨r, hr⟩ := hj l (by omega)
      exact ⟨r, hr, .inl ⟨l, by rwa [show (s.length : Int) = n by omega], by omega, hr⟩⟩

theorem dec_loop2 (F : Nat) (l : List Ins) (hl : l.length ≤ 200) (hF : ∀ q, ∃ i, R_PlaceOf F l q = some i) : ∀ (k : Nat) (n : Int), 0 ≤ n → n ≤ l.length → (l.length : Int) < n + k →
    ∃ r, code_Decode_L2 F l (fun l => some (l, ⟨0, 0⟩)) k l n = some r ∧ (r = (l, ⟨0, 0⟩) ∨ (r.1 = [] ∧ r.2.Err ≠ 0)) := by
  intro k
  induction k with
  | zero => intro n g0 g1 h; exact absurd h (by omega)
  | succ k ih =>
    intro n g0 g1 h
    rw [code_Decode_L2]
    by_cases hn : n < l.length
    · rw [decide_eq_true hn, cond_true]
      obtain ⟨x, hx, _⟩ := idx_at g0 hn
      obtain ⟨i, hi⟩ := hF x.A
      have hw : w64 (n + 1) = n + 1 := w64_lo (by omega) (by omega)
      obtain ⟨r, r1, r2⟩ := ih (n + 1) (by omega) (by omega) (by omega)
      have hG : R_GoesTo x.Op = some false ∨ R_GoesTo x.Op = some true := by
        unfold R_GoesTo
        cases decide (13 ≤ x.Op) <;> cases decide (x.Op ≤ 17) <;> simp
      have hP : code_Place F l x.A = some (cond (decide (i < 0)) (0, 5) (i, 0)) := by
        rw [place_same, hi]; simp only [Option.bind_some]; cases decide (i < 0) <;> rfl
      simp only [join]
      rw [hx]
      simp only [Option.bind_some]
      rw [hP, goes_same]
      simp only [Option.bind_some, hw]
      rcases hG with hG | hG
      · rw [hG]; exact ⟨r, r1, r2⟩
      · rw [hG]
        cases hi0 : decide (i < 0)
        · exact ⟨r, r1, r2⟩
        · exact ⟨_, rfl, .inr ⟨rfl, by simp⟩⟩
    · rw [decide_eq_false hn, cond_false]
      exact ⟨_, rfl, .inl rfl⟩

theorem decoded (s : List UInt8) (F : Nat) (hF : 300 ≤ F) : ∃ r, code_Decode F s = some r ∧ ((Dec s r.1 s.length ∧ s.length ≤ 200 ∧ r.1.length ≤ 200 ∧ s ≠ [] ∧ r.2.Err = 0) ∨ (r.1 = [] ∧ r.2.Err ≠ 0)) := by
  unfold code_Decode
  by_cases h1 : 200 < (s.length : Int)
  · rw [decide_eq_true h1]; exact ⟨_, rfl, .inr ⟨rfl, by simp⟩⟩
  · rw [decide_eq_false h1, cond_false]
    by_cases hs0 : s = []
    · rw [decide_eq_true hs0]; exact ⟨_, rfl, .inr ⟨rfl, by simp⟩⟩
    · rw [decide_eq_false hs0]
      simp only [cond_false, join]
      have hs : s.length ≤ 200 := by omega
      have h2 : ∀ l : List Ins, l.length ≤ 200 → ∃ r, code_Decode_L2 F l (fun l => some (l, ⟨0, 0⟩)) F l 0 = some r ∧ (r = (l, ⟨0, 0⟩) ∨ (r.1 = [] ∧ r.2.Err ≠ 0)) := fun l hl =>
        dec_loop2 F l hl (fun q => find_ends q l (by omega) F 0 (by omega) (by omega) (by omega)) F 0 (by omega) (by omega) (by omega)
      obtain ⟨r, hr, hc⟩ := dec_loop1 hs (fun l => code_Decode_L2 F l (fun l => some (l, ⟨0, 0⟩)) F l 0) (fun l hl => by obtain ⟨r, hr, _⟩ := h2 l hl; exact ⟨r, hr⟩) F [] 0 .nil (by omega) (by omega) (by simp) (by omega)
      refine ⟨r, hr, ?_⟩
      rcases hc with ⟨l', hd, hl', hj⟩ | hc
      · obtain ⟨r', hr', hc'⟩ := h2 l' hl'
        have : r = r' := by simpa using hj.symm.trans hr'
        subst this
        rcases hc' with rfl | hc'
        · exact .inl ⟨hd, hs, hl', hs0, rfl⟩
        · exact .inr hc'
      · exact .inr hc

theorem idx_mid {α : Type} (p q : List α) (x : α) : idx (p ++ x :: q) (p.length : Int) = some x := by
  unfold idx
  rw [if_pos (by omega)]
  simp

theorem enc_dec {l : List Ins} {n : Int} (h : Dec s l n) : ∀ (rest : List Ins) (k : Nat) (j : List UInt8 → Option (List UInt8 × Int)), l.length + rest.length ≤ 200 →
    code_Encode_L1 (l ++ rest) j (l.length + k) [] 0 = code_Encode_L1 (l ++ rest) j k (s.take n.toNat) l.length := by
  induction h with
  | nil => intro rest k j _; simp
  | @snoc l n z i h g0 hr hz ih =>
    intro rest k j hl
    simp only [List.length_append, List.length_cons, List.length_nil] at hl
    have := ih (i :: rest) (k + 1) j (by simp only [List.length_cons]; omega)
    rw [List.append_assoc, List.singleton_append, List.length_append, List.length_singleton, show l.length + 1 + k = l.length + (k + 1) by omega, this, encL_step, idx_mid]
    have hlt : (l.length : Int) < ((l ++ i :: rest).length : Int) := by simp only [List.length_append, List.length_cons]; omega
    rw [decide_eq_true hlt, cond_true]
    simp only [Option.bind_some]
    rw [hr.2, w64_lo (by omega) (by omega)]
    simp

theorem dec_sorted {l : List Ins} {n : Int} (h : Dec s l n) : (∀ x ∈ l, x.At < n) ∧ l.Pairwise (fun a b => a.At < b.At) ∧ (∀ x, l[0]? = some x → x.At = 0) ∧ (l = [] → n = 0) := by
  induction h with
  | nil => simp
  | @snoc l n z i h g0 hr hz ih =>
    obtain ⟨h1, h2, h3, h4⟩ := ih
    have hi : i.At = n := hr.1
    refine ⟨fun x hx => ?_, ?_, fun x hx => ?_, fun h => by simp at h⟩
    · rcases List.mem_append.1 hx with e | e
      · have := h1 x e; omega
      · simp at e; subst e; omega
    · rw [List.pairwise_append]
      exact ⟨h2, by simp, fun a ha b hb => by simp at hb; subst hb; have := h1 a ha; omega⟩
    · cases l with
      | nil => simp at hx; subst hx; rw [hi, h4 rfl]
      | cons y r => exact h3 x (by simpa using hx)

theorem sorted_at {l : List Ins} (h : l.Pairwise (fun a b => a.At < b.At)) {m n : Int} {x y : Ins} (hm : idx l m = some x) (hn : idx l n = some y) (hlt : m < n) : x.At < y.At := by
  obtain ⟨m0, m1, m2⟩ := idx_some hm
  obtain ⟨n0, n1, n2⟩ := idx_some hn
  have := List.pairwise_iff_getElem.1 h m.toNat n.toNat m1 n1 (by omega)
  rw [List.getElem?_eq_getElem m1] at m2
  rw [List.getElem?_eq_getElem n1] at n2
  simp only [Option.some.injEq] at m2 n2
  rwa [m2, n2] at this

theorem find_sorted {l : List Ins} (h : l.Pairwise (fun a b => a.At < b.At)) (hl : l.length ≤ 200) {m : Int} {x : Ins} (hm : idx l m = some x) : ∀ (k : Nat) (n : Int), 0 ≤ n → n ≤ m → m < n + k → R_PlaceOf_L1 x.At l (fun _ => some (-1)) k n = some m := by
  intro k
  obtain ⟨m0, m1, _⟩ := idx_some hm
  induction k with
  | zero => intro n g0 g1 h; exact absurd h (by omega)
  | succ k ih =>
    intro n g0 g1 hk
    rw [R_PlaceOf_L1]
    obtain ⟨y, hy, _⟩ := idx_at (l := l) (n := n) g0 (by omega)
    rw [decide_eq_true (show n < (l.length : Int) by omega), cond_true, hy]
    simp only [Option.bind_some]
    by_cases he : n = m
    · subst he
      have : y = x := by simpa using hy.symm.trans hm
      subst this
      rw [decide_eq_true rfl]; rfl
    · have := sorted_at h hy hm (by omega)
      rw [decide_eq_false (by omega), cond_false, w64_lo (by omega) (by omega)]
      exact ih (n + 1) (by omega) (by omega) (by omega)

theorem back_loop (F : Nat) (hF : 300 ≤ F) (r : List Ins × Fault) (h : r.1.Pairwise (fun a b => a.At < b.At)) (hl : r.1.length ≤ 200) : ∀ (k : Nat) (n : Int), 0 ≤ n → n ≤ r.1.length → (r.1.length : Int) < n + k → L_CodeBack_L1 F r (fun _ => some true) k n = some true := by
  intro k
  induction k with
  | zero => intro n g0 g1 h; exact absurd h (by omega)
  | succ k ih =>
    intro n g0 g1 hk
    rw [L_CodeBack_L1]
    by_cases hn : n < r.1.length
    · obtain ⟨x, hx, _⟩ := idx_at g0 hn
      have hP : code_Place F r.1 x.At = some (n, 0) := by
        have : R_PlaceOf F r.1 x.At = some n := find_sorted h hl hx F 0 (by omega) g0 (by omega)
        rw [place_same, this]
        simp only [Option.bind_some]
        rw [decide_eq_false (by omega), cond_false]
      rw [decide_eq_true hn, cond_true]
      simp only [join]
      rw [hx]
      simp only [Option.bind_some]
      rw [hP]
      simp only [Option.bind_some, decide_true, Bool.not_true, cond_false]
      have hw : w64 (n + 1) = n + 1 := w64_lo (by omega) (by omega)
      have go := ih (n + 1) (by omega) (by omega) (by omega)
      rw [hw]
      by_cases hp : 0 < n
      · obtain ⟨y, hy, _⟩ := idx_at (l := r.1) (n := n - 1) (by omega) (by omega)
        have := sorted_at h hy hx (by omega)
        rw [decide_eq_true hp, cond_true, w64_lo (by omega) (by omega), hy]
        simp only [Option.bind_some]
        rw [decide_eq_false (by omega), cond_false]
        exact go
      · rw [decide_eq_false hp, cond_false]
        exact go
    · rw [decide_eq_false hn]; rfl
end

theorem plain_CodeBack (s : List UInt8) (_ : s.length ≤ 9223372036854775807) : ∃ F, L_CodeBack F s = some true := by
  refine ⟨500 + 20, ?_⟩
  obtain ⟨r, hr, hc⟩ := decoded s (500 + 20) (by omega)
  unfold L_CodeBack
  rw [begun]
  simp only [Option.bind_some, Bool.not_true, cond_false]
  rw [hr]
  simp only [Option.bind_some]
  rcases hc with ⟨hd, hs, hl, hs0, he⟩ | ⟨h1, h2⟩
  · obtain ⟨_, p2, p3, p4⟩ := dec_sorted hd
    have hE : code_Encode (500 + 20) r.1 = some (s, 0) := by
      have := enc_dec hd [] (520 - r.1.length) (fun l => cond (decide (200 < (l.length : Int))) (some ([], 2)) (some (l, 0))) (by simpa using hl)
      rw [List.append_nil, show r.1.length + (520 - r.1.length) = 500 + 20 by omega] at this
      unfold code_Encode
      simp only [join]
      rw [this, show 520 - r.1.length = (519 - r.1.length) + 1 by omega, encL_step, decide_eq_false (by omega), cond_false]
      simp only [Int.toNat_natCast, List.take_length]
      rw [decide_eq_false (by omega), cond_false]
    have hne : r.1 ≠ [] := fun h => by
      have h5 := p4 h
      exact hs0 (List.eq_nil_of_length_eq_zero (by omega))
    have hpos : 0 < r.1.length := List.length_pos_iff.2 hne
    obtain ⟨x, hx, _⟩ := idx_at (l := r.1) (n := 0) (by omega) (by omega)
    have hx0 : x.At = 0 := p3 x (by have := (idx_some hx).2.2; simpa using this)
    rw [he]
    simp only [decide_true, Bool.not_true, cond_false]
    rw [hE]
    simp only [Option.bind_some, join, decide_true, Bool.not_true, cond_false]
    rw [decide_eq_false (by omega), cond_false, hx]
    simp only [Option.bind_some]
    rw [hx0]
    simp only [decide_true, Bool.not_true, cond_false]
    exact back_loop (500 + 20) (by omega) r p2 hl (500 + 20) 0 (by omega) (by omega) (by omega)
  · rw [decide_eq_false h2, h1]
    rfl
end Cin
