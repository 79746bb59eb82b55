/- Plain law, the link laws: checking what is linked. No program in sight. -/
import Derived.Test.YtfbkanhgjpdohaaPlainLk10
import Derived.Test.YtfbkanhgjpdohaaPureL8
namespace Cin
section
variable {F : Nat}
theorem eqInts {a b : List (Int)} (ha : Small F a.length) : slices_Equal_int_int F a b = some (decide (a = b)) := by
  unfold slices_Equal_int_int
  rw [len_dec]
  by_cases hl : a.length = b.length
  · rw [decide_eq_true hl]
    simp only [Bool.not_true, cond_false]
    rw [cmpL hl ha.1 (L := slices_Equal_int_int_L1 a b) (fun k i x y hx hy => by rw [slices_Equal_int_int_L1, lt_t (List.getElem?_eq_some_iff.1 hx).1, cond_true, idx_at hx, Option.bind_some, idx_at hy, Option.bind_some]) (fun k => by rw [slices_Equal_int_int_L1, lt_f]; rfl) ha.2, cmpR]
    by_cases h : a = b <;> simp [h]
  · rw [decide_eq_false hl, eq_len hl]; rfl
theorem eqFlds {a b : List (Field)} (ha : Small F a.length) : slices_Equal_api_Field_api_Field F a b = some (decide (a = b)) := by
  unfold slices_Equal_api_Field_api_Field
  rw [len_dec]
  by_cases hl : a.length = b.length
  · rw [decide_eq_true hl]
    simp only [Bool.not_true, cond_false]
    rw [cmpL hl ha.1 (L := slices_Equal_api_Field_api_Field_L1 a b) (fun k i x y hx hy => by rw [slices_Equal_api_Field_api_Field_L1, lt_t (List.getElem?_eq_some_iff.1 hx).1, cond_true, idx_at hx, Option.bind_some, idx_at hy, Option.bind_some]) (fun k => by rw [slices_Equal_api_Field_api_Field_L1, lt_f]; rfl) ha.2, cmpR]
    by_cases h : a = b <;> simp [h]
  · rw [decide_eq_false hl, eq_len hl]; rfl
theorem eqStrs {a b : List (List UInt8)} (ha : Small F a.length) : slices_Equal_string_string F a b = some (decide (a = b)) := by
  unfold slices_Equal_string_string
  rw [len_dec]
  by_cases hl : a.length = b.length
  · rw [decide_eq_true hl]
    simp only [Bool.not_true, cond_false]
    rw [cmpL hl ha.1 (L := slices_Equal_string_string_L1 a b) (fun k i x y hx hy => by rw [slices_Equal_string_string_L1, lt_t (List.getElem?_eq_some_iff.1 hx).1, cond_true, idx_at hx, Option.bind_some, idx_at hy, Option.bind_some]) (fun k => by rw [slices_Equal_string_string_L1, lt_f]; rfl) ha.2, cmpR]
    by_cases h : a = b <;> simp [h]
  · rw [decide_eq_false hl, eq_len hl]; rfl
theorem eqTgts {a b : List (Target)} (ha : Small F a.length) : slices_Equal_api_Target_api_Target F a b = some (decide (a = b)) := by
  unfold slices_Equal_api_Target_api_Target
  rw [len_dec]
  by_cases hl : a.length = b.length
  · rw [decide_eq_true hl]
    simp only [Bool.not_true, cond_false]
    rw [cmpL hl ha.1 (L := slices_Equal_api_Target_api_Target_L1 a b) (fun k i x y hx hy => by rw [slices_Equal_api_Target_api_Target_L1, lt_t (List.getElem?_eq_some_iff.1 hx).1, cond_true, idx_at hx, Option.bind_some, idx_at hy, Option.bind_some]) (fun k => by rw [slices_Equal_api_Target_api_Target_L1, lt_f]; rfl) ha.2, cmpR]
    by_cases h : a = b <;> simp [h]
  · rw [decide_eq_false hl, eq_len hl]; rfl
theorem eqFldss {a b : List (List Field)} (ha : Small F a.length) (hx : ∀ x ∈ a, Small F x.length) : slices_EqualFunc_api_Field_api_Field_api_Field_api_Field__slices_Equal_api_Field_api_Field F a b = some (decide (a = b)) := by
  unfold slices_EqualFunc_api_Field_api_Field_api_Field_api_Field__slices_Equal_api_Field_api_Field
  rw [len_dec]
  by_cases hl : a.length = b.length
  · rw [decide_eq_true hl]
    simp only [Bool.not_true, cond_false]
    rw [cmpL hl ha.1 (L := slices_EqualFunc_api_Field_api_Field_api_Field_api_Field__slices_Equal_api_Field_api_Field_L1 F a b) (fun k i x y h1 h2 => by rw [slices_EqualFunc_api_Field_api_Field_api_Field_api_Field__slices_Equal_api_Field_api_Field_L1, lt_t (List.getElem?_eq_some_iff.1 h1).1, cond_true, idx_at h1, Option.bind_some, idx_at h2, Option.bind_some, eqFlds (hx x (List.mem_of_getElem? h1)), Option.bind_some]) (fun k => by rw [slices_EqualFunc_api_Field_api_Field_api_Field_api_Field__slices_Equal_api_Field_api_Field_L1, lt_f]; rfl) ha.2, cmpR]
    by_cases h : a = b <;> simp [h]
  · rw [decide_eq_false hl, eq_len hl]; rfl
theorem eqStrss {a b : List (List (List UInt8))} (ha : Small F a.length) (hx : ∀ x ∈ a, Small F x.length) : slices_EqualFunc_string_string_string_string__slices_Equal_string_string F a b = some (decide (a = b)) := by
  unfold slices_EqualFunc_string_string_string_string__slices_Equal_string_string
  rw [len_dec]
  by_cases hl : a.length = b.length
  · rw [decide_eq_true hl]
    simp only [Bool.not_true, cond_false]
    rw [cmpL hl ha.1 (L := slices_EqualFunc_string_string_string_string__slices_Equal_string_string_L1 F a b) (fun k i x y h1 h2 => by rw [slices_EqualFunc_string_string_string_string__slices_Equal_string_string_L1, lt_t (List.getElem?_eq_some_iff.1 h1).1, cond_true, idx_at h1, Option.bind_some, idx_at h2, Option.bind_some, eqStrs (hx x (List.mem_of_getElem? h1)), Option.bind_some]) (fun k => by rw [slices_EqualFunc_string_string_string_string__slices_Equal_string_string_L1, lt_f]; rfl) ha.2, cmpR]
    by_cases h : a = b <;> simp [h]
  · rw [decide_eq_false hl, eq_len hl]; rfl
theorem eqTgtss {a b : List (List Target)} (ha : Small F a.length) (hx : ∀ x ∈ a, Small F x.length) : slices_EqualFunc_api_Target_api_Target_api_Target_api_Target__slices_Equal_api_Target_api_Target F a b = some (decide (a = b)) := by
  unfold slices_EqualFunc_api_Target_api_Target_api_Target_api_Target__slices_Equal_api_Target_api_Target
  rw [len_dec]
  by_cases hl : a.length = b.length
  · rw [decide_eq_true hl]
    simp only [Bool.not_true, cond_false]
    rw [cmpL hl ha.1 (L := slices_EqualFunc_api_Target_api_Target_api_Target_api_Target__slices_Equal_api_Target_api_Target_L1 F a b) (fun k i x y h1 h2 => by rw [slices_EqualFunc_api_Target_api_Target_api_Target_api_Target__slices_Equal_api_Target_api_Target_L1, lt_t (List.getElem?_eq_some_iff.1 h1).1, cond_true, idx_at h1, Option.bind_some, idx_at h2, Option.bind_some, eqTgts (hx x (List.mem_of_getElem? h1)), Option.bind_some]) (fun k => by rw [slices_EqualFunc_api_Target_api_Target_api_Target_api_Target__slices_Equal_api_Target_api_Target_L1, lt_f]; rfl) ha.2, cmpR]
    by_cases h : a = b <;> simp [h]
  · rw [decide_eq_false hl, eq_len hl]; rfl
theorem same_eq {a b : Linked} (ha : LFits F a) : link_same F a b = some (decide (a.Supers = b.Supers ∧ a.Fields = b.Fields ∧ a.Names = b.Names ∧ a.Targets = b.Targets)) := by
  unfold link_same
  rw [eqInts ha.supers, Option.bind_some]
  by_cases e1 : a.Supers = b.Supers
  case neg => rw [decide_eq_false e1, decide_eq_false (fun e => e1 e.1)]; rfl
  rw [decide_eq_true e1, cond_true, eqFldss ha.fields ha.field, Option.bind_some]
  by_cases e2 : a.Fields = b.Fields
  case neg => rw [decide_eq_false e2, decide_eq_false (fun e => e2 e.2.1)]; rfl
  rw [decide_eq_true e2, cond_true, eqStrss ha.names ha.name, Option.bind_some]
  by_cases e3 : a.Names = b.Names
  case neg => rw [decide_eq_false e3, decide_eq_false (fun e => e3 e.2.2.1)]; rfl
  rw [decide_eq_true e3, cond_true, eqTgtss ha.targets ha.target, Option.bind_some]
  congr 1
  rw [Bool.eq_iff_iff]
  simp [e1, e2, e3]
/-- What is found of what is linked, by both. -/
theorem check_link {k : Linked} (hF : 1100 < F) (hc : Fits F k.Classes) (hk : LFits F k) : ∃ e, link_Check F k = some e ∧ R_CheckLinked F k = some e ∧ ((e = 4) ∨ (e = 0 ∧ Hangs k.Classes ∧ k = linked k.Classes)) := by
  obtain ⟨r, h1, h2, h3, h4⟩ := link_both hF hc
  unfold link_Check R_CheckLinked
  rw [h1, h2, Option.bind_some, Option.bind_some]
  by_cases h0 : r.2 = 0
  case neg => rw [ne_cond h0, ne_cond h0]; exact ⟨4, rfl, rfl, .inl rfl⟩
  obtain ⟨hH, e⟩ := h3 h0
  have s1 : link_same F (⟨k.Classes, k.Supers, k.Fields, k.Names, k.Targets⟩ : Linked) (⟨r.1.Classes, r.1.Supers, r.1.Fields, r.1.Names, r.1.Targets⟩ : Linked) = some (decide (k.Supers = r.1.Supers ∧ k.Fields = r.1.Fields ∧ k.Names = r.1.Names ∧ k.Targets = r.1.Targets)) := same_eq (a := k) (b := r.1) hk
  have s2 : R_SameLinked F (⟨k.Classes, k.Supers, k.Fields, k.Names, k.Targets⟩ : Linked) (⟨r.1.Classes, r.1.Supers, r.1.Fields, r.1.Names, r.1.Targets⟩ : Linked) = some (decide (k.Supers = r.1.Supers ∧ k.Fields = r.1.Fields ∧ k.Names = r.1.Names ∧ k.Targets = r.1.Targets)) := sameLinked (a := k) (b := r.1) hk (by rw [e]; exact same_self hc)
  rw [s1, s2, h0]; simp only [eq_cond, Option.bind_some]
  by_cases hs : k.Supers = r.1.Supers ∧ k.Fields = r.1.Fields ∧ k.Names = r.1.Names ∧ k.Targets = r.1.Targets
  · rw [decide_eq_true hs]
    refine ⟨0, rfl, rfl, .inr ⟨rfl, hH, ?_⟩⟩
    obtain ⟨e1, e2, e3, e4⟩ := hs
    rw [e] at e1 e2 e3 e4
    obtain ⟨a, b, c, d, f⟩ := k
    simp only at e1 e2 e3 e4
    subst e1 e2 e3 e4
    rfl
  · rw [decide_eq_false hs]
    exact ⟨4, rfl, rfl, .inl rfl⟩
/-- What was linked passes. -/
theorem check_linked {l : List Class} (hF : 1100 < F) (hH : Hangs l) (h : link_Link F l = some (linked l, 0)) : link_Check F (linked l) = some 0 := by
  unfold link_Check
  have h' : link_Link F (linked l).Classes = some (linked l, 0) := h
  rw [h', Option.bind_some]
  have s1 := same_eq (F := F) (a := linked l) (b := linked l) (linked_fits hF hH)
  rw [decide_eq_true ⟨rfl, rfl, rfl, rfl⟩] at s1
  show cond (!decide ((0 : Int) = 0)) _ ((link_same F (linked l) (linked l)).bind _) = _
  rw [eq_cond, s1]
  rfl
end
end Cin
