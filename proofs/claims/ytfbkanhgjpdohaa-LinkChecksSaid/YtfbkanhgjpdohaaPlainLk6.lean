/- Plain law, the link laws: tables of a class. No program in sight. -/
import Derived.Test.YtfbkanhgjpdohaaPlainLk5
namespace Cin
section
variable {F : Nat} {l : List Class}
abbrev Tb := List (List UInt8) × List Target
def isS (nm : List UInt8) (x : List UInt8) : Bool := decide (nm = x)
/-- A name gets what stands for it. -/
def addT (p : Tb) (nm : List UInt8) (t : Target) : Tb := match posP (isS nm) p.1 with
  | some k => (p.1, p.2.set k t)
  | none => (p.1 ++ [nm], p.2 ++ [t])
def addM (ci : Int) : List Method → Nat → Tb → Tb
  | [], _, p => p
  | m :: r, k, p => addM ci r (k + 1) (addT p m.Name ⟨ci, k⟩)
def ms (l : List Class) (i : Int) : List Method := ((idx l i).map (·.Methods)).getD []
def addC (l : List Class) : List Int → Tb → Tb
  | [], p => p
  | ci :: r, p => addC l r (addM ci (ms l ci) 0 p)
def tab (l : List Class) (n : Int) : Tb := addC l (chn l n).reverse ([], [])
theorem addT_len {p : Tb} {nm : List UInt8} {t : Target} (h : p.1.length = p.2.length) : (addT p nm t).1.length = (addT p nm t).2.length ∧ (addT p nm t).1.length ≤ p.1.length + 1 := by
  unfold addT
  cases posP (isS nm) p.1 with
  | some k => simp [h]
  | none => simp [h]
theorem addM_len {ci : Int} : ∀ {r : List Method} {k : Nat} {p : Tb}, p.1.length = p.2.length → (addM ci r k p).1.length = (addM ci r k p).2.length ∧ (addM ci r k p).1.length ≤ p.1.length + r.length
  | [], _, p, h => ⟨h, Nat.le_refl _⟩
  | m :: r, k, p, h => by
    obtain ⟨h1, h2⟩ := addT_len (nm := m.Name) (t := ⟨ci, k⟩) h
    obtain ⟨h3, h4⟩ := addM_len (ci := ci) (r := r) (k := k + 1) h1
    exact ⟨h3, by simp only [addM, List.length_cons]; omega⟩
theorem index_eq {ns : List (List UInt8)} (h : Small F ns.length) (nm : List UInt8) : slices_Index_string_string F ns nm = some (((posP (isS nm) ns).map fun n : Nat => (n : Int)).getD (-1)) := by
  unfold slices_Index_string_string
  have l1 : slices_Index_string_string_L1 ns nm F 0 = some (wo ((posP (isS nm) ns).map fun n : Nat => (n : Int))) := findI (isS nm) _ h.1 (fun k i x hx => by
    rw [slices_Index_string_string_L1, lt_t (List.getElem?_eq_some_iff.1 hx).1, cond_true, idx_at hx, Option.bind_some]; rfl) (fun k => by rw [slices_Index_string_string_L1, lt_f]; rfl) h.2
  rw [l1, sr_wo]
  cases posP (isS nm) ns <;> rfl
theorem table_L2 (hF : 1100 < F) (ci : Int) (c : Class) (hc : c.Methods.length ≤ 8) : ∀ (d i f : Nat) (p : Tb), i + d = c.Methods.length → d < f → p.1.length = p.2.length → p.1.length + d ≤ 1000 →
    link_linker_table_L2 F ci c f p.1 p.2 (i : Int) = some (addM ci (c.Methods.drop i) i p)
  | 0, i, f, p, hi, hf, hp, _ => by
    obtain ⟨f, rfl⟩ : ∃ f', f = f' + 1 := ⟨f - 1, by omega⟩
    have : i = c.Methods.length := by omega
    subst this
    rw [link_linker_table_L2, lt_f, List.drop_of_length_le (Nat.le_refl _)]; rfl
  | d + 1, i, f, p, hi, hf, hp, hl => by
    obtain ⟨f, rfl⟩ : ∃ f', f = f' + 1 := ⟨f - 1, by omega⟩
    have hil : i < c.Methods.length := by omega
    obtain ⟨h1, h2⟩ := addT_len (nm := c.Methods[i].Name) (t := ⟨ci, i⟩) hp
    have next := table_L2 hF ci c hc d (i + 1) f (addT p c.Methods[i].Name ⟨ci, i⟩) (by omega) (by omega) h1 (by omega)
    rw [link_linker_table_L2, lt_t hil, cond_true, idx_at (List.getElem?_eq_getElem hil), Option.bind_some, index_eq ⟨by omega, by omega⟩, Option.bind_some, List.drop_eq_getElem_cons hil, addM, ← next]
    unfold addT
    cases hp2 : posP (isS c.Methods[i].Name) p.1 with
    | some k =>
      have hk := posP_lt hp2
      simp only [Option.map_some, Option.getD_some]
      rw [decide_eq_true (show (0 : Int) ≤ (k : Int) by omega), cond_true, idx_at (List.getElem?_eq_getElem (show k < p.2.length by omega)), Option.bind_some, Option.bind_some, Option.bind_some, w64_up hil (by omega)]
      simp
    | none =>
      simp only [Option.map_none, Option.getD_none]
      rw [decide_eq_false (show ¬ (0 : Int) ≤ -1 by decide), cond_false]
      unfold app
      rw [if_pos (by simp only [List.length_cons, List.length_nil]; omega), Option.bind_some, if_pos (by simp only [List.length_cons, List.length_nil]; omega), Option.bind_some, Option.bind_some, w64_up hil (by omega)]
theorem ms_len (h : Right l) (i : Int) : (ms l i).length ≤ 8 := by
  unfold ms
  cases hx : idx l i with
  | none => simp
  | some x =>
    obtain ⟨_, _, h2⟩ := idx_some hx
    exact h.methods x (List.mem_of_getElem? h2)
theorem table_L1 (hF : 1100 < F) (h : Right l) (m : List (List UInt8 × Int)) (s : List Int) : ∀ (rem : List Int) (p : Tb), (∀ x ∈ rem, 0 ≤ x ∧ x < l.length) → p.1.length = p.2.length → p.1.length + 8 * rem.length ≤ 900 →
    link_linker_table_L1 F ⟨l, m, s⟩ rem p.1 p.2 = some (addC l rem p)
  | [], p, _, _, _ => by simp [link_linker_table_L1, addC]
  | x :: rem, p, hx, hp, hl => by
    obtain ⟨c, hc, _⟩ := sups_idx (l := l) (hx x (by simp)).1 (hx x (by simp)).2
    have hm : ms l x = c.Methods := by unfold ms; rw [hc]; rfl
    have h8 := ms_len h x
    have h8' := h8
    rw [hm] at h8'
    simp only [List.length_cons] at hl
    obtain ⟨g1, g2⟩ := addM_len (ci := x) (r := ms l x) (k := 0) hp
    rw [link_linker_table_L1]
    show (Option.bind (α := (List (List UInt8)) × (List Target)) ((idx l x).bind fun x8241_ => _) _) = _
    rw [hc, Option.bind_some]
    have := table_L2 hF x c h8' c.Methods.length 0 F p (by omega) (by omega) hp (by omega)
    rw [show ((0 : Nat) : Int) = 0 from rfl] at this
    rw [this, List.drop_zero, Option.bind_some, Option.bind_some, addC, ← hm]
    exact table_L1 hF h m s rem _ (fun y hy => hx y (by simp [hy])) g1 (by omega)
theorem Hangs.link_table (h : Hangs l) (hF : 1100 < F) (m : List (List UInt8 × Int)) {n : Int} (h0 : 0 ≤ n) (h1 : n < l.length) : link_linker_table F ⟨l, m, sups l⟩ n = some (tab l n) := by
  obtain ⟨_, hl, hm⟩ := h.chain h0 h1
  unfold link_linker_table
  have := h.link_chain hF m h0 h1
  simp only at this ⊢
  rw [this, Option.bind_some]
  unfold slices_Backward_int_int
  rw [Option.bind_some, table_L1 hF h.right m (sups l) _ ([], []) (fun x hx => hm x (by simpa using hx)) rfl (by simp; omega)]
  rfl
/-! The second reading. -/
theorem tof_L3 (ns : List (List UInt8)) (m : Method) (h : Small F ns.length) : R_TableOf_L3 ns m F 0 = some (((posP (isS m.Name) ns).getD ns.length : Nat) : Int) := by
  have key : ∀ (d i f : Nat), i + d = ns.length → d < f → R_TableOf_L3 ns m f (i : Int) = some ((i + (posP (isS m.Name) (ns.drop i)).getD d : Nat) : Int) := by
    intro d
    induction d with
    | zero =>
      intro i f hi hf
      obtain ⟨f, rfl⟩ : ∃ f', f = f' + 1 := ⟨f - 1, by omega⟩
      have : i = ns.length := by omega
      subst this
      rw [R_TableOf_L3, lt_f, List.drop_of_length_le (Nat.le_refl _)]; rfl
    | succ d ih =>
      intro i f hi hf
      obtain ⟨f, rfl⟩ : ∃ f', f = f' + 1 := ⟨f - 1, by omega⟩
      have hil : i < ns.length := by omega
      rw [R_TableOf_L3, lt_t hil, cond_true, idx_at (List.getElem?_eq_getElem hil), Option.bind_some, List.drop_eq_getElem_cons hil, posP]
      by_cases e : ns[i] = m.Name
      · rw [decide_eq_true e, if_pos (by simp [isS, e])]; simp
      · rw [decide_eq_false e, if_neg (by simp [isS]; exact fun h => e h.symm)]
        simp only [Bool.not_false, cond_true]
        rw [w64_up hil h.1, ih (i + 1) f (by omega) (by omega)]
        congr 2
        cases posP (isS m.Name) (ns.drop (i + 1)) with
        | none => simp; omega
        | some k => simp; omega
  have := key ns.length 0 F (by omega) h.2
  simpa using this
theorem tof_L2 (hF : 1100 < F) (r3 : List Int) (n : Nat) (ci : Int) (c : Class) (hr : r3[n]? = some ci) (hci : idx l ci = some c) (hc : c.Methods.length ≤ 8) : ∀ (d i f : Nat) (p : Tb), i + d = c.Methods.length → d < f → p.1.length = p.2.length → p.1.length + d ≤ 1000 →
    R_TableOf_L2 F l r3 (n : Int) f p.2 p.1 (i : Int) = some ((addM ci (c.Methods.drop i) i p).2, (addM ci (c.Methods.drop i) i p).1)
  | 0, i, f, p, hi, hf, hp, _ => by
    obtain ⟨f, rfl⟩ : ∃ f', f = f' + 1 := ⟨f - 1, by omega⟩
    have : i = c.Methods.length := by omega
    subst this
    rw [R_TableOf_L2, idx_at hr, Option.bind_some, hci, Option.bind_some, lt_f, List.drop_of_length_le (Nat.le_refl _)]; rfl
  | d + 1, i, f, p, hi, hf, hp, hl => by
    obtain ⟨f, rfl⟩ : ∃ f', f = f' + 1 := ⟨f - 1, by omega⟩
    have hil : i < c.Methods.length := by omega
    obtain ⟨h1, h2⟩ := addT_len (nm := c.Methods[i].Name) (t := ⟨ci, i⟩) hp
    have next := tof_L2 hF r3 n ci c hr hci hc d (i + 1) f (addT p c.Methods[i].Name ⟨ci, i⟩) (by omega) (by omega) h1 (by omega)
    rw [R_TableOf_L2, idx_at hr, Option.bind_some, hci, Option.bind_some, lt_t hil, cond_true, Option.bind_some, hci, Option.bind_some, idx_at (List.getElem?_eq_getElem hil), Option.bind_some, tof_L3 p.1 _ ⟨by omega, by omega⟩, Option.bind_some, List.drop_eq_getElem_cons hil, addM, ← next]
    unfold addT
    cases hp2 : posP (isS c.Methods[i].Name) p.1 with
    | some k =>
      have hk := posP_lt hp2
      simp only [Option.getD_some]
      rw [decide_eq_false (show ¬ ((k : Nat) : Int) = (p.1.length : Int) by omega), cond_false, Option.bind_some]
      simp only [idx_at hr, Option.bind_some]
      rw [idx_at (List.getElem?_eq_getElem (show k < p.2.length by omega)), Option.bind_some, Option.bind_some, w64_up hil (by omega)]
      simp
    | none =>
      simp only [Option.getD_none, decide_true, cond_true]
      unfold app
      rw [if_pos (by simp only [List.length_cons, List.length_nil]; omega), Option.bind_some, if_pos (by simp only [List.length_cons, List.length_nil]; omega), Option.bind_some, Option.bind_some]
      simp only [idx_at hr, Option.bind_some]
      rw [idx_at (i := p.1.length) (x := (⟨0, 0⟩ : Target)) (by rw [hp]; simp), Option.bind_some, Option.bind_some, w64_up hil (by omega)]
      simp [hp, List.set_append]
theorem Hangs.ref_table (h : Hangs l) (hF : 1100 < F) {n : Int} (h0 : 0 ≤ n) (h1 : n < l.length) : R_TableOf F l n = some (tab l n) := by
  obtain ⟨_, hl, hm⟩ := h.chain h0 h1
  unfold R_TableOf
  rw [upfrom_eq hF h.right h1, Option.bind_some]
  have key : ∀ (d i f : Nat) (p : Tb), i + d = (chn l n).reverse.length → d < f → p.1.length = p.2.length → p.1.length + 8 * d ≤ 900 → R_TableOf_L1 F l (chn l n).reverse f p.2 p.1 (i : Int) = some ((addC l ((chn l n).reverse.drop i) p).2, (addC l ((chn l n).reverse.drop i) p).1) := by
    intro d
    induction d with
    | zero =>
      intro i f p hi hf _ _
      obtain ⟨f, rfl⟩ : ∃ f', f = f' + 1 := ⟨f - 1, by omega⟩
      have : i = (chn l n).reverse.length := by omega
      subst this
      rw [R_TableOf_L1, lt_f, List.drop_of_length_le (Nat.le_refl _)]; rfl
    | succ d ih =>
      intro i f p hi hf hp hpl
      obtain ⟨f, rfl⟩ : ∃ f', f = f' + 1 := ⟨f - 1, by omega⟩
      have hil : i < (chn l n).reverse.length := by omega
      obtain ⟨ci, hci⟩ : ∃ x, (chn l n).reverse[i]? = some x := ⟨(chn l n).reverse[i], List.getElem?_eq_getElem hil⟩
      have hb := hm ci (by simpa using List.mem_of_getElem? hci)
      obtain ⟨c, hc, _⟩ := sups_idx (l := l) hb.1 hb.2
      have hmm : ms l ci = c.Methods := by unfold ms; rw [hc]; rfl
      have h8 := ms_len h.right ci
      have h8' := h8
      rw [hmm] at h8'
      obtain ⟨g1, g2⟩ := addM_len (ci := ci) (r := ms l ci) (k := 0) hp
      have t2 := tof_L2 (l := l) hF (chn l n).reverse i ci c hci hc h8' c.Methods.length 0 F p (by omega) (by omega) hp (by omega)
      rw [show ((0 : Nat) : Int) = 0 from rfl] at t2
      have hgi : (chn l n).reverse[i] = ci := by
        have := List.getElem?_eq_getElem hil
        rw [hci] at this; exact (Option.some.inj this).symm
      rw [R_TableOf_L1, lt_t hil, cond_true, t2, List.drop_zero, Option.bind_some, Option.bind_some, w64_up (n := (chn l n).length) (by simpa using hil) (by omega), List.drop_eq_getElem_cons hil, hgi, addC, hmm]
      rw [hmm] at g1 g2
      exact ih (i + 1) f _ (by omega) (by omega) g1 (by omega)
  have := key (chn l n).reverse.length 0 F ([], []) (by omega) (by simp; omega) rfl (by simp; omega)
  rw [show ((0 : Nat) : Int) = 0 from rfl, List.drop_zero] at this
  simp only at this
  rw [this]; rfl
end
end Cin
