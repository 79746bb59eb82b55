/- Plain law, the link laws: both roads up are the same; fields of a class. No program in sight. -/
import Derived.Test.YtfbkanhgjpdohaaPlainLk4
namespace Cin
section
variable {F : Nat} {l : List Class}
theorem sups_len : (sups l).length = l.length := by simp [sups]
theorem sups_idx {n : Int} (h0 : 0 ≤ n) (h1 : n < l.length) : ∃ x, idx l n = some x ∧ idx (sups l) n = some (clAt l x.Super) := by
  obtain ⟨x, hx⟩ : ∃ x, l[n.toNat]? = some x := ⟨l[n.toNat]'(by omega), List.getElem?_eq_getElem _⟩
  refine ⟨x, ?_, ?_⟩
  · unfold idx; rw [if_pos h0, hx]
  · unfold idx; rw [if_pos h0, sups_at hx]
def upw (o : Option (List Int)) (acc : List Int) : Way (List Int) (List Int) := match o with
  | some c => .go (c.reverse ++ acc)
  | none => .out []
def chn (l : List Class) (n : Int) : List Int := (upl (sups l) l.length n).getD []
theorem upfrom_eq (hF : 1100 < F) (h : Right l) {n : Int} (h1 : n < l.length) : R_UpFrom F l n = some (chn l n).reverse := by
  have hlen := h.len
  have key : ∀ (d : Nat) (acc : List Int) (n : Int) (f : Nat), acc.length + d = l.length + 1 → d + 1 < f → n < l.length → R_UpFrom_L1 F l f n acc = some (upw (upl (sups l) d n) acc) := by
    intro d
    induction d with
    | zero =>
      intro acc n f ha hf hn
      obtain ⟨f, rfl⟩ : ∃ f', f = f' + 1 := ⟨f - 1, by omega⟩
      rw [R_UpFrom_L1, upl]
      by_cases h0 : n < 0
      · rw [if_pos h0, decide_eq_false (by omega)]; rfl
      · rw [if_neg h0, decide_eq_true (by omega), cond_true, decide_eq_true (by omega)]; rfl
    | succ d ih =>
      intro acc n f ha hf hn
      obtain ⟨f, rfl⟩ : ∃ f', f = f' + 1 := ⟨f - 1, by omega⟩
      rw [R_UpFrom_L1, upl]
      by_cases h0 : n < 0
      · rw [if_pos h0, decide_eq_false (by omega)]; rfl
      · obtain ⟨x, hx, hs⟩ := sups_idx (l := l) (n := n) (by omega) hn
        rw [if_neg h0, decide_eq_true (by omega), cond_true, decide_eq_false (by omega), cond_false]
        unfold app
        rw [if_pos (by simp only [List.length_cons, List.length_nil]; omega)]
        show ((some ([n] ++ acc)).bind fun l182_ => (idx l n).bind fun x187_ => _) = _
        rw [Option.bind_some, hx, Option.bind_some, R_ClassAt_eq ⟨by omega, by omega⟩, Option.bind_some, hs, Option.bind_some, ih ([n] ++ acc) _ f (by simp only [List.length_append, List.length_cons, List.length_nil]; omega) (by omega) clAt_lt]
        cases upl (sups l) d (clAt l x.Super) with
        | none => rfl
        | some c => simp [upw]
  unfold R_UpFrom
  rw [key (l.length + 1) [] n F (by simp) (by omega) h1, upl_len (k := l.length + 1) (by rw [sups_len]; omega), sups_len]
  unfold chn
  cases upl (sups l) l.length n with
  | none => rfl
  | some c => simp [upw, seqR]
def cycE (l : List Class) (i : Nat) : Option Int := if (upl (sups l) l.length (i : Int)).isSome then none else some 4
theorem upl_ne {S : List Int} {k : Nat} {n : Int} {c : List Int} (h : upl S k n = some c) (h0 : 0 ≤ n) : ∃ r, c = n :: r := by
  cases k with
  | zero => simp only [upl] at h; rw [if_neg (by omega)] at h; cases h
  | succ k =>
    rw [upl, if_neg (by omega)] at h
    cases hi : idx S n with
    | none => rw [hi] at h; cases h
    | some m =>
      rw [hi, Option.bind_some] at h
      cases hu : upl S k m with
      | none => rw [hu] at h; cases h
      | some c' => rw [hu] at h; simp only [Option.map_some, Option.some.injEq] at h; exact ⟨c', h.symm⟩
theorem cyc_R (hF : 1100 < F) (h : Right l) : R_CheckLink_L4 F l F 0 = some (wo ((List.range l.length).findSome? (cycE l))) := eachN _ (by have := h.len; omega) (fun k i hi => by
  rw [R_CheckLink_L4, lt_t hi, cond_true, upfrom_eq hF h (by omega), Option.bind_some]
  unfold cycE chn
  cases hu : upl (sups l) l.length (i : Int) with
  | none => rfl
  | some c =>
    obtain ⟨r, rfl⟩ := upl_ne hu (by omega)
    rw [decide_eq_false (by simp; omega)]
    rfl) (fun k => by rw [R_CheckLink_L4, lt_f]; rfl) (by have := h.len; omega)
theorem cyc_L4 (h : Right l) (m : List (List UInt8 × Int)) (s : List Int) : ∀ (d i f : Nat) (n : Int), i + d = l.length → d < f → 0 ≤ n → n < l.length → ∃ r, link_linker_above_L4 ⟨l, m, s⟩ (sups l) f n i = some r ∧ (r < 0 ↔ (upl (sups l) d n).isSome = true)
  | 0, i, f, n, hi, hf, h0, hn => by
    obtain ⟨f, rfl⟩ : ∃ f', f = f' + 1 := ⟨f - 1, by omega⟩
    have : i = l.length := by omega
    subst this
    refine ⟨n, ?_, ?_⟩
    · rw [link_linker_above_L4]
      show cond (decide ((l.length : Int) < (l.length : Int))) _ _ = _
      rw [lt_f]; rfl
    · rw [upl, if_neg (by omega)]; simp; omega
  | d + 1, i, f, n, hi, hf, h0, hn => by
    obtain ⟨f, rfl⟩ : ∃ f', f = f' + 1 := ⟨f - 1, by omega⟩
    obtain ⟨x, hx, hs⟩ := sups_idx (l := l) (n := n) h0 hn
    have hlen := h.len
    rw [link_linker_above_L4]
    have hc : decide ((i : Int) < ((⟨l, m, s⟩ : link_linker).l.length : Int)) = true := lt_t (n := l.length) (by omega)
    rw [hc, cond_true, hs, Option.bind_some, upl, if_neg (by omega), hs, Option.bind_some]
    by_cases hneg : clAt l x.Super < 0
    · rw [decide_eq_true hneg, cond_true]
      refine ⟨_, rfl, ?_⟩
      have : upl (sups l) d (clAt l x.Super) = some [] := by cases d <;> simp [upl, hneg]
      rw [this]; simp [hneg]
    · rw [decide_eq_false hneg, cond_false, w64_up (n := l.length) (by omega) (by omega)]
      obtain ⟨r, h1, h2⟩ := cyc_L4 h m s d (i + 1) f (clAt l x.Super) (by omega) (by omega) (by omega) clAt_lt
      refine ⟨r, h1, h2.trans ?_⟩
      simp
theorem cyc_L (hF : 1100 < F) (h : Right l) (m : List (List UInt8 × Int)) (s : List Int) : link_linker_above_L3 F ⟨l, m, s⟩ (sups l) F 0 = some (wo (((List.range l.length).findSome? (cycE l)).map fun e => (e, (⟨l, m, sups l⟩ : link_linker)))) := by
  have hlen := h.len
  have := eachN (n := l.length) (L := link_linker_above_L3 F ⟨l, m, s⟩ (sups l)) (fun i => (cycE l i).map fun e => (e, (⟨l, m, sups l⟩ : link_linker))) (by omega) (fun k i hi => by
    rw [link_linker_above_L3]
    have hc : decide ((i : Int) < ((⟨l, m, s⟩ : link_linker).l.length : Int)) = true := lt_t (n := l.length) hi
    obtain ⟨r, h1, h2⟩ := cyc_L4 h m s l.length 0 F (i : Int) (by omega) (by omega) (by omega) (by omega)
    rw [hc, cond_true, show (0 : Int) = ((0 : Nat) : Int) from rfl, h1]
    simp only [Option.bind_some]
    unfold cycE
    cases hu : (upl (sups l) l.length (i : Int)).isSome with
    | true => rw [if_pos rfl, decide_eq_false (show ¬ ((0 : Nat) : Int) ≤ r from fun hr => by have := h2.2 hu; omega)]; rfl
    | false => rw [if_neg (by simp), decide_eq_true (show ((0 : Nat) : Int) ≤ r from by
        rcases Int.lt_or_le r 0 with hr | hr
        · have := h2.1 hr; rw [hu] at this; cases this
        · exact hr)]; rfl) (fun k => by
      rw [link_linker_above_L3]
      show cond (decide ((l.length : Int) < (l.length : Int))) _ _ = _
      rw [lt_f]; rfl) (F := F) (by omega)
  rw [this, fs_map]

/-! ### Classes that hang together -/
structure Hangs (l : List Class) : Prop where
  right : Right l
  once : Once l
  mis : ∀ c ∈ l, c.Super = [] ∨ 0 ≤ clAt l c.Super
  up : ∀ i, i < l.length → ∃ c, upl (sups l) l.length (i : Int) = some c
  top : ∀ c ∈ l, topE c = none
  obj : 0 ≤ clAt l [79, 98, 106, 101, 99, 116]
theorem Hangs.chain (h : Hangs l) {n : Int} (h0 : 0 ≤ n) (h1 : n < l.length) : upl (sups l) l.length n = some (chn l n) ∧ (chn l n).length ≤ 10 ∧ (∀ x ∈ chn l n, 0 ≤ x ∧ x < l.length) := by
  obtain ⟨c, hc⟩ := h.up n.toNat (by omega)
  rw [show ((n.toNat : Nat) : Int) = n by omega] at hc
  have e : chn l n = c := by unfold chn; rw [hc]; rfl
  rw [e]
  refine ⟨hc, ?_, fun x hx => ?_⟩
  · have := upl_le hc; rw [sups_len] at this; have := h.right.len; omega
  · have := (upl_part hc x hx).1; rw [sups_len] at this; exact this
theorem Hangs.link_chain (h : Hangs l) (hF : 1100 < F) (m : List (List UInt8 × Int)) {n : Int} (h0 : 0 ≤ n) (h1 : n < l.length) : link_linker_chain F ⟨l, m, sups l⟩ n = some (chn l n) := by
  obtain ⟨hc, hl, _⟩ := h.chain h0 h1
  exact chain_eq (l := l) hc (by omega) (by omega)
/-- Fields of a class alone. -/
def fl (l : List Class) (i : Int) : List Field := ((idx l i).map (·.Fields)).getD []
def flds (l : List Class) (n : Int) : List Field := (chn l n).reverse.flatMap (fl l)
theorem fl_len (h : Right l) (i : Int) : (fl l i).length ≤ 6 := by
  unfold fl
  cases hx : idx l i with
  | none => simp
  | some x =>
    obtain ⟨_, _, h2⟩ := idx_some hx
    exact h.fields x (List.mem_of_getElem? h2)
theorem flat_len (h : Right l) : ∀ r : List Int, (r.flatMap (fl l)).length ≤ 6 * r.length
  | [] => by simp
  | x :: r => by
    have h1 := fl_len h x
    have h2 := flat_len h r
    simp only [List.flatMap_cons, List.length_append, List.length_cons]
    omega
theorem fields_L1 (h : Right l) (m : List (List UInt8 × Int)) (s : List Int) : ∀ (rem : List Int) (acc : List Field), (∀ x ∈ rem, 0 ≤ x ∧ x < l.length) → acc.length + 6 * rem.length ≤ 1000 → link_linker_fields_L1 ⟨l, m, s⟩ rem acc = some (acc ++ rem.flatMap (fl l))
  | [], acc, _, _ => by simp [link_linker_fields_L1]
  | x :: rem, acc, hx, hl => by
    obtain ⟨c, hc, _⟩ := sups_idx (l := l) (hx x (by simp)).1 (hx x (by simp)).2
    have hf : fl l x = c.Fields := by unfold fl; rw [hc]; rfl
    have h1 := fl_len h x
    rw [hf] at h1
    simp only [List.length_cons] at hl
    rw [link_linker_fields_L1]
    show ((idx l x).bind fun x80_ => _) = _
    rw [hc, Option.bind_some]
    unfold app
    rw [if_pos (by omega), Option.bind_some, fields_L1 h m s rem _ (fun y hy => hx y (by simp [hy])) (by simp only [List.length_append]; omega), List.flatMap_cons, hf]
    simp
theorem Hangs.link_fields (h : Hangs l) (hF : 1100 < F) (m : List (List UInt8 × Int)) {n : Int} (h0 : 0 ≤ n) (h1 : n < l.length) : link_linker_fields F ⟨l, m, sups l⟩ n = some (flds l n) := by
  obtain ⟨_, hl, hm⟩ := h.chain h0 h1
  unfold link_linker_fields
  have := h.link_chain hF m h0 h1
  simp only at this ⊢
  rw [this, Option.bind_some]
  unfold slices_Backward_int_int
  rw [Option.bind_some, fields_L1 h.right m (sups l) _ [] (fun x hx => hm x (by simpa using hx)) (by simp; omega)]
  simp [flds]
theorem Hangs.ref_fields (h : Hangs l) (hF : 1100 < F) {n : Int} (h0 : 0 ≤ n) (h1 : n < l.length) : R_AllFields F l n = some (flds l n) := by
  obtain ⟨_, hl, hm⟩ := h.chain h0 h1
  unfold R_AllFields
  rw [upfrom_eq hF h.right h1, Option.bind_some]
  have : R_AllFields_L1 l (chn l n).reverse F [] 0 = some (flds l n) := by
    refine loopS (n := (chn l n).reverse.length) (fun k i => R_AllFields_L1 l (chn l n).reverse k (((chn l n).reverse.take i).flatMap (fl l)) (i : Int)) (flds l n) (fun k i hi => ?_) (fun k => ?_) (F := F) (by simp; omega)
    · obtain ⟨x, hx⟩ : ∃ x, (chn l n).reverse[i]? = some x := ⟨(chn l n).reverse[i], List.getElem?_eq_getElem hi⟩
      have hb := hm x (by simpa using List.mem_of_getElem? hx)
      obtain ⟨c, hc, _⟩ := sups_idx (l := l) hb.1 hb.2
      have hf : fl l x = c.Fields := by unfold fl; rw [hc]; rfl
      have h2 := fl_len h.right x
      rw [hf] at h2
      have h3 := flat_len h.right ((chn l n).reverse.take i)
      simp only [List.length_take, List.length_reverse] at h3 hi
      show R_AllFields_L1 l (chn l n).reverse (k + 1) (((chn l n).reverse.take i).flatMap (fl l)) (i : Int) = _
      rw [R_AllFields_L1, lt_t (by simpa using hi), cond_true, idx_at hx, Option.bind_some, hc, Option.bind_some]
      unfold app
      rw [if_pos (by omega), Option.bind_some, w64_up (n := (chn l n).length) hi (by omega), List.take_add_one, hx, List.flatMap_append]
      simp [hf]
    · show R_AllFields_L1 l (chn l n).reverse (k + 1) (((chn l n).reverse.take (chn l n).reverse.length).flatMap (fl l)) ((chn l n).reverse.length : Int) = _
      rw [R_AllFields_L1, lt_f, List.take_length]; rfl
  rw [this]; rfl
end
end Cin
