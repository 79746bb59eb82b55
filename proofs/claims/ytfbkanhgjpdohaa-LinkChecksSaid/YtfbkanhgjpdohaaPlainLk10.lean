/- Plain law, the link laws: what is the same. No program in sight. -/
import Derived.Test.YtfbkanhgjpdohaaPlainLk9
namespace Cin
/-- A loop that holds two lists against each other. -/
theorem cmpL {α : Type} [DecidableEq α] {F : Nat} {a b : List α} (hl : a.length = b.length) {L : Nat → Int → Option (Way Bool Unit)} (hn : a.length ≤ 140737488355328)
    (hs : ∀ k (i : Nat) x y, a[i]? = some x → b[i]? = some y → L (k + 1) (i : Int) = cond (!decide (x = y)) (some (.out false)) (L k (w64 ((i : Int) + 1)))) (he : ∀ k, L (k + 1) (a.length : Int) = some (.go ())) (hF : a.length < F) :
    L F 0 = some (if a = b then .go () else .out false) := by
  have l1 : L F 0 = some (wo ((List.range a.length).findSome? fun i => if a[i]? = b[i]? then none else some false)) := eachN _ hn (fun k i hi => by
    rw [hs k i a[i] (b[i]'(by omega)) (List.getElem?_eq_getElem hi) (List.getElem?_eq_getElem (show i < b.length by omega)), List.getElem?_eq_getElem hi, List.getElem?_eq_getElem (show i < b.length by omega)]
    simp only [Option.some.injEq]
    by_cases e : a[i] = b[i]'(by omega)
    · rw [decide_eq_true e, if_pos e]; rfl
    · rw [decide_eq_false e, if_neg e]; rfl) he hF
  rw [l1]
  cases hf : (List.range a.length).findSome? fun i => if a[i]? = b[i]? then none else some false with
  | some e =>
    obtain ⟨i, hi, h1⟩ := List.exists_of_findSome?_eq_some hf
    split at h1
    · cases h1
    · rename_i hne
      injection h1 with h1
      subst h1
      rw [if_neg (fun e => hne (by rw [e]))]; rfl
  | none =>
    rw [if_pos]; rfl
    apply List.ext_getElem?
    intro i
    by_cases hi : i < a.length
    · have := List.findSome?_eq_none_iff.1 hf i (by simpa using hi)
      split at this
      · assumption
      · cases this
    · rw [List.getElem?_eq_none (by omega), List.getElem?_eq_none (by omega)]
theorem fs_none {α β : Type} (l : List α) : l.findSome? (fun _ => (none : Option β)) = none := by rw [List.findSome?_eq_none_iff]; intro _ _; rfl
theorem cmpR {p : Prop} [Decidable p] {Y : Option Bool} : seqR (α := Unit) (some (if p then (.go () : Way Bool Unit) else .out false)) (fun _ => Y) = if p then Y else some false := by by_cases h : p <;> simp [h]
theorem cmpO {p : Prop} [Decidable p] {Y : Option (Way Bool Unit)} : seqO (α := Unit) (some (if p then (.go () : Way Bool Unit) else .out false)) (fun _ => Y) = if p then Y else some (.out false) := by by_cases h : p <;> simp [h]
theorem len_dec {α : Type} {a b : List α} : decide ((a.length : Int) = (b.length : Int)) = decide (a.length = b.length) := by
  rw [Bool.eq_iff_iff]; simp; omega
theorem eq_len {α : Type} [DecidableEq α] {a b : List α} (h : a.length ≠ b.length) : decide (a = b) = false := decide_eq_false (fun e => h (by rw [e]))
section
variable {F : Nat}
theorem sameFields {a b : List Field} (ha : Small F a.length) : R_SameFields F a b = some (decide (a = b)) := by
  unfold R_SameFields
  rw [len_dec]
  by_cases hl : a.length = b.length
  · rw [decide_eq_true hl]
    simp only [Bool.not_true, cond_false]
    rw [cmpL hl ha.1 (L := R_SameFields_L1 a b) (fun k i x y hx hy => by rw [R_SameFields_L1, lt_t (List.getElem?_eq_some_iff.1 hx).1, cond_true, idx_at hx, Option.bind_some, idx_at hy, Option.bind_some]) (fun k => by rw [R_SameFields_L1, lt_f]; rfl) ha.2, cmpR]
    by_cases h : a = b <;> simp [h]
  · rw [decide_eq_false hl, eq_len hl]; rfl
theorem sameKinds' {a b : List Kind} (ha : Small F a.length) : R_SameKinds F a b = some (decide (a = b)) := by
  unfold R_SameKinds
  rw [len_dec]
  by_cases hl : a.length = b.length
  · rw [decide_eq_true hl]
    simp only [Bool.not_true, cond_false]
    rw [cmpL hl ha.1 (L := R_SameKinds_L1 a b) (fun k i x y hx hy => by rw [R_SameKinds_L1, lt_t (List.getElem?_eq_some_iff.1 hx).1, cond_true, idx_at hx, Option.bind_some, idx_at hy, Option.bind_some]) (fun k => by rw [R_SameKinds_L1, lt_f]; rfl) ha.2, cmpR]
    by_cases h : a = b <;> simp [h]
  · rw [decide_eq_false hl, eq_len hl]; rfl
/-- Classes are the same as themselves. -/
theorem same_self {l : List Class} (h : Fits F l) : R_SameClasses F l l = some true := by
  unfold R_SameClasses
  rw [decide_eq_true rfl]
  simp only [Bool.not_true, cond_false]
  have l1 : R_SameClasses_L1 F l l F 0 = some (wo (l.findSome? fun _ => (none : Option Bool))) := each (fun _ => none) h.1.1 (fun k i c hx => by
    have hc := h.2 c (List.mem_of_getElem? hx)
    have l2 : R_SameClasses_L2 F c c F 0 = some (wo (c.Methods.findSome? fun _ => (none : Option Bool))) := each (fun _ => none) hc.methods.1 (fun k i m hy => by
      have hm := hc.method m (List.mem_of_getElem? hy)
      have l3 : R_SameClasses_L3 m m F 0 = some (wo (m.Handlers.findSome? fun _ => (none : Option Bool))) := each (fun _ => none) hm.hands.1 (fun k i x hz => by
        rw [R_SameClasses_L3, lt_t (List.getElem?_eq_some_iff.1 hz).1, cond_true, idx_at hz, Option.bind_some, Option.bind_some, decide_eq_true rfl]; rfl) (fun k => by rw [R_SameClasses_L3, lt_f]; rfl) hm.hands.2
      rw [R_SameClasses_L2, lt_t (List.getElem?_eq_some_iff.1 hy).1, cond_true, idx_at hy, Option.bind_some, Option.bind_some, sameKinds' hm.args, Option.bind_some, l3, fs_none]
      simp
      rfl) (fun k => by rw [R_SameClasses_L2, lt_f]; rfl) hc.methods.2
    rw [R_SameClasses_L1, lt_t (List.getElem?_eq_some_iff.1 hx).1, cond_true, idx_at hx, Option.bind_some, Option.bind_some, sameFields hc.fields, Option.bind_some, l2, fs_none]
    simp
    rfl) (fun k => by rw [R_SameClasses_L1, lt_f]; rfl) h.1.2
  rw [l1, fs_none]; rfl
/-- What is linked fits a machine. -/
structure LFits (F : Nat) (k : Linked) : Prop where
  supers : Small F k.Supers.length
  fields : Small F k.Fields.length
  field : ∀ x ∈ k.Fields, Small F x.length
  names : Small F k.Names.length
  name : ∀ x ∈ k.Names, Small F x.length
  targets : Small F k.Targets.length
  target : ∀ x ∈ k.Targets, Small F x.length
instance : DecidableEq (List (List Field)) := inferInstance
theorem sameLinked {a b : Linked} (ha : LFits F a) (hc : R_SameClasses F a.Classes b.Classes = some true) :
    R_SameLinked F a b = some (decide (a.Supers = b.Supers ∧ a.Fields = b.Fields ∧ a.Names = b.Names ∧ a.Targets = b.Targets)) := by
  unfold R_SameLinked
  rw [hc, Option.bind_some, len_dec, len_dec, len_dec, len_dec]
  have hd : ∀ (_ : ¬ (a.Supers = b.Supers ∧ a.Fields = b.Fields ∧ a.Names = b.Names ∧ a.Targets = b.Targets)), decide (a.Supers = b.Supers ∧ a.Fields = b.Fields ∧ a.Names = b.Names ∧ a.Targets = b.Targets) = false := fun h => decide_eq_false h
  by_cases h1 : b.Supers.length = a.Supers.length
  case neg => rw [hd (fun e => h1 (by rw [e.1])), decide_eq_false h1]; rfl
  by_cases h2 : a.Fields.length = b.Fields.length
  case neg => rw [hd (fun e => h2 (by rw [e.2.1])), decide_eq_true h1, decide_eq_false h2]; rfl
  by_cases h3 : a.Names.length = b.Names.length
  case neg => rw [hd (fun e => h3 (by rw [e.2.2.1])), decide_eq_true h1, decide_eq_true h2, decide_eq_false h3]; rfl
  by_cases h4 : a.Targets.length = b.Targets.length
  case neg => rw [hd (fun e => h4 (by rw [e.2.2.2])), decide_eq_true h1, decide_eq_true h2, decide_eq_true h3, decide_eq_false h4]; rfl
  rw [decide_eq_true h1, decide_eq_true h2, decide_eq_true h3, decide_eq_true h4]
  simp only [Bool.not_true, Bool.or_self, cond_false]
  have l1 := cmpL (F := F) h1.symm ha.supers.1 (L := R_SameLinked_L1 a b) (fun k i x y hx hy => by rw [R_SameLinked_L1, lt_t (List.getElem?_eq_some_iff.1 hx).1, cond_true, idx_at hx, Option.bind_some, idx_at hy, Option.bind_some]) (fun k => by rw [R_SameLinked_L1, lt_f]; rfl) ha.supers.2
  have l2 := cmpL (F := F) h2 ha.fields.1 (L := R_SameLinked_L2 F a b) (fun k i x y hx hy => by
    rw [R_SameLinked_L2, lt_t (List.getElem?_eq_some_iff.1 hx).1, cond_true, idx_at hx, Option.bind_some, idx_at hy, Option.bind_some, sameFields (ha.field x (List.mem_of_getElem? hx)), Option.bind_some]) (fun k => by rw [R_SameLinked_L2, lt_f]; rfl) ha.fields.2
  have l3 := cmpL (F := F) h3 ha.names.1 (L := R_SameLinked_L3 F a b) (fun k i x y hx hy => by
    have hxs := ha.name x (List.mem_of_getElem? hx)
    rw [R_SameLinked_L3, lt_t (List.getElem?_eq_some_iff.1 hx).1, cond_true, idx_at hx, Option.bind_some, idx_at hy, Option.bind_some, len_dec]
    by_cases hl : x.length = y.length
    · rw [decide_eq_true hl]
      simp only [Bool.not_true, cond_false]
      rw [cmpL (F := F) hl hxs.1 (L := R_SameLinked_L4 a b i) (fun k j u v hu hv => by
        rw [R_SameLinked_L4, idx_at hx, Option.bind_some, lt_t (List.getElem?_eq_some_iff.1 hu).1, cond_true, Option.bind_some, idx_at hu, Option.bind_some, idx_at hy, Option.bind_some, idx_at hv, Option.bind_some]) (fun k => by rw [R_SameLinked_L4, idx_at hx, Option.bind_some, lt_f]; rfl) hxs.2, cmpO]
      by_cases h : x = y
      · rw [if_pos h, decide_eq_true h]; rfl
      · rw [if_neg h, decide_eq_false h]; rfl
    · rw [decide_eq_false hl, eq_len hl]; rfl) (fun k => by rw [R_SameLinked_L3, lt_f]; rfl) ha.names.2
  have l5 := cmpL (F := F) h4 ha.targets.1 (L := R_SameLinked_L5 F a b) (fun k i x y hx hy => by
    have hxs := ha.target x (List.mem_of_getElem? hx)
    rw [R_SameLinked_L5, lt_t (List.getElem?_eq_some_iff.1 hx).1, cond_true, idx_at hx, Option.bind_some, idx_at hy, Option.bind_some, len_dec]
    by_cases hl : x.length = y.length
    · rw [decide_eq_true hl]
      simp only [Bool.not_true, cond_false]
      rw [cmpL (F := F) hl hxs.1 (L := R_SameLinked_L6 a b i) (fun k j u v hu hv => by
        rw [R_SameLinked_L6, idx_at hx, Option.bind_some, lt_t (List.getElem?_eq_some_iff.1 hu).1, cond_true, Option.bind_some, idx_at hu, Option.bind_some, idx_at hy, Option.bind_some, idx_at hv, Option.bind_some]) (fun k => by rw [R_SameLinked_L6, idx_at hx, Option.bind_some, lt_f]; rfl) hxs.2, cmpO]
      by_cases h : x = y
      · rw [if_pos h, decide_eq_true h]; rfl
      · rw [if_neg h, decide_eq_false h]; rfl
    · rw [decide_eq_false hl, eq_len hl]; rfl) (fun k => by rw [R_SameLinked_L5, lt_f]; rfl) ha.targets.2
  rw [l1, l2, l3, l5, cmpR, cmpR, cmpR, cmpR]
  by_cases e1 : a.Supers = b.Supers
  · by_cases e2 : a.Fields = b.Fields
    · by_cases e3 : a.Names = b.Names
      · by_cases e4 : a.Targets = b.Targets <;> simp [e1, e2, e3, e4]
      · simp [e3]
    · simp [e2]
  · simp [e1]
end
section
variable {F : Nat} {l : List Class}
theorem addC_len (h : Right l) : ∀ (r : List Int) (p : Tb), p.1.length = p.2.length → (addC l r p).1.length = (addC l r p).2.length ∧ (addC l r p).1.length ≤ p.1.length + 8 * r.length
  | [], p, hp => ⟨hp, by simp [addC]⟩
  | x :: r, p, hp => by
    obtain ⟨h1, h2⟩ := addM_len (ci := x) (r := ms l x) (k := 0) hp
    obtain ⟨h3, h4⟩ := addC_len h r _ h1
    have := ms_len h x
    exact ⟨h3, by simp only [addC, List.length_cons]; omega⟩
theorem tab_len (h : Hangs l) {n : Int} (h0 : 0 ≤ n) (h1 : n < l.length) : (tab l n).1.length = (tab l n).2.length ∧ (tab l n).1.length ≤ 80 := by
  obtain ⟨_, hl, _⟩ := h.chain h0 h1
  obtain ⟨h3, h4⟩ := addC_len h.right (chn l n).reverse ([], []) rfl
  refine ⟨h3, ?_⟩
  simp only [List.length_reverse, List.length_nil] at h4
  unfold tab
  omega
theorem rows_mem {β : Type} {f : Int → β} {n : Nat} {x : β} (h : x ∈ rows f n) : ∃ i : Nat, i < n ∧ x = f (i : Int) := by
  simp only [rows, List.mem_map, List.mem_range] at h
  obtain ⟨i, h1, h2⟩ := h
  exact ⟨i, h1, h2.symm⟩
theorem rows_len {β : Type} {f : Int → β} {n : Nat} : (rows f n).length = n := by simp [rows]
theorem linked_fits (hF : 1100 < F) (h : Hangs l) : LFits F (linked l) := by
  have hlen := h.right.len
  refine ⟨⟨?_, ?_⟩, ⟨?_, ?_⟩, fun x hx => ?_, ⟨?_, ?_⟩, fun x hx => ?_, ⟨?_, ?_⟩, fun x hx => ?_⟩
  any_goals (simp only [linked, rows_len, sups_len]; omega)
  · obtain ⟨i, hi, rfl⟩ := rows_mem (f := flds l) hx
    have := flds_len h (n := (i : Int)) (by omega) (by omega)
    exact ⟨by omega, by omega⟩
  · obtain ⟨i, hi, rfl⟩ := rows_mem (f := fun i => (tab l i).1) hx
    have := tab_len h (n := (i : Int)) (by omega) (by omega)
    exact ⟨by omega, by omega⟩
  · obtain ⟨i, hi, rfl⟩ := rows_mem (f := fun i => (tab l i).2) hx
    have := tab_len h (n := (i : Int)) (by omega) (by omega)
    exact ⟨by omega, by omega⟩
end
end Cin
