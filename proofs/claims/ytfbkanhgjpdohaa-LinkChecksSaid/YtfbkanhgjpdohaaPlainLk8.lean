/- Plain law, the link laws: no name twice; methods that stand for others. No program in sight. -/
import Derived.Test.YtfbkanhgjpdohaaPlainLk7
namespace Cin
theorem mput_len {κ β : Type} [DecidableEq κ] {k : κ} {v : β} : ∀ m : List (κ × β), (mput m k v).length = if (mget m k).isSome then m.length else m.length + 1
  | [] => rfl
  | p :: r => by
    simp only [mput, mget]
    by_cases h : p.1 = k
    · simp [h]
    · simp only [if_neg h, List.length_cons, mput_len r]
      split <;> rfl
theorem mput_get {κ β : Type} [DecidableEq κ] {k s : κ} {v : β} : ∀ m : List (κ × β), (mget (mput m k v) s).isSome = true ↔ s = k ∨ (mget m s).isSome = true
  | [] => by
    simp only [mput, mget]
    by_cases h : k = s
    · simp [h]
    · simp [h]; exact fun e => h e.symm
  | p :: r => by
    have ih := mput_get (k := k) (s := s) (v := v) r
    simp only [mput]
    by_cases h : p.1 = k
    · rw [if_pos h]
      simp only [mget]
      by_cases e : k = s
      · simp [e]
      · have e2 : ¬ p.1 = s := fun x => e (h.symm.trans x)
        rw [if_neg e, if_neg e2]
        constructor
        · exact fun x => .inr x
        · rintro (x | x)
          · exact absurd x.symm e
          · exact x
    · rw [if_neg h]
      simp only [mget]
      by_cases e : p.1 = s
      · simp [e]
      · rw [if_neg e, if_neg e]; exact ih
def dupE (ns : List (List UInt8)) : Option Int := if ns.Nodup then none else some 6
section
variable {F : Nat} {l : List Class}
theorem twice_eq (hF : 1100 < F) {ns : List (List UInt8)} (hn : ns.length ≤ 1000) : link_twice F ns = some (decide (¬ ns.Nodup)) := by
  have key : ∀ (d i k : Nat) (m : List (List UInt8 × Bool)), i + d = ns.length → d < k → (∀ s, (mget m s).isSome = true ↔ s ∈ ns.take i) → m.length ≤ i → (m.length = i ↔ (ns.take i).Nodup) →
      ∃ m', link_twice_L1 ns k m (i : Int) = some m' ∧ m'.length ≤ ns.length ∧ (m'.length = ns.length ↔ ns.Nodup) := by
    intro d
    induction d with
    | zero =>
      intro i k m hi hk h1 h2 h3
      obtain ⟨k, rfl⟩ : ∃ k', k = k' + 1 := ⟨k - 1, by omega⟩
      have : i = ns.length := by omega
      subst this
      rw [List.take_length] at h3
      exact ⟨m, by rw [link_twice_L1, lt_f]; rfl, h2, h3⟩
    | succ d ih =>
      intro i k m hi hk h1 h2 h3
      obtain ⟨k, rfl⟩ : ∃ k', k = k' + 1 := ⟨k - 1, by omega⟩
      have hil : i < ns.length := by omega
      have e1 : ns.take (i + 1) = ns.take i ++ [ns[i]] := by rw [List.take_add_one, List.getElem?_eq_getElem hil]; rfl
      rw [link_twice_L1, lt_t hil, cond_true, idx_at (List.getElem?_eq_getElem hil), Option.bind_some, w64_up hil (by omega)]
      refine ih (i + 1) k _ (by omega) (by omega) (fun s => ?_) ?_ ?_
      · rw [mput_get, h1, e1, List.mem_append, List.mem_singleton]
        constructor
        · rintro (h | h)
          · exact .inr h
          · exact .inl h
        · rintro (h | h)
          · exact .inr h
          · exact .inl h
      · rw [mput_len]; split <;> omega
      · rw [mput_len, e1, List.nodup_append]
        by_cases hm : (mget m ns[i]).isSome = true
        · rw [if_pos hm]
          have := (h1 ns[i]).1 hm
          constructor
          · intro h; omega
          · rintro ⟨_, _, h⟩; exact absurd rfl (h _ this _ (by simp))
        · rw [if_neg hm]
          have : ns[i] ∉ ns.take i := fun h => hm ((h1 ns[i]).2 h)
          constructor
          · intro h
            exact ⟨h3.1 (by omega), by simp, fun a ha b hb e => by
              rw [List.mem_singleton] at hb; subst hb; exact this (e ▸ ha)⟩
          · rintro ⟨h, _, _⟩
            have := h3.2 h
            omega
  obtain ⟨m', h1, h2, h3⟩ := key ns.length 0 F [] (by omega) (by omega) (fun s => by simp [mget]) (by simp) (by simp)
  unfold link_twice
  rw [show (0 : Int) = ((0 : Nat) : Int) from rfl, h1, Option.bind_some]
  congr 1
  by_cases hd : ns.Nodup
  · have := h3.2 hd
    rw [decide_eq_false (by omega), decide_eq_false (by simp [hd])]
  · have : m'.length ≠ ns.length := fun e => hd (h3.1 e)
    rw [decide_eq_true (by omega), decide_eq_true hd]
def dupG {α : Type} (nm : α → List UInt8) (r : List α) : Option Int := (List.range r.length).findSome? fun k => (List.range k).findSome? fun j => if (r[j]?).map nm = (r[k]?).map nm then some 6 else none
theorem dupG_eq {α : Type} (nm : α → List UInt8) (r : List α) : dupG nm r = dupE (r.map nm) := by
  have hv : dupG nm r = none ∨ dupG nm r = some 6 := fs_five (fun k => fs_five (fun j => by split <;> simp) _) _
  unfold dupE
  by_cases hd : (r.map nm).Nodup
  · rw [if_pos hd]
    rcases hv with h | h
    · exact h
    · exfalso
      obtain ⟨k, hk, h1⟩ := List.exists_of_findSome?_eq_some h
      obtain ⟨j, hj, h2⟩ := List.exists_of_findSome?_eq_some h1
      simp only [List.mem_range] at hk hj
      split at h2
      · rename_i e
        have := List.pairwise_iff_getElem.1 hd j k (by simp; omega) (by simpa using hk) hj
        apply this
        rw [List.getElem?_eq_getElem (by omega), List.getElem?_eq_getElem hk] at e
        simpa using e
      · cases h2
  · rw [if_neg hd]
    rcases hv with h | h
    · exfalso
      apply hd
      refine List.pairwise_iff_getElem.2 fun j k hj hk hjk e => ?_
      have h1 := List.findSome?_eq_none_iff.1 h k (by simpa using hk)
      have h2 := List.findSome?_eq_none_iff.1 h1 j (by simpa using hjk)
      simp only [List.length_map] at hj hk
      rw [List.getElem?_eq_getElem hj, List.getElem?_eq_getElem hk] at h2
      simp only [List.getElem_map] at e
      rw [if_pos (by simp [e])] at h2
      cases h2
    · exact h
theorem dup_fields (hF : 1100 < F) (r : List Field) (hr : r.length ≤ 1000) : R_CheckLink_L10 F r F 0 = some (wo (dupE (r.map (·.Name)))) := by
  rw [← dupG_eq]
  exact eachN _ (by omega) (fun k i hi => by
    have l11 : R_CheckLink_L11 r (i : Int) F 0 = some (wo ((List.range i).findSome? fun j => if (r[j]?).map (·.Name) = (r[i]?).map (·.Name) then some 6 else none)) := eachN _ (by omega) (fun k j hj => by
      rw [R_CheckLink_L11, lt_t hj, cond_true, idx_at (List.getElem?_eq_getElem (show j < r.length by omega)), Option.bind_some, idx_at (List.getElem?_eq_getElem hi), Option.bind_some, List.getElem?_eq_getElem (show j < r.length by omega), List.getElem?_eq_getElem hi]
      simp only [Option.map_some, Option.some.injEq]
      by_cases e : r[j].Name = r[i].Name
      · rw [decide_eq_true e, if_pos e]; rfl
      · rw [decide_eq_false e, if_neg e]; rfl) (fun k => by rw [R_CheckLink_L11, lt_f]; rfl) (by omega)
    rw [R_CheckLink_L10, lt_t hi, cond_true, l11, so_wo, so_wm, seqO_go]) (fun k => by rw [R_CheckLink_L10, lt_f]; rfl) (by omega)
theorem dup_methods (hF : 1100 < F) (c : Class) (hr : c.Methods.length ≤ 1000) : R_CheckLink_L12 F c F 0 = some (wo (dupE (c.Methods.map (·.Name)))) := by
  rw [← dupG_eq]
  exact eachN _ (by omega) (fun k i hi => by
    have l11 : R_CheckLink_L13 c (i : Int) F 0 = some (wo ((List.range i).findSome? fun j => if (c.Methods[j]?).map (·.Name) = (c.Methods[i]?).map (·.Name) then some 6 else none)) := eachN _ (by omega) (fun k j hj => by
      rw [R_CheckLink_L13, lt_t hj, cond_true, idx_at (List.getElem?_eq_getElem (show j < c.Methods.length by omega)), Option.bind_some, idx_at (List.getElem?_eq_getElem hi), Option.bind_some, List.getElem?_eq_getElem (show j < c.Methods.length by omega), List.getElem?_eq_getElem hi]
      simp only [Option.map_some, Option.some.injEq]
      by_cases e : c.Methods[j].Name = c.Methods[i].Name
      · rw [decide_eq_true e, if_pos e]; rfl
      · rw [decide_eq_false e, if_neg e]; rfl) (fun k => by rw [R_CheckLink_L13, lt_f]; rfl) (by omega)
    rw [R_CheckLink_L12, lt_t hi, cond_true, l11, so_wo, so_wm, seqO_go]) (fun k => by rw [R_CheckLink_L12, lt_f]; rfl) (by omega)
def onceE (l : List Class) (i : Nat) : Option Int := (dupE ((flds l i).map (·.Name))).or (dupE ((ms l i).map (·.Name)))
theorem flds_len (h : Hangs l) {n : Int} (h0 : 0 ≤ n) (h1 : n < l.length) : (flds l n).length ≤ 60 := by
  obtain ⟨_, hl, _⟩ := h.chain h0 h1
  have := flat_len h.right (chn l n).reverse
  unfold flds
  simp only [List.length_reverse] at this
  omega
theorem dup_cond {ns : List (List UInt8)} {Y : Option (Way Int Unit)} : cond (decide (¬ ns.Nodup)) (some (.out 6)) Y = wm (dupE ns) Y := by
  unfold dupE
  by_cases h : ns.Nodup
  · rw [if_pos h, decide_eq_false (by simp [h])]; rfl
  · rw [if_neg h, decide_eq_true h]; rfl
theorem ms_at {i : Nat} {c : Class} (h : l[i]? = some c) : ms l (i : Int) = c.Methods := by unfold ms; rw [idx_at h]; rfl
theorem once_R (hF : 1100 < F) (h : Hangs l) : R_CheckLink_L9 F l F 0 = some (wo ((List.range l.length).findSome? (onceE l))) := by
  have hlen := h.right.len
  exact eachN _ (by omega) (fun k i hi => by
    obtain ⟨c, hx⟩ : ∃ x, l[i]? = some x := ⟨l[i], List.getElem?_eq_getElem hi⟩
    have h8 := h.right.methods c (List.mem_of_getElem? hx)
    have hfl := flds_len h (n := (i : Int)) (by omega) (by omega)
    rw [R_CheckLink_L9, lt_t hi, cond_true, h.ref_fields hF (by omega) (by omega), Option.bind_some, dup_fields hF _ (by omega), so_wo, idx_at hx, Option.bind_some, dup_methods hF c (by omega), so_wo, wm_or, so_wm, seqO_go]
    unfold onceE
    rw [ms_at hx]) (fun k => by rw [R_CheckLink_L9, lt_f]; rfl) (by omega)
theorem once_L (hF : 1100 < F) (h : Hangs l) (m : List (List UInt8 × Int)) : link_linker_once F ⟨l, m, sups l⟩ = some (((List.range l.length).findSome? (onceE l)).getD 0) := by
  have hlen := h.right.len
  have := eachN (n := l.length) (L := link_linker_once_L1 F ⟨l, m, sups l⟩) (onceE l) (by omega) (fun k i hi => by
    obtain ⟨c, hx⟩ : ∃ x, l[i]? = some x := ⟨l[i], List.getElem?_eq_getElem hi⟩
    have h8 := h.right.methods c (List.mem_of_getElem? hx)
    have hfl := flds_len h (n := (i : Int)) (by omega) (by omega)
    have l2 : link_linker_once_L2 (flds l i) F [] 0 = some ((flds l i).map (·.Name)) := by
      have := accL (l := flds l i) (fun k acc i' => link_linker_once_L2 (flds l i) k acc (i' : Int)) (fun f => [f.Name]) 1 3000 (fun f _ => by simp) (fun k j x acc hx hacc => by
        have hj := (List.getElem?_eq_some_iff.1 hx).1
        rw [link_linker_once_L2, lt_t hj, cond_true, idx_at hx, Option.bind_some, app_ok (by simp only [List.length_cons, List.length_nil]; omega), Option.bind_some, w64_up hj (by omega)]) (fun k acc => by rw [link_linker_once_L2, lt_f]; rfl) (F := F) (by omega) (acc := []) (by simp; omega)
      rw [show (0 : Int) = ((0 : Nat) : Int) from rfl, this]
      congr 1
      rw [List.nil_append]
      induction flds l i with
      | nil => rfl
      | cons x r ih => rw [List.flatMap_cons, ih]; rfl
    have l3 : link_linker_once_L3 c F [] 0 = some (c.Methods.map (·.Name)) := by
      have := accL (l := c.Methods) (fun k acc i' => link_linker_once_L3 c k acc (i' : Int)) (fun f => [f.Name]) 1 3000 (fun f _ => by simp) (fun k j x acc hx hacc => by
        have hj := (List.getElem?_eq_some_iff.1 hx).1
        rw [link_linker_once_L3, lt_t hj, cond_true, idx_at hx, Option.bind_some, app_ok (by simp only [List.length_cons, List.length_nil]; omega), Option.bind_some, w64_up hj (by omega)]) (fun k acc => by rw [link_linker_once_L3, lt_f]; rfl) (F := F) (by omega) (acc := []) (by simp; omega)
      rw [show (0 : Int) = ((0 : Nat) : Int) from rfl, this]
      congr 1
      rw [List.nil_append]
      induction c.Methods with
      | nil => rfl
      | cons x r ih => rw [List.flatMap_cons, ih]; rfl
    rw [link_linker_once_L1]
    have hcd : decide ((i : Int) < ((⟨l, m, sups l⟩ : link_linker).l.length : Int)) = true := lt_t (n := l.length) hi
    have hfd := h.link_fields hF m (n := (i : Int)) (by omega) (by omega)
    rw [hcd, cond_true]
    show seqO (α := Unit) ((idx l (i : Int)).bind fun x4798_ => (link_linker_fields F ⟨l, m, sups l⟩ (i : Int)).bind fun r4811_ => _) _ = _
    rw [idx_at hx, Option.bind_some, hfd, Option.bind_some, l2, Option.bind_some, l3, Option.bind_some, twice_eq hF (by simp; omega), Option.bind_some, twice_eq hF (by simp; omega), Option.bind_some, dup_cond, dup_cond, wm_or, so_wm, seqO_go]
    unfold onceE
    rw [ms_at hx]) (fun k => by
      rw [link_linker_once_L1]
      show cond (decide ((l.length : Int) < (l.length : Int))) _ _ = _
      rw [lt_f]; rfl) (F := F) (by omega)
  unfold link_linker_once
  rw [this]
  cases (List.range l.length).findSome? (onceE l) <;> rfl
/-! ### Methods that stand for others -/
theorem sameKinds {a b : List Kind} (ha : a.length ≤ 1000) (hb : b.length ≤ 1000) (hF : 1100 < F) : R_SameKinds F a b = some (decide (a = b)) := by
  unfold R_SameKinds
  by_cases hl : a.length = b.length
  · rw [decide_eq_true (show (a.length : Int) = (b.length : Int) by omega)]
    simp only [Bool.not_true, cond_false]
    have l1 : R_SameKinds_L1 a b F 0 = some (wo ((List.range a.length).findSome? fun i => if a[i]? = b[i]? then none else some false)) := eachN _ (by omega) (fun k i hi => by
      rw [R_SameKinds_L1, lt_t hi, cond_true, idx_at (List.getElem?_eq_getElem hi), Option.bind_some, idx_at (List.getElem?_eq_getElem (show i < b.length by omega)), Option.bind_some, List.getElem?_eq_getElem hi, List.getElem?_eq_getElem (show i < b.length by omega)]
      simp only [Option.some.injEq]
      by_cases e : a[i] = b[i]
      · rw [decide_eq_true e, if_pos e]; rfl
      · rw [decide_eq_false e, if_neg e]; rfl) (fun k => by rw [R_SameKinds_L1, lt_f]; rfl) (by omega)
    rw [l1, sr_wo]
    cases hf : (List.range a.length).findSome? fun i => if a[i]? = b[i]? then none else some false with
    | some e =>
      obtain ⟨i, hi, h1⟩ := List.exists_of_findSome?_eq_some hf
      split at h1
      · cases h1
      · rename_i hne
        injection h1 with h1
        subst h1
        rw [decide_eq_false (fun e => hne (by rw [e]))]; rfl
    | none =>
      rw [decide_eq_true]; rfl
      apply List.ext_getElem?
      intro i
      by_cases hi : i < a.length
      · have := List.findSome?_eq_none_iff.1 hf i (by simpa using hi)
        split at this
        · assumption
        · cases this
      · rw [List.getElem?_eq_none (by omega), List.getElem?_eq_none (by omega)]
  · rw [decide_eq_false (show ¬ (a.length : Int) = (b.length : Int) by omega), decide_eq_false (fun e => hl (by rw [e]))]; rfl
theorem equalKinds {a b : List Kind} (ha : a.length ≤ 1000) (hb : b.length ≤ 1000) (hF : 1100 < F) : slices_Equal_api_Kind_api_Kind F a b = some (decide (a = b)) := by
  rw [← sameKinds ha hb hF]
  unfold slices_Equal_api_Kind_api_Kind R_SameKinds
  have e : ∀ k n, slices_Equal_api_Kind_api_Kind_L1 a b k n = R_SameKinds_L1 a b k n := by
    intro k
    induction k with
    | zero => intro n; rfl
    | succ k ih => intro n; rw [slices_Equal_api_Kind_api_Kind_L1, R_SameKinds_L1]; simp only [ih]
  rw [e]
/-- Two methods of one name that may not stand for each other. -/
def clash (a b : Method) : Bool := decide (a.Name = b.Name) && (a.Static || b.Static || !decide (a.Args = b.Args) || !decide (a.Returns = b.Returns))
def clE (a b : Method) : Option Int := if clash a b then some 4 else none
def cls (l : List Class) (c : Class) (u : Int) : Option Int := c.Methods.findSome? fun a => (ms l u).findSome? (clE a)
def metE (l : List Class) (c : Class) (i : Nat) : Option Int := (chn l i).tail.findSome? (cls l c)
theorem clE_four (a b : Method) : clE a b = none ∨ clE a b = some 4 := by unfold clE; split <;> simp
theorem cls_four (c : Class) (u : Int) : cls l c u = none ∨ cls l c u = some 4 := fs_five (fun _ => fs_five (fun _ => clE_four _ _) _) _
theorem fs_rev {α : Type} {g : α → Option Int} {e : Int} (hg : ∀ x, g x = none ∨ g x = some e) (r : List α) : r.reverse.findSome? g = r.findSome? g := by
  rcases fs_five hg r with h | h
  · rw [h, List.findSome?_eq_none_iff]
    intro x hx
    exact List.findSome?_eq_none_iff.1 h x (by simpa using hx)
  · rw [h]
    rcases fs_five hg r.reverse with h2 | h2
    · obtain ⟨x, hx, h3⟩ := List.exists_of_findSome?_eq_some h
      have := List.findSome?_eq_none_iff.1 h2 x (by simpa using hx)
      rw [h3] at this; cases this
    · exact h2
theorem met_L (hF : 1100 < F) (h : Hangs l) (m : List (List UInt8 × Int)) : link_linker_methods F ⟨l, m, sups l⟩ = some (((List.range l.length).findSome? fun i => (l[i]?).bind fun c => metE l c i).getD 0) := by
  have hlen := h.right.len
  have := eachN (n := l.length) (L := link_linker_methods_L1 F ⟨l, m, sups l⟩) (fun i => (l[i]?).bind fun c => metE l c i) (by omega) (fun k i hi => by
    obtain ⟨c, hx⟩ : ∃ x, l[i]? = some x := ⟨l[i], List.getElem?_eq_getElem hi⟩
    have hcm := List.mem_of_getElem? hx
    have h8 := h.right.methods c hcm
    obtain ⟨hch, hcl, hcb⟩ := h.chain (n := (i : Int)) (by omega) (by omega)
    obtain ⟨r, hr⟩ := upl_ne hch (by omega)
    have l4 : ∀ (a : Method), a ∈ c.Methods → ∀ (u : Class), u ∈ l → link_linker_methods_L4 F a u F 0 = some (wo (u.Methods.findSome? (clE a))) := fun a ha u hu => each (clE a) (by have := h.right.methods u hu; omega) (fun k j b hb => by
      have hbm := List.mem_of_getElem? hb
      have ha4 := h.right.method c hcm a ha
      have hb4 := h.right.method u hu b hbm
      rw [link_linker_methods_L4, lt_t (List.getElem?_eq_some_iff.1 hb).1, cond_true, idx_at hb, Option.bind_some]
      unfold link_alike
      simp only
      rw [equalKinds (by omega) (by omega) hF]
      unfold clE clash
      show cond _ (Option.bind (cond _ (Option.bind _ fun r => cond r (some (decide (a.Returns = b.Returns))) _) _) _) _ = _
      by_cases hn : a.Name = b.Name
      · rw [decide_eq_true hn]
        simp only [Option.bind_some, cond_true, Bool.true_and]
        cases a.Static <;> cases b.Static <;> cases decide (a.Args = b.Args) <;> cases decide (a.Returns = b.Returns) <;> rfl
      · rw [decide_eq_false hn]; rfl) (fun k => by rw [link_linker_methods_L4, lt_f]; rfl) (by have := h.right.methods u hu; omega)
    have l3 : ∀ (x : Int), 0 ≤ x → x < l.length → link_linker_methods_L3 F ⟨l, m, sups l⟩ c x F 0 = some (wo (cls l c x)) := fun x h0 h1 => each (fun a => (ms l x).findSome? (clE a)) (by omega) (fun k j a ha => by
      obtain ⟨u, hu, _⟩ := sups_idx (l := l) h0 h1
      have hul : u ∈ l := by obtain ⟨_, _, h2⟩ := idx_some hu; exact List.mem_of_getElem? h2
      have hm : ms l x = u.Methods := by unfold ms; rw [hu]; rfl
      rw [link_linker_methods_L3, lt_t (List.getElem?_eq_some_iff.1 ha).1, cond_true, idx_at ha, Option.bind_some]
      show seqO (α := Unit) ((idx l x).bind fun x242143_ => _) _ = _
      rw [hu, Option.bind_some, l4 a (List.mem_of_getElem? ha) u hul, so_wo, so_wm, seqO_go, hm]) (fun k => by rw [link_linker_methods_L3, lt_f]; rfl) (by omega)
    have l2 : link_linker_methods_L2 F ⟨l, m, sups l⟩ c (chn l i).tail F 0 = some (wo ((chn l i).tail.findSome? (cls l c))) := each (cls l c) (by simp; omega) (fun k j x hxj => by
      have hb := hcb x (List.mem_of_mem_tail (List.mem_of_getElem? hxj))
      rw [link_linker_methods_L2, lt_t (List.getElem?_eq_some_iff.1 hxj).1, cond_true, idx_at hxj, Option.bind_some, l3 x hb.1 hb.2, so_wo, so_wm, seqO_go]) (fun k => by rw [link_linker_methods_L2, lt_f]; rfl) (by simp; omega)
    rw [link_linker_methods_L1]
    have hcd : decide ((i : Int) < ((⟨l, m, sups l⟩ : link_linker).l.length : Int)) = true := lt_t (n := l.length) hi
    have hlc := h.link_chain hF m (n := (i : Int)) (by omega) (by omega)
    rw [hcd, cond_true]
    show seqO (α := Unit) ((idx l (i : Int)).bind fun x222081_ => (link_linker_chain F ⟨l, m, sups l⟩ (i : Int)).bind fun r222094_ => _) _ = _
    have hcut : cut (chn l i) 1 ((chn l i).length : Int) = some (chn l i).tail := by
      unfold cut
      rw [if_pos (by rw [hr]; simp only [List.length_cons]; omega)]
      rw [hr]; simp
    rw [idx_at hx, Option.bind_some, hlc, Option.bind_some, hcut, Option.bind_some, l2, so_wo, so_wm, seqO_go, hx]
    rfl) (fun k => by
      rw [link_linker_methods_L1]
      show cond (decide ((l.length : Int) < (l.length : Int))) _ _ = _
      rw [lt_f]; rfl) (F := F) (by omega)
  unfold link_linker_methods
  rw [this]
  cases (List.range l.length).findSome? (fun i => (l[i]?).bind fun c => metE l c i) <;> rfl
theorem met_R (hF : 1100 < F) (h : Hangs l) : R_CheckLink_L14 F l F 0 = some (wo ((List.range l.length).findSome? fun i => (l[i]?).bind fun c => metE l c i)) := by
  have hlen := h.right.len
  exact eachN _ (by omega) (fun k i hi => by
    obtain ⟨c, hx⟩ : ∃ x, l[i]? = some x := ⟨l[i], List.getElem?_eq_getElem hi⟩
    have hcm := List.mem_of_getElem? hx
    have h8 := h.right.methods c hcm
    obtain ⟨hch, hcl, hcb⟩ := h.chain (n := (i : Int)) (by omega) (by omega)
    obtain ⟨r, hr⟩ := upl_ne hch (by omega)
    have hrev : (chn l i).reverse = (chn l i).tail.reverse ++ [(i : Int)] := by rw [hr]; simp
    have l15 : R_CheckLink_L15 F l (i : Int) (chn l i).reverse F 0 = some (wo ((chn l i).tail.reverse.findSome? (cls l c))) := each (l := (chn l i).tail.reverse) (cls l c) (by simp; omega) (fun k u x hxu => by
      have hul := (List.getElem?_eq_some_iff.1 hxu).1
      have hb := hcb x (List.mem_of_mem_tail (by simpa using List.mem_of_getElem? hxu))
      obtain ⟨w, hw, _⟩ := sups_idx (l := l) hb.1 hb.2
      have hwl : w ∈ l := by obtain ⟨_, _, h2⟩ := idx_some hw; exact List.mem_of_getElem? h2
      have hw8 := h.right.methods w hwl
      have hm : ms l x = w.Methods := by unfold ms; rw [hw]; rfl
      have hxr : (chn l i).reverse[u]? = some x := by rw [hrev, List.getElem?_append_left hul]; exact hxu
      have l16 : R_CheckLink_L16 F l (i : Int) (chn l i).reverse (u : Int) F 0 = some (wo (cls l c x)) := each (l := c.Methods) (fun a => (ms l x).findSome? (clE a)) (by omega) (fun k j a ha => by
        have ham := List.mem_of_getElem? ha
        have l17 : R_CheckLink_L17 F l (i : Int) (chn l i).reverse (u : Int) (j : Int) F 0 = some (wo (w.Methods.findSome? (clE a))) := each (l := w.Methods) (clE a) (by omega) (fun k q b hb => by
          have hbm := List.mem_of_getElem? hb
          have ha4 := h.right.method c hcm a ham
          have hb4 := h.right.method w hwl b hbm
          rw [R_CheckLink_L17]
          simp only [idx_at hxr, Option.bind_some, hw, lt_t (List.getElem?_eq_some_iff.1 hb).1, cond_true, idx_at hx, idx_at ha, idx_at hb]
          rw [sameKinds (by omega) (by omega) hF]
          unfold clE clash
          show cond _ (cond _ _ (Option.bind _ fun r => cond (!r) _ (cond (!decide (a.Returns = b.Returns)) _ _))) _ = _
          by_cases hn : a.Name = b.Name
          · rw [decide_eq_true hn]
            simp only [Option.bind_some, cond_true, Bool.true_and]
            cases a.Static <;> cases b.Static <;> cases decide (a.Args = b.Args) <;> cases decide (a.Returns = b.Returns) <;> rfl
          · rw [decide_eq_false hn]; rfl) (fun k => by rw [R_CheckLink_L17]; simp only [idx_at hxr, Option.bind_some, hw, lt_f]; rfl) (by omega)
        rw [R_CheckLink_L16, idx_at hx, Option.bind_some, lt_t (List.getElem?_eq_some_iff.1 ha).1, cond_true, l17, so_wo, so_wm, seqO_go, hm]) (fun k => by rw [R_CheckLink_L16, idx_at hx, Option.bind_some, lt_f]; rfl) (by omega)
      have hc2 : decide ((u : Int) < w64 (((chn l i).reverse.length : Int) - 1)) = true := by
        rw [w64_id (by omega) (by simp; omega)]
        simp only [List.length_reverse, List.length_tail] at hul
        exact decide_eq_true (by simp only [List.length_reverse]; omega)
      rw [R_CheckLink_L15, hc2, cond_true, l16, so_wo, so_wm, seqO_go]) (fun k => by
        have hc2 : decide (((chn l i).tail.reverse.length : Int) < w64 (((chn l i).reverse.length : Int) - 1)) = false := by
          rw [w64_id (by omega) (by simp; omega)]
          exact decide_eq_false (by rw [hr]; simp)
        rw [R_CheckLink_L15, hc2]; rfl) (by simp; omega)
    rw [R_CheckLink_L14, lt_t hi, cond_true, upfrom_eq hF h.right (by omega), Option.bind_some, l15, so_wo, so_wm, seqO_go, hx, fs_rev (cls_four c)]
    rfl) (fun k => by rw [R_CheckLink_L14, lt_f]; rfl) (by omega)
end
end Cin
