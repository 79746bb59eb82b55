/- Plain law, the link laws: both links are the same. No program in sight. -/
import Derived.Test.YtfbkanhgjpdohaaPlainLk8
namespace Cin
def noLink : Linked := ⟨[], [], [], [], []⟩
def rows {β : Type} (f : Int → β) (i : Nat) : List β := (List.range i).map fun j : Nat => f (j : Int)
theorem rows_succ {β : Type} (f : Int → β) (i : Nat) : rows f (i + 1) = rows f i ++ [f (i : Int)] := by simp [rows, List.range_succ]
def linked (l : List Class) : Linked := ⟨l, sups l, rows (flds l) l.length, rows (fun i => (tab l i).1) l.length, rows (fun i => (tab l i).2) l.length⟩
def bigE (l : List Class) (i : Nat) : Option (Linked × Int) := if 12 < (flds l i).length ∨ 16 < (tab l i).1.length then some (noLink, 2) else none
section
variable {F : Nat} {l : List Class}
theorem big_dec (x y : Nat) : ((decide ((12 : Int) < (x : Int))) || (decide ((16 : Int) < (y : Int)))) = decide (12 < x ∨ 16 < y) := by
  rw [Bool.eq_iff_iff]; simp; omega
theorem link_loop (hF : 1100 < F) (h : Hangs l) (r15 r18 : Int × link_linker) (h15 : r15.2.by_ = nmap 0 l) (h18 : r18.2.supers = sups l) :
    link_Link_L1 F l r15 r18 F [] [] [] 0 = some (woS ((List.range l.length).findSome? (bigE l)) (rows (fun i => (tab l i).2) l.length, rows (fun i => (tab l i).1) l.length, rows (flds l) l.length)) := by
  have hlen := h.right.len
  refine accW (n := l.length) (fun k i => link_Link_L1 F l r15 r18 k (rows (fun i => (tab l i).2) i) (rows (fun i => (tab l i).1) i) (rows (flds l) i) (i : Int)) _ _ (fun k i hi => ?_) (fun k => ?_) (F := F) (by omega)
  · show link_Link_L1 F l r15 r18 (k + 1) (rows (fun i => (tab l i).2) i) (rows (fun i => (tab l i).1) i) (rows (flds l) i) (i : Int) = _
    rw [link_Link_L1, lt_t hi, cond_true, h15, h18, h.link_table hF (nmap 0 l) (by omega) (by omega), Option.bind_some, h.link_fields hF (nmap 0 l) (by omega) (by omega), Option.bind_some,
      app_ok (by simp only [rows, List.length_map, List.length_range, List.length_cons, List.length_nil]; omega), Option.bind_some, app_ok (by simp only [rows, List.length_map, List.length_range, List.length_cons, List.length_nil]; omega), Option.bind_some,
      app_ok (by simp only [rows, List.length_map, List.length_range, List.length_cons, List.length_nil]; omega), Option.bind_some, idx_at (i := i) (x := flds l i) (by simp [rows]), Option.bind_some, big_dec, w64_up hi (by omega), ← rows_succ (flds l), ← rows_succ (fun i => (tab l i).1), ← rows_succ (fun i => (tab l i).2)]
    unfold bigE
    by_cases hb : 12 < (flds l i).length ∨ 16 < (tab l i).1.length
    · rw [decide_eq_true hb, if_pos hb]; rfl
    · rw [decide_eq_false hb, if_neg hb]; rfl
  · show link_Link_L1 F l r15 r18 (k + 1) (rows (fun i => (tab l i).2) l.length) (rows (fun i => (tab l i).1) l.length) (rows (flds l) l.length) (l.length : Int) = _
    rw [link_Link_L1, lt_f]; rfl
theorem ref_loop (hF : 1100 < F) (h : Hangs l) :
    R_LinkOf_L1 F l F [] [] [] [] 0 = some (woS ((List.range l.length).findSome? (bigE l)) (rows (fun i => (tab l i).2) l.length, rows (fun i => (tab l i).1) l.length, rows (flds l) l.length, sups l)) := by
  have hlen := h.right.len
  refine accW (n := l.length) (fun k i => R_LinkOf_L1 F l k (rows (fun i => (tab l i).2) i) (rows (fun i => (tab l i).1) i) (rows (flds l) i) ((sups l).take i) (i : Int)) _ _ (fun k i hi => ?_) (fun k => ?_) (F := F) (by omega)
  · obtain ⟨x, hx⟩ : ∃ x, l[i]? = some x := ⟨l[i], List.getElem?_eq_getElem hi⟩
    have e3 : (sups l).take i ++ [clAt l x.Super] = (sups l).take (i + 1) := by rw [List.take_add_one, sups_at hx]; rfl
    show R_LinkOf_L1 F l (k + 1) (rows (fun i => (tab l i).2) i) (rows (fun i => (tab l i).1) i) (rows (flds l) i) ((sups l).take i) (i : Int) = _
    rw [R_LinkOf_L1, lt_t hi, cond_true, h.ref_fields hF (by omega) (by omega), Option.bind_some, h.ref_table hF (by omega) (by omega), Option.bind_some, big_dec, idx_at hx, Option.bind_some, R_ClassAt_eq ⟨by omega, by omega⟩, Option.bind_some,
      app_ok (by simp only [List.length_take, sups_len, List.length_cons, List.length_nil]; omega), Option.bind_some,
      app_ok (by simp only [rows, List.length_map, List.length_range, List.length_cons, List.length_nil]; omega), Option.bind_some, app_ok (by simp only [rows, List.length_map, List.length_range, List.length_cons, List.length_nil]; omega), Option.bind_some,
      app_ok (by simp only [rows, List.length_map, List.length_range, List.length_cons, List.length_nil]; omega), Option.bind_some, w64_up hi (by omega), ← rows_succ (flds l), ← rows_succ (fun i => (tab l i).1), ← rows_succ (fun i => (tab l i).2), e3]
    unfold bigE
    by_cases hb : 12 < (flds l i).length ∨ 16 < (tab l i).1.length
    · rw [decide_eq_true hb, if_pos hb]; rfl
    · rw [decide_eq_false hb, if_neg hb]; rfl
  · show R_LinkOf_L1 F l (k + 1) (rows (fun i => (tab l i).2) l.length) (rows (fun i => (tab l i).1) l.length) (rows (flds l) l.length) ((sups l).take l.length) (l.length : Int) = _
    rw [R_LinkOf_L1, lt_f, List.take_of_length_le (by rw [sups_len]; omega)]; rfl
theorem ne_cond {α : Type} {e : Int} (h : e ≠ 0) {x y : α} : cond (!decide (e = 0)) x y = x := by rw [decide_eq_false h]; rfl
theorem eq_cond {α : Type} {x y : α} : cond (!decide ((0 : Int) = 0)) x y = y := rfl
theorem top_ne {e : Int} (h : l.findSome? topE = some e) : e = 4 := by
  obtain ⟨x, _, hx⟩ := List.exists_of_findSome?_eq_some h
  unfold topE at hx
  split at hx
  · cases hx
  · injection hx with hx; exact hx.symm
theorem mis_ne {e : Int} (h : l.findSome? (misE l) = some e) : e = 5 := by
  obtain ⟨x, _, hx⟩ := List.exists_of_findSome?_eq_some h
  unfold misE at hx
  split at hx
  · cases hx
  · injection hx with hx; exact hx.symm
theorem cyc_ne {e : Int} (h : (List.range l.length).findSome? (cycE l) = some e) : e = 4 := by
  obtain ⟨x, _, hx⟩ := List.exists_of_findSome?_eq_some h
  unfold cycE at hx
  split at hx
  · cases hx
  · injection hx with hx; exact hx.symm
theorem up_mget {nm : List UInt8} (h : 0 ≤ clAt l nm) : (mget (nmap 0 l) nm).getD 0 = clAt l nm := by
  rw [nmap_get]
  unfold clAt at h ⊢
  cases hp : posP (isN nm) l with
  | none => rw [hp] at h; simp at h
  | some i => simp
def errE (l : List Class) : Int := match idx l (clAt l [69, 114, 114, 111, 114]) with
  | none => 4
  | some x => if x.Super ≠ [79, 98, 106, 101, 99, 116] ∨ (flds l (clAt l [69, 114, 114, 111, 114])).length = 0 then 4 else
    match (flds l (clAt l [69, 114, 114, 111, 114]))[0]? with
    | none => 4
    | some f => if f.Kind.Kind = 1 then 0 else 4
/-- What is found, one after the other, by both. -/
theorem check_both (hF : 1100 < F) (hf : Fits F l) : ∃ e, R_CheckLink F l = some e ∧
    ((e ≠ 0 ∧ link_Link F l = some (noLink, e)) ∨
     (e = 0 ∧ Hangs l ∧ ∃ r15 r18 : Int × link_linker, r15.2.by_ = nmap 0 l ∧ r18.2.supers = sups l ∧
      link_Link F l = seqR (α := (List (List Target)) × (List (List (List UInt8))) × (List (List Field))) (link_Link_L1 F l r15 r18 F [] [] [] 0) fun ((l961_, l965_, l969_) : (List (List Target)) × (List (List (List UInt8))) × (List (List Field))) => some ((⟨l, r18.2.supers, l969_, l965_, l961_⟩ : Linked), 0))) := by
  unfold R_CheckLink link_Link
  rw [R_CheckClasses_eq hf, image_Check_eq hf, Option.bind_some, Option.bind_some]
  by_cases h0 : chk l = 0
  case neg => exact ⟨chk l, by rw [ne_cond h0], .inl ⟨h0, by rw [ne_cond h0]; rfl⟩⟩
  rw [h0, eq_cond, eq_cond]
  have hR := chk_right h0
  have hlen := hR.len
  rw [own_eq (by omega) hR, Option.bind_some]
  rcases names_dec (F := F) (by omega) hR with ⟨hO, n1, n2⟩ | ⟨_, ⟨m, n1⟩, n2⟩
  case inr =>
    unfold link_linker_names
    simp only
    rw [n1, n2]
    exact ⟨6, rfl, .inl ⟨by decide, rfl⟩⟩
  rw [n2, seqR_go, R_ClassAt_eq ⟨by omega, by omega⟩, Option.bind_some, R_ClassAt_eq ⟨by omega, by omega⟩, Option.bind_some]
  have hnames : link_linker_names F ⟨l, [], []⟩ = some (cond (decide (0 ≤ clAt l [79, 98, 106, 101, 99, 116]) && decide (0 ≤ clAt l [69, 114, 114, 111, 114])) 0 5, ⟨l, nmap 0 l, []⟩) := by
    unfold link_linker_names
    simp only
    rw [n1, seqR_go, nmap_some, nmap_some]
    cases decide (0 ≤ clAt l [79, 98, 106, 101, 99, 116]) <;> cases decide (0 ≤ clAt l [69, 114, 114, 111, 114]) <;> rfl
  rw [hnames, Option.bind_some]
  by_cases hob : 0 ≤ clAt l [79, 98, 106, 101, 99, 116]
  case neg =>
    rw [decide_eq_true (show clAt l [79, 98, 106, 101, 99, 116] < 0 by omega), decide_eq_false hob]
    exact ⟨5, rfl, .inl ⟨by decide, rfl⟩⟩
  rw [decide_eq_false (show ¬ clAt l [79, 98, 106, 101, 99, 116] < 0 by omega), decide_eq_true hob, cond_false]
  by_cases her : 0 ≤ clAt l [69, 114, 114, 111, 114]
  case neg =>
    rw [decide_eq_true (show clAt l [69, 114, 114, 111, 114] < 0 by omega), decide_eq_false her]
    exact ⟨5, rfl, .inl ⟨by decide, rfl⟩⟩
  rw [decide_eq_false (show ¬ clAt l [69, 114, 114, 111, 114] < 0 by omega), decide_eq_true her, cond_false, Bool.and_self, cond_true]
  simp only [Option.bind_some, decide_true, Bool.not_true, cond_false]
  -- above
  unfold link_linker_above
  simp only
  rw [top_L (by omega) hR, top_R (by omega) hR, sr_wo, sr_wo]
  cases ht : l.findSome? topE with
  | some e =>
    have := top_ne ht
    subst this
    exact ⟨4, rfl, .inl ⟨by decide, rfl⟩⟩
  | none =>
  simp only [Option.map_none, om]
  obtain ⟨o, ho, hm⟩ := mis_L (F := F) (by omega) hR
  rw [mis_R (by omega) hR, sr_wo, hm, ← ho]
  cases o with
  | some r =>
    simp only [Option.map_some] at ho
    have := mis_ne ho.symm
    refine ⟨5, by simp only [Option.map_some, om]; rw [this], .inl ⟨by decide, ?_⟩⟩
    obtain ⟨a, b⟩ := r
    simp only at this
    subst this
    rfl
  | none =>
  simp only [Option.map_none, om, woS, seqR_go]
  simp only [Option.map_none] at ho
  rw [cyc_R hF hR, sr_wo, cyc_L hF hR, sr_wo]
  cases hc : (List.range l.length).findSome? (cycE l) with
  | some e =>
    have := cyc_ne hc
    subst this
    exact ⟨4, rfl, .inl ⟨by decide, rfl⟩⟩
  | none =>
  simp only [Option.map_none, om, Option.bind_some, decide_true, Bool.not_true, cond_false]
  have hmis : ∀ c ∈ l, c.Super = [] ∨ 0 ≤ clAt l c.Super := fun c hcl => by
    have := List.findSome?_eq_none_iff.1 ho.symm c hcl
    unfold misE at this
    split at this
    · assumption
    · cases this
  have hup : ∀ i, i < l.length → ∃ c, upl (sups l) l.length (i : Int) = some c := fun i hi => by
    have := List.findSome?_eq_none_iff.1 hc i (by simpa using hi)
    unfold cycE at this
    split at this
    · rename_i h1; exact Option.isSome_iff_exists.1 h1
    · cases this
  have hH : Hangs l := ⟨hR, hO, hmis, hup, fun c hcl => List.findSome?_eq_none_iff.1 ht c hcl, hob⟩
  -- Error
  have hel : clAt l [69, 114, 114, 111, 114] < l.length := clAt_lt
  obtain ⟨x, hx, _⟩ := sups_idx (l := l) her hel
  unfold link_linker_errors
  simp only [up_mget her]
  rw [hH.ref_fields hF her hel, Option.bind_some, hH.link_fields hF (nmap 0 l) her hel, Option.bind_some, hx, Option.bind_some, Option.bind_some]
  by_cases hs : ((!decide (x.Super = [79, 98, 106, 101, 99, 116])) || (decide (((flds l (clAt l [69, 114, 114, 111, 114])).length : Int) = 0))) = true
  · rw [hs]
    exact ⟨4, rfl, .inl ⟨by decide, rfl⟩⟩
  rw [Bool.eq_false_iff.2 hs, cond_false, cond_false]
  have hne : 0 < (flds l (clAt l [69, 114, 114, 111, 114])).length := by
    simp only [Bool.or_eq_true, decide_eq_true_eq, not_or] at hs
    omega
  have hx0 : idx (flds l (clAt l [69, 114, 114, 111, 114])) 0 = some ((flds l (clAt l [69, 114, 114, 111, 114]))[0]) := by
    have := idx_at (l := flds l (clAt l [69, 114, 114, 111, 114])) (i := 0) (List.getElem?_eq_getElem hne)
    exact this
  rw [hx0, Option.bind_some, Option.bind_some]
  by_cases hk : ((flds l (clAt l [69, 114, 114, 111, 114]))[0]).Kind.Kind = 1
  case neg =>
    rw [decide_eq_false hk]
    exact ⟨4, rfl, .inl ⟨by decide, rfl⟩⟩
  rw [decide_eq_true hk]
  simp only [Bool.not_true, cond_false, Option.bind_some, decide_true]
  -- told
  rw [told_R hF hR, sr_wo, told_L hF hR, Option.bind_some]
  cases hto : (toldL l).findSome? (tokE l) with
  | some e =>
    have : e = 5 := by
      obtain ⟨s, _, h1⟩ := List.exists_of_findSome?_eq_some hto
      rcases tokE_five (l := l) (s := s) with h2 | h2
      · rw [h2] at h1; cases h1
      · rw [h2] at h1; injection h1 with h1; exact h1.symm
    subst this
    exact ⟨5, rfl, .inl ⟨by decide, rfl⟩⟩
  | none =>
  simp only [om, Option.getD_none, decide_true, Bool.not_true, cond_false]
  rw [once_R hF hH, sr_wo, once_L hF hH, Option.bind_some]
  cases hon : (List.range l.length).findSome? (onceE l) with
  | some e =>
    have : e = 6 := by
      obtain ⟨s, _, h1⟩ := List.exists_of_findSome?_eq_some hon
      unfold onceE dupE at h1
      split at h1
      · split at h1
        · cases h1
        · simp at h1; exact h1.symm
      · simp at h1; exact h1.symm
    subst this
    exact ⟨6, rfl, .inl ⟨by decide, rfl⟩⟩
  | none =>
  simp only [om, Option.getD_none, decide_true, Bool.not_true, cond_false]
  rw [met_R hF hH, sr_wo, met_L hF hH, Option.bind_some]
  cases hme : (List.range l.length).findSome? (fun i => (l[i]?).bind fun c => metE l c i) with
  | some e =>
    have : e = 4 := by
      obtain ⟨i, _, h1⟩ := List.exists_of_findSome?_eq_some hme
      cases hli : l[i]? with
      | none => rw [hli] at h1; cases h1
      | some c =>
        rw [hli, Option.bind_some] at h1
        unfold metE at h1
        rcases fs_five (cls_four (l := l) c) (chn l i).tail with h2 | h2
        · rw [h2] at h1; cases h1
        · rw [h2] at h1; injection h1 with h1; exact h1.symm
    subst this
    exact ⟨4, rfl, .inl ⟨by decide, rfl⟩⟩
  | none =>
  simp only [om, Option.getD_none, decide_true, Bool.not_true, cond_false]
  exact ⟨0, rfl, .inr ⟨rfl, hH, (0, ⟨l, nmap 0 l, []⟩), (0, ⟨l, nmap 0 l, sups l⟩), rfl, rfl, rfl⟩⟩
/-- Both link alike. -/
theorem link_both (hF : 1100 < F) (hf : Fits F l) : ∃ r : Linked × Int, link_Link F l = some r ∧ R_LinkOf F l = some r ∧ (r.2 = 0 → Hangs l ∧ r.1 = linked l) ∧ (r.2 ≠ 0 → r.1 = noLink) := by
  obtain ⟨e, h1, h2⟩ := check_both hF hf
  unfold R_LinkOf
  rw [h1, Option.bind_some]
  rcases h2 with ⟨he, h2⟩ | ⟨rfl, hH, r15, r18, h15, h18, h2⟩
  · exact ⟨_, h2, by rw [ne_cond he]; rfl, fun h => absurd h he, fun _ => rfl⟩
  · rw [eq_cond, h2, link_loop hF hH r15 r18 h15 h18, ref_loop hF hH]
    cases hb : (List.range l.length).findSome? (bigE l) with
    | some r =>
      have : r = (noLink, 2) := by
        obtain ⟨i, _, h1⟩ := List.exists_of_findSome?_eq_some hb
        unfold bigE at h1
        split at h1
        · injection h1 with h1; exact h1.symm
        · cases h1
      subst this
      exact ⟨_, rfl, rfl, fun h => absurd h (by decide), fun _ => rfl⟩
    | none =>
      refine ⟨_, rfl, ?_, fun _ => ⟨hH, ?_⟩, fun h => absurd rfl h⟩
      · simp only [woS, seqR_go, h18]
      · simp only [h18]; rfl
end
end Cin
