/- Plain law, the link laws: who is above whom; chains. No program in sight. -/
import Derived.Test.YtfbkanhgjpdohaaPlainLk3
namespace Cin
def woS {ρ σ : Type} (o : Option ρ) (a : σ) : Way ρ σ := match o with
  | some r => .out r
  | none => .go a
def wmS {ρ σ : Type} (o : Option ρ) (y : Option (Way ρ σ)) : Option (Way ρ σ) := match o with
  | some r => some (.out r)
  | none => y
theorem accW {ρ σ : Type} {n : Nat} (T : Nat → Nat → Option (Way ρ σ)) (g : Nat → Option ρ) (fin : σ) (hs : ∀ k i, i < n → T (k + 1) i = wmS (g i) (T k (i + 1))) (he : ∀ k, T (k + 1) n = some (.go fin)) {F : Nat} (hF : n < F) :
    T F 0 = some (woS ((List.range n).findSome? g) fin) := by
  have key : ∀ (d i k : Nat), i + d = n → d < k → T k i = some (woS (((List.range n).drop i).findSome? g) fin) := by
    intro d
    induction d with
    | zero =>
      intro i k h hk
      obtain ⟨k, rfl⟩ : ∃ k', k = k' + 1 := ⟨k - 1, by omega⟩
      have hi : i = n := by omega
      subst hi
      rw [he, List.drop_of_length_le (by simp)]; rfl
    | succ d ih =>
      intro i k h hk
      obtain ⟨k, rfl⟩ : ∃ k', k = k' + 1 := ⟨k - 1, by omega⟩
      have hi : i < n := by omega
      rw [hs k i hi, List.drop_eq_getElem_cons (by simpa using hi), List.findSome?_cons]
      simp only [List.getElem_range]
      cases hg : g i with
      | some r => rfl
      | none =>
        simp only [wmS]
        exact ih (i + 1) k (by omega) (by omega)
  have := key n 0 F (by omega) hF
  simpa using this
theorem fs_map {α β γ : Type} (g : α → Option β) (f : β → γ) : ∀ l : List α, l.findSome? (fun c => (g c).map f) = (l.findSome? g).map f
  | [] => rfl
  | c :: r => by
    simp only [List.findSome?_cons]
    cases g c with
    | some e => rfl
    | none => simp only [Option.map_none]; exact fs_map g f r
def sups (l : List Class) : List Int := l.map fun c => clAt l c.Super
theorem sups_at {l : List Class} {i : Nat} {x : Class} (h : l[i]? = some x) : (sups l)[i]? = some (clAt l x.Super) := by simp [sups, h]
def topE (c : Class) : Option Int := if (decide (c.Name = [79, 98, 106, 101, 99, 116])) == (decide (c.Super = [])) then none else some 4
def misE (l : List Class) (c : Class) : Option Int := if c.Super = [] ∨ 0 ≤ clAt l c.Super then none else some 5
section
variable {F : Nat} {l : List Class}
theorem top_R (hF : 100 < F) (h : Right l) : R_CheckLink_L2 l F 0 = some (wo (l.findSome? topE)) := each topE (by have := h.len; omega) (fun k i x hx => by
  rw [R_CheckLink_L2, lt_t (List.getElem?_eq_some_iff.1 hx).1, cond_true, idx_at hx, Option.bind_some, Option.bind_some]
  unfold topE
  cases (decide (x.Name = [79, 98, 106, 101, 99, 116])) == (decide (x.Super = [])) <;> rfl) (fun k => by rw [R_CheckLink_L2, lt_f]; rfl) (by have := h.len; omega)
theorem top_L (hF : 100 < F) (h : Right l) (m : List (List UInt8 × Int)) (s : List Int) : link_linker_above_L1 ⟨l, m, s⟩ F 0 = some (wo ((l.findSome? topE).map fun e => (e, (⟨l, m, s⟩ : link_linker)))) := by
  have := each (l := l) (L := link_linker_above_L1 ⟨l, m, s⟩) (fun c => (topE c).map fun e => (e, (⟨l, m, s⟩ : link_linker))) (by have := h.len; omega) (fun k i x hx => by
    rw [link_linker_above_L1]
    show cond (decide ((i : Int) < (l.length : Int))) ((idx l (i : Int)).bind _) _ = _
    rw [lt_t (List.getElem?_eq_some_iff.1 hx).1, cond_true, idx_at hx, Option.bind_some]
    unfold topE
    cases (decide (x.Name = [79, 98, 106, 101, 99, 116])) == (decide (x.Super = [])) <;> rfl) (fun k => by
      rw [link_linker_above_L1]
      show cond (decide ((l.length : Int) < (l.length : Int))) _ _ = _
      rw [lt_f]; rfl) (F := F) (by have := h.len; omega)
  rw [this, fs_map]
/-- Where each is told above whom it stands. -/
theorem mis_R (hF : 100 < F) (h : Right l) : R_CheckLink_L3 F l F 0 = some (wo (l.findSome? (misE l))) := each (misE l) (by have := h.len; omega) (fun k i x hx => by
  have hlen := h.len
  rw [R_CheckLink_L3, lt_t (List.getElem?_eq_some_iff.1 hx).1, cond_true, idx_at hx, Option.bind_some, Option.bind_some, R_ClassAt_eq ⟨by omega, by omega⟩, Option.bind_some]
  unfold misE
  by_cases hs : x.Super = []
  · rw [if_pos (.inl hs), decide_eq_true hs]; rfl
  · rw [decide_eq_false hs]
    by_cases hc : 0 ≤ clAt l x.Super
    · rw [if_pos (.inr hc), decide_eq_false (show ¬ clAt l x.Super < 0 by omega)]; rfl
    · rw [if_neg (by simp [hs, hc]), decide_eq_true (show clAt l x.Super < 0 by omega)]; rfl) (fun k => by rw [R_CheckLink_L3, lt_f]; rfl) (by have := h.len; omega)
theorem clAt_nil (h : Right l) : clAt l [] = -1 := by
  unfold clAt
  cases hp : posP (isN []) l with
  | none => rfl
  | some i =>
    obtain ⟨x, h1, h2, _⟩ := posP_some hp
    have := isNm_ne (h.name x (List.mem_of_getElem? h1))
    simp [isN] at h2
    exact absurd h2 this
theorem mis_L (hF : 100 < F) (h : Right l) : ∃ o : Option (Int × link_linker), o.map (·.1) = l.findSome? (misE l) ∧ link_linker_above_L2 ⟨l, nmap 0 l, []⟩ F [] 0 = some (woS o (sups l)) := by
  have hlen := h.len
  refine ⟨(List.range l.length).findSome? fun i => ((l[i]?).bind (misE l)).map fun e => (e, (⟨l, nmap 0 l, (sups l).take i⟩ : link_linker)), ?_, ?_⟩
  · have e1 : ∀ (n : Nat), n ≤ l.length → ((List.range' (l.length - n) n).findSome? fun i => ((l[i]?).bind (misE l)).map fun e => (e, (⟨l, nmap 0 l, (sups l).take i⟩ : link_linker))).map (·.1) = (l.drop (l.length - n)).findSome? (misE l) := by
      intro n
      induction n with
      | zero => intro _; simp
      | succ n ih =>
        intro hn
        have hi : l.length - (n + 1) < l.length := by omega
        rw [List.range'_succ, List.findSome?_cons, List.drop_eq_getElem_cons hi, List.findSome?_cons, List.getElem?_eq_getElem hi, Option.bind_some]
        cases misE l l[l.length - (n + 1)] with
        | some e => rfl
        | none =>
          simp only [Option.map_none]
          rw [show l.length - (n + 1) + 1 = l.length - n by omega]
          exact ih (by omega)
    have := e1 l.length (Nat.le_refl _)
    simpa [List.range_eq_range'] using this
  · refine accW (n := l.length) (fun k i => link_linker_above_L2 ⟨l, nmap 0 l, []⟩ k ((sups l).take i) (i : Int)) _ (sups l) (fun k i hi => ?_) (fun k => ?_) (F := F) (by omega)
    · obtain ⟨x, hx⟩ : ∃ x, l[i]? = some x := ⟨l[i], List.getElem?_eq_getElem hi⟩
      show link_linker_above_L2 ⟨l, nmap 0 l, []⟩ (k + 1) ((sups l).take i) (i : Int) = _
      rw [link_linker_above_L2]
      show cond (decide ((i : Int) < (l.length : Int))) (seqO (α := List Int) ((idx l (i : Int)).bind _) _) _ = _
      rw [lt_t hi, cond_true, idx_at hx, Option.bind_some, hx, Option.bind_some]
      have hget : mget (nmap 0 l) x.Super = (posP (isN x.Super) l).map fun n : Nat => ((n + 0 : Nat) : Int) := nmap_get x.Super l 0
      have e3 : (sups l).take (i + 1) = (sups l).take i ++ [clAt l x.Super] := by rw [List.take_add_one, sups_at hx]; rfl
      have happ : app 8 ((sups l).take i) [clAt l x.Super] = some ((sups l).take (i + 1)) := by
        unfold app
        rw [if_pos (by simp only [List.length_take, List.length_cons, List.length_nil]; omega), e3]
      have fin : ∀ n : Int, n = clAt l x.Super → seqO (α := List Int) (seqO (α := Int) (ρ := Int × link_linker) (some (.go n)) fun (n546_ : Int) => (app 8 ((sups l).take i) [n546_]).bind fun l555_ => some (.go l555_)) (fun (l524_ : List Int) => link_linker_above_L2 ⟨l, nmap 0 l, []⟩ k l524_ (w64 ((i : Int) + 1))) = link_linker_above_L2 ⟨l, nmap 0 l, []⟩ k ((sups l).take (i + 1)) ((i + 1 : Nat) : Int) := by
        intro n hn
        subst hn
        rw [seqO_go, happ, Option.bind_some, seqO_go, w64_up hi (by omega)]
      unfold misE
      by_cases hs : x.Super = []
      · rw [if_pos (.inl hs), decide_eq_true hs, cond_true]
        exact fin (-1) (by rw [hs, clAt_nil h])
      · rw [decide_eq_false hs, cond_false]
        cases hp : posP (isN x.Super) l with
        | none =>
          have hneg : clAt l x.Super < 0 := clAt_neg.2 hp
          rw [if_neg (by simp [hs]; omega), hget, hp]
          rfl
        | some j =>
          have hval : clAt l x.Super = (j : Int) := by unfold clAt; rw [hp]; rfl
          rw [if_pos (.inr (by omega)), hget, hp]
          exact fin _ (by rw [hval]; simp)
    · show link_linker_above_L2 ⟨l, nmap 0 l, []⟩ (k + 1) ((sups l).take l.length) (l.length : Int) = _
      rw [link_linker_above_L2]
      show cond (decide ((l.length : Int) < (l.length : Int))) _ _ = _
      rw [lt_f, cond_false, List.take_of_length_le (by simp [sups])]

/-! ### Chains -/
def upl (S : List Int) : Nat → Int → Option (List Int)
  | 0, n => if n < 0 then some [] else none
  | k + 1, n => if n < 0 then some [] else (idx S n).bind fun m => (upl S k m).map (n :: ·)
theorem upl_up {S : List Int} : ∀ {k : Nat} {n : Int} {c : List Int}, upl S k n = some c → upl S (k + 1) n = some c
  | 0, n, c, h => by
    simp only [upl] at h ⊢
    split at h
    · rename_i hn; rw [if_pos hn]; exact h
    · cases h
  | k + 1, n, c, h => by
    rw [upl] at h ⊢
    split at h
    · rename_i hn; rw [if_pos hn]; exact h
    · rename_i hn
      rw [if_neg hn]
      cases hi : idx S n with
      | none => rw [hi] at h; cases h
      | some m =>
        rw [hi, Option.bind_some] at h
        rw [Option.bind_some]
        cases hu : upl S k m with
        | none => rw [hu] at h; cases h
        | some c' => rw [hu] at h; rw [upl_up hu]; exact h
theorem upl_mono {S : List Int} {k k' : Nat} {n : Int} {c : List Int} (h : upl S k n = some c) (hk : k ≤ k') : upl S k' n = some c := by
  obtain ⟨d, rfl⟩ : ∃ d, k' = k + d := ⟨k' - k, by omega⟩
  clear hk
  induction d with
  | zero => exact h
  | succ d ih => exact upl_up ih
theorem upl_one {S : List Int} {k k' : Nat} {n : Int} {c c' : List Int} (h : upl S k n = some c) (h' : upl S k' n = some c') : c = c' := by
  have h1 := upl_mono h (Nat.le_max_left k k')
  have h2 := upl_mono h' (Nat.le_max_right k k')
  rw [h1] at h2
  exact Option.some.inj h2
theorem upl_tight {S : List Int} : ∀ {k : Nat} {n : Int} {c : List Int}, upl S k n = some c → c.length ≤ k ∧ upl S c.length n = some c
  | 0, n, c, h => by
    simp only [upl] at h
    split at h
    · rename_i hn
      injection h with h
      subst h
      simp [upl, hn]
    · cases h
  | k + 1, n, c, h => by
    have h0 := h
    rw [upl] at h
    split at h
    · rename_i hn
      injection h with h
      subst h
      simp [upl, hn]
    · rename_i hn
      cases hi : idx S n with
      | none => rw [hi] at h; cases h
      | some m =>
        rw [hi, Option.bind_some] at h
        cases hu : upl S k m with
        | none => rw [hu] at h; cases h
        | some c' =>
          rw [hu] at h
          simp only [Option.map_some, Option.some.injEq] at h
          subst h
          obtain ⟨h1, h2⟩ := upl_tight hu
          refine ⟨by simpa using h1, ?_⟩
          rw [List.length_cons, upl, if_neg hn, hi, Option.bind_some, h2]; rfl
/-- Each member of a chain has its own, a part of it. -/
theorem upl_part {S : List Int} : ∀ {k : Nat} {n : Int} {c : List Int}, upl S k n = some c → ∀ x ∈ c, (0 ≤ x ∧ x < S.length) ∧ ∃ k' c', upl S k' x = some c' ∧ c'.length ≤ c.length ∧ c' ≠ []
  | 0, n, c, h, x, hx => by
    simp only [upl] at h
    split at h
    · injection h with h; subst h; cases hx
    · cases h
  | k + 1, n, c, h, x, hx => by
    have h0 := h
    rw [upl] at h
    split at h
    · injection h with h; subst h; cases hx
    · rename_i hn
      cases hi : idx S n with
      | none => rw [hi] at h; cases h
      | some m =>
        rw [hi, Option.bind_some] at h
        cases hu : upl S k m with
        | none => rw [hu] at h; cases h
        | some c' =>
          rw [hu] at h
          simp only [Option.map_some, Option.some.injEq] at h
          subst h
          obtain ⟨g0, g1, _⟩ := idx_some hi
          rcases List.mem_cons.1 hx with rfl | e
          · exact ⟨⟨by omega, by omega⟩, k + 1, _, h0, Nat.le_refl _, by simp⟩
          · obtain ⟨h1, k', c2, h2, h3, h4⟩ := upl_part hu x e
            exact ⟨h1, k', c2, h2, by simp only [List.length_cons]; omega, h4⟩
theorem upl_nodup {S : List Int} : ∀ {k : Nat} {n : Int} {c : List Int}, upl S k n = some c → c.Nodup
  | 0, n, c, h => by
    simp only [upl] at h
    split at h
    · injection h with h; subst h; simp
    · cases h
  | k + 1, n, c, h => by
    have h0 := h
    rw [upl] at h
    split at h
    · injection h with h; subst h; simp
    · cases hi : idx S n with
      | none => rw [hi] at h; cases h
      | some m =>
        rw [hi, Option.bind_some] at h
        cases hu : upl S k m with
        | none => rw [hu] at h; cases h
        | some c' =>
          rw [hu] at h
          simp only [Option.map_some, Option.some.injEq] at h
          subst h
          refine List.nodup_cons.2 ⟨fun hin => ?_, upl_nodup hu⟩
          obtain ⟨_, k', c2, h2, h3, _⟩ := upl_part hu n hin
          have := upl_one h0 h2
          subst this
          simp only [List.length_cons] at h3
          omega
theorem pigeon : ∀ (n : Nat) (c : List Nat), c.Nodup → (∀ x ∈ c, x < n) → c.length ≤ n
  | 0, c, _, h => by
    cases c with
    | nil => simp
    | cons x r => exact absurd (h x (by simp)) (by omega)
  | n + 1, c, hd, h => by
    by_cases hn : n ∈ c
    · have h1 := pigeon n (c.erase n) (hd.erase n) (fun x hx => by
        have h2 := (hd.mem_erase_iff).1 hx
        have := h x h2.2
        omega)
      rw [List.length_erase_of_mem hn] at h1
      omega
    · have := pigeon n c hd (fun x hx => by
        have h1 := h x hx
        have : x ≠ n := fun e => hn (e ▸ hx)
        omega)
      omega
theorem upl_le {S : List Int} {k : Nat} {n : Int} {c : List Int} (h : upl S k n = some c) : c.length ≤ S.length := by
  have hp := upl_part h
  have hd := upl_nodup h
  have := pigeon S.length (c.map Int.toNat) (by
    rw [List.Nodup, List.pairwise_map]
    refine List.Pairwise.imp_of_mem ?_ hd
    intro a b ha hb hab e
    have h1 := (hp a ha).1
    have h2 := (hp b hb).1
    exact hab (by omega)) (fun x hx => by
    obtain ⟨y, hy, rfl⟩ := List.mem_map.1 hx
    have h1 := (hp y hy).1
    omega)
  simpa using this
theorem upl_len {S : List Int} {k : Nat} {n : Int} (hk : S.length ≤ k) : upl S k n = upl S S.length n := by
  cases h : upl S k n with
  | some c =>
    obtain ⟨_, h2⟩ := upl_tight h
    exact (upl_mono h2 (upl_le h)).symm
  | none =>
    cases h' : upl S S.length n with
    | none => rfl
    | some c => rw [upl_mono h' hk] at h; cases h
theorem chain_eq {m : List (List UInt8 × Int)} {S : List Int} {k : Nat} {n : Int} {c : List Int} (h : upl S k n = some c) (hc : c.length ≤ 1000) (hF : 1001 < F) : link_linker_chain F ⟨l, m, S⟩ n = some c := by
  have key : ∀ (k : Nat) (n : Int) (c acc : List Int) (f : Nat), upl S k n = some c → c.length < f → acc.length + c.length ≤ 1000 → link_linker_chain_L1 ⟨l, m, S⟩ f acc n = some (acc ++ c) := by
    intro k
    induction k with
    | zero =>
      intro n c acc f h hf _
      obtain ⟨f, rfl⟩ : ∃ f', f = f' + 1 := ⟨f - 1, by omega⟩
      simp only [upl] at h
      split at h
      · injection h with h
        subst h
        rw [link_linker_chain_L1, decide_eq_false (by omega)]
        simp
      · cases h
    | succ k ih =>
      intro n c acc f h hf hl
      obtain ⟨f, rfl⟩ : ∃ f', f = f' + 1 := ⟨f - 1, by omega⟩
      rw [upl] at h
      split at h
      · injection h with h
        subst h
        rw [link_linker_chain_L1, decide_eq_false (by omega)]
        simp
      · rename_i hn
        cases hi : idx S n with
        | none => rw [hi] at h; cases h
        | some x =>
          rw [hi, Option.bind_some] at h
          cases hu : upl S k x with
          | none => rw [hu] at h; cases h
          | some c' =>
            rw [hu] at h
            simp only [Option.map_some, Option.some.injEq] at h
            subst h
            simp only [List.length_cons] at hf hl
            rw [link_linker_chain_L1, decide_eq_true (by omega), cond_true]
            unfold app
            rw [if_pos (by simp only [List.length_cons, List.length_nil]; omega)]
            show ((some (acc ++ [n])).bind fun l162_ => (idx S n).bind fun x167_ => _) = _
            rw [Option.bind_some, hi, Option.bind_some, ih x c' (acc ++ [n]) f hu (by omega) (by simp only [List.length_append, List.length_cons, List.length_nil]; omega)]
            simp
  unfold link_linker_chain
  rw [key k n c [] F h (by omega) (by simp; omega)]
  rfl
end
end Cin
