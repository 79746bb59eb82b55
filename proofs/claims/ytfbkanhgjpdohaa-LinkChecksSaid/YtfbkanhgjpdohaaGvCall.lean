/- The small logic, calls: what is owned is handed in and comes back; what is lent is read. General: no program is named. -/
import Derived.Test.YtfbkanhgjpdohaaGvMap
namespace Gg
open Go Go.RowKit Cin

/-- Owned things are apart: by their places. -/
def FD (E : List Ent) : Prop := ∀ (i : Nat) (x : Ent), E[i]? = some x → x.foot.Nodup ∧ ∀ (j : Nat) (y : Ent), E[j]? = some y → i ≠ j → ∀ k ∈ x.foot, k ∉ y.foot
theorem fd_of : ∀ {E : List Ent}, (foots E).Nodup → FD E
  | [], _ => fun i x h => by simp at h
  | e :: E, h => by
    have h' : (e.foot ++ foots E).Nodup := by simpa [foots] using h
    rw [List.nodup_append] at h'
    obtain ⟨h1, h2, h3⟩ := h'
    have ih := fd_of h2
    intro i x hx
    cases i with
    | zero =>
      simp only [List.getElem?_cons_zero, Option.some.injEq] at hx
      subst hx
      refine ⟨h1, fun j y hy hne k hk hk' => ?_⟩
      cases j with
      | zero => exact hne rfl
      | succ j => exact h3 k hk k (List.mem_flatMap.2 ⟨y, List.mem_of_getElem? (by simpa using hy), hk'⟩) rfl
    | succ i =>
      have hx : E[i]? = some x := by simpa using hx
      refine ⟨(ih i x hx).1, fun j y hy hne k hk hk' => ?_⟩
      cases j with
      | zero =>
        simp only [List.getElem?_cons_zero, Option.some.injEq] at hy
        subst hy
        exact h3 k hk' k (List.mem_flatMap.2 ⟨x, List.mem_of_getElem? hx, hk⟩) rfl
      | succ j => exact (ih i x hx).2 j y (by simpa using hy) (by omega) k hk hk'
theorem of_fd : ∀ {E : List Ent}, FD E → (foots E).Nodup
  | [], _ => by simp [foots]
  | e :: E, h => by
    have e1 : foots (e :: E) = e.foot ++ foots E := by simp [foots]
    rw [e1, List.nodup_append]
    refine ⟨(h 0 e rfl).1, of_fd fun i x hx => ⟨(h (i + 1) x (by simpa using hx)).1, fun j y hy hne k hk => (h (i + 1) x (by simpa using hx)).2 (j + 1) y (by simpa using hy) (by omega) k hk⟩, fun a ha b hb hab => ?_⟩
    subst hab
    obtain ⟨x, hx, hk⟩ := List.mem_flatMap.1 hb
    obtain ⟨i, hi, rfl⟩ := List.mem_iff_getElem.1 hx
    exact (h 0 e rfl).2 (i + 1) E[i] (by simp [hi]) (by omega) a ha hk
def selE (E : List Ent) : List Nat → Option (List Ent)
  | [] => some []
  | i :: r => match nth E i, selE E r with
    | some x, some xs => some (x :: xs)
    | _, _ => none
def inB : List Nat → Nat → Bool
  | [], _ => false
  | i :: r, j => Nat.beq i j || inB r j
def ndB : List Nat → Bool
  | [] => true
  | i :: r => !inB r i && ndB r
theorem inB_ok {l : List Nat} {j : Nat} (h : inB l j = false) : j ∉ l := by
  induction l with
  | nil => simp
  | cons i r ih =>
    simp only [inB, Bool.or_eq_false_iff] at h
    intro hm
    rcases List.mem_cons.1 hm with rfl | e
    · simp at h
    · exact ih h.2 e
theorem ndB_ok : ∀ {l : List Nat}, ndB l = true → l.Nodup
  | [], _ => by simp
  | i :: r, h => by
    simp only [ndB, Bool.and_eq_true, Bool.not_eq_true'] at h
    exact List.nodup_cons.2 ⟨inB_ok h.1, ndB_ok h.2⟩
theorem selE_at {E : List Ent} : ∀ {is : List Nat} {E' : List Ent}, selE E is = some E' → ∀ (m : Nat) (x : Ent), E'[m]? = some x → ∃ i : Nat, is[m]? = some i ∧ E[i]? = some x
  | [], E', h, m, x, hx => by simp only [selE, Option.some.injEq] at h; subst h; simp at hx
  | i :: r, E', h, m, x, hx => by
    simp only [selE] at h
    split at h
    · rename_i y ys h1 h2
      simp only [Option.some.injEq] at h
      subst h
      cases m with
      | zero =>
        simp only [List.getElem?_cons_zero, Option.some.injEq] at hx
        subst hx
        exact ⟨i, rfl, by rw [← nth_eq]; exact h1⟩
      | succ m => obtain ⟨q, q1, q2⟩ := selE_at h2 m x (by simpa using hx); exact ⟨q, by simpa using q1, q2⟩
    · cases h

section
variable {W w w' : World} {M0 X : List Nat} {E : List Ent} {D : List Dt}
/-- Some of what is owned, in another order. -/
theorem St.sel (h : St W M0 X w E D) (is : List Nat) {E' : List Ent} (hn : ndB is = true) (hs : selE E is = some E') : St W M0 X w E' D := by
  have hmem : ∀ x ∈ E', x ∈ E := fun x hx => by
    obtain ⟨m, hm, rfl⟩ := List.mem_iff_getElem.1 hx
    obtain ⟨i, _, hi⟩ := selE_at hs m _ (List.getElem?_eq_getElem hm)
    exact List.mem_of_getElem? hi
  have hf : ∀ k ∈ foots E', k ∈ foots E := fun k hk => by
    obtain ⟨x, hx, hkx⟩ := List.mem_flatMap.1 hk
    exact List.mem_flatMap.2 ⟨x, hmem x hx, hkx⟩
  have hd := fd_of h.dj
  have hnd := ndB_ok hn
  refine ⟨h.ev, h.ltX, fun k hk => h.lt k (hf k hk), fun x hx => h.ok x (hmem x hx), of_fd fun m x hx => ?_, fun y hy => y.law _ _ w w (Ev.refl _ _) (fun k hk => .inl ?_) (h.rd y hy)⟩
  · obtain ⟨i, hi, hx'⟩ := selE_at hs m x hx
    refine ⟨(hd i x hx').1, fun m' y hy hne k hk => ?_⟩
    obtain ⟨j, hj, hy'⟩ := selE_at hs m' y hy
    refine (hd i x hx').2 j y hy' (fun e => ?_) k hk
    subst e
    obtain ⟨l1, e1⟩ := List.getElem?_eq_some_iff.1 hi
    obtain ⟨l2, e2⟩ := List.getElem?_eq_some_iff.1 hj
    rcases Nat.lt_or_gt_of_ne hne with hlt | hlt
    · exact (List.pairwise_iff_getElem.1 hnd m m' l1 l2 hlt) (e1.trans e2.symm)
    · exact (List.pairwise_iff_getElem.1 hnd m' m l2 l1 hlt) (e2.trans e1.symm)
  · rcases List.mem_append.1 hk with e | e
    · exact List.mem_append.2 (.inl e)
    · exact List.mem_append.2 (.inr (hf k e))

theorem foots_app (A B : List Ent) : foots (A ++ B) = foots A ++ foots B := by simp [foots]
/-- The first m things are handed in. -/
theorem St.into (h : St W M0 X w E D) (m : Nat) : St w (foots (E.take m)) (X ++ foots (E.drop m)) w (E.take m) D := by
  have hE : foots E = foots (E.take m) ++ foots (E.drop m) := by rw [← foots_app, List.take_append_drop]
  have hd := h.dj
  rw [hE, List.nodup_append] at hd
  refine ⟨Ev.refl _ _, fun k hk => ?_, fun k hk => ⟨(h.lt k (by rw [hE]; simp [hk])).1, .inl hk⟩, fun x hx => h.ok x (List.mem_of_mem_take hx), hd.1, fun y hy => y.law _ _ w w (Ev.refl _ _) (fun k hk => .inl ?_) (h.rd y hy)⟩
  · rcases List.mem_append.1 hk with e | e
    · refine ⟨Nat.lt_of_lt_of_le (h.ltX k e).1 h.ev.size, fun hk' => ?_⟩
      have := (h.lt k (by rw [hE]; simp [hk'])).2
      rcases this with e2 | e2
      · exact (h.ltX k e).2 e2
      · have := (h.ltX k e).1; omega
    · exact ⟨(h.lt k (by rw [hE]; simp [e])).1, fun hk' => hd.2.2 k hk' k e rfl⟩
  · rw [hE]
    simp only [List.mem_append] at hk ⊢
    rcases hk with (e | e) | e <;> simp [e]

/-- What reads wherever. -/
def Frees : List Dt → Prop
  | [] => True
  | y :: r => (∀ M M' w w', y.ok M w → y.ok M' w') ∧ Frees r
theorem Frees_mem : ∀ {D : List Dt}, Frees D → ∀ y ∈ D, ∀ M M' w w', y.ok M w → y.ok M' w'
  | [], _, y, hy => by simp at hy
  | z :: r, h, y, hy => by
    rcases List.mem_cons.1 hy with rfl | e
    · exact h.1
    · exact Frees_mem h.2 y e
theorem rows_free {α : Type} {T : Ty α} (hT : ∀ F F' w w' cs d, T.rd F w cs d → T.rd F' w' cs d) {xs : List Value} {l : List α} (M M' : List Nat) (w w' : World) (h : (Dt.rows T xs l).ok M w) : (Dt.rows T xs l).ok M' w' := by
  have key : ∀ {l : List α} {xs : List Value}, rdAll T (Fz M w) w xs l → rdAll T (Fz M' w') w' xs l := by
    intro l
    induction l with
    | nil => intro xs h; exact h
    | cons d r ih => intro xs h; obtain ⟨cs, ys, rfl, h1, h2⟩ := h; exact ⟨cs, ys, rfl, hT _ _ _ _ _ _ h1, ih h2⟩
  exact key h

theorem St.backX (h : St W M0 X w E D) (m : Nat) {X' : List Nat} {P' : List Ent} {D' : List Dt} (k : St w (foots (E.take m)) X' w' P' D') (hD : ∀ y ∈ D', y.ok (X ++ foots (P' ++ E.drop m)) w') : St W M0 X w' (P' ++ E.drop m) (D' ++ D) := by
  have hE : foots E = foots (E.take m) ++ foots (E.drop m) := by rw [← foots_app, List.take_append_drop]
  have hd := h.dj
  rw [hE, List.nodup_append] at hd
  have hP : ∀ b ∈ foots (E.take m), b < w.heap.size ∧ (b ∈ M0 ∨ W.heap.size ≤ b) := fun b hb => h.lt b (by rw [hE]; simp [hb])
  have hR : ∀ b ∈ foots (E.drop m), b < w.heap.size ∧ (b ∈ M0 ∨ W.heap.size ≤ b) := fun b hb => h.lt b (by rw [hE]; simp [hb])
  have hv := k.ev
  have hap : ∀ b ∈ foots P', b ∉ foots (E.drop m) := fun b hb hb' => by
    rcases (k.lt b hb).2 with e | e
    · exact hd.2.2 b e b hb' rfl
    · have := (hR b hb').1; omega
  refine ⟨h.ev.trans hv (fun b hb => (hP b hb).2), h.ltX, fun b hb => ?_, fun x hx => ?_, ?_, fun y hy => ?_⟩
  · rw [foots_app] at hb
    rcases List.mem_append.1 hb with e | e
    · refine ⟨(k.lt b e).1, ?_⟩
      rcases (k.lt b e).2 with e2 | e2
      · exact (hP b e2).2
      · exact .inr (Nat.le_trans h.ev.size e2)
    · exact ⟨Nat.lt_of_lt_of_le (hR b e).1 hv.size, (hR b e).2⟩
  · rcases List.mem_append.1 hx with e | e
    · exact k.ok x e
    · refine x.law w w' (fun b hb => ?_) (h.ok x (List.mem_of_mem_drop e))
      have hb' : b ∈ foots (E.drop m) := List.mem_flatMap.2 ⟨x, e, hb⟩
      exact hv.block b (hR b hb').1 (fun hk => hd.2.2 b hk b hb' rfl)
  · rw [foots_app, List.nodup_append]
    exact ⟨k.dj, hd.2.1, fun a ha b hb e => by subst e; exact hap a ha hb⟩
  · rcases List.mem_append.1 hy with e | e
    · exact hD y e
    · refine y.law _ _ w w' (hv.mono fun b hb => ?_) (fun b hb => ?_) (h.rd y e)
      · rw [hE]; simp [hb]
      · rw [foots_app] at hb
        rw [hE]
        simp only [List.mem_append] at hb ⊢
        rcases hb with e1 | e1 | e1
        · simp [e1]
        · rcases (k.lt b e1).2 with e2 | e2
          · simp [e2]
          · exact .inr e2
        · simp [e1]
/-- Back from a call: what was handed in comes back, with what is new. -/
theorem St.back (h : St W M0 X w E D) (m : Nat) {P' : List Ent} {D' : List Dt} (k : St w (foots (E.take m)) (X ++ foots (E.drop m)) w' P' D') : St W M0 X w' (P' ++ E.drop m) (D' ++ D) :=
  h.backX m k fun y hy => y.law _ _ w' w' (Ev.refl _ _) (fun b hb => .inl (by
    rw [foots_app] at hb
    simp only [List.mem_append] at hb ⊢
    rcases hb with e | e | e <;> simp [e])) (k.rd y hy)
/-- The same where something was lent: what is new reads wherever. -/
theorem St.backL (h : St W M0 X w E D) (m : Nat) {X' : List Nat} {P' : List Ent} {D' : List Dt} (hF : Frees D') (k : St w (foots (E.take m)) X' w' P' D') : St W M0 X w' (P' ++ E.drop m) (D' ++ D) :=
  h.backX m k fun y hy => Frees_mem hF y hy _ _ _ _ (k.rd y hy)

/-- A map that is owned is lent. -/
theorem St.lendM {κ β : Type} [DecidableEq κ] {K : Ky κ} {ev : β → Value} {r : Nat} {d : List (κ × β)} (h : St W M0 X w E D) (i : Nat) (hi : E[i]? = some (Ent.map K ev r d)) : St W M0 X w (E.eraseIdx i) (Dt.map K ev r d :: D) := by
  have h1 := h.eraseE i
  have hm : MapIs K ev w r d := h.e i hi
  obtain ⟨es, c, hb, hrest⟩ := hm
  refine h1.more ⟨?_, (Array.getElem?_eq_some_iff.1 hb).1, es, c, hb, hrest⟩
  intro hk'
  have hk : r ∈ (Ent.map K ev r d).foot := by simp [Ent.map]
  rcases List.mem_append.1 hk' with e1 | e1
  · have hlt := h.ltX r e1
    rcases (h.lt r (List.mem_flatMap.2 ⟨_, List.mem_of_getElem? hi, hk⟩)).2 with e2 | e2
    · exact hlt.2 e2
    · omega
  · obtain ⟨hl, hx⟩ := List.getElem?_eq_some_iff.1 hi
    have hE : E = E.take i ++ E[i] :: E.drop (i + 1) := by simp
    have hd := h.dj
    rw [hE, hx] at hd
    have e2 : foots (E.take i ++ Ent.map K ev r d :: E.drop (i + 1)) = foots (E.take i) ++ ((Ent.map K ev r d).foot ++ foots (E.drop (i + 1))) := by simp [foots]
    rw [e2, List.nodup_append, List.nodup_append] at hd
    rw [List.eraseIdx_eq_take_drop_succ] at e1
    rcases List.mem_append.1 (by simpa [foots] using e1 : r ∈ foots (E.take i) ++ foots (E.drop (i + 1))) with e3 | e3
    · exact hd.2.2 r e3 r (List.mem_append.2 (.inl hk)) rfl
    · exact hd.2.1.2.2 r hk r e3 rfl
end

section
variable {P : Program} {ops : Array Oper} {Q : Exit → Act → World → Prop} {a : Act} {w : World} {rest : List Oper} {o : Oper} {n : FrN} {d : Nat} {l : List (Nat × Value)}
  {W : World} {M0 X : List Nat} {E : List Ent} {D : List Dt}
theorem St.newMap {κ β : Type} [DecidableEq κ] (K : Ky κ) (ev : β → Value) (hm : St W M0 X w E D) : St W M0 X (w.alloc (.map #[] 0)) (Ent.map K ev w.heap.size ([] : List (κ × β)) :: E) D :=
  hm.push _ (Ev.alloc _ _ _) (map_new w) (fun k hk => by simp [Ent.map] at hk; subst hk; exact ⟨Nat.le_refl _, by simp⟩) (by simp [Ent.map])
theorem smake {κ β : Type} [DecidableEq κ] {t : TypeId} (K : Ky κ) (ev : β → Value) (hw : Region.wanted o (yielded ops a.tmps) = true) (ho : o.op = .makeMap t none) (hf : Fr n l a) (hm : St W M0 X w E D)
    (hd : o.dst = some d) (hn : Nat.blt d n = true) (k : ∀ a' r w', Fr n ((d, .map (some r)) :: l) a' → St W M0 X w' (Ent.map K ev r ([] : List (κ × β)) :: E) D → wpList P ops Q rest a' w') : wpList P ops Q (o :: rest) a w :=
  sv hw (y_makeMap ho) hf hd hn fun a' hf' => k a' _ _ hf' (hm.newMap K ev)
theorem sput {κ β : Type} [DecidableEq κ] {K : Ky κ} {ev : β → Value} {t kt et : TypeId} {x y z : Operand} {r : Nat} {m : List (κ × β)} {q : κ} {v : β} (i : Nat) (hm : St W M0 X w E D) (hi : E[i]? = some (Ent.map K ev r m)) (hw : Region.wanted o (yielded ops a.tmps) = true)
    (ht : P.underlying t = some (.map kt et)) (hk : P.underlying kt = some K.desc) (ho : o.op = .mapUpdate t x y z ∨ o.op = .insert t x y z) (hx : a.eval x = .map (some r)) (hy : a.eval y = K.enc q) (hz : a.eval z = ev v) (hd : o.dst = none)
    (k : ∀ w', St W M0 X w' (E.set i (Ent.map K ev r (mput m q v))) D → wpList P ops Q rest a w') : wpList P ops Q (o :: rest) a w := by
  obtain ⟨w', h1, h2, h3⟩ := y_mapUpdate ht hk (hm.e i hi) ho hx hy hz
  exact su hw h1 hd (k w' (hm.turnI i hi h2 h3 (by simp [Ent.map]) (fun k hk => .inl hk)))
end
end Gg
