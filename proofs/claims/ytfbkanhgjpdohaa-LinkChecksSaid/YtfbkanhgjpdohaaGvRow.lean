/- The small logic, rows: appends from whatever source, elements that are written, cuts. General: no program is named. -/
import Derived.Test.YtfbkanhgjpdohaaGvCall
import Derived.Laws.OwnMore
namespace Gg
open Go Go.RowKit Cin

section
variable {P : Program} {ops : Array Oper} {Q : Exit → Act → World → Prop} {a : Act} {w : World} {rest : List Oper} {o : Oper} {n : FrN} {d : Nat} {l : List (Nat × Value)}
  {W : World} {M0 X : List Nat} {E : List Ent} {D : List Dt}

/-- A literal's block is a row from here on. -/
theorem St.litRow {α : Type} {e sz g m : Nat} {cs : List Value} (h : St W M0 X w E D) (i : Nat) (li : List α) (hi : E[i]? = some (Ent.blk g e cs)) (hl : li.length = m) (hc : Nat.beq cs.length (m * sz) = true) (hm : Nat.ble m 1000000 = true) : St W M0 X w (E.set i (Ent.row e sz (.slice (some ⟨g, 0, none⟩) m m) li cs)) D := by
  have hb : w.heap[g]? = some (.cells cs.toArray e (0, 0)) := h.e i hi
  have hc := Nat.eq_of_beq_eq_true hc
  have hm := Nat.le_of_ble_eq_true hm
  refine h.turnI i hi (Ev.refl _ _) ?_ (by simp [Ent.row, Value.ownBlock]) (fun k hk => .inl (by simpa [Ent.row, Value.ownBlock, Ent.blk] using hk))
  show w.ownsRow 0 e sz (.slice (some ⟨g, 0, none⟩) m m) li.length cs
  refine ⟨by rw [hl]; exact hc, .inr ⟨g, m, cs.toArray, by rw [hl], Nat.zero_le _, hb, by omega, by simp only [maxLen]; omega, by simpa using hc, ?_⟩⟩
  rw [hl, ← hc, List.take_length]

/-- More things behind a row, its cells with it. -/
theorem St.rowsAt (h : St W M0 X w E D) {α : Type} {T : Ty α} {xs : List Value} {li : List α} (hr : rdAll T (Fz (X ++ foots E) w) w xs li) : St W M0 X w E (Dt.rows T xs li :: D) := h.more hr

theorem sapp_core {α : Type} {T : Ty α} {t e : TypeId} {x y : Operand} {z : Value} {bytes m c : Nat} {v : Value} {li ml l' : List α} {xs cs : List Value} {ad : Addr} (i : Nat) (hm : St W M0 X w E D) (hi : E[i]? = some (Ent.row e T.size v li xs))
    (hT : P.underlying t = some (.slice e)) (hinfo : (P.info? e).map (fun i => (i.zero, i.size, i.bytes)) = some (some z, T.size, bytes)) (hz : z.cells.size = T.size) (hsz : 0 < T.size)
    (hr : app bytes li ml = some l') (hml : ml.length = m) (hby : 0 < bytes)
    (hxs : rdAll T (Fz (X ++ foots E) w) w xs li) (hcs : rdAll T (Fz (X ++ foots E) w) w cs ml) (hcell : ∀ j u, cs[j]? = some u → w.cell? (ad.add j) = some u)
    (hw : Region.wanted o (yielded ops a.tmps) = true)
    (ho : o.op = .call { callee := .builtin .append, args := #[x, y], argTypes := #[t, t] }) (hx : a.eval x = v) (hy : a.eval y = .slice (some ad) m c) (hf : Fr n l a) (hd : o.dst = some d) (hn : Nat.blt d n = true)
    (k : ∀ a' A c' w', Ev v.ownBlock.toList w w' → Fr n ((d, .slice A l'.length c') :: l) a' → St W M0 X w' (E.set i (Ent.row e T.size (.slice A l'.length c') l' (xs ++ cs))) (Dt.rows T (xs ++ cs) l' :: D) → wpList P ops Q rest a' w') : wpList P ops Q (o :: rest) a w := by
  obtain ⟨i0, hi0, hz0, hs0, hb0⟩ := info_p hinfo
  obtain ⟨happ, rfl⟩ := app_some hr
  have hown : w.ownsRow 0 e T.size v li.length xs := hm.e i hi
  subst hml
  have hb63 : li.length + ml.length ≤ maxLen := by
    have h2 := Nat.le_mul_of_pos_right (li.length + ml.length) hby
    simp only [maxLen]
    omega
  obtain ⟨v', w', hrun, h2, h3, _, h5⟩ := run_append_own_at (P := P) w 0 t o.type e i0 z T.size bytes hT hi0 hz0 hs0 hb0 hz hsz v li.length xs hown ad ml.length c cs (rdAll_len T hcs)
    hcell (rdAll_one T hcs) hb63 happ (Nat.zero_le _)
  have hrow : (Ent.row e T.size v' (li ++ ml) (xs ++ cs)).ok w' := by
    show w'.ownsRow 0 e T.size v' (li ++ ml).length (xs ++ cs)
    rw [List.length_append]; exact h2
  obtain ⟨A, c', rfl, _⟩ := row_val hrow
  have hyv : Yv P o a w (.slice A (li ++ ml).length c') w' := by
    simp only [Yv, execOp, ho, resolve, invoke, builtin, Sem.run_bind, Sem.run_pure, Result.andThen_ok, List.map_toArray, List.map_cons, List.map_nil, hx, hy, hrun]
  have hm2 := hm.rowsAt (rdAll_append T hcs hxs)
  refine sv hw hyv hf hd hn fun a' hf' => k a' A c' w' (Ev.grown h3) hf' (hm2.turnI i hi (Ev.grown h3) hrow (opt_nodup _) fun q hq => ?_)
  have hq' : (Value.slice A (li ++ ml).length c').ownBlock = some q := by simpa [Ent.row] using hq
  rcases h5 with e5 | e5
  · left; simpa [Ent.row, ← e5] using hq'
  · right
    rw [e5] at hq'
    injection hq' with hq'
    subst hq'
    refine ⟨Nat.le_refl _, ?_⟩
    rcases h2.2 with ⟨hv, _⟩ | ⟨g', cap, cur, hv, _, hg', _⟩
    · rw [hv] at e5; simp [Value.ownBlock] at e5
    · rw [hv] at e5
      have : g' = w.heap.size := by simpa [Value.ownBlock] using e5
      subst this
      exact (Array.getElem?_eq_some_iff.1 hg').1

/-- append(row, literal..): the literal's block is let go. -/
theorem sappL {α : Type} {T : Ty α} {t e : TypeId} {x y : Operand} {z : Value} {bytes g m c : Nat} {v : Value} {li ml l' : List α} {xs cs : List Value} (i j q : Nat) (hm : St W M0 X w E D) (hi : E[i]? = some (Ent.row e T.size v li xs)) (hj : E[j]? = some (Ent.blk g e cs)) (hq : D[q]? = some (Dt.rows T xs li))
    (hT : P.underlying t = some (.slice e)) (hinfo : (P.info? e).map (fun i => (i.zero, i.size, i.bytes)) = some (some z, T.size, bytes)) (hz : z.cells.size = T.size) (hsz : Nat.blt 0 T.size = true)
    (hr : app bytes li ml = some l') (hml : ml.length = m) (hby : Nat.blt 0 bytes = true) (hcs : rdAll T (Fz (X ++ foots E) w) w cs ml)
    (hw : Region.wanted o (yielded ops a.tmps) = true)
    (ho : o.op = .call { callee := .builtin .append, args := #[x, y], argTypes := #[t, t] }) (hx : a.eval x = v) (hy : a.eval y = .slice (some ⟨g, 0, none⟩) m c) (hf : Fr n l a) (hd : o.dst = some d) (hn : Nat.blt d n = true)
    (k : ∀ a' A c' xs' w', Fr n ((d, .slice A l'.length c') :: l) a' → St W M0 X w' ((E.set i (Ent.row e T.size (.slice A l'.length c') l' xs')).eraseIdx j) (Dt.rows T xs' l' :: D) → wpList P ops Q rest a' w') : wpList P ops Q (o :: rest) a w := by
  have hb := hm.e j hj
  exact sapp_core i hm hi hT hinfo hz (Nat.le_of_ble_eq_true hsz) hr hml (Nat.le_of_ble_eq_true hby) (hm.d q hq) hcs (fun j u hu => by rw [addr_add]; simpa using blk_cell hb hu) hw ho hx hy hf hd hn
    fun a' A c' w' _ hf' hm' => k a' A c' _ w' hf' (hm'.eraseE j)

theorem sappLV {α : Type} {T : Ty α} {t e : TypeId} {x y : Operand} {z : Value} {bytes g m c : Nat} {v : Value} {li ml l' : List α} {xs cs : List Value} (i j q : Nat) (hm : St W M0 X w E D) (hi : E[i]? = some (Ent.row e T.size v li xs)) (hj : E[j]? = some (Ent.blk g e cs)) (hq : D[q]? = some (Dt.rows T xs li))
    (hT : P.underlying t = some (.slice e)) (hinfo : (P.info? e).map (fun i => (i.zero, i.size, i.bytes)) = some (some z, T.size, bytes)) (hz : z.cells.size = T.size) (hsz : Nat.blt 0 T.size = true)
    (hr : app bytes li ml = some l') (hml : ml.length = m) (hby : Nat.blt 0 bytes = true) (hcs : rdAll T (Fz (X ++ foots E) w) w cs ml)
    (hw : Region.wanted o (yielded ops a.tmps) = true)
    (ho : o.op = .call { callee := .builtin .append, args := #[x, y], argTypes := #[t, t] }) (hx : a.eval x = v) (hy : a.eval y = .slice (some ⟨g, 0, none⟩) m c) (hf : Fr n l a) (hd : o.dst = some d) (hn : Nat.blt d n = true)
    (k : ∀ a' A c' xs' w', Ev v.ownBlock.toList w w' → Fr n ((d, .slice A l'.length c') :: l) a' → St W M0 X w' ((E.set i (Ent.row e T.size (.slice A l'.length c') l' xs')).eraseIdx j) (Dt.rows T xs' l' :: D) → wpList P ops Q rest a' w') : wpList P ops Q (o :: rest) a w := by
  have hb := hm.e j hj
  exact sapp_core i hm hi hT hinfo hz (Nat.le_of_ble_eq_true hsz) hr hml (Nat.le_of_ble_eq_true hby) (hm.d q hq) hcs (fun j u hu => by rw [addr_add]; simpa using blk_cell hb hu) hw ho hx hy hf hd hn
    fun a' A c' w' hv hf' hm' => k a' A c' _ w' hv hf' (hm'.eraseE j)

theorem y_app_none {t e : TypeId} {x y : Operand} {v : Value} {sz k : Nat} {xs : List Value} {z : Value} {bytes : Nat} (hT : P.underlying t = some (.slice e)) (hinfo : (P.info? e).map (fun i => (i.zero, i.size, i.bytes)) = some (some z, sz, bytes)) (hown : w.ownsRow 0 e sz v k xs)
    (ho : o.op = .call { callee := .builtin .append, args := #[x, y], argTypes := #[t, t] }) (hx : a.eval x = v) (hy : a.eval y = .slice none 0 0) : Yv P o a w v w := by
  obtain ⟨i0, hi0, hz0, hs0, hb0⟩ := info_p hinfo
  have hrun := run_append_owned_none (P := P) (w := w) 0 t o.type e i0 sz hT hi0 v k xs hown
  simp only [Yv, execOp, ho, resolve, invoke, builtin, Sem.run_bind, Sem.run_pure, Result.andThen_ok, List.map_toArray, List.map_cons, List.map_nil, hx, hy, hrun]

/-- append(row, slice...): the slice is data. -/
theorem sappS {α : Type} {T : Ty α} {t e : TypeId} {x y : Operand} {z : Value} {bytes c : Nat} {v : Value} {li ml l' : List α} {xs : List Value} {A0 : Option Addr} (i q p : Nat) (hm : St W M0 X w E D) (hi : E[i]? = some (Ent.row e T.size v li xs)) (hq : D[q]? = some (Dt.rows T xs li)) (hp : D[p]? = some (Dt.of (tySlice T) [.slice A0 ml.length c] ml))
    (hT : P.underlying t = some (.slice e)) (hinfo : (P.info? e).map (fun i => (i.zero, i.size, i.bytes)) = some (some z, T.size, bytes)) (hz : z.cells.size = T.size) (hsz : Nat.blt 0 T.size = true)
    (hr : app bytes li ml = some l') (hby : Nat.blt 0 bytes = true)
    (hw : Region.wanted o (yielded ops a.tmps) = true)
    (ho : o.op = .call { callee := .builtin .append, args := #[x, y], argTypes := #[t, t] }) (hx : a.eval x = v) (hy : a.eval y = .slice A0 ml.length c) (hf : Fr n l a) (hd : o.dst = some d) (hn : Nat.blt d n = true)
    (k : ∀ a' A c' xs' w', Fr n ((d, .slice A l'.length c') :: l) a' → St W M0 X w' (E.set i (Ent.row e T.size (.slice A l'.length c') l' xs')) (Dt.rows T xs' l' :: D) → wpList P ops Q rest a' w') : wpList P ops Q (o :: rest) a w := by
  have hxs := hm.d q hq
  have hfact : (tySlice T).rd (Fz (X ++ foots E) w) w [.slice A0 ml.length c] ml := hm.d p hp
  obtain ⟨A1, c1, e1, e2, e3, e4, e5⟩ := hfact
  simp only [List.cons.injEq, Value.slice.injEq, and_true, true_and] at e1
  obtain ⟨rfl, rfl⟩ := e1
  by_cases hml : ml = []
  · subst hml
    cases A0 with
    | none =>
      have hc0 := e4 rfl
      subst hc0
      have hown : w.ownsRow 0 e T.size v li.length xs := hm.e i hi
      have hrow : (Ent.row e T.size v li xs).ok w := hm.e i hi
      obtain ⟨A, c', rfl, _⟩ := row_val hrow
      obtain ⟨_, rfl⟩ := app_some hr
      refine sv hw (y_app_none hT hinfo hown ho hx hy) hf hd hn fun a' hf' => ?_
      have hl : li ++ [] = li := List.append_nil li
      refine k a' A c' xs w (by rw [hl]; exact hf') ?_
      rw [hl]
      have hE : E.set i (Ent.row e T.size (.slice A li.length c') li xs) = E := by
        obtain ⟨hlt, he⟩ := List.getElem?_eq_some_iff.1 hi
        rw [← he, List.set_getElem_self]
      rw [hE]
      exact hm.more hxs
    | some ad =>
      exact sapp_core (cs := []) i hm hi hT hinfo hz (Nat.le_of_ble_eq_true hsz) hr rfl (Nat.le_of_ble_eq_true hby) hxs rfl (fun j u hu => by simp at hu) hw ho hx hy hf hd hn fun a' A c' w' _ hf' hm' => k a' A c' _ w' hf' hm'
  · obtain ⟨g1, g2, cs, g3, g4⟩ := e5 hml
    rw [g1] at hy
    exact sapp_core (cs := cs) i hm hi hT hinfo hz (Nat.le_of_ble_eq_true hsz) hr rfl (Nat.le_of_ble_eq_true hby) hxs g3 (fun j u hu => by rw [addr_add]; exact g4 j u hu) hw ho hx hy hf hd hn fun a' A c' w' _ hf' hm' => k a' A c' _ w' hf' hm'

/-! ### Cuts -/
theorem run_bound {x : Value} {y : Nat} {code : BoundsCode} {k : IntKind} {i : Int} (hx : x = .int k i) (h : 0 ≤ i ∧ i ≤ y) : (Instr.sliceBound x y code).run P w = .ok i.toNat w := by
  subst hx
  simp [Instr.sliceBound, asIntOf, h]
end
end Gg
