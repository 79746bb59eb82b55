/- The small logic, rows (2): elements that are written; cuts. General: no program is named. -/
import Derived.Test.YtfbkanhgjpdohaaGvRow
namespace Gg
open Go Go.RowKit Cin

section
variable {α : Type} {T : Ty α}
theorem rdAll_set {F : Nat → Prop} {w : World} {d' : α} {cs' : List Value} (h' : T.rd F w cs' d') : ∀ {li : List α} {xs : List Value} {i : Nat}, rdAll T F w xs li → i < li.length → rdAll T F w (xs.take (i * T.size) ++ cs' ++ xs.drop (i * T.size + T.size)) (li.set i d')
  | [], _, i, _, hi => by simp at hi
  | d :: r, xs, 0, h, _ => by
    obtain ⟨cs, ys, rfl, h1, h2⟩ := h
    have hl := T.len h1
    refine ⟨cs', ys, ?_, h', h2⟩
    simp [← hl]
  | d :: r, xs, i + 1, h, hi => by
    obtain ⟨cs, ys, rfl, h1, h2⟩ := h
    have hl := T.len h1
    have ih := rdAll_set h' h2 (i := i) (by simpa using hi)
    refine ⟨cs, _, ?_, h1, ih⟩
    have e1 : (i + 1) * T.size = cs.length + i * T.size := by rw [Nat.add_mul]; omega
    rw [e1, List.take_append, List.take_of_length_le (by omega), show cs.length + i * T.size - cs.length = i * T.size by omega, List.drop_append, List.drop_of_length_le (l := cs) (by omega),
      show cs.length + i * T.size + T.size - cs.length = i * T.size + T.size by omega]
    simp
end
theorem splice_take {β : Type} {L vs : List β} {p N : Nat} (h1 : p + vs.length ≤ N) (h2 : N ≤ L.length) : (L.take p ++ vs ++ L.drop (p + vs.length)).take N = (L.take N).take p ++ vs ++ (L.take N).drop (p + vs.length) := by
  have hl : (L.take p ++ vs).length = p + vs.length := by rw [List.length_append, List.length_take]; omega
  rw [List.take_append, List.take_of_length_le (by omega), hl, List.take_take, Nat.min_eq_left (by omega), List.drop_take]

section
variable {P : Program} {ops : Array Oper} {Q : Exit → Act → World → Prop} {a : Act} {w : World} {rest : List Oper} {o : Oper} {n : FrN} {d : Nat} {l : List (Nat × Value)}
  {W : World} {M0 X : List Nat} {E : List Ent} {D : List Dt}
theorem ext_cells {xs cs : List Value} {p : Nat} (h : ∀ j u, cs[j]? = some u → xs[p + j]? = some u) : (xs.drop p).take cs.length = cs := by
  apply List.ext_getElem?
  intro j
  rw [List.getElem?_take]
  by_cases hj : j < cs.length
  · rw [if_pos hj, List.getElem?_drop, List.getElem?_eq_getElem hj]
    exact h j _ (List.getElem?_eq_getElem hj)
  · rw [if_neg hj, List.getElem?_eq_none (by omega)]
/-- An element of a row is written, or a field of it. -/
theorem srow {α : Type} {T : Ty α} {t e : TypeId} {x y : Operand} {A : Option Addr} {c kk sz : Nat} {li : List α} {xs cs0 vs : List Value} {z : Int} {d0 d' : α} {v : Value} (i q : Nat) (hm : St W M0 X w E D) (hi : E[i]? = some (Ent.row e T.size (.slice A li.length c) li xs)) (hq : D[q]? = some (Dt.rows T xs li))
    (hz : idx li z = some d0) (hcs : T.rd (Fz (X ++ foots E) w) w cs0 d0) (hcl : Cells w ⟨bO A, oO A + z.toNat * T.size, none⟩ cs0) (hw : Region.wanted o (yielded ops a.tmps) = true)
    (hv : v.cells = vs.toArray) (hs : ∀ w, (Go.sizeOf t).run P w = .ok sz w) (hl : Nat.beq vs.length sz = true) (h1 : vs.all (·.oneCell') = true) (hle : Nat.ble (kk + vs.length) cs0.length = true)
    (hnew : T.rd (Fz (X ++ foots E) w) w (lay cs0 kk vs) d')
    (ho : o.op = .store t x y) (hx : a.eval x = .pointer (some ⟨bO A, oO A + z.toNat * T.size + kk, none⟩)) (hy : a.eval y = v) (hd : o.dst = none)
    (k : ∀ xs' w', Ev (Value.slice A li.length c).ownBlock.toList w w' → St W M0 X w' (E.set i (Ent.row e T.size (.slice A li.length c) (li.set z.toNat d') xs')) (Dt.rows T xs' (li.set z.toNat d') :: D) → wpList P ops Q rest a w') : wpList P ops Q (o :: rest) a w := by
  obtain ⟨z0, z1, z2⟩ := idx_some hz
  have hlen : vs.length = sz := Nat.eq_of_beq_eq_true hl
  have hle' : kk + vs.length ≤ cs0.length := Nat.le_of_ble_eq_true hle
  have hc0 := T.len hcs
  have hown : w.ownsRow 0 e T.size (.slice A li.length c) li.length xs := hm.e i hi
  have hrows : rdAll T (Fz (X ++ foots E) w) w xs li := hm.d q hq
  rcases hown.2 with ⟨_, e0⟩ | ⟨g, cap, cur, e1, _, hg, hnc, hcm, hcur, htake⟩
  · omega
  simp only [Value.slice.injEq, true_and] at e1
  obtain ⟨rfl, rfl⟩ := e1
  have hbO : bO (some ⟨g, 0, none⟩) = g := rfl
  have hoO : oO (some ⟨g, 0, none⟩) = 0 := rfl
  simp only [hbO, hoO, Nat.zero_add] at hx hcl
  have hmul : (z.toNat + 1) * T.size ≤ li.length * T.size := Nat.mul_le_mul_right _ z1
  have hmul2 : li.length * T.size ≤ c * T.size := Nat.mul_le_mul_right _ hnc
  have hsum : (z.toNat + 1) * T.size = z.toNat * T.size + T.size := by rw [Nat.add_mul, Nat.one_mul]
  have hxl : xs.length = li.length * T.size := hown.1
  -- the old element's cells
  have hold : (xs.drop (z.toNat * T.size)).take cs0.length = cs0 := ext_cells fun j u hj => by
    have := hcl j u hj
    have hjl : j < cs0.length := (List.getElem?_eq_some_iff.1 hj).1
    rw [World.ownsRow.cellAt hown (z.toNat * T.size + j) (by omega)] at this
    exact this
  have hst := run_storeCells_at P g (z.toNat * T.size + kk) e vs 0 cur w hg (by omega) (fun u hu => List.all_eq_true.1 h1 u hu)
  simp only [Nat.add_zero] at hst
  obtain ⟨p, hp⟩ : ∃ p, p = z.toNat * T.size + kk := ⟨_, rfl⟩
  rw [← hp] at hst hx
  have hcurl : cur.toList.length = c * T.size := by simpa using hcur
  obtain ⟨xs', hxs'⟩ : ∃ xs', xs' = xs.take p ++ vs ++ xs.drop (p + vs.length) := ⟨_, rfl⟩
  have hnewx : xs' = xs.take (z.toNat * T.size) ++ lay cs0 kk vs ++ xs.drop (z.toNat * T.size + T.size) := by
    rw [hxs', lay_eq _ _ _ hle']
    have hsplit : xs = xs.take (z.toNat * T.size) ++ (cs0 ++ xs.drop (z.toNat * T.size + T.size)) := by
      conv => lhs; rw [← List.take_append_drop (z.toNat * T.size) xs]
      congr 1
      rw [← List.take_append_drop cs0.length (xs.drop (z.toNat * T.size)), hold, List.drop_drop, hc0]
    have hl1 : (xs.take (z.toNat * T.size)).length = z.toNat * T.size := by rw [List.length_take]; omega
    conv => lhs; rw [hsplit]
    rw [List.take_append, List.take_of_length_le (by rw [hl1]; omega), hl1, List.drop_append, List.drop_of_length_le (l := xs.take (z.toNat * T.size)) (by rw [hl1]; omega), hl1,
      show p - z.toNat * T.size = kk by omega, show p + vs.length - z.toNat * T.size = kk + vs.length by omega, List.take_append_of_le_length (by omega), List.drop_append_of_le_length (by omega)]
    simp
  have hxl' : xs'.length = li.length * T.size := by
    rw [hxs']; simp only [List.length_append, List.length_take, List.length_drop]; omega
  have hrow : (Ent.row e T.size (.slice (some ⟨g, 0, none⟩) li.length c) (li.set z.toNat d') xs').ok (w.setRow g (cur.toList.take p ++ vs ++ cur.toList.drop (p + vs.length)).toArray) := by
    show World.ownsRow _ 0 e T.size _ (li.set z.toNat d').length xs'
    rw [List.length_set]
    refine ⟨hxl', .inr ⟨g, c, (cur.toList.take p ++ vs ++ cur.toList.drop (p + vs.length)).toArray, rfl, Nat.zero_le _, ?_, hnc, hcm, ?_, ?_⟩⟩
    · simp only [World.setRow, Array.getElem?_modify, if_true, hg]
      rfl
    · simp only [List.size_toArray, List.length_append, List.length_take, List.length_drop]; omega
    · rw [List.toList_toArray, hxs', ← htake]
      exact splice_take (by omega) (by omega)
  have hyu : Yu P o a w (w.setRow g (cur.toList.take p ++ vs ++ cur.toList.drop (p + vs.length)).toArray) := by
    simp only [Yu, execOp, ho, hx, hy]
    simp only [List.append_assoc, hlen] at hst ⊢
    have hv' := hv
    unfold Value.cells at hv'
    simp [go_sem, Instr.storeAt, storeVar, hs, hv', hlen, hst]
  have hm2 := hm.rowsAt (T := T) (xs := xs') (li := li.set z.toNat d') (by rw [hnewx]; exact rdAll_set hnew hrows z1)
  have hev : Ev (Value.slice (some ⟨g, 0, none⟩) li.length c).ownBlock.toList w (w.setRow g (cur.toList.take p ++ vs ++ cur.toList.drop (p + vs.length)).toArray) := ⟨rfl, rfl, rfl, by simp [World.setRow], fun b _ hn => by
    simp only [World.setRow, Array.getElem?_modify]
    rw [if_neg (by simpa [Value.ownBlock, eq_comm] using hn)]⟩
  exact su hw hyu hd (k xs' _ hev (hm2.turnI i hi hev hrow (by simp [Ent.row, Value.ownBlock]) (fun b hb => .inl (by simpa [Ent.row] using hb))))
theorem srow2 {α : Type} {T : Ty α} {t e : TypeId} {x y : Operand} {A : Option Addr} {c kk sz : Nat} {li l2 : List α} {xs cs0 vs : List Value} {z : Int} {d0 d' : α} {v : Value} (i q : Nat) (hl2 : some (li.set z.toNat d') = some l2) (hm : St W M0 X w E D) (hi : E[i]? = some (Ent.row e T.size (.slice A li.length c) li xs)) (hq : D[q]? = some (Dt.rows T xs li))
    (hz : idx li z = some d0) (hcs : T.rd (Fz (X ++ foots E) w) w cs0 d0) (hcl : Cells w ⟨bO A, oO A + z.toNat * T.size, none⟩ cs0) (hw : Region.wanted o (yielded ops a.tmps) = true)
    (hv : v.cells = vs.toArray) (hs : ∀ w, (Go.sizeOf t).run P w = .ok sz w) (hl : Nat.beq vs.length sz = true) (h1 : vs.all (·.oneCell') = true) (hle : Nat.ble (kk + vs.length) cs0.length = true)
    (hnew : T.rd (Fz (X ++ foots E) w) w (lay cs0 kk vs) d')
    (ho : o.op = .store t x y) (hx : a.eval x = .pointer (some ⟨bO A, oO A + z.toNat * T.size + kk, none⟩)) (hy : a.eval y = v) (hd : o.dst = none)
    (k : ∀ xs' w', li.length = l2.length → Ev (Value.slice A li.length c).ownBlock.toList w w' → St W M0 X w' (E.set i (Ent.row e T.size (.slice A li.length c) l2 xs')) (Dt.rows T xs' l2 :: D) → wpList P ops Q rest a w') : wpList P ops Q (o :: rest) a w := by
  obtain rfl := Option.some.inj hl2
  exact srow i q hm hi hq hz hcs hcl hw hv hs hl h1 hle hnew ho hx hy hd fun xs' w' => k xs' w' (by rw [List.length_set])

/-! ### Cuts of data -/
theorem run_cut {A : Option Addr} {m c sz : Nat} {t e : TypeId} {lo hi : Option Value} {i j : Int} (ht : P.underlying t = some (.slice e)) (hs : ∀ w, (Go.sizeOf e).run P w = .ok sz w)
    (hlo : (lo = none ∧ i = 0) ∨ lo = some (.int .i64 i)) (hhi : (hi = none ∧ j = m) ∨ hi = some (.int .i64 j)) (h : 0 ≤ i ∧ i ≤ j ∧ j ≤ m) (hmc : m ≤ c) :
    (Instr.slice t (.slice A m c) lo hi none).run P w = .ok (.slice (if c = i.toNat then A else A.map (·.add (i.toNat * sz))) (j.toNat - i.toNat) (c - i.toNat)) w := by
  have hb : (Instr.sliceBounds true m c lo hi none).run P w = .ok (i.toNat, j.toNat, c) w := by
    have b1 : ∀ code, (Instr.sliceBound (.int .i64 j) c code).run P w = .ok j.toNat w := fun code => run_bound rfl (by omega)
    have b2 : ∀ code, (Instr.sliceBound (.int .i64 i) j.toNat code).run P w = .ok i.toNat w := fun code => run_bound rfl (by omega)
    have b3 : j = m → ∀ code, (Instr.sliceBound (.int .i64 i) m code).run P w = .ok i.toNat w := fun e code => run_bound rfl (by omega)
    rcases hlo with ⟨rfl, rfl⟩ | rfl <;> rcases hhi with ⟨rfl, hj⟩ | rfl
    · simp [Instr.sliceBounds, hj]
    · simp [Instr.sliceBounds, b1]
    · simp [Instr.sliceBounds, b3 hj, hj]
    · simp [Instr.sliceBounds, b1, b2]
  simp [Instr.slice, run_underlying ht, hb, hs]
theorem y_cut {A : Option Addr} {m c sz : Nat} {t e : TypeId} {x : Operand} {lo hi : Option Operand} {i j : Int} (ht : P.underlying t = some (.slice e)) (hs : ∀ w, (Go.sizeOf e).run P w = .ok sz w) (ho : o.op = .slice t x lo hi none) (hx : a.eval x = .slice A m c)
    (hlo : (lo = none ∧ i = 0) ∨ ∃ z, lo = some z ∧ a.eval z = .int .i64 i) (hhi : (hi = none ∧ j = m) ∨ ∃ z, hi = some z ∧ a.eval z = .int .i64 j) (h : 0 ≤ i ∧ i ≤ j ∧ j ≤ m) (hmc : m ≤ c) :
    Yv P o a w (.slice (if c = i.toNat then A else A.map (·.add (i.toNat * sz))) (j.toNat - i.toNat) (c - i.toNat)) w := by
  have hr := run_cut (P := P) (w := w) (A := A) (m := m) (c := c) (lo := lo.map a.eval) (hi := hi.map a.eval) ht hs (i := i) (j := j)
    (hlo.imp (fun h => ⟨by rw [h.1]; rfl, h.2⟩) (fun ⟨z, h1, h2⟩ => by rw [h1, Option.map_some, h2])) (hhi.imp (fun h => ⟨by rw [h.1]; rfl, h.2⟩) (fun ⟨z, h1, h2⟩ => by rw [h1, Option.map_some, h2])) h hmc
  simp only [Yv, execOp, ho, hx, Instr.sliceAt, Sem.run_bind, run_underlying ht, Result.andThen_ok, Option.map_none, hr]
  rfl
theorem cut_some {α : Type} {l r : List α} {i j : Int} (h : cut l i j = some r) : (0 ≤ i ∧ i ≤ j ∧ j ≤ l.length) ∧ r = (l.take j.toNat).drop i.toNat := by
  unfold cut at h
  split at h
  · rename_i h0; exact ⟨h0, by simpa using h.symm⟩
  · cases h
theorem rdAll_cut {α : Type} {T : Ty α} {F : Nat → Prop} {w : World} : ∀ {l : List α} {xs : List Value} (i j : Nat), rdAll T F w xs l → rdAll T F w ((xs.take (j * T.size)).drop (i * T.size)) ((l.take j).drop i)
  | [], xs, i, j, h => by
    have h : xs = [] := h
    subst h
    have e : (([] : List α).take j).drop i = [] := by simp
    rw [e]
    show List.drop _ (List.take _ _) = []
    simp
  | d :: r, xs, i, 0, h => by
    have e : ((d :: r).take 0).drop i = [] := by simp
    rw [e]
    show List.drop _ (List.take _ _) = []
    simp
  | d :: r, xs, 0, j + 1, h => by
    obtain ⟨cs, ys, rfl, h1, h2⟩ := h
    have hl := T.len h1
    have ih := rdAll_cut 0 j h2
    simp only [Nat.zero_mul, List.drop_zero] at ih ⊢
    rw [List.take_succ_cons, show (j + 1) * T.size = cs.length + j * T.size by rw [Nat.add_mul]; omega, List.take_append, List.take_of_length_le (by omega), show cs.length + j * T.size - cs.length = j * T.size by omega]
    exact ⟨cs, _, rfl, h1, ih⟩
  | d :: r, xs, i + 1, j + 1, h => by
    obtain ⟨cs, ys, rfl, h1, h2⟩ := h
    have hl := T.len h1
    have ih := rdAll_cut i j h2
    rw [List.take_succ_cons, List.drop_succ_cons, show (j + 1) * T.size = cs.length + j * T.size by rw [Nat.add_mul]; omega, List.take_append, List.take_of_length_le (by omega), show cs.length + j * T.size - cs.length = j * T.size by omega,
      show (i + 1) * T.size = cs.length + i * T.size by rw [Nat.add_mul]; omega, List.drop_append, List.drop_of_length_le (l := cs) (by omega), show cs.length + i * T.size - cs.length = i * T.size by omega, List.nil_append]
    exact ih
/-- A cut of data is data. -/
theorem cut_ok {α : Type} {T : Ty α} {M : List Nat} {A : Option Addr} {c : Nat} {li r : List α} {i j : Int} (h : (Dt.of (tySlice T) [.slice A li.length c] li).ok M w) (hr : cut li i j = some r) :
    (Dt.of (tySlice T) [.slice (if c = i.toNat then A else A.map (·.add (i.toNat * T.size))) (j.toNat - i.toNat) (c - i.toNat)] r).ok M w ∧ j.toNat - i.toNat = r.length := by
  obtain ⟨⟨h0, h1, h2⟩, rfl⟩ := cut_some hr
  obtain ⟨A1, c1, e1, e2, e3, e4, e5⟩ := h
  simp only [List.cons.injEq, Value.slice.injEq, and_true, true_and] at e1
  obtain ⟨rfl, rfl⟩ := e1
  have hlen : ((li.take j.toNat).drop i.toNat).length = j.toNat - i.toNat := by rw [List.length_drop, List.length_take]; omega
  refine ⟨?_, hlen.symm⟩
  show (tySlice T).rd (Fz M w) w _ _
  refine ⟨_, c - i.toNat, by rw [hlen], by rw [hlen]; omega, by omega, fun hA => ?_, fun hne => ?_⟩
  · split at hA
    · have := e4 hA; omega
    · cases A with
      | none => have := e4 rfl; omega
      | some ad => cases hA
  · have hpos : 0 < ((li.take j.toNat).drop i.toNat).length := List.length_pos_iff.2 hne
    have hli : li ≠ [] := by intro e; subst e; simp at hpos
    obtain ⟨g1, g2, xs, g3, g4⟩ := e5 hli
    have hci : c ≠ i.toNat := by omega
    rw [if_neg hci, g1]
    refine ⟨?_, ?_⟩
    · simp only [Option.map_some, addr_add]
      rfl
    simp only [Option.map_some, addr_add]
    refine ⟨g2, _, rdAll_cut i.toNat j.toNat g3, fun q u hu => ?_⟩
    have hq : (xs.take (j.toNat * T.size))[i.toNat * T.size + q]? = some u := by rwa [List.getElem?_drop] at hu
    rw [List.getElem?_take] at hq
    split at hq
    · have := g4 (i.toNat * T.size + q) u hq
      simpa [bO, oO, Nat.add_assoc] using this
    · cases hq
theorem scut {α : Type} {T : Ty α} {t e c : Nat} {A : Option Addr} {li r : List α} {x : Operand} {lo hi : Option Operand} {i j : Int} (p : Nat) (hm : St W M0 X w E D) (hp : D[p]? = some (Dt.of (tySlice T) [.slice A li.length c] li)) (ht : P.underlying t = some (.slice e)) (hs : ∀ w, (Go.sizeOf e).run P w = .ok T.size w) (hr : cut li i j = some r)
    (hw : Region.wanted o (yielded ops a.tmps) = true) (ho : o.op = .slice t x lo hi none) (hx : a.eval x = .slice A li.length c) (hlo : (lo = none ∧ i = 0) ∨ ∃ z, lo = some z ∧ a.eval z = .int .i64 i) (hhi : (hi = none ∧ j = (li.length : Int)) ∨ ∃ z, hi = some z ∧ a.eval z = .int .i64 j)
    (hf : Fr n l a) (hd : o.dst = some d) (hn : Nat.blt d n = true)
    (k : ∀ a' A' c', Fr n ((d, .slice A' r.length c') :: l) a' → St W M0 X w E (Dt.of (tySlice T) [.slice A' r.length c'] r :: D) → wpList P ops Q rest a' w) : wpList P ops Q (o :: rest) a w := by
  obtain ⟨h1, h2⟩ := cut_ok (hm.d p hp) hr
  have h0 := (cut_some hr).1
  have hmc : li.length ≤ c := by
    obtain ⟨A1, c1, e1, e2, _⟩ := (hm.d p hp : (tySlice T).rd _ w [.slice A li.length c] li)
    simp only [List.cons.injEq, Value.slice.injEq, and_true, true_and] at e1
    omega
  have hy := y_cut (P := P) (w := w) (i := i) (j := j) ht hs ho hx hlo hhi h0 hmc
  rw [h2] at hy h1
  exact sv hw hy hf hd hn fun a' hf' => k a' _ _ hf' (hm.more h1)
end
end Gg
