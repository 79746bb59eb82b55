/- The small logic, data: how values of each type read, and what is owned. General: no program is named. -/
import Derived.Test.YtfbkanhgjpdohaaGgCore
namespace Gg
open Go Go.RowKit Cin

abbrev Str (l : List UInt8) : Value := .string ⟨⟨l⟩⟩

structure Ty (α : Type) where
  size : Nat
  rd : (Nat → Prop) → World → List Value → α → Prop
  len : ∀ {F w cs d}, rd F w cs d → cs.length = size
  one : ∀ {F w cs d}, rd F w cs d → ∀ v ∈ cs, v.oneCell' = true
  law : ∀ {F F' w w' cs d}, (∀ k, F k → F' k ∧ w'.heap[k]? = w.heap[k]?) → rd F w cs d → rd F' w' cs d

/-- Blocks that are there, and none of M. -/
def Fz (M : List Nat) (w : World) : Nat → Prop := fun k => k ∉ M ∧ k < w.heap.size

def Dt.of {α : Type} (T : Ty α) (cs : List Value) (d : α) : Dt where
  ok M w := T.rd (Fz M w) w cs d
  law M M' w w' hv hm h := T.law (fun k hk => ⟨⟨fun hx => by rcases hm k hx with e | e; exact hk.1 e; exact absurd hk.2 (by omega), Nat.lt_of_lt_of_le hk.2 hv.size⟩, hv.block k hk.2 hk.1⟩) h

def tyInt (k : IntKind) : Ty Int where
  size := 1
  rd _ _ cs d := cs = [.int k d]
  len h := by subst h; rfl
  one h v hv := by subst h; simp at hv; subst hv; rfl
  law _ h := h
def tyByte : Ty UInt8 where
  size := 1
  rd _ _ cs d := cs = [.int .u8 (d.toNat : Int)]
  len h := by subst h; rfl
  one h v hv := by subst h; simp at hv; subst hv; rfl
  law _ h := h
def tyBool : Ty Bool where
  size := 1
  rd _ _ cs d := cs = [.bool d]
  len h := by subst h; rfl
  one h v hv := by subst h; simp at hv; subst hv; rfl
  law _ h := h
def tyStr : Ty (List UInt8) where
  size := 1
  rd _ _ cs d := cs = [Str d]
  len h := by subst h; rfl
  one h v hv := by subst h; simp at hv; subst hv; rfl
  law _ h := h

section
variable {α : Type} (T : Ty α)
/-- Cells, one thing behind the other. -/
def rdAll (F : Nat → Prop) (w : World) : List Value → List α → Prop
  | xs, [] => xs = []
  | xs, d :: r => ∃ cs ys, xs = cs ++ ys ∧ T.rd F w cs d ∧ rdAll F w ys r

theorem rdAll_len {F : Nat → Prop} {w : World} : ∀ {l : List α} {xs : List Value}, rdAll T F w xs l → xs.length = l.length * T.size
  | [], xs, h => by simp only [rdAll] at h; subst h; simp
  | d :: r, xs, h => by
    obtain ⟨cs, ys, rfl, h1, h2⟩ := h
    rw [List.length_append, T.len h1, rdAll_len h2, List.length_cons, Nat.add_mul]; omega
theorem rdAll_one {F : Nat → Prop} {w : World} : ∀ {l : List α} {xs : List Value}, rdAll T F w xs l → ∀ v ∈ xs, v.oneCell' = true
  | [], xs, h => by simp only [rdAll] at h; subst h; simp
  | d :: r, xs, h => by
    obtain ⟨cs, ys, rfl, h1, h2⟩ := h
    intro v hv
    rcases List.mem_append.1 hv with e | e
    · exact T.one h1 v e
    · exact rdAll_one h2 v e
theorem rdAll_law {F F' : Nat → Prop} {w w' : World} (hF : ∀ k, F k → F' k ∧ w'.heap[k]? = w.heap[k]?) : ∀ {l : List α} {xs : List Value}, rdAll T F w xs l → rdAll T F' w' xs l
  | [], xs, h => h
  | d :: r, xs, h => by
    obtain ⟨cs, ys, rfl, h1, h2⟩ := h
    exact ⟨cs, ys, rfl, T.law hF h1, rdAll_law hF h2⟩
theorem rdAll_snoc {F : Nat → Prop} {w : World} {d : α} {cs : List Value} (hd : T.rd F w cs d) : ∀ {l : List α} {xs : List Value}, rdAll T F w xs l → rdAll T F w (xs ++ cs) (l ++ [d])
  | [], xs, h => by simp only [rdAll] at h; subst h; exact ⟨cs, [], by simp, hd, rfl⟩
  | e :: r, xs, h => by
    obtain ⟨c, ys, rfl, h1, h2⟩ := h
    exact ⟨c, ys ++ cs, by simp, h1, rdAll_snoc hd h2⟩
theorem rdAll_append {F : Nat → Prop} {w : World} {l' : List α} {xs' : List Value} (h' : rdAll T F w xs' l') : ∀ {l : List α} {xs : List Value}, rdAll T F w xs l → rdAll T F w (xs ++ xs') (l ++ l')
  | [], xs, h => by simp only [rdAll] at h; subst h; simpa using h'
  | e :: r, xs, h => by
    obtain ⟨c, ys, rfl, h1, h2⟩ := h
    exact ⟨c, ys ++ xs', by simp, h1, rdAll_append h' h2⟩
/-- The element at a place: its cells. -/
theorem rdAll_at {F : Nat → Prop} {w : World} : ∀ {l : List α} {xs : List Value} {i : Nat} {d : α}, rdAll T F w xs l → l[i]? = some d →
    ∃ cs, T.rd F w cs d ∧ ∀ j u, cs[j]? = some u → xs[i * T.size + j]? = some u
  | [], _, i, d, _, hi => by simp at hi
  | e :: r, xs, 0, d, h, hi => by
    obtain ⟨cs, ys, rfl, h1, _⟩ := h
    simp only [List.getElem?_cons_zero, Option.some.injEq] at hi
    subst hi
    refine ⟨cs, h1, fun j u hj => ?_⟩
    have hl : j < cs.length := by
      rcases Nat.lt_or_ge j cs.length with h | h
      · exact h
      · rw [List.getElem?_eq_none h] at hj; cases hj
    simpa [List.getElem?_append, hl] using hj
  | e :: r, xs, i + 1, d, h, hi => by
    obtain ⟨cs, ys, rfl, h1, h2⟩ := h
    obtain ⟨c, hc, hj⟩ := rdAll_at (i := i) h2 (by simpa using hi)
    refine ⟨c, hc, fun j u hju => ?_⟩
    have hlen := T.len h1
    have e1 : (i + 1) * T.size + j = cs.length + (i * T.size + j) := by rw [Nat.add_mul]; omega
    rw [e1, List.getElem?_append_right (by omega)]
    simpa using hj j u hju

/-- The cells at an address. -/
def Cells (w : World) (a : Addr) (xs : List Value) : Prop := ∀ j u, xs[j]? = some u → w.cell? ⟨a.block, a.off + j, none⟩ = some u

theorem Cells.law {w w' : World} {a : Addr} {xs : List Value} (h : Cells w a xs) (hb : w'.heap[a.block]? = w.heap[a.block]?) : Cells w' a xs :=
  fun j u hj => (World.cell?_of_block (a := ⟨a.block, a.off + j, none⟩) hb).trans (h j u hj)

/-- Where a slice's cells begin (of whichever value its address has). -/
def bO (A : Option Addr) : Nat := (A.getD ⟨0, 0, none⟩).block
def oO (A : Option Addr) : Nat := (A.getD ⟨0, 0, none⟩).off

def tySlice : Ty (List α) where
  size := 1
  rd F w cs l := ∃ A c, cs = [.slice A l.length c] ∧ l.length ≤ c ∧ c ≤ maxLen ∧ (A = none → c = 0) ∧
    (l ≠ [] → A = some ⟨bO A, oO A, none⟩ ∧ F (bO A) ∧ ∃ xs, rdAll T F w xs l ∧ Cells w ⟨bO A, oO A, none⟩ xs)
  len h := by obtain ⟨A, c, rfl, _⟩ := h; rfl
  one h v hv := by obtain ⟨A, c, rfl, _⟩ := h; simp at hv; subst hv; rfl
  law hF h := by
    obtain ⟨A, c, h1, h3, h4, h5, h6⟩ := h
    refine ⟨A, c, h1, h3, h4, h5, fun hl => ?_⟩
    obtain ⟨e1, e2, xs, e3, e4⟩ := h6 hl
    exact ⟨e1, (hF _ e2).1, xs, rdAll_law T hF e3, e4.law (hF _ e2).2⟩

/-- A value that reads as a list is a slice of that length. -/
theorem slice_val {F : Nat → Prop} {w : World} {v : Value} {l : List α} (h : (tySlice T).rd F w [v] l) : ∃ A c, v = .slice A l.length c := by
  obtain ⟨A, c, h1, _⟩ := h
  exact ⟨A, c, by simpa using h1⟩

/-- The element at an index: where it lies, its cells. -/
theorem slice_at {F : Nat → Prop} {w : World} {A : Option Addr} {n c : Nat} {l : List α} {i : Int} {d : α} (h : (tySlice T).rd F w [.slice A n c] l) (hi : idx l i = some d) :
    A = some ⟨bO A, oO A, none⟩ ∧ (0 ≤ i ∧ i < n) ∧ ∃ cs, T.rd F w cs d ∧ Cells w ⟨bO A, oO A + i.toNat * T.size, none⟩ cs := by
  obtain ⟨h0, h1, h2⟩ := idx_some hi
  obtain ⟨A', c', e1, e3, e4, e5, e6⟩ := h
  simp only [List.cons.injEq, Value.slice.injEq, and_true] at e1
  obtain ⟨rfl, rfl, rfl⟩ := e1
  obtain ⟨g1, g2, xs, g3, g4⟩ := e6 (fun hnil => by rw [hnil] at h1; simp at h1)
  obtain ⟨cs, hc, hat⟩ := rdAll_at T g3 h2
  refine ⟨g1, ⟨h0, by omega⟩, cs, hc, fun j u hj => ?_⟩
  have := g4 (i.toNat * T.size + j) u (hat j u hj)
  simpa [Nat.add_assoc] using this
end

/-! ### What is owned -/
/-- A block of cells that is known whole. -/
def Ent.blk (g : Nat) (t : TypeId) (cs : List Value) : Ent where
  foot := [g]
  ok w := w.heap[g]? = some (.cells cs.toArray t (0, 0))
  law w w' h hk := (h g (by simp)).trans hk

/-- A slice that is appended to: its cells, for so many things as the list has. -/
def Ent.row {α : Type} (e : TypeId) (size : Nat) (v : Value) (l : List α) (xs : List Value) : Ent where
  foot := v.ownBlock.toList
  ok w := w.ownsRow 0 e size v l.length xs
  law w w' h hk := by
    refine ⟨hk.1, ?_⟩
    rcases hk.2 with hn | ⟨g, cap, cur, rfl, hb, hgg, rest⟩
    · exact .inl hn
    · exact .inr ⟨g, cap, cur, rfl, hb, (h g (by simp [Value.ownBlock])).trans hgg, rest⟩

/-- The cells of many things, one behind the other. -/
def Dt.rows {α : Type} (T : Ty α) (xs : List Value) (l : List α) : Dt where
  ok M w := rdAll T (Fz M w) w xs l
  law M M' w w' hv hm h := rdAll_law T (fun k hk => ⟨⟨fun hx => by rcases hm k hx with e | e; exact hk.1 e; exact absurd hk.2 (by omega), Nat.lt_of_lt_of_le hk.2 hv.size⟩, hv.block k hk.2 hk.1⟩) h

theorem row_val {α : Type} {w : World} {e : TypeId} {size : Nat} {v : Value} {l : List α} {xs : List Value} (h : (Ent.row e size v l xs).ok w) : ∃ A c, v = .slice A l.length c ∧ l.length ≤ c ∧ c ≤ maxLen ∧ (A = none → c = 0) ∧ (A ≠ none → A = some ⟨bO A, 0, none⟩) := by
  have h' : w.ownsRow 0 e size v l.length xs := h
  rcases h'.2 with ⟨rfl, h0⟩ | ⟨g, cap, cur, rfl, _, _, h1, h2, _⟩
  · exact ⟨none, 0, by rw [h0], by omega, Nat.zero_le _, fun _ => rfl, fun h => absurd rfl h⟩
  · exact ⟨some ⟨g, 0, none⟩, cap, rfl, h1, h2, (fun h => by cases h), fun _ => rfl⟩

/-- A slice that is no longer appended to is data. -/
theorem row_data {α : Type} {T : Ty α} {M : List Nat} {w : World} {e : TypeId} {A : Option Addr} {n c : Nat} {l : List α} {xs : List Value} (h : (Ent.row e T.size (.slice A n c) l xs).ok w) (hr : (Dt.rows T xs l).ok M w)
    (hM : ∀ k ∈ (Value.slice A n c).ownBlock.toList, k ∉ M) : (Dt.of (tySlice T) [.slice A n c] l).ok M w := by
  have h' : w.ownsRow 0 e T.size (.slice A n c) l.length xs := h
  have hr' : rdAll T (Fz M w) w xs l := hr
  show (tySlice T).rd (Fz M w) w _ l
  rcases h'.2 with ⟨h1, h0⟩ | ⟨g, cap, cur, h1, _, hg, hle, hm, hs, hx⟩
  · have hl : l = [] := List.eq_nil_of_length_eq_zero h0
    simp only [Value.slice.injEq] at h1
    obtain ⟨rfl, rfl, rfl⟩ := h1
    subst hl
    exact ⟨none, 0, rfl, by simp, Nat.zero_le _, fun _ => rfl, fun h => absurd rfl h⟩
  · simp only [Value.slice.injEq] at h1
    obtain ⟨rfl, rfl, rfl⟩ := h1
    refine ⟨_, _, rfl, hle, hm, (fun h => by cases h), fun _ => ⟨rfl, ⟨hM g (by simp [Value.ownBlock]), (Array.getElem?_eq_some_iff.1 hg).1⟩, xs, hr', fun j u hj => ?_⟩⟩
    have hcell := h'.cells (g := g) rfl j u hj
    simpa [Addr.add, bO, oO] using (by
      have e : (⟨g, 0, none⟩ : Addr).add j = ⟨g, 0 + j, none⟩ := by unfold Addr.add; split <;> simp_all
      rw [e] at hcell; exact hcell : w.cell? ⟨g, 0 + j, none⟩ = some u)

theorem blk_cell {w : World} {g : Nat} {t : TypeId} {cs : List Value} (h : (Ent.blk g t cs).ok w) {j : Nat} {v : Value} (hj : cs[j]? = some v) : w.cell? ⟨g, j, none⟩ = some v := by
  have h' : w.heap[g]? = some (.cells cs.toArray t (0, 0)) := h
  simp [World.cell?, h', hj]
theorem blk_frozen {w : World} {g : Nat} {t : TypeId} {cs : List Value} (h : (Ent.blk g t cs).ok w) (j : Nat) : w.frozen? ⟨g, j, none⟩ = false := by
  have h' : w.heap[g]? = some (.cells cs.toArray t (0, 0)) := h
  simp [World.frozen?, h']
theorem blk_lt {w : World} {g : Nat} {t : TypeId} {cs : List Value} (h : (Ent.blk g t cs).ok w) : g < w.heap.size := by
  have h' : w.heap[g]? = some (.cells cs.toArray t (0, 0)) := h
  exact (Array.getElem?_eq_some_iff.1 h').1
theorem blk_new (w : World) (t : TypeId) (cs : List Value) : (Ent.blk w.heap.size t cs).ok (w.alloc (.cells cs.toArray t)) := heap_alloc_new w _
theorem blk_set {w : World} {g : Nat} {t : TypeId} {cs : List Value} (h : (Ent.blk g t cs).ok w) (j : Nat) (v : Value) : (Ent.blk g t (cs.set j v)).ok (w.setCell ⟨g, j, none⟩ v) := by
  have h' : w.heap[g]? = some (.cells cs.toArray t (0, 0)) := h
  show (w.setCell ⟨g, j, none⟩ v).heap[g]? = _
  simp [World.setCell, Array.getElem?_modify, h']

/-- A package's table: its cells. -/
def Dt.glob (g : Nat) (cs : List Value) : Dt where
  ok M w := g ∉ M ∧ g < w.heap.size ∧ Cells w ⟨g, 0, none⟩ cs
  law M M' w w' hv hm h := ⟨fun hx => by rcases hm g hx with e | e; exact h.1 e; exact absurd h.2.1 (by omega), Nat.lt_of_lt_of_le h.2.1 hv.size, h.2.2.law (hv.block g h.2.1 h.1)⟩
theorem glob_at {g : Nat} {l : List Int} {M : List Nat} {w : World} {i d : Int} (h : (Dt.glob g (l.map (Value.int .i64))).ok M w) (hi : idx l i = some d) : w.cell? ⟨g, i.toNat, none⟩ = some (.int .i64 d) := by
  obtain ⟨_, _, h2⟩ := idx_some hi
  have := h.2.2 i.toNat (.int .i64 d) (by simp [h2])
  simpa using this
theorem nil_ok {α : Type} (T : Ty α) (M : List Nat) (w : World) : (Dt.of (tySlice T) [.slice none 0 0] ([] : List α)).ok M w :=
  ⟨none, 0, rfl, by simp, Nat.zero_le _, fun _ => rfl, fun h => absurd rfl h⟩
/-- Some of the cells in a row. -/
def subC (cs : List Value) : Nat → List Value → Prop
  | _, [] => True
  | k, v :: r => cs[k]? = some v ∧ subC cs (k + 1) r
theorem subC_at {cs : List Value} : ∀ {k : Nat} {l : List Value}, subC cs k l → ∀ j u, l[j]? = some u → cs[k + j]? = some u
  | _, [], _, j, u, hj => by simp at hj
  | k, v :: r, h, 0, u, hj => by
    simp only [List.getElem?_cons_zero, Option.some.injEq] at hj
    subst hj; exact h.1
  | k, v :: r, h, j + 1, u, hj => by
    have := subC_at h.2 j u (by simpa using hj)
    rwa [Nat.add_assoc, Nat.add_comm 1 j] at this
theorem cells_sub {w : World} {b p : Nat} {cs l : List Value} (h : Cells w ⟨b, p, none⟩ cs) (k : Nat) (hs : subC cs k l) : Cells w ⟨b, p + k, none⟩ l := fun j u hj => by
  have := h (k + j) u (subC_at hs j u hj)
  simpa [Nat.add_assoc] using this
theorem blk_cells {w : World} {g : Nat} {t : TypeId} {cs l : List Value} (h : (Ent.blk g t cs).ok w) (k : Nat) (hs : subC cs k l) : Cells w ⟨g, k, none⟩ l := fun j u hj => blk_cell h (subC_at hs j u hj)
theorem slice_cs {α : Type} {T : Ty α} {F : Nat → Prop} {w : World} {cs : List Value} {l : List α} (h : (tySlice T).rd F w cs l) : ∃ A c, cs = [.slice A l.length c] := by
  obtain ⟨A, c, h1, _⟩ := h
  exact ⟨A, c, h1⟩
theorem rdAll_snocs {α : Type} {T : Ty α} {F : Nat → Prop} {w : World} {l l' : List α} {xs xs' : List Value} (h : rdAll T F w xs l) (h' : rdAll T F w xs' l') : rdAll T F w (xs ++ xs') (l ++ l') := rdAll_append T h' h
theorem rdAll_to {α : Type} {T : Ty α} {F : Nat → Prop} {w : World} {l l' : List α} {xs : List Value} (e : l' = l) (h : rdAll T F w xs l) : rdAll T F w xs l' := e ▸ h
/-- The element of a slice that is appended to. -/
theorem row_at {α : Type} {T : Ty α} {M : List Nat} {w : World} {e : TypeId} {A : Option Addr} {n c : Nat} {l : List α} {xs : List Value} {i : Int} {d : α} (h : (Ent.row e T.size (.slice A n c) l xs).ok w) (hr : (Dt.rows T xs l).ok M w) (hi : idx l i = some d) :
    A = some ⟨bO A, oO A, none⟩ ∧ (0 ≤ i ∧ i < n) ∧ ∃ cs, T.rd (Fz M w) w cs d ∧ Cells w ⟨bO A, oO A + i.toNat * T.size, none⟩ cs := by
  obtain ⟨h0, h1, h2⟩ := idx_some hi
  have h' : w.ownsRow 0 e T.size (.slice A n c) l.length xs := h
  have hr' : rdAll T (Fz M w) w xs l := hr
  rcases h'.2 with ⟨e1, e0⟩ | ⟨g, cap, cur, e1, _, hg, _⟩
  · omega
  · simp only [Value.slice.injEq] at e1
    obtain ⟨rfl, rfl, rfl⟩ := e1
    obtain ⟨cs, hc, hat⟩ := rdAll_at T hr' h2
    refine ⟨rfl, ⟨h0, by omega⟩, cs, hc, fun j u hj => ?_⟩
    have hcell := h'.cells (g := g) rfl _ u (hat j u hj)
    have e2 : (⟨g, 0, none⟩ : Addr).add (i.toNat * T.size + j) = ⟨g, 0 + (i.toNat * T.size + j), none⟩ := by unfold Addr.add; split <;> simp_all
    rw [e2] at hcell
    show w.cell? ⟨g, 0 + i.toNat * T.size + j, none⟩ = some u
    rw [Nat.add_assoc]; exact hcell
end Gg
