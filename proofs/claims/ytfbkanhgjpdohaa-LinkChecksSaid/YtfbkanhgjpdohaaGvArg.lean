/- The small logic: what the arguments of a law give, of whatever make. General: no program is named. -/
import Derived.Test.YtfbkanhgjpdohaaGgArg
namespace Gg
open Go Go.RowKit Go.ChangeShapes Go.WideShapes Go.Deep Cin

/-- A type's values, as the row reads them: what they are, and that nothing is too great. -/
def Rds {H : Type} (P : Program) (enc : TypeId × Value → H) (N : Nat) (t : TypeId) {α : Type} (T : Ty α) (R : α → Prop) : Prop :=
  ∀ (W : World) (n : Nat) (cs : List Value) (x : DataW H × List MemPlace), DataW.trod enc P W 0 (fun _ => true) true n t cs = some x → (∀ p ∈ x.2, p.block < W.heap.size) → (∀ m ∈ x.1.weights P t, m ≤ N) → ∃ d, T.rd (Fz [] W) W cs d ∧ R d
def I64 (n : Int) : Prop := -9223372036854775808 ≤ n ∧ n ≤ 9223372036854775807

section
variable {H : Type} {enc : TypeId × Value → H} {P : Program} {N : Nat} {t e : TypeId}
theorem rds_str (ht : P.underlying t = some .string) : Rds P enc N t tyStr (fun s => s.length ≤ N) := by
  intro W n cs x h _ hw
  obtain ⟨s, rfl, rfl, _⟩ := DataW.trod_string ht h
  exact ⟨s.data.toList, rfl, hw _ (by simp [DataW.weights])⟩
theorem rds_i64 (ht : P.underlying t = some (.int .i64)) : Rds P enc N t (tyInt .i64) I64 := by
  intro W n cs x h _ _
  obtain ⟨z, rfl, _, hz⟩ := DataW.trod_int ht h
  exact ⟨z, rfl, by simpa [I64, Lit.wf, IntKind.min, IntKind.max, IntKind.signed, IntKind.bits] using hz⟩
theorem rds_bool (ht : P.underlying t = some .bool) : Rds P enc N t tyBool (fun _ => True) := by
  intro W n cs x h _ _
  obtain ⟨b, rfl, _⟩ := DataW.trod_bool ht h
  exact ⟨b, rfl, trivial⟩
theorem mem_weightsAll {d : DataW H} {m : Nat} (hm : m ∈ d.weights P e) : ∀ {l : List (DataW H)}, d ∈ l → m ∈ DataW.weightsAll P e l
  | [], h => by cases h
  | x :: r, h => by
    simp only [DataW.weightsAll, List.mem_append]
    rcases List.mem_cons.1 h with rfl | h
    · exact .inl hm
    · exact .inr (mem_weightsAll hm h)
theorem rds_slice {α : Type} {T : Ty α} {R : α → Prop} (ht : P.underlying t = some (.slice e)) (hsz : P.cellsOf e = T.size) (hpos : Nat.blt 0 T.size = true) (hel : Rds P enc N e T R) : Rds P enc N t (tySlice T) (fun l => l.length * P.bytesOf e ≤ N ∧ ∀ d ∈ l, R d) := by
  have hpos : 0 < T.size := Nat.le_of_ble_eq_true hpos
  intro W n cs x h hp hw
  rcases open_slice ht h with ⟨rfl, rfl⟩ | ⟨a, len0, cap, m, n', D, Pl, rfl, _, hl, hm, hmm, hx, hi⟩
  · exact ⟨[], ⟨none, 0, rfl, Nat.le_refl _, Nat.zero_le _, fun _ => rfl, fun h => absurd rfl h⟩, by simp, fun d hd => by cases hd⟩
  · have hm' : m = cap := by simpa using hmm
    subst hm'
    have hps : x.2 = MemPlace.row a (m * P.cellsOf e) ++ (List.range m).flatMap Pl := congrArg Prod.snd hx
    have hds : x.1 = .slice ((List.range len0).map D) ((List.range (m - len0)).map fun j => D (len0 + j)) := congrArg Prod.fst hx
    have hwt : (len0 + (m - len0)) * P.bytesOf e ≤ N := by
      refine hw _ ?_
      rw [hds]
      simp only [DataW.weights, ht, List.length_map, List.length_range]
      exact List.mem_cons_self
    have hlen : len0 * P.bytesOf e ≤ N := Nat.le_trans (Nat.mul_le_mul_right _ (Nat.le_add_right _ _)) hwt
    by_cases h0 : len0 = 0
    · subst h0
      exact ⟨[], ⟨some a, m, rfl, by simp, hm, fun h => (by cases h), fun h => absurd rfl h⟩, by simp, fun d hd => by cases hd⟩
    · have hcell : ∀ i, i < len0 → ∃ cs d, (∀ j u, cs[j]? = some u → W.cell? (a.add (i * T.size + j)) = some u) ∧ cs.length = T.size ∧ T.rd (Fz [] W) W cs d ∧ R d := fun i hil => by
        have him : i < m := by omega
        obtain ⟨cs', hc, ht'⟩ := hi i him
        obtain ⟨d, hd, hR⟩ := hel W n' cs' _ ht' (fun p hpp => hp p (by
          rw [hps, List.mem_append]
          exact .inr (List.mem_flatMap.2 ⟨i, by simpa using him, hpp⟩))) (fun k hk => hw k (by
          rw [hds]
          simp only [DataW.weights, ht, List.mem_cons, List.mem_append]
          exact .inr (.inl (mem_weightsAll hk (List.mem_map.2 ⟨i, by simpa using hil, rfl⟩)))))
        rw [hsz] at hc
        obtain ⟨_, hcl, hat⟩ := World.cells?_some hc
        refine ⟨cs', d, fun j u hj => ?_, hcl, hd, hR⟩
        have hjl : j < T.size := by rw [← hcl]; exact (List.getElem?_eq_some_iff.1 hj).1
        have := hat j hjl
        rw [hj, Go.Deep.add_add] at this
        exact this
      have hspot : a.spot = none := by
        obtain ⟨cs, d, h1, h2, _⟩ := hcell 0 (by omega)
        have := h1 0 _ (List.getElem?_eq_getElem (by omega))
        unfold World.cell? at this
        split at this
        · split at this
          · cases this
          · rename_i hs; simpa [Addr.add] using hs
        · cases this
      obtain ⟨ab, ao, as⟩ := a
      simp only at hspot
      subst hspot
      obtain ⟨l, xs, h1, h2, h3, h4⟩ := run_cells (T := T) (F := Fz [] W) (W := W) (b := ab) (o := ao) (R := R) len0 (fun i hil => by
        obtain ⟨cs, d, c1, _, c3, c4⟩ := hcell i hil
        exact ⟨cs, d, fun j u hj => by have := c1 j u hj; rw [addr_add] at this; simpa [Nat.add_assoc] using this, c3, c4⟩)
      subst h1
      refine ⟨l, ⟨_, m, rfl, hl, hm, fun h => (by cases h), fun _ => ⟨rfl, ⟨by simp, ?_⟩, xs, h2, h3⟩⟩, hlen, h4⟩
      have hin : MemPlace.cell ab ao ∈ x.2 := by
        rw [hps, List.mem_append]
        left
        have : 0 < m * P.cellsOf e := Nat.mul_pos (by omega) (by omega)
        simp only [MemPlace.row, List.mem_map, List.mem_range]
        exact ⟨0, this, by simp⟩
      exact hp _ hin
theorem mem_weightsEach {m : Nat} : ∀ {ts : List TypeId} {l : List (DataW H)} {j : Nat} {u : TypeId} {d : DataW H}, ts[j]? = some u → l[j]? = some d → m ∈ d.weights P u → m ∈ DataW.weightsEach P ts l
  | [], _, j, _, _, h, _, _ => by simp at h
  | _ :: _, [], j, _, _, _, h, _ => by simp at h
  | t :: ts, x :: l, 0, u, d, h1, h2, hm => by
    simp only [List.getElem?_cons_zero, Option.some.injEq] at h1 h2
    subst h1; subst h2
    simp only [DataW.weightsEach, List.mem_append]
    exact .inl hm
  | t :: ts, x :: l, j + 1, u, d, h1, h2, hm => by
    simp only [DataW.weightsEach, List.mem_append]
    exact .inr (mem_weightsEach (j := j) (by simpa using h1) (by simpa using h2) hm)
/-- The fields of a struct, one by one. -/
theorem fld {fs : Array Field} {W : World} {n : Nat} {cs : List Value} {x : DataW H × List MemPlace} (ht : P.underlying t = some (.struct fs)) (h : DataW.trod enc P W 0 (fun _ => true) true n t cs = some x) (hp : ∀ p ∈ x.2, p.block < W.heap.size) (hw : ∀ m ∈ x.1.weights P t, m ≤ N) :
    ∃ n', cs.length = P.cellsOf t ∧ ∀ (j : Nat) (f : Field), fs[j]? = some f → ∃ y, DataW.trod enc P W 0 (fun _ => true) true n' f.type ((cs.drop f.offset).take (P.cellsOf f.type)) = some y ∧ (∀ p ∈ y.2, p.block < W.heap.size) ∧ (∀ m ∈ y.1.weights P f.type, m ≤ N) := by
  obtain ⟨ys, n', _, hx, hl, hyl, hg⟩ := DataW.trod_struct ht h
  refine ⟨n', hl, fun j f hj => ?_⟩
  have hjl : j < fs.size := (Array.getElem?_eq_some_iff.1 hj).1
  have hy : ys[j]? = some (ys[j]'(by omega)) := List.getElem?_eq_getElem _
  refine ⟨ys[j]'(by omega), by rw [hg j f hj, hy], fun p hpp => hp p ?_, fun m hm => hw m ?_⟩
  · rw [hx]
    exact List.mem_flatMap.2 ⟨_, List.getElem_mem _, hpp⟩
  · rw [hx]
    simp only [DataW.weights, ht]
    refine mem_weightsEach (j := j) (u := f.type) (d := (ys[j]'(by omega)).1) ?_ ?_ hm
    · rw [List.getElem?_map, Array.getElem?_toList, hj]; rfl
    · rw [List.getElem?_map, hy]; rfl
theorem fld1 {fs : Array Field} {W : World} {n' : Nat} {cs : List Value} (hf : ∀ (j : Nat) (f : Field), fs[j]? = some f → ∃ y, DataW.trod enc P W 0 (fun _ => true) true n' f.type ((cs.drop f.offset).take (P.cellsOf f.type)) = some y ∧ (∀ p ∈ y.2, p.block < W.heap.size) ∧ (∀ m ∈ y.1.weights P f.type, m ≤ N))
    (j : Nat) {f : Field} (hj : fs[j]? = some f) {t off k : Nat} (ht : f.type = t) (ho : f.offset = off) (hk : P.cellsOf t = k) {r : List Value} (hr : (cs.drop off).take k = r) : ∃ y, DataW.trod enc P W 0 (fun _ => true) true n' t r = some y ∧ (∀ p ∈ y.2, p.block < W.heap.size) ∧ (∀ m ∈ y.1.weights P t, m ≤ N) := by
  obtain ⟨y, h1, h2, h3⟩ := hf j f hj
  rw [ht, ho] at h1
  rw [ht] at h3
  rw [hk, hr] at h1
  exact ⟨y, h1, h2, h3⟩
theorem agg_cells {v : Array Value} {l : List Value} (h : (Value.agg v).cells.toList = l) : v = l.toArray := by
  have h : v.toList = l := h
  rw [← h]
/-- An argument. -/
theorem arg_rds {α : Type} {T : Ty α} {R : α → Prop} {W : World} {v : Value} {d : DataW H} {ps : List MemPlace} (hr : Rds P enc N t T R) (h : DataW.Trod enc P W 0 (fun _ => true) true t v d ps) (hp : ∀ p ∈ ps, p.block < W.heap.size) (hw : ∀ m ∈ d.weights P t, m ≤ N) : ∃ d', T.rd (Fz [] W) W v.cells.toList d' ∧ R d' := by
  obtain ⟨n, hn⟩ := h
  exact hr W n _ _ hn hp hw
end
end Gg
