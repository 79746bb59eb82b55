/- The small logic, memory: loads, stores, new blocks, appends. General: no program is named. -/
import Derived.Test.YtfbkanhgjpdohaaGgOps
import Derived.Maps.AppendAt
namespace Gg
open Go Go.RowKit Cin

theorem addr_add (b o n : Nat) : (⟨b, o, none⟩ : Addr).add n = ⟨b, o + n, none⟩ := by
  unfold Addr.add; split <;> simp_all

section
variable {P : Program} {o : Oper} {a : Act} {w : World} {x y : Operand} {t e s : TypeId}

theorem y_indexS' {i : Int} {b : UInt8} {p : List UInt8} (ht : P.underlying t = some .string) (ho : o.op = .index t x y) (hx : a.eval x = Str p) (hy : a.eval y = .int .i64 i) (hb : idx p i = some b) : Yv P o a w (.int .u8 b.toNat) w := by
  obtain ⟨h0, h1, h2⟩ := idx_some hb
  obtain ⟨n, rfl⟩ := Int.eq_ofNat_of_zero_le h0
  exact y_indexS ht ho hx hy (by simpa using h2)

theorem y_idx {A : Option Addr} {n c sz : Nat} {i : Int} (ht : P.underlying t = some (.slice e)) (hs : ∀ w, (Go.sizeOf e).run P w = .ok sz w)
    (ho : o.op = .indexAddr t x y) (hx : a.eval x = .slice A n c) (hy : a.eval y = .int .i64 i) (hA : A = some ⟨bO A, oO A, none⟩) (hi : 0 ≤ i ∧ i < n) :
    Yv P o a w (.pointer (some ⟨bO A, oO A + i.toNat * sz, none⟩)) w := by
  obtain ⟨h0, h1⟩ := hi
  obtain ⟨k, rfl⟩ := Int.eq_ofNat_of_zero_le h0
  have hlt : k < n := by omega
  rw [hA] at hx
  simp only [Yv, execOp, ho, hx, hy]
  simp [go_sem, Instr.indexAt, run_underlying ht, hlt, hs, addr_add]

theorem y_fld {fs : Array Field} {f : Field} {j b p sz : Nat} (ht : P.underlying s = some (.struct fs)) (hf : fs[j]? = some f) (hs : ∀ w, (Go.sizeOf f.type).run P w = .ok sz w) (h0 : Nat.beq sz 0 = false)
    (ho : o.op = .fieldAddr s x j) (hx : a.eval x = .pointer (some ⟨b, p, none⟩)) : Yv P o a w (.pointer (some ⟨b, p + f.offset, none⟩)) w := by
  have h0' : sz ≠ 0 := by intro e; subst e; simp at h0
  simp only [Yv, execOp, ho, hx]
  simp [go_sem, Instr.fieldAt, run_underlying ht, hf, fieldPlace, hs, h0', addr_add]

theorem y_load1 {b p : Nat} {v : Value} (hg : ∀ w, (isAgg t).run P w = .ok false w) (ho : o.op = .load t x) (hx : a.eval x = .pointer (some ⟨b, p, none⟩)) (hc : w.cell? ⟨b, p, none⟩ = some v) : Yv P o a w v w := by
  simp only [Yv, execOp, ho, hx]
  simp [go_sem, Instr.loadAt, loadVar, hg, hc]

theorem y_loadN {b p sz : Nat} {cs : List Value} (hg : ∀ w, (isAgg t).run P w = .ok true w) (hs : ∀ w, (Go.sizeOf t).run P w = .ok sz w) (hl : cs.length = sz) (ho : o.op = .load t x)
    (hx : a.eval x = .pointer (some ⟨b, p, none⟩)) (hc : Cells w ⟨b, p, none⟩ cs) : Yv P o a w (.agg cs.toArray) w := by
  have h := run_loadCells_list (P := P) w ⟨b, p, none⟩ cs (fun j u hj => by rw [addr_add]; exact hc j u hj)
  rw [hl] at h
  unfold loadCells at h
  simp only [Yv, execOp, ho, hx]
  simp [go_sem, Instr.loadAt, loadVar, hg, hs, h]

/-- A new variable. -/
theorem y_box {v : Value} {cs : List Value} (hv : v.cells = cs.toArray) (ho : o.op = .box t x) (hx : a.eval x = v) : Yv P o a w (.pointer (some ⟨w.heap.size, 0, none⟩)) (w.alloc (.cells cs.toArray t)) := by
  have hv' := hv
  unfold Value.cells at hv'
  simp only [Yv, execOp, ho, hx]
  simp [go_sem, Instr.box, newVar, newRow, hv']
theorem y_alloc {z : Value} {cs : List Value} (hz : ∀ w, (zeroValue t).run P w = .ok z w) (hv : z.cells = cs.toArray) (ho : o.op = .alloc t) : Yv P o a w (.pointer (some ⟨w.heap.size, 0, none⟩)) (w.alloc (.cells cs.toArray t)) := by
  have hv' := hv
  unfold Value.cells at hv'
  simp only [Yv, execOp, ho]
  simp [go_sem, Instr.alloc, newVar, newRow, hz, hv']
end

/-- 'cs' laid over 'l' from place 'n' on. -/
def lay : List Value → Nat → List Value → List Value
  | l, 0, cs => cs ++ l.drop cs.length
  | [], _ + 1, _ => []
  | u :: l, n + 1, cs => u :: lay l n cs

theorem lay_eq : ∀ (l : List Value) (n : Nat) (cs : List Value), n + cs.length ≤ l.length → lay l n cs = l.take n ++ cs ++ l.drop (n + cs.length)
  | l, 0, cs, _ => by simp [lay]
  | [], n + 1, cs, h => by simp at h
  | u :: l, n + 1, cs, h => by
    have := lay_eq l n cs (by simp at h; omega)
    simp only [lay, this, List.take_succ_cons, List.cons_append]
    have e : n + 1 + cs.length = (n + cs.length) + 1 := by omega
    rw [e, List.drop_succ_cons]

section
variable {P : Program} {o : Oper} {a : Act} {w : World} {x y : Operand} {t e s : TypeId}
theorem y_store {g p sz : Nat} {tb : TypeId} {cs vs : List Value} {v : Value} (hv : v.cells = vs.toArray) (hs : ∀ w, (Go.sizeOf t).run P w = .ok sz w) (hl : Nat.beq vs.length sz = true) (h1 : vs.all (·.oneCell') = true)
    (hle : Nat.ble (p + vs.length) cs.length = true) (hb : (Ent.blk g tb cs).ok w) (ho : o.op = .store t x y) (hx : a.eval x = .pointer (some ⟨g, p, none⟩)) (hy : a.eval y = v) :
    ∃ w', Yu P o a w w' ∧ Ev [g] w w' ∧ (Ent.blk g tb (lay cs p vs)).ok w' := by
  have hb' : w.heap[g]? = some (.cells cs.toArray tb (0, 0)) := hb
  have hlen : vs.length = sz := Nat.eq_of_beq_eq_true hl
  have hle' : p + vs.length ≤ cs.length := Nat.le_of_ble_eq_true hle
  have h := run_storeCells_at P g p tb vs 0 cs.toArray w hb' (by simpa using hle') (fun u hu => List.all_eq_true.1 h1 u hu)
  simp only [Nat.add_zero] at h
  refine ⟨w.setRow g (lay cs p vs).toArray, ?_, ?_, ?_⟩
  · simp only [Yu, execOp, ho, hx, hy]
    rw [lay_eq _ _ _ hle']
    simp only [List.append_assoc, hlen] at h
    have hv' := hv
    unfold Value.cells at hv'
    simp [go_sem, Instr.storeAt, storeVar, hs, hv', hlen, h]
  · refine ⟨rfl, rfl, rfl, by simp [World.setRow], fun k _ hn => ?_⟩
    simp only [World.setRow, Array.getElem?_modify]
    rw [if_neg (by simpa [eq_comm] using hn)]
  · show (w.setRow g _).heap[g]? = _
    simp [World.setRow, Array.getElem?_modify, hb']
end

section
variable {P : Program} {o : Oper} {a : Act} {w : World} {x y : Operand} {t e : TypeId}
/-- A place of a package's table. -/
theorem y_idxG {g n : Nat} {i d : Int} {l : List Int} (ht : P.underlying t = some (.array n e)) (hs : ∀ w, (Go.sizeOf e).run P w = .ok 1 w) (ho : o.op = .indexAddr t x y) (hx : a.eval x = .pointer (some ⟨g, 0, none⟩)) (hy : a.eval y = .int .i64 i)
    (hn : n = l.length) (hi : idx l i = some d) : Yv P o a w (.pointer (some ⟨g, i.toNat, none⟩)) w := by
  obtain ⟨h0, h1, _⟩ := idx_some hi
  obtain ⟨k, rfl⟩ := Int.eq_ofNat_of_zero_le h0
  simp only [Int.toNat_natCast] at h1 ⊢
  have hlt : k < n := by omega
  simp only [Yv, execOp, ho, hx, hy]
  simp [go_sem, Instr.indexAt, run_underlying ht, hlt, hs, addr_add]

/-- The parts of a literal. -/
def evp (a : Act) : List (Nat × Operand) → List (Nat × Value) → Prop
  | [], [] => True
  | (i, x) :: xs, (j, v) :: vs => (a.eval x = v ∧ i = j) ∧ evp a xs vs
  | _, _ => False
theorem evp_map : ∀ {xs : List (Nat × Operand)} {vs : List (Nat × Value)}, evp a xs vs → xs.map (fun p => (p.1, a.eval p.2)) = vs
  | [], [], _ => rfl
  | (i, x) :: xs, (j, v) :: vs, h => by
    obtain ⟨⟨h1, rfl⟩, h2⟩ := h
    rw [List.map_cons, evp_map h2, h1]

def placesOf (P : Program) (t : TypeId) : Sem (Array (Nat × Nat)) := (match P.underlying t with | some (.struct fs) => fs | _ => #[]).mapM fun (f : Field) => do pure (f.offset, ← Go.sizeOf f.type)

theorem y_build {z : Value} {fs : Array Field} {pl : Array (Nat × Nat)} {xs : List (Nat × Operand)} {vs : List (Nat × Value)} {cs : List Value} (hz : ∀ w, (zeroValue t).run P w = .ok z w) (hu : P.underlying t = some (.struct fs))
    (hp : ∀ w, (placesOf P t).run P w = .ok pl w) (ho : o.op = .build t xs.toArray) (hx : evp a xs vs) (hfill : Instr.fill (fun i => pl[i]?) z.cells vs = some cs.toArray) : Yv P o a w (.agg cs.toArray) w := by
  have hp' := hp w
  simp only [placesOf, hu] at hp'
  have h1 := evp_map hx
  simp only [Yv, execOp, ho, Instr.build, Sem.run_bind, hz, Result.andThen_ok, run_underlying hu, hp', List.map_toArray]
  have e : (xs.map fun (i, x) => (i, a.eval x)) = vs := h1
  simp only [e, hfill]
  rfl

theorem y_buildSlice {z : Value} {sz n : Nat} {xs : List (Nat × Operand)} {vs : List (Nat × Value)} {cs : List Value} (hu : P.underlying t = some (.slice e)) (hs : ∀ w, (Go.sizeOf e).run P w = .ok sz w) (hz : ∀ w, (zeroValue e).run P w = .ok z w)
    (hle : Nat.ble (n * sz) 16777216 = true) (hne : Nat.beq (n * sz) 0 = false) (ho : o.op = .buildSlice t n xs.toArray) (hx : evp a xs vs)
    (hfill : Instr.fill (fun i => some (i * sz, sz)) ((Array.range (n * sz)).map (z.cells[· % z.cells.size]!)) vs = some cs.toArray) :
    Yv P o a w (.slice (some ⟨w.heap.size, 0, none⟩) n n) (w.alloc (.cells cs.toArray e)) := by
  have h1 := evp_map hx
  have e1 : (xs.map fun (i, x) => (i, a.eval x)) = vs := h1
  have h2 : ¬ (n * sz > 2 ^ 24) := by have := Nat.le_of_ble_eq_true hle; omega
  have h3 : n * sz ≠ 0 := by intro h0; rw [h0] at hne; simp at hne
  simp only [Yv, execOp, ho, Instr.buildSlice, Sem.run_bind, Sem.run_pure, hs, hz, Result.andThen_ok, run_underlying hu, List.map_toArray, e1, if_neg h2, if_neg h3, hfill]
  rfl

theorem y_or64 {t' : TypeId} {m n : Int} (ho : o.op = .binOp .or t x y t') (hx : a.eval x = .int .i64 m) (hy : a.eval y = .int .i64 n) : Yv P o a w (.int .i64 (orI m n)) w := by
  unfold orI
  rw [← w64_eq]
  simp only [Yv, execOp, ho, hx, hy]
  rfl
theorem y_and64 {t' : TypeId} {m n : Int} (ho : o.op = .binOp .and t x y t') (hx : a.eval x = .int .i64 m) (hy : a.eval y = .int .i64 n) : Yv P o a w (.int .i64 (andI m n)) w := by
  unfold andI
  rw [← w64_eq]
  simp only [Yv, execOp, ho, hx, hy]
  rfl
theorem y_shl64 {t' : TypeId} {k : IntKind} {m : Int} {n : Nat} (hn : Nat.ble n 64 = true) (ho : o.op = .binOp .shl t x y t') (hx : a.eval x = .int .i64 m) (hy : a.eval y = .int k (n : Int)) : Yv P o a w (.int .i64 (shlI m n)) w := by
  have hle := Nat.le_of_ble_eq_true hn
  unfold shlI
  rw [← w64_eq]
  simp only [Yv, execOp, ho, hx, hy]
  simp [go_sem, hle]
theorem y_shr64 {t' : TypeId} {k : IntKind} {m : Int} {n : Nat} (hn : Nat.ble n 64 = true) (ho : o.op = .binOp .shr t x y t') (hx : a.eval x = .int .i64 m) (hy : a.eval y = .int k (n : Int)) : Yv P o a w (.int .i64 (shrI m n)) w := by
  have hle := Nat.le_of_ble_eq_true hn
  unfold shrI
  simp only [Yv, execOp, ho, hx, hy]
  simp [go_sem, hle]
theorem y_makeFunc {fn : Fn} {xs : List Operand} {vs : List Value} (ho : o.op = .makeFunc fn #[] xs.toArray) (hx : xs.map a.eval = vs) : Yv P o a w (.func fn #[] vs.toArray) w := by
  simp only [Yv, execOp, ho, Instr.makeFunc, List.map_toArray, hx]
  rfl
/-- Bytes that are a text from here on. -/
theorem y_bytesLit {t' : TypeId} {g n c : Nat} {bs : List UInt8} (ht : P.underlying t = some (.slice e)) (he : P.underlying e = some (.int .u8)) (ht' : P.underlying t' = some .string) (ho : o.op = .convert t t' x) (hx : a.eval x = .slice (some ⟨g, 0, none⟩) n c)
    (hb : (Ent.blk g e (bs.map (fun b => Value.int .u8 (b.toNat : Int)))).ok w) (hn : bs.length = n) : Yv P o a w (Str bs) w := by
  subst hn
  have h := run_convert_bytes_back (P := P) w t t' e ⟨g, 0, none⟩ c bs ht he ht' (fun j hj => by rw [addr_add]; exact blk_cell hb (by simp [hj]))
  simp only [Yv, execOp, ho, hx, Sem.run_bind, h, Result.andThen_ok]
  rfl
theorem y_bytesRow {t' : TypeId} {A : Option Addr} {n c : Nat} {M : List Nat} {bs : List UInt8} {xs : List Value} (ht : P.underlying t = some (.slice e)) (he : P.underlying e = some (.int .u8)) (ht' : P.underlying t' = some .string) (ho : o.op = .convert t t' x) (hx : a.eval x = .slice A n c)
    (hb : (Ent.row e 1 (.slice A n c) bs xs).ok w) (hr : (Dt.rows tyByte xs bs).ok M w) : Yv P o a w (Str bs) w := by
  have h' : w.ownsRow 0 e 1 (.slice A n c) bs.length xs := hb
  have hr' : rdAll tyByte (Fz M w) w xs bs := hr
  have hxs : ∀ {l : List UInt8} {ys : List Value}, rdAll tyByte (Fz M w) w ys l → ys = l.map (fun b => Value.int .u8 (b.toNat : Int)) := by
    intro l
    induction l with
    | nil => intro ys h; exact h
    | cons b r ih =>
      intro ys h
      obtain ⟨cs, zs, rfl, h1, h2⟩ := h
      have h1' : cs = [.int .u8 (b.toNat : Int)] := h1
      rw [h1', ih h2]; rfl
  rcases h'.2 with ⟨e1, e0⟩ | ⟨g, cap, cur, e1, _, hg, _⟩
  · simp only [Value.slice.injEq] at e1
    obtain ⟨rfl, rfl, rfl⟩ := e1
    have : bs = [] := List.eq_nil_of_length_eq_zero e0
    subst this
    have h := run_convert_bytes_string (P := P) w t t' e none 0 0 ht he ht'
    simp only [Yv, execOp, ho, hx, Sem.run_bind, h]
    rfl
  · simp only [Value.slice.injEq] at e1
    obtain ⟨rfl, rfl, rfl⟩ := e1
    have hc := h'.cells (g := g) rfl
    have h := run_convert_bytes_back (P := P) w t t' e ⟨g, 0, none⟩ c bs ht he ht' (fun j hj => hc j _ (by rw [hxs hr']; simp [hj]))
    simp only [Yv, execOp, ho, hx, Sem.run_bind, h, Result.andThen_ok]
    rfl
end
end Gg
