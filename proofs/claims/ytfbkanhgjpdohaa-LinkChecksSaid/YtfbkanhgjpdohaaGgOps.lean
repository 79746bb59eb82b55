/- The small logic, operations: what each yields. General: no program is named. -/
import Derived.Test.YtfbkanhgjpdohaaGgTy
namespace Gg
open Go Go.RowKit Cin

theorem lbeq (p q : List UInt8) : (p == q) = decide (p = q) := by
  rw [Bool.eq_iff_iff]; simp

section
variable {P : Program} {o : Oper} {a : Act} {w : World}
/-- The operation yields this value; the world is then that one. -/
abbrev Yv (P : Program) (o : Oper) (a : Act) (w : World) (v : Value) (w' : World) : Prop := (execOp a.eval o).run P w = .ok (.value v) w'
abbrev Yu (P : Program) (o : Oper) (a : Act) (w : World) (w' : World) : Prop := (execOp a.eval o).run P w = .ok .skip w'

theorem y_move {x : Operand} {v : Value} (ho : o.op = .move x) (hx : a.eval x = v) : Yv P o a w v w := by
  simp only [Yv, execOp, ho, hx]; rfl
theorem y_assign {x : Operand} {v : Value} (ho : o.op = .assign x) (hx : a.eval x = v) : Yv P o a w v w := by
  simp only [Yv, execOp, ho, hx]; rfl
theorem y_pickT {c x y : Operand} {v : Value} (ho : o.op = .pick c x y) (hc : a.eval c = .bool true) (hx : a.eval x = v) : Yv P o a w v w := by
  simp only [Yv, execOp, ho, hc, hx]; rfl
theorem y_pickF {c x y : Operand} {v : Value} (ho : o.op = .pick c x y) (hc : a.eval c = .bool false) (hy : a.eval y = v) : Yv P o a w v w := by
  simp only [Yv, execOp, ho, hc, hy]; rfl

section
variable {x y : Operand} {t t' : TypeId} {k : IntKind} {m n : Int}
theorem y_add (ho : o.op = .binOp .add t x y t') (hx : a.eval x = .int k m) (hy : a.eval y = .int k n) : Yv P o a w (.int k (k.wrap (m + n))) w := by
  simp only [Yv, execOp, ho, hx, hy]
  simp [go_sem]
theorem y_sub (ho : o.op = .binOp .sub t x y t') (hx : a.eval x = .int k m) (hy : a.eval y = .int k n) : Yv P o a w (.int k (k.wrap (m - n))) w := by
  simp only [Yv, execOp, ho, hx, hy]
  simp [go_sem]
theorem y_mul (ho : o.op = .binOp .mul t x y t') (hx : a.eval x = .int k m) (hy : a.eval y = .int k n) : Yv P o a w (.int k (k.wrap (m * n))) w := by
  simp only [Yv, execOp, ho, hx, hy]
  simp [go_sem]
theorem y_quo (ho : o.op = .binOp .quo t x y t') (hx : a.eval x = .int k m) (hy : a.eval y = .int k n) (h0 : n ≠ 0) : Yv P o a w (.int k (k.wrap (m.tdiv n))) w := by
  simp only [Yv, execOp, ho, hx, hy]
  simp [go_sem, h0]
theorem y_rem (hw : m.tmod n = k.wrap (m.tmod n)) (ho : o.op = .binOp .rem t x y t') (hx : a.eval x = .int k m) (hy : a.eval y = .int k n) (h0 : n ≠ 0) : Yv P o a w (.int k (k.wrap (m.tmod n))) w := by
  simp only [Yv, execOp, ho, hx, hy]
  simp [go_sem, h0]
  exact hw
theorem y_lss (ho : o.op = .binOp .lss t x y t') (hx : a.eval x = .int k m) (hy : a.eval y = .int k n) : Yv P o a w (.bool (decide (m < n))) w := by
  simp only [Yv, execOp, ho, hx, hy]
  simp [go_sem]
theorem y_leq (ho : o.op = .binOp .leq t x y t') (hx : a.eval x = .int k m) (hy : a.eval y = .int k n) : Yv P o a w (.bool (decide (m ≤ n))) w := by
  simp only [Yv, execOp, ho, hx, hy]
  simp [go_sem]
theorem y_gtr (ho : o.op = .binOp .gtr t x y t') (hx : a.eval x = .int k m) (hy : a.eval y = .int k n) : Yv P o a w (.bool (decide (n < m))) w := by
  simp only [Yv, execOp, ho, hx, hy]
  simp [go_sem]
theorem y_geq (ho : o.op = .binOp .geq t x y t') (hx : a.eval x = .int k m) (hy : a.eval y = .int k n) : Yv P o a w (.bool (decide (n ≤ m))) w := by
  simp only [Yv, execOp, ho, hx, hy]
  simp [go_sem]
theorem y_eqI (ht : P.underlying t = some (.int k)) (ho : o.op = .binOp .eql t x y t') (hx : a.eval x = .int k m) (hy : a.eval y = .int k n) : Yv P o a w (.bool (decide (m = n))) w := by
  have := run_underlying (P := P) ht
  simp only [Yv, execOp, ho, hx, hy]
  simp [go_sem, this]
  rfl
theorem y_neI (ht : P.underlying t = some (.int k)) (ho : o.op = .binOp .neq t x y t') (hx : a.eval x = .int k m) (hy : a.eval y = .int k n) : Yv P o a w (.bool (!decide (m = n))) w := by
  have := run_underlying (P := P) ht
  simp only [Yv, execOp, ho, hx, hy]
  simp [go_sem, this]
  rfl
end
section
variable {x y : Operand} {t t' : TypeId} {p q : Bool}
theorem run_eqB (ht : P.underlying t = some .bool) (p q : Bool) (w : World) : (binOp .eql t (.bool p) (.bool q)).run P w = .ok (.bool (p == q)) w := by
  have h : ∀ d : Nat, (Op.equalIn (d + 1) t (.bool p) (.bool q)).run P w = .ok (p == q) w := fun d => by
    simp [Op.equalIn, run_underlying ht]
  simp only [binOp]
  simp [Op.equal, Op.maxDepth, h 9999]
theorem run_neB (ht : P.underlying t = some .bool) (p q : Bool) (w : World) : (binOp .neq t (.bool p) (.bool q)).run P w = .ok (.bool (!(p == q))) w := by
  have h : ∀ d : Nat, (Op.equalIn (d + 1) t (.bool p) (.bool q)).run P w = .ok (p == q) w := fun d => by
    simp [Op.equalIn, run_underlying ht]
  simp only [binOp]
  simp [Op.equal, Op.maxDepth, h 9999]
theorem y_eqB (ht : P.underlying t = some .bool) (ho : o.op = .binOp .eql t x y t') (hx : a.eval x = .bool p) (hy : a.eval y = .bool q) : Yv P o a w (.bool (p == q)) w := by
  simp only [Yv, execOp, ho, hx, hy]
  simp [go_sem, run_eqB ht]
theorem y_neB (ht : P.underlying t = some .bool) (ho : o.op = .binOp .neq t x y t') (hx : a.eval x = .bool p) (hy : a.eval y = .bool q) : Yv P o a w (.bool (!(p == q))) w := by
  simp only [Yv, execOp, ho, hx, hy]
  simp [go_sem, run_neB ht]
theorem y_not (ho : o.op = .unOp .not t x) (hx : a.eval x = .bool p) : Yv P o a w (.bool (!p)) w := by
  simp only [Yv, execOp, ho, hx]
  simp [go_sem]
end
section
variable {x y : Operand} {t t' : TypeId} {p q : List UInt8}
theorem y_eqS (ht : P.underlying t = some .string) (ho : o.op = .binOp .eql t x y t') (hx : a.eval x = Str p) (hy : a.eval y = Str q) : Yv P o a w (.bool (decide (p = q))) w := by
  have := run_underlying (P := P) ht
  simp only [Yv, execOp, ho, hx, hy]
  simp [go_sem, this]
  exact lbeq p q
theorem y_neS (ht : P.underlying t = some .string) (ho : o.op = .binOp .neq t x y t') (hx : a.eval x = Str p) (hy : a.eval y = Str q) : Yv P o a w (.bool (!decide (p = q))) w := by
  have := run_underlying (P := P) ht
  simp only [Yv, execOp, ho, hx, hy]
  simp [go_sem, this]
  exact lbeq p q
theorem y_addS (hle : p.length + q.length ≤ 9223372036854775807) (ho : o.op = .binOp .add t x y t') (hx : a.eval x = Str p) (hy : a.eval y = Str q) : Yv P o a w (Str (p ++ q)) w := by
  simp only [Yv, execOp, ho, hx, hy]
  simp [go_sem]
  rw [if_neg (by omega)]
  rfl
theorem y_lenS {ats : TypeId} (ht : P.underlying ats = some .string) (ho : o.op = .call { callee := .builtin .len, args := #[x], argTypes := #[ats] }) (hx : a.eval x = Str p) : Yv P o a w (.int .i64 p.length) w := by
  simp only [Yv, execOp, ho, resolve, invoke, List.map_toArray, List.map_cons, List.map_nil, hx]
  simp [go_sem, Builtin.len_, run_underlying ht, goInt]
theorem y_len {ats : TypeId} {A : Option Addr} {n c : Nat} {e : TypeId} (ht : P.underlying ats = some (.slice e)) (ho : o.op = .call { callee := .builtin .len, args := #[x], argTypes := #[ats] }) (hx : a.eval x = .slice A n c) : Yv P o a w (.int .i64 n) w := by
  simp only [Yv, execOp, ho, resolve, invoke, List.map_toArray, List.map_cons, List.map_nil, hx]
  simp [go_sem, Builtin.len_, run_underlying ht, goInt]
theorem y_indexS {i : Nat} {b : UInt8} (ht : P.underlying t = some .string) (ho : o.op = .index t x y) (hx : a.eval x = Str p) (hy : a.eval y = .int .i64 i) (hb : p[i]? = some b) : Yv P o a w (.int .u8 b.toNat) w := by
  simp only [Yv, execOp, ho, hx, hy]
  obtain ⟨h1, h2⟩ := List.getElem?_eq_some_iff.1 hb
  have e : (⟨⟨p⟩⟩ : ByteArray)[i]? = some b := by
    show (if h : i < _ then some _ else none) = _
    rw [dif_pos (show i < (⟨⟨p⟩⟩ : ByteArray).size from h1)]
    exact congrArg some h2
  simp [go_sem, Instr.index, run_underlying ht, e]
theorem y_conv {k k' : IntKind} {n : Int} (ht : P.underlying t = some (.int k)) (ht' : P.underlying t' = some (.int k')) (ho : o.op = .convert t t' x) (hx : a.eval x = .int k n) : Yv P o a w (.int k' (k'.wrap n)) w := by
  simp only [Yv, execOp, ho, hx]
  simp [go_sem, convert, run_underlying ht, run_underlying ht']
end
end
theorem w64_eq (n : Int) : IntKind.i64.wrap n = w64 n := by rw [IntKind.wrap_i64]; rfl
theorem u8_eq (n : Int) : IntKind.u8.wrap n = ((b8 n).toNat : Int) := by rw [b8_toNat, IntKind.wrap_u8]
section
variable {P : Program} {o : Oper} {a : Act} {w : World} {x y : Operand} {t t' : TypeId} {m n : Int}
theorem y_add64 (ho : o.op = .binOp .add t x y t') (hx : a.eval x = .int .i64 m) (hy : a.eval y = .int .i64 n) : Yv P o a w (.int .i64 (w64 (m + n))) w := by rw [← w64_eq]; exact y_add ho hx hy
theorem y_sub64 (ho : o.op = .binOp .sub t x y t') (hx : a.eval x = .int .i64 m) (hy : a.eval y = .int .i64 n) : Yv P o a w (.int .i64 (w64 (m - n))) w := by rw [← w64_eq]; exact y_sub ho hx hy
theorem y_mul64 (ho : o.op = .binOp .mul t x y t') (hx : a.eval x = .int .i64 m) (hy : a.eval y = .int .i64 n) : Yv P o a w (.int .i64 (w64 (m * n))) w := by rw [← w64_eq]; exact y_mul ho hx hy
theorem y_rem64 (ho : o.op = .binOp .rem t x y t') (hx : a.eval x = .int .i64 m) (hy : a.eval y = .int .i64 n) (h0 : (!decide (n = 0)) = true) : Yv P o a w (.int .i64 (m.tmod n)) w := by
  have h0 : n ≠ 0 := by simpa using h0
  simp only [Yv, execOp, ho, hx, hy]
  simp [go_sem, h0]
theorem y_quo64 (ho : o.op = .binOp .quo t x y t') (hx : a.eval x = .int .i64 m) (hy : a.eval y = .int .i64 n) (h0 : (!decide (n = 0)) = true) : Yv P o a w (.int .i64 (w64 (m.tdiv n))) w := by rw [← w64_eq]; exact y_quo ho hx hy (by simpa using h0)
theorem y_cI64 (ht : P.underlying t = some (.int .u8)) (ht' : P.underlying t' = some (.int .i64)) {b : UInt8} (ho : o.op = .convert t t' x) (hx : a.eval x = .int .u8 (b.toNat : Int)) : Yv P o a w (.int .i64 (b.toNat : Int)) w := by
  have h := y_conv (P := P) (w := w) ht ht' ho hx
  have hb := b.toNat_lt
  rw [w64_eq, show w64 (b.toNat : Int) = b.toNat by unfold w64; omega] at h
  exact h
theorem y_cSame64 (ht : P.underlying t = some (.int .i64)) (ht' : P.underlying t' = some (.int .i64)) (ho : o.op = .convert t t' x) (hx : a.eval x = .int .i64 m) : Yv P o a w (.int .i64 (w64 m)) w := by
  have h := y_conv (P := P) (w := w) ht ht' ho hx
  rwa [w64_eq] at h
theorem y_cU8 (ht : P.underlying t = some (.int .i64)) (ht' : P.underlying t' = some (.int .u8)) (ho : o.op = .convert t t' x) (hx : a.eval x = .int .i64 m) : Yv P o a w (.int .u8 ((b8 m).toNat : Int)) w := by
  have h := y_conv (P := P) (w := w) ht ht' ho hx
  rwa [u8_eq] at h
theorem ec (a : Act) (v : Value) : a.eval (.const v) = v := rfl
theorem eg (a : Act) (g : Nat) : a.eval (.global g) = .pointer (some ⟨g, 0, none⟩) := rfl
theorem y_pickTb {c : Operand} {b b2 b3 : Bool} (ho : o.op = .pick c x y) (hc : a.eval c = .bool b) (hb : b = true) (hx : a.eval x = .bool b2) (h2 : b2 = b3) : Yv P o a w (.bool b3) w := y_pickT ho (by rw [hc, hb]) (by rw [hx, h2])
theorem y_pickFb {c : Operand} {b b2 b3 : Bool} (ho : o.op = .pick c x y) (hc : a.eval c = .bool b) (hb : b = false) (hy : a.eval y = .bool b2) (h2 : b2 = b3) : Yv P o a w (.bool b3) w := y_pickF ho (by rw [hc, hb]) (by rw [hy, h2])
theorem y_pickT' {c : Operand} {b : Bool} {v : Value} (ho : o.op = .pick c x y) (hc : a.eval c = .bool b) (hb : b = true) (hx : a.eval x = v) : Yv P o a w v w := y_pickT ho (by rw [hc, hb]) hx
theorem y_pickF' {c : Operand} {b : Bool} {v : Value} (ho : o.op = .pick c x y) (hc : a.eval c = .bool b) (hb : b = false) (hy : a.eval y = v) : Yv P o a w v w := y_pickF ho (by rw [hc, hb]) hy
theorem y_addS' {p q r : List UInt8} (hr : cat p q = some r) (ho : o.op = .binOp .add t x y t') (hx : a.eval x = Str p) (hy : a.eval y = Str q) : Yv P o a w (Str r) w := by
  obtain ⟨h1, rfl⟩ := cat_some hr
  exact y_addS h1 ho hx hy
theorem y_extract {vs : List Value} {i : Nat} {v : Value} (ho : o.op = .extract x i) (hx : a.eval x = .tuple vs.toArray) (hv : vs[i]? = some v) : Yv P o a w v w := by
  simp only [Yv, execOp, ho, hx]
  simp [go_sem, Instr.extract, hv]
theorem y_nilCheck {p : Addr} (ho : o.op = .nilCheck x) (hx : a.eval x = .pointer (some p)) : Yv P o a w (.pointer (some p)) w := by
  simp only [Yv, execOp, ho, hx]
  rfl
end
end Gg
