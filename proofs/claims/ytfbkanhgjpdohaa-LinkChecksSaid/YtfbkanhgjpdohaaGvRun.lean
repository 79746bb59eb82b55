/- The small logic, runs: many operations that only reckon, read and choose, at one stroke, by a function that the kernel carries out. General: no program is named. -/
import Derived.Test.YtfbkanhgjpdohaaGgAny
namespace Gg
open Go Go.RowKit Cin

/-! ### What a run must know of types -/
inductive Kd
  | i (k : IntKind)
  | b
  | s
  | sl
def Kd.ok (P : Program) (t : TypeId) : Kd → Prop
  | .i k => P.underlying t = some (.int k)
  | .b => P.underlying t = some .bool
  | .s => P.underlying t = some .string
  | .sl => ∃ e, P.underlying t = some (.slice e)
structure Gam where
  und : List (Nat × Kd)
  fld : List (Nat × Nat × Nat)
  siz : List (Nat × Option Nat)
def undOK (P : Program) : List (Nat × Kd) → Prop
  | [] => True
  | p :: r => p.2.ok P p.1 ∧ undOK P r
def FldIs (P : Program) (s j off : Nat) : Prop := ∃ fs f sz, P.underlying s = some (.struct fs) ∧ fs[j]? = some f ∧ f.offset = off ∧ sz ≠ 0 ∧ ∀ w, (Go.sizeOf f.type).run P w = .ok sz w
def fldOK (P : Program) : List (Nat × Nat × Nat) → Prop
  | [] => True
  | p :: r => FldIs P p.1 p.2.1 p.2.2 ∧ fldOK P r
def SizIs (P : Program) (t : Nat) : Option Nat → Prop
  | none => ∀ w, (isAgg t).run P w = .ok false w
  | some n => (∀ w, (isAgg t).run P w = .ok true w) ∧ ∀ w, (Go.sizeOf t).run P w = .ok n w
def sizOK (P : Program) : List (Nat × Option Nat) → Prop
  | [] => True
  | p :: r => SizIs P p.1 p.2 ∧ sizOK P r
structure GOK (P : Program) (G : Gam) : Prop where
  und : undOK P G.und
  fld : fldOK P G.fld
  siz : sizOK P G.siz
theorem fld_mk {P : Program} {s j off sz : Nat} {fs : Array Field} {f : Field} (h : P.underlying s = some (.struct fs)) (hf : fs[j]? = some f) (ho : f.offset = off) (hs : ∀ w, (Go.sizeOf f.type).run P w = .ok sz w) (h0 : Nat.beq sz 0 = false) : FldIs P s j off :=
  ⟨fs, f, sz, h, hf, ho, (fun e => by subst e; simp at h0), hs⟩

def lkn {β : Type} : List (Nat × β) → Nat → Option β
  | [], _ => none
  | p :: r, t => match Nat.beq p.1 t with
    | true => some p.2
    | false => lkn r t
def lkf : List (Nat × Nat × Nat) → Nat → Nat → Option Nat
  | [], _, _ => none
  | p :: r, s, j => match Nat.beq p.1 s && Nat.beq p.2.1 j with
    | true => some p.2.2
    | false => lkf r s j
theorem und_ok {P : Program} {l : List (Nat × Kd)} (h : undOK P l) {t : Nat} {k : Kd} (hl : lkn l t = some k) : k.ok P t := by
  induction l with
  | nil => simp [lkn] at hl
  | cons p r ih =>
    simp only [lkn] at hl
    cases hb : Nat.beq p.1 t with
    | true =>
      rw [hb] at hl
      simp only [Option.some.injEq] at hl
      rw [← Nat.eq_of_beq_eq_true hb, ← hl]; exact h.1
    | false => rw [hb] at hl; exact ih h.2 hl
theorem siz_ok {P : Program} {l : List (Nat × Option Nat)} (h : sizOK P l) {t : Nat} {k : Option Nat} (hl : lkn l t = some k) : SizIs P t k := by
  induction l with
  | nil => simp [lkn] at hl
  | cons p r ih =>
    simp only [lkn] at hl
    cases hb : Nat.beq p.1 t with
    | true =>
      rw [hb] at hl
      simp only [Option.some.injEq] at hl
      rw [← Nat.eq_of_beq_eq_true hb, ← hl]; exact h.1
    | false => rw [hb] at hl; exact ih h.2 hl
theorem fld_ok {P : Program} {l : List (Nat × Nat × Nat)} (h : fldOK P l) {s j off : Nat} (hl : lkf l s j = some off) : FldIs P s j off := by
  induction l with
  | nil => simp [lkf] at hl
  | cons p r ih =>
    simp only [lkf] at hl
    cases hb : Nat.beq p.1 s && Nat.beq p.2.1 j with
    | true =>
      rw [hb] at hl
      simp only [Option.some.injEq] at hl
      simp only [Bool.and_eq_true] at hb
      rw [← Nat.eq_of_beq_eq_true hb.1, ← Nat.eq_of_beq_eq_true hb.2, ← hl]; exact h.1
    | false => rw [hb] at hl; exact ih h.2 hl

/-! ### What is known of memory -/
def memOK (w : World) : List (Nat × Nat × List Value) → Prop
  | [] => True
  | m :: r => Cells w ⟨m.1, m.2.1, none⟩ m.2.2 ∧ memOK w r
theorem mn {w : World} : memOK w [] := trivial
theorem mc {w : World} {b p : Nat} {cs : List Value} {M : List (Nat × Nat × List Value)} (h : Cells w ⟨b, p, none⟩ cs) (k : memOK w M) : memOK w ((b, p, cs) :: M) := ⟨h, k⟩
theorem mem_at {w : World} {M : List (Nat × Nat × List Value)} (h : memOK w M) {i b p : Nat} {cs : List Value} (hi : M[i]? = some (b, p, cs)) : Cells w ⟨b, p, none⟩ cs := by
  induction M generalizing i with
  | nil => simp at hi
  | cons m r ih =>
    cases i with
    | zero =>
      simp only [List.getElem?_cons_zero, Option.some.injEq] at hi
      subst hi
      exact h.1
    | succ i => exact ih h.2 (by simpa using hi)
theorem blk_all {w : World} {g : Nat} {t : TypeId} {cs : List Value} (h : (Ent.blk g t cs).ok w) : Cells w ⟨g, 0, none⟩ cs := fun j u hj => by
  have := blk_cell h hj
  simpa using this

/-! ### Frames with what hangs on a choice -/
structure Sl where
  t : Nat
  j : Nat
  want : Bool
  v : Value
def rmF : List (Nat × Value) → Nat → List (Nat × Value)
  | [], _ => []
  | p :: r, d => match Nat.beq p.1 d with
    | true => rmF r d
    | false => p :: rmF r d
def rmG : List Sl → Nat → List Sl
  | [], _ => []
  | p :: r, d => match Nat.beq p.t d || Nat.beq p.j d with
    | true => rmG r d
    | false => p :: rmG r d
def hasG : List (Nat × Bool) → Nat → Bool → Bool
  | [], _, _ => false
  | p :: r, j, b => (Nat.beq p.1 j && (p.2 == b)) || hasG r j b
def lkg : List Sl → List (Nat × Bool) → Nat → Option Value
  | [], _, _ => none
  | p :: r, cur, t => match Nat.beq p.t t && hasG cur p.j p.want with
    | true => some p.v
    | false => lkg r cur t
def gOK (a : Act) : List Sl → Prop
  | [] => True
  | p :: r => (a.tmps.getD p.j undef = .bool p.want → a.tmps.getD p.t undef = p.v) ∧ gOK a r
def curOK (a : Act) : List (Nat × Bool) → Prop
  | [] => True
  | p :: r => a.tmps.getD p.1 undef = .bool p.2 ∧ curOK a r
theorem hasG_ok {a : Act} {cur : List (Nat × Bool)} (h : curOK a cur) {j : Nat} {b : Bool} (hh : hasG cur j b = true) : a.tmps.getD j undef = .bool b := by
  induction cur with
  | nil => simp [hasG] at hh
  | cons p r ih =>
    simp only [hasG, Bool.or_eq_true, Bool.and_eq_true, beq_iff_eq] at hh
    rcases hh with ⟨h1, h2⟩ | hh
    · rw [← Nat.eq_of_beq_eq_true h1, ← h2]; exact h.1
    · exact ih h.2 hh
theorem lkg_ok {a : Act} {gs : List Sl} (h : gOK a gs) {cur : List (Nat × Bool)} (hc : curOK a cur) {t : Nat} {v : Value} (hl : lkg gs cur t = some v) : a.tmps.getD t undef = v := by
  induction gs with
  | nil => simp [lkg] at hl
  | cons p r ih =>
    simp only [lkg] at hl
    cases hb : Nat.beq p.t t && hasG cur p.j p.want with
    | true =>
      rw [hb] at hl
      simp only [Option.some.injEq] at hl
      simp only [Bool.and_eq_true] at hb
      rw [← Nat.eq_of_beq_eq_true hb.1, ← hl]
      exact h.1 (hasG_ok hc hb.2)
    | false => rw [hb] at hl; exact ih h.2 hl

def opd (fr : List (Nat × Value)) (gs : List Sl) (cur : List (Nat × Bool)) : Operand → Option Value
  | .const v => some v
  | .global g => some (.pointer (some ⟨g, 0, none⟩))
  | .tmp t => match lk fr t with
    | some v => some v
    | none => lkg gs cur t
  | .func _ => none
theorem opd_ok {n : FrN} {fr : List (Nat × Value)} {gs : List Sl} {cur : List (Nat × Bool)} {a : Act} (hf : Fr n fr a) (hg : gOK a gs) (hc : curOK a cur) {x : Operand} {v : Value} (h : opd fr gs cur x = some v) : a.eval x = v := by
  cases x with
  | const u => simp only [opd, Option.some.injEq] at h; rw [← h]; rfl
  | global g => simp only [opd, Option.some.injEq] at h; rw [← h]; rfl
  | func f => simp [opd] at h
  | tmp t =>
    simp only [opd] at h
    cases hl : lk fr t with
    | some u => rw [hl] at h; simp only [Option.some.injEq] at h; rw [← h]; exact hf.g hl
    | none => rw [hl] at h; exact lkg_ok hg hc h
def opds (fr : List (Nat × Value)) (gs : List Sl) (cur : List (Nat × Bool)) : List Operand → Option (List Value)
  | [] => some []
  | x :: r => match opd fr gs cur x, opds fr gs cur r with
    | some v, some vs => some (v :: vs)
    | _, _ => none
theorem opds_ok {n : FrN} {fr : List (Nat × Value)} {gs : List Sl} {cur : List (Nat × Bool)} {a : Act} (hf : Fr n fr a) (hg : gOK a gs) (hc : curOK a cur) : ∀ {xs : List Operand} {vs : List Value}, opds fr gs cur xs = some vs → xs.map a.eval = vs
  | [], vs, h => by simp only [opds, Option.some.injEq] at h; subst h; rfl
  | x :: r, vs, h => by
    simp only [opds] at h
    split at h
    · rename_i v us h1 h2
      simp only [Option.some.injEq] at h
      subst h
      rw [List.map_cons, opd_ok hf hg hc h1, opds_ok hf hg hc h2]
    · cases h

/-! ### Operations -/
def isK : Operand → Bool
  | .const (.int _ n) => n != 0
  | _ => false
def kEq : IntKind → IntKind → Bool
  | .i64, .i64 | .u8, .u8 | .i32, .i32 | .u64, .u64 | .u32, .u32 | .u16, .u16 | .i16, .i16 | .i8, .i8 => true
  | _, _ => false
theorem kEq_ok {j k : IntKind} (h : kEq j k = true) : j = k := by cases j <;> cases k <;> simp_all [kEq]
def is64 (k : IntKind) : Bool := kEq k .i64
theorem is64_ok {k : IntKind} (h : is64 k = true) : k = .i64 := kEq_ok h
/-- Numbers. -/
def binI (kd : Option Kd) (nz : Bool) (op : BinOp) (j k : IntKind) (m n : Int) : Option Value :=
  match op with
  | .add => match is64 j && is64 k with | true => some (.int .i64 (w64 (m + n))) | false => none
  | .sub => match is64 j && is64 k with | true => some (.int .i64 (w64 (m - n))) | false => none
  | .mul => match is64 j && is64 k with | true => some (.int .i64 (w64 (m * n))) | false => none
  | .quo => match is64 j && is64 k && nz with | true => some (.int .i64 (w64 (m.tdiv n))) | false => none
  | .rem => match is64 j && is64 k && nz with | true => some (.int .i64 (m.tmod n)) | false => none
  | .or => match is64 j && is64 k with | true => some (.int .i64 (orI m n)) | false => none
  | .and => match is64 j && is64 k with | true => some (.int .i64 (andI m n)) | false => none
  | .lss => match kEq j k with | true => some (.bool (decide (m < n))) | false => none
  | .leq => match kEq j k with | true => some (.bool (decide (m ≤ n))) | false => none
  | .gtr => match kEq j k with | true => some (.bool (decide (n < m))) | false => none
  | .geq => match kEq j k with | true => some (.bool (decide (n ≤ m))) | false => none
  | .eql => match kd with
    | some (.i i) => match kEq i j && kEq j k with | true => some (.bool (decide (m = n))) | false => none
    | _ => none
  | .neq => match kd with
    | some (.i i) => match kEq i j && kEq j k with | true => some (.bool (!decide (m = n))) | false => none
    | _ => none
  | _ => none
def binS (kd : Option Kd) (op : BinOp) (p q : List UInt8) : Option Value :=
  match op, kd with
  | .eql, some .s => some (.bool (decide (p = q)))
  | .neq, some .s => some (.bool (!decide (p = q)))
  | _, _ => none
def binB (kd : Option Kd) (op : BinOp) (p q : Bool) : Option Value :=
  match op, kd with
  | .eql, some .b => some (.bool (p == q))
  | .neq, some .b => some (.bool (!(p == q)))
  | _, _ => none
def bin (kd : Option Kd) (nz : Bool) (op : BinOp) : Value → Value → Option Value
  | .int j m, .int k n => binI kd nz op j k m n
  | .string ⟨⟨p⟩⟩, .string ⟨⟨q⟩⟩ => binS kd op p q
  | .bool p, .bool q => binB kd op p q
  | _, _ => none

section
variable {P : Program} {o : Oper} {a : Act} {w : World} {x y : Operand} {t t' : TypeId}
theorem bin_ok {kd : Option Kd} (hk : ∀ k, kd = some k → k.ok P t) {nz : Bool} (hz : nz = true → ∀ k n, a.eval y = .int k n → n ≠ 0) {op : BinOp} {u v r : Value} (h : bin kd nz op u v = some r) (ho : o.op = .binOp op t x y t') (hx : a.eval x = u) (hy : a.eval y = v) : Yv P o a w r w := by
  unfold bin at h
  split at h
  · rename_i j m k n
    unfold binI at h
    split at h
    case h_1 =>
      split at h
      · rename_i hb
        simp only [Bool.and_eq_true] at hb
        obtain ⟨h1, h2⟩ := hb
        have h1 := is64_ok h1; have h2 := is64_ok h2
        subst h1; subst h2
        simp only [Option.some.injEq] at h
        subst h
        exact y_add64 ho hx hy
      · cases h
    case h_2 =>
      split at h
      · rename_i hb
        simp only [Bool.and_eq_true] at hb
        obtain ⟨h1, h2⟩ := hb
        have h1 := is64_ok h1; have h2 := is64_ok h2
        subst h1; subst h2
        simp only [Option.some.injEq] at h
        subst h
        exact y_sub64 ho hx hy
      · cases h
    case h_3 =>
      split at h
      · rename_i hb
        simp only [Bool.and_eq_true] at hb
        obtain ⟨h1, h2⟩ := hb
        have h1 := is64_ok h1; have h2 := is64_ok h2
        subst h1; subst h2
        simp only [Option.some.injEq] at h
        subst h
        exact y_mul64 ho hx hy
      · cases h
    case h_4 =>
      split at h
      · rename_i hb
        simp only [Bool.and_eq_true] at hb
        obtain ⟨⟨h1, h2⟩, h3⟩ := hb
        have h1 := is64_ok h1; have h2 := is64_ok h2
        subst h1; subst h2
        simp only [Option.some.injEq] at h
        subst h
        have hne := hz h3 _ _ hy
        exact y_quo64 ho hx hy (by rw [Bool.not_eq_true', decide_eq_false_iff_not]; exact hne)
      · cases h
    case h_5 =>
      split at h
      · rename_i hb
        simp only [Bool.and_eq_true] at hb
        obtain ⟨⟨h1, h2⟩, h3⟩ := hb
        have h1 := is64_ok h1; have h2 := is64_ok h2
        subst h1; subst h2
        simp only [Option.some.injEq] at h
        subst h
        have hne := hz h3 _ _ hy
        exact y_rem64 ho hx hy (by rw [Bool.not_eq_true', decide_eq_false_iff_not]; exact hne)
      · cases h
    case h_6 =>
      split at h
      · rename_i hb
        simp only [Bool.and_eq_true] at hb
        obtain ⟨h1, h2⟩ := hb
        have h1 := is64_ok h1; have h2 := is64_ok h2
        subst h1; subst h2
        simp only [Option.some.injEq] at h
        subst h
        exact y_or64 ho hx hy
      · cases h
    case h_7 =>
      split at h
      · rename_i hb
        simp only [Bool.and_eq_true] at hb
        obtain ⟨h1, h2⟩ := hb
        have h1 := is64_ok h1; have h2 := is64_ok h2
        subst h1; subst h2
        simp only [Option.some.injEq] at h
        subst h
        exact y_and64 ho hx hy
      · cases h
    case h_8 =>
      split at h
      · rename_i hb
        have hb := kEq_ok hb
        subst hb
        simp only [Option.some.injEq] at h
        subst h
        exact y_lss ho hx hy
      · cases h
    case h_9 =>
      split at h
      · rename_i hb
        have hb := kEq_ok hb
        subst hb
        simp only [Option.some.injEq] at h
        subst h
        exact y_leq ho hx hy
      · cases h
    case h_10 =>
      split at h
      · rename_i hb
        have hb := kEq_ok hb
        subst hb
        simp only [Option.some.injEq] at h
        subst h
        exact y_gtr ho hx hy
      · cases h
    case h_11 =>
      split at h
      · rename_i hb
        have hb := kEq_ok hb
        subst hb
        simp only [Option.some.injEq] at h
        subst h
        exact y_geq ho hx hy
      · cases h
    case h_12 =>
      split at h
      · rename_i i
        have hi := hk _ rfl
        split at h
        · rename_i hb
          simp only [Bool.and_eq_true] at hb
          have h1 := kEq_ok hb.1; have h2 := kEq_ok hb.2
          subst h1; subst h2
          simp only [Option.some.injEq] at h
          subst h
          exact y_eqI hi ho hx hy
        · cases h
      · cases h
    case h_13 =>
      split at h
      · rename_i i
        have hi := hk _ rfl
        split at h
        · rename_i hb
          simp only [Bool.and_eq_true] at hb
          have h1 := kEq_ok hb.1; have h2 := kEq_ok hb.2
          subst h1; subst h2
          simp only [Option.some.injEq] at h
          subst h
          exact y_neI hi ho hx hy
        · cases h
      · cases h
    case h_14 => cases h
  · rename_i p q
    unfold binS at h
    split at h
    · simp only [Option.some.injEq] at h
      subst h
      exact y_eqS (hk _ rfl) ho hx hy
    · simp only [Option.some.injEq] at h
      subst h
      exact y_neS (hk _ rfl) ho hx hy
    · cases h
  · rename_i p q
    unfold binB at h
    split at h
    · simp only [Option.some.injEq] at h
      subst h
      exact y_eqB (hk _ rfl) ho hx hy
    · simp only [Option.some.injEq] at h
      subst h
      exact y_neB (hk _ rfl) ho hx hy
    · cases h
  · cases h
end
end Gg
