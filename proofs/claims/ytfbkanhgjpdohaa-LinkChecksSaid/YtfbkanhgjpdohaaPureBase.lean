/- Plain ground: Go's numbers and places, with no program in sight. -/
namespace Cin
/-- A number of 64 bits, as Go wraps it. -/
def w64 (n : Int) : Int := (n + 9223372036854775808) % 18446744073709551616 - 9223372036854775808
/-- Bits of two numbers, and shifts. -/
def orI (a b : Int) : Int := w64 ((BitVec.ofInt 64 a ||| BitVec.ofInt 64 b).toNat : Int)
def andI (a b : Int) : Int := w64 ((BitVec.ofInt 64 a &&& BitVec.ofInt 64 b).toNat : Int)
def shlI (a : Int) (n : Nat) : Int := w64 (a * 2 ^ n)
def shrI (a : Int) (n : Nat) : Int := a / 2 ^ n
/-- The byte of a number. -/
def b8 (n : Int) : UInt8 := UInt8.ofNat (n % 256).toNat
/-- An index, as Go asks for it. -/
def idx {α : Type} (l : List α) (i : Int) : Option α := if 0 ≤ i then l[i.toNat]? else none
/-- What may be that great. -/
def need (b : Bool) : Option Unit := if b then some () else none
/-- Concatenation, as long as a length is an int. -/
def cat (p q : List UInt8) : Option (List UInt8) := if p.length + q.length ≤ 9223372036854775807 then some (p ++ q) else none
/-- Append of some, of so many bytes each. -/
def app {α : Type} (bytes : Nat) (l m : List α) : Option (List α) := if (l.length + m.length) * bytes ≤ 140737488355328 then some (l ++ m) else none
/-- A text as bytes. -/
def bytesOf (s : List UInt8) : Option (List UInt8) := if s.length ≤ 140737488355328 then some s else none
/-- A cut of a text or a list. -/
def cut {α : Type} (l : List α) (i j : Int) : Option (List α) := if 0 ≤ i ∧ i ≤ j ∧ j ≤ l.length then some ((l.take j.toNat).drop i.toNat) else none

theorem cond_t {α : Type} {b : Bool} {x y : Option α} {r : α} (hb : b = true) (h : cond b x y = some r) : x = some r := by subst hb; exact h
theorem cond_f {α : Type} {b : Bool} {x y : Option α} {r : α} (hb : b = false) (h : cond b x y = some r) : y = some r := by subst hb; exact h
theorem bind_s {α β : Type} {o : Option α} {f : α → Option β} {r : β} (h : o.bind f = some r) : ∃ x, o = some x ∧ f x = some r := by
  cases o with
  | none => cases h
  | some x => exact ⟨x, rfl, h⟩
theorem idx_some {α : Type} {l : List α} {i : Int} {d : α} (h : idx l i = some d) : 0 ≤ i ∧ i.toNat < l.length ∧ l[i.toNat]? = some d := by
  unfold idx at h
  split at h
  · rename_i h0
    exact ⟨h0, (List.getElem?_eq_some_iff.1 h).1, h⟩
  · cases h
theorem cat_some {p q r : List UInt8} (h : cat p q = some r) : p.length + q.length ≤ 9223372036854775807 ∧ r = p ++ q := by
  unfold cat at h
  split at h
  · rename_i h0; exact ⟨h0, by simpa using h.symm⟩
  · cases h
theorem app_some {α : Type} {bytes : Nat} {l m r : List α} (h : app bytes l m = some r) : (l.length + m.length) * bytes ≤ 140737488355328 ∧ r = l ++ m := by
  unfold app at h
  split at h
  · rename_i h0; exact ⟨h0, by simpa using h.symm⟩
  · cases h
theorem need_some {b : Bool} {u : Unit} (h : need b = some u) : b = true := by
  unfold need at h
  split at h
  · assumption
  · cases h
theorem b8_toNat (n : Int) : ((b8 n).toNat : Int) = n % 256 := by
  unfold b8
  have h0 : 0 ≤ n % 256 := Int.emod_nonneg _ (by omega)
  have h1 : n % 256 < 256 := Int.emod_lt_of_pos _ (by omega)
  simp only [UInt8.toNat_ofNat']
  omega
end Cin
namespace Cin
/-- Ways that meet again. -/
def join {κ α : Type} (k : κ) (b : κ → Option α) : Option α := b k
theorem join_s {κ α : Type} {k : κ} {b : κ → Option α} {r : α} (h : join k b = some r) : ∃ j, j = k ∧ b j = some r := ⟨k, rfl, h⟩
end Cin
namespace Cin
/-! Maps, by their entries in the order in which they came. -/
section
variable {κ β : Type} [DecidableEq κ]
def mget : List (κ × β) → κ → Option β
  | [], _ => none
  | p :: r, k => if p.1 = k then some p.2 else mget r k
def mput : List (κ × β) → κ → β → List (κ × β)
  | [], k, v => [(k, v)]
  | p :: r, k, v => if p.1 = k then (k, v) :: r else p :: mput r k v
def mpos : List (κ × β) → κ → Option Nat
  | [], _ => none
  | p :: r, k => if p.1 = k then some 0 else (mpos r k).map (· + 1)
end
end Cin
namespace Cin
/-! Ways out: a way that goes on, and one that leaves the function. -/
inductive Way (ρ α : Type)
  | go (a : α)
  | out (r : ρ)
def seqR {ρ α : Type} (x : Option (Way ρ α)) (k : α → Option ρ) : Option ρ := match x with
  | none => none
  | some (.go a) => k a
  | some (.out r) => some r
def seqO {ρ α β : Type} (x : Option (Way ρ α)) (k : α → Option (Way ρ β)) : Option (Way ρ β) := match x with
  | none => none
  | some (.go a) => k a
  | some (.out r) => some (.out r)
def contR {ρ α : Type} (k : α → Option ρ) : Way ρ α → Option ρ
  | .go a => k a
  | .out r => some r
def contO {ρ α β : Type} (k : α → Option (Way ρ β)) : Way ρ α → Option (Way ρ β)
  | .go a => k a
  | .out r => some (.out r)
theorem seqR_s {ρ α : Type} {x : Option (Way ρ α)} {k : α → Option ρ} {r : ρ} (h : seqR x k = some r) : ∃ y, x = some y ∧ contR k y = some r := by
  cases x with
  | none => cases h
  | some y => cases y <;> exact ⟨_, rfl, h⟩
theorem seqO_s {ρ α β : Type} {x : Option (Way ρ α)} {k : α → Option (Way ρ β)} {r : Way ρ β} (h : seqO x k = some r) : ∃ y, x = some y ∧ contO k y = some r := by
  cases x with
  | none => cases h
  | some y => cases y <;> exact ⟨_, rfl, h⟩
@[simp] theorem seqR_go {ρ α : Type} (a : α) (k : α → Option ρ) : seqR (some (.go a)) k = k a := rfl
@[simp] theorem seqR_out {ρ α : Type} (r : ρ) (k : α → Option ρ) : seqR (some (.out r)) k = some r := rfl
@[simp] theorem seqO_go {ρ α β : Type} (a : α) (k : α → Option (Way ρ β)) : seqO (some (.go a)) k = k a := rfl
@[simp] theorem seqO_out {ρ α β : Type} (r : ρ) (k : α → Option (Way ρ β)) : seqO (some (.out r)) k = some (.out r) := rfl
end Cin
