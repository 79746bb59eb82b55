/- Part 1 of the proof that is ended in the last text: small logic, what the functions compute, walks, plain laws. -/
import Derived.WalkKit
import Derived.Deep.LoopGhost
import Derived.Deep.Quiet
import Derived.Maps.AppendAt
import Derived.KernelRfl
import Derived.Deep.RegionHeld3
import Derived.Laws.StructEq
import Derived.Carry
import Derived.ChangeSame
import Derived.OpenShut
import Derived.Deep.Slices
import Derived.Deep.Fields
import Derived.ChangeMaps5
import Derived.Lib.LaidTab
import Derived.OrdersHeld
import Derived.MapKept
import Derived.Laws.OwnMore
import Derived.Laws.IdiomStrings
import Derived.RangeFuncRecord
import Derived.RangeFuncSeq
import Derived.RangeFuncIn
import Derived.RangeFuncLeaves
import Derived.OrdersIn
import Derived.TacticsIn
import Derived.Deep.OwnRows
import Derived.Lib.AppendZeros
import Derived.Lib.AppendStr
import Derived.Lib.UnsafeStr
import Derived.Lib.Builder
import Derived.Laws.Externs
import Derived.LaidEql
import Derived.WalkSmall
import Derived.Recover
import Derived.Test.YtfbkanhgjpdohaaChecked
namespace Cin
def w64 (n : Int) : Int := (n + 9223372036854775808) % 18446744073709551616 - 9223372036854775808
def orI (a b : Int) : Int := w64 ((BitVec.ofInt 64 a ||| BitVec.ofInt 64 b).toNat : Int)
def andI (a b : Int) : Int := w64 ((BitVec.ofInt 64 a &&& BitVec.ofInt 64 b).toNat : Int)
def shlI (a : Int) (n : Nat) : Int := w64 (a * 2 ^ n)
def shrI (a : Int) (n : Nat) : Int := a / 2 ^ n
def b8 (n : Int) : UInt8 := UInt8.ofNat (n % 256).toNat
def idx {α : Type} (l : List α) (i : Int) : Option α := if 0 ≤ i then l[i.toNat]? else none
def need (b : Bool) : Option Unit := if b then some () else none
def app {α : Type} (bytes : Nat) (l m : List α) : Option (List α) := if (l.length + m.length) * bytes ≤ 140737488355328 then some (l ++ m) else none
def bytesOf (s : List UInt8) : Option (List UInt8) := if s.length ≤ 140737488355328 then some s else none
def cut {α : Type} (l : List α) (i j : Int) : Option (List α) := if 0 ≤ i ∧ i ≤ j ∧ j ≤ l.length then some ((l.take j.toNat).drop i.toNat) else none
theorem cond_t {α : Type} {b : Bool} {x y : Option α} {r : α} (hb : b = true) (h : cond b x y = some r) : x = some r := by subst hb; exact h
theorem cond_f {α : Type} {b : Bool} {x y : Option α} {r : α} (hb : b = false) (h : cond b x y = some r) : y = some r := by subst hb; exact h
theorem bind_s {α β : Type} {o : Option α} {f : α → Option β} {r : β} (h : o.bind f = some r) : ∃ x, o = some x ∧ f x = some r := by
  cases o with
  | none => cases h
  | some x => exact ⟨x, rfl, h⟩
theorem idx_some {α : Type} {l : List α} {i : Int} {d : α} (h : idx l i = some d) : 0 ≤ i ∧ i.toNat < l.length ∧ l[i.toNat]? = some d := by
  unfold idx at h
  split at h
  · rename_i h0
    exact ⟨h0, (List.getElem?_eq_some_iff.1 h).1, h⟩
  · cases h
theorem app_some {α : Type} {bytes : Nat} {l m r : List α} (h : app bytes l m = some r) : (l.length + m.length) * bytes ≤ 140737488355328 ∧ r = l ++ m := by
  unfold app at h
  split at h
  · rename_i h0; exact ⟨h0, by simpa using h.symm⟩
  · cases h
theorem need_some {b : Bool} {u : Unit} (h : need b = some u) : b = true := by
  unfold need at h
  split at h
  · assumption
  · cases h
theorem b8_toNat (n : Int) : ((b8 n).toNat : Int) = n % 256 := by
  unfold b8
  have h0 : 0 ≤ n % 256 := Int.emod_nonneg _ (by omega)
  have h1 : n % 256 < 256 := Int.emod_lt_of_pos _ (by omega)
  simp only [UInt8.toNat_ofNat']
  omega
end Cin
namespace Cin
end Cin
namespace Cin
end Cin
namespace Cin
inductive Way (ρ α : Type)
  | go (a : α)
  | out (r : ρ)
def seqR {ρ α : Type} (x : Option (Way ρ α)) (k : α → Option ρ) : Option ρ := match x with
  | none => none
  | some (.go a) => k a
  | some (.out r) => some r
def seqO {ρ α β : Type} (x : Option (Way ρ α)) (k : α → Option (Way ρ β)) : Option (Way ρ β) := match x with
  | none => none
  | some (.go a) => k a
  | some (.out r) => some (.out r)
def contR {ρ α : Type} (k : α → Option ρ) : Way ρ α → Option ρ
  | .go a => k a
  | .out r => some r
def contO {ρ α β : Type} (k : α → Option (Way ρ β)) : Way ρ α → Option (Way ρ β)
  | .go a => k a
  | .out r => some (.out r)
theorem seqR_s {ρ α : Type} {x : Option (Way ρ α)} {k : α → Option ρ} {r : ρ} (h : seqR x k = some r) : ∃ y, x = some y ∧ contR k y = some r := by
  cases x with
  | none => cases h
  | some y => cases y <;> exact ⟨_, rfl, h⟩
theorem seqO_s {ρ α β : Type} {x : Option (Way ρ α)} {k : α → Option (Way ρ β)} {r : Way ρ β} (h : seqO x k = some r) : ∃ y, x = some y ∧ contO k y = some r := by
  cases x with
  | none => cases h
  | some y => cases y <;> exact ⟨_, rfl, h⟩
@[simp] theorem seqR_go {ρ α : Type} (a : α) (k : α → Option ρ) : seqR (some (.go a)) k = k a := rfl
@[simp] theorem seqR_out {ρ α : Type} (r : ρ) (k : α → Option ρ) : seqR (some (.out r)) k = some r := rfl
@[simp] theorem seqO_go {ρ α β : Type} (a : α) (k : α → Option (Way ρ β)) : seqO (some (.go a)) k = k a := rfl
@[simp] theorem seqO_out {ρ α β : Type} (r : ρ) (k : α → Option (Way ρ β)) : seqO (some (.out r)) k = some (.out r) := rfl
end Cin
namespace Cin
inductive Pn (ρ : Type)
  | bad
  | ok (r : ρ)
def pnB {ρ α : Type} (z : Pn ρ) (b : α) (k : ρ → α) : α := match z with
  | .bad => b
  | .ok r => k r
end Cin
namespace Gg
open Go Go.RowKit
def lk : List (Nat × Value) → Nat → Option Value
  | [], _ => none
  | p :: r, t => match Nat.beq p.1 t with
    | true => some p.2
    | false => lk r t
structure FrN where
  n : Nat
  ds : List Deferred
instance : Coe FrN Nat := ⟨FrN.n⟩
structure Fr (n : FrN) (l : List (Nat × Value)) (a : Act) : Prop where
  size : a.tmps.size = n.n
  defers : a.defers = n.ds
  get : ∀ t v, lk l t = some v → a.tmps.getD t undef = v
theorem Fr.g {n : FrN} {l : List (Nat × Value)} {a : Act} {t : Nat} {v : Value} (hf : Fr n l a) (h : lk l t = some v) : a.eval (.tmp t) = v := hf.get t v h
theorem Fr.put {n : FrN} {d : Nat} {l : List (Nat × Value)} {a : Act} {v : Value} (hf : Fr n l a) (hd : Nat.blt d n = true) : Fr n ((d, v) :: l) (a.put (some d) v) := by
  have hlt : d < n := Nat.le_of_ble_eq_true hd
  refine ⟨by simpa [Act.put] using hf.size, hf.defers, fun t u h => ?_⟩
  have hs := hf.size
  simp only [lk] at h
  cases hb : Nat.beq d t with
  | true =>
    rw [hb] at h
    simp only [Option.some.injEq] at h
    have e : d = t := Nat.eq_of_beq_eq_true hb
    subst e; subst h
    simp [Act.put, hs, hlt]
  | false =>
    rw [hb] at h
    have e : d ≠ t := by intro e; subst e; simp at hb
    have := hf.get t u h
    simp only [Act.put, Array.getD_eq_getD_getElem?] at this ⊢
    rw [Array.getElem?_setIfInBounds, if_neg e]
    exact this
def subs (l : List (Nat × Value)) : List (Nat × Value) → Prop
  | [] => True
  | p :: r => lk l p.1 = some p.2 ∧ subs l r
theorem lk_subs {l l' : List (Nat × Value)} (h : subs l l') : ∀ t v, lk l' t = some v → lk l t = some v := by
  induction l' with
  | nil => intro t v ht; simp [lk] at ht
  | cons p r ih =>
    intro t v ht
    simp only [lk] at ht
    cases hb : Nat.beq p.1 t with
    | true =>
      rw [hb] at ht
      have e : p.1 = t := Nat.eq_of_beq_eq_true hb
      simp only [Option.some.injEq] at ht
      rw [← e, ← ht]; exact h.1
    | false => rw [hb] at ht; exact ih h.2 t v ht
theorem Fr.sub {n : FrN} {l l' : List (Nat × Value)} {a : Act} (hf : Fr n l a) (h : subs l l') : Fr n l' a :=
  ⟨hf.size, hf.defers, fun t v ht => hf.get t v (lk_subs h t v ht)⟩
def enum : Nat → List Value → List (Nat × Value)
  | _, [] => []
  | k, v :: r => (k, v) :: enum (k + 1) r
theorem lk_enum (vs : List Value) : ∀ k t v, lk (enum k vs) t = some v → k ≤ t ∧ vs[t - k]? = some v := by
  induction vs with
  | nil => intro k t v h; simp [enum, lk] at h
  | cons u r ih =>
    intro k t v h
    simp only [enum, lk] at h
    cases hb : Nat.beq k t with
    | true =>
      rw [hb] at h
      have e : k = t := Nat.eq_of_beq_eq_true hb
      subst e
      simpa using h
    | false =>
      rw [hb] at h
      have e : k ≠ t := by intro e; subst e; simp at hb
      obtain ⟨h1, h2⟩ := ih (k + 1) t v h
      refine ⟨by omega, ?_⟩
      have : t - k = (t - (k + 1)) + 1 := by omega
      rw [this]; simpa using h2
theorem Fr.init (vs : List Value) (n : Nat) (h : Nat.ble vs.length n = true) : Fr ⟨n, []⟩ (enum 0 vs) { tmps := vs.toArray ++ Array.replicate (n - vs.toArray.size) undef, defers := [] } := by
  have hle : vs.length ≤ n := by simpa using h
  refine ⟨by simp; omega, rfl, fun t v ht => ?_⟩
  obtain ⟨_, h2⟩ := lk_enum vs 0 t v ht
  have hlt : t < vs.length := by
    rcases Nat.lt_or_ge t vs.length with h | h
    · exact h
    · rw [List.getElem?_eq_none (by simpa using h)] at h2; cases h2
  have h3 : vs[t]? = some v := by simpa using h2
  rw [Array.getD_eq_getD_getElem?]
  rw [List.getElem?_eq_getElem hlt, Option.some.injEq] at h3
  simp [Array.getElem?_append, hlt, h3]
theorem enter {P : Program} {f : FuncId} {fn : Func} {c : Code} {vs : List Value} {w : World} {R : Ending → World → Prop} {n : Nat}
    (hf : P.funcs[f]? = some fn) (hb : fn.body = some c) (hn : fn.ntmps = n) (hl : Nat.ble vs.length n = true)
    (h : ∀ a, Fr ⟨n, []⟩ (enum 0 vs) a → c.wp P (bodyPost P fn R) a w) : Calls P f vs.toArray w R := by
  refine calls_of_wp hf hb ?_
  rw [hn]
  exact h _ (Fr.init vs n hl)
structure Ev (M : List Nat) (w w' : World) : Prop where
  os : w'.os = w.os
  tape : w'.tape = w.tape
  output : w'.output = w.output
  size : w.heap.size ≤ w'.heap.size
  block : ∀ k, k < w.heap.size → k ∉ M → w'.heap[k]? = w.heap[k]?
theorem Ev.refl (M : List Nat) (w : World) : Ev M w w := ⟨rfl, rfl, rfl, Nat.le_refl _, fun _ _ _ => rfl⟩
theorem Ev.trans {M M' : List Nat} {a b c : World} (h : Ev M a b) (k : Ev M' b c) (hm : ∀ x ∈ M', x ∈ M ∨ a.heap.size ≤ x) : Ev M a c :=
  ⟨k.os.trans h.os, k.tape.trans h.tape, k.output.trans h.output, Nat.le_trans h.size k.size, fun i hi hn =>
    (k.block i (Nat.lt_of_lt_of_le hi h.size) (fun hx => by rcases hm i hx with e | e; exact hn e; omega)).trans (h.block i hi hn)⟩
theorem Ev.drew (M : List Nat) (w : World) : Ev M w w.drew := ⟨rfl, rfl, rfl, Nat.le_refl _, fun _ _ _ => rfl⟩
theorem Ev.alloc (M : List Nat) (w : World) (o : Obj) : Ev M w (w.alloc o) := ⟨rfl, rfl, rfl, by simp, fun k hk _ => Below.heap_alloc _ _ _ hk⟩
theorem Ev.set (w : World) (a : Addr) (u : Value) : Ev [a.block] w (w.setCell a u) :=
  ⟨rfl, rfl, rfl, by simp [World.setCell], fun k _ hn => Below.heap_setCell _ _ _ _ (by simpa using hn)⟩
theorem Ev.mono {M M' : List Nat} {a b : World} (h : Ev M a b) (hm : ∀ x ∈ M, x ∈ M') : Ev M' a b := ⟨h.os, h.tape, h.output, h.size, fun k hk hn => h.block k hk (fun hx => hn (hm k hx))⟩
theorem Ev.grown {w w' : World} {row : Option Nat} (h : w.grownBy w' row) : Ev row.toList w w' :=
  ⟨h.os, h.tape, h.output, h.size, fun k hk hn => h.block k hk (fun e => hn (by rw [← e]; simp))⟩
theorem Ev.below {w w' : World} (h : Ev [] w w') : Below w.heap.size w w' := ⟨h.os, h.tape, h.output, h.size, fun k hk => h.block k hk (by simp)⟩
structure Ent where
  foot : List Nat
  ok : World → Prop
  law : ∀ w w', (∀ k ∈ foot, w'.heap[k]? = w.heap[k]?) → ok w → ok w'
structure Dt where
  ok : List Nat → World → Prop
  law : ∀ M M' w w', Ev M w w' → (∀ k ∈ M', k ∈ M ∨ w.heap.size ≤ k) → ok M w → ok M' w'
def foots (E : List Ent) : List Nat := E.flatMap Ent.foot
structure St (W : World) (M0 X : List Nat) (w : World) (E : List Ent) (D : List Dt) : Prop where
  ev : Ev M0 W w
  ltX : ∀ k ∈ X, k < W.heap.size ∧ k ∉ M0
  lt : ∀ k ∈ foots E, k < w.heap.size ∧ (k ∈ M0 ∨ W.heap.size ≤ k)
  ok : ∀ x ∈ E, x.ok w
  dj : (foots E).Nodup
  rd : ∀ y ∈ D, y.ok (X ++ foots E) w
section
variable {W w w' : World} {M0 X : List Nat} {E : List Ent} {D : List Dt}
theorem St.keep (h : St W M0 X w E D) (hv : Ev [] w w') : St W M0 X w' E D :=
  ⟨h.ev.trans hv (by simp), h.ltX, fun k hk => ⟨Nat.lt_of_lt_of_le (h.lt k hk).1 hv.size, (h.lt k hk).2⟩,
   fun x hx => x.law w w' (fun k hk => hv.block k (h.lt k (List.mem_flatMap.2 ⟨x, hx, hk⟩)).1 (by simp)) (h.ok x hx), h.dj,
   fun y hy => y.law (X ++ foots E) _ w w' (hv.mono (by simp)) (fun k hk => .inl hk) (h.rd y hy)⟩
theorem St.drew (h : St W M0 X w E D) : St W M0 X w.drew E D := h.keep (Ev.drew _ _)
theorem St.push (h : St W M0 X w E D) (x : Ent) (hv : Ev [] w w') (hx : x.ok w') (hf : ∀ k ∈ x.foot, w.heap.size ≤ k ∧ k < w'.heap.size) (hn : x.foot.Nodup) : St W M0 X w' (x :: E) D := by
  have h1 := h.keep hv
  refine ⟨h1.ev, h.ltX, fun k hk => ?_, fun y hy => ?_, ?_, fun y hy => ?_⟩
  · rcases List.mem_append.1 (by simpa [foots] using hk : k ∈ x.foot ++ foots E) with e | e
    · exact ⟨(hf k e).2, .inr (Nat.le_trans h.ev.size (hf k e).1)⟩
    · exact h1.lt k e
  · rcases List.mem_cons.1 hy with rfl | e
    · exact hx
    · exact h1.ok y e
  · have : foots (x :: E) = x.foot ++ foots E := by simp [foots]
    rw [this, List.nodup_append]
    refine ⟨hn, h.dj, fun a ha b hb e => ?_⟩
    subst e
    have := (hf a ha).1
    have := (h.lt a hb).1
    omega
  · refine y.law (X ++ foots E) _ w w' (hv.mono (by simp)) (fun k hk => ?_) (h.rd y hy)
    have hk' : k ∈ X ++ (x.foot ++ foots E) := by simpa [foots] using hk
    simp only [List.mem_append] at hk'
    rcases hk' with e | e | e
    · exact .inl (by simp [e])
    · exact .inr (hf k e).1
    · exact .inl (by simp [e])
theorem St.drop (h : St W M0 X w E D) {E' : List Ent} (hs : List.Sublist E' E) : St W M0 X w E' D := by
  have hf : List.Sublist (foots E') (foots E) := by
    unfold foots
    clear h
    induction hs with
    | slnil => simp
    | cons a _ ih => simpa using ih.trans (List.sublist_append_right _ _)
    | cons_cons a _ ih => simpa using List.Sublist.append_left ih a.foot
  exact ⟨h.ev, h.ltX, fun k hk => h.lt k (hf.subset hk), fun x hx => h.ok x (hs.subset hx), h.dj.sublist hf,
    fun y hy => y.law (X ++ foots E) _ w w (Ev.refl _ _) (fun k hk => .inl (by rcases List.mem_append.1 hk with e | e; exact List.mem_append.2 (.inl e); exact List.mem_append.2 (.inr (hf.subset e)))) (h.rd y hy)⟩
theorem St.turn (h : St W M0 X w E D) {A B : List Ent} {x x' : Ent} (hE : E = A ++ x :: B) (hv : Ev x.foot w w') (hx : x'.ok w') (hn : x'.foot.Nodup)
    (hf : ∀ k ∈ x'.foot, k ∈ x.foot ∨ (w.heap.size ≤ k ∧ k < w'.heap.size)) : St W M0 X w' (A ++ x' :: B) D := by
  subst hE
  have e1 : foots (A ++ x :: B) = foots A ++ (x.foot ++ foots B) := by simp [foots]
  have e2 : foots (A ++ x' :: B) = foots A ++ (x'.foot ++ foots B) := by simp [foots]
  have hdj := h.dj
  rw [e1, List.nodup_append, List.nodup_append] at hdj
  obtain ⟨dA, ⟨dx, dB, dxB⟩, dA'⟩ := hdj
  have hxl : ∀ k ∈ x.foot, k < w.heap.size ∧ (k ∈ M0 ∨ W.heap.size ≤ k) := fun k hk => h.lt k (by rw [e1]; simp [hk])
  refine ⟨h.ev.trans hv (fun k hk => (hxl k hk).2), h.ltX, fun k hk => ?_, fun y hy => ?_, ?_, fun y hy => ?_⟩
  · rw [e2] at hk
    simp only [List.mem_append] at hk
    rcases hk with hk | hk | hk
    · have := h.lt k (by rw [e1]; simp [hk]); exact ⟨Nat.lt_of_lt_of_le this.1 hv.size, this.2⟩
    · rcases hf k hk with e | e
      · exact ⟨Nat.lt_of_lt_of_le (hxl k e).1 hv.size, (hxl k e).2⟩
      · exact ⟨e.2, .inr (Nat.le_trans h.ev.size e.1)⟩
    · have := h.lt k (by rw [e1]; simp [hk]); exact ⟨Nat.lt_of_lt_of_le this.1 hv.size, this.2⟩
  · have keepy : ∀ z, z ∈ A ∨ z ∈ B → z.ok w' := fun z hz => by
      have hz' : z ∈ A ++ x :: B := by rcases hz with e | e <;> simp [e]
      refine z.law w w' (fun k hk => hv.block k (h.lt k (List.mem_flatMap.2 ⟨z, hz', hk⟩)).1 (fun hkx => ?_)) (h.ok z hz')
      rcases hz with e | e
      · exact dA' k (List.mem_flatMap.2 ⟨z, e, hk⟩) k (by simp [hkx]) rfl
      · exact dxB k hkx k (List.mem_flatMap.2 ⟨z, e, hk⟩) rfl
    simp only [List.mem_append, List.mem_cons] at hy
    rcases hy with hy | rfl | hy
    · exact keepy y (.inl hy)
    · exact hx
    · exact keepy y (.inr hy)
  · rw [e2, List.nodup_append, List.nodup_append]
    have hne : ∀ k ∈ x'.foot, ∀ b, (b ∈ foots A ∨ b ∈ foots B) → k ≠ b := fun k hk b hb e => by
      subst e
      rcases hf k hk with e | e
      · rcases hb with hb | hb
        · exact dA' k hb k (by simp [e]) rfl
        · exact dxB k e k hb rfl
      · have := (h.lt k (by rw [e1]; rcases hb with hb | hb <;> simp [hb])).1
        omega
    exact ⟨dA, ⟨hn, dB, fun a ha b hb => hne a ha b (.inr hb)⟩, fun a ha b hb => by
      rcases List.mem_append.1 hb with hb | hb
      · exact fun e => hne b hb a (.inl ha) e.symm
      · exact dA' a ha b (by simp [hb])⟩
  · refine y.law (X ++ foots (A ++ x :: B)) _ w w' (hv.mono (fun k hk => by rw [e1]; simp [hk])) (fun k hk => ?_) (h.rd y hy)
    rw [e2] at hk
    simp only [List.mem_append] at hk
    rcases hk with hk | hk | hk | hk
    · exact .inl (by simp [hk])
    · exact .inl (by rw [e1]; simp [hk])
    · rcases hf k hk with e | e
      · exact .inl (by rw [e1]; simp [e])
      · exact .inr e.1
    · exact .inl (by rw [e1]; simp [hk])
theorem St.more (h : St W M0 X w E D) {y : Dt} (hy : y.ok (X ++ foots E) w) : St W M0 X w E (y :: D) :=
  ⟨h.ev, h.ltX, h.lt, h.ok, h.dj, fun z hz => by rcases List.mem_cons.1 hz with rfl | e; exact hy; exact h.rd z e⟩
theorem St.less (h : St W M0 X w E D) {D' : List Dt} (hs : ∀ y ∈ D', y ∈ D) : St W M0 X w E D' := ⟨h.ev, h.ltX, h.lt, h.ok, h.dj, fun y hy => h.rd y (hs y hy)⟩
theorem St.e (h : St W M0 X w E D) (i : Nat) {x : Ent} (hi : E[i]? = some x) : x.ok w := h.ok x (List.mem_of_getElem? hi)
theorem St.d (h : St W M0 X w E D) (i : Nat) {y : Dt} (hi : D[i]? = some y) : y.ok (X ++ foots E) w := h.rd y (List.mem_of_getElem? hi)
theorem Dt.less {y : Dt} {M M' : List Nat} (h : y.ok M w) (hm : ∀ k ∈ M', k ∈ M) : y.ok M' w := y.law M M' w w (Ev.refl _ _) (fun k hk => .inl (hm k hk)) h
theorem St.turnI (h : St W M0 X w E D) (i : Nat) {x x' : Ent} (hi : E[i]? = some x) (hv : Ev x.foot w w') (hx : x'.ok w') (hn : x'.foot.Nodup)
    (hf : ∀ k ∈ x'.foot, k ∈ x.foot ∨ (w.heap.size ≤ k ∧ k < w'.heap.size)) : St W M0 X w' (E.set i x') D := by
  obtain ⟨hl, rfl⟩ := List.getElem?_eq_some_iff.1 hi
  have hE : E = E.take i ++ E[i] :: E.drop (i + 1) := by simp
  have := h.turn hE hv hx hn hf
  rwa [List.set_eq_take_append_cons_drop, if_pos hl]
end
end Gg
namespace Gg
open Go Go.RowKit Cin
abbrev Str (l : List UInt8) : Value := .string ⟨⟨l⟩⟩
structure Ty (α : Type) where
  size : Nat
  rd : (Nat → Prop) → World → List Value → α → Prop
  len : ∀ {F w cs d}, rd F w cs d → cs.length = size
  one : ∀ {F w cs d}, rd F w cs d → ∀ v ∈ cs, v.oneCell' = true
  law : ∀ {F F' w w' cs d}, (∀ k, F k → F' k ∧ w'.heap[k]? = w.heap[k]?) → rd F w cs d → rd F' w' cs d
def Fz (M : List Nat) (w : World) : Nat → Prop := fun k => k ∉ M ∧ k < w.heap.size
def Dt.of {α : Type} (T : Ty α) (cs : List Value) (d : α) : Dt where
  ok M w := T.rd (Fz M w) w cs d
  law M M' w w' hv hm h := T.law (fun k hk => ⟨⟨fun hx => by rcases hm k hx with e | e; exact hk.1 e; exact absurd hk.2 (by omega), Nat.lt_of_lt_of_le hk.2 hv.size⟩, hv.block k hk.2 hk.1⟩) h
def tyInt (k : IntKind) : Ty Int where
  size := 1
  rd _ _ cs d := cs = [.int k d]
  len h := by subst h; rfl
  one h v hv := by subst h; simp at hv; subst hv; rfl
  law _ h := h
def tyByte : Ty UInt8 where
  size := 1
  rd _ _ cs d := cs = [.int .u8 (d.toNat : Int)]
  len h := by subst h; rfl
  one h v hv := by subst h; simp at hv; subst hv; rfl
  law _ h := h
section
variable {α : Type} (T : Ty α)
def rdAll (F : Nat → Prop) (w : World) : List Value → List α → Prop
  | xs, [] => xs = []
  | xs, d :: r => ∃ cs ys, xs = cs ++ ys ∧ T.rd F w cs d ∧ rdAll F w ys r
theorem rdAll_len {F : Nat → Prop} {w : World} : ∀ {l : List α} {xs : List Value}, rdAll T F w xs l → xs.length = l.length * T.size
  | [], xs, h => by simp only [rdAll] at h; subst h; simp
  | d :: r, xs, h => by
    obtain ⟨cs, ys, rfl, h1, h2⟩ := h
    rw [List.length_append, T.len h1, rdAll_len h2, List.length_cons, Nat.add_mul]; omega
theorem rdAll_one {F : Nat → Prop} {w : World} : ∀ {l : List α} {xs : List Value}, rdAll T F w xs l → ∀ v ∈ xs, v.oneCell' = true
  | [], xs, h => by simp only [rdAll] at h; subst h; simp
  | d :: r, xs, h => by
    obtain ⟨cs, ys, rfl, h1, h2⟩ := h
    intro v hv
    rcases List.mem_append.1 hv with e | e
    · exact T.one h1 v e
    · exact rdAll_one h2 v e
theorem rdAll_law {F F' : Nat → Prop} {w w' : World} (hF : ∀ k, F k → F' k ∧ w'.heap[k]? = w.heap[k]?) : ∀ {l : List α} {xs : List Value}, rdAll T F w xs l → rdAll T F' w' xs l
  | [], xs, h => h
  | d :: r, xs, h => by
    obtain ⟨cs, ys, rfl, h1, h2⟩ := h
    exact ⟨cs, ys, rfl, T.law hF h1, rdAll_law hF h2⟩
theorem rdAll_append {F : Nat → Prop} {w : World} {l' : List α} {xs' : List Value} (h' : rdAll T F w xs' l') : ∀ {l : List α} {xs : List Value}, rdAll T F w xs l → rdAll T F w (xs ++ xs') (l ++ l')
  | [], xs, h => by simp only [rdAll] at h; subst h; simpa using h'
  | e :: r, xs, h => by
    obtain ⟨c, ys, rfl, h1, h2⟩ := h
    exact ⟨c, ys ++ xs', by simp, h1, rdAll_append h' h2⟩
theorem rdAll_at {F : Nat → Prop} {w : World} : ∀ {l : List α} {xs : List Value} {i : Nat} {d : α}, rdAll T F w xs l → l[i]? = some d →
    ∃ cs, T.rd F w cs d ∧ ∀ j u, cs[j]? = some u → xs[i * T.size + j]? = some u
  | [], _, i, d, _, hi => by simp at hi
  | e :: r, xs, 0, d, h, hi => by
    obtain ⟨cs, ys, rfl, h1, _⟩ := h
    simp only [List.getElem?_cons_zero, Option.some.injEq] at hi
    subst hi
    refine ⟨cs, h1, fun j u hj => ?_⟩
    have hl : j < cs.length := by
      rcases Nat.lt_or_ge j cs.length with h | h
      · exact h
      · rw [List.getElem?_eq_none h] at hj; cases hj
    simpa [List.getElem?_append, hl] using hj
  | e :: r, xs, i + 1, d, h, hi => by
    obtain ⟨cs, ys, rfl, h1, h2⟩ := h
    obtain ⟨c, hc, hj⟩ := rdAll_at (i := i) h2 (by simpa using hi)
    refine ⟨c, hc, fun j u hju => ?_⟩
    have hlen := T.len h1
    have e1 : (i + 1) * T.size + j = cs.length + (i * T.size + j) := by rw [Nat.add_mul]; omega
    rw [e1, List.getElem?_append_right (by omega)]
    simpa using hj j u hju
def Cells (w : World) (a : Addr) (xs : List Value) : Prop := ∀ j u, xs[j]? = some u → w.cell? ⟨a.block, a.off + j, none⟩ = some u
theorem Cells.law {w w' : World} {a : Addr} {xs : List Value} (h : Cells w a xs) (hb : w'.heap[a.block]? = w.heap[a.block]?) : Cells w' a xs :=
  fun j u hj => (World.cell?_of_block (a := ⟨a.block, a.off + j, none⟩) hb).trans (h j u hj)
def bO (A : Option Addr) : Nat := (A.getD ⟨0, 0, none⟩).block
def oO (A : Option Addr) : Nat := (A.getD ⟨0, 0, none⟩).off
def tySlice : Ty (List α) where
  size := 1
  rd F w cs l := ∃ A c, cs = [.slice A l.length c] ∧ l.length ≤ c ∧ c ≤ maxLen ∧ (A = none → c = 0) ∧
    (l ≠ [] → A = some ⟨bO A, oO A, none⟩ ∧ F (bO A) ∧ ∃ xs, rdAll T F w xs l ∧ Cells w ⟨bO A, oO A, none⟩ xs)
  len h := by obtain ⟨A, c, rfl, _⟩ := h; rfl
  one h v hv := by obtain ⟨A, c, rfl, _⟩ := h; simp at hv; subst hv; rfl
  law hF h := by
    obtain ⟨A, c, h1, h3, h4, h5, h6⟩ := h
    refine ⟨A, c, h1, h3, h4, h5, fun hl => ?_⟩
    obtain ⟨e1, e2, xs, e3, e4⟩ := h6 hl
    exact ⟨e1, (hF _ e2).1, xs, rdAll_law T hF e3, e4.law (hF _ e2).2⟩
theorem slice_at {F : Nat → Prop} {w : World} {A : Option Addr} {n c : Nat} {l : List α} {i : Int} {d : α} (h : (tySlice T).rd F w [.slice A n c] l) (hi : idx l i = some d) :
    A = some ⟨bO A, oO A, none⟩ ∧ (0 ≤ i ∧ i < n) ∧ ∃ cs, T.rd F w cs d ∧ Cells w ⟨bO A, oO A + i.toNat * T.size, none⟩ cs := by
  obtain ⟨h0, h1, h2⟩ := idx_some hi
  obtain ⟨A', c', e1, e3, e4, e5, e6⟩ := h
  simp only [List.cons.injEq, Value.slice.injEq, and_true] at e1
  obtain ⟨rfl, rfl, rfl⟩ := e1
  obtain ⟨g1, g2, xs, g3, g4⟩ := e6 (fun hnil => by rw [hnil] at h1; simp at h1)
  obtain ⟨cs, hc, hat⟩ := rdAll_at T g3 h2
  refine ⟨g1, ⟨h0, by omega⟩, cs, hc, fun j u hj => ?_⟩
  have := g4 (i.toNat * T.size + j) u (hat j u hj)
  simpa [Nat.add_assoc] using this
end
def Ent.blk (g : Nat) (t : TypeId) (cs : List Value) : Ent where
  foot := [g]
  ok w := w.heap[g]? = some (.cells cs.toArray t (0, 0))
  law w w' h hk := (h g (by simp)).trans hk
def Ent.row {α : Type} (e : TypeId) (size : Nat) (v : Value) (l : List α) (xs : List Value) : Ent where
  foot := v.ownBlock.toList
  ok w := w.ownsRow 0 e size v l.length xs
  law w w' h hk := by
    refine ⟨hk.1, ?_⟩
    rcases hk.2 with hn | ⟨g, cap, cur, rfl, hb, hgg, rest⟩
    · exact .inl hn
    · exact .inr ⟨g, cap, cur, rfl, hb, (h g (by simp [Value.ownBlock])).trans hgg, rest⟩
def Dt.rows {α : Type} (T : Ty α) (xs : List Value) (l : List α) : Dt where
  ok M w := rdAll T (Fz M w) w xs l
  law M M' w w' hv hm h := rdAll_law T (fun k hk => ⟨⟨fun hx => by rcases hm k hx with e | e; exact hk.1 e; exact absurd hk.2 (by omega), Nat.lt_of_lt_of_le hk.2 hv.size⟩, hv.block k hk.2 hk.1⟩) h
theorem row_val {α : Type} {w : World} {e : TypeId} {size : Nat} {v : Value} {l : List α} {xs : List Value} (h : (Ent.row e size v l xs).ok w) : ∃ A c, v = .slice A l.length c ∧ l.length ≤ c ∧ c ≤ maxLen ∧ (A = none → c = 0) ∧ (A ≠ none → A = some ⟨bO A, 0, none⟩) := by
  have h' : w.ownsRow 0 e size v l.length xs := h
  rcases h'.2 with ⟨rfl, h0⟩ | ⟨g, cap, cur, rfl, _, _, h1, h2, _⟩
  · exact ⟨none, 0, by rw [h0], by omega, Nat.zero_le _, fun _ => rfl, fun h => absurd rfl h⟩
  · exact ⟨some ⟨g, 0, none⟩, cap, rfl, h1, h2, (fun h => by cases h), fun _ => rfl⟩
theorem row_data {α : Type} {T : Ty α} {M : List Nat} {w : World} {e : TypeId} {A : Option Addr} {n c : Nat} {l : List α} {xs : List Value} (h : (Ent.row e T.size (.slice A n c) l xs).ok w) (hr : (Dt.rows T xs l).ok M w)
    (hM : ∀ k ∈ (Value.slice A n c).ownBlock.toList, k ∉ M) : (Dt.of (tySlice T) [.slice A n c] l).ok M w := by
  have h' : w.ownsRow 0 e T.size (.slice A n c) l.length xs := h
  have hr' : rdAll T (Fz M w) w xs l := hr
  show (tySlice T).rd (Fz M w) w _ l
  rcases h'.2 with ⟨h1, h0⟩ | ⟨g, cap, cur, h1, _, hg, hle, hm, hs, hx⟩
  · have hl : l = [] := List.eq_nil_of_length_eq_zero h0
    simp only [Value.slice.injEq] at h1
    obtain ⟨rfl, rfl, rfl⟩ := h1
    subst hl
    exact ⟨none, 0, rfl, by simp, Nat.zero_le _, fun _ => rfl, fun h => absurd rfl h⟩
  · simp only [Value.slice.injEq] at h1
    obtain ⟨rfl, rfl, rfl⟩ := h1
    refine ⟨_, _, rfl, hle, hm, (fun h => by cases h), fun _ => ⟨rfl, ⟨hM g (by simp [Value.ownBlock]), (Array.getElem?_eq_some_iff.1 hg).1⟩, xs, hr', fun j u hj => ?_⟩⟩
    have hcell := h'.cells (g := g) rfl j u hj
    simpa [Addr.add, bO, oO] using (by
      have e : (⟨g, 0, none⟩ : Addr).add j = ⟨g, 0 + j, none⟩ := by unfold Addr.add; split <;> simp_all
      rw [e] at hcell; exact hcell : w.cell? ⟨g, 0 + j, none⟩ = some u)
theorem blk_cell {w : World} {g : Nat} {t : TypeId} {cs : List Value} (h : (Ent.blk g t cs).ok w) {j : Nat} {v : Value} (hj : cs[j]? = some v) : w.cell? ⟨g, j, none⟩ = some v := by
  have h' : w.heap[g]? = some (.cells cs.toArray t (0, 0)) := h
  simp [World.cell?, h', hj]
theorem blk_lt {w : World} {g : Nat} {t : TypeId} {cs : List Value} (h : (Ent.blk g t cs).ok w) : g < w.heap.size := by
  have h' : w.heap[g]? = some (.cells cs.toArray t (0, 0)) := h
  exact (Array.getElem?_eq_some_iff.1 h').1
theorem blk_new (w : World) (t : TypeId) (cs : List Value) : (Ent.blk w.heap.size t cs).ok (w.alloc (.cells cs.toArray t)) := heap_alloc_new w _
def Dt.glob (g : Nat) (cs : List Value) : Dt where
  ok M w := g ∉ M ∧ g < w.heap.size ∧ Cells w ⟨g, 0, none⟩ cs
  law M M' w w' hv hm h := ⟨fun hx => by rcases hm g hx with e | e; exact h.1 e; exact absurd h.2.1 (by omega), Nat.lt_of_lt_of_le h.2.1 hv.size, h.2.2.law (hv.block g h.2.1 h.1)⟩
theorem nil_ok {α : Type} (T : Ty α) (M : List Nat) (w : World) : (Dt.of (tySlice T) [.slice none 0 0] ([] : List α)).ok M w :=
  ⟨none, 0, rfl, by simp, Nat.zero_le _, fun _ => rfl, fun h => absurd rfl h⟩
def subC (cs : List Value) : Nat → List Value → Prop
  | _, [] => True
  | k, v :: r => cs[k]? = some v ∧ subC cs (k + 1) r
theorem subC_at {cs : List Value} : ∀ {k : Nat} {l : List Value}, subC cs k l → ∀ j u, l[j]? = some u → cs[k + j]? = some u
  | _, [], _, j, u, hj => by simp at hj
  | k, v :: r, h, 0, u, hj => by
    simp only [List.getElem?_cons_zero, Option.some.injEq] at hj
    subst hj; exact h.1
  | k, v :: r, h, j + 1, u, hj => by
    have := subC_at h.2 j u (by simpa using hj)
    rwa [Nat.add_assoc, Nat.add_comm 1 j] at this
theorem blk_cells {w : World} {g : Nat} {t : TypeId} {cs l : List Value} (h : (Ent.blk g t cs).ok w) (k : Nat) (hs : subC cs k l) : Cells w ⟨g, k, none⟩ l := fun j u hj => blk_cell h (subC_at hs j u hj)
theorem row_at {α : Type} {T : Ty α} {M : List Nat} {w : World} {e : TypeId} {A : Option Addr} {n c : Nat} {l : List α} {xs : List Value} {i : Int} {d : α} (h : (Ent.row e T.size (.slice A n c) l xs).ok w) (hr : (Dt.rows T xs l).ok M w) (hi : idx l i = some d) :
    A = some ⟨bO A, oO A, none⟩ ∧ (0 ≤ i ∧ i < n) ∧ ∃ cs, T.rd (Fz M w) w cs d ∧ Cells w ⟨bO A, oO A + i.toNat * T.size, none⟩ cs := by
  obtain ⟨h0, h1, h2⟩ := idx_some hi
  have h' : w.ownsRow 0 e T.size (.slice A n c) l.length xs := h
  have hr' : rdAll T (Fz M w) w xs l := hr
  rcases h'.2 with ⟨e1, e0⟩ | ⟨g, cap, cur, e1, _, hg, _⟩
  · omega
  · simp only [Value.slice.injEq] at e1
    obtain ⟨rfl, rfl, rfl⟩ := e1
    obtain ⟨cs, hc, hat⟩ := rdAll_at T hr' h2
    refine ⟨rfl, ⟨h0, by omega⟩, cs, hc, fun j u hj => ?_⟩
    have hcell := h'.cells (g := g) rfl _ u (hat j u hj)
    have e2 : (⟨g, 0, none⟩ : Addr).add (i.toNat * T.size + j) = ⟨g, 0 + (i.toNat * T.size + j), none⟩ := by unfold Addr.add; split <;> simp_all
    rw [e2] at hcell
    show w.cell? ⟨g, 0 + i.toNat * T.size + j, none⟩ = some u
    rw [Nat.add_assoc]; exact hcell
end Gg
namespace Gg
open Go Go.RowKit Cin
theorem lbeq (p q : List UInt8) : (p == q) = decide (p = q) := by
  rw [Bool.eq_iff_iff]; simp
section
variable {P : Program} {o : Oper} {a : Act} {w : World}
abbrev Yv (P : Program) (o : Oper) (a : Act) (w : World) (v : Value) (w' : World) : Prop := (execOp a.eval o).run P w = .ok (.value v) w'
abbrev Yu (P : Program) (o : Oper) (a : Act) (w : World) (w' : World) : Prop := (execOp a.eval o).run P w = .ok .skip w'
theorem y_move {x : Operand} {v : Value} (ho : o.op = .move x) (hx : a.eval x = v) : Yv P o a w v w := by
  simp only [Yv, execOp, ho, hx]; rfl
theorem y_assign {x : Operand} {v : Value} (ho : o.op = .assign x) (hx : a.eval x = v) : Yv P o a w v w := by
  simp only [Yv, execOp, ho, hx]; rfl
theorem y_pickT {c x y : Operand} {v : Value} (ho : o.op = .pick c x y) (hc : a.eval c = .bool true) (hx : a.eval x = v) : Yv P o a w v w := by
  simp only [Yv, execOp, ho, hc, hx]; rfl
theorem y_pickF {c x y : Operand} {v : Value} (ho : o.op = .pick c x y) (hc : a.eval c = .bool false) (hy : a.eval y = v) : Yv P o a w v w := by
  simp only [Yv, execOp, ho, hc, hy]; rfl
section
variable {x y : Operand} {t t' : TypeId} {k : IntKind} {m n : Int}
theorem y_add (ho : o.op = .binOp .add t x y t') (hx : a.eval x = .int k m) (hy : a.eval y = .int k n) : Yv P o a w (.int k (k.wrap (m + n))) w := by
  simp only [Yv, execOp, ho, hx, hy]
  simp [go_sem]
theorem y_sub (ho : o.op = .binOp .sub t x y t') (hx : a.eval x = .int k m) (hy : a.eval y = .int k n) : Yv P o a w (.int k (k.wrap (m - n))) w := by
  simp only [Yv, execOp, ho, hx, hy]
  simp [go_sem]
theorem y_mul (ho : o.op = .binOp .mul t x y t') (hx : a.eval x = .int k m) (hy : a.eval y = .int k n) : Yv P o a w (.int k (k.wrap (m * n))) w := by
  simp only [Yv, execOp, ho, hx, hy]
  simp [go_sem]
theorem y_quo (ho : o.op = .binOp .quo t x y t') (hx : a.eval x = .int k m) (hy : a.eval y = .int k n) (h0 : n ≠ 0) : Yv P o a w (.int k (k.wrap (m.tdiv n))) w := by
  simp only [Yv, execOp, ho, hx, hy]
  simp [go_sem, h0]
theorem y_lss (ho : o.op = .binOp .lss t x y t') (hx : a.eval x = .int k m) (hy : a.eval y = .int k n) : Yv P o a w (.bool (decide (m < n))) w := by
  simp only [Yv, execOp, ho, hx, hy]
  simp [go_sem]
theorem y_leq (ho : o.op = .binOp .leq t x y t') (hx : a.eval x = .int k m) (hy : a.eval y = .int k n) : Yv P o a w (.bool (decide (m ≤ n))) w := by
  simp only [Yv, execOp, ho, hx, hy]
  simp [go_sem]
theorem y_gtr (ho : o.op = .binOp .gtr t x y t') (hx : a.eval x = .int k m) (hy : a.eval y = .int k n) : Yv P o a w (.bool (decide (n < m))) w := by
  simp only [Yv, execOp, ho, hx, hy]
  simp [go_sem]
theorem y_geq (ho : o.op = .binOp .geq t x y t') (hx : a.eval x = .int k m) (hy : a.eval y = .int k n) : Yv P o a w (.bool (decide (n ≤ m))) w := by
  simp only [Yv, execOp, ho, hx, hy]
  simp [go_sem]
theorem y_eqI (ht : P.underlying t = some (.int k)) (ho : o.op = .binOp .eql t x y t') (hx : a.eval x = .int k m) (hy : a.eval y = .int k n) : Yv P o a w (.bool (decide (m = n))) w := by
  have := run_underlying (P := P) ht
  simp only [Yv, execOp, ho, hx, hy]
  simp [go_sem, this]
  rfl
theorem y_neI (ht : P.underlying t = some (.int k)) (ho : o.op = .binOp .neq t x y t') (hx : a.eval x = .int k m) (hy : a.eval y = .int k n) : Yv P o a w (.bool (!decide (m = n))) w := by
  have := run_underlying (P := P) ht
  simp only [Yv, execOp, ho, hx, hy]
  simp [go_sem, this]
  rfl
end
section
variable {x y : Operand} {t t' : TypeId} {p q : Bool}
theorem run_eqB (ht : P.underlying t = some .bool) (p q : Bool) (w : World) : (binOp .eql t (.bool p) (.bool q)).run P w = .ok (.bool (p == q)) w := by
  have h : ∀ d : Nat, (Op.equalIn (d + 1) t (.bool p) (.bool q)).run P w = .ok (p == q) w := fun d => by
    simp [Op.equalIn, run_underlying ht]
  simp only [binOp]
  simp [Op.equal, Op.maxDepth, h 9999]
theorem run_neB (ht : P.underlying t = some .bool) (p q : Bool) (w : World) : (binOp .neq t (.bool p) (.bool q)).run P w = .ok (.bool (!(p == q))) w := by
  have h : ∀ d : Nat, (Op.equalIn (d + 1) t (.bool p) (.bool q)).run P w = .ok (p == q) w := fun d => by
    simp [Op.equalIn, run_underlying ht]
  simp only [binOp]
  simp [Op.equal, Op.maxDepth, h 9999]
theorem y_eqB (ht : P.underlying t = some .bool) (ho : o.op = .binOp .eql t x y t') (hx : a.eval x = .bool p) (hy : a.eval y = .bool q) : Yv P o a w (.bool (p == q)) w := by
  simp only [Yv, execOp, ho, hx, hy]
  simp [go_sem, run_eqB ht]
theorem y_neB (ht : P.underlying t = some .bool) (ho : o.op = .binOp .neq t x y t') (hx : a.eval x = .bool p) (hy : a.eval y = .bool q) : Yv P o a w (.bool (!(p == q))) w := by
  simp only [Yv, execOp, ho, hx, hy]
  simp [go_sem, run_neB ht]
theorem y_not (ho : o.op = .unOp .not t x) (hx : a.eval x = .bool p) : Yv P o a w (.bool (!p)) w := by
  simp only [Yv, execOp, ho, hx]
  simp [go_sem]
end
section
variable {x y : Operand} {t t' : TypeId} {p q : List UInt8}
theorem y_eqS (ht : P.underlying t = some .string) (ho : o.op = .binOp .eql t x y t') (hx : a.eval x = Str p) (hy : a.eval y = Str q) : Yv P o a w (.bool (decide (p = q))) w := by
  have := run_underlying (P := P) ht
  simp only [Yv, execOp, ho, hx, hy]
  simp [go_sem, this]
  exact lbeq p q
theorem y_neS (ht : P.underlying t = some .string) (ho : o.op = .binOp .neq t x y t') (hx : a.eval x = Str p) (hy : a.eval y = Str q) : Yv P o a w (.bool (!decide (p = q))) w := by
  have := run_underlying (P := P) ht
  simp only [Yv, execOp, ho, hx, hy]
  simp [go_sem, this]
  exact lbeq p q
theorem y_lenS {ats : TypeId} (ht : P.underlying ats = some .string) (ho : o.op = .call { callee := .builtin .len, args := #[x], argTypes := #[ats] }) (hx : a.eval x = Str p) : Yv P o a w (.int .i64 p.length) w := by
  simp only [Yv, execOp, ho, resolve, invoke, List.map_toArray, List.map_cons, List.map_nil, hx]
  simp [go_sem, Builtin.len_, run_underlying ht, goInt]
theorem y_len {ats : TypeId} {A : Option Addr} {n c : Nat} {e : TypeId} (ht : P.underlying ats = some (.slice e)) (ho : o.op = .call { callee := .builtin .len, args := #[x], argTypes := #[ats] }) (hx : a.eval x = .slice A n c) : Yv P o a w (.int .i64 n) w := by
  simp only [Yv, execOp, ho, resolve, invoke, List.map_toArray, List.map_cons, List.map_nil, hx]
  simp [go_sem, Builtin.len_, run_underlying ht, goInt]
theorem y_indexS {i : Nat} {b : UInt8} (ht : P.underlying t = some .string) (ho : o.op = .index t x y) (hx : a.eval x = Str p) (hy : a.eval y = .int .i64 i) (hb : p[i]? = some b) : Yv P o a w (.int .u8 b.toNat) w := by
  simp only [Yv, execOp, ho, hx, hy]
  obtain ⟨h1, h2⟩ := List.getElem?_eq_some_iff.1 hb
  have e : (⟨⟨p⟩⟩ : ByteArray)[i]? = some b := by
    show (if h : i < _ then some _ else none) = _
    rw [dif_pos (show i < (⟨⟨p⟩⟩ : ByteArray).size from h1)]
    exact congrArg some h2
  simp [go_sem, Instr.index, run_underlying ht, e]
theorem y_conv {k k' : IntKind} {n : Int} (ht : P.underlying t = some (.int k)) (ht' : P.underlying t' = some (.int k')) (ho : o.op = .convert t t' x) (hx : a.eval x = .int k n) : Yv P o a w (.int k' (k'.wrap n)) w := by
  simp only [Yv, execOp, ho, hx]
  simp [go_sem, convert, run_underlying ht, run_underlying ht']
end
end
theorem w64_eq (n : Int) : IntKind.i64.wrap n = w64 n := by rw [IntKind.wrap_i64]; rfl
theorem u8_eq (n : Int) : IntKind.u8.wrap n = ((b8 n).toNat : Int) := by rw [b8_toNat, IntKind.wrap_u8]
section
variable {P : Program} {o : Oper} {a : Act} {w : World} {x y : Operand} {t t' : TypeId} {m n : Int}
theorem y_add64 (ho : o.op = .binOp .add t x y t') (hx : a.eval x = .int .i64 m) (hy : a.eval y = .int .i64 n) : Yv P o a w (.int .i64 (w64 (m + n))) w := by rw [← w64_eq]; exact y_add ho hx hy
theorem y_sub64 (ho : o.op = .binOp .sub t x y t') (hx : a.eval x = .int .i64 m) (hy : a.eval y = .int .i64 n) : Yv P o a w (.int .i64 (w64 (m - n))) w := by rw [← w64_eq]; exact y_sub ho hx hy
theorem y_mul64 (ho : o.op = .binOp .mul t x y t') (hx : a.eval x = .int .i64 m) (hy : a.eval y = .int .i64 n) : Yv P o a w (.int .i64 (w64 (m * n))) w := by rw [← w64_eq]; exact y_mul ho hx hy
theorem y_rem64 (ho : o.op = .binOp .rem t x y t') (hx : a.eval x = .int .i64 m) (hy : a.eval y = .int .i64 n) (h0 : (!decide (n = 0)) = true) : Yv P o a w (.int .i64 (m.tmod n)) w := by
  have h0 : n ≠ 0 := by simpa using h0
  simp only [Yv, execOp, ho, hx, hy]
  simp [go_sem, h0]
theorem y_quo64 (ho : o.op = .binOp .quo t x y t') (hx : a.eval x = .int .i64 m) (hy : a.eval y = .int .i64 n) (h0 : (!decide (n = 0)) = true) : Yv P o a w (.int .i64 (w64 (m.tdiv n))) w := by rw [← w64_eq]; exact y_quo ho hx hy (by simpa using h0)
theorem y_cI64 (ht : P.underlying t = some (.int .u8)) (ht' : P.underlying t' = some (.int .i64)) {b : UInt8} (ho : o.op = .convert t t' x) (hx : a.eval x = .int .u8 (b.toNat : Int)) : Yv P o a w (.int .i64 (b.toNat : Int)) w := by
  have h := y_conv (P := P) (w := w) ht ht' ho hx
  have hb := b.toNat_lt
  rw [w64_eq, show w64 (b.toNat : Int) = b.toNat by unfold w64; omega] at h
  exact h
theorem y_cSame64 (ht : P.underlying t = some (.int .i64)) (ht' : P.underlying t' = some (.int .i64)) (ho : o.op = .convert t t' x) (hx : a.eval x = .int .i64 m) : Yv P o a w (.int .i64 (w64 m)) w := by
  have h := y_conv (P := P) (w := w) ht ht' ho hx
  rwa [w64_eq] at h
theorem y_cU8 (ht : P.underlying t = some (.int .i64)) (ht' : P.underlying t' = some (.int .u8)) (ho : o.op = .convert t t' x) (hx : a.eval x = .int .i64 m) : Yv P o a w (.int .u8 ((b8 m).toNat : Int)) w := by
  have h := y_conv (P := P) (w := w) ht ht' ho hx
  rwa [u8_eq] at h
theorem ec (a : Act) (v : Value) : a.eval (.const v) = v := rfl
theorem y_extract {vs : List Value} {i : Nat} {v : Value} (ho : o.op = .extract x i) (hx : a.eval x = .tuple vs.toArray) (hv : vs[i]? = some v) : Yv P o a w v w := by
  simp only [Yv, execOp, ho, hx]
  simp [go_sem, Instr.extract, hv]
theorem y_nilCheck {p : Addr} (ho : o.op = .nilCheck x) (hx : a.eval x = .pointer (some p)) : Yv P o a w (.pointer (some p)) w := by
  simp only [Yv, execOp, ho, hx]
  rfl
end
end Gg
namespace Gg
open Go Go.RowKit Cin
theorem addr_add (b o n : Nat) : (⟨b, o, none⟩ : Addr).add n = ⟨b, o + n, none⟩ := by
  unfold Addr.add; split <;> simp_all
section
variable {P : Program} {o : Oper} {a : Act} {w : World} {x y : Operand} {t e s : TypeId}
theorem y_indexS' {i : Int} {b : UInt8} {p : List UInt8} (ht : P.underlying t = some .string) (ho : o.op = .index t x y) (hx : a.eval x = Str p) (hy : a.eval y = .int .i64 i) (hb : idx p i = some b) : Yv P o a w (.int .u8 b.toNat) w := by
  obtain ⟨h0, h1, h2⟩ := idx_some hb
  obtain ⟨n, rfl⟩ := Int.eq_ofNat_of_zero_le h0
  exact y_indexS ht ho hx hy (by simpa using h2)
theorem y_idx {A : Option Addr} {n c sz : Nat} {i : Int} (ht : P.underlying t = some (.slice e)) (hs : ∀ w, (Go.sizeOf e).run P w = .ok sz w)
    (ho : o.op = .indexAddr t x y) (hx : a.eval x = .slice A n c) (hy : a.eval y = .int .i64 i) (hA : A = some ⟨bO A, oO A, none⟩) (hi : 0 ≤ i ∧ i < n) :
    Yv P o a w (.pointer (some ⟨bO A, oO A + i.toNat * sz, none⟩)) w := by
  obtain ⟨h0, h1⟩ := hi
  obtain ⟨k, rfl⟩ := Int.eq_ofNat_of_zero_le h0
  have hlt : k < n := by omega
  rw [hA] at hx
  simp only [Yv, execOp, ho, hx, hy]
  simp [go_sem, Instr.indexAt, run_underlying ht, hlt, hs, addr_add]
theorem y_fld {fs : Array Field} {f : Field} {j b p sz : Nat} (ht : P.underlying s = some (.struct fs)) (hf : fs[j]? = some f) (hs : ∀ w, (Go.sizeOf f.type).run P w = .ok sz w) (h0 : Nat.beq sz 0 = false)
    (ho : o.op = .fieldAddr s x j) (hx : a.eval x = .pointer (some ⟨b, p, none⟩)) : Yv P o a w (.pointer (some ⟨b, p + f.offset, none⟩)) w := by
  have h0' : sz ≠ 0 := by intro e; subst e; simp at h0
  simp only [Yv, execOp, ho, hx]
  simp [go_sem, Instr.fieldAt, run_underlying ht, hf, fieldPlace, hs, h0', addr_add]
theorem y_load1 {b p : Nat} {v : Value} (hg : ∀ w, (isAgg t).run P w = .ok false w) (ho : o.op = .load t x) (hx : a.eval x = .pointer (some ⟨b, p, none⟩)) (hc : w.cell? ⟨b, p, none⟩ = some v) : Yv P o a w v w := by
  simp only [Yv, execOp, ho, hx]
  simp [go_sem, Instr.loadAt, loadVar, hg, hc]
theorem y_loadN {b p sz : Nat} {cs : List Value} (hg : ∀ w, (isAgg t).run P w = .ok true w) (hs : ∀ w, (Go.sizeOf t).run P w = .ok sz w) (hl : cs.length = sz) (ho : o.op = .load t x)
    (hx : a.eval x = .pointer (some ⟨b, p, none⟩)) (hc : Cells w ⟨b, p, none⟩ cs) : Yv P o a w (.agg cs.toArray) w := by
  have h := run_loadCells_list (P := P) w ⟨b, p, none⟩ cs (fun j u hj => by rw [addr_add]; exact hc j u hj)
  rw [hl] at h
  unfold loadCells at h
  simp only [Yv, execOp, ho, hx]
  simp [go_sem, Instr.loadAt, loadVar, hg, hs, h]
theorem y_box {v : Value} {cs : List Value} (hv : v.cells = cs.toArray) (ho : o.op = .box t x) (hx : a.eval x = v) : Yv P o a w (.pointer (some ⟨w.heap.size, 0, none⟩)) (w.alloc (.cells cs.toArray t)) := by
  have hv' := hv
  unfold Value.cells at hv'
  simp only [Yv, execOp, ho, hx]
  simp [go_sem, Instr.box, newVar, newRow, hv']
theorem y_alloc {z : Value} {cs : List Value} (hz : ∀ w, (zeroValue t).run P w = .ok z w) (hv : z.cells = cs.toArray) (ho : o.op = .alloc t) : Yv P o a w (.pointer (some ⟨w.heap.size, 0, none⟩)) (w.alloc (.cells cs.toArray t)) := by
  have hv' := hv
  unfold Value.cells at hv'
  simp only [Yv, execOp, ho]
  simp [go_sem, Instr.alloc, newVar, newRow, hz, hv']
end
def lay : List Value → Nat → List Value → List Value
  | l, 0, cs => cs ++ l.drop cs.length
  | [], _ + 1, _ => []
  | u :: l, n + 1, cs => u :: lay l n cs
theorem lay_eq : ∀ (l : List Value) (n : Nat) (cs : List Value), n + cs.length ≤ l.length → lay l n cs = l.take n ++ cs ++ l.drop (n + cs.length)
  | l, 0, cs, _ => by simp [lay]
  | [], n + 1, cs, h => by simp at h
  | u :: l, n + 1, cs, h => by
    have := lay_eq l n cs (by simp at h; omega)
    simp only [lay, this, List.take_succ_cons, List.cons_append]
    have e : n + 1 + cs.length = (n + cs.length) + 1 := by omega
    rw [e, List.drop_succ_cons]
section
variable {P : Program} {o : Oper} {a : Act} {w : World} {x y : Operand} {t e s : TypeId}
theorem y_store {g p sz : Nat} {tb : TypeId} {cs vs : List Value} {v : Value} (hv : v.cells = vs.toArray) (hs : ∀ w, (Go.sizeOf t).run P w = .ok sz w) (hl : Nat.beq vs.length sz = true) (h1 : vs.all (·.oneCell') = true)
    (hle : Nat.ble (p + vs.length) cs.length = true) (hb : (Ent.blk g tb cs).ok w) (ho : o.op = .store t x y) (hx : a.eval x = .pointer (some ⟨g, p, none⟩)) (hy : a.eval y = v) :
    ∃ w', Yu P o a w w' ∧ Ev [g] w w' ∧ (Ent.blk g tb (lay cs p vs)).ok w' := by
  have hb' : w.heap[g]? = some (.cells cs.toArray tb (0, 0)) := hb
  have hlen : vs.length = sz := Nat.eq_of_beq_eq_true hl
  have hle' : p + vs.length ≤ cs.length := Nat.le_of_ble_eq_true hle
  have h := run_storeCells_at P g p tb vs 0 cs.toArray w hb' (by simpa using hle') (fun u hu => List.all_eq_true.1 h1 u hu)
  simp only [Nat.add_zero] at h
  refine ⟨w.setRow g (lay cs p vs).toArray, ?_, ?_, ?_⟩
  · simp only [Yu, execOp, ho, hx, hy]
    rw [lay_eq _ _ _ hle']
    simp only [List.append_assoc, hlen] at h
    have hv' := hv
    unfold Value.cells at hv'
    simp [go_sem, Instr.storeAt, storeVar, hs, hv', hlen, h]
  · refine ⟨rfl, rfl, rfl, by simp [World.setRow], fun k _ hn => ?_⟩
    simp only [World.setRow, Array.getElem?_modify]
    rw [if_neg (by simpa [eq_comm] using hn)]
  · show (w.setRow g _).heap[g]? = _
    simp [World.setRow, Array.getElem?_modify, hb']
end
section
variable {P : Program} {o : Oper} {a : Act} {w : World} {x y : Operand} {t e : TypeId}
def evp (a : Act) : List (Nat × Operand) → List (Nat × Value) → Prop
  | [], [] => True
  | (i, x) :: xs, (j, v) :: vs => (a.eval x = v ∧ i = j) ∧ evp a xs vs
  | _, _ => False
theorem evp_map : ∀ {xs : List (Nat × Operand)} {vs : List (Nat × Value)}, evp a xs vs → xs.map (fun p => (p.1, a.eval p.2)) = vs
  | [], [], _ => rfl
  | (i, x) :: xs, (j, v) :: vs, h => by
    obtain ⟨⟨h1, rfl⟩, h2⟩ := h
    rw [List.map_cons, evp_map h2, h1]
def placesOf (P : Program) (t : TypeId) : Sem (Array (Nat × Nat)) := (match P.underlying t with | some (.struct fs) => fs | _ => #[]).mapM fun (f : Field) => do pure (f.offset, ← Go.sizeOf f.type)
theorem y_build {z : Value} {fs : Array Field} {pl : Array (Nat × Nat)} {xs : List (Nat × Operand)} {vs : List (Nat × Value)} {cs : List Value} (hz : ∀ w, (zeroValue t).run P w = .ok z w) (hu : P.underlying t = some (.struct fs))
    (hp : ∀ w, (placesOf P t).run P w = .ok pl w) (ho : o.op = .build t xs.toArray) (hx : evp a xs vs) (hfill : Instr.fill (fun i => pl[i]?) z.cells vs = some cs.toArray) : Yv P o a w (.agg cs.toArray) w := by
  have hp' := hp w
  simp only [placesOf, hu] at hp'
  have h1 := evp_map hx
  simp only [Yv, execOp, ho, Instr.build, Sem.run_bind, hz, Result.andThen_ok, run_underlying hu, hp', List.map_toArray]
  have e : (xs.map fun (i, x) => (i, a.eval x)) = vs := h1
  simp only [e, hfill]
  rfl
theorem y_buildSlice {z : Value} {sz n : Nat} {xs : List (Nat × Operand)} {vs : List (Nat × Value)} {cs : List Value} (hu : P.underlying t = some (.slice e)) (hs : ∀ w, (Go.sizeOf e).run P w = .ok sz w) (hz : ∀ w, (zeroValue e).run P w = .ok z w)
    (hle : Nat.ble (n * sz) 16777216 = true) (hne : Nat.beq (n * sz) 0 = false) (ho : o.op = .buildSlice t n xs.toArray) (hx : evp a xs vs)
    (hfill : Instr.fill (fun i => some (i * sz, sz)) ((Array.range (n * sz)).map (z.cells[· % z.cells.size]!)) vs = some cs.toArray) :
    Yv P o a w (.slice (some ⟨w.heap.size, 0, none⟩) n n) (w.alloc (.cells cs.toArray e)) := by
  have h1 := evp_map hx
  have e1 : (xs.map fun (i, x) => (i, a.eval x)) = vs := h1
  have h2 : ¬ (n * sz > 2 ^ 24) := by have := Nat.le_of_ble_eq_true hle; omega
  have h3 : n * sz ≠ 0 := by intro h0; rw [h0] at hne; simp at hne
  simp only [Yv, execOp, ho, Instr.buildSlice, Sem.run_bind, Sem.run_pure, hs, hz, Result.andThen_ok, run_underlying hu, List.map_toArray, e1, if_neg h2, if_neg h3, hfill]
  rfl
theorem y_or64 {t' : TypeId} {m n : Int} (ho : o.op = .binOp .or t x y t') (hx : a.eval x = .int .i64 m) (hy : a.eval y = .int .i64 n) : Yv P o a w (.int .i64 (orI m n)) w := by
  unfold orI
  rw [← w64_eq]
  simp only [Yv, execOp, ho, hx, hy]
  rfl
theorem y_and64 {t' : TypeId} {m n : Int} (ho : o.op = .binOp .and t x y t') (hx : a.eval x = .int .i64 m) (hy : a.eval y = .int .i64 n) : Yv P o a w (.int .i64 (andI m n)) w := by
  unfold andI
  rw [← w64_eq]
  simp only [Yv, execOp, ho, hx, hy]
  rfl
theorem y_shl64 {t' : TypeId} {k : IntKind} {m : Int} {n : Nat} (hn : Nat.ble n 64 = true) (ho : o.op = .binOp .shl t x y t') (hx : a.eval x = .int .i64 m) (hy : a.eval y = .int k (n : Int)) : Yv P o a w (.int .i64 (shlI m n)) w := by
  have hle := Nat.le_of_ble_eq_true hn
  unfold shlI
  rw [← w64_eq]
  simp only [Yv, execOp, ho, hx, hy]
  simp [go_sem, hle]
theorem y_shr64 {t' : TypeId} {k : IntKind} {m : Int} {n : Nat} (hn : Nat.ble n 64 = true) (ho : o.op = .binOp .shr t x y t') (hx : a.eval x = .int .i64 m) (hy : a.eval y = .int k (n : Int)) : Yv P o a w (.int .i64 (shrI m n)) w := by
  have hle := Nat.le_of_ble_eq_true hn
  unfold shrI
  simp only [Yv, execOp, ho, hx, hy]
  simp [go_sem, hle]
end
end Gg
namespace Gg
open Go Go.RowKit Cin
section
variable {P : Program} {ops : Array Oper} {Q : Exit → Act → World → Prop} {a : Act} {w w' : World} {rest : List Oper} {o : Oper} {n : FrN} {d : Nat} {l : List (Nat × Value)} {v : Value}
theorem wN (hg : o.guard = none) : Region.wanted o (yielded ops a.tmps) = true := by simp [Region.wanted, hg]
theorem sv (hw : Region.wanted o (yielded ops a.tmps) = true) (hy : Yv P o a w v w') (hf : Fr n l a) (hd : o.dst = some d) (hn : Nat.blt d n = true) (k : ∀ a', Fr n ((d, v) :: l) a' → wpList P ops Q rest a' w') : wpList P ops Q (o :: rest) a w := by
  refine wpList_step fun K hK => ?_
  rw [if_pos hw]
  unfold Oper.wp
  rw [show (execOp a.eval o).run P w = _ from hy]
  show K (a.put o.dst v) w'
  rw [hd]
  exact hK _ _ (k _ (hf.put hn))
theorem su (hw : Region.wanted o (yielded ops a.tmps) = true) (hy : Yu P o a w w') (hd : o.dst = none) (k : wpList P ops Q rest a w') : wpList P ops Q (o :: rest) a w := by
  refine wpList_step fun K hK => ?_
  rw [if_pos hw]
  unfold Oper.wp
  rw [show (execOp a.eval o).run P w = _ from hy]
  show K (a.put o.dst undef) w'
  rw [hd]
  exact hK _ _ k
theorem wantT {j dj : Nat} {b : Bool} (hf : Fr n l a) (hg : o.guard = some (j, b)) (hj : (ops[j]?).bind (·.dst) = some dj) (hl : lk l dj = some (.bool b)) (hn : Nat.blt dj n = true) : Region.wanted o (yielded ops a.tmps) = true := by
  have hlt : dj < n := Nat.le_of_ble_eq_true hn
  have h := hf.get dj _ hl
  have hs := hf.size
  have h2 : a.tmps[dj]? = some (.bool b) := by
    rw [Array.getElem?_eq_getElem (by omega)]
    simpa [Array.getD_eq_getD_getElem?, hs, hlt] using h
  simp [Region.wanted, hg, yielded, hj, h2]
theorem wantF {j dj : Nat} {b b' : Bool} (hf : Fr n l a) (hg : o.guard = some (j, b)) (hj : (ops[j]?).bind (·.dst) = some dj) (hl : lk l dj = some (.bool b')) (hne : (b' == b) = false) (hn : Nat.blt dj n = true) : Region.wanted o (yielded ops a.tmps) = false := by
  have hlt : dj < n := Nat.le_of_ble_eq_true hn
  have h := hf.get dj _ hl
  have hs := hf.size
  have h2 : a.tmps[dj]? = some (.bool b') := by
    rw [Array.getElem?_eq_getElem (by omega)]
    simpa [Array.getD_eq_getD_getElem?, hs, hlt] using h
  simpa [Region.wanted, hg, yielded, hj, h2] using hne
theorem wantU {j dj : Nat} {b : Bool} (hf : Fr n l a) (hg : o.guard = some (j, b)) (hj : (ops[j]?).bind (·.dst) = some dj) (hl : lk l dj = some undef) (hn : Nat.blt dj n = true) : Region.wanted o (yielded ops a.tmps) = false := by
  have hlt : dj < n := Nat.le_of_ble_eq_true hn
  have h := hf.get dj _ hl
  have hs := hf.size
  have h2 : a.tmps[dj]? = some undef := by
    rw [Array.getElem?_eq_getElem (by omega)]
    simpa [Array.getD_eq_getD_getElem?, hs, hlt] using h
  simp [Region.wanted, hg, yielded, hj, h2, undef]
def evs (a : Act) : List Operand → List Value → Prop
  | [], [] => True
  | x :: xs, v :: vs => a.eval x = v ∧ evs a xs vs
  | _, _ => False
theorem evs_map : ∀ {xs : List Operand} {vs : List Value}, evs a xs vs → xs.map a.eval = vs
  | [], [], _ => rfl
  | x :: xs, v :: vs, h => by rw [List.map_cons, h.1, evs_map h.2]
theorem wp_call {f : FuncId} {xs : List Operand} {ats : Array TypeId} {vs : List Value} {R : Ending → World → Prop} {K : Act → World → Prop}
    (ho : o.op = .call { callee := .value (.func f), args := xs.toArray, argTypes := ats }) (hcf : ∀ args w, (callFunc f args).run P w = .ok (.enter f args) w)
    (hxs : evs a xs vs) (hc : Calls P f vs.toArray w R) (k : ∀ e w', R e w' → ∃ v, e = .returned v ∧ K (a.put o.dst v) w') : o.wp P a w K Q := by
  unfold Oper.wp
  have e : (execOp a.eval o).run P w = .ok (.enter f vs.toArray) w := by
    have h1 := evs_map hxs
    simp only [execOp, ho, resolve, List.map_toArray, h1]
    simp [go_sem, Act.eval, Deferred.ofValue, invoke, hcf]
  rw [e]
  exact hc.mono fun e w' hr => by
    obtain ⟨v, rfl, hk⟩ := k e w' hr
    exact hk
theorem sc {f : FuncId} {xs : List Operand} {ats : Array TypeId} {vs : List Value} {R : Ending → World → Prop} (hw : Region.wanted o (yielded ops a.tmps) = true)
    (ho : o.op = .call { callee := .value (.func f), args := xs.toArray, argTypes := ats }) (hcf : ∀ args w, (callFunc f args).run P w = .ok (.enter f args) w)
    (hxs : evs a xs vs) (hc : Calls P f vs.toArray w R) (hf : Fr n l a) (hd : o.dst = some d) (hn : Nat.blt d n = true)
    (k : ∀ e w', R e w' → ∃ v, e = .returned v ∧ ∀ a', Fr n ((d, v) :: l) a' → wpList P ops Q rest a' w') : wpList P ops Q (o :: rest) a w := by
  refine wpList_step fun K hK => ?_
  rw [if_pos hw]
  refine wp_call ho hcf hxs hc fun e w' hr => ?_
  obtain ⟨v, he, hk⟩ := k e w' hr
  rw [hd]
  exact ⟨v, he, hK _ _ (hk _ (hf.put hn))⟩
end
section
variable {P : Program} {Q : Exit → Act → World → Prop} {a : Act} {w : World}
theorem c_loop {c : Code} (I : Nat → Act → World → Prop) (k : Nat) (h : I k a w) (h0 : ∀ a w, ¬ I 0 a w)
    (round : ∀ k a w, I (k + 1) a w → ∀ K : Act → World → Prop, (∀ a w, I k a w → K a w) → c.wp P (Exit.then K Q) a w) : (Code.loop c).wp P Q a w :=
  wp_loop_ghost I k h fun m a w hI => by
    cases m with
    | zero => exact absurd hI (h0 a w)
    | succ m => exact round m a w hI _ fun a' w' h' => ⟨m, Nat.lt_succ_self m, h'⟩
theorem c_meet {x y : Code} (J : Act → World → Prop) (hx : ∀ K : Act → World → Prop, (∀ a w, J a w → K a w) → x.wp P (Exit.then K Q) a w) (hy : ∀ a w, J a w → y.wp P Q a w) : (Code.seq x y).wp P Q a w :=
  wp_seq (hx _ hy)
theorem r_none {fn : Func} {R : Ending → World → Prop} {n : Nat} {l : List (Nat × Value)} (hr : fn.results = #[]) (hf : Fr ⟨n, []⟩ l a) (h : R (.returned (.tuple #[])) w) : bodyPost P fn R .ret a w :=
  ⟨hf.defers, _, results_none hr _ _ _, h⟩
theorem r_one {fn : Func} {R : Ending → World → Prop} {n : Nat} {t : Nat} {l : List (Nat × Value)} {v : Value} (hr : fn.results = #[.tmp t]) (hf : Fr ⟨n, []⟩ l a) (hl : lk l t = some v) (h : R (.returned v) w) : bodyPost P fn R .ret a w :=
  ⟨hf.defers, _, results_tmp hr _ _ _, by rw [hf.get _ _ hl]; exact h⟩
theorem r_two {fn : Func} {R : Ending → World → Prop} {n : Nat} {t u : Nat} {l : List (Nat × Value)} {v v' : Value} (hr : fn.results = #[.tmp t, .tmp u]) (hf : Fr ⟨n, []⟩ l a) (hl : lk l t = some v) (hl' : lk l u = some v')
    (h : R (.returned (.tuple #[v, v'])) w) : bodyPost P fn R .ret a w :=
  ⟨hf.defers, _, results_tmp2 hr _ _ _, by rw [hf.get _ _ hl, hf.get _ _ hl']; exact h⟩
def resVal (P : Program) (a : Act) (w : World) : ResultVar → Value → Prop
  | .tmp t, v => a.tmps.getD t undef = v
  | .cell ad ty, v => ∃ b p, a.tmps.getD ad undef = .pointer (some ⟨b, p, none⟩) ∧
      ((∃ cs : List Value, (∀ w, (isAgg ty).run P w = .ok true w) ∧ (∀ w, (Go.sizeOf ty).run P w = .ok cs.length w) ∧ Cells w ⟨b, p, none⟩ cs ∧ v = .agg cs.toArray) ∨
       ((∀ w, (isAgg ty).run P w = .ok false w) ∧ w.cell? ⟨b, p, none⟩ = some v))
def resVals (P : Program) (a : Act) (w : World) : List ResultVar → List Value → Prop
  | [], [] => True
  | r :: rs, v :: vs => resVal P a w r v ∧ resVals P a w rs vs
  | _, _ => False
def pack : List Value → Value
  | [v] => v
  | vs => .tuple vs.toArray
def resOf (a : Act) : ResultVar → Sem Value
  | .tmp t => pure (a.tmps.getD t undef)
  | .cell ad t => do loadVar t (← asAddr (a.tmps.getD ad undef))
theorem run_res {r : ResultVar} {v : Value} (h : resVal P a w r v) : (resOf a r).run P w = .ok v w := by
  cases r with
  | tmp t => exact congrArg (fun x => Result.ok x w) h
  | cell ad ty =>
    obtain ⟨b, p, h1, h2⟩ := h
    simp only [resOf, h1]
    rcases h2 with ⟨cs, hg, hs, hc, rfl⟩ | ⟨hg, hc⟩
    · have hl := run_loadCells_list (P := P) w ⟨b, p, none⟩ cs (fun j u hj => by rw [addr_add]; exact hc j u hj)
      unfold loadCells at hl
      simp [go_sem, loadVar, asAddr, hg, hs, hl]
    · simp [go_sem, loadVar, asAddr, hg, hc]
theorem run_ress : ∀ {rs : List ResultVar} {vs : List Value}, resVals P a w rs vs → (rs.mapM (resOf a)).run P w = .ok vs w
  | [], [], _ => rfl
  | r :: rs, v :: vs, h => by
    have h1 := run_res h.1
    have h2 := run_ress h.2
    rw [List.mapM_cons]
    simp only [Sem.run_bind, h1, h2, Result.andThen_ok]
    rfl
theorem r_any {fn : Func} {R : Ending → World → Prop} {n : Nat} {l : List (Nat × Value)} {rs : List ResultVar} {vs : List Value} (hr : fn.results = rs.toArray) (hf : Fr ⟨n, []⟩ l a) (hv : resVals P a w rs vs)
    (h : R (.returned (pack vs)) w) : bodyPost P fn R .ret a w := by
  refine ⟨hf.defers, pack vs, ?_, h⟩
  have h1 := run_ress hv
  unfold results
  have e : (fun x => match x with | .tmp t => pure (a.tmps.getD t undef) | .cell ad t => do loadVar t (← asAddr (a.tmps.getD ad undef)) : ResultVar → Sem Value) = resOf a := by
    funext x; cases x <;> rfl
  rw [hr, List.mapM_toArray]
  simp only [Sem.run_bind]
  show Result.andThen (((List.toArray <$> rs.mapM (fun x => match x with | .tmp t => pure (a.tmps.getD t undef) | .cell ad t => do loadVar t (← asAddr (a.tmps.getD ad undef)) : ResultVar → Sem Value))).run P w) _ = _
  rw [e, map_eq_pure_bind, Sem.run_bind, h1]
  match vs with
  | [] => rfl
  | [v] => rfl
  | v :: u :: r => rfl
end
section
variable {P : Program} {ops : Array Oper} {Q : Exit → Act → World → Prop} {a : Act} {w : World} {rest : List Oper} {o : Oper} {n : FrN} {d : Nat} {l : List (Nat × Value)}
  {W : World} {M0 X : List Nat} {E : List Ent} {D : List Dt}
theorem St.new (hm : St W M0 X w E D) (t : TypeId) (cs : List Value) : St W M0 X (w.alloc (.cells cs.toArray t)) (Ent.blk w.heap.size t cs :: E) D :=
  hm.push _ (Ev.alloc _ _ _) (blk_new w t cs) (fun k hk => by simp [Ent.blk] at hk; subst hk; exact ⟨Nat.le_refl _, by simp⟩) (by simp [Ent.blk])
theorem sst {g p sz : Nat} {t tb : TypeId} {x y : Operand} {cs vs : List Value} {v : Value} (i : Nat) (hm : St W M0 X w E D) (hi : E[i]? = some (Ent.blk g tb cs)) (hw : Region.wanted o (yielded ops a.tmps) = true)
    (hv : v.cells = vs.toArray) (hs : ∀ w, (Go.sizeOf t).run P w = .ok sz w) (hl : Nat.beq vs.length sz = true) (h1 : vs.all (·.oneCell') = true) (hle : Nat.ble (p + vs.length) cs.length = true)
    (ho : o.op = .store t x y) (hx : a.eval x = .pointer (some ⟨g, p, none⟩)) (hy : a.eval y = v) (hd : o.dst = none)
    (k : ∀ w', St W M0 X w' (E.set i (Ent.blk g tb (lay cs p vs))) D → wpList P ops Q rest a w') : wpList P ops Q (o :: rest) a w := by
  obtain ⟨w', h1, h2, h3⟩ := y_store hv hs hl h1 hle (hm.e i hi) ho hx hy
  exact su hw h1 hd (k w' (hm.turnI i hi h2 h3 (by simp [Ent.blk]) (fun k hk => .inl hk)))
theorem St.nilRow {α : Type} (hm : St W M0 X w E D) (e : TypeId) (size : Nat) : St W M0 X w (Ent.row e size (.slice none 0 0) ([] : List α) [] :: E) D :=
  hm.push _ (Ev.refl _ _) (World.ownsRow_nil w 0 e size) (fun k hk => by simp [Ent.row, Value.ownBlock] at hk) (by simp [Ent.row, Value.ownBlock])
theorem opt_nodup (o : Option Nat) : o.toList.Nodup := by cases o <;> simp
theorem info_p {e : TypeId} {z : Value} {sz bytes : Nat} (h : (P.info? e).map (fun i => (i.zero, i.size, i.bytes)) = some (some z, sz, bytes)) : ∃ i, P.info? e = some i ∧ i.zero = some z ∧ i.size = sz ∧ i.bytes = bytes := by
  cases hi : P.info? e with
  | none => rw [hi] at h; cases h
  | some i =>
    rw [hi] at h
    simp only [Option.map_some, Option.some.injEq, Prod.mk.injEq] at h
    exact ⟨i, rfl, h.1, h.2.1, h.2.2⟩
end
end Gg
namespace Gg
open Go Go.RowKit Cin
section
variable {P : Program} {ops : Array Oper} {C : World → Prop} {Qq : Act → Prop} {a : Act} {w : World} {rest : List Oper} {o : Oper} {n : FrN} {d : Nat} {l : List (Nat × Value)} {v : Value}
theorem qv (hw : Region.wanted o (yielded ops a.tmps) = true) (hy : ∀ w, C w → Yv P o a w v w) (hf : Fr n l a) (hd : o.dst = some d) (hn : Nat.blt d n = true) (k : ∀ a', Fr n ((d, v) :: l) a' → wpQuiet P ops C Qq rest a') : wpQuiet P ops C Qq (o :: rest) a := by
  unfold wpQuiet
  rw [if_pos hw]
  refine ⟨v, fun w hc => ?_, ?_⟩
  · unfold Oper.quietAt
    rw [show (execOp a.eval o).run P w = _ from hy w hc]
    exact ⟨rfl, rfl⟩
  · rw [hd]; exact k _ (hf.put hn)
theorem c_quiet {id : Nat} {Q : Exit → Act → World → Prop} {l : List Oper} (hm : P.follows .mixedOrders = true) (hB : Region.lexB .any l.toArray = true)
    (h : wpQuiet P l.toArray (fun w' => Ev [] w w') (fun a => ∀ w', Ev [] w w' → Q .normal a w') l a) : (Code.region id l.toArray true).wp P Q a w :=
  wp_region_quiet (C := fun w' => Ev [] w w') hm hB (Ev.drew [] w) (by
    refine Eq.mp ?_ h
    rw [List.toList_toArray]) |> fun h => wp_mono h (fun e a w q => q)
end
theorem ev_cell {w w' : World} {p : Addr} {v : Value} (h : Ev [] w w') (hc : w.cell? p = some v) : w'.cell? p = some v :=
  (World.cell?_of_block (h.block p.block (World.block_lt_of_cell? w p hc) (by simp))).trans hc
theorem ev_cells {w w' : World} {p : Addr} {cs : List Value} (h : Ev [] w w') (hc : Cells w p cs) : Cells w' p cs := fun j u hj => ev_cell h (hc j u hj)
section
variable {P : Program} {Q : Exit → Act → World → Prop} {K : Act → World → Prop} {a : Act} {w : World}
theorem x_then {i : Nat} (h : Q (.exit i) a w) : Exit.then K Q (.exit i) a w := h
theorem x_hit {i : Nat} (h : Q .normal a w) : Exit.inBlock i Q (.exit i) a w := by simpa [Exit.inBlock] using h
theorem x_retT (h : Q .ret a w) : Exit.then K Q .ret a w := h
theorem x_retB {i : Nat} (h : Q .ret a w) : Exit.inBlock i Q .ret a w := h
theorem c_blockJ {id : Nat} {c : Code} (J : Act → World → Prop) (hx : ∀ K : Act → World → Prop, (∀ a w, J a w → K a w) → c.wp P (Exit.inBlock id (Exit.then K Q)) a w) (hy : ∀ a w, J a w → Q .normal a w) : (Code.block id c).wp P Q a w := by
  refine wp_block (wp_mono (hx _ hy) ?_)
  intro e a w h
  cases e with
  | exit i =>
    by_cases hi : i = id
    · simpa [Exit.inBlock, Exit.then, hi] using h
    · simpa [Exit.inBlock, Exit.then, hi] using h
  | _ => exact h
theorem c_region {id : Nat} {l : List Oper} (h : wpList P l.toArray Q l a w) : (Code.region id l.toArray false).wp P Q a w := wp_region_lit h
theorem c_condT {c : Operand} {x y : Code} {b : Bool} (hc : a.eval c = .bool b) (hb : b = true) (h : x.wp P Q a w) : (Code.cond c x y).wp P Q a w := wp_cond_true (by rw [hc, hb]) h
theorem c_condF {c : Operand} {x y : Code} {b : Bool} (hc : a.eval c = .bool b) (hb : b = false) (h : y.wp P Q a w) : (Code.cond c x y).wp P Q a w := wp_cond_false (by rw [hc, hb]) h
end
section
variable {W w : World} {M0 X : List Nat} {E : List Ent} {D : List Dt}
def pk (D : List Dt) : List Dt → Prop
  | [] => True
  | y :: r => (∃ i : Nat, D[i]? = some y) ∧ pk D r
theorem pk_mem {D : List Dt} : ∀ {D' : List Dt}, pk D D' → ∀ y ∈ D', y ∈ D
  | [], _, y, hy => by simp at hy
  | z :: r, h, y, hy => by
    rcases List.mem_cons.1 hy with rfl | e
    · obtain ⟨i, hi⟩ := h.1; exact List.mem_of_getElem? hi
    · exact pk_mem h.2 y e
theorem St.pick (h : St W M0 X w E D) {D' : List Dt} (hs : pk D D') : St W M0 X w E D' := h.less (pk_mem hs)
theorem St.eraseE (h : St W M0 X w E D) (i : Nat) : St W M0 X w (E.eraseIdx i) D := h.drop (List.eraseIdx_sublist E i)
theorem St.freeze {α : Type} {T : Ty α} {e : TypeId} {A : Option Addr} {n c : Nat} {l : List α} {xs : List Value} (h : St W M0 X w E D) (i j : Nat) (hi : E[i]? = some (Ent.row e T.size (.slice A n c) l xs)) (hj : D[j]? = some (Dt.rows T xs l)) :
    St W M0 X w (E.eraseIdx i) (Dt.of (tySlice T) [.slice A n c] l :: D) := by
  have h1 := h.eraseE i
  refine h1.more (row_data (h.e i hi) (h1.d j hj) ?_)
  intro k hk hk'
  rcases List.mem_append.1 hk' with e1 | e1
  · have hlt := h.ltX k e1
    rcases (h.lt k (List.mem_flatMap.2 ⟨_, List.mem_of_getElem? hi, hk⟩)).2 with e2 | e2
    · exact hlt.2 e2
    · omega
  · obtain ⟨hl, hx⟩ := List.getElem?_eq_some_iff.1 hi
    have hE : E = E.take i ++ E[i] :: E.drop (i + 1) := by simp
    have hd := h.dj
    rw [hE, hx] at hd
    have e2 : foots (E.take i ++ Ent.row e T.size (.slice A n c) l xs :: E.drop (i + 1)) = foots (E.take i) ++ ((Ent.row e T.size (.slice A n c) l xs).foot ++ foots (E.drop (i + 1))) := by simp [foots]
    rw [e2, List.nodup_append, List.nodup_append] at hd
    rw [List.eraseIdx_eq_take_drop_succ] at e1
    rcases List.mem_append.1 (by simpa [foots] using e1 : k ∈ foots (E.take i) ++ foots (E.drop (i + 1))) with e3 | e3
    · exact hd.2.2 k e3 k (List.mem_append.2 (.inl hk)) rfl
    · exact hd.2.1.2.2 k hk k e3 rfl
theorem St.freezeB {g : Nat} {t : TypeId} {cs : List Value} (h : St W M0 X w E D) (i : Nat) (hi : E[i]? = some (Ent.blk g t cs)) : St W M0 X w (E.eraseIdx i) (Dt.glob g cs :: D) := by
  have h1 := h.eraseE i
  refine h1.more ⟨?_, blk_lt (h.e i hi), fun j u hj => ?_⟩
  · intro hk'
    have hk : g ∈ (Ent.blk g t cs).foot := by simp [Ent.blk]
    rcases List.mem_append.1 hk' with e1 | e1
    · have hlt := h.ltX g e1
      rcases (h.lt g (List.mem_flatMap.2 ⟨_, List.mem_of_getElem? hi, hk⟩)).2 with e2 | e2
      · exact hlt.2 e2
      · omega
    · obtain ⟨hl, hx⟩ := List.getElem?_eq_some_iff.1 hi
      have hE : E = E.take i ++ E[i] :: E.drop (i + 1) := by simp
      have hd := h.dj
      rw [hE, hx] at hd
      have e2 : foots (E.take i ++ Ent.blk g t cs :: E.drop (i + 1)) = foots (E.take i) ++ ((Ent.blk g t cs).foot ++ foots (E.drop (i + 1))) := by simp [foots]
      rw [e2, List.nodup_append, List.nodup_append] at hd
      rw [List.eraseIdx_eq_take_drop_succ] at e1
      rcases List.mem_append.1 (by simpa [foots] using e1 : g ∈ foots (E.take i) ++ foots (E.drop (i + 1))) with e3 | e3
      · exact hd.2.2 g e3 g (List.mem_append.2 (.inl hk)) rfl
      · exact hd.2.1.2.2 g hk g e3 rfl
  · have := blk_cell (h.e i hi) hj
    simpa using this
end
end Gg
namespace Gg
open Go Go.RowKit Cin
def mkL (n : Nat) : List Nat → Array Bool
  | [] => Array.replicate n false
  | i :: d => (mkL n d).setIfInBounds i true
def QN (K : Act → World → Prop) (Q : Exit → Act → World → Prop) : Exit → Act → World → Prop
  | .normal, a, w => K a w
  | e, a, w => Q e a w
section
variable {P : Program} {ops : Array Oper} {Q : Exit → Act → World → Prop} {a : Act} {w : World} {o : Oper} {n : FrN} {f d i : Nat} {ds : List Nat} {l : List (Nat × Value)} {v : Value}
def takes (ops : Array Oper) (ds : List Nat) (i : Nat) : Bool := Region.noSelect ops && Region.free .any ops (mkL ops.size ds) i && (Region.ready .any ops (mkL ops.size ds)).contains i
theorem wp_QN {K : Act → World → Prop} {Q : Exit → Act → World → Prop} (h : o.wp P a w K (QN K Q)) : o.wp P a w K Q := by
  unfold Oper.wp at *
  generalize (execOp a.eval o).run P w = r at *
  cases r with
  | ok n w' =>
    cases n <;> simp only [Oper.upon] at h ⊢ <;>
      first
        | exact h
        | exact Calls.mono h (fun e w'' he => by cases e <;> first | exact he | exact he)
  | halt x w' => cases x <;> simp only [Oper.upon] at h ⊢ <;> exact h
theorem wpOp_of_list {K : Act → World → Prop} (hi : ops[i]? = some o) (h : wpList P ops (QN K (NoPanic Q)) [o] a w) : wpOp P ops (NoPanic Q) i K a w := by
  unfold wpOp
  simp only [hi]
  unfold wpList at h
  split at h
  · rename_i hw
    rw [if_pos hw]
    rcases h with h | ⟨h1, h2⟩
    · exact .inl (wp_QN h)
    · exact .inr ⟨h1, h2.elim fun a h => h.elim fun w h => ⟨a, w, h⟩⟩
  · rename_i hw
    rw [if_neg hw]
    exact h
end
section
variable {P : Program} {o : Oper} {a : Act} {w : World} {t t' : TypeId} {x y : Operand} {fs : Array Field} {xs ys : Array Value} {b : Bool}
theorem y_neF (ht : P.underlying t = some (.struct fs)) (hp : P.stoodInHeld t = false) (hm : P.eqGuardType P.depth t = false)
    (hr : (Op.eqFields 9999 xs ys fs.toList).run P w = .ok b w) (ho : o.op = .binOp .neq t x y t') (hx : a.eval x = .agg xs) (hy : a.eval y = .agg ys) : Yv P o a w (.bool (!b)) w := by
  have hf : P.fieldsOf t = fs := by simp [Program.fieldsOf, ht]
  have h := run_equalIn_struct (P := P) w 9999 t xs ys (by rw [hf]; exact ht) hp
  rw [hf, hr] at h
  have h : (Op.equalIn 10000 t (Value.agg xs) (Value.agg ys)).run P w = .ok b w := h
  simp only [Yv, execOp, ho, hx, hy]
  simp [go_sem, Op.equal, Op.maxDepth, h, run_eqGuard_agg w _ _ _ _ _ _ hm]
theorem eqF_nil {d : Nat} : (Op.eqFields d xs ys []).run P w = .ok true w := rfl
theorem eqF_int {d : Nat} {f : Field} {l : List Field} {k : IntKind} {m n : Int} {e : Prop} [Decidable e] (hn : (f.name != "_") = true) (hu : P.underlying f.type = some (.int k)) (hg : ∀ w, (isAgg f.type).run P w = .ok false w)
    (hx : xs[f.offset]? = some (.int k m)) (hy : ys[f.offset]? = some (.int k n)) (h : (Op.eqFields (d + 1) xs ys l).run P w = .ok (decide e) w) : (Op.eqFields (d + 1) xs ys (f :: l)).run P w = .ok (decide (m = n ∧ e)) w := by
  have hn' : f.name ≠ "_" := by simpa using hn
  simp only [Op.eqFields, hn', if_true, ne_eq, not_false_iff, part, Sem.run_bind, hg, Result.andThen_ok, hx, hy, Bool.false_eq_true, if_false, Sem.run_pure, run_equalIn_int w d f.type k k m n hu]
  by_cases hmn : m = n
  · subst hmn; simp [h]
  · simp [hmn, show (m == n) = false from by simpa using hmn]
end
end Gg
namespace Gg
open Go Go.RowKit Go.ChangeShapes Go.WideShapes Go.Deep Cin
section
variable {H : Type} {enc : TypeId × Value → H} {P : Program}
theorem carry_all (hl : laidOutB P = true) {W W' : World} {sp : Nat → Bool} : ∀ {ts : List TypeId} {vs : List Value} {ds : List (DataW H)} {ps : List MemPlace}, DataW.TrodAll enc P W 0 (fun _ => true) true ts vs ds ps →
    (ts.all fun t => P.readableRec t && Nat.blt t P.types.size) = true → (∀ p ∈ ps, W.sameAt W' p) → (∀ p ∈ ps, sp p.block = true) → DataW.TrodAll enc P W' 0 sp true ts vs ds ps
  | [], vs, ds, ps, h, _, _, _ => by obtain ⟨rfl, rfl, rfl⟩ := trodAll_nil h; exact trodAll_mk0
  | t :: ts, vs, ds, ps, h, hr, hs, hp => by
    obtain ⟨v, vs', d, ds', p, q, rfl, rfl, rfl, h0, h1⟩ := trodAll_cons h
    simp only [List.all_cons, Bool.and_eq_true] at hr
    exact trodAll_cons_mk (WideElems.Trod_stays hl hr.1.1 (Nat.le_of_ble_eq_true hr.1.2) h0 (fun x hx => hs x (List.mem_append_left _ hx)) (fun x hx => hp x (List.mem_append_left _ hx)))
      (carry_all hl h1 hr.2 (fun x hx => hs x (List.mem_append_right _ hx)) (fun x hx => hp x (List.mem_append_right _ hx)))
theorem post_true {f : Func} {s : ChangeSpec} {W W' : World} {args : Array Value} {ds gs : List (DataW H)} {before : List MemPlace} {tb : TypeId}
    (hW : DataW.Whole enc P f.params.toList s.vars false W args.toList ds gs before) (hl : laidOutB P = true) (hr : (f.params.toList.all fun t => P.readableRec t && Nat.blt t P.types.size) = true)
    (hv : s.vars = []) (hfn : s.fn H ds = { results := [.lit (.bool true)], args := ds }) (hb : P.underlying tb = some .bool) (hres : f.resultTypes = #[tb]) (hev : Ev [] W W') :
    s.post enc P f false true false false W args (.bool true) W' := by
  have hbw := hev.below
  have hlt : ∀ p ∈ before, p.block < W.heap.size := fun p hp => hW.lt p hp
  have hW0 := hW
  obtain ⟨p, q, hA, hV, hpq, hz, hn⟩ := hW
  rw [hv] at hV
  obtain ⟨rfl, rfl⟩ := trodVars_none hV
  simp only [List.append_nil] at hpq
  subst hpq
  have hold : ∀ x ∈ before, (fun b => decide (b < W.heap.size)) x.block = true := fun x hx => by simpa using hlt x hx
  have hargs : ∀ sp : Nat → Bool, (∀ x ∈ before, sp x.block = true) → DataW.TrodAll enc P W' 0 sp true f.params.toList args.toList ds before :=
    fun sp hsp => carry_all hl hA hr (fun x hx => hbw.same (hlt x hx)) hsp
  have hrs : ∀ (b : Nat) (sp : Nat → Bool) (hd : Bool), DataW.TrodAll enc P W' b sp hd f.resultTypes.toList ((Value.bool true).resultList f.resultTypes.size) [.lit (.bool true)] [] := fun b sp hd => by
    rw [hres]; exact trodAll_cons_mk (p := []) (shut_bool hb true) trodAll_mk0
  have hvs : ∀ sp : Nat → Bool, DataW.TrodVars enc P W' sp s.vars [] [] := fun sp => by rw [hv]; rfl
  refine ⟨ds, [], before, [], before, [], hW0, ?_, ?_, ?_, World.keptBut_mono (fun x hx => ⟨hx, Or.inr (by simpa using hx)⟩) (hbw.frame (· ∈ before)), fun _ => ?_⟩
  · simp only [List.append_nil, hfn]; exact hrs _ _ _
  · simp only [List.append_nil, hfn]; exact hargs _ hold
  · simp only [List.append_nil, hfn]; exact hvs _
  · refine ⟨ok_one hres rfl (okWide_bool_mk hb true), _, _, ([] ++ before) ++ [], ⟨[] ++ before, [], trodAll_append (hargs (fun _ => true) (fun _ _ => rfl)) (hrs _ _ _), hvs _, rfl, ?_, ?_⟩, ?_⟩
    · intro b off hp
      have hin : MemPlace.cell b off ∈ before := by simpa using hp
      rw [hbw.frozen (hlt _ hin)]
      exact hz b off hin
    · intro ha; simpa using hn ha
    · intro x hx _; simpa using hx
theorem arg_str {W : World} {r : Reach} {b0 : Nat} {sp : Nat → Bool} {hd : Bool} {t : TypeId} {v : Value} {d : DataW H} {ps : List MemPlace} (ht : P.underlying t = some .string) (hval : Value.okWide P W r b0 t v) (h : DataW.Trod enc P W 0 sp hd t v d ps) :
    ∃ l : List UInt8, v = Str l ∧ l.length ≤ maxLen := by
  obtain ⟨s, rfl, _, _, hs⟩ := Go.ChangeMaps.open_string ht hval h
  exact ⟨s.data.toList, rfl, by simpa using hs⟩
theorem arg_str_wt {W : World} {r : Reach} {b0 : Nat} {sp : Nat → Bool} {hd : Bool} {t N : Nat} {l : List UInt8} {d : DataW H} {ps : List MemPlace} (ht : P.underlying t = some .string) (hval : Value.okWide P W r b0 t (Str l)) (h : DataW.Trod enc P W 0 sp hd t (Str l) d ps)
    (hw : ∀ n ∈ d.weights P t, n ≤ N) : l.length ≤ N := by
  obtain ⟨s, hs, rfl, _, _⟩ := Go.ChangeMaps.open_string ht hval h
  have hl : l = s.data.toList := by
    have : (⟨⟨l⟩⟩ : ByteArray) = s := by injection hs
    rw [← this]
  have := hw s.data.toList.length (by simp [DataW.weights])
  rw [hl]; exact this
end
end Gg
namespace Gg
open Go Go.RowKit Go.ChangeShapes Go.WideShapes Go.Deep Cin
section
variable {H : Type} {enc : TypeId × Value → H} {P : Program} {N : Nat} {t e : TypeId}
theorem mem_weightsEach {m : Nat} : ∀ {ts : List TypeId} {l : List (DataW H)} {j : Nat} {u : TypeId} {d : DataW H}, ts[j]? = some u → l[j]? = some d → m ∈ d.weights P u → m ∈ DataW.weightsEach P ts l
  | [], _, j, _, _, h, _, _ => by simp at h
  | _ :: _, [], j, _, _, _, h, _ => by simp at h
  | t :: ts, x :: l, 0, u, d, h1, h2, hm => by
    simp only [List.getElem?_cons_zero, Option.some.injEq] at h1 h2
    subst h1; subst h2
    simp only [DataW.weightsEach, List.mem_append]
    exact .inl hm
  | t :: ts, x :: l, j + 1, u, d, h1, h2, hm => by
    simp only [DataW.weightsEach, List.mem_append]
    exact .inr (mem_weightsEach (j := j) (by simpa using h1) (by simpa using h2) hm)
theorem fld {fs : Array Field} {W : World} {n : Nat} {cs : List Value} {x : DataW H × List MemPlace} (ht : P.underlying t = some (.struct fs)) (h : DataW.trod enc P W 0 (fun _ => true) true n t cs = some x) (hp : ∀ p ∈ x.2, p.block < W.heap.size) (hw : ∀ m ∈ x.1.weights P t, m ≤ N) :
    ∃ n', cs.length = P.cellsOf t ∧ ∀ (j : Nat) (f : Field), fs[j]? = some f → ∃ y, DataW.trod enc P W 0 (fun _ => true) true n' f.type ((cs.drop f.offset).take (P.cellsOf f.type)) = some y ∧ (∀ p ∈ y.2, p.block < W.heap.size) ∧ (∀ m ∈ y.1.weights P f.type, m ≤ N) := by
  obtain ⟨ys, n', _, hx, hl, hyl, hg⟩ := DataW.trod_struct ht h
  refine ⟨n', hl, fun j f hj => ?_⟩
  have hjl : j < fs.size := (Array.getElem?_eq_some_iff.1 hj).1
  have hy : ys[j]? = some (ys[j]'(by omega)) := List.getElem?_eq_getElem _
  refine ⟨ys[j]'(by omega), by rw [hg j f hj, hy], fun p hpp => hp p ?_, fun m hm => hw m ?_⟩
  · rw [hx]
    exact List.mem_flatMap.2 ⟨_, List.getElem_mem _, hpp⟩
  · rw [hx]
    simp only [DataW.weights, ht]
    refine mem_weightsEach (j := j) (u := f.type) (d := (ys[j]'(by omega)).1) ?_ ?_ hm
    · rw [List.getElem?_map, Array.getElem?_toList, hj]; rfl
    · rw [List.getElem?_map, hy]; rfl
end
end Gg
namespace Gg
open Go Go.RowKit Cin
inductive Kd
  | i (k : IntKind)
  | b
  | s
  | sl
def Kd.ok (P : Program) (t : TypeId) : Kd → Prop
  | .i k => P.underlying t = some (.int k)
  | .b => P.underlying t = some .bool
  | .s => P.underlying t = some .string
  | .sl => ∃ e, P.underlying t = some (.slice e)
structure Gam where
  und : List (Nat × Kd)
  fld : List (Nat × Nat × Nat)
  siz : List (Nat × Option Nat)
def undOK (P : Program) : List (Nat × Kd) → Prop
  | [] => True
  | p :: r => p.2.ok P p.1 ∧ undOK P r
def FldIs (P : Program) (s j off : Nat) : Prop := ∃ fs f sz, P.underlying s = some (.struct fs) ∧ fs[j]? = some f ∧ f.offset = off ∧ sz ≠ 0 ∧ ∀ w, (Go.sizeOf f.type).run P w = .ok sz w
def fldOK (P : Program) : List (Nat × Nat × Nat) → Prop
  | [] => True
  | p :: r => FldIs P p.1 p.2.1 p.2.2 ∧ fldOK P r
def SizIs (P : Program) (t : Nat) : Option Nat → Prop
  | none => ∀ w, (isAgg t).run P w = .ok false w
  | some n => (∀ w, (isAgg t).run P w = .ok true w) ∧ ∀ w, (Go.sizeOf t).run P w = .ok n w
def sizOK (P : Program) : List (Nat × Option Nat) → Prop
  | [] => True
  | p :: r => SizIs P p.1 p.2 ∧ sizOK P r
structure GOK (P : Program) (G : Gam) : Prop where
  und : undOK P G.und
  fld : fldOK P G.fld
  siz : sizOK P G.siz
theorem fld_mk {P : Program} {s j off sz : Nat} {fs : Array Field} {f : Field} (h : P.underlying s = some (.struct fs)) (hf : fs[j]? = some f) (ho : f.offset = off) (hs : ∀ w, (Go.sizeOf f.type).run P w = .ok sz w) (h0 : Nat.beq sz 0 = false) : FldIs P s j off :=
  ⟨fs, f, sz, h, hf, ho, (fun e => by subst e; simp at h0), hs⟩
def lkn {β : Type} : List (Nat × β) → Nat → Option β
  | [], _ => none
  | p :: r, t => match Nat.beq p.1 t with
    | true => some p.2
    | false => lkn r t
def lkf : List (Nat × Nat × Nat) → Nat → Nat → Option Nat
  | [], _, _ => none
  | p :: r, s, j => match Nat.beq p.1 s && Nat.beq p.2.1 j with
    | true => some p.2.2
    | false => lkf r s j
theorem und_ok {P : Program} {l : List (Nat × Kd)} (h : undOK P l) {t : Nat} {k : Kd} (hl : lkn l t = some k) : k.ok P t := by
  induction l with
  | nil => simp [lkn] at hl
  | cons p r ih =>
    simp only [lkn] at hl
    cases hb : Nat.beq p.1 t with
    | true =>
      rw [hb] at hl
      simp only [Option.some.injEq] at hl
      rw [← Nat.eq_of_beq_eq_true hb, ← hl]; exact h.1
    | false => rw [hb] at hl; exact ih h.2 hl
theorem siz_ok {P : Program} {l : List (Nat × Option Nat)} (h : sizOK P l) {t : Nat} {k : Option Nat} (hl : lkn l t = some k) : SizIs P t k := by
  induction l with
  | nil => simp [lkn] at hl
  | cons p r ih =>
    simp only [lkn] at hl
    cases hb : Nat.beq p.1 t with
    | true =>
      rw [hb] at hl
      simp only [Option.some.injEq] at hl
      rw [← Nat.eq_of_beq_eq_true hb, ← hl]; exact h.1
    | false => rw [hb] at hl; exact ih h.2 hl
theorem fld_ok {P : Program} {l : List (Nat × Nat × Nat)} (h : fldOK P l) {s j off : Nat} (hl : lkf l s j = some off) : FldIs P s j off := by
  induction l with
  | nil => simp [lkf] at hl
  | cons p r ih =>
    simp only [lkf] at hl
    cases hb : Nat.beq p.1 s && Nat.beq p.2.1 j with
    | true =>
      rw [hb] at hl
      simp only [Option.some.injEq] at hl
      simp only [Bool.and_eq_true] at hb
      rw [← Nat.eq_of_beq_eq_true hb.1, ← Nat.eq_of_beq_eq_true hb.2, ← hl]; exact h.1
    | false => rw [hb] at hl; exact ih h.2 hl
def memOK (w : World) : List (Nat × Nat × List Value) → Prop
  | [] => True
  | m :: r => Cells w ⟨m.1, m.2.1, none⟩ m.2.2 ∧ memOK w r
theorem mn {w : World} : memOK w [] := trivial
theorem mc {w : World} {b p : Nat} {cs : List Value} {M : List (Nat × Nat × List Value)} (h : Cells w ⟨b, p, none⟩ cs) (k : memOK w M) : memOK w ((b, p, cs) :: M) := ⟨h, k⟩
theorem mem_at {w : World} {M : List (Nat × Nat × List Value)} (h : memOK w M) {i b p : Nat} {cs : List Value} (hi : M[i]? = some (b, p, cs)) : Cells w ⟨b, p, none⟩ cs := by
  induction M generalizing i with
  | nil => simp at hi
  | cons m r ih =>
    cases i with
    | zero =>
      simp only [List.getElem?_cons_zero, Option.some.injEq] at hi
      subst hi
      exact h.1
    | succ i => exact ih h.2 (by simpa using hi)
theorem blk_all {w : World} {g : Nat} {t : TypeId} {cs : List Value} (h : (Ent.blk g t cs).ok w) : Cells w ⟨g, 0, none⟩ cs := fun j u hj => by
  have := blk_cell h hj
  simpa using this
structure Sl where
  t : Nat
  j : Nat
  want : Bool
  v : Value
def rmF : List (Nat × Value) → Nat → List (Nat × Value)
  | [], _ => []
  | p :: r, d => match Nat.beq p.1 d with
    | true => rmF r d
    | false => p :: rmF r d
def rmG : List Sl → Nat → List Sl
  | [], _ => []
  | p :: r, d => match Nat.beq p.t d || Nat.beq p.j d with
    | true => rmG r d
    | false => p :: rmG r d
def hasG : List (Nat × Bool) → Nat → Bool → Bool
  | [], _, _ => false
  | p :: r, j, b => (Nat.beq p.1 j && (p.2 == b)) || hasG r j b
def lkg : List Sl → List (Nat × Bool) → Nat → Option Value
  | [], _, _ => none
  | p :: r, cur, t => match Nat.beq p.t t && hasG cur p.j p.want with
    | true => some p.v
    | false => lkg r cur t
def gOK (a : Act) : List Sl → Prop
  | [] => True
  | p :: r => (a.tmps.getD p.j undef = .bool p.want → a.tmps.getD p.t undef = p.v) ∧ gOK a r
def curOK (a : Act) : List (Nat × Bool) → Prop
  | [] => True
  | p :: r => a.tmps.getD p.1 undef = .bool p.2 ∧ curOK a r
theorem hasG_ok {a : Act} {cur : List (Nat × Bool)} (h : curOK a cur) {j : Nat} {b : Bool} (hh : hasG cur j b = true) : a.tmps.getD j undef = .bool b := by
  induction cur with
  | nil => simp [hasG] at hh
  | cons p r ih =>
    simp only [hasG, Bool.or_eq_true, Bool.and_eq_true, beq_iff_eq] at hh
    rcases hh with ⟨h1, h2⟩ | hh
    · rw [← Nat.eq_of_beq_eq_true h1, ← h2]; exact h.1
    · exact ih h.2 hh
theorem lkg_ok {a : Act} {gs : List Sl} (h : gOK a gs) {cur : List (Nat × Bool)} (hc : curOK a cur) {t : Nat} {v : Value} (hl : lkg gs cur t = some v) : a.tmps.getD t undef = v := by
  induction gs with
  | nil => simp [lkg] at hl
  | cons p r ih =>
    simp only [lkg] at hl
    cases hb : Nat.beq p.t t && hasG cur p.j p.want with
    | true =>
      rw [hb] at hl
      simp only [Option.some.injEq] at hl
      simp only [Bool.and_eq_true] at hb
      rw [← Nat.eq_of_beq_eq_true hb.1, ← hl]
      exact h.1 (hasG_ok hc hb.2)
    | false => rw [hb] at hl; exact ih h.2 hl
def opd (fr : List (Nat × Value)) (gs : List Sl) (cur : List (Nat × Bool)) : Operand → Option Value
  | .const v => some v
  | .global g => some (.pointer (some ⟨g, 0, none⟩))
  | .tmp t => match lk fr t with
    | some v => some v
    | none => lkg gs cur t
  | .func _ => none
theorem opd_ok {n : FrN} {fr : List (Nat × Value)} {gs : List Sl} {cur : List (Nat × Bool)} {a : Act} (hf : Fr n fr a) (hg : gOK a gs) (hc : curOK a cur) {x : Operand} {v : Value} (h : opd fr gs cur x = some v) : a.eval x = v := by
  cases x with
  | const u => simp only [opd, Option.some.injEq] at h; rw [← h]; rfl
  | global g => simp only [opd, Option.some.injEq] at h; rw [← h]; rfl
  | func f => simp [opd] at h
  | tmp t =>
    simp only [opd] at h
    cases hl : lk fr t with
    | some u => rw [hl] at h; simp only [Option.some.injEq] at h; rw [← h]; exact hf.g hl
    | none => rw [hl] at h; exact lkg_ok hg hc h
def opds (fr : List (Nat × Value)) (gs : List Sl) (cur : List (Nat × Bool)) : List Operand → Option (List Value)
  | [] => some []
  | x :: r => match opd fr gs cur x, opds fr gs cur r with
    | some v, some vs => some (v :: vs)
    | _, _ => none
theorem opds_ok {n : FrN} {fr : List (Nat × Value)} {gs : List Sl} {cur : List (Nat × Bool)} {a : Act} (hf : Fr n fr a) (hg : gOK a gs) (hc : curOK a cur) : ∀ {xs : List Operand} {vs : List Value}, opds fr gs cur xs = some vs → xs.map a.eval = vs
  | [], vs, h => by simp only [opds, Option.some.injEq] at h; subst h; rfl
  | x :: r, vs, h => by
    simp only [opds] at h
    split at h
    · rename_i v us h1 h2
      simp only [Option.some.injEq] at h
      subst h
      rw [List.map_cons, opd_ok hf hg hc h1, opds_ok hf hg hc h2]
    · cases h
def isK : Operand → Bool
  | .const (.int _ n) => n != 0
  | _ => false
def kEq : IntKind → IntKind → Bool
  | .i64, .i64 | .u8, .u8 | .i32, .i32 | .u64, .u64 | .u32, .u32 | .u16, .u16 | .i16, .i16 | .i8, .i8 => true
  | _, _ => false
theorem kEq_ok {j k : IntKind} (h : kEq j k = true) : j = k := by cases j <;> cases k <;> simp_all [kEq]
def is64 (k : IntKind) : Bool := kEq k .i64
theorem is64_ok {k : IntKind} (h : is64 k = true) : k = .i64 := kEq_ok h
def binI (kd : Option Kd) (nz : Bool) (op : BinOp) (j k : IntKind) (m n : Int) : Option Value :=
  match op with
  | .add => match is64 j && is64 k with | true => some (.int .i64 (w64 (m + n))) | false => none
  | .sub => match is64 j && is64 k with | true => some (.int .i64 (w64 (m - n))) | false => none
  | .mul => match is64 j && is64 k with | true => some (.int .i64 (w64 (m * n))) | false => none
  | .quo => match is64 j && is64 k && nz with | true => some (.int .i64 (w64 (m.tdiv n))) | false => none
  | .rem => match is64 j && is64 k && nz with | true => some (.int .i64 (m.tmod n)) | false => none
  | .or => match is64 j && is64 k with | true => some (.int .i64 (orI m n)) | false => none
  | .and => match is64 j && is64 k with | true => some (.int .i64 (andI m n)) | false => none
  | .lss => match kEq j k with | true => some (.bool (decide (m < n))) | false => none
  | .leq => match kEq j k with | true => some (.bool (decide (m ≤ n))) | false => none
  | .gtr => match kEq j k with | true => some (.bool (decide (n < m))) | false => none
  | .geq => match kEq j k with | true => some (.bool (decide (n ≤ m))) | false => none
  | .eql => match kd with
    | some (.i i) => match kEq i j && kEq j k with | true => some (.bool (decide (m = n))) | false => none
    | _ => none
  | .neq => match kd with
    | some (.i i) => match kEq i j && kEq j k with | true => some (.bool (!decide (m = n))) | false => none
    | _ => none
  | _ => none
def binS (kd : Option Kd) (op : BinOp) (p q : List UInt8) : Option Value :=
  match op, kd with
  | .eql, some .s => some (.bool (decide (p = q)))
  | .neq, some .s => some (.bool (!decide (p = q)))
  | _, _ => none
def binB (kd : Option Kd) (op : BinOp) (p q : Bool) : Option Value :=
  match op, kd with
  | .eql, some .b => some (.bool (p == q))
  | .neq, some .b => some (.bool (!(p == q)))
  | _, _ => none
def bin (kd : Option Kd) (nz : Bool) (op : BinOp) : Value → Value → Option Value
  | .int j m, .int k n => binI kd nz op j k m n
  | .string ⟨⟨p⟩⟩, .string ⟨⟨q⟩⟩ => binS kd op p q
  | .bool p, .bool q => binB kd op p q
  | _, _ => none
section
variable {P : Program} {o : Oper} {a : Act} {w : World} {x y : Operand} {t t' : TypeId}
theorem bin_ok {kd : Option Kd} (hk : ∀ k, kd = some k → k.ok P t) {nz : Bool} (hz : nz = true → ∀ k n, a.eval y = .int k n → n ≠ 0) {op : BinOp} {u v r : Value} (h : bin kd nz op u v = some r) (ho : o.op = .binOp op t x y t') (hx : a.eval x = u) (hy : a.eval y = v) : Yv P o a w r w := by
  unfold bin at h
  split at h
  · rename_i j m k n
    unfold binI at h
    split at h
    case h_1 =>
      split at h
      · rename_i hb
        simp only [Bool.and_eq_true] at hb
        obtain ⟨h1, h2⟩ := hb
        have h1 := is64_ok h1; have h2 := is64_ok h2
        subst h1; subst h2
        simp only [Option.some.injEq] at h
        subst h
        exact y_add64 ho hx hy
      · cases h
    case h_2 =>
      split at h
      · rename_i hb
        simp only [Bool.and_eq_true] at hb
        obtain ⟨h1, h2⟩ := hb
        have h1 := is64_ok h1; have h2 := is64_ok h2
        subst h1; subst h2
        simp only [Option.some.injEq] at h
        subst h
        exact y_sub64 ho hx hy
      · cases h
    case h_3 =>
      split at h
      · rename_i hb
        simp only [Bool.and_eq_true] at hb
        obtain ⟨h1, h2⟩ := hb
        have h1 := is64_ok h1; have h2 := is64_ok h2
        subst h1; subst h2
        simp only [Option.some.injEq] at h
        subst h
        exact y_mul64 ho hx hy
      · cases h
    case h_4 =>
      split at h
      · rename_i hb
        simp only [Bool.and_eq_true] at hb
        obtain ⟨⟨h1, h2⟩, h3⟩ := hb
        have h1 := is64_ok h1; have h2 := is64_ok h2
        subst h1; subst h2
        simp only [Option.some.injEq] at h
        subst h
        have hne := hz h3 _ _ hy
        exact y_quo64 ho hx hy (by rw [Bool.not_eq_true', decide_eq_false_iff_not]; exact hne)
      · cases h
    case h_5 =>
      split at h
      · rename_i hb
        simp only [Bool.and_eq_true] at hb
        obtain ⟨⟨h1, h2⟩, h3⟩ := hb
        have h1 := is64_ok h1; have h2 := is64_ok h2
        subst h1; subst h2
        simp only [Option.some.injEq] at h
        subst h
        have hne := hz h3 _ _ hy
        exact y_rem64 ho hx hy (by rw [Bool.not_eq_true', decide_eq_false_iff_not]; exact hne)
      · cases h
    case h_6 =>
      split at h
      · rename_i hb
        simp only [Bool.and_eq_true] at hb
        obtain ⟨h1, h2⟩ := hb
        have h1 := is64_ok h1; have h2 := is64_ok h2
        subst h1; subst h2
        simp only [Option.some.injEq] at h
        subst h
        exact y_or64 ho hx hy
      · cases h
    case h_7 =>
      split at h
      · rename_i hb
        simp only [Bool.and_eq_true] at hb
        obtain ⟨h1, h2⟩ := hb
        have h1 := is64_ok h1; have h2 := is64_ok h2
        subst h1; subst h2
        simp only [Option.some.injEq] at h
        subst h
        exact y_and64 ho hx hy
      · cases h
    case h_8 =>
      split at h
      · rename_i hb
        have hb := kEq_ok hb
        subst hb
        simp only [Option.some.injEq] at h
        subst h
        exact y_lss ho hx hy
      · cases h
    case h_9 =>
      split at h
      · rename_i hb
        have hb := kEq_ok hb
        subst hb
        simp only [Option.some.injEq] at h
        subst h
        exact y_leq ho hx hy
      · cases h
    case h_10 =>
      split at h
      · rename_i hb
        have hb := kEq_ok hb
        subst hb
        simp only [Option.some.injEq] at h
        subst h
        exact y_gtr ho hx hy
      · cases h
    case h_11 =>
      split at h
      · rename_i hb
        have hb := kEq_ok hb
        subst hb
        simp only [Option.some.injEq] at h
        subst h
        exact y_geq ho hx hy
      · cases h
    case h_12 =>
      split at h
      · rename_i i
        have hi := hk _ rfl
        split at h
        · rename_i hb
          simp only [Bool.and_eq_true] at hb
          have h1 := kEq_ok hb.1; have h2 := kEq_ok hb.2
          subst h1; subst h2
          simp only [Option.some.injEq] at h
          subst h
          exact y_eqI hi ho hx hy
        · cases h
      · cases h
    case h_13 =>
      split at h
      · rename_i i
        have hi := hk _ rfl
        split at h
        · rename_i hb
          simp only [Bool.and_eq_true] at hb
          have h1 := kEq_ok hb.1; have h2 := kEq_ok hb.2
          subst h1; subst h2
          simp only [Option.some.injEq] at h
          subst h
          exact y_neI hi ho hx hy
        · cases h
      · cases h
    case h_14 => cases h
  · rename_i p q
    unfold binS at h
    split at h
    · simp only [Option.some.injEq] at h
      subst h
      exact y_eqS (hk _ rfl) ho hx hy
    · simp only [Option.some.injEq] at h
      subst h
      exact y_neS (hk _ rfl) ho hx hy
    · cases h
  · rename_i p q
    unfold binB at h
    split at h
    · simp only [Option.some.injEq] at h
      subst h
      exact y_eqB (hk _ rfl) ho hx hy
    · simp only [Option.some.injEq] at h
      subst h
      exact y_neB (hk _ rfl) ho hx hy
    · cases h
  · cases h
end
end Gg
namespace Gg
open Go Go.RowKit Cin
def nth {α : Type} : List α → Nat → Option α
  | [], _ => none
  | x :: _, 0 => some x
  | _ :: r, i + 1 => nth r i
theorem nth_eq {α : Type} : ∀ (l : List α) (i : Nat), nth l i = l[i]?
  | [], i => by simp [nth]
  | x :: r, 0 => rfl
  | x :: r, i + 1 => by simp [nth, nth_eq r i]
def isT : Operand → Bool
  | .const (.bool b) => b
  | _ => false
def isF : Operand → Bool
  | .const (.bool b) => !b
  | _ => false
def pickV (x y : Operand) (b : Bool) : Value → Value → Option Value
  | .bool p, .bool q => match isT x with
    | true => some (.bool (b || q))
    | false => match isF y with
      | true => some (.bool (b && p))
      | false => some (.bool (cond b p q))
  | .int j m, .int k n => match kEq j k with
    | true => some (.int j (cond b m n))
    | false => none
  | .string ⟨⟨p⟩⟩, .string ⟨⟨q⟩⟩ => some (Str (cond b p q))
  | _, _ => none
theorem isT_ok {a : Act} {x : Operand} (h : isT x = true) : a.eval x = .bool true := by
  unfold isT at h
  split at h
  · subst h; rfl
  · cases h
theorem isF_ok {a : Act} {x : Operand} (h : isF x = true) : a.eval x = .bool false := by
  unfold isF at h
  split at h
  · rename_i b
    have : b = false := by simpa using h
    subst this; rfl
  · cases h
theorem pickV_ok {a : Act} {x y : Operand} {b : Bool} {u v r : Value} (h : pickV x y b u v = some r) (hx : b = true → a.eval x = u) (hy : b = false → a.eval y = v) : (if b then a.eval x else a.eval y) = r := by
  unfold pickV at h
  split at h
  · rename_i p q
    split at h
    · rename_i ht
      simp only [Option.some.injEq] at h
      subst h
      cases b with
      | true => rw [if_pos rfl, isT_ok ht]; rfl
      | false => rw [if_neg (by simp), hy rfl]; rfl
    · split at h
      · rename_i hf
        simp only [Option.some.injEq] at h
        subst h
        cases b with
        | true => rw [if_pos rfl, hx rfl]; rfl
        | false => rw [if_neg (by simp), isF_ok hf]; rfl
      · simp only [Option.some.injEq] at h
        subst h
        cases b with
        | true => rw [if_pos rfl, hx rfl]; rfl
        | false => rw [if_neg (by simp), hy rfl]; rfl
  · split at h
    · rename_i hk
      have := kEq_ok hk
      subst this
      simp only [Option.some.injEq] at h
      subst h
      cases b with
      | true => rw [if_pos rfl, hx rfl]; rfl
      | false => rw [if_neg (by simp), hy rfl]; rfl
    · cases h
  · simp only [Option.some.injEq] at h
    subst h
    cases b with
    | true => rw [if_pos rfl, hx rfl]; rfl
    | false => rw [if_neg (by simp), hy rfl]; rfl
  · cases h
abbrev Out := Value × List Nat × List (Nat × Nat)
def just (hs : List Nat) (v : Value) : Option Out := some (v, hs, [])
def evLoad (G : Gam) (M : List (Nat × Nat × List Value)) (t m rel : Nat) (hs : List Nat) (pb po : Nat) : Option Out :=
  match nth M m, lkn G.siz t with
  | some (b, off, cs), some none => match nth cs rel with
    | some v => some (v, hs, [(pb, b), (po, off + rel)])
    | none => none
  | some (b, off, cs), some (some n) => match Nat.ble (rel + n) cs.length with
    | true => some (.agg ((cs.drop rel).take n).toArray, hs, [(pb, b), (po, off + rel)])
    | false => none
  | _, _ => none
def evConv (G : Gam) (s d : Nat) (hs : List Nat) : Value → Option Out
  | .int k m => match is64 k, lkn G.und s, lkn G.und d with
    | true, some (.i .i64), some (.i .i64) => just hs (.int .i64 (w64 m))
    | true, some (.i .i64), some (.i .u8) => just hs (.int .u8 ((b8 m).toNat : Int))
    | _, _, _ => none
  | _ => none
def evLen (G : Gam) (t : Nat) (hs : List Nat) : Value → Option Out
  | .string ⟨⟨p⟩⟩ => match lkn G.und t with
    | some .s => just hs (.int .i64 (p.length : Int))
    | _ => none
  | .slice _ n _ => match lkn G.und t with
    | some .sl => just hs (.int .i64 (n : Int))
    | _ => none
  | _ => none
def evPick (fr : List (Nat × Value)) (gs : List Sl) (cur : List (Nat × Bool)) (c x y : Operand) : List Nat → Option Out
  | 0 :: hs => match c with
    | .tmp tc => match opd fr gs cur (.tmp tc), opd fr gs ((tc, true) :: cur) x, opd fr gs ((tc, false) :: cur) y with
      | some (.bool b), some u, some v => match pickV x y b u v with
        | some r => just hs r
        | none => none
      | _, _, _ => none
    | _ => none
  | _ :: hs => match opd fr gs cur c with
    | some (.bool b) => match b with
      | true => match opd fr gs cur x with | some v => just hs v | none => none
      | false => match opd fr gs cur y with | some v => just hs v | none => none
    | _ => none
  | [] => none
def ev1 (G : Gam) (M : List (Nat × Nat × List Value)) (hs : List Nat) (fr : List (Nat × Value)) (gs : List Sl) (cur : List (Nat × Bool)) : Op → Option Out
  | .move x => match opd fr gs cur x with | some v => just hs v | none => none
  | .assign x => match opd fr gs cur x with | some v => just hs v | none => none
  | .pick c x y => evPick fr gs cur c x y hs
  | .binOp op t x y _ => match opd fr gs cur x, opd fr gs cur y with
    | some u, some v => match bin (lkn G.und t) (isK y) op u v with
      | some r => just hs r
      | none => none
    | _, _ => none
  | .unOp .not _ x => match opd fr gs cur x with
    | some (.bool p) => just hs (.bool (!p))
    | _ => none
  | .convert s d x => match opd fr gs cur x with
    | some v => evConv G s d hs v
    | none => none
  | .load t x => match opd fr gs cur x, hs with
    | some (.pointer (some ⟨pb, po, none⟩)), m :: rel :: hs' => evLoad G M t m rel hs' pb po
    | _, _ => none
  | .fieldAddr s x j => match opd fr gs cur x, lkf G.fld s j with
    | some (.pointer (some ⟨b, p, none⟩)), some off => just hs (.pointer (some ⟨b, p + off, none⟩))
    | _, _ => none
  | .nilCheck x => match opd fr gs cur x with
    | some (.pointer (some p)) => just hs (.pointer (some p))
    | _ => none
  | .extract x i => match opd fr gs cur x with
    | some (.tuple ⟨vs⟩) => match nth vs i with
      | some v => just hs v
      | none => none
    | _ => none
  | .makeFunc fn ⟨xs⟩ ⟨ys⟩ => match opds fr gs cur xs, opds fr gs cur ys with
    | some us, some vs => just hs (.func fn us.toArray vs.toArray)
    | _, _ => none
  | .call ⟨.builtin .len, ⟨[x]⟩, ⟨[t]⟩⟩ => match opd fr gs cur x with
    | some v => evLen G t hs v
    | none => none
  | _ => none
theorem just_eq {hs hs' : List Nat} {u v : Value} {l : List (Nat × Nat)} (h : just hs u = some (v, hs', l)) : u = v := by
  simp only [just, Option.some.injEq, Prod.mk.injEq] at h
  exact h.1
def eqs : List (Nat × Nat) → Prop
  | [] => True
  | p :: r => p.1 = p.2 ∧ eqs r
section
variable {P : Program} {G : Gam} {M : List (Nat × Nat × List Value)} {w : World} {a : Act} {o : Oper}
theorem ev1_ok {n : FrN} {fr : List (Nat × Value)} {gs : List Sl} {cur : List (Nat × Bool)} {hs hs' : List Nat} {v : Value} {l : List (Nat × Nat)} (hG : GOK P G) (hM : memOK w M) (hf : Fr n fr a) (hg : gOK a gs) (hc : curOK a cur)
    {op : Op} (ho : o.op = op) (h : ev1 G M hs fr gs cur op = some (v, hs', l)) (hl : eqs l) : Yv P o a w v w := by
  have opn : ∀ {x : Operand} {u : Value}, opd fr gs cur x = some u → a.eval x = u := fun hx => opd_ok hf hg hc hx
  unfold ev1 at h
  split at h
  · split at h
    · rename_i hx
      rw [← just_eq h]; exact y_move ho (opn hx)
    · cases h
  · split at h
    · rename_i hx
      rw [← just_eq h]; exact y_assign ho (opn hx)
    · cases h
  · rename_i c x y
    unfold evPick at h
    split at h
    · split at h
      · rename_i tc
        split at h
        · rename_i b u v' h1 h2 h3
          split at h
          · rename_i r hr
            rw [← just_eq h]
            have hcb : a.eval (.tmp tc) = .bool b := opn h1
            have hx : b = true → a.eval x = u := fun hb => opd_ok hf hg (show curOK a ((tc, true) :: cur) from ⟨by subst hb; exact hcb, hc⟩) h2
            have hy : b = false → a.eval y = v' := fun hb => opd_ok hf hg (show curOK a ((tc, false) :: cur) from ⟨by subst hb; exact hcb, hc⟩) h3
            have hp := pickV_ok (a := a) hr hx hy
            cases b with
            | true => exact y_pickT ho hcb (by simpa using hp)
            | false => exact y_pickF ho hcb (by simpa using hp)
          · cases h
        · cases h
      · cases h
    · split at h
      · rename_i b h1
        split at h
        · split at h
          · rename_i u h2
            rw [← just_eq h]; exact y_pickT ho (opn h1) (opn h2)
          · cases h
        · split at h
          · rename_i u h2
            rw [← just_eq h]; exact y_pickF ho (opn h1) (opn h2)
          · cases h
      · cases h
    · cases h
  · rename_i op t x y t'
    split at h
    · rename_i u v' h1 h2
      split at h
      · rename_i r hr
        rw [← just_eq h]
        refine bin_ok (fun k hk => und_ok hG.und hk) (fun hz k n hn => ?_) hr ho (opn h1) (opn h2)
        unfold isK at hz
        split at hz
        · rename_i k' n'
          have : a.eval (.const (.int k' n')) = .int k' n' := rfl
          rw [this] at hn
          injection hn with _ e
          subst e
          simpa using hz
        · cases hz
      · cases h
    · cases h
  · rename_i x
    split at h
    · rename_i p h1
      rw [← just_eq h]; exact y_not ho (opn h1)
    · cases h
  · rename_i s d x
    split at h
    · rename_i u h1
      unfold evConv at h
      split at h
      · rename_i k m
        split at h
        · rename_i h2 h3 h4
          have := is64_ok h2
          subst this
          rw [← just_eq h]; exact y_cSame64 (und_ok hG.und h3) (und_ok hG.und h4) ho (opn h1)
        · rename_i h2 h3 h4
          have := is64_ok h2
          subst this
          rw [← just_eq h]; exact y_cU8 (und_ok hG.und h3) (und_ok hG.und h4) ho (opn h1)
        · cases h
      · cases h
    · cases h
  · rename_i t x
    split at h
    · rename_i pb po m rel hs2 h1
      have hx := opn h1
      unfold evLoad at h
      split at h
      · rename_i b off cs h2 h3
        split at h
        · rename_i u h4
          simp only [Option.some.injEq, Prod.mk.injEq] at h
          obtain ⟨rfl, _, rfl⟩ := h
          obtain ⟨e1, e2, _⟩ := hl
          simp only at e1 e2
          subst e1; subst e2
          rw [nth_eq] at h2 h4
          exact y_load1 (siz_ok hG.siz h3) ho hx (mem_at hM h2 rel u h4)
        · cases h
      · rename_i b off cs k h2 h3
        split at h
        · rename_i hb
          simp only [Option.some.injEq, Prod.mk.injEq] at h
          obtain ⟨rfl, _, rfl⟩ := h
          obtain ⟨e1, e2, _⟩ := hl
          simp only at e1 e2
          subst e1; subst e2
          rw [nth_eq] at h2
          have hs := siz_ok hG.siz h3
          have hle := Nat.le_of_ble_eq_true hb
          refine y_loadN hs.1 hs.2 (by simp; omega) ho hx (fun j u hj => ?_)
          have hc' := mem_at hM h2
          rw [List.getElem?_take] at hj
          split at hj
          · rw [List.getElem?_drop] at hj
            have := hc' (rel + j) u hj
            simpa [Nat.add_assoc] using this
          · cases hj
        · cases h
      · cases h
    · cases h
  · rename_i s x j
    split at h
    · rename_i b p off h1 h2
      rw [← just_eq h]
      obtain ⟨fs, f, sz, g1, g2, g3, g4, g5⟩ := fld_ok hG.fld h2
      rw [← g3]
      exact y_fld g1 g2 g5 (by cases h0 : Nat.beq sz 0 with | false => rfl | true => exact absurd (Nat.eq_of_beq_eq_true h0) g4) ho (opn h1)
    · cases h
  · rename_i x
    split at h
    · rename_i p h1
      rw [← just_eq h]; exact y_nilCheck ho (opn h1)
    · cases h
  · rename_i x i
    split at h
    · rename_i vs h1
      split at h
      · rename_i u h2
        rw [← just_eq h]
        rw [nth_eq] at h2
        exact y_extract (vs := vs) ho (opn h1) h2
      · cases h
    · cases h
  · rename_i fn xs ys
    split at h
    · rename_i us vs h1 h2
      rw [← just_eq h]
      have e1 := opds_ok hf hg hc h1
      have e2 := opds_ok hf hg hc h2
      simp only [Yv, execOp, ho, Instr.makeFunc]
      rw [show (Array.map a.eval ⟨xs⟩) = us.toArray by rw [← e1]; simp, show (Array.map a.eval ⟨ys⟩) = vs.toArray by rw [← e2]; simp]
      rfl
    · cases h
  · rename_i x t
    split at h
    · rename_i u h1
      unfold evLen at h
      split at h
      · split at h
        · rename_i h2
          rw [← just_eq h]; exact y_lenS (und_ok hG.und h2) ho (opn h1)
        · cases h
      · split at h
        · rename_i h2
          rw [← just_eq h]
          obtain ⟨e, he⟩ := und_ok hG.und h2
          exact y_len he ho (opn h1)
        · cases h
      · cases h
    · cases h
  · cases h
end
end Gg
namespace Gg
open Go Go.RowKit Cin
def gslot (ops : Array Oper) (j : Nat) : Option Nat := match nth ops.toList j with
  | some o => o.dst
  | none => none
theorem gslot_eq {ops : Array Oper} {j dj : Nat} (h : gslot ops j = some dj) : (ops[j]?).bind (·.dst) = some dj := by
  unfold gslot at h
  rw [nth_eq, Array.getElem?_toList] at h
  split at h
  · rename_i o ho
    rw [ho]; exact h
  · cases h
abbrev Fst := List (Nat × Value) × List Sl × List (Nat × Nat)
def ev (G : Gam) (ops : Array Oper) (n : Nat) (M : List (Nat × Nat × List Value)) : List Oper → List Nat → List (Nat × Value) → List Sl → List (Nat × Nat) → Option Fst
  | [], _, fr, gs, l => some (fr, gs, l)
  | o :: rest, hs, fr, gs, l => match o.dst with
    | none => none
    | some d => match Nat.blt d n with
      | false => none
      | true => match o.guard with
        | none => match ev1 G M hs fr gs [] o.op with
          | some (v, hs', l') => ev G ops n M rest hs' ((d, v) :: fr) (rmG gs d) (l' ++ l)
          | none => none
        | some (j, want) => match gslot ops j with
          | none => none
          | some dj => match Nat.blt dj n with
            | false => none
            | true => match hs with
              | 0 :: hs' => match Nat.beq dj d with
                | true => none
                | false => match ev1 G M hs' fr gs [(dj, want)] o.op with
                  | some (v, hs2, l') => ev G ops n M rest hs2 (rmF fr d) (⟨d, dj, want, v⟩ :: rmG gs d) (l' ++ l)
                  | none => none
              | _ :: hs' => match lk fr dj with
                | some (.bool b) => match b == want with
                  | true => match ev1 G M hs' fr gs [] o.op with
                    | some (v, hs2, l') => ev G ops n M rest hs2 ((d, v) :: fr) (rmG gs d) (l' ++ l)
                    | none => none
                  | false => ev G ops n M rest hs' ((d, undef) :: fr) (rmG gs d) l
                | some (.tuple ⟨[]⟩) => ev G ops n M rest hs' ((d, undef) :: fr) (rmG gs d) l
                | _ => none
              | [] => none
def cutF (fr : List (Nat × Value)) : List Nat → Option (List (Nat × Value))
  | [] => some []
  | t :: r => match lk fr t, cutF fr r with
    | some v, some vs => some ((t, v) :: vs)
    | _, _ => none
def dup (l : List Nat) : List (Nat × Nat) := l.map fun x => (x, x)
def evc (G : Gam) (ops : Array Oper) (n : Nat) (M : List (Nat × Nat × List Value)) (os : List Oper) (hs : List Nat) (fr : List (Nat × Value)) (keep : List Nat) : Option (List (Nat × Value) × List (Nat × Nat)) :=
  match ev G ops n M os hs fr [] [] with
  | some (fr', _, l) => match cutF fr' keep with
    | some k => some (k, l)
    | none => none
  | none => none
theorem eqs_dup : ∀ l : List Nat, eqs (dup l)
  | [] => trivial
  | x :: r => ⟨rfl, eqs_dup r⟩
theorem eqs_app : ∀ {l l' : List (Nat × Nat)}, eqs (l ++ l') → eqs l ∧ eqs l'
  | [], _, h => ⟨trivial, h⟩
  | _ :: _, _, h => ⟨⟨h.1, (eqs_app h.2).1⟩, (eqs_app h.2).2⟩
theorem cutF_ok {fr : List (Nat × Value)} : ∀ {keep : List Nat} {k : List (Nat × Value)}, cutF fr keep = some k → subs fr k
  | [], k, h => by simp only [cutF, Option.some.injEq] at h; subst h; trivial
  | t :: r, k, h => by
    simp only [cutF] at h
    split at h
    · rename_i v vs h1 h2
      simp only [Option.some.injEq] at h
      subst h
      exact ⟨h1, cutF_ok h2⟩
    · cases h
theorem put_self {a : Act} {n : FrN} {d : Nat} {v : Value} (hs : a.tmps.size = n) (hd : Nat.blt d n = true) : (a.put (some d) v).tmps.getD d undef = v := by
  have hlt : d < n := Nat.le_of_ble_eq_true hd
  simp [Act.put, hs, hlt]
theorem put_ne {a : Act} {d t : Nat} {v : Value} (h : t ≠ d) : (a.put (some d) v).tmps.getD t undef = a.tmps.getD t undef := by
  simp only [Act.put, Array.getD_eq_getD_getElem?]
  rw [Array.getElem?_setIfInBounds, if_neg (fun e => h e.symm)]
theorem gOK_put {a : Act} {d : Nat} {v : Value} : ∀ {gs : List Sl}, gOK a gs → gOK (a.put (some d) v) (rmG gs d)
  | [], _ => trivial
  | p :: r, h => by
    simp only [rmG]
    cases hb : Nat.beq p.t d || Nat.beq p.j d with
    | true => exact gOK_put h.2
    | false =>
      simp only [Bool.or_eq_false_iff] at hb
      have h1 : p.t ≠ d := fun e => by rw [e] at hb; simp at hb
      have h2 : p.j ≠ d := fun e => by rw [e] at hb; simp at hb
      refine ⟨?_, gOK_put h.2⟩
      rw [put_ne h1, put_ne h2]; exact h.1
theorem lk_rmF {d t : Nat} {v : Value} : ∀ {fr : List (Nat × Value)}, lk (rmF fr d) t = some v → t ≠ d ∧ lk fr t = some v
  | [], h => by simp [rmF, lk] at h
  | p :: r, h => by
    simp only [rmF] at h
    cases hb : Nat.beq p.1 d with
    | true =>
      rw [hb] at h
      obtain ⟨h1, h2⟩ := lk_rmF h
      refine ⟨h1, ?_⟩
      have e := Nat.eq_of_beq_eq_true hb
      simp only [lk]
      cases hc : Nat.beq p.1 t with
      | true => exact absurd ((Nat.eq_of_beq_eq_true hc).symm.trans e) h1
      | false => exact h2
    | false =>
      rw [hb] at h
      simp only [lk] at h ⊢
      cases hc : Nat.beq p.1 t with
      | true =>
        rw [hc] at h
        refine ⟨fun e => ?_, h⟩
        rw [Nat.eq_of_beq_eq_true hc, e] at hb
        simp at hb
      | false =>
        rw [hc] at h
        exact lk_rmF h
theorem Fr.rm {n : FrN} {d : Nat} {fr : List (Nat × Value)} {a : Act} {v : Value} (hf : Fr n fr a) : Fr n (rmF fr d) (a.put (some d) v) :=
  ⟨by simpa [Act.put] using hf.size, hf.defers, fun t u h => by obtain ⟨h1, h2⟩ := lk_rmF h; rw [put_ne h1]; exact hf.get t u h2⟩
def isLoad : Op → Bool
  | .load _ _ => true
  | _ => false
theorem ev1_noload {G : Gam} {M : List (Nat × Nat × List Value)} {hs : List Nat} {fr : List (Nat × Value)} {gs : List Sl} {cur : List (Nat × Bool)} {op : Op} (h : isLoad op = false) : ev1 G M hs fr gs cur op = ev1 G [] hs fr gs cur op := by
  cases op with
  | load t x => simp [isLoad] at h
  | unOp u t x => cases u <;> rfl
  | call c =>
    unfold ev1
    split <;> first | rfl | (rename_i e; cases e; done) | (rename_i e; cases e; rfl)
  | _ => rfl
theorem ev1_both {P : Program} {G : Gam} {M : List (Nat × Nat × List Value)} {C : World → Prop} {a : Act} {o : Oper} {n : FrN} {fr : List (Nat × Value)} {gs : List Sl} {cur : List (Nat × Bool)} {hs hs' : List Nat} {v : Value} {l : List (Nat × Nat)} (hG : GOK P G) (hM : ∀ w, C w → memOK w M) (hf : Fr n fr a) (hg : gOK a gs) (hc : curOK a cur)
    (h : ev1 G M hs fr gs cur o.op = some (v, hs', l)) (hl : eqs l) : (∀ w, C w → Yv P o a w v w) ∧ (isLoad o.op = false → ∀ w, Yv P o a w v w) :=
  ⟨fun w hC => ev1_ok hG (hM w hC) hf hg hc rfl h hl, fun hn w => ev1_ok hG (M := []) trivial hf hg hc rfl (by rw [← ev1_noload hn]; exact h) hl⟩
theorem want_iff {ops : Array Oper} {o : Oper} {a : Act} {n : FrN} {l : List (Nat × Value)} {j dj : Nat} {want : Bool} (hf : Fr n l a) (hg : o.guard = some (j, want)) (hj : (ops[j]?).bind (·.dst) = some dj) (hn : Nat.blt dj n = true) :
    Region.wanted o (yielded ops a.tmps) = true ↔ a.tmps.getD dj undef = .bool want := by
  have hlt : dj < n := Nat.le_of_ble_eq_true hn
  have hs := hf.size
  have h2 : a.tmps[dj]? = some (a.tmps.getD dj undef) := by
    rw [Array.getElem?_eq_getElem (by omega)]
    simp [Array.getD_eq_getD_getElem?, hs, hlt]
  simp only [Region.wanted, hg, yielded, hj, Option.bind_some, h2, beq_iff_eq]
  constructor
  · intro h
    split at h
    · rename_i b hb
      simp only [Option.some.injEq] at h hb
      rw [hb, h]
    · cases h
  · intro h
    rw [h]
def Stp (P : Program) (ops : Array Oper) (C : World → Prop) (o : Oper) (d : Nat) (a : Act) (u : Value) : Prop :=
  o.dst = some d ∧ ((Region.wanted o (yielded ops a.tmps) = true ∧ (∀ w, C w → Yv P o a w u w) ∧ (isLoad o.op = false → ∀ w, Yv P o a w u w)) ∨ (Region.wanted o (yielded ops a.tmps) = false ∧ u = undef))
section
variable {P : Program} {G : Gam} {ops : Array Oper} {n : FrN} {M : List (Nat × Nat × List Value)} {C : World → Prop}
theorem ev_step (hG : GOK P G) (hM : ∀ w, C w → memOK w M) {o : Oper} {rest : List Oper} {hs : List Nat} {fr : List (Nat × Value)} {gs : List Sl} {l lz : List (Nat × Nat)} {frz : List (Nat × Value)} {gsz : List Sl} {a : Act}
    (hf : Fr n fr a) (hg : gOK a gs) (h : ev G ops n M (o :: rest) hs fr gs l = some (frz, gsz, lz)) (hz : eqs lz)
    (hmono : ∀ {os : List Oper} {hs : List Nat} {fr : List (Nat × Value)} {gs : List Sl} {l : List (Nat × Nat)}, ev G ops n M os hs fr gs l = some (frz, gsz, lz) → eqs l) :
    ∃ d u hs' fr' gs' l', Stp P ops C o d a u ∧ Fr n fr' (a.put (some d) u) ∧ gOK (a.put (some d) u) gs' ∧ ev G ops n M rest hs' fr' gs' l' = some (frz, gsz, lz) := by
  rw [ev] at h
  split at h
  · cases h
  · rename_i d hd
    split at h
    · cases h
    · rename_i hn
      split at h
      · rename_i hgd
        split at h
        · rename_i v hs' l' h1
          have he := (eqs_app (hmono h)).1
          exact ⟨d, v, hs', _, _, _, ⟨hd, .inl ⟨wN hgd, ev1_both (cur := []) hG hM hf hg trivial h1 he⟩⟩, hf.put hn, gOK_put hg, h⟩
        · cases h
      · rename_i j want hgd
        split at h
        · cases h
        · rename_i dj hdj
          have hdj' := gslot_eq hdj
          split at h
          · cases h
          · rename_i hnj
            split at h
            · rename_i hs'
              split at h
              · cases h
              · rename_i hne
                split at h
                · rename_i v hs2 l' h1
                  have he := (eqs_app (hmono h)).1
                  have hne' : dj ≠ d := fun e => by rw [e] at hne; simp at hne
                  by_cases hbs : a.tmps.getD dj undef = .bool want
                  · refine ⟨d, v, hs2, _, _, _, ⟨hd, .inl ⟨(want_iff hf hgd hdj' hnj).2 hbs, ev1_both (cur := [(dj, want)]) hG hM hf hg ⟨hbs, trivial⟩ h1 he⟩⟩, hf.rm, (show gOK (a.put (some d) v) (⟨d, dj, want, v⟩ :: rmG gs d) from ⟨fun _ => put_self hf.size hn, gOK_put hg⟩), h⟩
                  · refine ⟨d, undef, hs2, _, _, _, ⟨hd, .inr ⟨by rw [Bool.eq_false_iff]; exact fun hw => hbs ((want_iff hf hgd hdj' hnj).1 hw), rfl⟩⟩, hf.rm, (show gOK (a.put (some d) undef) (⟨d, dj, want, v⟩ :: rmG gs d) from ⟨fun hx => ?_, gOK_put hg⟩), h⟩
                    simp only at hx
                    rw [put_ne hne'] at hx
                    exact absurd hx hbs
                · cases h
            · rename_i q hs' hq
              split at h
              · rename_i b hb
                split at h
                · rename_i hbw
                  have hbw : b = want := by simpa using hbw
                  subst hbw
                  split at h
                  · rename_i v hs2 l' h1
                    have he := (eqs_app (hmono h)).1
                    exact ⟨d, v, hs2, _, _, _, ⟨hd, .inl ⟨wantT hf hgd hdj' hb hnj, ev1_both (cur := []) hG hM hf hg trivial h1 he⟩⟩, hf.put hn, gOK_put hg, h⟩
                  · cases h
                · rename_i hbw
                  exact ⟨d, undef, hs', _, _, _, ⟨hd, .inr ⟨wantF hf hgd hdj' hb hbw hnj, rfl⟩⟩, hf.put hn, gOK_put hg, h⟩
              · rename_i hb
                exact ⟨d, undef, hs', _, _, _, ⟨hd, .inr ⟨wantU hf hgd hdj' hb hnj, rfl⟩⟩, hf.put hn, gOK_put hg, h⟩
              · cases h
            · cases h
theorem ev_mono {frz : List (Nat × Value)} {gsz : List Sl} {lz : List (Nat × Nat)} (hz : eqs lz) : ∀ {os : List Oper} {hs : List Nat} {fr : List (Nat × Value)} {gs : List Sl} {l : List (Nat × Nat)}, ev G ops n M os hs fr gs l = some (frz, gsz, lz) → eqs l
  | [], hs, fr, gs, l, h => by
    simp only [ev, Option.some.injEq, Prod.mk.injEq] at h
    rw [h.2.2]; exact hz
  | o :: rest, hs, fr, gs, l, h => by
    rw [ev] at h
    split at h
    · cases h
    · split at h
      · cases h
      · split at h
        · split at h
          · exact (eqs_app (ev_mono hz h)).2
          · cases h
        · split at h
          · cases h
          · split at h
            · cases h
            · split at h
              · split at h
                · cases h
                · split at h
                  · exact (eqs_app (ev_mono hz h)).2
                  · cases h
              · split at h
                · split at h
                  · split at h
                    · exact (eqs_app (ev_mono hz h)).2
                    · cases h
                  · exact ev_mono hz h
                · exact ev_mono hz h
                · cases h
              · cases h
theorem sp_aux {w : World} {Q : Exit → Act → World → Prop} (hG : GOK P G) (hM : memOK w M) {frz : List (Nat × Value)} {gsz : List Sl} {lz : List (Nat × Nat)} (hz : eqs lz) : ∀ (k : Nat) {rest : List Oper} {hs : List Nat} {fr : List (Nat × Value)} {gs : List Sl} {l : List (Nat × Nat)} {a : Act},
    Fr n fr a → gOK a gs → ev G ops n M (rest.take k) hs fr gs l = some (frz, gsz, lz) → (∀ a', Fr n frz a' → wpList P ops Q (rest.drop k) a' w) → wpList P ops Q rest a w
  | 0, rest, hs, fr, gs, l, a, hf, _, h, hk => by
    simp only [List.take_zero, ev, Option.some.injEq, Prod.mk.injEq] at h
    have := hk a (by rw [← h.1]; exact hf)
    simpa using this
  | k + 1, [], hs, fr, gs, l, a, hf, _, h, hk => by
    simp only [List.take_nil, ev, Option.some.injEq, Prod.mk.injEq] at h
    have := hk a (by rw [← h.1]; exact hf)
    simpa using this
  | k + 1, o :: rest, hs, fr, gs, l, a, hf, hg, h, hk => by
    rw [List.take_succ_cons] at h
    obtain ⟨d, u, hs', fr', gs', l', ⟨hd, hs1⟩, hf', hg', h'⟩ := ev_step (C := fun w' => w' = w) hG (fun w' e => by subst e; exact hM) hf hg h hz (ev_mono hz)
    have next := sp_aux hG hM hz k hf' hg' h' (by simpa using hk)
    refine wpList_step fun K hK => ?_
    rcases hs1 with ⟨hw, hy, _⟩ | ⟨hw, rfl⟩
    · rw [if_pos hw]
      unfold Oper.wp
      rw [show (execOp a.eval o).run P w = _ from hy w rfl]
      show K (a.put o.dst u) w
      rw [hd]
      exact hK _ _ next
    · rw [if_neg (by simp [hw]), hd]
      exact hK _ _ next
theorem qp_aux {Qq : Act → Prop} (hG : GOK P G) (hM : ∀ w, C w → memOK w M) {frz : List (Nat × Value)} {gsz : List Sl} {lz : List (Nat × Nat)} (hz : eqs lz) : ∀ (k : Nat) {rest : List Oper} {hs : List Nat} {fr : List (Nat × Value)} {gs : List Sl} {l : List (Nat × Nat)} {a : Act},
    Fr n fr a → gOK a gs → ev G ops n M (rest.take k) hs fr gs l = some (frz, gsz, lz) → (∀ a', Fr n frz a' → wpQuiet P ops C Qq (rest.drop k) a') → wpQuiet P ops C Qq rest a
  | 0, rest, hs, fr, gs, l, a, hf, _, h, hk => by
    simp only [List.take_zero, ev, Option.some.injEq, Prod.mk.injEq] at h
    have := hk a (by rw [← h.1]; exact hf)
    simpa using this
  | k + 1, [], hs, fr, gs, l, a, hf, _, h, hk => by
    simp only [List.take_nil, ev, Option.some.injEq, Prod.mk.injEq] at h
    have := hk a (by rw [← h.1]; exact hf)
    simpa using this
  | k + 1, o :: rest, hs, fr, gs, l, a, hf, hg, h, hk => by
    rw [List.take_succ_cons] at h
    obtain ⟨d, u, hs', fr', gs', l', ⟨hd, hs1⟩, hf', hg', h'⟩ := ev_step (C := C) hG hM hf hg h hz (ev_mono hz)
    have next := qp_aux hG hM hz k hf' hg' h' (by simpa using hk)
    unfold wpQuiet
    rcases hs1 with ⟨hw, hy, _⟩ | ⟨hw, rfl⟩
    · rw [if_pos hw]
      refine ⟨u, fun w hc => ?_, ?_⟩
      · unfold Oper.quietAt
        rw [show (execOp a.eval o).run P w = _ from hy w hc]
        exact ⟨rfl, rfl⟩
      · rw [hd]; exact next
    · rw [if_neg (by simp [hw]), hd]
      exact next
theorem evc_some {os : List Oper} {hs : List Nat} {fr : List (Nat × Value)} {keep : List Nat} {k : List (Nat × Value)} {L : List (Nat × Nat)} (h : evc G ops n M os hs fr keep = some (k, L)) : ∃ frz gsz, ev G ops n M os hs fr [] [] = some (frz, gsz, L) ∧ subs frz k := by
  unfold evc at h
  split at h
  · rename_i fr' gs' l h1
    split at h
    · rename_i k' h2
      simp only [Option.some.injEq, Prod.mk.injEq] at h
      obtain ⟨rfl, rfl⟩ := h
      exact ⟨fr', gs', h1, cutF_ok h2⟩
    · cases h
  · cases h
theorem sp (k : Nat) (keep hs : List Nat) {w : World} {Q : Exit → Act → World → Prop} {rest : List Oper} {fr fr' : List (Nat × Value)} {L : List Nat} {a : Act} (hG : GOK P G) (hM : memOK w M) (hf : Fr n fr a) (he : evc G ops n M (rest.take k) hs fr keep = some (fr', dup L))
    (next : ∀ a', Fr n fr' a' → wpList P ops Q (rest.drop k) a' w) : wpList P ops Q rest a w := by
  obtain ⟨frz, gsz, h1, h2⟩ := evc_some he
  exact sp_aux (gs := []) hG hM (eqs_dup L) k hf trivial h1 fun a' hf' => next a' (hf'.sub h2)
theorem qp (k : Nat) (keep hs : List Nat) {Qq : Act → Prop} {rest : List Oper} {fr fr' : List (Nat × Value)} {L : List Nat} {a : Act} (hG : GOK P G) (hM : ∀ w, C w → memOK w M) (hf : Fr n fr a) (he : evc G ops n M (rest.take k) hs fr keep = some (fr', dup L))
    (next : ∀ a', Fr n fr' a' → wpQuiet P ops C Qq (rest.drop k) a') : wpQuiet P ops C Qq rest a := by
  obtain ⟨frz, gsz, h1, h2⟩ := evc_some he
  exact qp_aux (gs := []) hG hM (eqs_dup L) k hf trivial h1 fun a' hf' => next a' (hf'.sub h2)
end
def inL : List Nat → Nat → Bool
  | [], _ => false
  | i :: r, j => Nat.beq i j || inL r j
section
variable {P : Program} {ops : Array Oper} {Q : Exit → Act → World → Prop} {md : Region.Mode} {S : World → Prop} {p : Nat}
def wpAnyP (P : Program) (md : Region.Mode) (ops : Array Oper) (Q : Exit → Act → World → Prop) (p : Nat) (S : World → Prop) : Nat → Array Bool → Act → World → Prop
  | 0, listed, a, w => Region.ready md ops listed = [] ∧ Q .normal a w
  | fuel + 1, listed, a, w =>
    (Region.ready md ops listed = [] → Q .normal a w) ∧
    ∀ i ∈ Region.ready md ops listed, wpOp P ops Q i (fun a' w' => ((listed.setIfInBounds i true).getD p false = false → S w') ∧ wpAnyP P md ops Q p S fuel (listed.setIfInBounds i true) a' w') a w
theorem wpAny_of_P : ∀ (fuel : Nat) (listed : Array Bool) (a : Act) (w : World), wpAnyP P md ops Q p S fuel listed a w → wpAny P md ops Q fuel listed a w
  | 0, _, _, _, h => h
  | fuel + 1, _, _, _, h => ⟨h.1, fun i hi => wpOp_mono (fun a' w' h' => wpAny_of_P fuel _ a' w' h'.2) (h.2 i hi)⟩
theorem set_true {ld : Array Bool} {i p : Nat} (h : ld.getD p false = true) : (ld.setIfInBounds i true).getD p false = true := by
  simp only [Array.getD_eq_getD_getElem?, Array.getElem?_setIfInBounds] at h ⊢
  split
  · rename_i e
    subst e
    split
    · rfl
    · rename_i hlt
      rw [Array.getElem?_eq_none (by omega)] at h
      cases h
  · exact h
theorem wpAnyP_of {p' : Nat} {S' : World → Prop} : ∀ (fuel : Nat) (listed : Array Bool) (a : Act) (w : World), listed.getD p false = true → wpAnyP P md ops Q p' S' fuel listed a w → wpAnyP P md ops Q p S fuel listed a w
  | 0, _, _, _, _, h => h
  | fuel + 1, _, _, _, hp, h => ⟨h.1, fun i hi => wpOp_mono (fun a' w' h' => ⟨fun hf => absurd ((set_true hp).symm.trans hf) (by simp), wpAnyP_of fuel _ a' w' (set_true hp) h'.2⟩) (h.2 i hi)⟩
def descsOf : List Oper → Nat → Nat → List Nat → List Nat
  | [], _, _, acc => acc
  | o :: r, k, i, acc => descsOf r (k + 1) i (match o.after.toList.any fun e => Region.binds .any e && (Nat.beq e.on i || inL acc e.on) with | true => k :: acc | false => acc)
theorem inL_mem {l : List Nat} {j : Nat} (h : inL l j = true) : j ∈ l := by
  induction l with
  | nil => simp [inL] at h
  | cons i r ih =>
    simp only [inL, Bool.or_eq_true] at h
    rcases h with h | h
    · rw [Nat.eq_of_beq_eq_true h]; simp
    · exact List.mem_cons_of_mem _ (ih h)
def DOk (ops : Array Oper) (i : Nat) (U : List Nat) : Prop := ∀ u ∈ U, ∃ o, ops[u]? = some o ∧ ∃ e ∈ o.after, Region.binds .any e = true ∧ (e.on = i ∨ e.on ∈ U)
theorem descs_ok {ops : Array Oper} {i : Nat} : ∀ {l : List Oper} {k : Nat} {acc : List Nat}, (∀ m o, l[m]? = some o → ops[k + m]? = some o) → DOk ops i acc → DOk ops i (descsOf l k i acc)
  | [], _, _, _, h => h
  | o :: r, k, acc, hl, h => by
    rw [descsOf]
    refine descs_ok (fun m o' hm => by have := hl (m + 1) o' (by simpa using hm); rwa [show k + (m + 1) = k + 1 + m by omega] at this) ?_
    split
    · rename_i hb
      intro u hu
      rcases List.mem_cons.1 hu with rfl | hu
      · simp only [List.any_eq_true, Bool.and_eq_true, Bool.or_eq_true] at hb
        obtain ⟨e, he, h1, h2⟩ := hb
        refine ⟨o, by simpa using hl 0 o rfl, e, by simpa using he, h1, ?_⟩
        rcases h2 with h2 | h2
        · exact .inl (Nat.eq_of_beq_eq_true h2)
        · exact .inr (List.mem_cons_of_mem _ (inL_mem h2))
      · obtain ⟨o', ho', e, he, h1, h2⟩ := h u hu
        exact ⟨o', ho', e, he, h1, h2.imp id (List.mem_cons_of_mem _)⟩
    · exact h
def waitsB (ops : Array Oper) (p i : Nat) (ds : List Nat) : Bool := (match nth ops.toList p with
  | none => true
  | some _ => inL (descsOf ops.toList 0 i []) p) && (descsOf ops.toList 0 i []).all fun u => !(mkL ops.size ds).getD u false
theorem waitsB_ok {ops : Array Oper} {p i : Nat} {ds : List Nat} (h : waitsB ops p i ds = true) : DOk ops i (descsOf ops.toList 0 i []) ∧ (ops[p]? = none ∨ p ∈ descsOf ops.toList 0 i []) ∧ ∀ u ∈ descsOf ops.toList 0 i [], (mkL ops.size ds).getD u false = false := by
  unfold waitsB at h
  rw [Bool.and_eq_true] at h
  refine ⟨descs_ok (fun m o hm => by simpa using hm) (fun u hu => by simp at hu), ?_, fun u hu => ?_⟩
  · have h1 := h.1
    rw [nth_eq, Array.getElem?_toList] at h1
    split at h1
    · rename_i hn; exact .inl hn
    · exact .inr (inL_mem h1)
  · have := List.all_eq_true.1 h.2 u hu
    simpa using this
theorem wpAnyP_first {i : Nat} {oi : Oper} {v : Value} (hi : ops[i]? = some oi) (hsel : ∀ (j : Nat) (o : Oper) cs b, ops[j]? = some o → o.op ≠ .select cs b) (hpi : p ≠ i)
    (hQ : ∀ c a w, Q (.panic c) (a.put oi.dst v) w → Q (.panic c) a w) {U : List Nat} (hU : DOk ops i U) (hpU : ops[p]? = none ∨ p ∈ U) :
    ∀ (fuel : Nat) (listed : Array Bool) (a : Act) (w : World),
      (∀ j oj, ops[j]? = some oj → j ≠ i → listed.getD j true = false → (∀ e ∈ oj.after, Region.binds .any e = true → e.on ≠ i) → oi.apart ops oj = true) →
      listed.getD p false = false → (∀ u ∈ U, listed.getD u false = false) → i ∈ Region.ready .any ops listed → YieldsIf P ops S oi v a → S w →
      wpAnyP P .any ops Q p S fuel (listed.setIfInBounds i true) (a.put oi.dst v) w → wpAnyP P .any ops Q p S (fuel + 1) listed a w := by
  intro fuel
  induction fuel with
  | zero =>
    intro listed a w _ _ _ hr hy hS H
    refine ⟨fun h => (by rw [h] at hr; cases hr), fun j hj => ?_⟩
    by_cases hji : j = i
    · subst hji; exact hy.wpOp hi hS ⟨fun _ => hS, H⟩
    · have := ready_mono hj hji
      rw [H.1] at this
      cases this
  | succ fuel ih =>
    intro listed a w hfree hpu hun hr hy hS H
    refine ⟨fun h => (by rw [h] at hr; cases hr), fun j hj => ?_⟩
    by_cases hji : j = i
    · subst hji; exact hy.wpOp hi hS ⟨fun _ => hS, H⟩
    · have h1 := H.2 j (ready_mono hj hji)
      obtain ⟨hjun, oj, hoj, hall⟩ := mem_ready.1 hj
      have hnot : ∀ e ∈ oj.after, Region.binds .any e = true → e.on ≠ i := fun e he hb heq => by
        have h1 := hall e he hb
        have h0 := (mem_ready.1 hr).1
        rw [heq] at h1
        rcases Nat.lt_or_ge i listed.size with h' | h'
        · simp [h'] at h0 h1; rw [h0] at h1; cases h1
        · simp [Array.getElem?_eq_none h'] at h1
      have hjU : j ∉ U := fun hju => by
        obtain ⟨o', ho', e, he, hb, h2⟩ := hU j hju
        rw [hoj] at ho'
        simp only [Option.some.injEq] at ho'
        subst ho'
        rcases h2 with h2 | h2
        · exact hnot e he hb h2
        · have h3 := hall e he hb
          rw [hun _ h2] at h3
          cases h3
      have hjp : j ≠ p := fun e => by
        subst e
        rcases hpU with h | h
        · rw [hoj] at h; cases h
        · exact hjU h
      have hun' : ∀ u ∈ U, (listed.setIfInBounds j true).getD u false = false := fun u hu => by
        have := hun u hu
        have hne : j ≠ u := fun e => hjU (e ▸ hu)
        simp only [Array.getD_eq_getD_getElem?, Array.getElem?_setIfInBounds, if_neg hne] at this ⊢
        exact this
      have hpu' : (listed.setIfInBounds j true).getD p false = false := by
        simp only [Array.getD_eq_getD_getElem?, Array.getElem?_setIfInBounds, if_neg hjp] at hpu ⊢
        exact hpu
      have hpu2 : ((listed.setIfInBounds i true).setIfInBounds j true).getD p false = false := by
        simp only [Array.getD_eq_getD_getElem?, Array.getElem?_setIfInBounds, if_neg hjp, if_neg (Ne.symm hpi)] at hpu ⊢
        exact hpu
      have h2 := wpOp_putIf hoj (hfree j oj hoj hji hjun hnot) (fun cs b => hsel i oi cs b hi) (fun cs b => hsel j oj cs b hoj) hQ hy h1
      have hfree' : ∀ k ok, ops[k]? = some ok → k ≠ i → (listed.setIfInBounds j true).getD k true = false →
          (∀ e ∈ ok.after, Region.binds .any e = true → e.on ≠ i) → oi.apart ops ok = true := fun k ok hk hki hun hno => by
        refine hfree k ok hk hki ?_ hno
        by_cases hjk : j = k
        · subst hjk; exact hjun
        · rw [getD_set_ne true hjk] at hun; exact hun
      refine wpOp_mono (fun a' w' h3 => ⟨fun _ => h3.2.1 hpu2, ih (listed.setIfInBounds j true) a' w' hfree' hpu' hun' (ready_mono hr (Ne.symm hji)) h3.1 (h3.2.1 hpu2) ?_⟩) h2
      rw [Array.setIfInBounds_comm _ _ hji]
      exact h3.2.2
theorem wpAnyP_first0 {i : Nat} {oi : Oper} {v : Value} (hi : ops[i]? = some oi) (hsel : ∀ (j : Nat) (o : Oper) cs b, ops[j]? = some o → o.op ≠ .select cs b) (hpi : p ≠ i)
    (hQ : ∀ c a w, Q (.panic c) (a.put oi.dst v) w → Q (.panic c) a w) :
    ∀ (fuel : Nat) (listed : Array Bool) (a : Act) (w : World),
      (∀ j oj, ops[j]? = some oj → j ≠ i → listed.getD j true = false → (∀ e ∈ oj.after, Region.binds .any e = true → e.on ≠ i) → oi.apart ops oj = true) →
      (listed.getD p false = false → S w) → i ∈ Region.ready .any ops listed → YieldsIf P ops (fun _ => True) oi v a →
      wpAnyP P .any ops Q p S fuel (listed.setIfInBounds i true) (a.put oi.dst v) w → wpAnyP P .any ops Q p S (fuel + 1) listed a w := by
  have hset : ∀ (ld : Array Bool) (b : Bool), (ld.setIfInBounds i true).getD p b = ld.getD p b := fun ld b => by
    simp only [Array.getD_eq_getD_getElem?, Array.getElem?_setIfInBounds, if_neg (Ne.symm hpi)]
  intro fuel
  induction fuel with
  | zero =>
    intro listed a w _ hS hr hy H
    refine ⟨fun h => (by rw [h] at hr; cases hr), fun j hj => ?_⟩
    by_cases hji : j = i
    · subst hji; exact hy.wpOp hi trivial ⟨fun h => hS (by rwa [hset] at h), H⟩
    · have := ready_mono hj hji
      rw [H.1] at this
      cases this
  | succ fuel ih =>
    intro listed a w hfree hS hr hy H
    refine ⟨fun h => (by rw [h] at hr; cases hr), fun j hj => ?_⟩
    by_cases hji : j = i
    · subst hji; exact hy.wpOp hi trivial ⟨fun h => hS (by rwa [hset] at h), H⟩
    · have h1 := H.2 j (ready_mono hj hji)
      obtain ⟨hjun, oj, hoj, hall⟩ := mem_ready.1 hj
      have hnot : ∀ e ∈ oj.after, Region.binds .any e = true → e.on ≠ i := fun e he hb heq => by
        have h1 := hall e he hb
        have h0 := (mem_ready.1 hr).1
        rw [heq] at h1
        rcases Nat.lt_or_ge i listed.size with h' | h'
        · simp [h'] at h0 h1; rw [h0] at h1; cases h1
        · simp [Array.getElem?_eq_none h'] at h1
      have h2 := wpOp_putIf hoj (hfree j oj hoj hji hjun hnot) (fun cs b => hsel i oi cs b hi) (fun cs b => hsel j oj cs b hoj) hQ hy h1
      have hfree' : ∀ k ok, ops[k]? = some ok → k ≠ i → (listed.setIfInBounds j true).getD k true = false →
          (∀ e ∈ ok.after, Region.binds .any e = true → e.on ≠ i) → oi.apart ops ok = true := fun k ok hk hki hun hno => by
        refine hfree k ok hk hki ?_ hno
        by_cases hjk : j = k
        · subst hjk; exact hjun
        · rw [getD_set_ne true hjk] at hun; exact hun
      have hS' : ∀ w', (((listed.setIfInBounds i true).setIfInBounds j true).getD p false = false → S w') → (listed.setIfInBounds j true).getD p false = false → S w' := fun w' hx hp' =>
        hx (by rw [Array.setIfInBounds_comm _ _ (Ne.symm hji), hset]; exact hp')
      refine wpOp_mono (fun a' w' h3 => ⟨hS' w' h3.2.1, ih (listed.setIfInBounds j true) a' w' hfree' (hS' w' h3.2.1) (ready_mono hr (Ne.symm hji)) h3.1 ?_⟩) h2
      rw [Array.setIfInBounds_comm _ _ hji]
      exact h3.2.2
end
def Ah (P : Program) (ops : Array Oper) (Q : Exit → Act → World → Prop) (p : Nat) (S : World → Prop) (f : Nat) (ds : List Nat) (a : Act) (w : World) : Prop := ((mkL ops.size ds).getD p false = false → S w) ∧ wpAnyP P .any ops (NoPanic Q) p S f (mkL ops.size ds) a w
def pickOps (ops : List Oper) : List Nat → Option (List Oper)
  | [] => some []
  | i :: r => match nth ops i, pickOps ops r with
    | some o, some os => some (o :: os)
    | _, _ => none
def noLoad (ops : Array Oper) (i : Nat) : Bool := match nth ops.toList i with
  | some o => !isLoad o.op
  | none => false
def takesAll (ops : Array Oper) (p : Nat) : List Nat → List Nat → Bool
  | _, [] => true
  | ds, i :: r => takes ops ds i && (waitsB ops p i ds || noLoad ops i) && !Nat.beq p i && takesAll ops p (i :: ds) r
def revOn : List Nat → List Nat → List Nat
  | [], ds => ds
  | i :: r, ds => revOn r (i :: ds)
section
variable {P : Program} {G : Gam} {ops : Array Oper} {n : FrN} {M : List (Nat × Nat × List Value)} {S : World → Prop} {Q : Exit → Act → World → Prop} {a : Act} {w : World} {f p : Nat} {ds : List Nat}
theorem mkL_set (i : Nat) : mkL ops.size (i :: ds) = (mkL ops.size ds).setIfInBounds i true := rfl
theorem Ah.wpAny (h : Ah P ops Q p S f ds a w) : Go.wpAny P .any ops (NoPanic Q) f (mkL ops.size ds) a w := wpAny_of_P f _ a w h.2
theorem c_anyH {id m : Nat} {lo : List Oper} (p : Nat) (S : World → World → Prop) (hm : P.follows .mixedOrders = true) (hl : Nat.beq lo.length m = true) (h : ∀ w', Ev [] w w' → Ah P lo.toArray Q p (S w') m [] a w') : (Code.region id lo.toArray true).wp P Q a w := by
  have hl := Nat.eq_of_beq_eq_true hl
  subst hl
  exact wp_region_noPanic (wp_region_any hm (h _ (Ev.drew [] w)).wpAny)
theorem ah_done (hc : (Region.ready .any ops (mkL ops.size ds)).isEmpty = true) (h : Q .normal a w) (hS : (mkL ops.size ds).getD p false = false → S w) : Ah P ops Q p S f ds a w := by
  refine ⟨hS, ?_⟩
  have hr := List.isEmpty_iff.1 hc
  cases f with
  | zero => exact ⟨hr, NoPanic.normal h⟩
  | succ f => exact ⟨fun _ => NoPanic.normal h, by rw [hr]; simp⟩
theorem Ah.next (p' : Nat) (S' : World → Prop) (hp : (mkL ops.size ds).getD p false = true) (h : Ah P ops Q p' S' f ds a w) : Ah P ops Q p S f ds a w :=
  ⟨fun hf => absurd (hp.symm.trans hf) (by simp), wpAnyP_of f _ a w hp h.2⟩
theorem ap_aux (hG : GOK P G) (hM : ∀ w, S w → memOK w M) (hSw : S w) {frz : List (Nat × Value)} {gsz : List Sl} {lz : List (Nat × Nat)} (hz : eqs lz) : ∀ (is : List Nat) {os : List Oper} {hs ds : List Nat} {fr : List (Nat × Value)} {gs : List Sl} {l : List (Nat × Nat)} {a : Act},
    (mkL ops.size ds).getD p false = false → pickOps ops.toList is = some os → takesAll ops p ds is = true → Fr n fr a → gOK a gs → ev G ops n M os hs fr gs l = some (frz, gsz, lz) → (∀ a', Fr n frz a' → Ah P ops Q p S f (revOn is ds) a' w) → Ah P ops Q p S (f + is.length) ds a w
  | [], os, hs, ds, fr, gs, l, a, _, ho, _, hf, _, h, hk => by
    simp only [pickOps, Option.some.injEq] at ho
    subst ho
    simp only [ev, Option.some.injEq, Prod.mk.injEq] at h
    exact hk a (by rw [← h.1]; exact hf)
  | i :: is, os, hs, ds, fr, gs, l, a, hpu, ho, ht, hf, hg, h, hk => by
    simp only [pickOps] at ho
    split at ho
    · rename_i o os' h1 h2
      simp only [Option.some.injEq] at ho
      subst ho
      rw [nth_eq, Array.getElem?_toList] at h1
      simp only [takesAll, Bool.and_eq_true, Bool.not_eq_true'] at ht
      obtain ⟨⟨⟨ht1, hwt⟩, hpi⟩, ht2⟩ := ht
      have hpi' : p ≠ i := fun e => by rw [e] at hpi; simp at hpi
      obtain ⟨d, u, hs', fr', gs', l', ⟨hd, hs1⟩, hf', hg', h'⟩ := ev_step (C := S) hG hM hf hg h hz (ev_mono hz)
      have hpu' : (mkL ops.size (i :: ds)).getD p false = false := by
        rw [mkL_set]
        simp only [Array.getD_eq_getD_getElem?, Array.getElem?_setIfInBounds, if_neg (Ne.symm hpi')] at hpu ⊢
        exact hpu
      have next := ap_aux hG hM hSw hz is hpu' h2 ht2 hf' hg' h' hk
      simp only [takes, Bool.and_eq_true] at ht1
      refine ⟨fun _ => hSw, ?_⟩
      have := next.2
      rw [show f + (i :: is).length = f + is.length + 1 by simp [Nat.add_assoc]]
      rw [Bool.or_eq_true] at hwt
      rcases hwt with hwt | hnl
      · refine wpAnyP_first (v := u) h1 (Region.noSelect_spec ht1.1.1) hpi' (fun c a w h => h) (waitsB_ok hwt).1 (waitsB_ok hwt).2.1 (f + is.length) _ a w (Region.free_spec h1 ht1.1.2) hpu (waitsB_ok hwt).2.2 (by simpa using ht1.2) (hs1.imp (fun ⟨x, y, _⟩ => ⟨x, y⟩) id) hSw ?_
        rw [hd]
        exact this
      · have hnl' : isLoad o.op = false := by
          unfold noLoad at hnl
          rw [nth_eq, Array.getElem?_toList, h1] at hnl
          simpa using hnl
        refine wpAnyP_first0 (v := u) h1 (Region.noSelect_spec ht1.1.1) hpi' (fun c a w h => h) (f + is.length) _ a w (Region.free_spec h1 ht1.1.2) (fun _ => hSw) (by simpa using ht1.2) (hs1.imp (fun ⟨x, _, y⟩ => ⟨x, fun w _ => y hnl' w⟩) id) ?_
        rw [hd]
        exact this
    · cases ho
theorem ap (is : List Nat) (k : Nat) (keep hs : List Nat) {os : List Oper} {fr fr' : List (Nat × Value)} {L : List Nat} (hG : GOK P G) (hM : ∀ w, S w → memOK w M) (hf : Fr n fr a) (hk : Nat.beq is.length k = true) (hpu : (mkL ops.size ds).getD p false = false) (hi : pickOps ops.toList is = some os) (ht : takesAll ops p ds is = true)
    (he : evc G ops n M os hs fr keep = some (fr', dup L)) (hSw : S w) (next : ∀ a', Fr n fr' a' → Ah P ops Q p S f (revOn is ds) a' w) : Ah P ops Q p S (f + k) ds a w := by
  have hk := Nat.eq_of_beq_eq_true hk
  subst hk
  obtain ⟨frz, gsz, h1, h2⟩ := evc_some he
  exact ap_aux (gs := []) hG hM hSw (eqs_dup L) is hpu hi ht hf trivial h1 fun a' hf' => next a' (hf'.sub h2)
theorem ah_o (i : Nat) {o : Oper} (hi : ops[i]? = some o) (hc : (Region.ready .any ops (mkL ops.size ds) == [i]) = true) (hS : (mkL ops.size ds).getD p false = false → S w) (h : wpList P ops (QN (Ah P ops Q p S f (i :: ds)) (NoPanic Q)) [o] a w) : Ah P ops Q p S (f + 1) ds a w := by
  have hr := eq_of_beq hc
  refine ⟨hS, ⟨fun h0 => (by rw [hr] at h0; cases h0), fun j hj => ?_⟩⟩
  rw [hr] at hj
  have : j = i := by simpa using hj
  subst this
  exact wpOp_of_list hi h
theorem ah_n (h : Ah P ops Q p S f ds a w) : wpList P ops (QN (Ah P ops Q p S f ds) (NoPanic Q)) [] a w := h
end
end Gg
namespace Gg
open Go Go.RowKit Cin
theorem bbeq (p q : List UInt8) : ((⟨⟨p⟩⟩ : ByteArray) == ⟨⟨q⟩⟩) = decide (p = q) := by
  show ((⟨p⟩ : Array UInt8) == ⟨q⟩) = _
  rw [Bool.eq_iff_iff]; simp
structure Ky (κ : Type) [DecidableEq κ] where
  enc : κ → Value
  desc : TypeDesc
  same : ∀ a b, Instr.sameNow desc (enc a) (enc b) = some (decide (b = a))
  bits : ∀ a, Instr.sameBits 10000 (enc a) (enc a) = true
  check : ∀ (P : Program) (w : World) (e : Bool) (t : TypeId) (a : κ), P.underlying t = some desc → (Instr.checkKey e 10000 t (enc a)).run P w = .ok () w
section
variable {κ β : Type} [DecidableEq κ] (K : Ky κ) (ev : β → Value)
def EntsAre (es : List MapEntry) (d : List (κ × β)) : Prop := es.map (fun e => (e.key, e.val)) = d.map (fun p => (K.enc p.1, ev p.2))
def MapIs (w : World) (r : Nat) (d : List (κ × β)) : Prop := ∃ es clock, w.heap[r]? = some (.map es clock) ∧ EntsAre K ev es.toList d ∧ (es.toList.map (·.born)).Pairwise (· < ·) ∧ ∀ e ∈ es.toList, e.born < clock
def Ent.map (r : Nat) (d : List (κ × β)) : Ent where
  foot := [r]
  ok w := MapIs K ev w r d
  law w w' h hk := by
    obtain ⟨es, c, h1, h2⟩ := hk
    exact ⟨es, c, (h r (by simp)).trans h1, h2⟩
def Dt.map (r : Nat) (d : List (κ × β)) : Dt where
  ok M w := r ∉ M ∧ r < w.heap.size ∧ MapIs K ev w r d
  law M M' w w' hv hm h := by
    obtain ⟨h1, h2, es, c, h3, h4⟩ := h
    exact ⟨fun hx => by rcases hm r hx with e | e; exact h1 e; omega, Nat.lt_of_lt_of_le h2 hv.size, es, c, (hv.block r h2 h1).trans h3, h4⟩
end
end Gg
namespace Gg
open Go Go.RowKit Cin
def FD (E : List Ent) : Prop := ∀ (i : Nat) (x : Ent), E[i]? = some x → x.foot.Nodup ∧ ∀ (j : Nat) (y : Ent), E[j]? = some y → i ≠ j → ∀ k ∈ x.foot, k ∉ y.foot
theorem fd_of : ∀ {E : List Ent}, (foots E).Nodup → FD E
  | [], _ => fun i x h => by simp at h
  | e :: E, h => by
    have h' : (e.foot ++ foots E).Nodup := by simpa [foots] using h
    rw [List.nodup_append] at h'
    obtain ⟨h1, h2, h3⟩ := h'
    have ih := fd_of h2
    intro i x hx
    cases i with
    | zero =>
      simp only [List.getElem?_cons_zero, Option.some.injEq] at hx
      subst hx
      refine ⟨h1, fun j y hy hne k hk hk' => ?_⟩
      cases j with
      | zero => exact hne rfl
      | succ j => exact h3 k hk k (List.mem_flatMap.2 ⟨y, List.mem_of_getElem? (by simpa using hy), hk'⟩) rfl
    | succ i =>
      have hx : E[i]? = some x := by simpa using hx
      refine ⟨(ih i x hx).1, fun j y hy hne k hk hk' => ?_⟩
      cases j with
      | zero =>
        simp only [List.getElem?_cons_zero, Option.some.injEq] at hy
        subst hy
        exact h3 k hk' k (List.mem_flatMap.2 ⟨x, List.mem_of_getElem? hx, hk⟩) rfl
      | succ j => exact (ih i x hx).2 j y (by simpa using hy) (by omega) k hk hk'
theorem of_fd : ∀ {E : List Ent}, FD E → (foots E).Nodup
  | [], _ => by simp [foots]
  | e :: E, h => by
    have e1 : foots (e :: E) = e.foot ++ foots E := by simp [foots]
    rw [e1, List.nodup_append]
    refine ⟨(h 0 e rfl).1, of_fd fun i x hx => ⟨(h (i + 1) x (by simpa using hx)).1, fun j y hy hne k hk => (h (i + 1) x (by simpa using hx)).2 (j + 1) y (by simpa using hy) (by omega) k hk⟩, fun a ha b hb hab => ?_⟩
    subst hab
    obtain ⟨x, hx, hk⟩ := List.mem_flatMap.1 hb
    obtain ⟨i, hi, rfl⟩ := List.mem_iff_getElem.1 hx
    exact (h 0 e rfl).2 (i + 1) E[i] (by simp [hi]) (by omega) a ha hk
def selE (E : List Ent) : List Nat → Option (List Ent)
  | [] => some []
  | i :: r => match nth E i, selE E r with
    | some x, some xs => some (x :: xs)
    | _, _ => none
def inB : List Nat → Nat → Bool
  | [], _ => false
  | i :: r, j => Nat.beq i j || inB r j
def ndB : List Nat → Bool
  | [] => true
  | i :: r => !inB r i && ndB r
theorem inB_ok {l : List Nat} {j : Nat} (h : inB l j = false) : j ∉ l := by
  induction l with
  | nil => simp
  | cons i r ih =>
    simp only [inB, Bool.or_eq_false_iff] at h
    intro hm
    rcases List.mem_cons.1 hm with rfl | e
    · simp at h
    · exact ih h.2 e
theorem ndB_ok : ∀ {l : List Nat}, ndB l = true → l.Nodup
  | [], _ => by simp
  | i :: r, h => by
    simp only [ndB, Bool.and_eq_true, Bool.not_eq_true'] at h
    exact List.nodup_cons.2 ⟨inB_ok h.1, ndB_ok h.2⟩
theorem selE_at {E : List Ent} : ∀ {is : List Nat} {E' : List Ent}, selE E is = some E' → ∀ (m : Nat) (x : Ent), E'[m]? = some x → ∃ i : Nat, is[m]? = some i ∧ E[i]? = some x
  | [], E', h, m, x, hx => by simp only [selE, Option.some.injEq] at h; subst h; simp at hx
  | i :: r, E', h, m, x, hx => by
    simp only [selE] at h
    split at h
    · rename_i y ys h1 h2
      simp only [Option.some.injEq] at h
      subst h
      cases m with
      | zero =>
        simp only [List.getElem?_cons_zero, Option.some.injEq] at hx
        subst hx
        exact ⟨i, rfl, by rw [← nth_eq]; exact h1⟩
      | succ m => obtain ⟨q, q1, q2⟩ := selE_at h2 m x (by simpa using hx); exact ⟨q, by simpa using q1, q2⟩
    · cases h
section
variable {W w w' : World} {M0 X : List Nat} {E : List Ent} {D : List Dt}
theorem St.sel (h : St W M0 X w E D) (is : List Nat) {E' : List Ent} (hn : ndB is = true) (hs : selE E is = some E') : St W M0 X w E' D := by
  have hmem : ∀ x ∈ E', x ∈ E := fun x hx => by
    obtain ⟨m, hm, rfl⟩ := List.mem_iff_getElem.1 hx
    obtain ⟨i, _, hi⟩ := selE_at hs m _ (List.getElem?_eq_getElem hm)
    exact List.mem_of_getElem? hi
  have hf : ∀ k ∈ foots E', k ∈ foots E := fun k hk => by
    obtain ⟨x, hx, hkx⟩ := List.mem_flatMap.1 hk
    exact List.mem_flatMap.2 ⟨x, hmem x hx, hkx⟩
  have hd := fd_of h.dj
  have hnd := ndB_ok hn
  refine ⟨h.ev, h.ltX, fun k hk => h.lt k (hf k hk), fun x hx => h.ok x (hmem x hx), of_fd fun m x hx => ?_, fun y hy => y.law _ _ w w (Ev.refl _ _) (fun k hk => .inl ?_) (h.rd y hy)⟩
  · obtain ⟨i, hi, hx'⟩ := selE_at hs m x hx
    refine ⟨(hd i x hx').1, fun m' y hy hne k hk => ?_⟩
    obtain ⟨j, hj, hy'⟩ := selE_at hs m' y hy
    refine (hd i x hx').2 j y hy' (fun e => ?_) k hk
    subst e
    obtain ⟨l1, e1⟩ := List.getElem?_eq_some_iff.1 hi
    obtain ⟨l2, e2⟩ := List.getElem?_eq_some_iff.1 hj
    rcases Nat.lt_or_gt_of_ne hne with hlt | hlt
    · exact (List.pairwise_iff_getElem.1 hnd m m' l1 l2 hlt) (e1.trans e2.symm)
    · exact (List.pairwise_iff_getElem.1 hnd m' m l2 l1 hlt) (e2.trans e1.symm)
  · rcases List.mem_append.1 hk with e | e
    · exact List.mem_append.2 (.inl e)
    · exact List.mem_append.2 (.inr (hf k e))
theorem foots_app (A B : List Ent) : foots (A ++ B) = foots A ++ foots B := by simp [foots]
theorem St.into (h : St W M0 X w E D) (m : Nat) : St w (foots (E.take m)) (X ++ foots (E.drop m)) w (E.take m) D := by
  have hE : foots E = foots (E.take m) ++ foots (E.drop m) := by rw [← foots_app, List.take_append_drop]
  have hd := h.dj
  rw [hE, List.nodup_append] at hd
  refine ⟨Ev.refl _ _, fun k hk => ?_, fun k hk => ⟨(h.lt k (by rw [hE]; simp [hk])).1, .inl hk⟩, fun x hx => h.ok x (List.mem_of_mem_take hx), hd.1, fun y hy => y.law _ _ w w (Ev.refl _ _) (fun k hk => .inl ?_) (h.rd y hy)⟩
  · rcases List.mem_append.1 hk with e | e
    · refine ⟨Nat.lt_of_lt_of_le (h.ltX k e).1 h.ev.size, fun hk' => ?_⟩
      have := (h.lt k (by rw [hE]; simp [hk'])).2
      rcases this with e2 | e2
      · exact (h.ltX k e).2 e2
      · have := (h.ltX k e).1; omega
    · exact ⟨(h.lt k (by rw [hE]; simp [e])).1, fun hk' => hd.2.2 k hk' k e rfl⟩
  · rw [hE]
    simp only [List.mem_append] at hk ⊢
    rcases hk with (e | e) | e <;> simp [e]
def Frees : List Dt → Prop
  | [] => True
  | y :: r => (∀ M M' w w', y.ok M w → y.ok M' w') ∧ Frees r
theorem Frees_mem : ∀ {D : List Dt}, Frees D → ∀ y ∈ D, ∀ M M' w w', y.ok M w → y.ok M' w'
  | [], _, y, hy => by simp at hy
  | z :: r, h, y, hy => by
    rcases List.mem_cons.1 hy with rfl | e
    · exact h.1
    · exact Frees_mem h.2 y e
theorem rows_free {α : Type} {T : Ty α} (hT : ∀ F F' w w' cs d, T.rd F w cs d → T.rd F' w' cs d) {xs : List Value} {l : List α} (M M' : List Nat) (w w' : World) (h : (Dt.rows T xs l).ok M w) : (Dt.rows T xs l).ok M' w' := by
  have key : ∀ {l : List α} {xs : List Value}, rdAll T (Fz M w) w xs l → rdAll T (Fz M' w') w' xs l := by
    intro l
    induction l with
    | nil => intro xs h; exact h
    | cons d r ih => intro xs h; obtain ⟨cs, ys, rfl, h1, h2⟩ := h; exact ⟨cs, ys, rfl, hT _ _ _ _ _ _ h1, ih h2⟩
  exact key h
theorem St.backX (h : St W M0 X w E D) (m : Nat) {X' : List Nat} {P' : List Ent} {D' : List Dt} (k : St w (foots (E.take m)) X' w' P' D') (hD : ∀ y ∈ D', y.ok (X ++ foots (P' ++ E.drop m)) w') : St W M0 X w' (P' ++ E.drop m) (D' ++ D) := by
  have hE : foots E = foots (E.take m) ++ foots (E.drop m) := by rw [← foots_app, List.take_append_drop]
  have hd := h.dj
  rw [hE, List.nodup_append] at hd
  have hP : ∀ b ∈ foots (E.take m), b < w.heap.size ∧ (b ∈ M0 ∨ W.heap.size ≤ b) := fun b hb => h.lt b (by rw [hE]; simp [hb])
  have hR : ∀ b ∈ foots (E.drop m), b < w.heap.size ∧ (b ∈ M0 ∨ W.heap.size ≤ b) := fun b hb => h.lt b (by rw [hE]; simp [hb])
  have hv := k.ev
  have hap : ∀ b ∈ foots P', b ∉ foots (E.drop m) := fun b hb hb' => by
    rcases (k.lt b hb).2 with e | e
    · exact hd.2.2 b e b hb' rfl
    · have := (hR b hb').1; omega
  refine ⟨h.ev.trans hv (fun b hb => (hP b hb).2), h.ltX, fun b hb => ?_, fun x hx => ?_, ?_, fun y hy => ?_⟩
  · rw [foots_app] at hb
    rcases List.mem_append.1 hb with e | e
    · refine ⟨(k.lt b e).1, ?_⟩
      rcases (k.lt b e).2 with e2 | e2
      · exact (hP b e2).2
      · exact .inr (Nat.le_trans h.ev.size e2)
    · exact ⟨Nat.lt_of_lt_of_le (hR b e).1 hv.size, (hR b e).2⟩
  · rcases List.mem_append.1 hx with e | e
    · exact k.ok x e
    · refine x.law w w' (fun b hb => ?_) (h.ok x (List.mem_of_mem_drop e))
      have hb' : b ∈ foots (E.drop m) := List.mem_flatMap.2 ⟨x, e, hb⟩
      exact hv.block b (hR b hb').1 (fun hk => hd.2.2 b hk b hb' rfl)
  · rw [foots_app, List.nodup_append]
    exact ⟨k.dj, hd.2.1, fun a ha b hb e => by subst e; exact hap a ha hb⟩
  · rcases List.mem_append.1 hy with e | e
    · exact hD y e
    · refine y.law _ _ w w' (hv.mono fun b hb => ?_) (fun b hb => ?_) (h.rd y e)
      · rw [hE]; simp [hb]
      · rw [foots_app] at hb
        rw [hE]
        simp only [List.mem_append] at hb ⊢
        rcases hb with e1 | e1 | e1
        · simp [e1]
        · rcases (k.lt b e1).2 with e2 | e2
          · simp [e2]
          · exact .inr e2
        · simp [e1]
theorem St.back (h : St W M0 X w E D) (m : Nat) {P' : List Ent} {D' : List Dt} (k : St w (foots (E.take m)) (X ++ foots (E.drop m)) w' P' D') : St W M0 X w' (P' ++ E.drop m) (D' ++ D) :=
  h.backX m k fun y hy => y.law _ _ w' w' (Ev.refl _ _) (fun b hb => .inl (by
    rw [foots_app] at hb
    simp only [List.mem_append] at hb ⊢
    rcases hb with e | e | e <;> simp [e])) (k.rd y hy)
theorem St.backL (h : St W M0 X w E D) (m : Nat) {X' : List Nat} {P' : List Ent} {D' : List Dt} (hF : Frees D') (k : St w (foots (E.take m)) X' w' P' D') : St W M0 X w' (P' ++ E.drop m) (D' ++ D) :=
  h.backX m k fun y hy => Frees_mem hF y hy _ _ _ _ (k.rd y hy)
end
end Gg
namespace Gg
open Go Go.RowKit Cin
section
variable {P : Program} {ops : Array Oper} {Q : Exit → Act → World → Prop} {a : Act} {w : World} {rest : List Oper} {o : Oper} {n : FrN} {d : Nat} {l : List (Nat × Value)}
  {W : World} {M0 X : List Nat} {E : List Ent} {D : List Dt}
theorem St.litRow {α : Type} {e sz g m : Nat} {cs : List Value} (h : St W M0 X w E D) (i : Nat) (li : List α) (hi : E[i]? = some (Ent.blk g e cs)) (hl : li.length = m) (hc : Nat.beq cs.length (m * sz) = true) (hm : Nat.ble m 1000000 = true) : St W M0 X w (E.set i (Ent.row e sz (.slice (some ⟨g, 0, none⟩) m m) li cs)) D := by
  have hb : w.heap[g]? = some (.cells cs.toArray e (0, 0)) := h.e i hi
  have hc := Nat.eq_of_beq_eq_true hc
  have hm := Nat.le_of_ble_eq_true hm
  refine h.turnI i hi (Ev.refl _ _) ?_ (by simp [Ent.row, Value.ownBlock]) (fun k hk => .inl (by simpa [Ent.row, Value.ownBlock, Ent.blk] using hk))
  show w.ownsRow 0 e sz (.slice (some ⟨g, 0, none⟩) m m) li.length cs
  refine ⟨by rw [hl]; exact hc, .inr ⟨g, m, cs.toArray, by rw [hl], Nat.zero_le _, hb, by omega, by simp only [maxLen]; omega, by simpa using hc, ?_⟩⟩
  rw [hl, ← hc, List.take_length]
theorem St.rowsAt (h : St W M0 X w E D) {α : Type} {T : Ty α} {xs : List Value} {li : List α} (hr : rdAll T (Fz (X ++ foots E) w) w xs li) : St W M0 X w E (Dt.rows T xs li :: D) := h.more hr
theorem sapp_core {α : Type} {T : Ty α} {t e : TypeId} {x y : Operand} {z : Value} {bytes m c : Nat} {v : Value} {li ml l' : List α} {xs cs : List Value} {ad : Addr} (i : Nat) (hm : St W M0 X w E D) (hi : E[i]? = some (Ent.row e T.size v li xs))
    (hT : P.underlying t = some (.slice e)) (hinfo : (P.info? e).map (fun i => (i.zero, i.size, i.bytes)) = some (some z, T.size, bytes)) (hz : z.cells.size = T.size) (hsz : 0 < T.size)
    (hr : app bytes li ml = some l') (hml : ml.length = m) (hby : 0 < bytes)
    (hxs : rdAll T (Fz (X ++ foots E) w) w xs li) (hcs : rdAll T (Fz (X ++ foots E) w) w cs ml) (hcell : ∀ j u, cs[j]? = some u → w.cell? (ad.add j) = some u)
    (hw : Region.wanted o (yielded ops a.tmps) = true)
    (ho : o.op = .call { callee := .builtin .append, args := #[x, y], argTypes := #[t, t] }) (hx : a.eval x = v) (hy : a.eval y = .slice (some ad) m c) (hf : Fr n l a) (hd : o.dst = some d) (hn : Nat.blt d n = true)
    (k : ∀ a' A c' w', Ev v.ownBlock.toList w w' → Fr n ((d, .slice A l'.length c') :: l) a' → St W M0 X w' (E.set i (Ent.row e T.size (.slice A l'.length c') l' (xs ++ cs))) (Dt.rows T (xs ++ cs) l' :: D) → wpList P ops Q rest a' w') : wpList P ops Q (o :: rest) a w := by
  obtain ⟨i0, hi0, hz0, hs0, hb0⟩ := info_p hinfo
  obtain ⟨happ, rfl⟩ := app_some hr
  have hown : w.ownsRow 0 e T.size v li.length xs := hm.e i hi
  subst hml
  have hb63 : li.length + ml.length ≤ maxLen := by
    have h2 := Nat.le_mul_of_pos_right (li.length + ml.length) hby
    simp only [maxLen]
    omega
  obtain ⟨v', w', hrun, h2, h3, _, h5⟩ := run_append_own_at (P := P) w 0 t o.type e i0 z T.size bytes hT hi0 hz0 hs0 hb0 hz hsz v li.length xs hown ad ml.length c cs (rdAll_len T hcs)
    hcell (rdAll_one T hcs) hb63 happ (Nat.zero_le _)
  have hrow : (Ent.row e T.size v' (li ++ ml) (xs ++ cs)).ok w' := by
    show w'.ownsRow 0 e T.size v' (li ++ ml).length (xs ++ cs)
    rw [List.length_append]; exact h2
  obtain ⟨A, c', rfl, _⟩ := row_val hrow
  have hyv : Yv P o a w (.slice A (li ++ ml).length c') w' := by
    simp only [Yv, execOp, ho, resolve, invoke, builtin, Sem.run_bind, Sem.run_pure, Result.andThen_ok, List.map_toArray, List.map_cons, List.map_nil, hx, hy, hrun]
  have hm2 := hm.rowsAt (rdAll_append T hcs hxs)
  refine sv hw hyv hf hd hn fun a' hf' => k a' A c' w' (Ev.grown h3) hf' (hm2.turnI i hi (Ev.grown h3) hrow (opt_nodup _) fun q hq => ?_)
  have hq' : (Value.slice A (li ++ ml).length c').ownBlock = some q := by simpa [Ent.row] using hq
  rcases h5 with e5 | e5
  · left; simpa [Ent.row, ← e5] using hq'
  · right
    rw [e5] at hq'
    injection hq' with hq'
    subst hq'
    refine ⟨Nat.le_refl _, ?_⟩
    rcases h2.2 with ⟨hv, _⟩ | ⟨g', cap, cur, hv, _, hg', _⟩
    · rw [hv] at e5; simp [Value.ownBlock] at e5
    · rw [hv] at e5
      have : g' = w.heap.size := by simpa [Value.ownBlock] using e5
      subst this
      exact (Array.getElem?_eq_some_iff.1 hg').1
theorem sappL {α : Type} {T : Ty α} {t e : TypeId} {x y : Operand} {z : Value} {bytes g m c : Nat} {v : Value} {li ml l' : List α} {xs cs : List Value} (i j q : Nat) (hm : St W M0 X w E D) (hi : E[i]? = some (Ent.row e T.size v li xs)) (hj : E[j]? = some (Ent.blk g e cs)) (hq : D[q]? = some (Dt.rows T xs li))
    (hT : P.underlying t = some (.slice e)) (hinfo : (P.info? e).map (fun i => (i.zero, i.size, i.bytes)) = some (some z, T.size, bytes)) (hz : z.cells.size = T.size) (hsz : Nat.blt 0 T.size = true)
    (hr : app bytes li ml = some l') (hml : ml.length = m) (hby : Nat.blt 0 bytes = true) (hcs : rdAll T (Fz (X ++ foots E) w) w cs ml)
    (hw : Region.wanted o (yielded ops a.tmps) = true)
    (ho : o.op = .call { callee := .builtin .append, args := #[x, y], argTypes := #[t, t] }) (hx : a.eval x = v) (hy : a.eval y = .slice (some ⟨g, 0, none⟩) m c) (hf : Fr n l a) (hd : o.dst = some d) (hn : Nat.blt d n = true)
    (k : ∀ a' A c' xs' w', Fr n ((d, .slice A l'.length c') :: l) a' → St W M0 X w' ((E.set i (Ent.row e T.size (.slice A l'.length c') l' xs')).eraseIdx j) (Dt.rows T xs' l' :: D) → wpList P ops Q rest a' w') : wpList P ops Q (o :: rest) a w := by
  have hb := hm.e j hj
  exact sapp_core i hm hi hT hinfo hz (Nat.le_of_ble_eq_true hsz) hr hml (Nat.le_of_ble_eq_true hby) (hm.d q hq) hcs (fun j u hu => by rw [addr_add]; simpa using blk_cell hb hu) hw ho hx hy hf hd hn
    fun a' A c' w' _ hf' hm' => k a' A c' _ w' hf' (hm'.eraseE j)
theorem run_bound {x : Value} {y : Nat} {code : BoundsCode} {k : IntKind} {i : Int} (hx : x = .int k i) (h : 0 ≤ i ∧ i ≤ y) : (Instr.sliceBound x y code).run P w = .ok i.toNat w := by
  subst hx
  simp [Instr.sliceBound, asIntOf, h]
end
end Gg
namespace Gg
open Go Go.RowKit Cin
section
variable {P : Program} {ops : Array Oper} {Q : Exit → Act → World → Prop} {a : Act} {w : World} {rest : List Oper} {o : Oper} {n : FrN} {d : Nat} {l : List (Nat × Value)}
  {W : World} {M0 X : List Nat} {E : List Ent} {D : List Dt}
theorem cut_some {α : Type} {l r : List α} {i j : Int} (h : cut l i j = some r) : (0 ≤ i ∧ i ≤ j ∧ j ≤ l.length) ∧ r = (l.take j.toNat).drop i.toNat := by
  unfold cut at h
  split at h
  · rename_i h0; exact ⟨h0, by simpa using h.symm⟩
  · cases h
end
end Gg
namespace Gg
open Go Go.RowKit Cin
section
variable {P : Program} {ops : Array Oper} {Q : Exit → Act → World → Prop} {a : Act} {w : World} {rest : List Oper} {o : Oper} {n : FrN} {d : Nat} {l : List (Nat × Value)}
  {W : World} {M0 X : List Nat} {E : List Ent} {D : List Dt}
theorem Fr.bt (hf : Fr n l a) (t : Nat) {b c : Bool} (hl : lk l t = some (.bool b)) (hb : b = c) : Fr n ((t, .bool c) :: l) a :=
  ⟨hf.size, hf.defers, fun u v h => by
    simp only [lk] at h
    cases hbq : Nat.beq t u with
    | true =>
      rw [hbq] at h
      simp only [Option.some.injEq] at h
      rw [← Nat.eq_of_beq_eq_true hbq, ← h, ← hb]
      exact hf.get t _ hl
    | false => rw [hbq] at h; exact hf.get u v h⟩
theorem ev_ev {w w1 w2 : World} (h : Ev [] w w1) (h' : Ev [] w1 w2) : Ev [] w w2 := h.trans h' (by simp)
theorem nnew {t : TypeId} {cs : List Value} (hw : Region.wanted o (yielded ops a.tmps) = true) (hy : Yv P o a w (.pointer (some ⟨w.heap.size, 0, none⟩)) (w.alloc (.cells cs.toArray t))) (hf : Fr n l a) (hm : St W M0 X w E D)
    (hd : o.dst = some d) (hn : Nat.blt d n = true) (k : ∀ a' g w', Ev [] w w' → Fr n ((d, .pointer (some ⟨g, 0, none⟩)) :: l) a' → St W M0 X w' (Ent.blk g t cs :: E) D → wpList P ops Q rest a' w') : wpList P ops Q (o :: rest) a w :=
  sv hw hy hf hd hn fun a' hf' => k a' _ _ (Ev.alloc _ _ _) hf' (hm.new t cs)
theorem nnewS {t : TypeId} {cs : List Value} {m : Nat} (hw : Region.wanted o (yielded ops a.tmps) = true) (hy : Yv P o a w (.slice (some ⟨w.heap.size, 0, none⟩) m m) (w.alloc (.cells cs.toArray t))) (hf : Fr n l a) (hm : St W M0 X w E D)
    (hd : o.dst = some d) (hn : Nat.blt d n = true) (k : ∀ a' g w', Ev [] w w' → Fr n ((d, .slice (some ⟨g, 0, none⟩) m m) :: l) a' → St W M0 X w' (Ent.blk g t cs :: E) D → wpList P ops Q rest a' w') : wpList P ops Q (o :: rest) a w :=
  sv hw hy hf hd hn fun a' hf' => k a' _ _ (Ev.alloc _ _ _) hf' (hm.new t cs)
theorem ah_v {S : World → Prop} {f p : Nat} {ds : List Nat} {v : Value} (i : Nat) (hi : ops[i]? = some o) (hpu : (mkL ops.size ds).getD p false = false) (ht : (takes ops ds i && waitsB ops p i ds && !Nat.beq p i) = true) (hw : Region.wanted o (yielded ops a.tmps) = true) (hy : ∀ w', S w' → Yv P o a w' v w') (hSw : S w)
    (hf : Fr n l a) (hd : o.dst = some d) (hn : Nat.blt d n = true) (k : ∀ a', Fr n ((d, v) :: l) a' → Ah P ops Q p S f (i :: ds) a' w) : Ah P ops Q p S (f + 1) ds a w := by
  simp only [Bool.and_eq_true, Bool.not_eq_true'] at ht
  obtain ⟨⟨ht1, hwt⟩, hpi⟩ := ht
  have hpi' : p ≠ i := fun e => by rw [e] at hpi; simp at hpi
  simp only [takes, Bool.and_eq_true] at ht1
  refine ⟨fun _ => hSw, ?_⟩
  refine wpAnyP_first (v := v) hi (Region.noSelect_spec ht1.1.1) hpi' (fun c a w h => h) (waitsB_ok hwt).1 (waitsB_ok hwt).2.1 f _ a w (Region.free_spec hi ht1.1.2) hpu (waitsB_ok hwt).2.2 (by simpa using ht1.2) (.inl ⟨hw, hy⟩) hSw ?_
  rw [hd]
  exact (k _ (hf.put hn)).2
theorem ah_v0 {S : World → Prop} {f p : Nat} {ds : List Nat} {v : Value} (i : Nat) (hi : ops[i]? = some o) (ht : (takes ops ds i && !Nat.beq p i) = true) (hw : Region.wanted o (yielded ops a.tmps) = true) (hy : ∀ w', Yv P o a w' v w') (hSw : S w)
    (hf : Fr n l a) (hd : o.dst = some d) (hn : Nat.blt d n = true) (k : ∀ a', Fr n ((d, v) :: l) a' → Ah P ops Q p S f (i :: ds) a' w) : Ah P ops Q p S (f + 1) ds a w := by
  simp only [Bool.and_eq_true, Bool.not_eq_true'] at ht
  obtain ⟨ht1, hpi⟩ := ht
  have hpi' : p ≠ i := fun e => by rw [e] at hpi; simp at hpi
  simp only [takes, Bool.and_eq_true] at ht1
  refine ⟨fun _ => hSw, ?_⟩
  refine wpAnyP_first0 (v := v) hi (Region.noSelect_spec ht1.1.1) hpi' (fun c a w h => h) f _ a w (Region.free_spec hi ht1.1.2) (fun _ => hSw) (by simpa using ht1.2) (.inl ⟨hw, fun w _ => hy w⟩) ?_
  rw [hd]
  exact (k _ (hf.put hn)).2
theorem St.swap {x y : Ent} (h : St W M0 X w (x :: y :: E) D) : St W M0 X w (y :: x :: E) D := by
  have hf : ∀ k, k ∈ foots (y :: x :: E) ↔ k ∈ foots (x :: y :: E) := fun k => by
    simp only [foots, List.flatMap_cons, List.mem_append]
    exact ⟨fun h => by rcases h with h | h | h <;> simp [h], fun h => by rcases h with h | h | h <;> simp [h]⟩
  refine ⟨h.ev, h.ltX, fun k hk => h.lt k ((hf k).1 hk), fun z hz => h.ok z (by simp only [List.mem_cons] at hz ⊢; rcases hz with h | h | h <;> simp [h]), ?_, fun z hz => z.law _ _ w w (Ev.refl _ _) (fun k hk => .inl (by
    rcases List.mem_append.1 hk with e | e
    · exact List.mem_append.2 (.inl e)
    · exact List.mem_append.2 (.inr ((hf k).1 e)))) (h.rd z hz)⟩
  have hd := h.dj
  have e1 : foots (x :: y :: E) = x.foot ++ (y.foot ++ foots E) := by simp [foots]
  have e2 : foots (y :: x :: E) = y.foot ++ (x.foot ++ foots E) := by simp [foots]
  rw [e1, List.nodup_append, List.nodup_append] at hd
  rw [e2, List.nodup_append, List.nodup_append]
  obtain ⟨dx, ⟨dy, dE, dyE⟩, dxy⟩ := hd
  exact ⟨dy, ⟨dx, dE, fun a ha b hb => dxy a ha b (by simp [hb])⟩, fun a ha b hb => by
    rcases List.mem_append.1 hb with e | e
    · exact fun e3 => dxy b e a (by simp [ha]) e3.symm
    · exact dyE a ha b e⟩
theorem new_step {K : Act → World → Prop} {i d t : Nat} {c : List Value} (hi : ops[i]? = some o) (hw : Region.wanted o (yielded ops a.tmps) = true) (hy : Yv P o a w (.pointer (some ⟨w.heap.size, 0, none⟩)) (w.alloc (.cells c.toArray t))) (hd : o.dst = some d)
    (h : K (a.put (some d) (.pointer (some ⟨w.heap.size, 0, none⟩))) (w.alloc (.cells c.toArray t))) : wpOp P ops Q i K a w := by
  unfold wpOp
  simp only [hi]
  rw [if_pos hw]
  refine .inl ?_
  unfold Oper.wp
  rw [show (execOp a.eval o).run P w = _ from hy]
  show K (a.put o.dst _) _
  rw [hd]
  exact h
theorem ah_one {S : World → Prop} {f p i : Nat} {ds : List Nat} (hr : Region.ready .any ops (mkL ops.size ds) = [i]) (hS : S w) (h : wpOp P ops (NoPanic Q) i (Ah P ops Q p S f (i :: ds)) a w) : Ah P ops Q p S (f + 1) ds a w :=
  ⟨fun _ => hS, ⟨fun h0 => (by rw [hr] at h0; cases h0), fun j hj => by
    rw [hr] at hj
    have : j = i := by simpa using hj
    subst this
    exact h⟩⟩
theorem ah_new2 {S : World → Prop} {f p : Nat} {ds : List Nat} {oi oj : Oper} {di dj ti tj : Nat} {ci cj : List Value} (i j : Nat) (hi : ops[i]? = some oi) (hj : ops[j]? = some oj) (hc : (Region.ready .any ops (mkL ops.size ds) == [i, j]) = true) (hci : (Region.ready .any ops (mkL ops.size (i :: ds)) == [j]) = true) (hcj : (Region.ready .any ops (mkL ops.size (j :: ds)) == [i]) = true)
    (hm2 : (mkL ops.size (i :: j :: ds) == mkL ops.size (j :: i :: ds)) = true)
    (hgi : oi.guard = none) (hgj : oj.guard = none)
    (hyi : ∀ (b : Act) w, Yv P oi b w (.pointer (some ⟨w.heap.size, 0, none⟩)) (w.alloc (.cells ci.toArray ti))) (hyj : ∀ (b : Act) w, Yv P oj b w (.pointer (some ⟨w.heap.size, 0, none⟩)) (w.alloc (.cells cj.toArray tj)))
    (hf : Fr n l a) (hm : St W M0 X w E D) (hdi : oi.dst = some di) (hdj : oj.dst = some dj) (hni : Nat.blt di n = true) (hnj : Nat.blt dj n = true) (hne : Nat.beq di dj = false) (hS : ∀ w', Ev [] w w' → S w')
    (k : ∀ a' gi gj w', Ev [] w w' → w.heap.size ≤ gi → w.heap.size ≤ gj → Fr n ((di, .pointer (some ⟨gi, 0, none⟩)) :: (dj, .pointer (some ⟨gj, 0, none⟩)) :: l) a' → St W M0 X w' (Ent.blk gi ti ci :: Ent.blk gj tj cj :: E) D → Ah P ops Q p S f (i :: j :: ds) a' w') : Ah P ops Q p S (f + 2) ds a w := by
  have hr := eq_of_beq hc
  have hri := eq_of_beq hci
  have hrj := eq_of_beq hcj
  have hmm := eq_of_beq hm2
  have hne' : di ≠ dj := fun e => by rw [e] at hne; simp at hne
  have hswap : ∀ {gi gj : Nat} {a' : Act}, Fr n ((dj, .pointer (some ⟨gj, 0, none⟩)) :: (di, .pointer (some ⟨gi, 0, none⟩)) :: l) a' → Fr n ((di, .pointer (some ⟨gi, 0, none⟩)) :: (dj, .pointer (some ⟨gj, 0, none⟩)) :: l) a' := fun h => ⟨h.size, h.defers, fun t v ht => h.get t v (by
    simp only [lk] at ht ⊢
    cases e1 : Nat.beq di t <;> cases e2 : Nat.beq dj t <;> simp only [e1, e2] at ht ⊢ <;> first | exact ht | exact absurd ((Nat.eq_of_beq_eq_true e1).trans (Nat.eq_of_beq_eq_true e2).symm) hne')⟩
  refine ⟨fun _ => hS w (Ev.refl _ _), ⟨fun h0 => (by rw [hr] at h0; cases h0), fun m hmem => ?_⟩⟩
  rw [hr] at hmem
  have hij : m = i ∨ m = j := by simpa using hmem
  rcases hij with rfl | rfl
  · have e1 : Ev [] w (w.alloc (.cells ci.toArray ti)) := Ev.alloc _ _ _
    refine new_step hi (wN hgi) (hyi a w) hdi ?_
    have e3 := ev_ev e1 (Ev.alloc [] (w.alloc (.cells ci.toArray ti)) (.cells cj.toArray tj))
    exact ⟨fun _ => hS _ e1, (ah_one (f := f) hri (hS _ e1) (new_step hj (wN hgj) (hyj _ _) hdj (by
      have := k _ _ _ _ e3 (Nat.le_refl _) (by simp) (hswap ((hf.put hni).put hnj)) ((hm.new ti ci).new tj cj).swap
      unfold Ah at this ⊢
      rw [← hmm]
      exact this))).2⟩
  · have e1 : Ev [] w (w.alloc (.cells cj.toArray tj)) := Ev.alloc _ _ _
    refine new_step hj (wN hgj) (hyj a w) hdj ?_
    have e3 := ev_ev e1 (Ev.alloc [] (w.alloc (.cells cj.toArray tj)) (.cells ci.toArray ti))
    exact ⟨fun _ => hS _ e1, (ah_one (f := f) hrj (hS _ e1) (new_step hi (wN hgi) (hyi _ _) hdi (k _ _ _ _ e3 (by simp) (Nat.le_refl _) ((hf.put hnj).put hni) ((hm.new tj cj).new ti ci)))).2⟩
theorem run_callB {f : FuncId} {fx : Operand} {xs : List Operand} {ats : Array TypeId} {vs cs us : List Value}
    (ho : o.op = .call { callee := .value fx, args := xs.toArray, argTypes := ats }) (hcf : ∀ args w, (callFunc f args).run P w = .ok (.enter f args) w) (hfx : a.eval fx = .func (.func f) us.toArray cs.toArray)
    (hxs : evs a xs vs) : (execOp a.eval o).run P w = .ok (.enter f (us ++ vs ++ cs).toArray) w := by
  have h1 := evs_map hxs
  simp only [execOp, ho, resolve, List.map_toArray, h1, hfx]
  simp [Deferred.ofValue, invoke, hcf]
theorem scB {f : FuncId} {fx : Operand} {xs : List Operand} {ats : Array TypeId} {vs cs us : List Value} {R : Ending → World → Prop} (hw : Region.wanted o (yielded ops a.tmps) = true)
    (ho : o.op = .call { callee := .value fx, args := xs.toArray, argTypes := ats }) (hcf : ∀ args w, (callFunc f args).run P w = .ok (.enter f args) w) (hfx : a.eval fx = .func (.func f) us.toArray cs.toArray)
    (hxs : evs a xs vs) (hc : Calls P f (us ++ vs ++ cs).toArray w R) (hf : Fr n l a) (hd : o.dst = some d) (hn : Nat.blt d n = true)
    (k : ∀ e w', R e w' → ∃ v, e = .returned v ∧ ∀ a', Fr n ((d, v) :: l) a' → wpList P ops Q rest a' w') : wpList P ops Q (o :: rest) a w := by
  refine wpList_step fun K hK => ?_
  rw [if_pos hw]
  unfold Oper.wp
  rw [run_callB ho hcf hfx hxs]
  refine hc.mono fun e w' hr => ?_
  obtain ⟨v, rfl, hk⟩ := k e w' hr
  rw [hd]
  exact hK _ _ (hk _ (hf.put hn))
end
section
variable {P : Program} {o : Oper} {a : Act} {w : World} {xs ys : Array Value}
theorem eqF_sub {d sz : Nat} {f : Field} {l : List Field} {us vs : List Value} {e q : Prop} [Decidable e] [Decidable q] (hn : (f.name != "_") = true) (hg : ∀ w, (isAgg f.type).run P w = .ok true w) (hs : ∀ w, (Go.sizeOf f.type).run P w = .ok sz w)
    (hx : xs.extract f.offset (f.offset + sz) = us.toArray) (hy : ys.extract f.offset (f.offset + sz) = vs.toArray) (hq : (Op.equalIn (d + 1) f.type (.agg us.toArray) (.agg vs.toArray)).run P w = .ok (decide q) w)
    (h : (Op.eqFields (d + 1) xs ys l).run P w = .ok (decide e) w) : (Op.eqFields (d + 1) xs ys (f :: l)).run P w = .ok (decide (q ∧ e)) w := by
  have hn' : f.name ≠ "_" := by simpa using hn
  simp only [Op.eqFields, hn', if_true, ne_eq, not_false_iff, part, Sem.run_bind, hg, hs, Result.andThen_ok, hx, hy, Sem.run_pure, hq]
  by_cases hmn : q
  · simp [hmn, h]
  · simp [hmn]
theorem eq_sub {d : Nat} {t : TypeId} {fs : Array Field} {q : Prop} [Decidable q] (ht : P.underlying t = some (.struct fs)) (hp : P.stoodInHeld t = false) (h : (Op.eqFields d xs ys fs.toList).run P w = .ok (decide q) w) : (Op.equalIn (d + 1) t (.agg xs) (.agg ys)).run P w = .ok (decide q) w := by
  have hf : P.fieldsOf t = fs := by simp [Program.fieldsOf, ht]
  have h' := run_equalIn_struct (P := P) w d t xs ys (by rw [hf]; exact ht) hp
  rw [hf, h] at h'
  exact h'
theorem eqF_str {d : Nat} {f : Field} {l : List Field} {m n : List UInt8} {e : Prop} [Decidable e] (hn : (f.name != "_") = true) (hu : P.underlying f.type = some .string) (hg : ∀ w, (isAgg f.type).run P w = .ok false w)
    (hx : xs[f.offset]? = some (Str m)) (hy : ys[f.offset]? = some (Str n)) (h : (Op.eqFields (d + 1) xs ys l).run P w = .ok (decide e) w) : (Op.eqFields (d + 1) xs ys (f :: l)).run P w = .ok (decide (m = n ∧ e)) w := by
  have hn' : f.name ≠ "_" := by simpa using hn
  have heq : (Op.equalIn (d + 1) f.type (Str m) (Str n)).run P w = .ok (decide (m = n)) w := by
    simp only [Op.equalIn, Sem.run_bind, run_underlying hu, Result.andThen_ok]
    rw [← bbeq m n]
    rfl
  simp only [Op.eqFields, hn', if_true, ne_eq, not_false_iff, part, Sem.run_bind, hg, Result.andThen_ok, hx, hy, Bool.false_eq_true, if_false, Sem.run_pure, heq]
  by_cases hmn : m = n
  · subst hmn; simp [h]
  · simp [hmn]
end
section
variable {P : Program} {ops : Array Oper} {Q : Exit → Act → World → Prop} {a : Act} {w : World} {rest : List Oper} {o : Oper} {n : FrN} {d : Nat} {l : List (Nat × Value)}
  {W : World} {M0 X : List Nat} {E : List Ent} {D : List Dt}
theorem rd_bytes {F : Nat → Prop} {w : World} : ∀ s : List UInt8, rdAll tyByte F w (s.map fun b => Value.int .u8 (b.toNat : Int)) s
  | [] => rfl
  | b :: r => ⟨[.int .u8 (b.toNat : Int)], _, rfl, rfl, rd_bytes r⟩
theorem nbytes {t t' e : TypeId} {x : Operand} {s r : List UInt8} (hr : bytesOf s = some r) (ht : P.underlying t = some .string) (ht' : P.underlying t' = some (.slice e)) (he : P.underlying e = some (.int .u8)) (hw : Region.wanted o (yielded ops a.tmps) = true)
    (ho : o.op = .convert t t' x) (hx : a.eval x = Str s) (hf : Fr n l a) (hm : St W M0 X w E D) (hd : o.dst = some d) (hn : Nat.blt d n = true)
    (k : ∀ a' A c w', Ev [] w w' → Fr n ((d, .slice A r.length c) :: l) a' → St W M0 X w' E (Dt.of (tySlice tyByte) [.slice A r.length c] r :: D) → wpList P ops Q rest a' w') : wpList P ops Q (o :: rest) a w := by
  unfold bytesOf at hr
  split at hr
  · rename_i hle
    simp only [Option.some.injEq] at hr
    subst hr
    have hrun := run_bytes_of_string (P := P) w t t' e ⟨⟨s⟩⟩ ht ht' he
    have hsz : (⟨⟨s⟩⟩ : ByteArray).size = s.length := rfl
    have hc := grownCap_ge w s.length 0 e
    have hcm := grownCap_le_maxLen w s.length 0 e (by simp only [maxLen]; omega)
    obtain ⟨B, hB⟩ : ∃ B, B = bytesRow ⟨⟨s⟩⟩ (grownCap w s.length 0 e) := ⟨_, rfl⟩
    obtain ⟨c0, hc0⟩ : ∃ c0, c0 = grownCap w s.length 0 e := ⟨_, rfl⟩
    rw [hsz, ← hB, ← hc0] at hrun
    rw [← hc0] at hc hcm
    have hy : Yv P o a w (.slice (some ⟨w.heap.size, 0, none⟩) s.length c0) (w.drew.alloc (.cells B e (B.size, B.size + 1))) := by
      simp only [Yv, execOp, ho, hx, Sem.run_bind, hrun, Result.andThen_ok]
      rfl
    have hev : Ev [] w (w.drew.alloc (.cells B e (B.size, B.size + 1))) := (Ev.drew [] w).trans (Ev.alloc [] _ _) (by simp)
    have hm2 := hm.keep hev
    refine sv hw hy hf hd hn fun a' hf' => k a' _ _ _ hev hf' (hm2.more ⟨_, _, rfl, hc, hcm, (fun h => by cases h), fun _ => ⟨rfl, ⟨?_, by show w.heap.size < _; simp⟩, _, rd_bytes s, fun j u hj => ?_⟩⟩)
    · intro hk
      have : w.heap.size < w.heap.size := by
        rcases List.mem_append.1 hk with e1 | e1
        · exact Nat.lt_of_lt_of_le (hm.ltX _ e1).1 hm.ev.size
        · exact (hm.lt _ e1).1
      omega
    · rw [List.getElem?_map, Option.map_eq_some_iff] at hj
      obtain ⟨b, hb, rfl⟩ := hj
      obtain ⟨hjl, hb'⟩ := List.getElem?_eq_some_iff.1 hb
      have := bytesRow_at ⟨⟨s⟩⟩ (grownCap w s.length 0 e) j (by simpa using hjl)
      rw [← hB] at this
      show World.cell? _ ⟨w.heap.size, 0 + j, none⟩ = _
      simp only [World.cell?, World.alloc]
      rw [show (w.drew.heap.push _)[w.heap.size]? = some _ from Array.getElem?_push_size (xs := w.heap)]
      simp only [Nat.zero_add, this]
      simp [hb']
  · cases hr
end
end Gg
namespace Gg
open Go Go.RowKit Cin
section
variable {P : Program} {Q : Exit → Act → World → Prop} {a : Act} {w : World}
theorem cc {c : Operand} {x y : Code} {t : Bool} {ρ : Type} {p q : Option ρ} {r : ρ} (hc : a.eval c = .bool t) (h : cond t p q = some r) (ht : t = true → p = some r → x.wp P Q a w) (hf : t = false → q = some r → y.wp P Q a w) : (Code.cond c x y).wp P Q a w :=
  wp_cond_split hc (fun e => ht e (cond_t e h)) (fun e => hf e (cond_f e h))
end
end Gg
namespace Gg
open Go Go.RowKit Cin
section
variable {P : Program} {ops : Array Oper} {Q : Exit → Act → World → Prop} {a : Act} {w w0 w' : World} {rest : List Oper} {o : Oper} {n : FrN} {d : Nat} {l : List (Nat × Value)}
  {W : World} {M0 X : List Nat} {E : List Ent} {D : List Dt}
theorem St.offE (h : St W M0 X w E D) {g : Nat} {t : TypeId} {cs : List Value} {x : Ent} (i j : Nat) (hi : E[i]? = some (Ent.blk g t cs)) (hj : E[j]? = some x) (hne : i ≠ j) : g ∉ x.foot := fun hk =>
  (fd_of h.dj i _ hi).2 j x hj hne g (by simp [Ent.blk]) hk
theorem ev_fresh {g : Nat} (h : Ev [] w0 w) (h' : Ev [g] w w') (hg : w0.heap.size ≤ g) : Ev [] w0 w' := h.trans h' (fun x hx => .inr (by simp at hx; omega))
theorem ev_cellsM {M : List Nat} {p : Addr} {cs : List Value} (h : Ev M w w') (hn : p.block ∉ M) (hlt : p.block < w.heap.size) (hc : Cells w p cs) : Cells w' p cs := hc.law (h.block p.block hlt hn)
theorem sstV {g p sz : Nat} {t tb : TypeId} {x y : Operand} {cs vs : List Value} {v : Value} (i : Nat) (hm : St W M0 X w E D) (hi : E[i]? = some (Ent.blk g tb cs)) (hw : Region.wanted o (yielded ops a.tmps) = true)
    (hv : v.cells = vs.toArray) (hs : ∀ w, (Go.sizeOf t).run P w = .ok sz w) (hl : Nat.beq vs.length sz = true) (h1 : vs.all (·.oneCell') = true) (hle : Nat.ble (p + vs.length) cs.length = true)
    (ho : o.op = .store t x y) (hx : a.eval x = .pointer (some ⟨g, p, none⟩)) (hy : a.eval y = v) (hd : o.dst = none)
    (k : ∀ w', Ev [g] w w' → St W M0 X w' (E.set i (Ent.blk g tb (lay cs p vs))) D → wpList P ops Q rest a w') : wpList P ops Q (o :: rest) a w := by
  obtain ⟨w', h1, h2, h3⟩ := y_store hv hs hl h1 hle (hm.e i hi) ho hx hy
  exact su hw h1 hd (k w' h2 (hm.turnI i hi h2 h3 (by simp [Ent.blk]) (fun k hk => .inl hk)))
end
end Gg
namespace Gg
open Go Go.RowKit Cin
def Rd (ro : Option Nat) : Fence := { Fence.wide with round := ro }
def Wr (ro : Option Nat) (n : Nat) (P : Program) (c : Code) (Q : Exit → Act → World → Prop) (a : Act) (w : World) : Prop := (∀ a w, ¬ Q .outgrown a w) → c.wpIn (Rd ro) n P Q a w
theorem b_norm {P : Program} {fn : Func} {R : Ending → World → Prop} {a : Act} {w : World} (h : bodyPost P fn R .ret a w) : bodyPost P fn R .normal a w := h
end Gg
namespace Gg
open Go Go.RowKit Cin
def Dt.triv : Dt := ⟨fun _ _ => True, fun _ _ _ _ _ _ _ => trivial⟩
def Dt.opt {α : Type} (o : Option α) (f : α → Dt) : Dt := match o with
  | none => Dt.triv
  | some x => f x
section
variable {P : Program} {ops : Array Oper} {Q : Exit → Act → World → Prop} {a : Act} {w : World} {rest : List Oper} {o : Oper} {n : FrN} {d : Nat} {l : List (Nat × Value)}
  {W : World} {M0 X : List Nat} {E : List Ent} {D : List Dt}
theorem St.none (h : St W M0 X w E D) {α : Type} (f : α → Dt) : St W M0 X w E (Dt.opt (Option.none : Option α) f :: D) := h.more (y := Dt.opt (Option.none : Option α) f) trivial
end
end Gg
namespace Gg
open Go Go.RowKit Cin
def slf (b : Bool) (g : Nat) : Option Addr := cond b (some ⟨g, 0, none⟩) none
section
variable {P : Program} {ops : Array Oper} {Q : Exit → Act → World → Prop} {a : Act} {w : World} {rest : List Oper} {o : Oper} {n : FrN} {d : Nat} {l : List (Nat × Value)}
  {W : World} {M0 X : List Nat} {E : List Ent} {D : List Dt}
theorem y_slfNil {t t' e : TypeId} {x y : Operand} {b : Bool} {g : Nat} (ht : P.underlying t = some (.pointer e)) (ho : o.op = .binOp .eql t x y t') (hx : a.eval x = .pointer (slf b g)) (hy : a.eval y = .pointer none) : Yv P o a w (.bool (!b)) w := by
  have h : ∀ d : Nat, (Op.equalIn (d + 1) t (.pointer (slf b g)) (.pointer none)).run P w = .ok (!b) w := fun d => by
    cases b <;> simp [Op.equalIn, run_underlying ht, slf]
  have h2 : (binOp .eql t (.pointer (slf b g)) (.pointer none)).run P w = .ok (.bool (!b)) w := by
    simp only [binOp]
    simp [Op.equal, Op.maxDepth, h 9999]
  simp only [Yv, execOp, ho, hx, hy]
  simp [go_sem, h2]
theorem y_slfOwn {t t' e sz : Nat} {x y : Operand} {b : Bool} {g : Nat} (ht : P.underlying t = some (.pointer e)) (hs : ∀ w, (Go.sizeOf e).run P w = .ok sz w) (hb : b = true) (ho : o.op = .binOp .neq t x y t') (hx : a.eval x = .pointer (slf b g)) (hy : a.eval y = .pointer (some ⟨g, 0, none⟩)) : Yv P o a w (.bool false) w := by
  subst hb
  have h : ∀ d : Nat, (Op.equalIn (d + 1) t (.pointer (some ⟨g, 0, none⟩)) (.pointer (some ⟨g, 0, none⟩))).run P w = .ok true w := fun d => by
    simp [Op.equalIn, run_underlying ht, hs, run_sameAddr_same]
  have h2 : (binOp .neq t (.pointer (slf true g)) (.pointer (some ⟨g, 0, none⟩))).run P w = .ok (.bool false) w := by
    simp only [binOp, slf, cond_true]
    simp [Op.equal, Op.maxDepth, h 9999]
  simp only [Yv, execOp, ho, hx, hy]
  simp [go_sem, h2]
theorem blk_shape {g : Nat} {t : TypeId} {cs : List Value} (h : (Ent.blk g t cs).ok w) : w.shape? g = some (t, cs.length) := by
  have h : w.heap[g]? = some (.cells cs.toArray t (0, 0)) := h
  simp [World.shape?, h]
theorem y_toUn {src dst t e : TypeId} {x : Operand} {g : Nat} {cs : List Value} (hs : P.underlying src = some (.pointer t)) (hd : P.underlying dst = some .unsafePointer) (hi : (P.info? t).map (fun j => Nat.beq j.size 0) = some false)
    (hb : (Ent.blk g e cs).ok w) (hc : Nat.ble 1 cs.length = true) (ho : o.op = .convert src dst x) (hx : a.eval x = .pointer (some ⟨g, 0, none⟩)) : Yv P o a w (.pointer (some ⟨g, 0, none⟩)) w := by
  obtain ⟨j, hj, hz⟩ := Option.map_eq_some_iff.1 hi
  have hr := Lib.run_to_unsafe (P := P) (w := w) ⟨g, 0, none⟩ hs hd hj (fun h0 => by rw [h0] at hz; simp at hz) (blk_shape hb) (Nat.le_of_ble_eq_true hc)
  simp only [Yv, execOp, ho, hx]
  simp [go_sem, hr]
theorem y_fromUn {src dst u e m : TypeId} {x : Operand} {g : Nat} {cs : List Value} (hs : P.underlying src = some .unsafePointer) (hd : P.underlying dst = some (.pointer u)) (hi : (P.info? u).isSome = true) (hb : (Ent.blk g e cs).ok w) (hm : Nat.beq cs.length m = true)
    (hl : liesAt P P.depth e (m / P.cellsOf e) 0 u 1 = true) (ho : o.op = .convert src dst x) (hx : a.eval x = .pointer (some ⟨g, 0, none⟩)) : Yv P o a w (.pointer (some ⟨g, 0, none⟩)) w := by
  obtain ⟨j, hj⟩ := Option.isSome_iff_exists.1 hi
  have hm := Nat.eq_of_beq_eq_true hm
  have hr := Lib.run_from_unsafe (P := P) (w := w) ⟨g, 0, none⟩ hs hd hj (blk_shape hb) (by rw [hm]; exact hl)
  simp only [Yv, execOp, ho, hx]
  simp [go_sem, hr]
theorem y_same {f : FuncId} {fn : Func} {ex : Array Value → Sem Value} {x : Operand} {ats : Array TypeId} {v : Value} (hf : P.funcs[f]? = some fn) (h1 : (fn.name == "runtime.NumGoroutine") = false) (h2 : fn.body.isNone = true) (h3 : Extern.findNext fn = none)
    (h4 : Extern.find fn = some ex) (hr : ∀ v w, (ex #[v]).run P w = .ok v w) (ho : o.op = .call { callee := .value (.func f), args := #[x], argTypes := ats }) (hx : a.eval x = v) : Yv P o a w v w := by
  have hcf : (callFunc f #[v]).run P w = .ok (.value v) w := by rw [run_callFunc_extern hf h1 h2 h3 h4, hr]; rfl
  simp only [Yv, execOp, ho, resolve, List.map_toArray, List.map_cons, List.map_nil, hx]
  simp [go_sem, Act.eval, Deferred.ofValue, invoke, hcf]
theorem strCells_of (s : List UInt8) : Lib.strCells ⟨s.toArray⟩ = s.map fun b => Value.int .u8 (b.toNat : Int) := by simp [Lib.strCells]
theorem sappStr {t u e : Nat} {x y : Operand} {v : Value} {li r s : List UInt8} {xs : List Value} (i q : Nat) (hm : St W M0 X w E D) (hi : E[i]? = some (Ent.row e 1 v li xs)) (hq : D[q]? = some (Dt.rows tyByte xs li))
    (hT : P.underlying t = some (.slice e)) (hu : P.underlying u = some .string) (hinfo : (P.info? e).map (fun i => (i.zero, i.size, i.bytes)) = some (some (.int .u8 0), 1, 1)) (hr : app 1 li s = some r)
    (hw : Region.wanted o (yielded ops a.tmps) = true) (ho : o.op = .call { callee := .builtin .append, args := #[x, y], argTypes := #[t, u] }) (hx : a.eval x = v) (hy : a.eval y = Str s) (hf : Fr n l a) (hd : o.dst = some d) (hn : Nat.blt d n = true)
    (next : ∀ a' A c xs' w', Ev v.ownBlock.toList w w' → Fr n ((d, .slice A r.length c) :: l) a' → St W M0 X w' (E.set i (Ent.row e 1 (.slice A r.length c) r xs')) (Dt.rows tyByte xs' r :: D) → wpList P ops Q rest a' w') : wpList P ops Q (o :: rest) a w := by
  obtain ⟨i0, hi0, hzz⟩ := Option.map_eq_some_iff.1 hinfo
  simp only [Prod.mk.injEq] at hzz
  obtain ⟨hz, hs1, hb1⟩ := hzz
  obtain ⟨happ, rfl⟩ := app_some hr
  have hown : w.ownsRow 0 e 1 v li.length xs := hm.e i hi
  have hsz : (⟨s.toArray⟩ : ByteArray).size = s.length := by simp [ByteArray.size]
  have h63 : li.length + (⟨s.toArray⟩ : ByteArray).size ≤ maxLen := by rw [hsz]; simp only [maxLen]; omega
  have h47 : li.length + (⟨s.toArray⟩ : ByteArray).size ≤ 140737488355328 := by rw [hsz]; omega
  obtain ⟨v', w', hrun, h2, h3, h4⟩ := Lib.run_append_own_string (P := P) w 0 t u o.type e i0 hT hu hi0 hz hs1 hb1 v li.length xs hown ⟨s.toArray⟩ h63 h47 (Nat.zero_le _)
  have hblk : v'.ownBlock = v.ownBlock ∨ v'.ownBlock = some w.heap.size := by
    have h63' : li.length + s.length ≤ maxLen := by rw [← hsz]; exact h63
    have hm63 : maxLen ≤ 9223372036854775807 := by decide
    rcases hown.2 with ⟨rfl, h0⟩ | ⟨g, cap, cur, rfl, _, hg, hnc, hcm, hcs, htake⟩
    · by_cases hs0 : s.length = 0
      · left; rw [(h4.2 ⟨rfl, by rw [hsz]; exact hs0⟩)]
      · right
        have hr2 := run_append_nil_string (P := P) w t u o.type e i0 (.int .u8 0) hT hu hi0 hz ⟨s.toArray⟩ (by rw [hsz]; omega) (by rw [hsz]; omega) (by rw [hb1, hsz]; omega)
        rw [hr2] at hrun
        injection hrun with e1 _
        rw [← e1]; rfl
    · by_cases hroom : li.length + (⟨s.toArray⟩ : ByteArray).size ≤ cap
      · left
        have hr2 := Lib.run_append_room_string (P := P) w t u o.type e i0 hT hu hi0 hs1 g li.length cap cur hg ⟨s.toArray⟩ hroom (by omega)
        rw [hr2] at hrun
        injection hrun with e1 _
        rw [← e1]; rfl
      · right
        have holds : ∀ j u, xs[j]? = some u → w.cell? ((⟨g, 0, none⟩ : Addr).add j) = some u := hown.cells (g := g) rfl
        have hr2 := Lib.run_append_grow_string (P := P) w t u o.type e i0 (.int .u8 0) hT hu hi0 hz ⟨g, 0, none⟩ li.length cap xs (by rw [hs1]; exact hown.1) holds ⟨s.toArray⟩ (by omega) (by rw [hsz]; omega)
          (by rw [hb1]; exact growslice_fits (by omega) (by omega))
        rw [hr2] at hrun
        injection hrun with e1 _
        rw [← e1]; rfl
  have h2 : w'.ownsRow 0 e 1 v' (li ++ s).length (xs ++ Lib.strCells ⟨s.toArray⟩) := by rw [List.length_append, ← hsz]; exact h2
  have hrow : (Ent.row e 1 v' (li ++ s) (xs ++ Lib.strCells ⟨s.toArray⟩)).ok w' := h2
  obtain ⟨A, c', rfl, _⟩ := row_val hrow
  have hyv : Yv P o a w (.slice A (li ++ s).length c') w' := by
    simp only [Yv, execOp, ho, resolve, invoke, builtin, Sem.run_bind, Sem.run_pure, Result.andThen_ok, List.map_toArray, List.map_cons, List.map_nil, hx, hy]
    simp only [Str, hrun, Result.andThen_ok]
  have hcs : ∀ F : Nat → Prop, rdAll tyByte F w (Lib.strCells ⟨s.toArray⟩) s := fun F => by rw [strCells_of]; exact rd_bytes s
  have hm2 := hm.rowsAt (T := tyByte) (rdAll_append tyByte (hcs _) (hm.d q hq))
  refine sv hw hyv hf hd hn fun a' hf' => next a' A c' _ w' (Ev.grown h3) hf' (hm2.turnI i hi (Ev.grown h3) hrow (opt_nodup _) fun k hk => ?_)
  have hk' : (Value.slice A (li ++ s).length c').ownBlock = some k := by simpa [Ent.row] using hk
  rcases hblk with e5 | e5
  · left; simpa [Ent.row, ← e5] using hk'
  · right
    rw [e5] at hk'
    injection hk' with hk'
    subst hk'
    refine ⟨Nat.le_refl _, ?_⟩
    rcases h2.2 with ⟨hv, _⟩ | ⟨g', cap, cur, hv, _, hg', _⟩
    · rw [hv] at e5; simp [Value.ownBlock] at e5
    · rw [hv] at e5
      have : g' = w.heap.size := by simpa [Value.ownBlock] using e5
      subst this
      rcases Nat.lt_or_ge w.heap.size w'.heap.size with h | h
      · exact h
      · rw [Array.getElem?_eq_none h] at hg'; cases hg'
def Ent.nil : Ent := ⟨[], fun _ => True, fun _ _ _ _ => trivial⟩
theorem ev_freeze (w : World) (p : Addr) (n : Nat) : Ev [p.block] w (w.freeze p n) := by
  unfold World.freeze
  split
  · exact Ev.refl _ w
  · exact ⟨rfl, rfl, rfl, by simp, fun k _ hn => by
      have hk : p.block ≠ k := fun e => hn (by simp [e])
      simp only [Array.getElem?_modify]
      rw [if_neg hk]⟩
theorem St.evE {x : Ent} {w' : World} (hm : St W M0 X w E D) (i : Nat) (hi : E[i]? = some x) (hv : Ev [] w w') : x.ok w' :=
  x.law w w' (fun k hk => hv.block k (hm.lt k (List.mem_flatMap.2 ⟨x, List.mem_of_getElem? hi, hk⟩)).1 (by simp)) (hm.e i hi)
theorem y_sdata {t e : TypeId} {x : Operand} {A : Option Addr} {c : Nat} {li : List UInt8} {xs : List Value} (hb : (Ent.row e 1 (.slice A li.length c) li xs).ok w) (hne : (!li.isEmpty) = true)
    (ho : o.op = .call { callee := .builtin .unsafeSliceData, args := #[x], argTypes := #[t] }) (hx : a.eval x = .slice A li.length c) : Yv P o a w (.pointer A) w := by
  have hl : 0 < li.length := by cases li with
    | nil => simp at hne
    | cons q r => simp
  have h : w.ownsRow 0 e 1 (.slice A li.length c) li.length xs := hb
  rcases h.2 with ⟨_, h0⟩ | ⟨g, cap, cur, hv, _, _, hc, _⟩
  · omega
  · simp only [Value.slice.injEq, true_and] at hv
    obtain ⟨rfl, rfl⟩ := hv
    have hr := Lib.run_unsafeSliceData_row (P := P) (w := w) #[t] o.type ⟨g, 0, none⟩ li.length c (by omega)
    simp only [Yv, execOp, ho, resolve, invoke, builtin, Sem.run_bind, Sem.run_pure, Result.andThen_ok, List.map_toArray, List.map_cons, List.map_nil, hx, hr]
theorem rd_bytes_eq {F : Nat → Prop} : ∀ {li : List UInt8} {xs : List Value}, rdAll tyByte F w xs li → xs = li.map fun b => Value.int .u8 (b.toNat : Int)
  | [], _, h => h
  | b :: r, _, ⟨cs, ys, e, h1, h2⟩ => by
    have h1 : cs = [.int .u8 (b.toNat : Int)] := h1
    rw [e, h1, rd_bytes_eq h2]
    rfl
theorem susStr {pt it e c : Nat} {x y : Operand} {A : Option Addr} {li : List UInt8} {xs : List Value} (i q : Nat) (hm : St W M0 X w E D) (hi : E[i]? = some (Ent.row e 1 (.slice A li.length c) li xs)) (hq : D[q]? = some (Dt.rows tyByte xs li))
    (hp : P.underlying pt = some (.pointer e)) (hc : P.cellsOf e = 1) (hne : (!li.isEmpty) = true) (hw : Region.wanted o (yielded ops a.tmps) = true) (ho : o.op = .call { callee := .builtin .unsafeString, args := #[x, y], argTypes := #[pt, it] })
    (hx : a.eval x = .pointer A) (hy : a.eval y = .int .i64 (li.length : Int)) (hf : Fr n l a) (hd : o.dst = some d) (hn : Nat.blt d n = true)
    (next : ∀ a' w', Fr n ((d, Str li) :: l) a' → St W M0 X w' (E.eraseIdx i) D → wpList P ops Q rest a' w') : wpList P ops Q (o :: rest) a w := by
  have hl : li ≠ [] := by intro h; rw [h] at hne; simp at hne
  have hl0 : 0 < li.length := List.length_pos_iff.2 hl
  have h : w.ownsRow 0 e 1 (.slice A li.length c) li.length xs := hm.e i hi
  rcases h.2 with ⟨_, h0⟩ | ⟨g, cap, cur, hv, _, hg, hcap, hmx, hcs, htake⟩
  · omega
  · simp only [Value.slice.injEq, true_and] at hv
    obtain ⟨rfl, rfl⟩ := hv
    have hxs : xs = li.map fun b => Value.int .u8 (b.toNat : Int) := rd_bytes_eq (hm.d q hq)
    have hcell : ∀ j x, li[j]? = some x → w.cell? ((⟨g, 0, none⟩ : Addr).add j) = some (.int .u8 x.toNat) := fun j x hj => by
      refine (h.cells (g := g) rfl) j _ ?_
      rw [hxs, List.getElem?_map, hj]
      rfl
    have hsh : w.shape? g = some (e, c) := by simp [World.shape?, hg]; simpa using hcs
    have hr := Lib.run_unsafeString_row (P := P) (w := w) pt it o.type e hp hc g c hsh li hl hcap (by simp only [maxLen] at hmx; omega) hcell
    have hyv : Yv P o a w (Str li) (w.freeze ⟨g, 0, none⟩ li.length) := by
      simp only [Yv, execOp, ho, resolve, invoke, builtin, Sem.run_bind, Sem.run_pure, Result.andThen_ok, List.map_toArray, List.map_cons, List.map_nil, hx, hy, hr]
    refine sv hw hyv hf hd hn fun a' hf' => next a' _ hf' ?_
    have h1 := hm.turnI (x' := Ent.nil) i hi (ev_freeze w ⟨g, 0, none⟩ li.length) trivial List.nodup_nil (fun k hk => by simp [Ent.nil] at hk)
    refine h1.drop ?_
    have he : E.eraseIdx i = (E.set i Ent.nil).eraseIdx i := by
      apply List.ext_getElem?
      intro j
      rw [List.getElem?_eraseIdx, List.getElem?_eraseIdx]
      split
      · rw [List.getElem?_set_ne (by omega)]
      · rw [List.getElem?_set_ne (by omega)]
    rw [he]
    exact List.eraseIdx_sublist _ _
theorem y_cutS {t : TypeId} {x : Operand} {lo hi : Option Operand} {p r : List UInt8} {i j : Int} (ht : P.underlying t = some .string) (ho : o.op = .slice t x lo hi none) (hx : a.eval x = Str p)
    (hlo : (lo = none ∧ i = 0) ∨ ∃ z, lo = some z ∧ a.eval z = .int .i64 i) (hhi : (hi = none ∧ j = p.length) ∨ ∃ z, hi = some z ∧ a.eval z = .int .i64 j) (hr : cut p i j = some r) : Yv P o a w (Str r) w := by
  obtain ⟨⟨h1, h2, h3⟩, rfl⟩ := cut_some hr
  have hsz : (⟨p.toArray⟩ : ByteArray).size = p.length := by simp [ByteArray.size]
  have b1 : ∀ code, (Instr.sliceBound (.int .i64 j) (⟨p.toArray⟩ : ByteArray).size code).run P w = .ok j.toNat w := fun code => run_bound rfl (by rw [hsz]; omega)
  rw [hsz] at b1
  have b2 : ∀ code, (Instr.sliceBound (.int .i64 i) j.toNat code).run P w = .ok i.toNat w := fun code => run_bound rfl (by omega)
  have b3 : ∀ code, (Instr.sliceBound (.int .i64 i) (⟨p.toArray⟩ : ByteArray).size code).run P w = .ok i.toNat w := fun code => run_bound rfl (by rw [hsz]; omega)
  rw [hsz] at b3
  have hx' : (⟨p.toArray⟩ : ByteArray).extract i.toNat j.toNat = ⟨((p.take j.toNat).drop i.toNat).toArray⟩ := by
    apply ByteArray.ext
    simp [ByteArray.data_extract, List.drop_take]
  have key : ∀ lo' hi' : Option Value, ((lo' = none ∧ i = 0) ∨ lo' = some (.int .i64 i)) → ((hi' = none ∧ j = p.length) ∨ hi' = some (.int .i64 j)) →
      (Instr.slice t (.string ⟨p.toArray⟩) lo' hi' none).run P w = .ok (Str ((p.take j.toNat).drop i.toNat)) w := by
    intro lo' hi' hl hh
    have hb : ∃ m, (Instr.sliceBounds false (⟨p.toArray⟩ : ByteArray).size (⟨p.toArray⟩ : ByteArray).size lo' hi' none).run P w = .ok (i.toNat, j.toNat, m) w := by
      rcases hl with ⟨rfl, rfl⟩ | rfl <;> rcases hh with ⟨rfl, hj⟩ | rfl
      · exact ⟨_, by simp [Instr.sliceBounds, hj, hsz]; rfl⟩
      · exact ⟨_, by simp [Instr.sliceBounds, hsz, b1]; rfl⟩
      · exact ⟨_, by simp [Instr.sliceBounds, b3, hj, hsz]; rfl⟩
      · exact ⟨_, by simp [Instr.sliceBounds, hsz, b1, b2]; rfl⟩
    obtain ⟨m, hb⟩ := hb
    simp only [Instr.slice, Sem.run_bind, run_underlying ht, Result.andThen_ok, Option.isSome_none, Bool.false_eq_true, if_false, hb, Sem.run_pure, hx', Str]
  have hr2 := key (lo.map a.eval) (hi.map a.eval) (hlo.imp (fun h => ⟨by rw [h.1]; rfl, h.2⟩) (fun ⟨z, q1, q2⟩ => by rw [q1, Option.map_some, q2])) (hhi.imp (fun h => ⟨by rw [h.1]; rfl, h.2⟩) (fun ⟨z, q1, q2⟩ => by rw [q1, Option.map_some, q2]))
  simp only [Yv, execOp, ho, hx, Str, Instr.sliceAt, Sem.run_bind, run_underlying ht, Result.andThen_ok, Option.map_none, hr2]
  rfl
def pnE (t : TypeId) : List PanicEntry := [{ v := .iface t (.agg #[]), recovered := false }]
def pnP {ρ : Type} (r : Pn ρ) (f : ρ → Prop) (g : Prop) : Prop := match r with
  | .bad => g
  | .ok x => f x
theorem pn_bad {ρ : Type} {f : ρ → Prop} {g : Prop} (h : pnP (.bad : Pn ρ) f g) : g := h
theorem pn_badI {ρ : Type} {f : ρ → Prop} {g : Prop} (h : g) : pnP (.bad : Pn ρ) f g := h
theorem pn_ok {ρ : Type} {f : ρ → Prop} {g : Prop} {x : ρ} (h : pnP (.ok x) f g) : f x := h
theorem pn_okI {ρ : Type} {f : ρ → Prop} {g : Prop} {x : ρ} (h : f x) : pnP (.ok x) f g := h
theorem x_panT {K : Act → World → Prop} {c : List PanicEntry} (h : Q (.panic c) a w) : Exit.then K Q (.panic c) a w := h
theorem x_panB {i : Nat} {c : List PanicEntry} (h : Q (.panic c) a w) : Exit.inBlock i Q (.panic c) a w := h
theorem p_base {fn : Func} {R : Ending → World → Prop} {m : Nat} {c : List PanicEntry} (hf : Fr ⟨m, []⟩ l a) (h : R (.panicked c) w) : bodyPost P fn R (.panic c) a w := ⟨hf.defers, h⟩
theorem pan_op {x : Operand} {t : TypeId} {v : Value} (hw : Region.wanted o (yielded ops a.tmps) = true) (ho : o.op = .panic x) (hx : a.eval x = .iface t v) (k : Q (.panic [{ v := .iface t v, recovered := false }]) a w) : wpList P ops Q (o :: rest) a w := by
  refine wpList_step fun K hK => ?_
  rw [if_pos hw]
  unfold Oper.wp
  have e : (execOp a.eval o).run P w = .halt (.panic (.iface t v)) w := by
    simp only [execOp, ho, hx, Sem.run_bind, run_panic_iface]
    rfl
  rw [e]
  exact k
theorem y_iface {t : TypeId} {x : Operand} {v : Value} (hc : P.concrete t = true) (ho : o.op = .makeInterface t x) (hx : a.eval x = v) : Yv P o a w (.iface t v) w := by
  simp only [Yv, execOp, ho, hx]
  simp [go_sem, run_makeInterface _ _ _ hc]
theorem scp {f : FuncId} {xs : List Operand} {ats : Array TypeId} {vs : List Value} {R : Ending → World → Prop} (hw : Region.wanted o (yielded ops a.tmps) = true)
    (ho : o.op = .call { callee := .value (.func f), args := xs.toArray, argTypes := ats }) (hcf : ∀ args w, (callFunc f args).run P w = .ok (.enter f args) w)
    (hxs : evs a xs vs) (hc : Calls P f vs.toArray w R) (k : ∀ e w', R e w' → ∃ c, e = .panicked c ∧ Q (.panic c) a w') : wpList P ops Q (o :: rest) a w := by
  refine wpList_step fun K hK => ?_
  rw [if_pos hw]
  unfold Oper.wp
  have e : (execOp a.eval o).run P w = .ok (.enter f vs.toArray) w := by
    have h1 := evs_map hxs
    simp only [execOp, ho, resolve, List.map_toArray, h1]
    simp [go_sem, Act.eval, Deferred.ofValue, invoke, hcf]
  rw [e]
  exact hc.mono fun e w' hr => by
    obtain ⟨c, rfl, hk⟩ := k e w' hr
    exact hk
theorem scBp {f : FuncId} {fx : Operand} {xs : List Operand} {ats : Array TypeId} {vs cs us : List Value} {R : Ending → World → Prop} (hw : Region.wanted o (yielded ops a.tmps) = true)
    (ho : o.op = .call { callee := .value fx, args := xs.toArray, argTypes := ats }) (hcf : ∀ args w, (callFunc f args).run P w = .ok (.enter f args) w) (hfx : a.eval fx = .func (.func f) us.toArray cs.toArray)
    (hxs : evs a xs vs) (hc : Calls P f (us ++ vs ++ cs).toArray w R) (k : ∀ e w', R e w' → ∃ c, e = .panicked c ∧ Q (.panic c) a w') : wpList P ops Q (o :: rest) a w := by
  refine wpList_step fun K hK => ?_
  rw [if_pos hw]
  unfold Oper.wp
  rw [run_callB ho hcf hfx hxs]
  refine hc.mono fun e w' hr => ?_
  obtain ⟨c, rfl, hk⟩ := k e w' hr
  exact hk
end
end Gg
namespace Gg
open Go Go.RowKit Cin
def dfn (f : Nat) (cs : List Value) : Deferred := { target := .fn (.func f) cs.toArray, args := #[] }
theorem enterD {P : Program} {f : FuncId} {fn : Func} {c : Code} {vs : List Value} {w : World} {R : Ending → World → Prop} {n : Nat}
    (hf : P.funcs[f]? = some fn) (hb : fn.body = some c) (hn : fn.ntmps = n) (hl : Nat.ble vs.length n = true)
    (h : ∀ a, Fr ⟨n, []⟩ (enum 0 vs) a → c.wp P (bodyPostD P fn R) a w) : Calls P f vs.toArray w R := by
  refine calls_of_wp_defers hf hb ?_
  rw [hn]
  exact h _ (Fr.init vs n hl)
section
variable {P : Program} {ops : Array Oper} {Q : Exit → Act → World → Prop} {a : Act} {w : World} {rest : List Oper} {o : Oper} {l : List (Nat × Value)} {fn : Func} {R : Ending → World → Prop} {m : Nat}
theorem sdef {f : FuncId} {fx : Operand} {cs : List Value} {ds : List Deferred} {ats : Array TypeId} (hw : Region.wanted o (yielded ops a.tmps) = true) (ho : o.op = .defer { callee := .value fx, args := #[], argTypes := ats })
    (hx : a.eval fx = .func (.func f) #[] cs.toArray) (hf : Fr ⟨m, ds⟩ l a) (hd : o.dst = none) (k : ∀ a', Fr ⟨m, dfn f cs :: ds⟩ l a' → wpList P ops Q rest a' w) : wpList P ops Q (o :: rest) a w := by
  refine wpList_step fun K hK => ?_
  rw [if_pos hw]
  unfold Oper.wp
  have e : (execOp a.eval o).run P w = .ok (.defer (dfn f cs)) w := by
    simp only [execOp, ho, resolve, hx, Deferred.ofValue]
    simp [go_sem, dfn]
  rw [e]
  show K (({ a with defers := dfn f cs :: a.defers } : Act).put o.dst undef) w
  rw [hd]
  refine hK _ _ (k _ ⟨hf.size, ?_, hf.get⟩)
  show dfn f cs :: a.defers = dfn f cs :: ds
  rw [hf.defers]
theorem d_of (h : bodyPost P fn R .ret a w) : bodyPostD P fn R .ret a w := by
  show Leaves P fn a.tmps R a.defers .returning w
  rw [h.1]
  exact h.2
theorem invoke_dfn {f : Nat} {cs : List Value} (hcf : ∀ args w, (callFunc f args).run P w = .ok (.enter f args) w) : (invoke (.fn (.func f) cs.toArray) #[]).run P w = .ok (.enter f cs.toArray) w := by
  simp [invoke, hcf]
theorem d_ret {f : Nat} {cs : List Value} {u' : FrameMode} {S : World → Prop} (u : FrameMode) (x : Exit) (hx : (x = .ret ∧ u = .returning) ∨ (∃ c, x = .panic c ∧ u = .panicking c)) (hs : settle u' = .returning) (hf : Fr ⟨m, [dfn f cs]⟩ l a)
    (hcf : ∀ args w, (callFunc f args).run P w = .ok (.enter f args) w) (hC : CallsD P f cs.toArray u w (fun e u'' w' => u'' = u' ∧ (e = .returned (.tuple #[]) ∧ S w')))
    (k : ∀ w' a', S w' → Fr ⟨m, []⟩ l a' → bodyPost P fn R .ret a' w') : bodyPostD P fn R x a w := by
  have key : Leaves P fn a.tmps R a.defers u w := by
    rw [hf.defers]
    have hu : u ≠ .run := by rcases hx with ⟨_, rfl⟩ | ⟨c, _, rfl⟩ <;> simp
    refine leaves_cons hu (invoke_dfn hcf) (hC.mono ?_)
    rintro e u'' w' ⟨rfl, rfl, hS⟩
    have := k w' { a with defers := [] } hS ⟨hf.size, rfl, hf.get⟩
    show Leaves P fn a.tmps R [] (settle u'') w'
    rw [hs]
    exact this.2
  rcases hx with ⟨rfl, rfl⟩ | ⟨c, rfl, rfl⟩
  · exact key
  · exact key
theorem opsS_of_list {Q : Exit → Act → List Frame → World → Prop} {cs : List Frame} : ∀ (os : List Oper) (is : List Nat), is.map (fun i => ops[i]?) = os.map some → (¬ LetsOut fun e a w => Q e a cs w) → ∀ a w, wpList P ops (fun e a w => Q e a cs w) os a w → wpOpsS P ops Q is a cs w
  | [], [], _, _, a, w, h => h
  | [], _ :: _, e, _, _, _, _ => by simp at e
  | _ :: _, [], e, _, _, _, _ => by simp at e
  | o :: os, i :: is, e, hno, a, w, h => by
    simp only [List.map_cons, List.cons.injEq] at e
    simp only [wpOpsS, e.1]
    unfold wpList at h
    split at h
    · rename_i hw
      rw [if_pos hw]
      rcases h with h | h
      · unfold Oper.wp at h
        generalize (execOp a.eval o).run P w = r at h
        cases r with
        | ok nx w' =>
          cases nx with
          | recover => exact h.elim
          | value v => exact opsS_of_list os is e.2 hno _ _ h
          | skip => exact opsS_of_list os is e.2 hno _ _ h
          | «defer» d => exact opsS_of_list os is e.2 hno _ _ h
          | enter f args => exact Calls.mono h (fun e' w'' he => by cases e' with
            | returned v => exact opsS_of_list os is e.2 hno _ _ he
            | panicked c => exact he
            | outgrown => exact absurd he hno)
          | row rw' args => exact Rows.mono h (fun v w'' he => opsS_of_list os is e.2 hno _ _ he)
          | _ => exact h.elim
        | halt x w' => cases x with
          | panic v => exact h
          | _ => exact h.elim
      · exact absurd h.2 hno
    · rename_i hw
      rw [if_neg hw]
      exact opsS_of_list os is e.2 hno _ _ h
theorem wpList_imp {Q1 Q2 : Exit → Act → World → Prop} (hq : ∀ e a w, Q1 e a w → Q2 e a w) : ∀ (os : List Oper) (a : Act) (w : World), wpList P ops Q1 os a w → wpList P ops Q2 os a w
  | [], a, w, h => hq _ _ _ h
  | o :: os, a, w, h => by
    unfold wpList at h ⊢
    split
    · rename_i hw
      rw [if_pos hw] at h
      rcases h with h | h
      · left
        unfold Oper.wp at h ⊢
        generalize (execOp a.eval o).run P w = r at h ⊢
        cases r with
        | ok nx w' =>
          cases nx with
          | value v => exact wpList_imp hq os _ _ h
          | skip => exact wpList_imp hq os _ _ h
          | «defer» d => exact wpList_imp hq os _ _ h
          | enter f args => exact Calls.mono h (fun e' w'' he => by cases e' with
            | returned v => exact wpList_imp hq os _ _ he
            | panicked c => exact hq _ _ _ he
            | outgrown => obtain ⟨a', w3, h3⟩ := he; exact ⟨a', w3, hq _ _ _ h3⟩)
          | row rw' args => exact Rows.mono h (fun v w'' he => wpList_imp hq os _ _ he)
          | _ => exact h.elim
        | halt x w' => cases x with
          | panic v => exact hq _ _ _ h
          | _ => exact h.elim
      · right
        obtain ⟨a', w3, h3⟩ := h.2
        exact ⟨h.1, a', w3, hq _ _ _ h3⟩
    · rename_i hw
      rw [if_neg hw] at h
      exact wpList_imp hq os _ _ h
theorem recS {f : FuncId} {id : Nat} {o0 : Oper} {os : List Oper} {c : Code} {ats : Array TypeId} {d n : Nat} {vs : List Value} {v : Value} {u u' : FrameMode} (hf : P.funcs[f]? = some fn) (hb : fn.body = some (.seq (.region id (o0 :: os).toArray false) c)) (hn : fn.ntmps = n)
    (hl : Nat.ble vs.length n = true) (ho : o0.op = .call { callee := .builtin .recover, args := #[], argTypes := ats }) (hg : o0.guard = none) (hd : o0.dst = some d) (hdn : Nat.blt d n = true)
    (hrec : ∀ (c₀ : Frame) (cs : List Frame), c₀.mode = u → (recoverD (c₀ :: cs) = none ∧ v = .nilIface ∧ u' = u) ∨ recoverD (c₀ :: cs) = some (v, { c₀ with mode := u' } :: cs)) (hR : ∀ w, ¬ R .outgrown w)
    (h : ∀ a, Fr ⟨n, []⟩ ((d, v) :: enum 0 vs) a → wpList P (o0 :: os).toArray (fun e a w => e = .normal ∧ c.wp P (bodyPost P fn R) a w) os a w) : CallsD P f vs.toArray u w fun e u'' w' => u'' = u' ∧ R e w' := by
  refine callsD_of_wpS hf hb fun c₀ cs hc => ?_
  rw [hn]
  refine wpS_seq (wpS_region ?_)
  have hr : List.range (o0 :: os).toArray.size = 0 :: (List.range os.length).map (· + 1) := by simp [List.range_succ_eq_map]
  rw [hr]
  have hi0 := Fr.init vs n hl
  have hw0 : ∀ y, Region.wanted o0 y = true := fun y => by simp [Region.wanted, hg]
  have hex : ∀ ρ w, (execOp ρ o0).run P w = .ok .recover w := fun ρ w => by simp [execOp, ho, resolve, invoke, builtin]
  have hmatch : ((List.range os.length).map (· + 1)).map (fun i => (o0 :: os).toArray[i]?) = os.map some := by
    apply List.ext_getElem?
    intro i
    simp only [List.map_map, List.getElem?_map, Function.comp]
    rcases Nat.lt_or_ge i os.length with hlt | hge
    · simp [List.getElem?_range hlt, List.getElem?_eq_getElem hlt]
    · rw [List.getElem?_eq_none (by simpa using hge), List.getElem?_eq_none hge]
      rfl
  have go : ∀ cs', (∃ q, cs' = { c₀ with mode := q } :: cs ∧ q = u') → wpOpsS P (o0 :: os).toArray (Exit.thenS (c.wpS P (bodyPostS P fn c₀ cs fun e u'' w' => u'' = u' ∧ R e w')) (bodyPostS P fn c₀ cs fun e u'' w' => u'' = u' ∧ R e w')) ((List.range os.length).map (· + 1))
      (({ tmps := vs.toArray ++ Array.replicate (n - vs.toArray.size) undef, defers := [] } : Act).put o0.dst v) cs' w := by
    rintro cs' ⟨q, rfl, rfl⟩
    refine opsS_of_list os _ hmatch ?_ _ _ (wpList_imp ?_ os _ _ (h _ (by rw [hd]; exact hi0.put hdn)))
    · rintro ⟨a', w', h1⟩
      obtain ⟨_, h2⟩ := h1
      exact hR _ h2.2
    · rintro e a' w' ⟨rfl, h1⟩
      refine wpS_of_wp (wp_mono h1 ?_)
      intro e a'' w'' h2
      cases e with
      | normal => exact ⟨h2.1, q, rfl, h2.2.choose, h2.2.choose_spec.1, rfl, h2.2.choose_spec.2⟩
      | ret => exact ⟨h2.1, q, rfl, h2.2.choose, h2.2.choose_spec.1, rfl, h2.2.choose_spec.2⟩
      | panic ch => exact ⟨h2.1, q, rfl, rfl, h2.2⟩
      | outgrown => exact absurd h2 (hR _)
      | exit i => exact h2
      | goto i => exact h2
  simp only [wpOpsS]
  rw [show (o0 :: os).toArray[0]? = some o0 from rfl]
  simp only [hw0, if_true, hex]
  rcases hrec c₀ cs hc with ⟨h1, rfl, rfl⟩ | h1
  · rw [h1]
    exact go _ ⟨u', by rw [← hc], rfl⟩
  · rw [h1]
    exact go _ ⟨u', rfl, rfl⟩
theorem rec_ret (c₀ : Frame) (cs : List Frame) (h : c₀.mode = .returning) : recoverD (c₀ :: cs) = none := by simp [recoverD, h]
theorem rec_pan {t : TypeId} (c₀ : Frame) (cs : List Frame) (h : c₀.mode = .panicking (pnE t)) : recoverD (c₀ :: cs) = some (.iface t (.agg #[]), { c₀ with mode := .panicking [{ v := .iface t (.agg #[]), recovered := true }] } :: cs) := by
  simp [recoverD, h, pnE]
theorem y_ta {x : Operand} {xt tt : TypeId} {k : Bool} {v r : Value} (hr : ∀ w, (Instr.typeAssert v xt tt k).run P w = .ok r w) (ho : o.op = .typeAssert x xt tt k) (hx : a.eval x = v) : Yv P o a w r w := by
  simp only [Yv, execOp, ho, hx, Sem.run_bind, hr, Result.andThen_ok, Sem.run_pure]
theorem St.empty (w : World) : St w [] [] w [] [] := ⟨Ev.refl _ _, fun _ h => absurd h List.not_mem_nil, fun _ h => absurd h List.not_mem_nil, fun _ h => absurd h List.not_mem_nil, List.nodup_nil, fun _ h => absurd h List.not_mem_nil⟩
end
end Gg
namespace Cin
structure Kind where
  Kind : Int
  Class : List UInt8
  deriving DecidableEq
structure Handler where
  From : Int
  To : Int
  At : Int
  Class : List UInt8
  deriving DecidableEq
structure Method where
  Name : List UInt8
  Static : Bool
  Args : List Kind
  Returns : Kind
  Stack : Int
  Locals : Int
  Code : List UInt8
  Handlers : List Handler
structure Field where
  Name : List UInt8
  Kind : Kind
  deriving DecidableEq
structure Class where
  Name : List UInt8
  Super : List UInt8
  Fields : List Field
  Methods : List Method
structure strings_Builder where
  addr : Bool
  buf : List UInt8
structure image_writer where
  Builder : strings_Builder
structure cinderref_Scan where
  S : List UInt8
  At : Int
  Bad : Bool
  deriving DecidableEq
structure image_reader where
  s : List UInt8
  deriving DecidableEq
end Cin
namespace Cin
open Go
def ty_Kind : Gg.Ty Kind where
  size := 2
  rd _ _ cs d := cs = [.int .i64 d.Kind, Gg.Str d.Class]
  len h := by subst h; rfl
  one h v hv := by subst h; simp only [List.mem_cons, List.not_mem_nil, or_false] at hv; rcases hv with rfl | rfl <;> rfl
  law _ h := h
def ty_Handler : Gg.Ty Handler where
  size := 4
  rd _ _ cs d := cs = [.int .i64 d.From, .int .i64 d.To, .int .i64 d.At, Gg.Str d.Class]
  len h := by subst h; rfl
  one h v hv := by subst h; simp only [List.mem_cons, List.not_mem_nil, or_false] at hv; rcases hv with rfl | rfl | rfl | rfl <;> rfl
  law _ h := h
def ty_Method : Gg.Ty Method where
  size := 9
  rd F w cs d := ∃ A1 c1 A2 c2, cs = [Gg.Str d.Name, .bool d.Static, .slice A1 d.Args.length c1, .int .i64 d.Returns.Kind, Gg.Str d.Returns.Class, .int .i64 d.Stack, .int .i64 d.Locals, Gg.Str d.Code, .slice A2 d.Handlers.length c2] ∧ (Gg.tySlice Cin.ty_Kind).rd F w [.slice A1 d.Args.length c1] d.Args ∧ (Gg.tySlice Cin.ty_Handler).rd F w [.slice A2 d.Handlers.length c2] d.Handlers
  len h := by obtain ⟨A1, c1, A2, c2, h0, _⟩ := h; subst h0; rfl
  one h v hv := by obtain ⟨A1, c1, A2, c2, h0, _⟩ := h; subst h0; simp only [List.mem_cons, List.not_mem_nil, or_false] at hv; rcases hv with rfl | rfl | rfl | rfl | rfl | rfl | rfl | rfl | rfl <;> rfl
  law hF h := by obtain ⟨A1, c1, A2, c2, h0, h1, h2⟩ := h; exact ⟨A1, c1, A2, c2, h0, (Gg.tySlice Cin.ty_Kind).law hF h1, (Gg.tySlice Cin.ty_Handler).law hF h2⟩
def ty_Field : Gg.Ty Field where
  size := 3
  rd _ _ cs d := cs = [Gg.Str d.Name, .int .i64 d.Kind.Kind, Gg.Str d.Kind.Class]
  len h := by subst h; rfl
  one h v hv := by subst h; simp only [List.mem_cons, List.not_mem_nil, or_false] at hv; rcases hv with rfl | rfl | rfl <;> rfl
  law _ h := h
def ty_Class : Gg.Ty Class where
  size := 4
  rd F w cs d := ∃ A1 c1 A2 c2, cs = [Gg.Str d.Name, Gg.Str d.Super, .slice A1 d.Fields.length c1, .slice A2 d.Methods.length c2] ∧ (Gg.tySlice Cin.ty_Field).rd F w [.slice A1 d.Fields.length c1] d.Fields ∧ (Gg.tySlice Cin.ty_Method).rd F w [.slice A2 d.Methods.length c2] d.Methods
  len h := by obtain ⟨A1, c1, A2, c2, h0, _⟩ := h; subst h0; rfl
  one h v hv := by obtain ⟨A1, c1, A2, c2, h0, _⟩ := h; subst h0; simp only [List.mem_cons, List.not_mem_nil, or_false] at hv; rcases hv with rfl | rfl | rfl | rfl <;> rfl
  law hF h := by obtain ⟨A1, c1, A2, c2, h0, h1, h2⟩ := h; exact ⟨A1, c1, A2, c2, h0, (Gg.tySlice Cin.ty_Field).law hF h1, (Gg.tySlice Cin.ty_Method).law hF h2⟩
end Cin
namespace Go.Value
abbrev po (g : Nat) : Value := .pointer (some ⟨g, 0, none⟩)
abbrev i (n : Int) : Value := .int .i64 n
end Go.Value
namespace Go.Proofs.Ytfbkanhgjpdohaa
open Go Go.RowKit
abbrev sl {α : Type} (T : Gg.Ty α) (A : Option Addr) (c : Nat) (l : List α) : Gg.Dt := Gg.Dt.of (Gg.tySlice T) [.slice A l.length c] l
def gam : Gg.Gam := ⟨[(3, .i .i64), (4, .b), (5, .i .u8), (9, .s), (22, .sl), (23, .i .i64), (36, .sl), (65, .sl), (66, .sl), (69, .sl), (72, .sl), (79, .sl)], [(68, 0, 0), (68, 1, 1), (68, 2, 2), (68, 3, 3), (71, 0, 0), (71, 1, 1), (74, 0, 0), (74, 1, 1), (74, 2, 2), (74, 3, 3), (74, 4, 5), (74, 5, 6), (74, 6, 7), (74, 7, 8), (81, 0, 0), (81, 1, 1), (83, 0, 0), (89, 0, 0), (89, 1, 1), (96, 0, 0), (96, 1, 1), (96, 2, 2), (96, 3, 3), (104, 0, 0), (109, 0, 0), (109, 1, 1), (109, 2, 2)], [(3, none), (4, none), (5, none), (9, none), (22, none), (65, none), (66, none), (68, some 4), (69, none), (71, some 2), (72, none), (74, some 9), (77, none), (78, none), (79, none), (89, some 3), (96, some 4)]⟩
theorem gam_ok : Gg.GOK Try.prog gam := ⟨⟨Try.underlying3, Try.underlying4, Try.underlying5, Try.underlying9, ⟨_, Try.underlying22⟩, Try.underlying23, ⟨_, Try.underlying36⟩, ⟨_, Try.underlying65⟩, ⟨_, Try.underlying66⟩, ⟨_, Try.underlying69⟩, ⟨_, Try.underlying72⟩, ⟨_, Try.underlying79⟩, trivial⟩, ⟨Gg.fld_mk Try.underlying68 rfl rfl Try.sizeOf9 rfl, Gg.fld_mk Try.underlying68 rfl rfl Try.sizeOf9 rfl, Gg.fld_mk Try.underlying68 rfl rfl Try.sizeOf65 rfl, Gg.fld_mk Try.underlying68 rfl rfl Try.sizeOf66 rfl, Gg.fld_mk Try.underlying71 rfl rfl Try.sizeOf3 rfl, Gg.fld_mk Try.underlying71 rfl rfl Try.sizeOf9 rfl, Gg.fld_mk Try.underlying74 rfl rfl Try.sizeOf9 rfl, Gg.fld_mk Try.underlying74 rfl rfl Try.sizeOf4 rfl, Gg.fld_mk Try.underlying74 rfl rfl Try.sizeOf69 rfl, Gg.fld_mk Try.underlying74 rfl rfl Try.sizeOf71 rfl, Gg.fld_mk Try.underlying74 rfl rfl Try.sizeOf3 rfl, Gg.fld_mk Try.underlying74 rfl rfl Try.sizeOf3 rfl, Gg.fld_mk Try.underlying74 rfl rfl Try.sizeOf9 rfl, Gg.fld_mk Try.underlying74 rfl rfl Try.sizeOf72 rfl, Gg.fld_mk Try.underlying81 rfl rfl Try.sizeOf78 rfl, Gg.fld_mk Try.underlying81 rfl rfl Try.sizeOf79 rfl, Gg.fld_mk Try.underlying83 rfl rfl Try.sizeOf81 rfl, Gg.fld_mk Try.underlying89 rfl rfl Try.sizeOf9 rfl, Gg.fld_mk Try.underlying89 rfl rfl Try.sizeOf71 rfl, Gg.fld_mk Try.underlying96 rfl rfl Try.sizeOf3 rfl, Gg.fld_mk Try.underlying96 rfl rfl Try.sizeOf3 rfl, Gg.fld_mk Try.underlying96 rfl rfl Try.sizeOf3 rfl, Gg.fld_mk Try.underlying96 rfl rfl Try.sizeOf9 rfl, Gg.fld_mk Try.underlying104 rfl rfl Try.sizeOf9 rfl, Gg.fld_mk Try.underlying109 rfl rfl Try.sizeOf9 rfl, Gg.fld_mk Try.underlying109 rfl rfl Try.sizeOf3 rfl, Gg.fld_mk Try.underlying109 rfl rfl Try.sizeOf4 rfl, trivial⟩, ⟨Try.isAgg3, Try.isAgg4, Try.isAgg5, Try.isAgg9, Try.isAgg22, Try.isAgg65, Try.isAgg66, ⟨Try.isAgg68, Try.sizeOf68⟩, Try.isAgg69, ⟨Try.isAgg71, Try.sizeOf71⟩, Try.isAgg72, ⟨Try.isAgg74, Try.sizeOf74⟩, Try.isAgg77, Try.isAgg78, Try.isAgg79, ⟨Try.isAgg89, Try.sizeOf89⟩, ⟨Try.isAgg96, Try.sizeOf96⟩, trivial⟩⟩
theorem info5 : (Try.prog.info? 5).map (fun i => (i.zero, i.size, i.bytes)) = some (some (.int .u8 ((0 : UInt8).toNat : Int)), 1, 1) := by kernel_rfl
theorem info68 : (Try.prog.info? 68).map (fun i => (i.zero, i.size, i.bytes)) = some (some (.agg #[Gg.Str [], Gg.Str [], .slice none 0 0, .slice none 0 0]), 4, 80) := by kernel_rfl
theorem info71 : (Try.prog.info? 71).map (fun i => (i.zero, i.size, i.bytes)) = some (some (.agg #[.int .i64 0, Gg.Str []]), 2, 24) := by kernel_rfl
theorem info74 : (Try.prog.info? 74).map (fun i => (i.zero, i.size, i.bytes)) = some (some (.agg #[Gg.Str [], .bool false, .slice none 0 0, .int .i64 0, Gg.Str [], .int .i64 0, .int .i64 0, Gg.Str [], .slice none 0 0]), 9, 128) := by kernel_rfl
theorem info89 : (Try.prog.info? 89).map (fun i => (i.zero, i.size, i.bytes)) = some (some (.agg #[Gg.Str [], .int .i64 0, Gg.Str []]), 3, 40) := by kernel_rfl
theorem info96 : (Try.prog.info? 96).map (fun i => (i.zero, i.size, i.bytes)) = some (some (.agg #[.int .i64 0, .int .i64 0, .int .i64 0, Gg.Str []]), 4, 40) := by kernel_rfl
theorem places68 : ∀ w, (Gg.placesOf Try.prog 68).run Try.prog w = .ok #[(0, 1), (1, 1), (2, 1), (3, 1)] w := fun w => by kernel_rfl
theorem places71 : ∀ w, (Gg.placesOf Try.prog 71).run Try.prog w = .ok #[(0, 1), (1, 1)] w := fun w => by kernel_rfl
theorem places74 : ∀ w, (Gg.placesOf Try.prog 74).run Try.prog w = .ok #[(0, 1), (1, 1), (2, 1), (3, 2), (5, 1), (6, 1), (7, 1), (8, 1)] w := fun w => by kernel_rfl
theorem places83 : ∀ w, (Gg.placesOf Try.prog 83).run Try.prog w = .ok #[(0, 2)] w := fun w => by kernel_rfl
theorem places89 : ∀ w, (Gg.placesOf Try.prog 89).run Try.prog w = .ok #[(0, 1), (1, 2)] w := fun w => by kernel_rfl
theorem places96 : ∀ w, (Gg.placesOf Try.prog 96).run Try.prog w = .ok #[(0, 1), (1, 1), (2, 1), (3, 1)] w := fun w => by kernel_rfl
theorem places100 : ∀ w, (Gg.placesOf Try.prog 100).run Try.prog w = .ok #[] w := fun w => by kernel_rfl
theorem places104 : ∀ w, (Gg.placesOf Try.prog 104).run Try.prog w = .ok #[(0, 1)] w := fun w => by kernel_rfl
theorem places109 : ∀ w, (Gg.placesOf Try.prog 109).run Try.prog w = .ok #[(0, 1), (1, 1), (2, 1)] w := fun w => by kernel_rfl
theorem eq_neq_Kind {o : Oper} {a : Act} {w : World} {t' : TypeId} {x y : Operand} {X Y : Cin.Kind} (ho : o.op = .binOp .neq 71 x y t') (hx : a.eval x = .agg #[.int .i64 X.Kind, Gg.Str X.Class]) (hy : a.eval y = .agg #[.int .i64 Y.Kind, Gg.Str Y.Class]) : Gg.Yv Try.prog o a w (.bool (!decide (X = Y))) w := by
  have hd : decide (X = Y) = decide (X.Kind = Y.Kind ∧ X.Class = Y.Class ∧ True) := by rcases X with ⟨_, _⟩; rcases Y with ⟨_, _⟩; simp
  rw [hd]
  exact Gg.y_neF Try.underlying71 (by kernel_rfl) (by kernel_rfl) (Gg.eqF_int rfl Try.underlying3 Try.isAgg3 rfl rfl (Gg.eqF_str rfl Try.underlying9 Try.isAgg9 rfl rfl (by simp [Gg.eqF_nil]))) ho hx hy
theorem eq_neq_Field {o : Oper} {a : Act} {w : World} {t' : TypeId} {x y : Operand} {X Y : Cin.Field} (ho : o.op = .binOp .neq 89 x y t') (hx : a.eval x = .agg #[Gg.Str X.Name, .int .i64 X.Kind.Kind, Gg.Str X.Kind.Class]) (hy : a.eval y = .agg #[Gg.Str Y.Name, .int .i64 Y.Kind.Kind, Gg.Str Y.Kind.Class]) : Gg.Yv Try.prog o a w (.bool (!decide (X = Y))) w := by
  have hd : decide (X = Y) = decide (X.Name = Y.Name ∧ (X.Kind.Kind = Y.Kind.Kind ∧ X.Kind.Class = Y.Kind.Class ∧ True) ∧ True) := by rcases X with ⟨_, ⟨_, _⟩⟩; rcases Y with ⟨_, ⟨_, _⟩⟩; simp
  rw [hd]
  exact Gg.y_neF Try.underlying89 (by kernel_rfl) (by kernel_rfl) (Gg.eqF_str rfl Try.underlying9 Try.isAgg9 rfl rfl (Gg.eqF_sub (us := [.int .i64 X.Kind.Kind, Gg.Str X.Kind.Class]) (vs := [.int .i64 Y.Kind.Kind, Gg.Str Y.Kind.Class]) (q := X.Kind.Kind = Y.Kind.Kind ∧ X.Kind.Class = Y.Kind.Class ∧ True) rfl Try.isAgg71 Try.sizeOf71 rfl rfl (Gg.eq_sub Try.underlying71 (by kernel_rfl) (Gg.eqF_int rfl Try.underlying3 Try.isAgg3 rfl rfl (Gg.eqF_str rfl Try.underlying9 Try.isAgg9 rfl rfl (by simp [Gg.eqF_nil])))) (by simp [Gg.eqF_nil]))) ho hx hy
theorem eq_neq_Handler {o : Oper} {a : Act} {w : World} {t' : TypeId} {x y : Operand} {X Y : Cin.Handler} (ho : o.op = .binOp .neq 96 x y t') (hx : a.eval x = .agg #[.int .i64 X.From, .int .i64 X.To, .int .i64 X.At, Gg.Str X.Class]) (hy : a.eval y = .agg #[.int .i64 Y.From, .int .i64 Y.To, .int .i64 Y.At, Gg.Str Y.Class]) : Gg.Yv Try.prog o a w (.bool (!decide (X = Y))) w := by
  have hd : decide (X = Y) = decide (X.From = Y.From ∧ X.To = Y.To ∧ X.At = Y.At ∧ X.Class = Y.Class ∧ True) := by rcases X with ⟨_, _, _, _⟩; rcases Y with ⟨_, _, _, _⟩; simp
  rw [hd]
  exact Gg.y_neF Try.underlying96 (by kernel_rfl) (by kernel_rfl) (Gg.eqF_int rfl Try.underlying3 Try.isAgg3 rfl rfl (Gg.eqF_int rfl Try.underlying3 Try.isAgg3 rfl rfl (Gg.eqF_int rfl Try.underlying3 Try.isAgg3 rfl rfl (Gg.eqF_str rfl Try.underlying9 Try.isAgg9 rfl rfl (by simp [Gg.eqF_nil]))))) ho hx hy
section
open Gg
variable {n : FrN} {fr : List (Nat × Value)} {w : World} {a : Act}
theorem sp0 (k : Nat) (hs : List Nat) {ops : Array Oper} {Q : Exit → Act → World → Prop} {rest : List Oper} (fr' : List (Nat × Value)) (hf : Fr n fr a)
    (next : ∀ a', Fr n fr' a' → wpList Try.prog ops Q (rest.drop k) a' w) (he : evc gam ops n [] (rest.take k) hs fr (fr'.map (·.1)) = some (fr', dup []) := by kernel_rfl) : wpList Try.prog ops Q rest a w := sp k _ hs gam_ok mn hf he next
theorem sp1 (k : Nat) (hs : List Nat) {ops : Array Oper} {Q : Exit → Act → World → Prop} {rest : List Oper} {M : List (Nat × Nat × List Value)} (fr' : List (Nat × Value)) (L : List Nat) (hM : memOK w M) (hf : Fr n fr a)
    (next : ∀ a', Fr n fr' a' → wpList Try.prog ops Q (rest.drop k) a' w) (he : evc gam ops n M (rest.take k) hs fr (fr'.map (·.1)) = some (fr', dup L) := by kernel_rfl) : wpList Try.prog ops Q rest a w := sp k _ hs gam_ok hM hf he next
theorem qp1 (k : Nat) (hs : List Nat) {ops : Array Oper} {C : World → Prop} {Qq : Act → Prop} {rest : List Oper} {M : List (Nat × Nat × List Value)} (fr' : List (Nat × Value)) (L : List Nat) (hM : ∀ w, C w → memOK w M) (hf : Fr n fr a)
    (next : ∀ a', Fr n fr' a' → wpQuiet Try.prog ops C Qq (rest.drop k) a') (he : evc gam ops n M (rest.take k) hs fr (fr'.map (·.1)) = some (fr', dup L) := by kernel_rfl) : wpQuiet Try.prog ops C Qq rest a := qp k _ hs gam_ok hM hf he next
theorem rg (hs : List Nat) {id : Nat} {lo : List Oper} {Q : Exit → Act → World → Prop} {M : List (Nat × Nat × List Value)} (fr' : List (Nat × Value)) (L : List Nat) (hM : memOK w M) (hf : Fr n fr a)
    (next : ∀ a', Fr n fr' a' → Q .normal a' w) (he : evc gam lo.toArray n M lo hs fr (fr'.map (·.1)) = some (fr', dup L) := by kernel_rfl) : (Code.region id lo.toArray false).wp Try.prog Q a w := by
  refine c_region (sp lo.length _ hs gam_ok hM hf (by rw [List.take_length]; exact he) fun a' hf' => ?_)
  rw [List.drop_length]
  exact next a' hf'
theorem rg0 (hs : List Nat) {id : Nat} {lo : List Oper} {Q : Exit → Act → World → Prop} (fr' : List (Nat × Value)) (hf : Fr n fr a)
    (next : ∀ a', Fr n fr' a' → Q .normal a' w) (he : evc gam lo.toArray n [] lo hs fr (fr'.map (·.1)) = some (fr', dup []) := by kernel_rfl) : (Code.region id lo.toArray false).wp Try.prog Q a w := rg hs fr' [] mn hf next he
theorem sr0 (hs : List Nat) {id : Nat} {lo : List Oper} {c : Code} {Q : Exit → Act → World → Prop} (fr' : List (Nat × Value)) (hf : Fr n fr a)
    (next : ∀ a', Fr n fr' a' → c.wp Try.prog Q a' w) (he : evc gam lo.toArray n [] lo hs fr (fr'.map (·.1)) = some (fr', dup []) := by kernel_rfl) : (Code.seq (.region id lo.toArray false) c).wp Try.prog Q a w := wp_seq_k fun _ hK => rg hs fr' [] mn hf (fun a' hf' => hK _ _ (next a' hf')) he
end
end Go.Proofs.Ytfbkanhgjpdohaa
namespace Cin
def R_between (n_ : Int) (least_ : Int) (most_ : Int) : Option (Bool) :=
  some ((decide (least_ ≤ n_)) && (decide (n_ ≤ most_)))
def image_within (n_ : Int) (least_ : Int) (most_ : Int) : Option (Bool) :=
  some ((decide (least_ ≤ n_)) && (decide (n_ ≤ most_)))
def image_named (k_ : Int) : Option (Bool) :=
  some ((decide (k_ = 3)) || (decide (k_ = 4)))
def image_IsName_L1 (l1_ : List UInt8) : Nat → Int → Option (Way (Bool) (Unit))
  | 0, _ => none
  | k1_ + 1, n40_ =>
    cond (decide (n40_ < (l1_.length : Int))) ((idx l1_ n40_).bind fun x51_ =>
    cond (((((decide ((x51_.toNat : Int) < 97)) || (decide (122 < (x51_.toNat : Int)))) && ((decide ((x51_.toNat : Int) < 65)) || (decide (90 < (x51_.toNat : Int))))) && ((decide ((x51_.toNat : Int) < 48)) || (decide (57 < (x51_.toNat : Int))))) && (!decide ((x51_.toNat : Int) = 95))) (some (.out false)) (image_IsName_L1 l1_ k1_ (w64 (n40_ + 1)))) (some (.go ()))
def image_IsName (F : Nat) (s_ : List UInt8) : Option (Bool) :=
  (bytesOf s_).bind fun l1_ =>
  seqR (α := Unit) (image_IsName_L1 l1_ F 0) fun (_ : Unit) =>
  some ((!decide (s_ = [])) && (decide ((s_.length : Int) ≤ 20)))
def image_isKind (F : Nat) (k_ : Kind) : Option (Bool) :=
  (image_named k_.Kind).bind fun r2_ =>
  cond (r2_) ((image_IsName F k_.Class).bind fun r5_ =>
  some r5_) (some (((decide (k_.Kind = 1)) || (decide (k_.Kind = 2))) && (decide (k_.Class = []))))
def R_IsName_L1 (s_ : List UInt8) : Nat → Int → Option (Way (Bool) (Unit))
  | 0, _ => none
  | k1_ + 1, n20_ =>
    cond (decide (n20_ < (s_.length : Int))) ((idx s_ n20_).bind fun b27_ =>
    cond (!(((((decide (97 ≤ (b27_.toNat : Int))) && (decide ((b27_.toNat : Int) ≤ 122))) || ((decide (65 ≤ (b27_.toNat : Int))) && (decide ((b27_.toNat : Int) ≤ 90)))) || ((decide (48 ≤ (b27_.toNat : Int))) && (decide ((b27_.toNat : Int) ≤ 57)))) || (decide ((b27_.toNat : Int) = 95)))) (some (.out false)) (R_IsName_L1 s_ k1_ (w64 (n20_ + 1)))) (some (.go ()))
def R_IsName (F : Nat) (s_ : List UInt8) : Option (Bool) :=
  seqR (α := Unit) (R_IsName_L1 s_ F 0) fun (_ : Unit) =>
  some ((decide (1 ≤ (s_.length : Int))) && (decide ((s_.length : Int) ≤ 20)))
def R_RightKind (F : Nat) (k_ : Kind) : Option (Bool) :=
  cond ((decide (k_.Kind = 1)) || (decide (k_.Kind = 2))) (some (decide (k_.Class = []))) (cond ((decide (k_.Kind = 3)) || (decide (k_.Kind = 4))) ((R_IsName F k_.Class).bind fun r4_ =>
  some r4_) (some false))
end Cin
namespace Go.Proofs.Ytfbkanhgjpdohaa
open Go Go.RowKit Gg
set_option maxHeartbeats 4000000
set_option maxRecDepth 20000
theorem c_R_between {W : World} {X : List Nat} {n_ : Int} {least_ : Int} {most_ : Int} {r : Bool} (hm : St W (foots []) X W [] []) (h : Cin.R_between n_ least_ most_ = some r) :
    Calls Try.prog 85 [.i n_, .i least_, .i most_].toArray W (fun e w' => e = .returned (.bool r) ∧ St W (foots []) X w' [] []) := by
  generalize hM0 : foots [] = M0 at hm ⊢; clear hM0; refine enter Try.func85 rfl Try.ntmps85 rfl ?_; intro a hf; rw [Cin.R_between] at h; refine sr0 [] [(0, .i n_), (1, .i least_), (2, .i most_)] hf fun a hf => ?_; refine sr0 [0, 0, 0, 0] [(6, .bool ((decide (least_ ≤ n_)) && (decide (n_ ≤ most_))))] hf fun a hf => ?_; refine wp_ret ?_; obtain rfl := Option.some.inj h; refine r_one Try.results85 hf rfl ?_; exact ⟨rfl, (hm.sel [] rfl rfl).pick trivial⟩
theorem c_image_within {W : World} {X : List Nat} {n_ : Int} {least_ : Int} {most_ : Int} {r : Bool} (hm : St W (foots []) X W [] []) (h : Cin.image_within n_ least_ most_ = some r) :
    Calls Try.prog 122 [.i n_, .i least_, .i most_].toArray W (fun e w' => e = .returned (.bool r) ∧ St W (foots []) X w' [] []) := by
  generalize hM0 : foots [] = M0 at hm ⊢; clear hM0; refine enter Try.func122 rfl Try.ntmps122 rfl ?_; intro a hf; rw [Cin.image_within] at h; refine sr0 [] [(0, .i n_), (1, .i least_), (2, .i most_)] hf fun a hf => ?_; refine sr0 [0, 0, 0, 0] [(6, .bool ((decide (least_ ≤ n_)) && (decide (n_ ≤ most_))))] hf fun a hf => ?_; refine wp_ret ?_; obtain rfl := Option.some.inj h; refine r_one Try.results122 hf rfl ?_; exact ⟨rfl, (hm.sel [] rfl rfl).pick trivial⟩
theorem c_image_named {W : World} {X : List Nat} {k_ : Int} {r : Bool} (hm : St W (foots []) X W [] []) (h : Cin.image_named k_ = some r) :
    Calls Try.prog 117 [.i k_].toArray W (fun e w' => e = .returned (.bool r) ∧ St W (foots []) X w' [] []) := by
  generalize hM0 : foots [] = M0 at hm ⊢; clear hM0; refine enter Try.func117 rfl Try.ntmps117 rfl ?_; intro a hf; rw [Cin.image_named] at h; refine sr0 [] [(0, .i k_)] hf fun a hf => ?_; refine sr0 [0, 0, 0] [(2, .bool ((decide (k_ = 3)) || (decide (k_ = 4))))] hf fun a hf => ?_; refine wp_ret ?_; obtain rfl := Option.some.inj h; refine r_one Try.results117 hf rfl ?_; exact ⟨rfl, (hm.sel [] rfl rfl).pick trivial⟩
theorem c_image_IsName {W : World} {X : List Nat} {F : Nat} {s_ : List UInt8} {r : Bool} (hm : St W (foots []) X W [] []) (h : Cin.image_IsName F s_ = some r) :
    Calls Try.prog 86 [Str s_].toArray W (fun e w' => e = .returned (.bool r) ∧ St W (foots []) X w' [] []) := by
  generalize hM0 : foots [] = M0 at hm ⊢; clear hM0; refine enter Try.func86 rfl Try.ntmps86 rfl ?_; intro a hf; rw [Cin.image_IsName] at h; refine sr0 [] [(0, Str s_)] hf fun a hf => ?_; refine wp_seq_k fun K hK2 => ?_; refine wp_seq_k fun K hK3 => ?_; refine c_region ?_; refine sp0 1 [] [(0, Str s_), (5, Str s_)] hf fun a hf => ?_; obtain ⟨l1_, hl2_, h⟩ := Cin.bind_s h; refine nbytes hl2_ Try.underlying9 Try.underlying79 Try.underlying5 (wN rfl) rfl (hf.g rfl) hf hm rfl rfl ?_; intro a A3_ c4_ w hv hf hm; clear hv; refine sp0 2 [] [(0, Str s_), (6, .slice A3_ l1_.length c4_), (7, .i (l1_.length : Int)), (8, .i 0)] hf fun a hf => wpList_nil (hK3 _ _ ?_); obtain ⟨j31_, h, hj31_⟩ := Cin.seqR_s h
  refine c_blockJ (fun a w => Fr ⟨46, []⟩ [(0, Str s_)] a ∧ St W M0 X w [] [sl tyByte A3_ c4_ l1_] ∧ j31_ = (.go ())) (fun K hK4 => ?_) ?_
  · refine c_loop (fun (k1_ : Nat) a w => ∃ (n40_ : Int), Fr ⟨46, []⟩ [(0, Str s_), (6, .slice A3_ l1_.length c4_), (7, .i (l1_.length : Int)), (8, .i n40_)] a ∧ St W M0 X w [] [sl tyByte A3_ c4_ l1_] ∧ Cin.image_IsName_L1 l1_ k1_ n40_ = some j31_) F ⟨0, hf.sub ⟨rfl, rfl, rfl, rfl, trivial⟩, hm, h⟩ ?_ ?_
    · rintro a w ⟨n40_, hf, hm, h⟩; exact absurd h (by simp [Cin.image_IsName_L1])
    rintro k1_ a w ⟨n40_, hf, hm, h⟩ K hK5; rw [Cin.image_IsName_L1] at h; refine sr0 [] [(0, Str s_), (6, .slice A3_ l1_.length c4_), (7, .i (l1_.length : Int)), (8, .i n40_), (9, .bool (decide (n40_ < (l1_.length : Int))))] hf fun a hf => ?_; refine wp_seq_k fun K hK7 => ?_; refine cc (hf.g rfl) h (fun hb50_ h => ?_) (fun hb50_ h => ?_)
    · refine wp_skip ?_; refine hK7 _ _ ?_; refine wp_seq_k fun K hK8 => ?_; refine wp_block ?_; refine wp_seq_k fun K hK9 => ?_; refine c_region ?_; obtain ⟨x51_, hx52_, h⟩ := Cin.bind_s h; obtain ⟨hA53_, hi54_, _, rfl, hc55_⟩ := slice_at _ (hm.d 0 rfl) hx52_; refine sv (wN rfl) (y_idx Try.underlying79 Try.sizeOf5 rfl (hf.g rfl) (hf.g rfl) hA53_ hi54_) hf rfl rfl fun a hf => ?_; refine sp1 2 [0, 0] [(0, Str s_), (4, .int .u8 (x51_.toNat : Int)), (6, .slice A3_ l1_.length c4_), (7, .i (l1_.length : Int)), (8, .i n40_)] [bO A3_, oO A3_ + (n40_).toNat * 1] (mc hc55_ mn) hf fun a hf => wpList_nil (hK9 _ _ ?_); refine wp_seq_k fun K hK10 => ?_
      refine rg0 [0, 0, 0, 0, 0, 0, 0, 0, 0, 0, 0, 0, 0, 0, 0, 0, 0, 0, 0, 0, 0, 0] [(0, Str s_), (6, .slice A3_ l1_.length c4_), (7, .i (l1_.length : Int)), (8, .i n40_), (37, .bool (((((decide ((x51_.toNat : Int) < 97)) || (decide (122 < (x51_.toNat : Int)))) && ((decide ((x51_.toNat : Int) < 65)) || (decide (90 < (x51_.toNat : Int))))) && ((decide ((x51_.toNat : Int) < 48)) || (decide (57 < (x51_.toNat : Int))))) && (!decide ((x51_.toNat : Int) = 95))))] hf fun a hf => hK10 _ _ ?_; refine cc (hf.g rfl) h (fun hb57_ h => ?_) (fun hb57_ h => ?_)
      · refine sr0 [] [(2, .bool false)] hf fun a hf => ?_; refine wp_ret ?_; obtain rfl := Option.some.inj h; obtain rfl := Option.some.inj (show some (_) = some _ from hj31_); refine x_retB (x_retT (x_retT (x_retB (x_retT (x_retT ?_))))); refine r_one Try.results86 hf rfl ?_; exact ⟨rfl, (hm.sel [] rfl rfl).pick trivial⟩
      refine wp_skip ?_; refine hK8 _ _ ?_; refine rg0 [] [(0, Str s_), (6, .slice A3_ l1_.length c4_), (7, .i (l1_.length : Int)), (8, .i (Cin.w64 (n40_ + 1)))] hf fun a hf => ?_; exact hK5 _ _ ⟨Cin.w64 (n40_ + 1), hf.sub ⟨rfl, rfl, rfl, rfl, trivial⟩, hm, h⟩
    refine wp_exit ?_; refine x_then (x_then (x_hit ?_)); exact hK4 _ _ ⟨hf.sub ⟨rfl, trivial⟩, hm, (Option.some.inj h).symm⟩
  rintro a w ⟨hf, hm, hj⟩; subst j31_; have h := hj31_; clear hj31_; dsimp only [Cin.contR] at h; refine hK2 _ _ ?_; refine sr0 [0, 0, 0, 0] [(2, .bool ((!decide (s_ = [])) && (decide ((s_.length : Int) ≤ 20))))] hf fun a hf => ?_; refine wp_ret ?_; obtain rfl := Option.some.inj h; refine r_one Try.results86 hf rfl ?_; exact ⟨rfl, (hm.sel [] rfl rfl).pick trivial⟩
theorem c_image_isKind {W : World} {X : List Nat} {F : Nat} {k_ : Cin.Kind} {r : Bool} (hm : St W (foots []) X W [] []) (h : Cin.image_isKind F k_ = some r) :
    Calls Try.prog 87 [.agg #[.i k_.Kind, Str k_.Class]].toArray W (fun e w' => e = .returned (.bool r) ∧ St W (foots []) X w' [] []) := by
  generalize hM0 : foots [] = M0 at hm ⊢; clear hM0; refine enter Try.func87 rfl Try.ntmps87 rfl ?_; intro a hf; rw [Cin.image_isKind] at h; refine wp_seq_k fun K hK1 => ?_; refine c_region ?_; refine nnew (cs := [.i k_.Kind, Str k_.Class]) (wN rfl) (y_box rfl rfl (hf.g rfl)) hf hm rfl rfl ?_; intro a g1_ w hv hf hm; clear hv; refine sp0 1 [] [(1, .po g1_)] hf fun a hf => wpList_nil (hK1 _ _ ?_); refine wp_seq_k fun K hK2 => ?_; refine wp_seq_k fun K hK3 => ?_; refine c_region ?_; refine sp1 2 [0, 0] [(1, .po g1_), (4, .i k_.Kind)] [g1_, 0] (mc (blk_all (hm.e 0 rfl)) mn) hf fun a hf => ?_; obtain ⟨r2_, hr3_, h⟩ := Cin.bind_s h; have hc := hm
  refine sc (vs := [.i k_.Kind]) (wN rfl) rfl Try.call117 ⟨(hf.g rfl), trivial⟩ (c_image_named ((hc.into 0).pick trivial) hr3_) hf rfl rfl ?_; rintro _ w ⟨rfl, hn⟩; refine ⟨_, rfl, ?_⟩; intro a hf; have hv : Ev [] _ w := hn.ev; have hm := hc.back 0 hn; dsimp only [List.drop, List.cons_append, List.nil_append, HAppend.hAppend, Append.append, List.append] at hm; clear hn hc; clear hv; refine wpList_nil ?_; refine hK3 _ _ ?_; refine cc (hf.g rfl) h (fun hb4_ h => ?_) (fun hb4_ h => ?_)
  · refine wp_seq_k fun K hK4 => ?_; refine c_region ?_; refine sp1 2 [0, 1] [(7, Str k_.Class)] [g1_, 1] (mc (blk_all (hm.e 0 rfl)) mn) hf fun a hf => ?_; obtain ⟨r5_, hr6_, h⟩ := Cin.bind_s h; have hc := hm; refine sc (vs := [Str k_.Class]) (wN rfl) rfl Try.call86 ⟨(hf.g rfl), trivial⟩ (c_image_IsName ((hc.into 0).pick trivial) hr6_) hf rfl rfl ?_; rintro _ w ⟨rfl, hn⟩; refine ⟨_, rfl, ?_⟩; intro a hf; have hv : Ev [] _ w := hn.ev; have hm := hc.back 0 hn; dsimp only [List.drop, List.cons_append, List.nil_append, HAppend.hAppend, Append.append, List.append] at hm; clear hn hc; clear hv; refine sp0 1 [] [(2, .bool r5_)] hf fun a hf => wpList_nil (hK4 _ _ ?_); refine wp_ret ?_; obtain rfl := Option.some.inj h; refine x_retT ?_; refine r_one Try.results87 hf rfl ?_; exact ⟨rfl, (hm.sel [] rfl rfl).pick trivial⟩
  refine wp_skip ?_; refine hK2 _ _ ?_; refine wp_seq_k fun K hK5 => ?_; refine rg [0, 0, 0, 0, 0, 0, 0, 0, 0, 0, 0, 1, 0, 0] [(2, .bool (((decide (k_.Kind = 1)) || (decide (k_.Kind = 2))) && (decide (k_.Class = []))))] [g1_, 1, g1_, 0, g1_, 0] (mc (blk_all (hm.e 0 rfl)) mn) hf fun a hf => hK5 _ _ ?_; refine wp_ret ?_; obtain rfl := Option.some.inj h; refine r_one Try.results87 hf rfl ?_; exact ⟨rfl, (hm.sel [] rfl rfl).pick trivial⟩
theorem c_R_IsName {W : World} {X : List Nat} {F : Nat} {s_ : List UInt8} {r : Bool} (hm : St W (foots []) X W [] []) (h : Cin.R_IsName F s_ = some r) :
    Calls Try.prog 41 [Str s_].toArray W (fun e w' => e = .returned (.bool r) ∧ St W (foots []) X w' [] []) := by
  generalize hM0 : foots [] = M0 at hm ⊢; clear hM0; refine enter Try.func41 rfl Try.ntmps41 rfl ?_; intro a hf; rw [Cin.R_IsName] at h; refine sr0 [] [(0, Str s_)] hf fun a hf => ?_; refine wp_seq_k fun K hK2 => ?_; refine sr0 [] [(0, Str s_), (3, .i 0)] hf fun a hf => ?_; obtain ⟨j15_, h, hj15_⟩ := Cin.seqR_s h; refine c_blockJ (fun a w => Fr ⟨49, []⟩ [(0, Str s_)] a ∧ St W M0 X w [] [] ∧ j15_ = (.go ())) (fun K hK4 => ?_) ?_
  · refine c_loop (fun (k1_ : Nat) a w => ∃ (n20_ : Int), Fr ⟨49, []⟩ [(0, Str s_), (3, .i n20_)] a ∧ St W M0 X w [] [] ∧ Cin.R_IsName_L1 s_ k1_ n20_ = some j15_) F ⟨0, hf.sub ⟨rfl, rfl, trivial⟩, hm, h⟩ ?_ ?_
    · rintro a w ⟨n20_, hf, hm, h⟩; exact absurd h (by simp [Cin.R_IsName_L1])
    rintro k1_ a w ⟨n20_, hf, hm, h⟩ K hK5; rw [Cin.R_IsName_L1] at h; refine wp_seq_k fun K hK6 => ?_; refine sr0 [] [(0, Str s_), (3, .i n20_), (8, .bool (decide (n20_ < (s_.length : Int))))] hf fun a hf => ?_; refine cc (hf.g rfl) h (fun hb26_ h => ?_) (fun hb26_ h => ?_)
    · refine wp_skip ?_; refine hK6 _ _ ?_; refine wp_seq_k fun K hK8 => ?_; refine wp_block ?_; refine wp_seq_k fun K hK9 => ?_; refine c_region ?_; refine sp0 2 [] [(0, Str s_), (3, .i n20_), (11, Str s_), (12, .i n20_)] hf fun a hf => ?_; obtain ⟨b27_, hx28_, h⟩ := Cin.bind_s h; refine sv (wN rfl) (y_indexS' Try.underlying9 rfl (hf.g rfl) (hf.g rfl) hx28_) hf rfl rfl fun a hf => ?_; refine sp0 1 [] [(0, Str s_), (3, .i n20_), (4, .int .u8 (b27_.toNat : Int))] hf fun a hf => wpList_nil (hK9 _ _ ?_); refine wp_seq_k fun K hK10 => ?_
      refine rg0 [0, 0, 0, 0, 0, 0, 0, 0, 0, 0, 0, 0, 0, 0, 0, 0, 0, 0, 0, 0, 0, 0] [(0, Str s_), (3, .i n20_), (40, .bool (!(((((decide (97 ≤ (b27_.toNat : Int))) && (decide ((b27_.toNat : Int) ≤ 122))) || ((decide (65 ≤ (b27_.toNat : Int))) && (decide ((b27_.toNat : Int) ≤ 90)))) || ((decide (48 ≤ (b27_.toNat : Int))) && (decide ((b27_.toNat : Int) ≤ 57)))) || (decide ((b27_.toNat : Int) = 95)))))] hf fun a hf => hK10 _ _ ?_; refine cc (hf.g rfl) h (fun hb29_ h => ?_) (fun hb29_ h => ?_)
      · refine sr0 [] [(2, .bool false)] hf fun a hf => ?_; refine wp_ret ?_; obtain rfl := Option.some.inj h; obtain rfl := Option.some.inj (show some (_) = some _ from hj15_); refine x_retB (x_retT (x_retT (x_retB (x_retT (x_retT ?_))))); refine r_one Try.results41 hf rfl ?_; exact ⟨rfl, (hm.sel [] rfl rfl).pick trivial⟩
      refine wp_skip ?_; refine hK8 _ _ ?_; refine rg0 [] [(0, Str s_), (3, .i (Cin.w64 (n20_ + 1)))] hf fun a hf => ?_; exact hK5 _ _ ⟨Cin.w64 (n20_ + 1), hf.sub ⟨rfl, rfl, trivial⟩, hm, h⟩
    refine wp_exit ?_; refine x_then (x_then (x_hit ?_)); exact hK4 _ _ ⟨hf.sub ⟨rfl, trivial⟩, hm, (Option.some.inj h).symm⟩
  rintro a w ⟨hf, hm, hj⟩; subst j15_; have h := hj15_; clear hj15_; dsimp only [Cin.contR] at h; refine hK2 _ _ ?_; refine sr0 [0, 0, 0, 0] [(2, .bool ((decide (1 ≤ (s_.length : Int))) && (decide ((s_.length : Int) ≤ 20))))] hf fun a hf => ?_; refine wp_ret ?_; obtain rfl := Option.some.inj h; refine r_one Try.results41 hf rfl ?_; exact ⟨rfl, (hm.sel [] rfl rfl).pick trivial⟩
theorem c_R_RightKind {W : World} {X : List Nat} {F : Nat} {k_ : Cin.Kind} {r : Bool} (hm : St W (foots []) X W [] []) (h : Cin.R_RightKind F k_ = some r) :
    Calls Try.prog 42 [.agg #[.i k_.Kind, Str k_.Class]].toArray W (fun e w' => e = .returned (.bool r) ∧ St W (foots []) X w' [] []) := by
  generalize hM0 : foots [] = M0 at hm ⊢; clear hM0; refine enter Try.func42 rfl Try.ntmps42 rfl ?_; intro a hf; rw [Cin.R_RightKind] at h; refine wp_seq_k fun K hK1 => ?_; refine c_region ?_; refine nnew (cs := [.i k_.Kind, Str k_.Class]) (wN rfl) (y_box rfl rfl (hf.g rfl)) hf hm rfl rfl ?_; intro a g1_ w hv hf hm; clear hv; refine sp0 1 [] [(1, .po g1_)] hf fun a hf => wpList_nil (hK1 _ _ ?_); refine wp_seq_k fun K hK2 => ?_; refine wp_seq_k fun K hK3 => ?_; refine rg [0, 0, 0, 0, 0, 0, 0, 0] [(1, .po g1_), (10, .bool ((decide (k_.Kind = 1)) || (decide (k_.Kind = 2))))] [g1_, 0, g1_, 0] (mc (blk_all (hm.e 0 rfl)) mn) hf fun a hf => hK3 _ _ ?_; refine cc (hf.g rfl) h (fun hb2_ h => ?_) (fun hb2_ h => ?_)
  · refine wp_seq_k fun K hK4 => ?_; refine rg [0, 1] [(2, .bool (decide (k_.Class = [])))] [g1_, 1] (mc (blk_all (hm.e 0 rfl)) mn) hf fun a hf => hK4 _ _ ?_; refine wp_ret ?_; obtain rfl := Option.some.inj h; refine x_retT ?_; refine r_one Try.results42 hf rfl ?_; exact ⟨rfl, (hm.sel [] rfl rfl).pick trivial⟩
  refine wp_skip ?_; refine hK2 _ _ ?_; refine wp_seq_k fun K hK5 => ?_; refine c_region ?_; refine sp1 9 [0, 0, 0, 0, 0, 0, 0, 0] [(1, .po g1_), (22, .bool ((decide (k_.Kind = 3)) || (decide (k_.Kind = 4))))] [g1_, 0, g1_, 0] (mc (blk_all (hm.e 0 rfl)) mn) hf fun a hf => ?_; rcases Bool.eq_false_or_eq_true ((decide (k_.Kind = 3)) || (decide (k_.Kind = 4))) with hb3_ | hb3_
  · have h := Cin.cond_t hb3_ h; have hf := hf.bt 22 rfl hb3_; refine sp1 2 [1, 1, 0, 1] [(22, .bool true), (24, Str k_.Class)] [g1_, 1] (mc (blk_all (hm.e 0 rfl)) mn) hf fun a hf => ?_; obtain ⟨r4_, hr5_, h⟩ := Cin.bind_s h; have hc := hm; refine sc (vs := [Str k_.Class]) (wantT hf rfl rfl rfl rfl) rfl Try.call41 ⟨(hf.g rfl), trivial⟩ (c_R_IsName ((hc.into 0).pick trivial) hr5_) hf rfl rfl ?_; rintro _ w ⟨rfl, hn⟩; refine ⟨_, rfl, ?_⟩; intro a hf; have hv : Ev [] _ w := hn.ev; have hm := hc.back 0 hn; dsimp only [List.drop, List.cons_append, List.nil_append, HAppend.hAppend, Append.append, List.append] at hm; clear hn hc; clear hv; refine sp0 2 [1] [(2, .bool r4_)] hf fun a hf => wpList_nil (hK5 _ _ ?_); refine wp_ret ?_; obtain rfl := Option.some.inj h; refine r_one Try.results42 hf rfl ?_
    exact ⟨rfl, (hm.sel [] rfl rfl).pick trivial⟩
  have h := Cin.cond_f hb3_ h; have hf := hf.bt 22 rfl hb3_; refine sp0 5 [1, 1, 1, 1] [(2, .bool false)] hf fun a hf => wpList_nil (hK5 _ _ ?_); refine wp_ret ?_; obtain rfl := Option.some.inj h; refine r_one Try.results42 hf rfl ?_; exact ⟨rfl, (hm.sel [] rfl rfl).pick trivial⟩
end Go.Proofs.Ytfbkanhgjpdohaa
namespace Cin
def image_method_L1 (F : Nat) (m_ : Method) : Nat → Int → Option (Way (Int) (Unit))
  | 0, _ => none
  | k1_ + 1, n63_ =>
    cond (decide (n63_ < (m_.Args.length : Int))) ((idx m_.Args n63_).bind fun x77_ =>
    (image_isKind F (⟨x77_.Kind, x77_.Class⟩ : Kind)).bind fun r84_ =>
    cond (!r84_) (some (.out 7)) (image_method_L1 F m_ k1_ (w64 (n63_ + 1)))) (some (.go ()))
def image_method_L2 (F : Nat) (m_ : Method) : Nat → Int → Option (Way (Int) (Unit))
  | 0, _ => none
  | k2_ + 1, n174_ =>
    cond (decide (n174_ < (m_.Handlers.length : Int))) ((idx m_.Handlers n174_).bind fun x197_ =>
    (image_IsName F x197_.Class).bind fun r204_ =>
    cond (!r204_) (some (.out 1)) ((image_within x197_.From 0 200).bind fun r207_ =>
    cond (!r207_) (some (.out 3)) ((image_within x197_.To 0 200).bind fun r210_ =>
    cond (!r210_) (some (.out 3)) ((image_within x197_.At 0 200).bind fun r213_ =>
    cond (!r213_) (some (.out 3)) (image_method_L2 F m_ k2_ (w64 (n174_ + 1))))))) (some (.go ()))
def image_method_L3 (F : Nat) (m_ : Method) : Nat → Int → Option (Way (Int) (Unit))
  | 0, _ => none
  | k3_ + 1, n299_ =>
    cond (decide (n299_ < (m_.Handlers.length : Int))) ((idx m_.Handlers n299_).bind fun x322_ =>
    (image_IsName F x322_.Class).bind fun r329_ =>
    cond (!r329_) (some (.out 1)) ((image_within x322_.From 0 200).bind fun r332_ =>
    cond (!r332_) (some (.out 3)) ((image_within x322_.To 0 200).bind fun r335_ =>
    cond (!r335_) (some (.out 3)) ((image_within x322_.At 0 200).bind fun r338_ =>
    cond (!r338_) (some (.out 3)) (image_method_L3 F m_ k3_ (w64 (n299_ + 1))))))) (some (.go ()))
def image_method (F : Nat) (m_ : Method) : Option (Int) :=
  (image_IsName F m_.Name).bind fun r6_ =>
  cond (!r6_) (some 1) (cond (((decide (4 < (m_.Args.length : Int))) || (decide (200 < (m_.Code.length : Int)))) || (decide (4 < (m_.Handlers.length : Int)))) (some 2) ((image_within m_.Stack 0 10).bind fun r10_ =>
  cond (!r10_) (some 3) ((image_within m_.Locals 0 10).bind fun r13_ =>
  cond (!r13_) (some 3) (seqR (α := Unit) (image_method_L1 F m_ F 0) fun (_ : Unit) =>
  cond (!decide ((⟨m_.Returns.Kind, m_.Returns.Class⟩ : Kind) = (⟨0, []⟩ : Kind))) ((image_isKind F (⟨m_.Returns.Kind, m_.Returns.Class⟩ : Kind)).bind fun r88_ =>
  cond (!r88_) (some 7) (seqR (α := Unit) (image_method_L2 F m_ F 0) fun (_ : Unit) =>
  some 0)) (seqR (α := Unit) (image_method_L3 F m_ F 0) fun (_ : Unit) =>
  some 0)))))
def image_class_L1 (F : Nat) (c_ : Class) : Nat → Int → Option (Way (Int) (Unit))
  | 0, _ => none
  | k1_ + 1, n73_ =>
    cond (decide (n73_ < (c_.Fields.length : Int))) ((idx c_.Fields n73_).bind fun x90_ =>
    (image_IsName F x90_.Name).bind fun r97_ =>
    cond (!r97_) (some (.out 1)) ((image_isKind F (⟨x90_.Kind.Kind, x90_.Kind.Class⟩ : Kind)).bind fun r100_ =>
    cond (!r100_) (some (.out 7)) (image_class_L1 F c_ k1_ (w64 (n73_ + 1))))) (some (.go ()))
def image_class_L2 (F : Nat) (c_ : Class) : Nat → Int → Option (Way (Int) (Unit))
  | 0, _ => none
  | k2_ + 1, n174_ =>
    cond (decide (n174_ < (c_.Methods.length : Int))) ((idx c_.Methods n174_).bind fun x194_ =>
    (image_method F (⟨x194_.Name, x194_.Static, x194_.Args, (⟨x194_.Returns.Kind, x194_.Returns.Class⟩ : Kind), x194_.Stack, x194_.Locals, x194_.Code, x194_.Handlers⟩ : Method)).bind fun r207_ =>
    cond (!decide (r207_ = 0)) (some (.out r207_)) (image_class_L2 F c_ k2_ (w64 (n174_ + 1)))) (some (.go ()))
def image_class_L3 (F : Nat) (c_ : Class) : Nat → Int → Option (Way (Int) (Unit))
  | 0, _ => none
  | k3_ + 1, n270_ =>
    cond (decide (n270_ < (c_.Fields.length : Int))) ((idx c_.Fields n270_).bind fun x287_ =>
    (image_IsName F x287_.Name).bind fun r294_ =>
    cond (!r294_) (some (.out 1)) ((image_isKind F (⟨x287_.Kind.Kind, x287_.Kind.Class⟩ : Kind)).bind fun r297_ =>
    cond (!r297_) (some (.out 7)) (image_class_L3 F c_ k3_ (w64 (n270_ + 1))))) (some (.go ()))
def image_class_L4 (F : Nat) (c_ : Class) : Nat → Int → Option (Way (Int) (Unit))
  | 0, _ => none
  | k4_ + 1, n371_ =>
    cond (decide (n371_ < (c_.Methods.length : Int))) ((idx c_.Methods n371_).bind fun x391_ =>
    (image_method F (⟨x391_.Name, x391_.Static, x391_.Args, (⟨x391_.Returns.Kind, x391_.Returns.Class⟩ : Kind), x391_.Stack, x391_.Locals, x391_.Code, x391_.Handlers⟩ : Method)).bind fun r404_ =>
    cond (!decide (r404_ = 0)) (some (.out r404_)) (image_class_L4 F c_ k4_ (w64 (n371_ + 1)))) (some (.go ()))
def image_class (F : Nat) (c_ : Class) : Option (Int) :=
  (image_IsName F c_.Name).bind fun r6_ =>
  cond (!r6_) (some 1) (cond (!decide (c_.Super = [])) ((image_IsName F c_.Super).bind fun r10_ =>
  cond (!r10_) (some 1) (cond ((decide (6 < (c_.Fields.length : Int))) || (decide (8 < (c_.Methods.length : Int)))) (some 2) (seqR (α := Unit) (image_class_L1 F c_ F 0) fun (_ : Unit) =>
  seqR (α := Unit) (image_class_L2 F c_ F 0) fun (_ : Unit) =>
  some 0))) (cond ((decide (6 < (c_.Fields.length : Int))) || (decide (8 < (c_.Methods.length : Int)))) (some 2) (seqR (α := Unit) (image_class_L3 F c_ F 0) fun (_ : Unit) =>
  seqR (α := Unit) (image_class_L4 F c_ F 0) fun (_ : Unit) =>
  some 0)))
def image_Check_L1 (F : Nat) (l_ : List Class) : Nat → Int → Option (Way (Int) (Unit))
  | 0, _ => none
  | k1_ + 1, n75_ =>
    cond (decide (n75_ < (l_.length : Int))) ((idx l_ n75_).bind fun x95_ =>
    (image_class F (⟨x95_.Name, x95_.Super, x95_.Fields, x95_.Methods⟩ : Class)).bind fun r108_ =>
    cond (!decide (r108_ = 0)) (some (.out r108_)) (image_Check_L1 F l_ k1_ (w64 (n75_ + 1)))) (some (.go ()))
def image_Check (F : Nat) (l_ : List Class) : Option (Int) :=
  cond (decide (10 < (l_.length : Int))) (some 2) (seqR (α := Unit) (image_Check_L1 F l_ F 0) fun (_ : Unit) =>
  some 0)
def R_CheckMethod_L1 (F : Nat) (m_ : Method) : Nat → Int → Option (Way (Int) (Unit))
  | 0, _ => none
  | k1_ + 1, n59_ =>
    cond (decide (n59_ < (m_.Args.length : Int))) ((idx m_.Args n59_).bind fun x72_ =>
    (R_RightKind F x72_).bind fun r78_ =>
    cond (!r78_) (some (.out 7)) (R_CheckMethod_L1 F m_ k1_ (w64 (n59_ + 1)))) (some (.go ()))
def R_CheckMethod_L2 (F : Nat) (m_ : Method) : Nat → Int → Option (Way (Int) (Unit))
  | 0, _ => none
  | k2_ + 1, n167_ =>
    cond (decide (n167_ < (m_.Handlers.length : Int))) ((idx m_.Handlers n167_).bind fun x190_ =>
    (R_IsName F x190_.Class).bind fun r197_ =>
    cond (!r197_) (some (.out 1)) ((R_between x190_.From 0 200).bind fun r200_ =>
    cond (!r200_) (some (.out 3)) ((R_between x190_.To 0 200).bind fun r203_ =>
    cond (!r203_) (some (.out 3)) ((R_between x190_.At 0 200).bind fun r206_ =>
    cond (!r206_) (some (.out 3)) (R_CheckMethod_L2 F m_ k2_ (w64 (n167_ + 1))))))) (some (.go ()))
def R_CheckMethod (F : Nat) (m_ : Method) : Option (Int) :=
  (R_IsName F m_.Name).bind fun r6_ =>
  cond (!r6_) (some 1) (cond (((decide (4 < (m_.Args.length : Int))) || (decide (200 < (m_.Code.length : Int)))) || (decide (4 < (m_.Handlers.length : Int)))) (some 2) ((R_between m_.Stack 0 10).bind fun r10_ =>
  cond (!r10_) (some 3) ((R_between m_.Locals 0 10).bind fun r13_ =>
  cond (!r13_) (some 3) (seqR (α := Unit) (R_CheckMethod_L1 F m_ F 0) fun (_ : Unit) =>
  (R_RightKind F (⟨m_.Returns.Kind, m_.Returns.Class⟩ : Kind)).bind fun r81_ =>
  cond ((!r81_) && ((!decide (m_.Returns.Kind = 0)) || (!decide (m_.Returns.Class = [])))) (some 7) (seqR (α := Unit) (R_CheckMethod_L2 F m_ F 0) fun (_ : Unit) =>
  some 0)))))
def R_CheckClasses_L2 (F : Nat) (x5103_ : Class) : Nat → Int → Option (Way (Int) (Unit))
  | 0, _ => none
  | k2_ + 1, n5203_ =>
    cond (decide (n5203_ < (x5103_.Fields.length : Int))) ((idx x5103_.Fields n5203_).bind fun x5225_ =>
    (R_IsName F x5225_.Name).bind fun r5231_ =>
    cond (!r5231_) (some (.out 1)) ((idx x5103_.Fields n5203_).bind fun x5234_ =>
    (R_RightKind F (⟨x5234_.Kind.Kind, x5234_.Kind.Class⟩ : Kind)).bind fun r5240_ =>
    cond (!r5240_) (some (.out 7)) (R_CheckClasses_L2 F x5103_ k2_ (w64 (n5203_ + 1))))) (some (.go ()))
def R_CheckClasses_L3 (F : Nat) (x5103_ : Class) : Nat → Int → Option (Way (Int) (Unit))
  | 0, _ => none
  | k3_ + 1, n5310_ =>
    cond (decide (n5310_ < (x5103_.Methods.length : Int))) ((idx x5103_.Methods n5310_).bind fun x5329_ =>
    (R_CheckMethod F x5329_).bind fun r5341_ =>
    cond (!decide (r5341_ = 0)) (some (.out r5341_)) (R_CheckClasses_L3 F x5103_ k3_ (w64 (n5310_ + 1)))) (some (.go ()))
def R_CheckClasses_L4 (F : Nat) (x5103_ : Class) : Nat → Int → Option (Way (Int) (Unit))
  | 0, _ => none
  | k4_ + 1, n5424_ =>
    cond (decide (n5424_ < (x5103_.Fields.length : Int))) ((idx x5103_.Fields n5424_).bind fun x5446_ =>
    (R_IsName F x5446_.Name).bind fun r5452_ =>
    cond (!r5452_) (some (.out 1)) ((idx x5103_.Fields n5424_).bind fun x5455_ =>
    (R_RightKind F (⟨x5455_.Kind.Kind, x5455_.Kind.Class⟩ : Kind)).bind fun r5461_ =>
    cond (!r5461_) (some (.out 7)) (R_CheckClasses_L4 F x5103_ k4_ (w64 (n5424_ + 1))))) (some (.go ()))
def R_CheckClasses_L5 (F : Nat) (x5103_ : Class) : Nat → Int → Option (Way (Int) (Unit))
  | 0, _ => none
  | k5_ + 1, n5531_ =>
    cond (decide (n5531_ < (x5103_.Methods.length : Int))) ((idx x5103_.Methods n5531_).bind fun x5550_ =>
    (R_CheckMethod F x5550_).bind fun r5562_ =>
    cond (!decide (r5562_ = 0)) (some (.out r5562_)) (R_CheckClasses_L5 F x5103_ k5_ (w64 (n5531_ + 1)))) (some (.go ()))
def R_CheckClasses_L1 (F : Nat) (l_ : List Class) : Nat → Int → Option (Way (Int) (Unit))
  | 0, _ => none
  | k1_ + 1, n3711_ =>
    cond (decide (n3711_ < (l_.length : Int))) (seqO (α := Unit) ((idx l_ n3711_).bind fun x5103_ =>
    (R_IsName F x5103_.Name).bind fun r5116_ =>
    cond (!r5116_) (some (.out 1)) (cond (!decide (x5103_.Super = [])) ((R_IsName F x5103_.Super).bind fun r5120_ =>
    cond (!r5120_) (some (.out 1)) (cond ((decide (6 < (x5103_.Fields.length : Int))) || (decide (8 < (x5103_.Methods.length : Int)))) (some (.out 2)) (seqO (α := Unit) (R_CheckClasses_L2 F x5103_ F 0) fun (_ : Unit) =>
    seqO (α := Unit) (R_CheckClasses_L3 F x5103_ F 0) fun (_ : Unit) =>
    some (.go ())))) (cond ((decide (6 < (x5103_.Fields.length : Int))) || (decide (8 < (x5103_.Methods.length : Int)))) (some (.out 2)) (seqO (α := Unit) (R_CheckClasses_L4 F x5103_ F 0) fun (_ : Unit) =>
    seqO (α := Unit) (R_CheckClasses_L5 F x5103_ F 0) fun (_ : Unit) =>
    some (.go ()))))) fun (_ : Unit) =>
    R_CheckClasses_L1 F l_ k1_ (w64 (n3711_ + 1))) (some (.go ()))
def R_CheckClasses (F : Nat) (l_ : List Class) : Option (Int) :=
  cond (decide (10 < (l_.length : Int))) (some 2) (seqR (α := Unit) (R_CheckClasses_L1 F l_ F 0) fun (_ : Unit) =>
  some 0)
end Cin
