/- A small logic for walks: a frame told by a list of slots, a world told by owned blocks and data that reads. General: no program is named. -/
import Derived.WalkKit
import Derived.Test.YtfbkanhgjpdohaaPureBase
import Derived.Deep.LoopGhost
import Derived.Deep.Quiet
namespace Gg
open Go Go.RowKit

/-! ### Frames -/
def lk : List (Nat × Value) → Nat → Option Value
  | [], _ => none
  | p :: r, t => match Nat.beq p.1 t with
    | true => some p.2
    | false => lk r t

/-- How many slots a frame has; the calls that it has deferred. -/
structure FrN where
  n : Nat
  ds : List Deferred
instance : Coe FrN Nat := ⟨FrN.n⟩
structure Fr (n : FrN) (l : List (Nat × Value)) (a : Act) : Prop where
  size : a.tmps.size = n.n
  defers : a.defers = n.ds
  get : ∀ t v, lk l t = some v → a.tmps.getD t undef = v

theorem Fr.g {n : FrN} {l : List (Nat × Value)} {a : Act} {t : Nat} {v : Value} (hf : Fr n l a) (h : lk l t = some v) : a.eval (.tmp t) = v := hf.get t v h

theorem Fr.put {n : FrN} {d : Nat} {l : List (Nat × Value)} {a : Act} {v : Value} (hf : Fr n l a) (hd : Nat.blt d n = true) : Fr n ((d, v) :: l) (a.put (some d) v) := by
  have hlt : d < n := Nat.le_of_ble_eq_true hd
  refine ⟨by simpa [Act.put] using hf.size, hf.defers, fun t u h => ?_⟩
  have hs := hf.size
  simp only [lk] at h
  cases hb : Nat.beq d t with
  | true =>
    rw [hb] at h
    simp only [Option.some.injEq] at h
    have e : d = t := Nat.eq_of_beq_eq_true hb
    subst e; subst h
    simp [Act.put, hs, hlt]
  | false =>
    rw [hb] at h
    have e : d ≠ t := by intro e; subst e; simp at hb
    have := hf.get t u h
    simp only [Act.put, Array.getD_eq_getD_getElem?] at this ⊢
    rw [Array.getElem?_setIfInBounds, if_neg e]
    exact this

def subs (l : List (Nat × Value)) : List (Nat × Value) → Prop
  | [] => True
  | p :: r => lk l p.1 = some p.2 ∧ subs l r

theorem lk_subs {l l' : List (Nat × Value)} (h : subs l l') : ∀ t v, lk l' t = some v → lk l t = some v := by
  induction l' with
  | nil => intro t v ht; simp [lk] at ht
  | cons p r ih =>
    intro t v ht
    simp only [lk] at ht
    cases hb : Nat.beq p.1 t with
    | true =>
      rw [hb] at ht
      have e : p.1 = t := Nat.eq_of_beq_eq_true hb
      simp only [Option.some.injEq] at ht
      rw [← e, ← ht]; exact h.1
    | false => rw [hb] at ht; exact ih h.2 t v ht

theorem Fr.sub {n : FrN} {l l' : List (Nat × Value)} {a : Act} (hf : Fr n l a) (h : subs l l') : Fr n l' a :=
  ⟨hf.size, hf.defers, fun t v ht => hf.get t v (lk_subs h t v ht)⟩

def enum : Nat → List Value → List (Nat × Value)
  | _, [] => []
  | k, v :: r => (k, v) :: enum (k + 1) r

theorem lk_enum (vs : List Value) : ∀ k t v, lk (enum k vs) t = some v → k ≤ t ∧ vs[t - k]? = some v := by
  induction vs with
  | nil => intro k t v h; simp [enum, lk] at h
  | cons u r ih =>
    intro k t v h
    simp only [enum, lk] at h
    cases hb : Nat.beq k t with
    | true =>
      rw [hb] at h
      have e : k = t := Nat.eq_of_beq_eq_true hb
      subst e
      simpa using h
    | false =>
      rw [hb] at h
      have e : k ≠ t := by intro e; subst e; simp at hb
      obtain ⟨h1, h2⟩ := ih (k + 1) t v h
      refine ⟨by omega, ?_⟩
      have : t - k = (t - (k + 1)) + 1 := by omega
      rw [this]; simpa using h2

theorem Fr.init (vs : List Value) (n : Nat) (h : Nat.ble vs.length n = true) : Fr ⟨n, []⟩ (enum 0 vs) { tmps := vs.toArray ++ Array.replicate (n - vs.toArray.size) undef, defers := [] } := by
  have hle : vs.length ≤ n := by simpa using h
  refine ⟨by simp; omega, rfl, fun t v ht => ?_⟩
  obtain ⟨_, h2⟩ := lk_enum vs 0 t v ht
  have hlt : t < vs.length := by
    rcases Nat.lt_or_ge t vs.length with h | h
    · exact h
    · rw [List.getElem?_eq_none (by simpa using h)] at h2; cases h2
  have h3 : vs[t]? = some v := by simpa using h2
  rw [Array.getD_eq_getD_getElem?]
  rw [List.getElem?_eq_getElem hlt, Option.some.injEq] at h3
  simp [Array.getElem?_append, hlt, h3]

/-- A call's body: the frame told by its arguments. -/
theorem enter {P : Program} {f : FuncId} {fn : Func} {c : Code} {vs : List Value} {w : World} {R : Ending → World → Prop} {n : Nat}
    (hf : P.funcs[f]? = some fn) (hb : fn.body = some c) (hn : fn.ntmps = n) (hl : Nat.ble vs.length n = true)
    (h : ∀ a, Fr ⟨n, []⟩ (enum 0 vs) a → c.wp P (bodyPost P fn R) a w) : Calls P f vs.toArray w R := by
  refine calls_of_wp hf hb ?_
  rw [hn]
  exact h _ (Fr.init vs n hl)

/-! ### Worlds -/
structure Ev (M : List Nat) (w w' : World) : Prop where
  os : w'.os = w.os
  tape : w'.tape = w.tape
  output : w'.output = w.output
  size : w.heap.size ≤ w'.heap.size
  block : ∀ k, k < w.heap.size → k ∉ M → w'.heap[k]? = w.heap[k]?

theorem Ev.refl (M : List Nat) (w : World) : Ev M w w := ⟨rfl, rfl, rfl, Nat.le_refl _, fun _ _ _ => rfl⟩
/-- Two steps: what the second one writes was let be written by the first one's measure, or is new. -/
theorem Ev.trans {M M' : List Nat} {a b c : World} (h : Ev M a b) (k : Ev M' b c) (hm : ∀ x ∈ M', x ∈ M ∨ a.heap.size ≤ x) : Ev M a c :=
  ⟨k.os.trans h.os, k.tape.trans h.tape, k.output.trans h.output, Nat.le_trans h.size k.size, fun i hi hn =>
    (k.block i (Nat.lt_of_lt_of_le hi h.size) (fun hx => by rcases hm i hx with e | e; exact hn e; omega)).trans (h.block i hi hn)⟩
theorem Ev.drew (M : List Nat) (w : World) : Ev M w w.drew := ⟨rfl, rfl, rfl, Nat.le_refl _, fun _ _ _ => rfl⟩
theorem Ev.alloc (M : List Nat) (w : World) (o : Obj) : Ev M w (w.alloc o) := ⟨rfl, rfl, rfl, by simp, fun k hk _ => Below.heap_alloc _ _ _ hk⟩
theorem Ev.set (w : World) (a : Addr) (u : Value) : Ev [a.block] w (w.setCell a u) :=
  ⟨rfl, rfl, rfl, by simp [World.setCell], fun k _ hn => Below.heap_setCell _ _ _ _ (by simpa using hn)⟩
theorem Ev.mono {M M' : List Nat} {a b : World} (h : Ev M a b) (hm : ∀ x ∈ M, x ∈ M') : Ev M' a b := ⟨h.os, h.tape, h.output, h.size, fun k hk hn => h.block k hk (fun hx => hn (hm k hx))⟩
theorem Ev.grown {w w' : World} {row : Option Nat} (h : w.grownBy w' row) : Ev row.toList w w' :=
  ⟨h.os, h.tape, h.output, h.size, fun k hk hn => h.block k hk (fun e => hn (by rw [← e]; simp))⟩
theorem Ev.below {w w' : World} (h : Ev [] w w') : Below w.heap.size w w' := ⟨h.os, h.tape, h.output, h.size, fun k hk => h.block k hk (by simp)⟩
theorem Ev.of_below {w w' : World} (h : Below w.heap.size w w') : Ev [] w w' := ⟨h.os, h.tape, h.output, h.size, fun k hk _ => h.block k hk⟩

/-- What a function owns: blocks by their numbers, and what holds of them. -/
structure Ent where
  foot : List Nat
  ok : World → Prop
  law : ∀ w w', (∀ k ∈ foot, w'.heap[k]? = w.heap[k]?) → ok w → ok w'

/-- Data that reads, through blocks that are none of M. -/
structure Dt where
  ok : List Nat → World → Prop
  law : ∀ M M' w w', Ev M w w' → (∀ k ∈ M', k ∈ M ∨ w.heap.size ≤ k) → ok M w → ok M' w'

def foots (E : List Ent) : List Nat := E.flatMap Ent.foot

structure St (W : World) (M0 X : List Nat) (w : World) (E : List Ent) (D : List Dt) : Prop where
  ev : Ev M0 W w
  ltX : ∀ k ∈ X, k < W.heap.size ∧ k ∉ M0
  lt : ∀ k ∈ foots E, k < w.heap.size ∧ (k ∈ M0 ∨ W.heap.size ≤ k)
  ok : ∀ x ∈ E, x.ok w
  dj : (foots E).Nodup
  rd : ∀ y ∈ D, y.ok (X ++ foots E) w

section
variable {W w w' : World} {M0 X : List Nat} {E : List Ent} {D : List Dt}

theorem St.start (M0 X : List Nat) (w : World) (E : List Ent) (D : List Dt) (hX : ∀ k ∈ X, k < w.heap.size ∧ k ∉ M0) (hlt : ∀ k ∈ foots E, k < w.heap.size ∧ k ∈ M0) (hok : ∀ x ∈ E, x.ok w) (hdj : (foots E).Nodup) (hrd : ∀ y ∈ D, y.ok (X ++ foots E) w) :
    St w M0 X w E D := ⟨Ev.refl _ _, hX, fun k hk => ⟨(hlt k hk).1, .inl (hlt k hk).2⟩, hok, hdj, hrd⟩

/-- Nothing that is owned or read has turned. -/
theorem St.keep (h : St W M0 X w E D) (hv : Ev [] w w') : St W M0 X w' E D :=
  ⟨h.ev.trans hv (by simp), h.ltX, fun k hk => ⟨Nat.lt_of_lt_of_le (h.lt k hk).1 hv.size, (h.lt k hk).2⟩,
   fun x hx => x.law w w' (fun k hk => hv.block k (h.lt k (List.mem_flatMap.2 ⟨x, hx, hk⟩)).1 (by simp)) (h.ok x hx), h.dj,
   fun y hy => y.law (X ++ foots E) _ w w' (hv.mono (by simp)) (fun k hk => .inl hk) (h.rd y hy)⟩

theorem St.drew (h : St W M0 X w E D) : St W M0 X w.drew E D := h.keep (Ev.drew _ _)

/-- A new thing is owned. -/
theorem St.push (h : St W M0 X w E D) (x : Ent) (hv : Ev [] w w') (hx : x.ok w') (hf : ∀ k ∈ x.foot, w.heap.size ≤ k ∧ k < w'.heap.size) (hn : x.foot.Nodup) : St W M0 X w' (x :: E) D := by
  have h1 := h.keep hv
  refine ⟨h1.ev, h.ltX, fun k hk => ?_, fun y hy => ?_, ?_, fun y hy => ?_⟩
  · rcases List.mem_append.1 (by simpa [foots] using hk : k ∈ x.foot ++ foots E) with e | e
    · exact ⟨(hf k e).2, .inr (Nat.le_trans h.ev.size (hf k e).1)⟩
    · exact h1.lt k e
  · rcases List.mem_cons.1 hy with rfl | e
    · exact hx
    · exact h1.ok y e
  · have : foots (x :: E) = x.foot ++ foots E := by simp [foots]
    rw [this, List.nodup_append]
    refine ⟨hn, h.dj, fun a ha b hb e => ?_⟩
    subst e
    have := (hf a ha).1
    have := (h.lt a hb).1
    omega
  · refine y.law (X ++ foots E) _ w w' (hv.mono (by simp)) (fun k hk => ?_) (h.rd y hy)
    have hk' : k ∈ X ++ (x.foot ++ foots E) := by simpa [foots] using hk
    simp only [List.mem_append] at hk'
    rcases hk' with e | e | e
    · exact .inl (by simp [e])
    · exact .inr (hf k e).1
    · exact .inl (by simp [e])

/-- What is owned is dropped: nobody writes it any more. -/
theorem St.drop (h : St W M0 X w E D) {E' : List Ent} (hs : List.Sublist E' E) : St W M0 X w E' D := by
  have hf : List.Sublist (foots E') (foots E) := by
    unfold foots
    clear h
    induction hs with
    | slnil => simp
    | cons a _ ih => simpa using ih.trans (List.sublist_append_right _ _)
    | cons_cons a _ ih => simpa using List.Sublist.append_left ih a.foot
  exact ⟨h.ev, h.ltX, fun k hk => h.lt k (hf.subset hk), fun x hx => h.ok x (hs.subset hx), h.dj.sublist hf,
    fun y hy => y.law (X ++ foots E) _ w w (Ev.refl _ _) (fun k hk => .inl (by rcases List.mem_append.1 hk with e | e; exact List.mem_append.2 (.inl e); exact List.mem_append.2 (.inr (hf.subset e)))) (h.rd y hy)⟩

/-- One thing of those that are owned turns (its blocks the same ones, or new ones besides). -/
theorem St.turn (h : St W M0 X w E D) {A B : List Ent} {x x' : Ent} (hE : E = A ++ x :: B) (hv : Ev x.foot w w') (hx : x'.ok w') (hn : x'.foot.Nodup)
    (hf : ∀ k ∈ x'.foot, k ∈ x.foot ∨ (w.heap.size ≤ k ∧ k < w'.heap.size)) : St W M0 X w' (A ++ x' :: B) D := by
  subst hE
  have e1 : foots (A ++ x :: B) = foots A ++ (x.foot ++ foots B) := by simp [foots]
  have e2 : foots (A ++ x' :: B) = foots A ++ (x'.foot ++ foots B) := by simp [foots]
  have hdj := h.dj
  rw [e1, List.nodup_append, List.nodup_append] at hdj
  obtain ⟨dA, ⟨dx, dB, dxB⟩, dA'⟩ := hdj
  have hxl : ∀ k ∈ x.foot, k < w.heap.size ∧ (k ∈ M0 ∨ W.heap.size ≤ k) := fun k hk => h.lt k (by rw [e1]; simp [hk])
  refine ⟨h.ev.trans hv (fun k hk => (hxl k hk).2), h.ltX, fun k hk => ?_, fun y hy => ?_, ?_, fun y hy => ?_⟩
  · rw [e2] at hk
    simp only [List.mem_append] at hk
    rcases hk with hk | hk | hk
    · have := h.lt k (by rw [e1]; simp [hk]); exact ⟨Nat.lt_of_lt_of_le this.1 hv.size, this.2⟩
    · rcases hf k hk with e | e
      · exact ⟨Nat.lt_of_lt_of_le (hxl k e).1 hv.size, (hxl k e).2⟩
      · exact ⟨e.2, .inr (Nat.le_trans h.ev.size e.1)⟩
    · have := h.lt k (by rw [e1]; simp [hk]); exact ⟨Nat.lt_of_lt_of_le this.1 hv.size, this.2⟩
  · have keepy : ∀ z, z ∈ A ∨ z ∈ B → z.ok w' := fun z hz => by
      have hz' : z ∈ A ++ x :: B := by rcases hz with e | e <;> simp [e]
      refine z.law w w' (fun k hk => hv.block k (h.lt k (List.mem_flatMap.2 ⟨z, hz', hk⟩)).1 (fun hkx => ?_)) (h.ok z hz')
      rcases hz with e | e
      · exact dA' k (List.mem_flatMap.2 ⟨z, e, hk⟩) k (by simp [hkx]) rfl
      · exact dxB k hkx k (List.mem_flatMap.2 ⟨z, e, hk⟩) rfl
    simp only [List.mem_append, List.mem_cons] at hy
    rcases hy with hy | rfl | hy
    · exact keepy y (.inl hy)
    · exact hx
    · exact keepy y (.inr hy)
  · rw [e2, List.nodup_append, List.nodup_append]
    have hne : ∀ k ∈ x'.foot, ∀ b, (b ∈ foots A ∨ b ∈ foots B) → k ≠ b := fun k hk b hb e => by
      subst e
      rcases hf k hk with e | e
      · rcases hb with hb | hb
        · exact dA' k hb k (by simp [e]) rfl
        · exact dxB k e k hb rfl
      · have := (h.lt k (by rw [e1]; rcases hb with hb | hb <;> simp [hb])).1
        omega
    exact ⟨dA, ⟨hn, dB, fun a ha b hb => hne a ha b (.inr hb)⟩, fun a ha b hb => by
      rcases List.mem_append.1 hb with hb | hb
      · exact fun e => hne b hb a (.inl ha) e.symm
      · exact dA' a ha b (by simp [hb])⟩
  · refine y.law (X ++ foots (A ++ x :: B)) _ w w' (hv.mono (fun k hk => by rw [e1]; simp [hk])) (fun k hk => ?_) (h.rd y hy)
    rw [e2] at hk
    simp only [List.mem_append] at hk
    rcases hk with hk | hk | hk | hk
    · exact .inl (by simp [hk])
    · exact .inl (by rw [e1]; simp [hk])
    · rcases hf k hk with e | e
      · exact .inl (by rw [e1]; simp [e])
      · exact .inr e.1
    · exact .inl (by rw [e1]; simp [hk])

/-- More data. -/
theorem St.more (h : St W M0 X w E D) {y : Dt} (hy : y.ok (X ++ foots E) w) : St W M0 X w E (y :: D) :=
  ⟨h.ev, h.ltX, h.lt, h.ok, h.dj, fun z hz => by rcases List.mem_cons.1 hz with rfl | e; exact hy; exact h.rd z e⟩
theorem St.less (h : St W M0 X w E D) {D' : List Dt} (hs : ∀ y ∈ D', y ∈ D) : St W M0 X w E D' := ⟨h.ev, h.ltX, h.lt, h.ok, h.dj, fun y hy => h.rd y (hs y hy)⟩
theorem St.e (h : St W M0 X w E D) (i : Nat) {x : Ent} (hi : E[i]? = some x) : x.ok w := h.ok x (List.mem_of_getElem? hi)
theorem St.d (h : St W M0 X w E D) (i : Nat) {y : Dt} (hi : D[i]? = some y) : y.ok (X ++ foots E) w := h.rd y (List.mem_of_getElem? hi)
/-- Less is to be shunned: what reads, reads still. -/
theorem Dt.less {y : Dt} {M M' : List Nat} (h : y.ok M w) (hm : ∀ k ∈ M', k ∈ M) : y.ok M' w := y.law M M' w w (Ev.refl _ _) (fun k hk => .inl (hm k hk)) h
theorem St.ltM (h : St W M0 X w E D) : ∀ k ∈ X ++ foots E, k < w.heap.size := fun k hk => by
  rcases List.mem_append.1 hk with e | e
  · exact Nat.lt_of_lt_of_le (h.ltX k e).1 h.ev.size
  · exact (h.lt k e).1
theorem St.turnI (h : St W M0 X w E D) (i : Nat) {x x' : Ent} (hi : E[i]? = some x) (hv : Ev x.foot w w') (hx : x'.ok w') (hn : x'.foot.Nodup)
    (hf : ∀ k ∈ x'.foot, k ∈ x.foot ∨ (w.heap.size ≤ k ∧ k < w'.heap.size)) : St W M0 X w' (E.set i x') D := by
  obtain ⟨hl, rfl⟩ := List.getElem?_eq_some_iff.1 hi
  have hE : E = E.take i ++ E[i] :: E.drop (i + 1) := by simp
  have := h.turn hE hv hx hn hf
  rwa [List.set_eq_take_append_cons_drop, if_pos hl]
end
end Gg
