/- The small logic, runs (3): whole runs, in a region as it stands, in one that draws its order and only reads, in one that draws and writes. General: no program is named. -/
import Derived.Test.YtfbkanhgjpdohaaGvRun2
import Derived.OrdersHeld
namespace Gg
open Go Go.RowKit Cin

/-- Where an operation's guard stands: the slot that it looks at. -/
def gslot (ops : Array Oper) (j : Nat) : Option Nat := match nth ops.toList j with
  | some o => o.dst
  | none => none
theorem gslot_eq {ops : Array Oper} {j dj : Nat} (h : gslot ops j = some dj) : (ops[j]?).bind (·.dst) = some dj := by
  unfold gslot at h
  rw [nth_eq, Array.getElem?_toList] at h
  split at h
  · rename_i o ho
    rw [ho]; exact h
  · cases h

abbrev Fst := List (Nat × Value) × List Sl × List (Nat × Nat)
/-- A run of operations: the hints tell of each load which memory it reads (number, place), of each guard and each choice whether it is left open (0) or known (1). -/
def ev (G : Gam) (ops : Array Oper) (n : Nat) (M : List (Nat × Nat × List Value)) : List Oper → List Nat → List (Nat × Value) → List Sl → List (Nat × Nat) → Option Fst
  | [], _, fr, gs, l => some (fr, gs, l)
  | o :: rest, hs, fr, gs, l => match o.dst with
    | none => none
    | some d => match Nat.blt d n with
      | false => none
      | true => match o.guard with
        | none => match ev1 G M hs fr gs [] o.op with
          | some (v, hs', l') => ev G ops n M rest hs' ((d, v) :: fr) (rmG gs d) (l' ++ l)
          | none => none
        | some (j, want) => match gslot ops j with
          | none => none
          | some dj => match Nat.blt dj n with
            | false => none
            | true => match hs with
              | 0 :: hs' => match Nat.beq dj d with
                | true => none
                | false => match ev1 G M hs' fr gs [(dj, want)] o.op with
                  | some (v, hs2, l') => ev G ops n M rest hs2 (rmF fr d) (⟨d, dj, want, v⟩ :: rmG gs d) (l' ++ l)
                  | none => none
              | _ :: hs' => match lk fr dj with
                | some (.bool b) => match b == want with
                  | true => match ev1 G M hs' fr gs [] o.op with
                    | some (v, hs2, l') => ev G ops n M rest hs2 ((d, v) :: fr) (rmG gs d) (l' ++ l)
                    | none => none
                  | false => ev G ops n M rest hs' ((d, undef) :: fr) (rmG gs d) l
                | some (.tuple ⟨[]⟩) => ev G ops n M rest hs' ((d, undef) :: fr) (rmG gs d) l
                | _ => none
              | [] => none
/-- What is kept of a frame. -/
def cutF (fr : List (Nat × Value)) : List Nat → Option (List (Nat × Value))
  | [] => some []
  | t :: r => match lk fr t, cutF fr r with
    | some v, some vs => some ((t, v) :: vs)
    | _, _ => none
def dup (l : List Nat) : List (Nat × Nat) := l.map fun x => (x, x)
def evc (G : Gam) (ops : Array Oper) (n : Nat) (M : List (Nat × Nat × List Value)) (os : List Oper) (hs : List Nat) (fr : List (Nat × Value)) (keep : List Nat) : Option (List (Nat × Value) × List (Nat × Nat)) :=
  match ev G ops n M os hs fr [] [] with
  | some (fr', _, l) => match cutF fr' keep with
    | some k => some (k, l)
    | none => none
  | none => none

theorem eqs_dup : ∀ l : List Nat, eqs (dup l)
  | [] => trivial
  | x :: r => ⟨rfl, eqs_dup r⟩
theorem eqs_app : ∀ {l l' : List (Nat × Nat)}, eqs (l ++ l') → eqs l ∧ eqs l'
  | [], _, h => ⟨trivial, h⟩
  | _ :: _, _, h => ⟨⟨h.1, (eqs_app h.2).1⟩, (eqs_app h.2).2⟩
theorem cutF_ok {fr : List (Nat × Value)} : ∀ {keep : List Nat} {k : List (Nat × Value)}, cutF fr keep = some k → subs fr k
  | [], k, h => by simp only [cutF, Option.some.injEq] at h; subst h; trivial
  | t :: r, k, h => by
    simp only [cutF] at h
    split at h
    · rename_i v vs h1 h2
      simp only [Option.some.injEq] at h
      subst h
      exact ⟨h1, cutF_ok h2⟩
    · cases h

theorem put_self {a : Act} {n : FrN} {d : Nat} {v : Value} (hs : a.tmps.size = n) (hd : Nat.blt d n = true) : (a.put (some d) v).tmps.getD d undef = v := by
  have hlt : d < n := Nat.le_of_ble_eq_true hd
  simp [Act.put, hs, hlt]
theorem put_ne {a : Act} {d t : Nat} {v : Value} (h : t ≠ d) : (a.put (some d) v).tmps.getD t undef = a.tmps.getD t undef := by
  simp only [Act.put, Array.getD_eq_getD_getElem?]
  rw [Array.getElem?_setIfInBounds, if_neg (fun e => h e.symm)]
theorem gOK_put {a : Act} {d : Nat} {v : Value} : ∀ {gs : List Sl}, gOK a gs → gOK (a.put (some d) v) (rmG gs d)
  | [], _ => trivial
  | p :: r, h => by
    simp only [rmG]
    cases hb : Nat.beq p.t d || Nat.beq p.j d with
    | true => exact gOK_put h.2
    | false =>
      simp only [Bool.or_eq_false_iff] at hb
      have h1 : p.t ≠ d := fun e => by rw [e] at hb; simp at hb
      have h2 : p.j ≠ d := fun e => by rw [e] at hb; simp at hb
      refine ⟨?_, gOK_put h.2⟩
      rw [put_ne h1, put_ne h2]; exact h.1
theorem lk_rmF {d t : Nat} {v : Value} : ∀ {fr : List (Nat × Value)}, lk (rmF fr d) t = some v → t ≠ d ∧ lk fr t = some v
  | [], h => by simp [rmF, lk] at h
  | p :: r, h => by
    simp only [rmF] at h
    cases hb : Nat.beq p.1 d with
    | true =>
      rw [hb] at h
      obtain ⟨h1, h2⟩ := lk_rmF h
      refine ⟨h1, ?_⟩
      have e := Nat.eq_of_beq_eq_true hb
      simp only [lk]
      cases hc : Nat.beq p.1 t with
      | true => exact absurd ((Nat.eq_of_beq_eq_true hc).symm.trans e) h1
      | false => exact h2
    | false =>
      rw [hb] at h
      simp only [lk] at h ⊢
      cases hc : Nat.beq p.1 t with
      | true =>
        rw [hc] at h
        refine ⟨fun e => ?_, h⟩
        rw [Nat.eq_of_beq_eq_true hc, e] at hb
        simp at hb
      | false =>
        rw [hc] at h
        exact lk_rmF h
theorem Fr.rm {n : FrN} {d : Nat} {fr : List (Nat × Value)} {a : Act} {v : Value} (hf : Fr n fr a) : Fr n (rmF fr d) (a.put (some d) v) :=
  ⟨by simpa [Act.put] using hf.size, hf.defers, fun t u h => by obtain ⟨h1, h2⟩ := lk_rmF h; rw [put_ne h1]; exact hf.get t u h2⟩

def isLoad : Op → Bool
  | .load _ _ => true
  | _ => false
theorem ev1_noload {G : Gam} {M : List (Nat × Nat × List Value)} {hs : List Nat} {fr : List (Nat × Value)} {gs : List Sl} {cur : List (Nat × Bool)} {op : Op} (h : isLoad op = false) : ev1 G M hs fr gs cur op = ev1 G [] hs fr gs cur op := by
  cases op with
  | load t x => simp [isLoad] at h
  | unOp u t x => cases u <;> rfl
  | call c =>
    unfold ev1
    split <;> first | rfl | (rename_i e; cases e; done) | (rename_i e; cases e; rfl)
  | _ => rfl
theorem ev1_both {P : Program} {G : Gam} {M : List (Nat × Nat × List Value)} {C : World → Prop} {a : Act} {o : Oper} {n : FrN} {fr : List (Nat × Value)} {gs : List Sl} {cur : List (Nat × Bool)} {hs hs' : List Nat} {v : Value} {l : List (Nat × Nat)} (hG : GOK P G) (hM : ∀ w, C w → memOK w M) (hf : Fr n fr a) (hg : gOK a gs) (hc : curOK a cur)
    (h : ev1 G M hs fr gs cur o.op = some (v, hs', l)) (hl : eqs l) : (∀ w, C w → Yv P o a w v w) ∧ (isLoad o.op = false → ∀ w, Yv P o a w v w) :=
  ⟨fun w hC => ev1_ok hG (hM w hC) hf hg hc rfl h hl, fun hn w => ev1_ok hG (M := []) trivial hf hg hc rfl (by rw [← ev1_noload hn]; exact h) hl⟩
theorem want_iff {ops : Array Oper} {o : Oper} {a : Act} {n : FrN} {l : List (Nat × Value)} {j dj : Nat} {want : Bool} (hf : Fr n l a) (hg : o.guard = some (j, want)) (hj : (ops[j]?).bind (·.dst) = some dj) (hn : Nat.blt dj n = true) :
    Region.wanted o (yielded ops a.tmps) = true ↔ a.tmps.getD dj undef = .bool want := by
  have hlt : dj < n := Nat.le_of_ble_eq_true hn
  have hs := hf.size
  have h2 : a.tmps[dj]? = some (a.tmps.getD dj undef) := by
    rw [Array.getElem?_eq_getElem (by omega)]
    simp [Array.getD_eq_getD_getElem?, hs, hlt]
  simp only [Region.wanted, hg, yielded, hj, Option.bind_some, h2, beq_iff_eq]
  constructor
  · intro h
    split at h
    · rename_i b hb
      simp only [Option.some.injEq] at h hb
      rw [hb, h]
    · cases h
  · intro h
    rw [h]
/-- What a run says of one operation: what it leaves, in a world in which the memory is as told. -/
def Stp (P : Program) (ops : Array Oper) (C : World → Prop) (o : Oper) (d : Nat) (a : Act) (u : Value) : Prop :=
  o.dst = some d ∧ ((Region.wanted o (yielded ops a.tmps) = true ∧ (∀ w, C w → Yv P o a w u w) ∧ (isLoad o.op = false → ∀ w, Yv P o a w u w)) ∨ (Region.wanted o (yielded ops a.tmps) = false ∧ u = undef))

section
variable {P : Program} {G : Gam} {ops : Array Oper} {n : FrN} {M : List (Nat × Nat × List Value)} {C : World → Prop}
/-- One operation of a run, and what is left of the run. -/
theorem ev_step (hG : GOK P G) (hM : ∀ w, C w → memOK w M) {o : Oper} {rest : List Oper} {hs : List Nat} {fr : List (Nat × Value)} {gs : List Sl} {l lz : List (Nat × Nat)} {frz : List (Nat × Value)} {gsz : List Sl} {a : Act}
    (hf : Fr n fr a) (hg : gOK a gs) (h : ev G ops n M (o :: rest) hs fr gs l = some (frz, gsz, lz)) (hz : eqs lz)
    (hmono : ∀ {os : List Oper} {hs : List Nat} {fr : List (Nat × Value)} {gs : List Sl} {l : List (Nat × Nat)}, ev G ops n M os hs fr gs l = some (frz, gsz, lz) → eqs l) :
    ∃ d u hs' fr' gs' l', Stp P ops C o d a u ∧ Fr n fr' (a.put (some d) u) ∧ gOK (a.put (some d) u) gs' ∧ ev G ops n M rest hs' fr' gs' l' = some (frz, gsz, lz) := by
  rw [ev] at h
  split at h
  · cases h
  · rename_i d hd
    split at h
    · cases h
    · rename_i hn
      split at h
      · rename_i hgd
        split at h
        · rename_i v hs' l' h1
          have he := (eqs_app (hmono h)).1
          exact ⟨d, v, hs', _, _, _, ⟨hd, .inl ⟨wN hgd, ev1_both (cur := []) hG hM hf hg trivial h1 he⟩⟩, hf.put hn, gOK_put hg, h⟩
        · cases h
      · rename_i j want hgd
        split at h
        · cases h
        · rename_i dj hdj
          have hdj' := gslot_eq hdj
          split at h
          · cases h
          · rename_i hnj
            split at h
            · rename_i hs'
              split at h
              · cases h
              · rename_i hne
                split at h
                · rename_i v hs2 l' h1
                  have he := (eqs_app (hmono h)).1
                  have hne' : dj ≠ d := fun e => by rw [e] at hne; simp at hne
                  by_cases hbs : a.tmps.getD dj undef = .bool want
                  · refine ⟨d, v, hs2, _, _, _, ⟨hd, .inl ⟨(want_iff hf hgd hdj' hnj).2 hbs, ev1_both (cur := [(dj, want)]) hG hM hf hg ⟨hbs, trivial⟩ h1 he⟩⟩, hf.rm, (show gOK (a.put (some d) v) (⟨d, dj, want, v⟩ :: rmG gs d) from ⟨fun _ => put_self hf.size hn, gOK_put hg⟩), h⟩
                  · refine ⟨d, undef, hs2, _, _, _, ⟨hd, .inr ⟨by rw [Bool.eq_false_iff]; exact fun hw => hbs ((want_iff hf hgd hdj' hnj).1 hw), rfl⟩⟩, hf.rm, (show gOK (a.put (some d) undef) (⟨d, dj, want, v⟩ :: rmG gs d) from ⟨fun hx => ?_, gOK_put hg⟩), h⟩
                    simp only at hx
                    rw [put_ne hne'] at hx
                    exact absurd hx hbs
                · cases h
            · rename_i q hs' hq
              split at h
              · rename_i b hb
                split at h
                · rename_i hbw
                  have hbw : b = want := by simpa using hbw
                  subst hbw
                  split at h
                  · rename_i v hs2 l' h1
                    have he := (eqs_app (hmono h)).1
                    exact ⟨d, v, hs2, _, _, _, ⟨hd, .inl ⟨wantT hf hgd hdj' hb hnj, ev1_both (cur := []) hG hM hf hg trivial h1 he⟩⟩, hf.put hn, gOK_put hg, h⟩
                  · cases h
                · rename_i hbw
                  exact ⟨d, undef, hs', _, _, _, ⟨hd, .inr ⟨wantF hf hgd hdj' hb hbw hnj, rfl⟩⟩, hf.put hn, gOK_put hg, h⟩
              · rename_i hb
                exact ⟨d, undef, hs', _, _, _, ⟨hd, .inr ⟨wantU hf hgd hdj' hb hnj, rfl⟩⟩, hf.put hn, gOK_put hg, h⟩
              · cases h
            · cases h

theorem ev_mono {frz : List (Nat × Value)} {gsz : List Sl} {lz : List (Nat × Nat)} (hz : eqs lz) : ∀ {os : List Oper} {hs : List Nat} {fr : List (Nat × Value)} {gs : List Sl} {l : List (Nat × Nat)}, ev G ops n M os hs fr gs l = some (frz, gsz, lz) → eqs l
  | [], hs, fr, gs, l, h => by
    simp only [ev, Option.some.injEq, Prod.mk.injEq] at h
    rw [h.2.2]; exact hz
  | o :: rest, hs, fr, gs, l, h => by
    rw [ev] at h
    split at h
    · cases h
    · split at h
      · cases h
      · split at h
        · split at h
          · exact (eqs_app (ev_mono hz h)).2
          · cases h
        · split at h
          · cases h
          · split at h
            · cases h
            · split at h
              · split at h
                · cases h
                · split at h
                  · exact (eqs_app (ev_mono hz h)).2
                  · cases h
              · split at h
                · split at h
                  · split at h
                    · exact (eqs_app (ev_mono hz h)).2
                    · cases h
                  · exact ev_mono hz h
                · exact ev_mono hz h
                · cases h
              · cases h

theorem sp_aux {w : World} {Q : Exit → Act → World → Prop} (hG : GOK P G) (hM : memOK w M) {frz : List (Nat × Value)} {gsz : List Sl} {lz : List (Nat × Nat)} (hz : eqs lz) : ∀ (k : Nat) {rest : List Oper} {hs : List Nat} {fr : List (Nat × Value)} {gs : List Sl} {l : List (Nat × Nat)} {a : Act},
    Fr n fr a → gOK a gs → ev G ops n M (rest.take k) hs fr gs l = some (frz, gsz, lz) → (∀ a', Fr n frz a' → wpList P ops Q (rest.drop k) a' w) → wpList P ops Q rest a w
  | 0, rest, hs, fr, gs, l, a, hf, _, h, hk => by
    simp only [List.take_zero, ev, Option.some.injEq, Prod.mk.injEq] at h
    have := hk a (by rw [← h.1]; exact hf)
    simpa using this
  | k + 1, [], hs, fr, gs, l, a, hf, _, h, hk => by
    simp only [List.take_nil, ev, Option.some.injEq, Prod.mk.injEq] at h
    have := hk a (by rw [← h.1]; exact hf)
    simpa using this
  | k + 1, o :: rest, hs, fr, gs, l, a, hf, hg, h, hk => by
    rw [List.take_succ_cons] at h
    obtain ⟨d, u, hs', fr', gs', l', ⟨hd, hs1⟩, hf', hg', h'⟩ := ev_step (C := fun w' => w' = w) hG (fun w' e => by subst e; exact hM) hf hg h hz (ev_mono hz)
    have next := sp_aux hG hM hz k hf' hg' h' (by simpa using hk)
    refine wpList_step fun K hK => ?_
    rcases hs1 with ⟨hw, hy, _⟩ | ⟨hw, rfl⟩
    · rw [if_pos hw]
      unfold Oper.wp
      rw [show (execOp a.eval o).run P w = _ from hy w rfl]
      show K (a.put o.dst u) w
      rw [hd]
      exact hK _ _ next
    · rw [if_neg (by simp [hw]), hd]
      exact hK _ _ next
theorem qp_aux {Qq : Act → Prop} (hG : GOK P G) (hM : ∀ w, C w → memOK w M) {frz : List (Nat × Value)} {gsz : List Sl} {lz : List (Nat × Nat)} (hz : eqs lz) : ∀ (k : Nat) {rest : List Oper} {hs : List Nat} {fr : List (Nat × Value)} {gs : List Sl} {l : List (Nat × Nat)} {a : Act},
    Fr n fr a → gOK a gs → ev G ops n M (rest.take k) hs fr gs l = some (frz, gsz, lz) → (∀ a', Fr n frz a' → wpQuiet P ops C Qq (rest.drop k) a') → wpQuiet P ops C Qq rest a
  | 0, rest, hs, fr, gs, l, a, hf, _, h, hk => by
    simp only [List.take_zero, ev, Option.some.injEq, Prod.mk.injEq] at h
    have := hk a (by rw [← h.1]; exact hf)
    simpa using this
  | k + 1, [], hs, fr, gs, l, a, hf, _, h, hk => by
    simp only [List.take_nil, ev, Option.some.injEq, Prod.mk.injEq] at h
    have := hk a (by rw [← h.1]; exact hf)
    simpa using this
  | k + 1, o :: rest, hs, fr, gs, l, a, hf, hg, h, hk => by
    rw [List.take_succ_cons] at h
    obtain ⟨d, u, hs', fr', gs', l', ⟨hd, hs1⟩, hf', hg', h'⟩ := ev_step (C := C) hG hM hf hg h hz (ev_mono hz)
    have next := qp_aux hG hM hz k hf' hg' h' (by simpa using hk)
    unfold wpQuiet
    rcases hs1 with ⟨hw, hy, _⟩ | ⟨hw, rfl⟩
    · rw [if_pos hw]
      refine ⟨u, fun w hc => ?_, ?_⟩
      · unfold Oper.quietAt
        rw [show (execOp a.eval o).run P w = _ from hy w hc]
        exact ⟨rfl, rfl⟩
      · rw [hd]; exact next
    · rw [if_neg (by simp [hw]), hd]
      exact next

theorem evc_some {os : List Oper} {hs : List Nat} {fr : List (Nat × Value)} {keep : List Nat} {k : List (Nat × Value)} {L : List (Nat × Nat)} (h : evc G ops n M os hs fr keep = some (k, L)) : ∃ frz gsz, ev G ops n M os hs fr [] [] = some (frz, gsz, L) ∧ subs frz k := by
  unfold evc at h
  split at h
  · rename_i fr' gs' l h1
    split at h
    · rename_i k' h2
      simp only [Option.some.injEq, Prod.mk.injEq] at h
      obtain ⟨rfl, rfl⟩ := h
      exact ⟨fr', gs', h1, cutF_ok h2⟩
    · cases h
  · cases h

/-- A run in a region. -/
theorem sp (k : Nat) (keep hs : List Nat) {w : World} {Q : Exit → Act → World → Prop} {rest : List Oper} {fr fr' : List (Nat × Value)} {L : List Nat} {a : Act} (hG : GOK P G) (hM : memOK w M) (hf : Fr n fr a) (he : evc G ops n M (rest.take k) hs fr keep = some (fr', dup L))
    (next : ∀ a', Fr n fr' a' → wpList P ops Q (rest.drop k) a' w) : wpList P ops Q rest a w := by
  obtain ⟨frz, gsz, h1, h2⟩ := evc_some he
  exact sp_aux (gs := []) hG hM (eqs_dup L) k hf trivial h1 fun a' hf' => next a' (hf'.sub h2)
/-- A run in a region that draws its order and only reads. -/
theorem qp (k : Nat) (keep hs : List Nat) {Qq : Act → Prop} {rest : List Oper} {fr fr' : List (Nat × Value)} {L : List Nat} {a : Act} (hG : GOK P G) (hM : ∀ w, C w → memOK w M) (hf : Fr n fr a) (he : evc G ops n M (rest.take k) hs fr keep = some (fr', dup L))
    (next : ∀ a', Fr n fr' a' → wpQuiet P ops C Qq (rest.drop k) a') : wpQuiet P ops C Qq rest a := by
  obtain ⟨frz, gsz, h1, h2⟩ := evc_some he
  exact qp_aux (gs := []) hG hM (eqs_dup L) k hf trivial h1 fun a' hf' => next a' (hf'.sub h2)
end

def inL : List Nat → Nat → Bool
  | [], _ => false
  | i :: r, j => Nat.beq i j || inL r j
/-! ### A region that draws its order and turns the world: what is held until a phase ends -/
section
variable {P : Program} {ops : Array Oper} {Q : Exit → Act → World → Prop} {md : Region.Mode} {S : World → Prop} {p : Nat}
/-- Whatever order is picked; S is held behind each operation, as long as number p has not come up. -/
def wpAnyP (P : Program) (md : Region.Mode) (ops : Array Oper) (Q : Exit → Act → World → Prop) (p : Nat) (S : World → Prop) : Nat → Array Bool → Act → World → Prop
  | 0, listed, a, w => Region.ready md ops listed = [] ∧ Q .normal a w
  | fuel + 1, listed, a, w =>
    (Region.ready md ops listed = [] → Q .normal a w) ∧
    ∀ i ∈ Region.ready md ops listed, wpOp P ops Q i (fun a' w' => ((listed.setIfInBounds i true).getD p false = false → S w') ∧ wpAnyP P md ops Q p S fuel (listed.setIfInBounds i true) a' w') a w
theorem wpAny_of_P : ∀ (fuel : Nat) (listed : Array Bool) (a : Act) (w : World), wpAnyP P md ops Q p S fuel listed a w → wpAny P md ops Q fuel listed a w
  | 0, _, _, _, h => h
  | fuel + 1, _, _, _, h => ⟨h.1, fun i hi => wpOp_mono (fun a' w' h' => wpAny_of_P fuel _ a' w' h'.2) (h.2 i hi)⟩
theorem set_true {ld : Array Bool} {i p : Nat} (h : ld.getD p false = true) : (ld.setIfInBounds i true).getD p false = true := by
  simp only [Array.getD_eq_getD_getElem?, Array.getElem?_setIfInBounds] at h ⊢
  split
  · rename_i e
    subst e
    split
    · rfl
    · rename_i hlt
      rw [Array.getElem?_eq_none (by omega)] at h
      cases h
  · exact h
/-- Once p has come up, whatever holds. -/
theorem wpAnyP_of {p' : Nat} {S' : World → Prop} : ∀ (fuel : Nat) (listed : Array Bool) (a : Act) (w : World), listed.getD p false = true → wpAnyP P md ops Q p' S' fuel listed a w → wpAnyP P md ops Q p S fuel listed a w
  | 0, _, _, _, _, h => h
  | fuel + 1, _, _, _, hp, h => ⟨h.1, fun i hi => wpOp_mono (fun a' w' h' => ⟨fun hf => absurd ((set_true hp).symm.trans hf) (by simp), wpAnyP_of fuel _ a' w' (set_true hp) h'.2⟩) (h.2 i hi)⟩
theorem wpAnyP_imp {S' : World → Prop} (hS : ∀ w, S' w → S w) : ∀ (fuel : Nat) (listed : Array Bool) (a : Act) (w : World), wpAnyP P md ops Q p S' fuel listed a w → wpAnyP P md ops Q p S fuel listed a w
  | 0, _, _, _, h => h
  | fuel + 1, _, _, _, h => ⟨h.1, fun i hi => wpOp_mono (fun a' w' h' => ⟨fun hf => hS _ (h'.1 hf), wpAnyP_imp hS fuel _ a' w' h'.2⟩) (h.2 i hi)⟩

/-- What waits for number i, at whatever remove. -/
def descsOf : List Oper → Nat → Nat → List Nat → List Nat
  | [], _, _, acc => acc
  | o :: r, k, i, acc => descsOf r (k + 1) i (match o.after.toList.any fun e => Region.binds .any e && (Nat.beq e.on i || inL acc e.on) with | true => k :: acc | false => acc)
theorem inL_mem {l : List Nat} {j : Nat} (h : inL l j = true) : j ∈ l := by
  induction l with
  | nil => simp [inL] at h
  | cons i r ih =>
    simp only [inL, Bool.or_eq_true] at h
    rcases h with h | h
    · rw [Nat.eq_of_beq_eq_true h]; simp
    · exact List.mem_cons_of_mem _ (ih h)
def DOk (ops : Array Oper) (i : Nat) (U : List Nat) : Prop := ∀ u ∈ U, ∃ o, ops[u]? = some o ∧ ∃ e ∈ o.after, Region.binds .any e = true ∧ (e.on = i ∨ e.on ∈ U)
theorem descs_ok {ops : Array Oper} {i : Nat} : ∀ {l : List Oper} {k : Nat} {acc : List Nat}, (∀ m o, l[m]? = some o → ops[k + m]? = some o) → DOk ops i acc → DOk ops i (descsOf l k i acc)
  | [], _, _, _, h => h
  | o :: r, k, acc, hl, h => by
    rw [descsOf]
    refine descs_ok (fun m o' hm => by have := hl (m + 1) o' (by simpa using hm); rwa [show k + (m + 1) = k + 1 + m by omega] at this) ?_
    split
    · rename_i hb
      intro u hu
      rcases List.mem_cons.1 hu with rfl | hu
      · simp only [List.any_eq_true, Bool.and_eq_true, Bool.or_eq_true] at hb
        obtain ⟨e, he, h1, h2⟩ := hb
        refine ⟨o, by simpa using hl 0 o rfl, e, by simpa using he, h1, ?_⟩
        rcases h2 with h2 | h2
        · exact .inl (Nat.eq_of_beq_eq_true h2)
        · exact .inr (List.mem_cons_of_mem _ (inL_mem h2))
      · obtain ⟨o', ho', e, he, h1, h2⟩ := h u hu
        exact ⟨o', ho', e, he, h1, h2.imp id (List.mem_cons_of_mem _)⟩
    · exact h
def waitsB (ops : Array Oper) (p i : Nat) (ds : List Nat) : Bool := (match nth ops.toList p with
  | none => true
  | some _ => inL (descsOf ops.toList 0 i []) p) && (descsOf ops.toList 0 i []).all fun u => !(mkL ops.size ds).getD u false
theorem waitsB_ok {ops : Array Oper} {p i : Nat} {ds : List Nat} (h : waitsB ops p i ds = true) : DOk ops i (descsOf ops.toList 0 i []) ∧ (ops[p]? = none ∨ p ∈ descsOf ops.toList 0 i []) ∧ ∀ u ∈ descsOf ops.toList 0 i [], (mkL ops.size ds).getD u false = false := by
  unfold waitsB at h
  rw [Bool.and_eq_true] at h
  refine ⟨descs_ok (fun m o hm => by simpa using hm) (fun u hu => by simp at hu), ?_, fun u hu => ?_⟩
  · have h1 := h.1
    rw [nth_eq, Array.getElem?_toList] at h1
    split at h1
    · rename_i hn; exact .inl hn
    · exact .inr (inL_mem h1)
  · have := List.all_eq_true.1 h.2 u hu
    simpa using this

theorem wpAnyP_first {i : Nat} {oi : Oper} {v : Value} (hi : ops[i]? = some oi) (hsel : ∀ (j : Nat) (o : Oper) cs b, ops[j]? = some o → o.op ≠ .select cs b) (hpi : p ≠ i)
    (hQ : ∀ c a w, Q (.panic c) (a.put oi.dst v) w → Q (.panic c) a w) {U : List Nat} (hU : DOk ops i U) (hpU : ops[p]? = none ∨ p ∈ U) :
    ∀ (fuel : Nat) (listed : Array Bool) (a : Act) (w : World),
      (∀ j oj, ops[j]? = some oj → j ≠ i → listed.getD j true = false → (∀ e ∈ oj.after, Region.binds .any e = true → e.on ≠ i) → oi.apart ops oj = true) →
      listed.getD p false = false → (∀ u ∈ U, listed.getD u false = false) → i ∈ Region.ready .any ops listed → YieldsIf P ops S oi v a → S w →
      wpAnyP P .any ops Q p S fuel (listed.setIfInBounds i true) (a.put oi.dst v) w → wpAnyP P .any ops Q p S (fuel + 1) listed a w := by
  intro fuel
  induction fuel with
  | zero =>
    intro listed a w _ _ _ hr hy hS H
    refine ⟨fun h => (by rw [h] at hr; cases hr), fun j hj => ?_⟩
    by_cases hji : j = i
    · subst hji; exact hy.wpOp hi hS ⟨fun _ => hS, H⟩
    · have := ready_mono hj hji
      rw [H.1] at this
      cases this
  | succ fuel ih =>
    intro listed a w hfree hpu hun hr hy hS H
    refine ⟨fun h => (by rw [h] at hr; cases hr), fun j hj => ?_⟩
    by_cases hji : j = i
    · subst hji; exact hy.wpOp hi hS ⟨fun _ => hS, H⟩
    · have h1 := H.2 j (ready_mono hj hji)
      obtain ⟨hjun, oj, hoj, hall⟩ := mem_ready.1 hj
      have hnot : ∀ e ∈ oj.after, Region.binds .any e = true → e.on ≠ i := fun e he hb heq => by
        have h1 := hall e he hb
        have h0 := (mem_ready.1 hr).1
        rw [heq] at h1
        rcases Nat.lt_or_ge i listed.size with h' | h'
        · simp [h'] at h0 h1; rw [h0] at h1; cases h1
        · simp [Array.getElem?_eq_none h'] at h1
      have hjU : j ∉ U := fun hju => by
        obtain ⟨o', ho', e, he, hb, h2⟩ := hU j hju
        rw [hoj] at ho'
        simp only [Option.some.injEq] at ho'
        subst ho'
        rcases h2 with h2 | h2
        · exact hnot e he hb h2
        · have h3 := hall e he hb
          rw [hun _ h2] at h3
          cases h3
      have hjp : j ≠ p := fun e => by
        subst e
        rcases hpU with h | h
        · rw [hoj] at h; cases h
        · exact hjU h
      have hun' : ∀ u ∈ U, (listed.setIfInBounds j true).getD u false = false := fun u hu => by
        have := hun u hu
        have hne : j ≠ u := fun e => hjU (e ▸ hu)
        simp only [Array.getD_eq_getD_getElem?, Array.getElem?_setIfInBounds, if_neg hne] at this ⊢
        exact this
      have hpu' : (listed.setIfInBounds j true).getD p false = false := by
        simp only [Array.getD_eq_getD_getElem?, Array.getElem?_setIfInBounds, if_neg hjp] at hpu ⊢
        exact hpu
      have hpu2 : ((listed.setIfInBounds i true).setIfInBounds j true).getD p false = false := by
        simp only [Array.getD_eq_getD_getElem?, Array.getElem?_setIfInBounds, if_neg hjp, if_neg (Ne.symm hpi)] at hpu ⊢
        exact hpu
      have h2 := wpOp_putIf hoj (hfree j oj hoj hji hjun hnot) (fun cs b => hsel i oi cs b hi) (fun cs b => hsel j oj cs b hoj) hQ hy h1
      have hfree' : ∀ k ok, ops[k]? = some ok → k ≠ i → (listed.setIfInBounds j true).getD k true = false →
          (∀ e ∈ ok.after, Region.binds .any e = true → e.on ≠ i) → oi.apart ops ok = true := fun k ok hk hki hun hno => by
        refine hfree k ok hk hki ?_ hno
        by_cases hjk : j = k
        · subst hjk; exact hjun
        · rw [getD_set_ne true hjk] at hun; exact hun
      refine wpOp_mono (fun a' w' h3 => ⟨fun _ => h3.2.1 hpu2, ih (listed.setIfInBounds j true) a' w' hfree' hpu' hun' (ready_mono hr (Ne.symm hji)) h3.1 (h3.2.1 hpu2) ?_⟩) h2
      rw [Array.setIfInBounds_comm _ _ hji]
      exact h3.2.2

/-- What yields in whatever world may be taken whatever the phase. -/
theorem wpAnyP_first0 {i : Nat} {oi : Oper} {v : Value} (hi : ops[i]? = some oi) (hsel : ∀ (j : Nat) (o : Oper) cs b, ops[j]? = some o → o.op ≠ .select cs b) (hpi : p ≠ i)
    (hQ : ∀ c a w, Q (.panic c) (a.put oi.dst v) w → Q (.panic c) a w) :
    ∀ (fuel : Nat) (listed : Array Bool) (a : Act) (w : World),
      (∀ j oj, ops[j]? = some oj → j ≠ i → listed.getD j true = false → (∀ e ∈ oj.after, Region.binds .any e = true → e.on ≠ i) → oi.apart ops oj = true) →
      (listed.getD p false = false → S w) → i ∈ Region.ready .any ops listed → YieldsIf P ops (fun _ => True) oi v a →
      wpAnyP P .any ops Q p S fuel (listed.setIfInBounds i true) (a.put oi.dst v) w → wpAnyP P .any ops Q p S (fuel + 1) listed a w := by
  have hset : ∀ (ld : Array Bool) (b : Bool), (ld.setIfInBounds i true).getD p b = ld.getD p b := fun ld b => by
    simp only [Array.getD_eq_getD_getElem?, Array.getElem?_setIfInBounds, if_neg (Ne.symm hpi)]
  intro fuel
  induction fuel with
  | zero =>
    intro listed a w _ hS hr hy H
    refine ⟨fun h => (by rw [h] at hr; cases hr), fun j hj => ?_⟩
    by_cases hji : j = i
    · subst hji; exact hy.wpOp hi trivial ⟨fun h => hS (by rwa [hset] at h), H⟩
    · have := ready_mono hj hji
      rw [H.1] at this
      cases this
  | succ fuel ih =>
    intro listed a w hfree hS hr hy H
    refine ⟨fun h => (by rw [h] at hr; cases hr), fun j hj => ?_⟩
    by_cases hji : j = i
    · subst hji; exact hy.wpOp hi trivial ⟨fun h => hS (by rwa [hset] at h), H⟩
    · have h1 := H.2 j (ready_mono hj hji)
      obtain ⟨hjun, oj, hoj, hall⟩ := mem_ready.1 hj
      have hnot : ∀ e ∈ oj.after, Region.binds .any e = true → e.on ≠ i := fun e he hb heq => by
        have h1 := hall e he hb
        have h0 := (mem_ready.1 hr).1
        rw [heq] at h1
        rcases Nat.lt_or_ge i listed.size with h' | h'
        · simp [h'] at h0 h1; rw [h0] at h1; cases h1
        · simp [Array.getElem?_eq_none h'] at h1
      have h2 := wpOp_putIf hoj (hfree j oj hoj hji hjun hnot) (fun cs b => hsel i oi cs b hi) (fun cs b => hsel j oj cs b hoj) hQ hy h1
      have hfree' : ∀ k ok, ops[k]? = some ok → k ≠ i → (listed.setIfInBounds j true).getD k true = false →
          (∀ e ∈ ok.after, Region.binds .any e = true → e.on ≠ i) → oi.apart ops ok = true := fun k ok hk hki hun hno => by
        refine hfree k ok hk hki ?_ hno
        by_cases hjk : j = k
        · subst hjk; exact hjun
        · rw [getD_set_ne true hjk] at hun; exact hun
      have hS' : ∀ w', (((listed.setIfInBounds i true).setIfInBounds j true).getD p false = false → S w') → (listed.setIfInBounds j true).getD p false = false → S w' := fun w' hx hp' =>
        hx (by rw [Array.setIfInBounds_comm _ _ (Ne.symm hji), hset]; exact hp')
      refine wpOp_mono (fun a' w' h3 => ⟨hS' w' h3.2.1, ih (listed.setIfInBounds j true) a' w' hfree' (hS' w' h3.2.1) (ready_mono hr (Ne.symm hji)) h3.1 ?_⟩) h2
      rw [Array.setIfInBounds_comm _ _ hji]
      exact h3.2.2
end

def Ah (P : Program) (ops : Array Oper) (Q : Exit → Act → World → Prop) (p : Nat) (S : World → Prop) (f : Nat) (ds : List Nat) (a : Act) (w : World) : Prop := ((mkL ops.size ds).getD p false = false → S w) ∧ wpAnyP P .any ops (NoPanic Q) p S f (mkL ops.size ds) a w
def pickOps (ops : List Oper) : List Nat → Option (List Oper)
  | [] => some []
  | i :: r => match nth ops i, pickOps ops r with
    | some o, some os => some (o :: os)
    | _, _ => none
def noLoad (ops : Array Oper) (i : Nat) : Bool := match nth ops.toList i with
  | some o => !isLoad o.op
  | none => false
def takesAll (ops : Array Oper) (p : Nat) : List Nat → List Nat → Bool
  | _, [] => true
  | ds, i :: r => takes ops ds i && (waitsB ops p i ds || noLoad ops i) && !Nat.beq p i && takesAll ops p (i :: ds) r
def revOn : List Nat → List Nat → List Nat
  | [], ds => ds
  | i :: r, ds => revOn r (i :: ds)
section
variable {P : Program} {G : Gam} {ops : Array Oper} {n : FrN} {M : List (Nat × Nat × List Value)} {S : World → Prop} {Q : Exit → Act → World → Prop} {a : Act} {w : World} {f p : Nat} {ds : List Nat}

theorem mkL_set (i : Nat) : mkL ops.size (i :: ds) = (mkL ops.size ds).setIfInBounds i true := rfl
theorem Ah.wpAny (h : Ah P ops Q p S f ds a w) : Go.wpAny P .any ops (NoPanic Q) f (mkL ops.size ds) a w := wpAny_of_P f _ a w h.2
/-- The region begins: what is held is told of the world that has drawn. -/
theorem c_anyH {id m : Nat} {lo : List Oper} (p : Nat) (S : World → World → Prop) (hm : P.follows .mixedOrders = true) (hl : Nat.beq lo.length m = true) (h : ∀ w', Ev [] w w' → Ah P lo.toArray Q p (S w') m [] a w') : (Code.region id lo.toArray true).wp P Q a w := by
  have hl := Nat.eq_of_beq_eq_true hl
  subst hl
  exact wp_region_noPanic (wp_region_any hm (h _ (Ev.drew [] w)).wpAny)
theorem ah_done (hc : (Region.ready .any ops (mkL ops.size ds)).isEmpty = true) (h : Q .normal a w) (hS : (mkL ops.size ds).getD p false = false → S w) : Ah P ops Q p S f ds a w := by
  refine ⟨hS, ?_⟩
  have hr := List.isEmpty_iff.1 hc
  cases f with
  | zero => exact ⟨hr, NoPanic.normal h⟩
  | succ f => exact ⟨fun _ => NoPanic.normal h, by rw [hr]; simp⟩
/-- Another phase: p has come up. -/
theorem Ah.next (p' : Nat) (S' : World → Prop) (hp : (mkL ops.size ds).getD p false = true) (h : Ah P ops Q p' S' f ds a w) : Ah P ops Q p S f ds a w :=
  ⟨fun hf => absurd (hp.symm.trans hf) (by simp), wpAnyP_of f _ a w hp h.2⟩
/-- What is held is told anew, stronger. -/
theorem Ah.anew (S' : World → Prop) (hS : ∀ w, S' w → S w) (h : Ah P ops Q p S' f ds a w) : Ah P ops Q p S f ds a w := ⟨fun hf => hS w (h.1 hf), wpAnyP_imp hS f _ a w h.2⟩

theorem ap_aux (hG : GOK P G) (hM : ∀ w, S w → memOK w M) (hSw : S w) {frz : List (Nat × Value)} {gsz : List Sl} {lz : List (Nat × Nat)} (hz : eqs lz) : ∀ (is : List Nat) {os : List Oper} {hs ds : List Nat} {fr : List (Nat × Value)} {gs : List Sl} {l : List (Nat × Nat)} {a : Act},
    (mkL ops.size ds).getD p false = false → pickOps ops.toList is = some os → takesAll ops p ds is = true → Fr n fr a → gOK a gs → ev G ops n M os hs fr gs l = some (frz, gsz, lz) → (∀ a', Fr n frz a' → Ah P ops Q p S f (revOn is ds) a' w) → Ah P ops Q p S (f + is.length) ds a w
  | [], os, hs, ds, fr, gs, l, a, _, ho, _, hf, _, h, hk => by
    simp only [pickOps, Option.some.injEq] at ho
    subst ho
    simp only [ev, Option.some.injEq, Prod.mk.injEq] at h
    exact hk a (by rw [← h.1]; exact hf)
  | i :: is, os, hs, ds, fr, gs, l, a, hpu, ho, ht, hf, hg, h, hk => by
    simp only [pickOps] at ho
    split at ho
    · rename_i o os' h1 h2
      simp only [Option.some.injEq] at ho
      subst ho
      rw [nth_eq, Array.getElem?_toList] at h1
      simp only [takesAll, Bool.and_eq_true, Bool.not_eq_true'] at ht
      obtain ⟨⟨⟨ht1, hwt⟩, hpi⟩, ht2⟩ := ht
      have hpi' : p ≠ i := fun e => by rw [e] at hpi; simp at hpi
      obtain ⟨d, u, hs', fr', gs', l', ⟨hd, hs1⟩, hf', hg', h'⟩ := ev_step (C := S) hG hM hf hg h hz (ev_mono hz)
      have hpu' : (mkL ops.size (i :: ds)).getD p false = false := by
        rw [mkL_set]
        simp only [Array.getD_eq_getD_getElem?, Array.getElem?_setIfInBounds, if_neg (Ne.symm hpi')] at hpu ⊢
        exact hpu
      have next := ap_aux hG hM hSw hz is hpu' h2 ht2 hf' hg' h' hk
      simp only [takes, Bool.and_eq_true] at ht1
      refine ⟨fun _ => hSw, ?_⟩
      have := next.2
      rw [show f + (i :: is).length = f + is.length + 1 by simp [Nat.add_assoc]]
      rw [Bool.or_eq_true] at hwt
      rcases hwt with hwt | hnl
      · refine wpAnyP_first (v := u) h1 (Region.noSelect_spec ht1.1.1) hpi' (fun c a w h => h) (waitsB_ok hwt).1 (waitsB_ok hwt).2.1 (f + is.length) _ a w (Region.free_spec h1 ht1.1.2) hpu (waitsB_ok hwt).2.2 (by simpa using ht1.2) (hs1.imp (fun ⟨x, y, _⟩ => ⟨x, y⟩) id) hSw ?_
        rw [hd]
        exact this
      · have hnl' : isLoad o.op = false := by
          unfold noLoad at hnl
          rw [nth_eq, Array.getElem?_toList, h1] at hnl
          simpa using hnl
        refine wpAnyP_first0 (v := u) h1 (Region.noSelect_spec ht1.1.1) hpi' (fun c a w h => h) (f + is.length) _ a w (Region.free_spec h1 ht1.1.2) (fun _ => hSw) (by simpa using ht1.2) (hs1.imp (fun ⟨x, _, y⟩ => ⟨x, fun w _ => y hnl' w⟩) id) ?_
        rw [hd]
        exact this
    · cases ho
/-- A run in such a region: these operations are taken at once. -/
theorem ap (is : List Nat) (k : Nat) (keep hs : List Nat) {os : List Oper} {fr fr' : List (Nat × Value)} {L : List Nat} (hG : GOK P G) (hM : ∀ w, S w → memOK w M) (hf : Fr n fr a) (hk : Nat.beq is.length k = true) (hpu : (mkL ops.size ds).getD p false = false) (hi : pickOps ops.toList is = some os) (ht : takesAll ops p ds is = true)
    (he : evc G ops n M os hs fr keep = some (fr', dup L)) (hSw : S w) (next : ∀ a', Fr n fr' a' → Ah P ops Q p S f (revOn is ds) a' w) : Ah P ops Q p S (f + k) ds a w := by
  have hk := Nat.eq_of_beq_eq_true hk
  subst hk
  obtain ⟨frz, gsz, h1, h2⟩ := evc_some he
  exact ap_aux (gs := []) hG hM hSw (eqs_dup L) is hpu hi ht hf trivial h1 fun a' hf' => next a' (hf'.sub h2)

theorem ah_o (i : Nat) {o : Oper} (hi : ops[i]? = some o) (hc : (Region.ready .any ops (mkL ops.size ds) == [i]) = true) (hS : (mkL ops.size ds).getD p false = false → S w) (h : wpList P ops (QN (Ah P ops Q p S f (i :: ds)) (NoPanic Q)) [o] a w) : Ah P ops Q p S (f + 1) ds a w := by
  have hr := eq_of_beq hc
  refine ⟨hS, ⟨fun h0 => (by rw [hr] at h0; cases h0), fun j hj => ?_⟩⟩
  rw [hr] at hj
  have : j = i := by simpa using hj
  subst this
  exact wpOp_of_list hi h
theorem ah_oo (i j : Nat) {o o' : Oper} (hi : ops[i]? = some o) (hj : ops[j]? = some o') (hc : (Region.ready .any ops (mkL ops.size ds) == [i, j]) = true) (hS : (mkL ops.size ds).getD p false = false → S w) (h : wpList P ops (QN (Ah P ops Q p S f (i :: ds)) (NoPanic Q)) [o] a w)
    (h' : wpList P ops (QN (Ah P ops Q p S f (j :: ds)) (NoPanic Q)) [o'] a w) : Ah P ops Q p S (f + 1) ds a w := by
  have hr := eq_of_beq hc
  refine ⟨hS, ⟨fun h0 => (by rw [hr] at h0; cases h0), fun q hq => ?_⟩⟩
  rw [hr] at hq
  have : q = i ∨ q = j := by simpa using hq
  rcases this with rfl | rfl
  · exact wpOp_of_list hi h
  · exact wpOp_of_list hj h'
theorem ah_n (h : Ah P ops Q p S f ds a w) : wpList P ops (QN (Ah P ops Q p S f ds) (NoPanic Q)) [] a w := h
end
end Gg
