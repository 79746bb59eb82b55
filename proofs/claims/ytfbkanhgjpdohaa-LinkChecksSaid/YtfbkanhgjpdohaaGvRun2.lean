/- The small logic, runs (2): the function itself, and that it tells the truth. General: no program is named. -/
import Derived.Test.YtfbkanhgjpdohaaGvRun
namespace Gg
open Go Go.RowKit Cin

def nth {α : Type} : List α → Nat → Option α
  | [], _ => none
  | x :: _, 0 => some x
  | _ :: r, i + 1 => nth r i
theorem nth_eq {α : Type} : ∀ (l : List α) (i : Nat), nth l i = l[i]?
  | [], i => by simp [nth]
  | x :: r, 0 => rfl
  | x :: r, i + 1 => by simp [nth, nth_eq r i]

def isT : Operand → Bool
  | .const (.bool b) => b
  | _ => false
def isF : Operand → Bool
  | .const (.bool b) => !b
  | _ => false
def pickV (x y : Operand) (b : Bool) : Value → Value → Option Value
  | .bool p, .bool q => match isT x with
    | true => some (.bool (b || q))
    | false => match isF y with
      | true => some (.bool (b && p))
      | false => some (.bool (cond b p q))
  | .int j m, .int k n => match kEq j k with
    | true => some (.int j (cond b m n))
    | false => none
  | .string ⟨⟨p⟩⟩, .string ⟨⟨q⟩⟩ => some (Str (cond b p q))
  | _, _ => none

theorem isT_ok {a : Act} {x : Operand} (h : isT x = true) : a.eval x = .bool true := by
  unfold isT at h
  split at h
  · subst h; rfl
  · cases h
theorem isF_ok {a : Act} {x : Operand} (h : isF x = true) : a.eval x = .bool false := by
  unfold isF at h
  split at h
  · rename_i b
    have : b = false := by simpa using h
    subst this; rfl
  · cases h

/-- What a choice yields, its ways each known where they are taken. -/
theorem pickV_ok {a : Act} {x y : Operand} {b : Bool} {u v r : Value} (h : pickV x y b u v = some r) (hx : b = true → a.eval x = u) (hy : b = false → a.eval y = v) : (if b then a.eval x else a.eval y) = r := by
  unfold pickV at h
  split at h
  · rename_i p q
    split at h
    · rename_i ht
      simp only [Option.some.injEq] at h
      subst h
      cases b with
      | true => rw [if_pos rfl, isT_ok ht]; rfl
      | false => rw [if_neg (by simp), hy rfl]; rfl
    · split at h
      · rename_i hf
        simp only [Option.some.injEq] at h
        subst h
        cases b with
        | true => rw [if_pos rfl, hx rfl]; rfl
        | false => rw [if_neg (by simp), isF_ok hf]; rfl
      · simp only [Option.some.injEq] at h
        subst h
        cases b with
        | true => rw [if_pos rfl, hx rfl]; rfl
        | false => rw [if_neg (by simp), hy rfl]; rfl
  · split at h
    · rename_i hk
      have := kEq_ok hk
      subst this
      simp only [Option.some.injEq] at h
      subst h
      cases b with
      | true => rw [if_pos rfl, hx rfl]; rfl
      | false => rw [if_neg (by simp), hy rfl]; rfl
    · cases h
  · simp only [Option.some.injEq] at h
    subst h
    cases b with
    | true => rw [if_pos rfl, hx rfl]; rfl
    | false => rw [if_neg (by simp), hy rfl]; rfl
  · cases h

abbrev Out := Value × List Nat × List (Nat × Nat)
def just (hs : List Nat) (v : Value) : Option Out := some (v, hs, [])
def evLoad (G : Gam) (M : List (Nat × Nat × List Value)) (t m rel : Nat) (hs : List Nat) (pb po : Nat) : Option Out :=
  match nth M m, lkn G.siz t with
  | some (b, off, cs), some none => match nth cs rel with
    | some v => some (v, hs, [(pb, b), (po, off + rel)])
    | none => none
  | some (b, off, cs), some (some n) => match Nat.ble (rel + n) cs.length with
    | true => some (.agg ((cs.drop rel).take n).toArray, hs, [(pb, b), (po, off + rel)])
    | false => none
  | _, _ => none
def evConv (G : Gam) (s d : Nat) (hs : List Nat) : Value → Option Out
  | .int k m => match is64 k, lkn G.und s, lkn G.und d with
    | true, some (.i .i64), some (.i .i64) => just hs (.int .i64 (w64 m))
    | true, some (.i .i64), some (.i .u8) => just hs (.int .u8 ((b8 m).toNat : Int))
    | _, _, _ => none
  | _ => none
def evLen (G : Gam) (t : Nat) (hs : List Nat) : Value → Option Out
  | .string ⟨⟨p⟩⟩ => match lkn G.und t with
    | some .s => just hs (.int .i64 (p.length : Int))
    | _ => none
  | .slice _ n _ => match lkn G.und t with
    | some .sl => just hs (.int .i64 (n : Int))
    | _ => none
  | _ => none
def evPick (fr : List (Nat × Value)) (gs : List Sl) (cur : List (Nat × Bool)) (c x y : Operand) : List Nat → Option Out
  | 0 :: hs => match c with
    | .tmp tc => match opd fr gs cur (.tmp tc), opd fr gs ((tc, true) :: cur) x, opd fr gs ((tc, false) :: cur) y with
      | some (.bool b), some u, some v => match pickV x y b u v with
        | some r => just hs r
        | none => none
      | _, _, _ => none
    | _ => none
  | _ :: hs => match opd fr gs cur c with
    | some (.bool b) => match b with
      | true => match opd fr gs cur x with | some v => just hs v | none => none
      | false => match opd fr gs cur y with | some v => just hs v | none => none
    | _ => none
  | [] => none
def ev1 (G : Gam) (M : List (Nat × Nat × List Value)) (hs : List Nat) (fr : List (Nat × Value)) (gs : List Sl) (cur : List (Nat × Bool)) : Op → Option Out
  | .move x => match opd fr gs cur x with | some v => just hs v | none => none
  | .assign x => match opd fr gs cur x with | some v => just hs v | none => none
  | .pick c x y => evPick fr gs cur c x y hs
  | .binOp op t x y _ => match opd fr gs cur x, opd fr gs cur y with
    | some u, some v => match bin (lkn G.und t) (isK y) op u v with
      | some r => just hs r
      | none => none
    | _, _ => none
  | .unOp .not _ x => match opd fr gs cur x with
    | some (.bool p) => just hs (.bool (!p))
    | _ => none
  | .convert s d x => match opd fr gs cur x with
    | some v => evConv G s d hs v
    | none => none
  | .load t x => match opd fr gs cur x, hs with
    | some (.pointer (some ⟨pb, po, none⟩)), m :: rel :: hs' => evLoad G M t m rel hs' pb po
    | _, _ => none
  | .fieldAddr s x j => match opd fr gs cur x, lkf G.fld s j with
    | some (.pointer (some ⟨b, p, none⟩)), some off => just hs (.pointer (some ⟨b, p + off, none⟩))
    | _, _ => none
  | .nilCheck x => match opd fr gs cur x with
    | some (.pointer (some p)) => just hs (.pointer (some p))
    | _ => none
  | .extract x i => match opd fr gs cur x with
    | some (.tuple ⟨vs⟩) => match nth vs i with
      | some v => just hs v
      | none => none
    | _ => none
  | .makeFunc fn ⟨xs⟩ ⟨ys⟩ => match opds fr gs cur xs, opds fr gs cur ys with
    | some us, some vs => just hs (.func fn us.toArray vs.toArray)
    | _, _ => none
  | .call ⟨.builtin .len, ⟨[x]⟩, ⟨[t]⟩⟩ => match opd fr gs cur x with
    | some v => evLen G t hs v
    | none => none
  | _ => none

theorem just_eq {hs hs' : List Nat} {u v : Value} {l : List (Nat × Nat)} (h : just hs u = some (v, hs', l)) : u = v := by
  simp only [just, Option.some.injEq, Prod.mk.injEq] at h
  exact h.1
def eqs : List (Nat × Nat) → Prop
  | [] => True
  | p :: r => p.1 = p.2 ∧ eqs r

section
variable {P : Program} {G : Gam} {M : List (Nat × Nat × List Value)} {w : World} {a : Act} {o : Oper}
theorem ev1_ok {n : FrN} {fr : List (Nat × Value)} {gs : List Sl} {cur : List (Nat × Bool)} {hs hs' : List Nat} {v : Value} {l : List (Nat × Nat)} (hG : GOK P G) (hM : memOK w M) (hf : Fr n fr a) (hg : gOK a gs) (hc : curOK a cur)
    {op : Op} (ho : o.op = op) (h : ev1 G M hs fr gs cur op = some (v, hs', l)) (hl : eqs l) : Yv P o a w v w := by
  have opn : ∀ {x : Operand} {u : Value}, opd fr gs cur x = some u → a.eval x = u := fun hx => opd_ok hf hg hc hx
  unfold ev1 at h
  split at h
  · split at h
    · rename_i hx
      rw [← just_eq h]; exact y_move ho (opn hx)
    · cases h
  · split at h
    · rename_i hx
      rw [← just_eq h]; exact y_assign ho (opn hx)
    · cases h
  · rename_i c x y
    unfold evPick at h
    split at h
    · split at h
      · rename_i tc
        split at h
        · rename_i b u v' h1 h2 h3
          split at h
          · rename_i r hr
            rw [← just_eq h]
            have hcb : a.eval (.tmp tc) = .bool b := opn h1
            have hx : b = true → a.eval x = u := fun hb => opd_ok hf hg (show curOK a ((tc, true) :: cur) from ⟨by subst hb; exact hcb, hc⟩) h2
            have hy : b = false → a.eval y = v' := fun hb => opd_ok hf hg (show curOK a ((tc, false) :: cur) from ⟨by subst hb; exact hcb, hc⟩) h3
            have hp := pickV_ok (a := a) hr hx hy
            cases b with
            | true => exact y_pickT ho hcb (by simpa using hp)
            | false => exact y_pickF ho hcb (by simpa using hp)
          · cases h
        · cases h
      · cases h
    · split at h
      · rename_i b h1
        split at h
        · split at h
          · rename_i u h2
            rw [← just_eq h]; exact y_pickT ho (opn h1) (opn h2)
          · cases h
        · split at h
          · rename_i u h2
            rw [← just_eq h]; exact y_pickF ho (opn h1) (opn h2)
          · cases h
      · cases h
    · cases h
  · rename_i op t x y t'
    split at h
    · rename_i u v' h1 h2
      split at h
      · rename_i r hr
        rw [← just_eq h]
        refine bin_ok (fun k hk => und_ok hG.und hk) (fun hz k n hn => ?_) hr ho (opn h1) (opn h2)
        unfold isK at hz
        split at hz
        · rename_i k' n'
          have : a.eval (.const (.int k' n')) = .int k' n' := rfl
          rw [this] at hn
          injection hn with _ e
          subst e
          simpa using hz
        · cases hz
      · cases h
    · cases h
  · rename_i x
    split at h
    · rename_i p h1
      rw [← just_eq h]; exact y_not ho (opn h1)
    · cases h
  · rename_i s d x
    split at h
    · rename_i u h1
      unfold evConv at h
      split at h
      · rename_i k m
        split at h
        · rename_i h2 h3 h4
          have := is64_ok h2
          subst this
          rw [← just_eq h]; exact y_cSame64 (und_ok hG.und h3) (und_ok hG.und h4) ho (opn h1)
        · rename_i h2 h3 h4
          have := is64_ok h2
          subst this
          rw [← just_eq h]; exact y_cU8 (und_ok hG.und h3) (und_ok hG.und h4) ho (opn h1)
        · cases h
      · cases h
    · cases h
  · rename_i t x
    split at h
    · rename_i pb po m rel hs2 h1
      have hx := opn h1
      unfold evLoad at h
      split at h
      · rename_i b off cs h2 h3
        split at h
        · rename_i u h4
          simp only [Option.some.injEq, Prod.mk.injEq] at h
          obtain ⟨rfl, _, rfl⟩ := h
          obtain ⟨e1, e2, _⟩ := hl
          simp only at e1 e2
          subst e1; subst e2
          rw [nth_eq] at h2 h4
          exact y_load1 (siz_ok hG.siz h3) ho hx (mem_at hM h2 rel u h4)
        · cases h
      · rename_i b off cs k h2 h3
        split at h
        · rename_i hb
          simp only [Option.some.injEq, Prod.mk.injEq] at h
          obtain ⟨rfl, _, rfl⟩ := h
          obtain ⟨e1, e2, _⟩ := hl
          simp only at e1 e2
          subst e1; subst e2
          rw [nth_eq] at h2
          have hs := siz_ok hG.siz h3
          have hle := Nat.le_of_ble_eq_true hb
          refine y_loadN hs.1 hs.2 (by simp; omega) ho hx (fun j u hj => ?_)
          have hc' := mem_at hM h2
          rw [List.getElem?_take] at hj
          split at hj
          · rw [List.getElem?_drop] at hj
            have := hc' (rel + j) u hj
            simpa [Nat.add_assoc] using this
          · cases hj
        · cases h
      · cases h
    · cases h
  · rename_i s x j
    split at h
    · rename_i b p off h1 h2
      rw [← just_eq h]
      obtain ⟨fs, f, sz, g1, g2, g3, g4, g5⟩ := fld_ok hG.fld h2
      rw [← g3]
      exact y_fld g1 g2 g5 (by cases h0 : Nat.beq sz 0 with | false => rfl | true => exact absurd (Nat.eq_of_beq_eq_true h0) g4) ho (opn h1)
    · cases h
  · rename_i x
    split at h
    · rename_i p h1
      rw [← just_eq h]; exact y_nilCheck ho (opn h1)
    · cases h
  · rename_i x i
    split at h
    · rename_i vs h1
      split at h
      · rename_i u h2
        rw [← just_eq h]
        rw [nth_eq] at h2
        exact y_extract (vs := vs) ho (opn h1) h2
      · cases h
    · cases h
  · rename_i fn xs ys
    split at h
    · rename_i us vs h1 h2
      rw [← just_eq h]
      have e1 := opds_ok hf hg hc h1
      have e2 := opds_ok hf hg hc h2
      simp only [Yv, execOp, ho, Instr.makeFunc]
      rw [show (Array.map a.eval ⟨xs⟩) = us.toArray by rw [← e1]; simp, show (Array.map a.eval ⟨ys⟩) = vs.toArray by rw [← e2]; simp]
      rfl
    · cases h
  · rename_i x t
    split at h
    · rename_i u h1
      unfold evLen at h
      split at h
      · split at h
        · rename_i h2
          rw [← just_eq h]; exact y_lenS (und_ok hG.und h2) ho (opn h1)
        · cases h
      · split at h
        · rename_i h2
          rw [← just_eq h]
          obtain ⟨e, he⟩ := und_ok hG.und h2
          exact y_len he ho (opn h1)
        · cases h
      · cases h
    · cases h
  · cases h
end
end Gg
