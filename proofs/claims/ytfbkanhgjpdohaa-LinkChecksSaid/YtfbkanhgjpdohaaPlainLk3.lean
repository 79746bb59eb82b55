/- Plain law, the link laws: where a name stands; what is owned; names once. No program in sight. -/
import Derived.Test.YtfbkanhgjpdohaaPlainLk2
namespace Cin
/-- Where the first thing stands of which p holds. -/
def posP {α : Type} (p : α → Bool) : List α → Option Nat
  | [] => none
  | x :: r => if p x then some 0 else (posP p r).map (· + 1)
theorem posP_some {α : Type} {p : α → Bool} : ∀ {l : List α} {i : Nat}, posP p l = some i → ∃ x, l[i]? = some x ∧ p x = true ∧ ∀ j y, j < i → l[j]? = some y → p y = false
  | [], i, h => by simp [posP] at h
  | x :: r, i, h => by
    simp only [posP] at h
    split at h
    · rename_i hp
      injection h with h
      subst h
      exact ⟨x, rfl, hp, fun j y hj => absurd hj (by omega)⟩
    · rename_i hp
      cases hr : posP p r with
      | none => rw [hr] at h; cases h
      | some k =>
        rw [hr] at h
        simp only [Option.map_some, Option.some.injEq] at h
        subst h
        obtain ⟨y, h1, h2, h3⟩ := posP_some hr
        refine ⟨y, by simpa using h1, h2, fun j z hj hz => ?_⟩
        cases j with
        | zero =>
          simp only [List.getElem?_cons_zero, Option.some.injEq] at hz
          subst hz
          simpa using hp
        | succ j => exact h3 j z (by omega) (by simpa using hz)
theorem posP_none {α : Type} {p : α → Bool} : ∀ {l : List α}, posP p l = none → ∀ x ∈ l, p x = false
  | [], _, x, hx => by cases hx
  | y :: r, h, x, hx => by
    simp only [posP] at h
    split at h
    · cases h
    · rename_i hp
      have hr : posP p r = none := by simpa using h
      rcases List.mem_cons.1 hx with rfl | e
      · simpa using hp
      · exact posP_none hr x e
theorem posP_first {α : Type} {p : α → Bool} {l : List α} {i : Nat} {x : α} (hi : l[i]? = some x) (hp : p x = true) (hb : ∀ j y, j < i → l[j]? = some y → p y = false) : posP p l = some i := by
  cases h : posP p l with
  | none => have := posP_none h x (List.mem_of_getElem? hi); rw [hp] at this; cases this
  | some j =>
    obtain ⟨y, h1, h2, h3⟩ := posP_some h
    rcases Nat.lt_trichotomy i j with e | e | e
    · have := h3 i x e hi; rw [hp] at this; cases this
    · rw [e]
    · have := hb j y e h1; rw [h2] at this; cases this
theorem posP_lt {α : Type} {p : α → Bool} {l : List α} {i : Nat} (h : posP p l = some i) : i < l.length := by
  obtain ⟨x, h1, _⟩ := posP_some h
  exact (List.getElem?_eq_some_iff.1 h1).1
/-- A loop that looks for a place. -/
theorem findI {α ρ : Type} {l : List α} {L : Nat → Int → Option (Way ρ Unit)} (p : α → Bool) (f : Nat → ρ) (hl : l.length ≤ 140737488355328)
    (hs : ∀ k (i : Nat) x, l[i]? = some x → L (k + 1) (i : Int) = cond (p x) (some (.out (f i))) (L k (w64 ((i : Int) + 1))))
    (he : ∀ k, L (k + 1) (l.length : Int) = some (.go ())) {F : Nat} (hF : l.length < F) : L F 0 = some (wo ((posP p l).map f)) := by
  have key : ∀ (d i k : Nat), i + d = l.length → d < k → L k (i : Int) = some (wo ((posP p (l.drop i)).map fun j => f (i + j))) := by
    intro d
    induction d with
    | zero =>
      intro i k h hk
      obtain ⟨k, rfl⟩ : ∃ k', k = k' + 1 := ⟨k - 1, by omega⟩
      have hi : i = l.length := by omega
      subst hi
      rw [he]; simp [wo, posP]
    | succ d ih =>
      intro i k h hk
      obtain ⟨k, rfl⟩ : ∃ k', k = k' + 1 := ⟨k - 1, by omega⟩
      have hi : i < l.length := by omega
      rw [hs k i l[i] (List.getElem?_eq_getElem hi), List.drop_eq_getElem_cons hi, posP]
      cases hg : p l[i] with
      | true => simp [wo]
      | false =>
        simp only [cond_false, Bool.false_eq_true, if_false]
        rw [w64_up hi hl, ih (i + 1) k (by omega) (by omega)]
        congr 2
        rw [Option.map_map]
        congr 1
        funext j
        simp only [Function.comp]
        congr 1
        omega
  have := key l.length 0 F (by omega) hF
  simpa using this
/-- The number of a class. -/
def isN (nm : List UInt8) (c : Class) : Bool := decide (c.Name = nm)
def clAt (l : List Class) (nm : List UInt8) : Int := ((posP (isN nm) l).map fun n : Nat => (n : Int)).getD (-1)
theorem R_ClassAt_eq {F : Nat} {l : List Class} (h : Small F l.length) (nm : List UInt8) : R_ClassAt F l nm = some (clAt l nm) := by
  unfold R_ClassAt clAt
  have l1 : R_ClassAt_L1 l nm F 0 = some (wo ((posP (isN nm) l).map fun n : Nat => (n : Int))) := findI (isN nm) _ h.1 (fun k i x hx => by
    rw [R_ClassAt_L1, lt_t (List.getElem?_eq_some_iff.1 hx).1, cond_true, idx_at hx, Option.bind_some]; rfl) (fun k => by rw [R_ClassAt_L1, lt_f]; rfl) h.2
  rw [l1, sr_wo]
  cases posP (isN nm) l <;> rfl
theorem clAt_lt {l : List Class} {nm : List UInt8} : clAt l nm < l.length := by
  unfold clAt
  cases h : posP (isN nm) l with
  | none => simp only [Option.map_none, Option.getD_none]; omega
  | some i => have := posP_lt h; simp only [Option.map_some, Option.getD_some]; omega
theorem clAt_ge {l : List Class} {nm : List UInt8} : -1 ≤ clAt l nm := by
  unfold clAt
  cases h : posP (isN nm) l with
  | none => simp
  | some i => simp only [Option.map_some, Option.getD_some]; omega
theorem clAt_neg {l : List Class} {nm : List UInt8} : clAt l nm < 0 ↔ posP (isN nm) l = none := by
  unfold clAt
  cases h : posP (isN nm) l with
  | none => simp
  | some i => simp only [Option.map_some, Option.getD_some]; constructor <;> intro h <;> first | omega | cases h

/-! ### What is owned -/
theorem set_self {α : Type} {l : List α} {i : Nat} {x : α} (h : l[i]? = some x) : l.set i x = l := by
  obtain ⟨hl, e⟩ := List.getElem?_eq_some_iff.1 h
  rw [← e, List.set_getElem_self]
theorem clone_ok {α : Type} {b : Nat} {l : List α} (h : l.length * b ≤ 140737488355328) : (app b ([] : List α) l).bind (fun l => some l) = some l := by
  unfold app
  rw [if_pos (by simpa using h)]
  simp
theorem own_eq {F : Nat} {l : List Class} (hF : 100 < F) (h : Right l) : link_own F l = some l := by
  have c2 : ∀ (ms : List Method), ms.length ≤ 8 → (∀ m ∈ ms, m.Args.length ≤ 4 ∧ m.Handlers.length ≤ 4) → link_own_L2 F ms (ms.length : Int) 0 = some ms := by
    intro ms hms hm
    refine loopS (n := ms.length) (fun k i => link_own_L2 k ms (ms.length : Int) (i : Int)) ms (fun k i hi => ?_) (fun k => ?_) (F := F) (by omega)
    · obtain ⟨x, hx⟩ : ∃ x, ms[i]? = some x := ⟨ms[i], List.getElem?_eq_getElem hi⟩
      have hb := hm x (List.mem_of_getElem? hx)
      show link_own_L2 (k + 1) ms (ms.length : Int) (i : Int) = _
      rw [link_own_L2, lt_t hi, cond_true, idx_at hx, Option.bind_some]
      unfold slices_Clone_api_Kind_api_Kind slices_Clone_api_Handler_api_Handler
      rw [clone_ok (by omega), Option.bind_some, clone_ok (by omega), Option.bind_some, Option.bind_some, Option.bind_some]
      have e1 : ms.set (i : Int).toNat (⟨x.Name, x.Static, x.Args, (⟨x.Returns.Kind, x.Returns.Class⟩ : Kind), x.Stack, x.Locals, x.Code, x.Handlers⟩ : Method) = ms := set_self (i := i) hx
      simp only [e1, idx_at hx, Option.bind_some]
      rw [w64_up hi (by omega)]
    · show link_own_L2 (k + 1) ms (ms.length : Int) (ms.length : Int) = _
      rw [link_own_L2, lt_f]; rfl
  unfold link_own
  have c1 : link_own_L1 F l F [] 0 = some l := by
    refine loopS (n := l.length) (fun k i => link_own_L1 F l k (l.take i) (i : Int)) l (fun k i hi => ?_) (fun k => ?_) (F := F) (by have := h.len; omega)
    · obtain ⟨x, hx⟩ : ∃ x, l[i]? = some x := ⟨l[i], List.getElem?_eq_getElem hi⟩
      have hmem := List.mem_of_getElem? hx
      have hf := h.fields x hmem
      have hm := h.methods x hmem
      have hlen := h.len
      show link_own_L1 F l (k + 1) (l.take i) (i : Int) = _
      rw [link_own_L1, lt_t hi, cond_true, idx_at hx, Option.bind_some]
      unfold slices_Clone_api_Field_api_Field slices_Clone_api_Method_api_Method
      rw [clone_ok (by omega), Option.bind_some, clone_ok (by omega), Option.bind_some, c2 x.Methods hm (h.method x hmem), Option.bind_some]
      unfold app
      rw [if_pos (by simp only [List.length_take, List.length_cons, List.length_nil]; omega)]
      simp only [Option.bind_some]
      rw [w64_up hi (by omega)]
      have e : l.take i ++ [(⟨x.Name, x.Super, x.Fields, x.Methods⟩ : Class)] = l.take (i + 1) := by
        rw [List.take_add_one, hx]; rfl
      rw [e]
    · show link_own_L1 F l (k + 1) (l.take l.length) (l.length : Int) = _
      rw [link_own_L1, lt_f, List.take_length]; rfl
  rw [c1]; rfl

/-! ### Names once -/
def nmap : Nat → List Class → List (List UInt8 × Int)
  | _, [] => []
  | k, c :: r => (c.Name, (k : Int)) :: nmap (k + 1) r
theorem nmap_get (nm : List UInt8) : ∀ (l : List Class) (k : Nat), mget (nmap k l) nm = (posP (isN nm) l).map fun n : Nat => ((n + k : Nat) : Int)
  | [], k => rfl
  | c :: r, k => by
    simp only [nmap, mget, posP, isN]
    by_cases h : c.Name = nm
    · simp [h]
    · simp only [h, if_false, decide_false, Bool.false_eq_true]
      rw [nmap_get nm r (k + 1), Option.map_map]
      congr 1
      funext j
      simp only [Function.comp]
      congr 1
      omega
theorem nmap_snoc (c : Class) : ∀ (l : List Class) (k : Nat), nmap k (l ++ [c]) = nmap k l ++ [(c.Name, ((k + l.length : Nat) : Int))]
  | [], k => by simp [nmap]
  | d :: r, k => by
    simp only [List.cons_append, nmap, List.length_cons]
    rw [nmap_snoc c r (k + 1)]
    congr 4
    omega
theorem mput_new {κ β : Type} [DecidableEq κ] {k : κ} {v : β} : ∀ {m : List (κ × β)}, mget m k = none → mput m k v = m ++ [(k, v)]
  | [], _ => rfl
  | p :: r, h => by
    simp only [mget] at h
    split at h
    · cases h
    · rename_i hne
      simp only [mput, if_neg hne, List.cons_append]
      rw [mput_new h]
/-- Each name stands once. -/
def Once (l : List Class) : Prop := ∀ (i j : Nat) (x y : Class), l[i]? = some x → l[j]? = some y → x.Name = y.Name → i = j
theorem once_clAt {l : List Class} (h : Once l) {i : Nat} {x : Class} (hi : l[i]? = some x) : clAt l x.Name = (i : Int) := by
  unfold clAt
  rw [posP_first (i := i) hi (by simp [isN]) (fun j y hj hy => by
    simp only [isN, decide_eq_false_iff_not]
    intro e
    have := h j i y x hy hi e
    omega)]
  rfl
/-- What both say of names. -/
theorem names_dec {F : Nat} {l : List Class} (hF : 100 < F) (h : Right l) :
    (Once l ∧ link_linker_names_L1 ⟨l, [], []⟩ F [] 0 = some (.go (nmap 0 l)) ∧ R_CheckLink_L1 F l F 0 = some (.go ())) ∨
    (¬ Once l ∧ (∃ m, link_linker_names_L1 ⟨l, [], []⟩ F [] 0 = some (.out (6, m))) ∧ R_CheckLink_L1 F l F 0 = some (.out 6)) := by
  have hlen := h.len
  have hR : R_CheckLink_L1 F l F 0 = some (wo ((List.range l.length).findSome? fun i : Nat => (l[i]?).bind fun x : Class => if clAt l x.Name = (i : Int) then none else some 6)) := eachN _ (by omega) (fun k i hi => by
    obtain ⟨x, hx⟩ : ∃ x, l[i]? = some x := ⟨l[i], List.getElem?_eq_getElem hi⟩
    rw [R_CheckLink_L1, lt_t hi, cond_true, idx_at hx, Option.bind_some, R_ClassAt_eq ⟨by omega, by omega⟩, Option.bind_some, hx, Option.bind_some]
    by_cases e : clAt l x.Name = (i : Int)
    · rw [if_pos e, decide_eq_true e]; rfl
    · rw [if_neg e, decide_eq_false e]; rfl) (fun k => by rw [R_CheckLink_L1, lt_f]; rfl) (by omega)
  -- up to where names stand once
  have key : ∀ (d i k : Nat), i + d = l.length → d < k → Once (l.take i) →
      (Once l ∧ link_linker_names_L1 ⟨l, [], []⟩ k (nmap 0 (l.take i)) i = some (.go (nmap 0 l))) ∨ (¬ Once l ∧ ∃ m, link_linker_names_L1 ⟨l, [], []⟩ k (nmap 0 (l.take i)) i = some (.out (6, m))) := by
    intro d
    induction d with
    | zero =>
      intro i k hi hk ho
      obtain ⟨k, rfl⟩ : ∃ k', k = k' + 1 := ⟨k - 1, by omega⟩
      have e : i = l.length := by omega
      subst e
      rw [List.take_length] at ho ⊢
      left
      refine ⟨ho, ?_⟩
      rw [link_linker_names_L1, lt_f]; rfl
    | succ d ih =>
      intro i k hi hk ho
      obtain ⟨k, rfl⟩ : ∃ k', k = k' + 1 := ⟨k - 1, by omega⟩
      have hil : i < l.length := by omega
      obtain ⟨x, hx⟩ : ∃ x, l[i]? = some x := ⟨l[i], List.getElem?_eq_getElem hil⟩
      rw [link_linker_names_L1, lt_t hil, cond_true, idx_at hx, Option.bind_some, nmap_get]
      cases hp : posP (isN x.Name) (l.take i) with
      | some j =>
        right
        obtain ⟨y, h1, h2, _⟩ := posP_some hp
        refine ⟨fun hO => ?_, _, rfl⟩
        have hji : j < i := by have := (List.getElem?_eq_some_iff.1 h1).1; simp only [List.length_take] at this; omega
        have hy : l[j]? = some y := by rw [List.getElem?_take] at h1; rw [if_pos hji] at h1; exact h1
        have := hO j i y x hy hx (by simpa [isN] using h2)
        omega
      | none =>
        simp only [Option.map_none, Option.isSome_none, cond_false]
        have hnone : mget (nmap 0 (l.take i)) x.Name = none := by rw [nmap_get, hp]; rfl
        rw [mput_new hnone, w64_up hil (by omega)]
        have e1 : l.take (i + 1) = l.take i ++ [x] := by rw [List.take_add_one, hx]; rfl
        have e2 : nmap 0 (l.take i) ++ [(x.Name, (i : Int))] = nmap 0 (l.take (i + 1)) := by
          rw [e1, nmap_snoc]
          congr 4
          simp only [List.length_take]; omega
        rw [e2]
        refine ih (i + 1) k (by omega) (by omega) ?_
        intro a b u v ha hb huv
        rw [List.getElem?_take] at ha hb
        split at ha
        · split at hb
          · rename_i ha' hb'
            have hpn := posP_none hp
            have hin : ∀ (q : Nat) (z : Class), q < i → l[q]? = some z → z.Name ≠ x.Name := fun q z hq hz e => by
              have := hpn z (List.mem_of_getElem? (i := q) (by rw [List.getElem?_take, if_pos hq]; exact hz))
              simp [isN, e] at this
            by_cases hai : a = i
            · by_cases hbi : b = i
              · omega
              · subst hai
                rw [hx] at ha; injection ha with ha; subst ha
                exact absurd huv.symm (hin b v (by omega) hb)
            · by_cases hbi : b = i
              · subst hbi
                rw [hx] at hb; injection hb with hb; subst hb
                exact absurd huv (hin a u (by omega) ha)
              · exact ho a b u v (by rw [List.getElem?_take, if_pos (by omega)]; exact ha) (by rw [List.getElem?_take, if_pos (by omega)]; exact hb) huv
          · cases hb
        · cases ha
  have h0 := key l.length 0 F (by omega) (by omega) (fun i j x y hi => by simp at hi)
  have e0 : nmap 0 (l.take 0) = [] := by simp [nmap]
  rw [e0] at h0
  rcases h0 with ⟨hO, h1⟩ | ⟨hO, h1⟩
  · left
    refine ⟨hO, h1, ?_⟩
    rw [hR]
    have : ((List.range l.length).findSome? fun i : Nat => (l[i]?).bind fun x : Class => if clAt l x.Name = (i : Int) then none else some (6 : Int)) = none := by
      rw [List.findSome?_eq_none_iff]
      intro i hi
      obtain ⟨x, hx⟩ : ∃ x, l[i]? = some x := ⟨l[i]'(by simpa using hi), List.getElem?_eq_getElem _⟩
      rw [hx, Option.bind_some, if_pos (once_clAt hO hx)]
    rw [this]; rfl
  · right
    refine ⟨hO, h1, ?_⟩
    rw [hR]
    cases hf : ((List.range l.length).findSome? fun i : Nat => (l[i]?).bind fun x : Class => if clAt l x.Name = (i : Int) then none else some (6 : Int)) with
    | some e =>
      obtain ⟨i, _, hi⟩ := List.exists_of_findSome?_eq_some hf
      cases hx : l[i]? with
      | none => rw [hx] at hi; cases hi
      | some x =>
        rw [hx, Option.bind_some] at hi
        split at hi
        · cases hi
        · injection hi with hi; subst hi; rfl
    | none =>
      exfalso
      apply hO
      have hall : ∀ (i : Nat) (x : Class), l[i]? = some x → clAt l x.Name = (i : Int) := by
        intro i x hx
        have := List.findSome?_eq_none_iff.1 hf i (by have := (List.getElem?_eq_some_iff.1 hx).1; simpa using this)
        rw [hx, Option.bind_some] at this
        split at this
        · assumption
        · cases this
      intro i j x y hx hy e
      have h1 := hall i x hx
      have h2 := hall j y hy
      rw [e] at h1
      omega
end Cin
