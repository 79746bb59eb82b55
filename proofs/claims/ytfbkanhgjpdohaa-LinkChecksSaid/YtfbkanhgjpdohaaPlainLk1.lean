/- Plain law, ground for the link laws: loops told by lists; what makes classes right. No program in sight. -/
import Derived.Test.YtfbkanhgjpdohaaPureL6
namespace Cin
theorem w64_id {n : Int} (h0 : -9223372036854775808 ≤ n) (h1 : n ≤ 9223372036854775807) : w64 n = n := by unfold w64; omega
theorem w64_up {i n : Nat} (hi : i < n) (hn : n ≤ 140737488355328) : w64 ((i : Int) + 1) = ((i + 1 : Nat) : Int) := by
  rw [w64_id (by omega) (by omega)]; omega
theorem idx_at {α : Type} {l : List α} {i : Nat} {x : α} (h : l[i]? = some x) : idx l (i : Int) = some x := by
  unfold idx; rw [if_pos (by omega)]; simpa using h
theorem lt_t {i n : Nat} (h : i < n) : decide ((i : Int) < (n : Int)) = true := decide_eq_true (by omega)
theorem lt_f (n : Nat) : decide ((n : Int) < (n : Int)) = false := decide_eq_false (by omega)
def wo {ρ : Type} : Option ρ → Way ρ Unit
  | some r => .out r
  | none => .go ()
def wm {ρ : Type} (o : Option ρ) (y : Option (Way ρ Unit)) : Option (Way ρ Unit) := match o with
  | some r => some (.out r)
  | none => y
/-- A loop over a list that is left at the first thing of which g says how. -/
theorem each {α ρ : Type} {l : List α} {L : Nat → Int → Option (Way ρ Unit)} (g : α → Option ρ) (hl : l.length ≤ 140737488355328)
    (hs : ∀ k (i : Nat) x, l[i]? = some x → L (k + 1) (i : Int) = wm (g x) (L k (w64 ((i : Int) + 1))))
    (he : ∀ k, L (k + 1) (l.length : Int) = some (.go ())) {F : Nat} (hF : l.length < F) : L F 0 = some (wo (l.findSome? g)) := by
  have key : ∀ (d i k : Nat), i + d = l.length → d < k → L k (i : Int) = some (wo ((l.drop i).findSome? g)) := by
    intro d
    induction d with
    | zero =>
      intro i k h hk
      obtain ⟨k, rfl⟩ : ∃ k', k = k' + 1 := ⟨k - 1, by omega⟩
      have hi : i = l.length := by omega
      subst hi
      rw [he]; simp [wo]
    | succ d ih =>
      intro i k h hk
      obtain ⟨k, rfl⟩ : ∃ k', k = k' + 1 := ⟨k - 1, by omega⟩
      have hi : i < l.length := by omega
      rw [hs k i l[i] (List.getElem?_eq_getElem hi), List.drop_eq_getElem_cons hi, List.findSome?_cons]
      cases hg : g l[i] with
      | some r => rfl
      | none =>
        simp only [wm]
        rw [w64_up hi hl]
        exact ih (i + 1) k (by omega) (by omega)
  have := key l.length 0 F (by omega) hF
  simpa using this
/-- The same where the place is looked at too. -/
theorem eachN {ρ : Type} {n : Nat} {L : Nat → Int → Option (Way ρ Unit)} (g : Nat → Option ρ) (hl : n ≤ 140737488355328)
    (hs : ∀ k (i : Nat), i < n → L (k + 1) (i : Int) = wm (g i) (L k (w64 ((i : Int) + 1))))
    (he : ∀ k, L (k + 1) (n : Int) = some (.go ())) {F : Nat} (hF : n < F) : L F 0 = some (wo ((List.range n).findSome? g)) := by
  have h := each (l := List.range n) (L := L) g (by simpa using hl) (fun k i x hx => by
    have hi : i < n := by have := (List.getElem?_eq_some_iff.1 hx).1; simpa using this
    rw [List.getElem?_range hi] at hx
    simp only [Option.some.injEq] at hx
    subst hx
    exact hs k i hi) (fun k => by simpa using he k) (F := F) (by simpa using hF)
  exact h
/-- A loop that goes through. -/
theorem loopS {σ : Type} {n : Nat} (T : Nat → Nat → Option σ) (fin : σ) (hs : ∀ k i, i < n → T (k + 1) i = T k (i + 1)) (he : ∀ k, T (k + 1) n = some fin) {F : Nat} (hF : n < F) : T F 0 = some fin := by
  have key : ∀ (d i k : Nat), i + d = n → d < k → T k i = some fin := by
    intro d
    induction d with
    | zero =>
      intro i k h hk
      obtain ⟨k, rfl⟩ : ∃ k', k = k' + 1 := ⟨k - 1, by omega⟩
      have hi : i = n := by omega
      subst hi
      exact he k
    | succ d ih =>
      intro i k h hk
      obtain ⟨k, rfl⟩ : ∃ k', k = k' + 1 := ⟨k - 1, by omega⟩
      rw [hs k i (by omega)]
      exact ih (i + 1) k (by omega) (by omega)
  exact key n 0 F (by omega) hF

/-! ### Names, kinds, methods, classes -/
abbrev Small (F n : Nat) : Prop := n ≤ 140737488355328 ∧ n < F
def chr (b : UInt8) : Bool := ((((decide (97 ≤ (b.toNat : Int))) && (decide ((b.toNat : Int) ≤ 122))) || ((decide (65 ≤ (b.toNat : Int))) && (decide ((b.toNat : Int) ≤ 90)))) || ((decide (48 ≤ (b.toNat : Int))) && (decide ((b.toNat : Int) ≤ 57)))) || (decide ((b.toNat : Int) = 95))
def isNm (s : List UInt8) : Bool := (s.findSome? fun b => if chr b then none else some ()).isNone && decide (s ≠ []) && decide (s.length ≤ 20)
theorem R_IsName_eq {F : Nat} {s : List UInt8} (h : Small F s.length) : R_IsName F s = some (isNm s) := by
  unfold R_IsName
  have l1 := each (l := s) (L := R_IsName_L1 s) (fun b => if chr b then none else some false) h.1 (fun k i x hx => by
    rw [R_IsName_L1, lt_t (List.getElem?_eq_some_iff.1 hx).1, cond_true, idx_at hx, Option.bind_some]
    show cond (!chr x) _ _ = _
    cases chr x <;> rfl) (fun k => by rw [R_IsName_L1, lt_f]; rfl) h.2
  rw [l1]
  unfold isNm
  have e : ∀ s : List UInt8, s.findSome? (fun b => if chr b then none else some false) = (s.findSome? (fun b => if chr b then none else some ())).map (fun _ => false) := by
    intro s
    induction s with
    | nil => rfl
    | cons b r ih => simp only [List.findSome?_cons]; cases chr b <;> simp [ih]
  rw [e]
  cases s.findSome? (fun b => if chr b then none else some ()) with
  | some _ => rfl
  | none =>
    simp only [Option.map_none, wo, seqR_go, Option.isNone_none, Bool.true_and]
    congr 1
    rw [Bool.eq_iff_iff]
    cases s <;> first | (simp; done) | (simp; omega)
theorem image_IsName_eq {F : Nat} {s : List UInt8} (h : Small F s.length) : image_IsName F s = some (isNm s) := by
  rw [← R_IsName_eq h]
  unfold image_IsName R_IsName bytesOf
  rw [if_pos h.1, Option.bind_some]
  have e : ∀ k n, image_IsName_L1 s k n = R_IsName_L1 s k n := by
    intro k
    induction k with
    | zero => intro n; rfl
    | succ k ih =>
      intro n
      rw [image_IsName_L1, R_IsName_L1]
      simp only [ih]
      congr 1
      congr 1
      funext b
      have hc : (((((decide ((b.toNat : Int) < 97)) || (decide (122 < (b.toNat : Int)))) && ((decide ((b.toNat : Int) < 65)) || (decide (90 < (b.toNat : Int))))) && ((decide ((b.toNat : Int) < 48)) || (decide (57 < (b.toNat : Int))))) && (!decide ((b.toNat : Int) = 95))) = !chr b := by
        unfold chr
        rw [Bool.eq_iff_iff]
        first | (simp; done) | (simp; omega)
      rw [hc]; rfl
  rw [e]
  cases R_IsName_L1 s F 0 with
  | none => rfl
  | some w =>
    cases w with
    | out r => rfl
    | go u =>
      simp only [seqR_go]
      congr 1
      rw [Bool.eq_iff_iff]
      cases s <;> first | (simp; done) | (simp; omega)
def kindOk (k : Kind) : Bool := if k.Kind = 3 ∨ k.Kind = 4 then isNm k.Class else (decide (k.Kind = 1) || decide (k.Kind = 2)) && decide (k.Class = [])
theorem image_isKind_eq {F : Nat} {k : Kind} (h : Small F k.Class.length) : image_isKind F k = some (kindOk k) := by
  unfold image_isKind image_named kindOk
  simp only [Option.bind_some, image_IsName_eq h]
  by_cases h3 : k.Kind = 3 ∨ k.Kind = 4
  · rw [if_pos h3]
    rcases h3 with e | e <;> simp [e]
  · rw [if_neg h3]
    have e3 : ¬ k.Kind = 3 := fun e => h3 (.inl e)
    have e4 : ¬ k.Kind = 4 := fun e => h3 (.inr e)
    simp [e3, e4]
theorem R_RightKind_eq {F : Nat} {k : Kind} (h : Small F k.Class.length) : R_RightKind F k = some (kindOk k) := by
  unfold R_RightKind kindOk
  simp only [R_IsName_eq h, Option.bind_some]
  by_cases h3 : k.Kind = 3 ∨ k.Kind = 4
  · rw [if_pos h3]
    rcases h3 with e | e <;> simp [e]
  · rw [if_neg h3]
    have e3 : ¬ k.Kind = 3 := fun e => h3 (.inl e)
    have e4 : ¬ k.Kind = 4 := fun e => h3 (.inr e)
    by_cases h1 : k.Kind = 1
    · simp [h1]
    · by_cases h2 : k.Kind = 2
      · simp [h2]
      · simp [e3, e4, h1, h2]
def wi (n a b : Int) : Bool := decide (a ≤ n) && decide (n ≤ b)
def hErr (h : Handler) : Option Int := if isNm h.Class then (if wi h.From 0 200 && wi h.To 0 200 && wi h.At 0 200 then none else some 3) else some 1
def kErr (k : Kind) : Option Int := if kindOk k then none else some 7
def mErr (m : Method) : Int :=
  if isNm m.Name then
    if 4 < m.Args.length ∨ 200 < m.Code.length ∨ 4 < m.Handlers.length then 2
    else if wi m.Stack 0 10 && wi m.Locals 0 10 then
      match m.Args.findSome? kErr with
      | some e => e
      | none => if m.Returns = ⟨0, []⟩ ∨ kindOk m.Returns = true then (m.Handlers.findSome? hErr).getD 0 else 7
    else 3
  else 1
/-- No text or list is longer than a machine bears. -/
structure Method.Fits (F : Nat) (m : Method) : Prop where
  name : Small F m.Name.length
  args : Small F m.Args.length
  arg : ∀ k ∈ m.Args, Small F k.Class.length
  ret : Small F m.Returns.Class.length
  hands : Small F m.Handlers.length
  hand : ∀ h ∈ m.Handlers, Small F h.Class.length
structure Class.Fits (F : Nat) (c : Class) : Prop where
  name : Small F c.Name.length
  super : Small F c.Super.length
  fields : Small F c.Fields.length
  field : ∀ f ∈ c.Fields, Small F f.Name.length ∧ Small F f.Kind.Class.length
  methods : Small F c.Methods.length
  method : ∀ m ∈ c.Methods, m.Fits F
def Fits (F : Nat) (l : List Class) : Prop := Small F l.length ∧ ∀ c ∈ l, c.Fits F

theorem way_getD {F : Nat} (o : Option Int) (d : Int) : seqR (α := Unit) (some (wo o)) (fun _ => some d) = some (o.getD d) := by cases o <;> rfl
theorem way_seq {o : Option Int} {k : Option Int} : seqR (α := Unit) (some (wo o)) (fun _ => k) = (match o with | some e => some e | none => k) := by cases o <;> rfl
theorem image_method_eq {F : Nat} {m : Method} (h : m.Fits F) : image_method F m = some (mErr m) := by
  have l1 : image_method_L1 F m F 0 = some (wo (m.Args.findSome? kErr)) := each kErr h.args.1 (fun k i x hx => by
    rw [image_method_L1, lt_t (List.getElem?_eq_some_iff.1 hx).1, cond_true, idx_at hx, Option.bind_some, image_isKind_eq (h.arg x (List.mem_of_getElem? hx)), Option.bind_some]
    unfold kErr
    show cond (!kindOk x) _ _ = _
    cases kindOk x <;> rfl) (fun k => by rw [image_method_L1, lt_f]; rfl) h.args.2
  have hl : ∀ {x : Handler} (_ : x ∈ m.Handlers) (Y : Option (Way Int Unit)), ((image_IsName F x.Class).bind fun r204_ =>
    cond (!r204_) (some (.out 1)) ((image_within x.From 0 200).bind fun r207_ =>
    cond (!r207_) (some (.out 3)) ((image_within x.To 0 200).bind fun r210_ =>
    cond (!r210_) (some (.out 3)) ((image_within x.At 0 200).bind fun r213_ =>
    cond (!r213_) (some (.out 3)) Y)))) = wm (hErr x) Y := by
    intro x hx Y
    rw [image_IsName_eq (h.hand x hx)]
    unfold hErr image_within
    simp only [Option.bind_some]
    show cond (!isNm x.Class) _ (cond (!wi x.From 0 200) _ (cond (!wi x.To 0 200) _ (cond (!wi x.At 0 200) _ _))) = _
    cases isNm x.Class <;> cases wi x.From 0 200 <;> cases wi x.To 0 200 <;> cases wi x.At 0 200 <;> rfl
  have l2 : image_method_L2 F m F 0 = some (wo (m.Handlers.findSome? hErr)) := each hErr h.hands.1 (fun k i x hx => by
    rw [image_method_L2, lt_t (List.getElem?_eq_some_iff.1 hx).1, cond_true, idx_at hx, Option.bind_some]
    exact hl (List.mem_of_getElem? hx) _) (fun k => by rw [image_method_L2, lt_f]; rfl) h.hands.2
  have l3 : image_method_L3 F m F 0 = some (wo (m.Handlers.findSome? hErr)) := each hErr h.hands.1 (fun k i x hx => by
    rw [image_method_L3, lt_t (List.getElem?_eq_some_iff.1 hx).1, cond_true, idx_at hx, Option.bind_some]
    exact hl (List.mem_of_getElem? hx) _) (fun k => by rw [image_method_L3, lt_f]; rfl) h.hands.2
  unfold image_method image_within mErr
  rw [image_IsName_eq h.name, l1, l2, l3]
  have hk := image_isKind_eq (F := F) (k := (⟨m.Returns.Kind, m.Returns.Class⟩ : Kind)) h.ret
  simp only [Option.bind_some, hk, way_getD (F := F), way_seq]
  cases isNm m.Name with
  | false => rfl
  | true =>
    simp only [Bool.not_true, cond_false, if_true]
    by_cases hm : 4 < m.Args.length ∨ 200 < m.Code.length ∨ 4 < m.Handlers.length
    · rw [if_pos hm]
      have : ((decide (4 < (m.Args.length : Int))) || (decide (200 < (m.Code.length : Int))) || (decide (4 < (m.Handlers.length : Int)))) = true := by
        simp; omega
      rw [this]; rfl
    · rw [if_neg hm]
      have : ((decide (4 < (m.Args.length : Int))) || (decide (200 < (m.Code.length : Int))) || (decide (4 < (m.Handlers.length : Int)))) = false := by
        simp; omega
      rw [this]
      show cond (!wi m.Stack 0 10) _ (cond (!wi m.Locals 0 10) _ _) = _
      cases wi m.Stack 0 10 <;> cases wi m.Locals 0 10 <;> try rfl
      simp only [Bool.not_true, cond_false, Bool.and_self, if_true]
      cases m.Args.findSome? kErr with
      | some e => rfl
      | none =>
        simp only
        by_cases hr : m.Returns = ⟨0, []⟩
        · rw [if_pos (.inl hr), show (decide ((⟨m.Returns.Kind, m.Returns.Class⟩ : Kind) = ⟨0, []⟩)) = true from decide_eq_true hr]
          rfl
        · rw [show (decide ((⟨m.Returns.Kind, m.Returns.Class⟩ : Kind) = ⟨0, []⟩)) = false from decide_eq_false hr]
          simp only [Bool.not_false, cond_true]
          show cond (!kindOk m.Returns) _ _ = _
          cases hkk : kindOk m.Returns with
          | true => rw [if_pos (.inr rfl)]; rfl
          | false => rw [if_neg (by simp [hr])]; rfl
theorem R_CheckMethod_eq {F : Nat} {m : Method} (h : m.Fits F) : R_CheckMethod F m = some (mErr m) := by
  have l1 : R_CheckMethod_L1 F m F 0 = some (wo (m.Args.findSome? kErr)) := each kErr h.args.1 (fun k i x hx => by
    rw [R_CheckMethod_L1, lt_t (List.getElem?_eq_some_iff.1 hx).1, cond_true, idx_at hx, Option.bind_some, R_RightKind_eq (h.arg x (List.mem_of_getElem? hx)), Option.bind_some]
    unfold kErr
    cases kindOk x <;> rfl) (fun k => by rw [R_CheckMethod_L1, lt_f]; rfl) h.args.2
  have l2 : R_CheckMethod_L2 F m F 0 = some (wo (m.Handlers.findSome? hErr)) := each hErr h.hands.1 (fun k i x hx => by
    rw [R_CheckMethod_L2, lt_t (List.getElem?_eq_some_iff.1 hx).1, cond_true, idx_at hx, Option.bind_some, R_IsName_eq (h.hand x (List.mem_of_getElem? hx))]
    unfold hErr R_between
    simp only [Option.bind_some]
    show cond (!isNm x.Class) _ (cond (!wi x.From 0 200) _ (cond (!wi x.To 0 200) _ (cond (!wi x.At 0 200) _ _))) = _
    cases isNm x.Class <;> cases wi x.From 0 200 <;> cases wi x.To 0 200 <;> cases wi x.At 0 200 <;> rfl) (fun k => by rw [R_CheckMethod_L2, lt_f]; rfl) h.hands.2
  unfold R_CheckMethod R_between mErr
  rw [R_IsName_eq h.name, l1, l2]
  have hk := R_RightKind_eq (F := F) (k := (⟨m.Returns.Kind, m.Returns.Class⟩ : Kind)) h.ret
  simp only [Option.bind_some, hk, way_getD (F := F), way_seq]
  cases isNm m.Name with
  | false => rfl
  | true =>
    simp only [Bool.not_true, cond_false, if_true]
    by_cases hm : 4 < m.Args.length ∨ 200 < m.Code.length ∨ 4 < m.Handlers.length
    · rw [if_pos hm]
      have : ((decide (4 < (m.Args.length : Int))) || (decide (200 < (m.Code.length : Int))) || (decide (4 < (m.Handlers.length : Int)))) = true := by
        simp; omega
      rw [this]; rfl
    · rw [if_neg hm]
      have : ((decide (4 < (m.Args.length : Int))) || (decide (200 < (m.Code.length : Int))) || (decide (4 < (m.Handlers.length : Int)))) = false := by
        simp; omega
      rw [this]
      show cond (!wi m.Stack 0 10) _ (cond (!wi m.Locals 0 10) _ _) = _
      cases wi m.Stack 0 10 <;> cases wi m.Locals 0 10 <;> try rfl
      simp only [Bool.not_true, cond_false, Bool.and_self, if_true]
      cases m.Args.findSome? kErr with
      | some e => rfl
      | none =>
        simp only
        show cond ((!kindOk m.Returns) && _) _ _ = _
        by_cases hr : m.Returns = ⟨0, []⟩
        · rw [if_pos (.inl hr), hr]
          simp
        · have hne : ((!decide (m.Returns.Kind = 0)) || (!decide (m.Returns.Class = []))) = true := by
            rcases hh : m.Returns with ⟨a, b⟩
            rw [hh] at hr
            by_cases ha : a = 0
            · by_cases hb : b = []
              · subst ha; subst hb; exact absurd rfl hr
              · simp [hb]
            · simp [ha]
          rw [hne]
          cases hkk : kindOk m.Returns with
          | true => rw [if_pos (.inr rfl)]; rfl
          | false => rw [if_neg (by simp [hr])]; rfl
end Cin
