/- Plain law, the link laws: both checks of classes say the same. No program in sight. -/
import Derived.Test.YtfbkanhgjpdohaaPlainLk1
namespace Cin
def fErr (f : Field) : Option Int := if isNm f.Name then (if kindOk f.Kind then none else some 7) else some 1
def nz (e : Int) : Option Int := if e = 0 then none else some e
def mE (m : Method) : Option Int := nz (mErr m)
def cErr (c : Class) : Int :=
  if isNm c.Name && (decide (c.Super = []) || isNm c.Super) then
    if 6 < c.Fields.length ∨ 8 < c.Methods.length then 2
    else (c.Fields.findSome? fErr).getD ((c.Methods.findSome? mE).getD 0)
  else 1
def cE (c : Class) : Option Int := nz (cErr c)
def chk (l : List Class) : Int := if 10 < l.length then 2 else (l.findSome? cE).getD 0
def om {ρ : Type} (o : Option ρ) (y : Option ρ) : Option ρ := match o with
  | some e => some e
  | none => y
theorem nz_wm {e : Int} {Y : Option (Way Int Unit)} : cond (!decide (e = 0)) (some (.out e)) Y = wm (nz e) Y := by
  unfold nz wm
  by_cases h : e = 0
  · rw [if_pos h, decide_eq_true h]; rfl
  · rw [if_neg h, decide_eq_false h]; rfl
theorem dec2 {a b : Nat} (x y : Nat) : ((decide ((x : Int) < (a : Int))) || (decide ((y : Int) < (b : Int)))) = decide (x < a ∨ y < b) := by
  rw [Bool.eq_iff_iff]; simp
theorem so_wo {o : Option Int} {k : Unit → Option (Way Int Unit)} : seqO (α := Unit) (some (wo o)) k = wm o (k ()) := by cases o <;> rfl
theorem sr_wo {ρ : Type} {o : Option ρ} {k : Unit → Option ρ} : seqR (α := Unit) (some (wo o)) k = om o (k ()) := by cases o <;> rfl
theorem so_wm {o : Option Int} {Y : Option (Way Int Unit)} {k : Unit → Option (Way Int Unit)} : seqO (α := Unit) (wm o Y) k = wm o (seqO (α := Unit) Y k) := by cases o <;> rfl
section
variable {F : Nat}
theorem image_class_eq {c : Class} (h : c.Fits F) : image_class F c = some (cErr c) := by
  have hf : ∀ {x : Field} (_ : x ∈ c.Fields) (Y : Option (Way Int Unit)), ((image_IsName F x.Name).bind fun r97_ =>
    cond (!r97_) (some (.out 1)) ((image_isKind F (⟨x.Kind.Kind, x.Kind.Class⟩ : Kind)).bind fun r100_ =>
    cond (!r100_) (some (.out 7)) Y)) = wm (fErr x) Y := by
    intro x hx Y
    rw [image_IsName_eq (h.field x hx).1, image_isKind_eq (k := (⟨x.Kind.Kind, x.Kind.Class⟩ : Kind)) (h.field x hx).2]
    unfold fErr
    simp only [Option.bind_some]
    show cond (!isNm x.Name) _ (cond (!kindOk x.Kind) _ _) = _
    cases isNm x.Name <;> cases kindOk x.Kind <;> rfl
  have hm : ∀ {x : Method} (_ : x ∈ c.Methods) (Y : Option (Way Int Unit)), ((image_method F (⟨x.Name, x.Static, x.Args, (⟨x.Returns.Kind, x.Returns.Class⟩ : Kind), x.Stack, x.Locals, x.Code, x.Handlers⟩ : Method)).bind fun r207_ =>
    cond (!decide (r207_ = 0)) (some (.out r207_)) Y) = wm (mE x) Y := by
    intro x hx Y
    have := image_method_eq (F := F) (m := (⟨x.Name, x.Static, x.Args, (⟨x.Returns.Kind, x.Returns.Class⟩ : Kind), x.Stack, x.Locals, x.Code, x.Handlers⟩ : Method)) (h.method x hx)
    rw [this, Option.bind_some]
    exact nz_wm
  have l1 : image_class_L1 F c F 0 = some (wo (c.Fields.findSome? fErr)) := each fErr h.fields.1 (fun k i x hx => by
    rw [image_class_L1, lt_t (List.getElem?_eq_some_iff.1 hx).1, cond_true, idx_at hx, Option.bind_some]; exact hf (List.mem_of_getElem? hx) _) (fun k => by rw [image_class_L1, lt_f]; rfl) h.fields.2
  have l3 : image_class_L3 F c F 0 = some (wo (c.Fields.findSome? fErr)) := each fErr h.fields.1 (fun k i x hx => by
    rw [image_class_L3, lt_t (List.getElem?_eq_some_iff.1 hx).1, cond_true, idx_at hx, Option.bind_some]; exact hf (List.mem_of_getElem? hx) _) (fun k => by rw [image_class_L3, lt_f]; rfl) h.fields.2
  have l2 : image_class_L2 F c F 0 = some (wo (c.Methods.findSome? mE)) := each mE h.methods.1 (fun k i x hx => by
    rw [image_class_L2, lt_t (List.getElem?_eq_some_iff.1 hx).1, cond_true, idx_at hx, Option.bind_some]; exact hm (List.mem_of_getElem? hx) _) (fun k => by rw [image_class_L2, lt_f]; rfl) h.methods.2
  have l4 : image_class_L4 F c F 0 = some (wo (c.Methods.findSome? mE)) := each mE h.methods.1 (fun k i x hx => by
    rw [image_class_L4, lt_t (List.getElem?_eq_some_iff.1 hx).1, cond_true, idx_at hx, Option.bind_some]; exact hm (List.mem_of_getElem? hx) _) (fun k => by rw [image_class_L4, lt_f]; rfl) h.methods.2
  unfold image_class cErr
  rw [image_IsName_eq h.name, image_IsName_eq h.super, l1, l2, l3, l4]
  simp only [Option.bind_some, sr_wo, show (6 : Int) = ((6 : Nat) : Int) from rfl, show (8 : Int) = ((8 : Nat) : Int) from rfl, dec2]
  cases isNm c.Name with
  | false => rfl
  | true =>
    simp only [Bool.not_true, cond_false, Bool.true_and]
    have hrest : ∀ p : Bool, p = decide (6 < c.Fields.length ∨ 8 < c.Methods.length) → cond p (some (2 : Int)) (om (c.Fields.findSome? fErr) (om (c.Methods.findSome? mE) (some 0))) =
        some (if 6 < c.Fields.length ∨ 8 < c.Methods.length then 2 else (c.Fields.findSome? fErr).getD ((c.Methods.findSome? mE).getD 0)) := by
      intro p hp
      subst hp
      by_cases hh : 6 < c.Fields.length ∨ 8 < c.Methods.length
      · rw [if_pos hh, decide_eq_true hh]; rfl
      · rw [if_neg hh, decide_eq_false hh]
        cases c.Fields.findSome? fErr with
        | some e => rfl
        | none => cases c.Methods.findSome? mE <;> rfl
    by_cases hs : c.Super = []
    · rw [decide_eq_true hs]
      simp only [Bool.not_true, cond_false, Bool.true_or, if_true]
      exact hrest _ rfl
    · rw [decide_eq_false hs]
      simp only [Bool.not_false, cond_true, Bool.false_or]
      cases isNm c.Super with
      | false => rfl
      | true =>
        simp only [Bool.not_true, cond_false, if_true]
        exact hrest _ rfl
theorem image_Check_eq {l : List Class} (h : Fits F l) : image_Check F l = some (chk l) := by
  have l1 : image_Check_L1 F l F 0 = some (wo (l.findSome? cE)) := each cE h.1.1 (fun k i x hx => by
    rw [image_Check_L1, lt_t (List.getElem?_eq_some_iff.1 hx).1, cond_true, idx_at hx, Option.bind_some, image_class_eq (c := (⟨x.Name, x.Super, x.Fields, x.Methods⟩ : Class)) (h.2 x (List.mem_of_getElem? hx)), Option.bind_some]
    exact nz_wm) (fun k => by rw [image_Check_L1, lt_f]; rfl) h.1.2
  unfold image_Check chk
  rw [l1, sr_wo]
  by_cases hl : 10 < l.length
  · rw [if_pos hl, decide_eq_true (show (10 : Int) < (l.length : Int) by omega)]; rfl
  · rw [if_neg hl, decide_eq_false (show ¬ (10 : Int) < (l.length : Int) by omega)]
    cases l.findSome? cE <;> rfl
theorem R_CheckClasses_eq {l : List Class} (h : Fits F l) : R_CheckClasses F l = some (chk l) := by
  have body : ∀ {c : Class} (_ : c.Fits F) , R_CheckClasses_L2 F c F 0 = some (wo (c.Fields.findSome? fErr)) ∧ R_CheckClasses_L4 F c F 0 = some (wo (c.Fields.findSome? fErr)) ∧ R_CheckClasses_L3 F c F 0 = some (wo (c.Methods.findSome? mE)) ∧ R_CheckClasses_L5 F c F 0 = some (wo (c.Methods.findSome? mE)) := by
    intro c hc
    have hf : ∀ {x : Field} (_ : x ∈ c.Fields) (i : Int) (_ : idx c.Fields i = some x) (Y : Option (Way Int Unit)), ((R_IsName F x.Name).bind fun r97_ =>
      cond (!r97_) (some (.out 1)) ((idx c.Fields i).bind fun x => (R_RightKind F (⟨x.Kind.Kind, x.Kind.Class⟩ : Kind)).bind fun r100_ =>
      cond (!r100_) (some (.out 7)) Y)) = wm (fErr x) Y := by
      intro x hx i hi Y
      rw [R_IsName_eq (hc.field x hx).1, hi]
      unfold fErr
      simp only [Option.bind_some]
      rw [R_RightKind_eq (k := (⟨x.Kind.Kind, x.Kind.Class⟩ : Kind)) (hc.field x hx).2, Option.bind_some]
      show cond (!isNm x.Name) _ (cond (!kindOk x.Kind) _ _) = _
      cases isNm x.Name <;> cases kindOk x.Kind <;> rfl
    have hm : ∀ {x : Method} (_ : x ∈ c.Methods) (Y : Option (Way Int Unit)), ((R_CheckMethod F x).bind fun r207_ =>
      cond (!decide (r207_ = 0)) (some (.out r207_)) Y) = wm (mE x) Y := by
      intro x hx Y
      rw [R_CheckMethod_eq (hc.method x hx), Option.bind_some]
      exact nz_wm
    refine ⟨each fErr hc.fields.1 (fun k i x hx => ?_) (fun k => by rw [R_CheckClasses_L2, lt_f]; rfl) hc.fields.2, each fErr hc.fields.1 (fun k i x hx => ?_) (fun k => by rw [R_CheckClasses_L4, lt_f]; rfl) hc.fields.2,
      each mE hc.methods.1 (fun k i x hx => ?_) (fun k => by rw [R_CheckClasses_L3, lt_f]; rfl) hc.methods.2, each mE hc.methods.1 (fun k i x hx => ?_) (fun k => by rw [R_CheckClasses_L5, lt_f]; rfl) hc.methods.2⟩
    · rw [R_CheckClasses_L2, lt_t (List.getElem?_eq_some_iff.1 hx).1, cond_true, idx_at hx, Option.bind_some]; rw [← idx_at hx]; exact hf (List.mem_of_getElem? hx) _ (idx_at hx) _
    · rw [R_CheckClasses_L4, lt_t (List.getElem?_eq_some_iff.1 hx).1, cond_true, idx_at hx, Option.bind_some]; rw [← idx_at hx]; exact hf (List.mem_of_getElem? hx) _ (idx_at hx) _
    · rw [R_CheckClasses_L3, lt_t (List.getElem?_eq_some_iff.1 hx).1, cond_true, idx_at hx, Option.bind_some]; exact hm (List.mem_of_getElem? hx) _
    · rw [R_CheckClasses_L5, lt_t (List.getElem?_eq_some_iff.1 hx).1, cond_true, idx_at hx, Option.bind_some]; exact hm (List.mem_of_getElem? hx) _
  have l1 : R_CheckClasses_L1 F l F 0 = some (wo (l.findSome? cE)) := each cE h.1.1 (fun k i c hx => by
    have hc := h.2 c (List.mem_of_getElem? hx)
    obtain ⟨b2, b4, b3, b5⟩ := body hc
    rw [R_CheckClasses_L1, lt_t (List.getElem?_eq_some_iff.1 hx).1, cond_true, idx_at hx, Option.bind_some, R_IsName_eq hc.name, R_IsName_eq hc.super, b2, b3, b4, b5]
    simp only [Option.bind_some, so_wo, show (6 : Int) = ((6 : Nat) : Int) from rfl, show (8 : Int) = ((8 : Nat) : Int) from rfl, dec2]
    unfold cE cErr
    cases isNm c.Name with
    | false => rfl
    | true =>
      simp only [Bool.not_true, cond_false, Bool.true_and]
      have hrest : ∀ (p : Bool) (Y : Option (Way Int Unit)), p = decide (6 < c.Fields.length ∨ 8 < c.Methods.length) → seqO (α := Unit) (cond p (some (.out (2 : Int))) (wm (c.Fields.findSome? fErr) (wm (c.Methods.findSome? mE) (some (.go ()))))) (fun _ => Y) =
          wm (nz (if 6 < c.Fields.length ∨ 8 < c.Methods.length then 2 else (c.Fields.findSome? fErr).getD ((c.Methods.findSome? mE).getD 0))) Y := by
        intro p Y hp
        subst hp
        by_cases hh : 6 < c.Fields.length ∨ 8 < c.Methods.length
        · rw [if_pos hh, decide_eq_true hh]; rfl
        · rw [if_neg hh, decide_eq_false hh, cond_false]
          have hfe : ∀ e, c.Fields.findSome? fErr = some e → nz e = some e := by
            intro e he
            obtain ⟨x, _, hx⟩ := List.exists_of_findSome?_eq_some he
            unfold fErr at hx
            split at hx
            · split at hx
              · cases hx
              · injection hx with hx; subst hx; rfl
            · injection hx with hx; subst hx; rfl
          have hme : ∀ e, c.Methods.findSome? mE = some e → nz e = some e := by
            intro e he
            obtain ⟨x, _, hx⟩ := List.exists_of_findSome?_eq_some he
            unfold mE at hx
            unfold nz at hx ⊢
            split at hx
            · cases hx
            · rename_i hn; injection hx with hx; subst hx; rw [if_neg hn]
          cases hf : c.Fields.findSome? fErr with
          | some e => simp only [Option.getD_some, hfe e hf]; rfl
          | none =>
            cases hm : c.Methods.findSome? mE with
            | some e => simp only [Option.getD_some, Option.getD_none, hme e hm]; rfl
            | none => rfl
      by_cases hs : c.Super = []
      · rw [decide_eq_true hs]
        simp only [Bool.not_true, cond_false, Bool.true_or, if_true]
        exact hrest _ _ rfl
      · rw [decide_eq_false hs]
        simp only [Bool.not_false, cond_true, Bool.false_or]
        cases isNm c.Super with
        | false => rfl
        | true =>
          simp only [Bool.not_true, cond_false, if_true]
          exact hrest _ _ rfl) (fun k => by rw [R_CheckClasses_L1, lt_f]; rfl) h.1.2
  unfold R_CheckClasses chk
  rw [l1, sr_wo]
  by_cases hl : 10 < l.length
  · rw [if_pos hl, decide_eq_true (show (10 : Int) < (l.length : Int) by omega)]; rfl
  · rw [if_neg hl, decide_eq_false (show ¬ (10 : Int) < (l.length : Int) by omega)]
    cases l.findSome? cE <;> rfl
end
/-- Classes that are right. -/
structure Right (l : List Class) : Prop where
  len : l.length ≤ 10
  name : ∀ c ∈ l, isNm c.Name = true
  fields : ∀ c ∈ l, c.Fields.length ≤ 6
  methods : ∀ c ∈ l, c.Methods.length ≤ 8
  method : ∀ c ∈ l, ∀ m ∈ c.Methods, m.Args.length ≤ 4 ∧ m.Handlers.length ≤ 4
theorem mErr_zero {m : Method} (h : mErr m = 0) : m.Args.length ≤ 4 ∧ m.Handlers.length ≤ 4 := by
  unfold mErr at h
  split at h
  · split at h
    · exact absurd h (by decide)
    · rename_i h1; exact ⟨by omega, by omega⟩
  · exact absurd h (by decide)
theorem nz_none {e : Int} (h : nz e = none) : e = 0 := by
  unfold nz at h
  split at h
  · assumption
  · cases h
theorem nz_some {e x : Int} (h : nz e = some x) : x ≠ 0 := by
  unfold nz at h
  split at h
  · cases h
  · rename_i hz; injection h with h; subst h; exact hz
theorem isNm_ne {s : List UInt8} (h : isNm s = true) : s ≠ [] := by
  unfold isNm at h
  simp only [Bool.and_eq_true, decide_eq_true_eq] at h
  exact h.1.2
theorem chk_right {l : List Class} (h : chk l = 0) : Right l := by
  unfold chk at h
  by_cases hl : 10 < l.length
  · rw [if_pos hl] at h; exact absurd h (by decide)
  · rw [if_neg hl] at h
    have hn : ∀ c ∈ l, cErr c = 0 := by
      intro c hc
      cases hf : l.findSome? cE with
      | some e =>
        rw [hf] at h
        simp only [Option.getD_some] at h
        subst h
        obtain ⟨x, _, hx⟩ := List.exists_of_findSome?_eq_some hf
        unfold cE nz at hx
        split at hx
        · cases hx
        · rename_i hz; injection hx with hx; exact absurd hx hz
      | none =>
        have := List.findSome?_eq_none_iff.1 hf c hc
        unfold cE nz at this
        split at this
        · assumption
        · cases this
    have key : ∀ c ∈ l, isNm c.Name = true ∧ c.Fields.length ≤ 6 ∧ c.Methods.length ≤ 8 ∧ ∀ m ∈ c.Methods, m.Args.length ≤ 4 ∧ m.Handlers.length ≤ 4 := by
      intro c hc
      have h0 := hn c hc
      unfold cErr at h0
      split at h0
      · rename_i h1
        simp only [Bool.and_eq_true] at h1
        split at h0
        · exact absurd h0 (by decide)
        · rename_i h2
          refine ⟨h1.1, by omega, by omega, fun m hm => ?_⟩
          cases hf : c.Fields.findSome? fErr with
          | some e =>
            rw [hf] at h0
            simp only [Option.getD_some] at h0
            subst h0
            obtain ⟨x, _, hx⟩ := List.exists_of_findSome?_eq_some hf
            unfold fErr at hx
            split at hx
            · split at hx
              · cases hx
              · injection hx with hx; exact absurd hx (by decide)
            · injection hx with hx; exact absurd hx (by decide)
          | none =>
            rw [hf] at h0
            simp only [Option.getD_none] at h0
            cases hm' : c.Methods.findSome? mE with
            | some e =>
              rw [hm'] at h0
              simp only [Option.getD_some] at h0
              subst h0
              obtain ⟨x, _, hx⟩ := List.exists_of_findSome?_eq_some hm'
              exact absurd rfl (nz_some hx)
            | none => exact mErr_zero (nz_none (List.findSome?_eq_none_iff.1 hm' m hm))
      · exact absurd h0 (by decide)
    exact ⟨by omega, fun c hc => (key c hc).1, fun c hc => (key c hc).2.1, fun c hc => (key c hc).2.2.1, fun c hc => (key c hc).2.2.2⟩
end Cin
