/- LAW: THE WALK AND THE PLAIN LAW, JOINED TO THE GIVEN STATEMENT: for every input that the row speaks of, the call returns true and what came in reads as it did. Made by program (liftgen2.py). -/
import Derived.Test.YtfbkanhgjpdohaaZw3
import Derived.KernelRfl
import Derived.Test.YtfbkanhgjpdohaaRows
import Derived.WalkKit
import Derived.ProofKit
import Derived.OpenShut
import Derived.Deep.DeepHandedRow
namespace Cin
def fErr (f : Field) : Option Int := if isNm f.Name then (if kindOk f.Kind then none else some 7) else some 1
def nz (e : Int) : Option Int := if e = 0 then none else some e
def mE (m : Method) : Option Int := nz (mErr m)
def cErr (c : Class) : Int :=
  if isNm c.Name && (decide (c.Super = []) || isNm c.Super) then
    if 6 < c.Fields.length ∨ 8 < c.Methods.length then 2
    else (c.Fields.findSome? fErr).getD ((c.Methods.findSome? mE).getD 0)
  else 1
def cE (c : Class) : Option Int := nz (cErr c)
def chk (l : List Class) : Int := if 10 < l.length then 2 else (l.findSome? cE).getD 0
def om {ρ : Type} (o : Option ρ) (y : Option ρ) : Option ρ := match o with
  | some e => some e
  | none => y
theorem nz_wm {e : Int} {Y : Option (Way Int Unit)} : cond (!decide (e = 0)) (some (.out e)) Y = wm (nz e) Y := by
  unfold nz wm
  by_cases h : e = 0
  · rw [if_pos h, decide_eq_true h]; rfl
  · rw [if_neg h, decide_eq_false h]; rfl
theorem dec2 {a b : Nat} (x y : Nat) : ((decide ((x : Int) < (a : Int))) || (decide ((y : Int) < (b : Int)))) = decide (x < a ∨ y < b) := by
  rw [Bool.eq_iff_iff]; simp
theorem so_wo {o : Option Int} {k : Unit → Option (Way Int Unit)} : seqO (α := Unit) (some (wo o)) k = wm o (k ()) := by cases o <;> rfl
theorem sr_wo {ρ : Type} {o : Option ρ} {k : Unit → Option ρ} : seqR (α := Unit) (some (wo o)) k = om o (k ()) := by cases o <;> rfl
section
variable {F : Nat}
theorem image_class_eq {c : Class} (h : c.Fits F) : image_class F c = some (cErr c) := by
  have hf : ∀ {x : Field} (_ : x ∈ c.Fields) (Y : Option (Way Int Unit)), ((image_IsName F x.Name).bind fun r97_ =>
    cond (!r97_) (some (.out 1)) ((image_isKind F (⟨x.Kind.Kind, x.Kind.Class⟩ : Kind)).bind fun r100_ =>
    cond (!r100_) (some (.out 7)) Y)) = wm (fErr x) Y := by
    intro x hx Y
    rw [image_IsName_eq (h.field x hx).1, image_isKind_eq (k := (⟨x.Kind.Kind, x.Kind.Class⟩ : Kind)) (h.field x hx).2]
    unfold fErr
    simp only [Option.bind_some]
    show cond (!isNm x.Name) _ (cond (!kindOk x.Kind) _ _) = _
    cases isNm x.Name <;> cases kindOk x.Kind <;> rfl
  have hm : ∀ {x : Method} (_ : x ∈ c.Methods) (Y : Option (Way Int Unit)), ((image_method F (⟨x.Name, x.Static, x.Args, (⟨x.Returns.Kind, x.Returns.Class⟩ : Kind), x.Stack, x.Locals, x.Code, x.Handlers⟩ : Method)).bind fun r207_ =>
    cond (!decide (r207_ = 0)) (some (.out r207_)) Y) = wm (mE x) Y := by
    intro x hx Y
    have := image_method_eq (F := F) (m := (⟨x.Name, x.Static, x.Args, (⟨x.Returns.Kind, x.Returns.Class⟩ : Kind), x.Stack, x.Locals, x.Code, x.Handlers⟩ : Method)) (h.method x hx)
    rw [this, Option.bind_some]
    exact nz_wm
  have l1 : image_class_L1 F c F 0 = some (wo (c.Fields.findSome? fErr)) := each fErr h.fields.1 (fun k i x hx => by
    rw [image_class_L1, lt_t (List.getElem?_eq_some_iff.1 hx).1, cond_true, idx_at hx, Option.bind_some]; exact hf (List.mem_of_getElem? hx) _) (fun k => by rw [image_class_L1, lt_f]; rfl) h.fields.2
  have l3 : image_class_L3 F c F 0 = some (wo (c.Fields.findSome? fErr)) := each fErr h.fields.1 (fun k i x hx => by
    rw [image_class_L3, lt_t (List.getElem?_eq_some_iff.1 hx).1, cond_true, idx_at hx, Option.bind_some]; exact hf (List.mem_of_getElem? hx) _) (fun k => by rw [image_class_L3, lt_f]; rfl) h.fields.2
  have l2 : image_class_L2 F c F 0 = some (wo (c.Methods.findSome? mE)) := each mE h.methods.1 (fun k i x hx => by
    rw [image_class_L2, lt_t (List.getElem?_eq_some_iff.1 hx).1, cond_true, idx_at hx, Option.bind_some]; exact hm (List.mem_of_getElem? hx) _) (fun k => by rw [image_class_L2, lt_f]; rfl) h.methods.2
  have l4 : image_class_L4 F c F 0 = some (wo (c.Methods.findSome? mE)) := each mE h.methods.1 (fun k i x hx => by
    rw [image_class_L4, lt_t (List.getElem?_eq_some_iff.1 hx).1, cond_true, idx_at hx, Option.bind_some]; exact hm (List.mem_of_getElem? hx) _) (fun k => by rw [image_class_L4, lt_f]; rfl) h.methods.2
  unfold image_class cErr
  rw [image_IsName_eq h.name, image_IsName_eq h.super, l1, l2, l3, l4]
  simp only [Option.bind_some, sr_wo, show (6 : Int) = ((6 : Nat) : Int) from rfl, show (8 : Int) = ((8 : Nat) : Int) from rfl, dec2]
  cases isNm c.Name with
  | false => rfl
  | true =>
    simp only [Bool.not_true, cond_false, Bool.true_and]
    have hrest : ∀ p : Bool, p = decide (6 < c.Fields.length ∨ 8 < c.Methods.length) → cond p (some (2 : Int)) (om (c.Fields.findSome? fErr) (om (c.Methods.findSome? mE) (some 0))) =
        some (if 6 < c.Fields.length ∨ 8 < c.Methods.length then 2 else (c.Fields.findSome? fErr).getD ((c.Methods.findSome? mE).getD 0)) := by
      intro p hp
      subst hp
      by_cases hh : 6 < c.Fields.length ∨ 8 < c.Methods.length
      · rw [if_pos hh, decide_eq_true hh]; rfl
      · rw [if_neg hh, decide_eq_false hh]
        cases c.Fields.findSome? fErr with
        | some e => rfl
        | none => cases c.Methods.findSome? mE <;> rfl
    by_cases hs : c.Super = []
    · rw [decide_eq_true hs]
      simp only [Bool.not_true, cond_false, Bool.true_or, if_true]
      exact hrest _ rfl
    · rw [decide_eq_false hs]
      simp only [Bool.not_false, cond_true, Bool.false_or]
      cases isNm c.Super with
      | false => rfl
      | true =>
        simp only [Bool.not_true, cond_false, if_true]
        exact hrest _ rfl
theorem image_Check_eq {l : List Class} (h : Fits F l) : image_Check F l = some (chk l) := by
  have l1 : image_Check_L1 F l F 0 = some (wo (l.findSome? cE)) := each cE h.1.1 (fun k i x hx => by
    rw [image_Check_L1, lt_t (List.getElem?_eq_some_iff.1 hx).1, cond_true, idx_at hx, Option.bind_some, image_class_eq (c := (⟨x.Name, x.Super, x.Fields, x.Methods⟩ : Class)) (h.2 x (List.mem_of_getElem? hx)), Option.bind_some]
    exact nz_wm) (fun k => by rw [image_Check_L1, lt_f]; rfl) h.1.2
  unfold image_Check chk
  rw [l1, sr_wo]
  by_cases hl : 10 < l.length
  · rw [if_pos hl, decide_eq_true (show (10 : Int) < (l.length : Int) by omega)]; rfl
  · rw [if_neg hl, decide_eq_false (show ¬ (10 : Int) < (l.length : Int) by omega)]
    cases l.findSome? cE <;> rfl
theorem R_CheckClasses_eq {l : List Class} (h : Fits F l) : R_CheckClasses F l = some (chk l) := by
  have body : ∀ {c : Class} (_ : c.Fits F) , R_CheckClasses_L2 F c F 0 = some (wo (c.Fields.findSome? fErr)) ∧ R_CheckClasses_L4 F c F 0 = some (wo (c.Fields.findSome? fErr)) ∧ R_CheckClasses_L3 F c F 0 = some (wo (c.Methods.findSome? mE)) ∧ R_CheckClasses_L5 F c F 0 = some (wo (c.Methods.findSome? mE)) := by
    intro c hc
    have hf : ∀ {x : Field} (_ : x ∈ c.Fields) (i : Int) (_ : idx c.Fields i = some x) (Y : Option (Way Int Unit)), ((R_IsName F x.Name).bind fun r97_ =>
      cond (!r97_) (some (.out 1)) ((idx c.Fields i).bind fun x => (R_RightKind F (⟨x.Kind.Kind, x.Kind.Class⟩ : Kind)).bind fun r100_ =>
      cond (!r100_) (some (.out 7)) Y)) = wm (fErr x) Y := by
      intro x hx i hi Y
      rw [R_IsName_eq (hc.field x hx).1, hi]
      unfold fErr
      simp only [Option.bind_some]
      rw [R_RightKind_eq (k := (⟨x.Kind.Kind, x.Kind.Class⟩ : Kind)) (hc.field x hx).2, Option.bind_some]
      show cond (!isNm x.Name) _ (cond (!kindOk x.Kind) _ _) = _
      cases isNm x.Name <;> cases kindOk x.Kind <;> rfl
    have hm : ∀ {x : Method} (_ : x ∈ c.Methods) (Y : Option (Way Int Unit)), ((R_CheckMethod F x).bind fun r207_ =>
      cond (!decide (r207_ = 0)) (some (.out r207_)) Y) = wm (mE x) Y := by
      intro x hx Y
      rw [R_CheckMethod_eq (hc.method x hx), Option.bind_some]
      exact nz_wm
    refine ⟨each fErr hc.fields.1 (fun k i x hx => ?_) (fun k => by rw [R_CheckClasses_L2, lt_f]; rfl) hc.fields.2, each fErr hc.fields.1 (fun k i x hx => ?_) (fun k => by rw [R_CheckClasses_L4, lt_f]; rfl) hc.fields.2,
      each mE hc.methods.1 (fun k i x hx => ?_) (fun k => by rw [R_CheckClasses_L3, lt_f]; rfl) hc.methods.2, each mE hc.methods.1 (fun k i x hx => ?_) (fun k => by rw [R_CheckClasses_L5, lt_f]; rfl) hc.methods.2⟩
    · rw [R_CheckClasses_L2, lt_t (List.getElem?_eq_some_iff.1 hx).1, cond_true, idx_at hx, Option.bind_some]; rw [← idx_at hx]; exact hf (List.mem_of_getElem? hx) _ (idx_at hx) _
    · rw [R_CheckClasses_L4, lt_t (List.getElem?_eq_some_iff.1 hx).1, cond_true, idx_at hx, Option.bind_some]; rw [← idx_at hx]; exact hf (List.mem_of_getElem? hx) _ (idx_at hx) _
    · rw [R_CheckClasses_L3, lt_t (List.getElem?_eq_some_iff.1 hx).1, cond_true, idx_at hx, Option.bind_some]; exact hm (List.mem_of_getElem? hx) _
    · rw [R_CheckClasses_L5, lt_t (List.getElem?_eq_some_iff.1 hx).1, cond_true, idx_at hx, Option.bind_some]; exact hm (List.mem_of_getElem? hx) _
  have l1 : R_CheckClasses_L1 F l F 0 = some (wo (l.findSome? cE)) := each cE h.1.1 (fun k i c hx => by
    have hc := h.2 c (List.mem_of_getElem? hx)
    obtain ⟨b2, b4, b3, b5⟩ := body hc
    rw [R_CheckClasses_L1, lt_t (List.getElem?_eq_some_iff.1 hx).1, cond_true, idx_at hx, Option.bind_some, R_IsName_eq hc.name, R_IsName_eq hc.super, b2, b3, b4, b5]
    simp only [Option.bind_some, so_wo, show (6 : Int) = ((6 : Nat) : Int) from rfl, show (8 : Int) = ((8 : Nat) : Int) from rfl, dec2]
    unfold cE cErr
    cases isNm c.Name with
    | false => rfl
    | true =>
      simp only [Bool.not_true, cond_false, Bool.true_and]
      have hrest : ∀ (p : Bool) (Y : Option (Way Int Unit)), p = decide (6 < c.Fields.length ∨ 8 < c.Methods.length) → seqO (α := Unit) (cond p (some (.out (2 : Int))) (wm (c.Fields.findSome? fErr) (wm (c.Methods.findSome? mE) (some (.go ()))))) (fun _ => Y) =
          wm (nz (if 6 < c.Fields.length ∨ 8 < c.Methods.length then 2 else (c.Fields.findSome? fErr).getD ((c.Methods.findSome? mE).getD 0))) Y := by
        intro p Y hp
        subst hp
        by_cases hh : 6 < c.Fields.length ∨ 8 < c.Methods.length
        · rw [if_pos hh, decide_eq_true hh]; rfl
        · rw [if_neg hh, decide_eq_false hh, cond_false]
          have hfe : ∀ e, c.Fields.findSome? fErr = some e → nz e = some e := by
            intro e he
            obtain ⟨x, _, hx⟩ := List.exists_of_findSome?_eq_some he
            unfold fErr at hx
            split at hx
            · split at hx
              · cases hx
              · injection hx with hx; subst hx; rfl
            · injection hx with hx; subst hx; rfl
          have hme : ∀ e, c.Methods.findSome? mE = some e → nz e = some e := by
            intro e he
            obtain ⟨x, _, hx⟩ := List.exists_of_findSome?_eq_some he
            unfold mE at hx
            unfold nz at hx ⊢
            split at hx
            · cases hx
            · rename_i hn; injection hx with hx; subst hx; rw [if_neg hn]
          cases hf : c.Fields.findSome? fErr with
          | some e => simp only [Option.getD_some, hfe e hf]; rfl
          | none =>
            cases hm : c.Methods.findSome? mE with
            | some e => simp only [Option.getD_some, Option.getD_none, hme e hm]; rfl
            | none => rfl
      by_cases hs : c.Super = []
      · rw [decide_eq_true hs]
        simp only [Bool.not_true, cond_false, Bool.true_or, if_true]
        exact hrest _ _ rfl
      · rw [decide_eq_false hs]
        simp only [Bool.not_false, cond_true, Bool.false_or]
        cases isNm c.Super with
        | false => rfl
        | true =>
          simp only [Bool.not_true, cond_false, if_true]
          exact hrest _ _ rfl) (fun k => by rw [R_CheckClasses_L1, lt_f]; rfl) h.1.2
  unfold R_CheckClasses chk
  rw [l1, sr_wo]
  by_cases hl : 10 < l.length
  · rw [if_pos hl, decide_eq_true (show (10 : Int) < (l.length : Int) by omega)]; rfl
  · rw [if_neg hl, decide_eq_false (show ¬ (10 : Int) < (l.length : Int) by omega)]
    cases l.findSome? cE <;> rfl
end
theorem nz_none {e : Int} (h : nz e = none) : e = 0 := by
  unfold nz at h
  split at h
  · assumption
  · cases h
theorem nz_some {e x : Int} (h : nz e = some x) : x ≠ 0 := by
  unfold nz at h
  split at h
  · cases h
  · rename_i hz; injection h with h; subst h; exact hz
end Cin
namespace Cin
def nmd (k : Kind) : Bool := (decide (k.Kind = 3)) || (decide (k.Kind = 4))
def bTwo (n : Int) : List UInt8 := [b8 (shrI n 8), b8 n]
def bTxt (s : List UInt8) : List UInt8 := b8 s.length :: s
def bKind (k : Kind) : List UInt8 := b8 k.Kind :: (if nmd k then bTxt k.Class else [])
def bField (f : Field) : List UInt8 := bTxt f.Name ++ bKind f.Kind
def bHand (h : Handler) : List UInt8 := bTwo h.From ++ (bTwo h.To ++ (bTwo h.At ++ bTxt h.Class))
def bLst {α : Type} (g : α → List UInt8) (l : List α) : List UInt8 := b8 l.length :: l.flatMap g
def bMeth (m : Method) : List UInt8 :=
  bTxt m.Name ++ (b8 (cond m.Static 1 0) :: (bLst bKind m.Args ++ (bKind m.Returns ++ (b8 m.Stack :: b8 m.Locals :: (bTwo m.Code.length ++ (m.Code ++ bLst bHand m.Handlers))))))
def bClass (c : Class) : List UInt8 := bTxt c.Name ++ (bTxt c.Super ++ (bLst bField c.Fields ++ bLst bMeth c.Methods))
def bImg (l : List Class) : List UInt8 := bLst bClass l
abbrev M47 : Nat := 140737488355328
def mkw (a : Bool) (b : List UInt8) : image_writer := ⟨⟨a, b⟩⟩
def Wr (f : image_writer → Option image_writer) (bs : List UInt8) : Prop := ∀ a b, b.length + bs.length ≤ M47 → f (mkw a b) = some (mkw true (b ++ bs))
theorem app_ok {b bs : List UInt8} (h : b.length + bs.length ≤ M47) : app 1 b bs = some (b ++ bs) := by
  unfold app
  rw [if_pos (by simpa using h)]
theorem wByte (a : Bool) {b : List UInt8} (c : UInt8) (h : b.length + 1 ≤ M47) : strings_Builder_WriteByte (mkw a b) c = some ((), mkw true (b ++ [c])) := by
  unfold strings_Builder_WriteByte strings_Builder_copyCheck mkw
  rw [app_ok (by simpa using h)]
  cases a <;> rfl
theorem wStr (a : Bool) {b : List UInt8} (s : List UInt8) (h : b.length + s.length ≤ M47) : strings_Builder_WriteString (mkw a b) s = some ((s.length : Int), (), mkw true (b ++ s)) := by
  unfold strings_Builder_WriteString strings_Builder_copyCheck mkw
  rw [app_ok h]
  cases a <;> rfl
theorem wCnt1 {F : Nat} (n : Int) : Wr (fun w => image_writer_counts (F + 3) w [n]) [b8 n] := by
  intro a b h
  have h1 : b.length + 1 ≤ M47 := by simpa using h
  have e := wByte a (b8 n) h1
  unfold mkw at e
  show image_writer_counts (F + 3) (mkw a b) [n] = _
  unfold image_writer_counts mkw
  rw [image_writer_counts_L1]
  have i0 : idx [n] 0 = some n := rfl
  have w0 : w64 (0 + 1) = 1 := by decide
  rw [i0, Option.bind_some, e, Option.bind_some, w0]
  rfl
theorem wCnt2 {F : Nat} (n m : Int) : Wr (fun w => image_writer_counts (F + 4) w [n, m]) [b8 n, b8 m] := by
  intro a b h
  have h1 : b.length + 2 ≤ M47 := by simpa using h
  have e := wByte a (b := b) (b8 n) (by omega)
  have e2 := wByte true (b := b ++ [b8 n]) (b8 m) (by simp; omega)
  unfold mkw at e e2
  show image_writer_counts (F + 4) (mkw a b) [n, m] = _
  unfold image_writer_counts mkw
  rw [image_writer_counts_L1]
  have i0 : idx [n, m] 0 = some n := rfl
  have i1 : idx [n, m] 1 = some m := rfl
  have w0 : w64 (0 + 1) = 1 := by decide
  rw [i0, Option.bind_some, e, Option.bind_some, w0]
  show Option.bind (image_writer_counts_L1 [n, m] (F + 3) (b ++ [b8 n]) true 1) _ = _
  rw [image_writer_counts_L1, i1, Option.bind_some, e2]
  have w1 : w64 (1 + 1) = 2 := by decide
  rw [Option.bind_some, w1]
  show Option.bind (image_writer_counts_L1 [n, m] (F + 2) (b ++ [b8 n] ++ [b8 m]) true 2) _ = _
  rw [image_writer_counts_L1, List.append_assoc]
  rfl
theorem Wr.seq {f g : image_writer → Option image_writer} {x y : List UInt8} (hf : Wr f x) (hg : Wr g y) : Wr (fun w => (f w).bind fun r => g r) (x ++ y) := by
  intro a b h
  rw [List.length_append] at h
  show (f (mkw a b)).bind _ = _
  rw [hf a b (by omega), Option.bind_some, hg true (b ++ x) (by rw [List.length_append]; omega), List.append_assoc]
theorem Wr.ret {f : image_writer → Option image_writer} {x : List UInt8} (h : Wr f x) : Wr (fun w => (f w).bind fun r => some r) x := by
  intro a b hb
  show (f (mkw a b)).bind _ = _
  rw [h a b hb]
  rfl
theorem Wr.to {f g : image_writer → Option image_writer} {x y : List UInt8} (hf : Wr f x) (h : ∀ w, g w = f w) (e : y = x) : Wr g y := by
  intro a b hb
  rw [h, e]
  exact hf a b (by rw [← e]; exact hb)
theorem wText {F : Nat} (s : List UInt8) : Wr (fun w => image_writer_text (F + 4) w s) (bTxt s) := by
  intro a b h
  have h1 : b.length + (s.length + 1) ≤ M47 := by simpa [bTxt] using h
  show image_writer_text (F + 4) (mkw a b) s = _
  unfold image_writer_text
  have e := wCnt1 (F := F + 1) (s.length : Int) a b (by simp; omega)
  have e' : image_writer_counts (F + 4) (⟨(⟨(mkw a b).Builder.addr, (mkw a b).Builder.buf⟩ : strings_Builder)⟩ : image_writer) [(s.length : Int)] = some (mkw true (b ++ [b8 (s.length : Int)])) := e
  have e2 := wStr true (b := b ++ [b8 (s.length : Int)]) s (by simp; omega)
  rw [e', Option.bind_some]
  have e2' : strings_Builder_WriteString (⟨(⟨(mkw true (b ++ [b8 (s.length : Int)])).Builder.addr, (mkw true (b ++ [b8 (s.length : Int)])).Builder.buf⟩ : strings_Builder)⟩ : image_writer) s = some ((s.length : Int), (), mkw true (b ++ [b8 (s.length : Int)] ++ s)) := e2
  rw [e2', Option.bind_some, List.append_assoc]
  rfl
theorem wKind {F : Nat} (k : Kind) : Wr (fun w => image_writer_kind (F + 4) w k) (bKind k) := by
  have e : bKind k = [b8 k.Kind] ++ (if nmd k then bTxt k.Class else []) := rfl
  intro a b h
  rw [e, List.length_append] at h
  have e1 := wCnt1 (F := F + 1) k.Kind a b (by omega)
  show image_writer_kind (F + 4) (mkw a b) k = _
  unfold image_writer_kind
  have e1' : image_writer_counts (F + 4) (⟨(⟨(mkw a b).Builder.addr, (mkw a b).Builder.buf⟩ : strings_Builder)⟩ : image_writer) [k.Kind] = some (mkw true (b ++ [b8 k.Kind])) := e1
  rw [e1', Option.bind_some, show image_named k.Kind = some (nmd k) from rfl, Option.bind_some, e]
  cases hk : nmd k with
  | false => rw [cond_false, if_neg (by simp), List.append_nil]
  | true =>
    rw [hk, if_pos rfl] at h
    have e2 := wText (F := F) k.Class true (b ++ [b8 k.Kind]) (by rw [List.length_append]; omega)
    have e2' : image_writer_text (F + 4) (⟨(⟨(mkw true (b ++ [b8 k.Kind])).Builder.addr, (mkw true (b ++ [b8 k.Kind])).Builder.buf⟩ : strings_Builder)⟩ : image_writer) k.Class = some (mkw true (b ++ [b8 k.Kind] ++ bTxt k.Class)) := e2
    rw [cond_true, e2', Option.bind_some, if_pos rfl, List.append_assoc]
theorem wNum {F : Nat} (n : Int) : Wr (fun w => image_writer_number (F + 4) w n) (bTwo n) := by
  intro a b h
  have e1 : image_writer_counts (F + 4) (⟨(⟨(mkw a b).Builder.addr, (mkw a b).Builder.buf⟩ : strings_Builder)⟩ : image_writer) [shrI n 8, n] = some (mkw true (b ++ bTwo n)) := wCnt2 (F := F) (shrI n 8) n a b h
  show image_writer_number (F + 4) (mkw a b) n = _
  unfold image_writer_number
  rw [e1]
  rfl
theorem wlist {α : Type} {l : List α} {L : Nat → List UInt8 → Bool → Int → Option (List UInt8 × Bool)} (g : α → List UInt8) (hl : l.length ≤ M47)
    (hs : ∀ k b (i : Nat) x, l[i]? = some x → b.length + (g x).length ≤ M47 → L (k + 1) b true (i : Int) = L k (b ++ g x) true (w64 ((i : Int) + 1)))
    (he : ∀ k b, L (k + 1) b true (l.length : Int) = some (b, true)) {F : Nat} (hF : l.length < F) (b : List UInt8) (hb : b.length + (l.flatMap g).length ≤ M47) : L F b true 0 = some (b ++ l.flatMap g, true) := by
  have key : ∀ (d i k : Nat) (b : List UInt8), i + d = l.length → d < k → b.length + ((l.drop i).flatMap g).length ≤ M47 → L k b true (i : Int) = some (b ++ (l.drop i).flatMap g, true) := by
    intro d
    induction d with
    | zero =>
      intro i k b h hk _
      obtain ⟨k, rfl⟩ : ∃ k', k = k' + 1 := ⟨k - 1, by omega⟩
      have hi : i = l.length := by omega
      subst hi
      rw [he]; simp
    | succ d ih =>
      intro i k b h hk hb
      obtain ⟨k, rfl⟩ : ∃ k', k = k' + 1 := ⟨k - 1, by omega⟩
      have hi : i < l.length := by omega
      rw [List.drop_eq_getElem_cons hi, List.flatMap_cons, List.length_append] at hb
      rw [hs k b i l[i] (List.getElem?_eq_getElem hi) (by omega), w64_up hi hl, ih (i + 1) k _ (by omega) (by omega) (by rw [List.length_append]; omega), List.drop_eq_getElem_cons hi, List.flatMap_cons, List.append_assoc]
  have := key l.length 0 F b (by omega) hF (by simpa using hb)
  simpa using this
theorem wField {F : Nat} (f : Field) : Wr (fun w => image_writer_class_1 (F + 4) f w) (bField f) := by
  refine (Wr.seq (wText (F := F) f.Name) (wKind (F := F) f.Kind).ret).to (fun w => ?_) rfl
  unfold image_writer_class_1
  rfl
theorem wHand {F : Nat} (h : Handler) : Wr (fun w => image_writer_method_1 (F + 4) h w) (bHand h) := by
  refine (Wr.seq (wNum (F := F) h.From) (Wr.seq (wNum (F := F) h.To) (Wr.seq (wNum (F := F) h.At) (wText (F := F) h.Class).ret))).to (fun w => ?_) rfl
  unfold image_writer_method_1
  rfl
theorem bind_wlist {α : Type} {l : List α} {g : α → List UInt8} {F : Nat} {f : image_writer → Option image_writer} {L : Nat → List UInt8 → Bool → Int → Option (List UInt8 × Bool)} (hl : l.length ≤ M47) (hF : l.length < F + 4)
    (hs : ∀ k b (i : Nat) x, l[i]? = some x → b.length + (g x).length ≤ M47 → L (k + 1) b true (i : Int) = L k (b ++ g x) true (w64 ((i : Int) + 1)))
    (he : ∀ k b, L (k + 1) b true (l.length : Int) = some (b, true))
    (hf : ∀ w, f w = (image_writer_counts (F + 4) w [(l.length : Int)]).bind fun r => (L (F + 4) r.Builder.buf r.Builder.addr 0).bind fun q => some (mkw q.2 q.1)) : Wr f (bLst g l) := by
  intro a b h
  have h1 : b.length + ((l.flatMap g).length + 1) ≤ M47 := by simpa [bLst] using h
  have e1 := wCnt1 (F := F + 1) (l.length : Int) a b (by simp; omega)
  rw [hf]
  have e1' : image_writer_counts (F + 4) (mkw a b) [(l.length : Int)] = some (mkw true (b ++ [b8 (l.length : Int)])) := e1
  rw [e1', Option.bind_some]
  have e2 := wlist g hl hs he hF (b ++ [b8 (l.length : Int)]) (by simp only [List.length_append, List.length_cons, List.length_nil]; omega)
  show (L (F + 4) (b ++ [b8 (l.length : Int)]) true 0).bind _ = _
  rw [e2, Option.bind_some, List.append_assoc]
  rfl
theorem wFields {F : Nat} {l : List Field} (hl : l.length ≤ M47) (hF : l.length < F + 4) : Wr (fun w => image_list_api_Field__image_writer_class_1 (F + 4) w l) (bLst bField l) := by
  refine bind_wlist hl hF (L := image_list_api_Field__image_writer_class_1_L1 (F + 4) l) (fun k b i x hx hb => ?_) (fun k b => ?_) (fun w => rfl)
  · rw [image_list_api_Field__image_writer_class_1_L1, lt_t (List.getElem?_eq_some_iff.1 hx).1, cond_true, idx_at hx, Option.bind_some]
    have e := wField (F := F) x true b hb
    have e' : image_writer_class_1 (F + 4) (⟨x.Name, (⟨x.Kind.Kind, x.Kind.Class⟩ : Kind)⟩ : Field) (⟨(⟨true, b⟩ : strings_Builder)⟩ : image_writer) = some (mkw true (b ++ bField x)) := e
    rw [e']
    rfl
  · rw [image_list_api_Field__image_writer_class_1_L1, lt_f]; rfl
theorem wKinds {F : Nat} {l : List Kind} (hl : l.length ≤ M47) (hF : l.length < F + 4) : Wr (fun w => image_list_api_Kind__image_writer_kind (F + 4) w l) (bLst bKind l) := by
  refine bind_wlist hl hF (L := image_list_api_Kind__image_writer_kind_L1 (F + 4) l) (fun k b i x hx hb => ?_) (fun k b => ?_) (fun w => rfl)
  · rw [image_list_api_Kind__image_writer_kind_L1, lt_t (List.getElem?_eq_some_iff.1 hx).1, cond_true, idx_at hx, Option.bind_some]
    have e := wKind (F := F) x true b hb
    have e' : image_writer_kind (F + 4) (⟨(⟨true, b⟩ : strings_Builder)⟩ : image_writer) (⟨x.Kind, x.Class⟩ : Kind) = some (mkw true (b ++ bKind x)) := e
    rw [e']
    rfl
  · rw [image_list_api_Kind__image_writer_kind_L1, lt_f]; rfl
theorem wHands {F : Nat} {l : List Handler} (hl : l.length ≤ M47) (hF : l.length < F + 4) : Wr (fun w => image_list_api_Handler__image_writer_method_1 (F + 4) w l) (bLst bHand l) := by
  refine bind_wlist hl hF (L := image_list_api_Handler__image_writer_method_1_L1 (F + 4) l) (fun k b i x hx hb => ?_) (fun k b => ?_) (fun w => rfl)
  · rw [image_list_api_Handler__image_writer_method_1_L1, lt_t (List.getElem?_eq_some_iff.1 hx).1, cond_true, idx_at hx, Option.bind_some]
    have e := wHand (F := F) x true b hb
    have e' : image_writer_method_1 (F + 4) (⟨x.From, x.To, x.At, x.Class⟩ : Handler) (⟨(⟨true, b⟩ : strings_Builder)⟩ : image_writer) = some (mkw true (b ++ bHand x)) := e
    rw [e']
    rfl
  · rw [image_list_api_Handler__image_writer_method_1_L1, lt_f]; rfl
theorem wMeth {F : Nat} {m : Method} (h1 : m.Args.length ≤ M47) (h1' : m.Args.length < F + 4) (h2 : m.Handlers.length ≤ M47) (h2' : m.Handlers.length < F + 4) : Wr (fun w => image_writer_method (F + 4) w m) (bMeth m) := by
  have hst : Wr (fun w => (strings_Builder_WriteString w m.Code).bind fun r => (fun w => image_list_api_Handler__image_writer_method_1 (F + 4) w m.Handlers) r.2.2) (m.Code ++ bLst bHand m.Handlers) := by
    intro a b h
    rw [List.length_append] at h
    show (strings_Builder_WriteString (mkw a b) m.Code).bind _ = _
    rw [wStr a m.Code (by omega), Option.bind_some]
    have := wHands (F := F) h2 h2' true (b ++ m.Code) (by rw [List.length_append]; omega)
    rw [List.append_assoc] at this
    exact this
  have key := Wr.seq (wText (F := F) m.Name) (Wr.seq (wCnt1 (F := F + 1) (cond m.Static 1 0)) (Wr.seq (wKinds (F := F) h1 h1') (Wr.seq (wKind (F := F) m.Returns) (Wr.seq (wCnt2 (F := F) m.Stack m.Locals) (Wr.seq (wNum (F := F) m.Code.length) hst.ret)))))
  refine key.to (fun w => ?_) rfl
  unfold image_writer_method
  cases m.Static <;> simp only [cond_true, cond_false, Option.bind_some, Option.bind_assoc]
theorem wMeths {F : Nat} {l : List Method} (hl : l.length ≤ M47) (hF : l.length < F + 4) (h : ∀ m ∈ l, (m.Args.length ≤ M47 ∧ m.Args.length < F + 4) ∧ (m.Handlers.length ≤ M47 ∧ m.Handlers.length < F + 4)) : Wr (fun w => image_list_api_Method__image_writer_method (F + 4) w l) (bLst bMeth l) := by
  refine bind_wlist hl hF (L := image_list_api_Method__image_writer_method_L1 (F + 4) l) (fun k b i x hx hb => ?_) (fun k b => ?_) (fun w => rfl)
  · rw [image_list_api_Method__image_writer_method_L1, lt_t (List.getElem?_eq_some_iff.1 hx).1, cond_true, idx_at hx, Option.bind_some]
    have hm := h x (List.mem_of_getElem? hx)
    have e := wMeth (F := F) (m := x) hm.1.1 hm.1.2 hm.2.1 hm.2.2 true b hb
    have e' : image_writer_method (F + 4) (⟨(⟨true, b⟩ : strings_Builder)⟩ : image_writer) (⟨x.Name, x.Static, x.Args, (⟨x.Returns.Kind, x.Returns.Class⟩ : Kind), x.Stack, x.Locals, x.Code, x.Handlers⟩ : Method) = some (mkw true (b ++ bMeth x)) := e
    rw [e']
    rfl
  · rw [image_list_api_Method__image_writer_method_L1, lt_f]; rfl
theorem wClass {F : Nat} {c : Class} (hc : c.Fits (F + 4)) : Wr (fun w => image_writer_class (F + 4) w c) (bClass c) := by
  have key := Wr.seq (wText (F := F) c.Name) (Wr.seq (wText (F := F) c.Super) (Wr.seq (wFields (F := F) hc.fields.1 hc.fields.2) (wMeths (F := F) hc.methods.1 hc.methods.2 (fun m hm => ⟨(hc.method m hm).args, (hc.method m hm).hands⟩)).ret))
  refine key.to (fun w => ?_) rfl
  unfold image_writer_class
  rfl
theorem wImg {F : Nat} {l : List Class} (h : Fits (F + 4) l) : Wr (fun w => image_list_api_Class__image_writer_class (F + 4) w l) (bImg l) := by
  refine bind_wlist h.1.1 h.1.2 (L := image_list_api_Class__image_writer_class_L1 (F + 4) l) (fun k b i x hx hb => ?_) (fun k b => ?_) (fun w => rfl)
  · rw [image_list_api_Class__image_writer_class_L1, lt_t (List.getElem?_eq_some_iff.1 hx).1, cond_true, idx_at hx, Option.bind_some]
    have e := wClass (F := F) (h.2 x (List.mem_of_getElem? hx)) true b hb
    have e' : image_writer_class (F + 4) (⟨(⟨true, b⟩ : strings_Builder)⟩ : image_writer) (⟨x.Name, x.Super, x.Fields, x.Methods⟩ : Class) = some (mkw true (b ++ bClass x)) := e
    rw [e']
    rfl
  · rw [image_list_api_Class__image_writer_class_L1, lt_f]; rfl
theorem image_Write_eq {F : Nat} {l : List Class} (h : Fits (F + 4) l) (hb : chk l = 0 → (bImg l).length ≤ M47) : image_Write (F + 4) l = some (if chk l = 0 then (if 20000 < (bImg l).length then ([], 2) else (bImg l, 0)) else ([], chk l)) := by
  unfold image_Write
  rw [image_Check_eq h, Option.bind_some]
  by_cases h0 : chk l = 0
  · rw [if_pos h0, decide_eq_true h0]
    have e := wImg (F := F) h false [] (by simpa using hb h0)
    have e' : image_list_api_Class__image_writer_class (F + 4) (⟨(⟨false, []⟩ : strings_Builder)⟩ : image_writer) l = some (mkw true (bImg l)) := e
    rw [Bool.not_true, cond_false, e', Option.bind_some]
    show cond (decide (20000 < ((bImg l).length : Int))) _ _ = _
    by_cases h1 : 20000 < (bImg l).length
    · rw [if_pos h1, decide_eq_true (show (20000 : Int) < ((bImg l).length : Int) by omega)]; rfl
    · rw [if_neg h1, decide_eq_false (show ¬ (20000 : Int) < ((bImg l).length : Int) by omega)]; rfl
  · rw [if_neg h0, decide_eq_false h0]; rfl
end Cin
namespace Cin
structure OkM (m : Method) : Prop where
  name : isNm m.Name = true
  args : m.Args.length ≤ 4
  code : m.Code.length ≤ 200
  hands : m.Handlers.length ≤ 4
  stack : wi m.Stack 0 10 = true
  locals : wi m.Locals 0 10 = true
  arg : ∀ k ∈ m.Args, kindOk k = true
  ret : m.Returns = ⟨0, []⟩ ∨ kindOk m.Returns = true
  hand : ∀ h ∈ m.Handlers, isNm h.Class = true ∧ wi h.From 0 200 = true ∧ wi h.To 0 200 = true ∧ wi h.At 0 200 = true
structure OkC (c : Class) : Prop where
  name : isNm c.Name = true
  super : c.Super = [] ∨ isNm c.Super = true
  fields : c.Fields.length ≤ 6
  methods : c.Methods.length ≤ 8
  field : ∀ f ∈ c.Fields, isNm f.Name = true ∧ kindOk f.Kind = true
  method : ∀ m ∈ c.Methods, OkM m
theorem getD0 {α : Type} {l : List α} {g : α → Option Int} (hg : ∀ x e, g x = some e → e ≠ 0) (h : (l.findSome? g).getD 0 = 0) : ∀ x ∈ l, g x = none := by
  cases hf : l.findSome? g with
  | none => exact List.findSome?_eq_none_iff.1 hf
  | some e =>
    rw [hf] at h
    obtain ⟨x, _, hx⟩ := List.exists_of_findSome?_eq_some hf
    exact absurd h (hg x e hx)
theorem okM {m : Method} (h : mErr m = 0) : OkM m := by
  unfold mErr at h
  split at h
  · rename_i h1
    split at h
    · exact absurd h (by decide)
    · rename_i h2
      split at h
      · rename_i h3
        simp only [Bool.and_eq_true] at h3
        split at h
        · rename_i e he
          subst h
          obtain ⟨x, _, hx⟩ := List.exists_of_findSome?_eq_some he
          unfold kErr at hx
          split at hx <;> simp at hx
        · rename_i he
          split at h
          · rename_i h4
            have hh := getD0 (fun x e hx => by
              unfold hErr at hx
              split at hx
              · split at hx
                · cases hx
                · injection hx with hx; omega
              · injection hx with hx; omega) h
            refine ⟨h1, by omega, by omega, by omega, h3.1, h3.2, fun k hk => ?_, h4, fun x hx => ?_⟩
            · have := List.findSome?_eq_none_iff.1 he k hk
              unfold kErr at this
              split at this
              · assumption
              · cases this
            · have := hh x hx
              unfold hErr at this
              split at this
              · rename_i q1
                split at this
                · rename_i q2
                  simp only [Bool.and_eq_true] at q2
                  exact ⟨q1, q2.1.1, q2.1.2, q2.2⟩
                · cases this
              · cases this
          · exact absurd h (by decide)
      · exact absurd h (by decide)
  · exact absurd h (by decide)
theorem okC {c : Class} (h : cErr c = 0) : OkC c := by
  unfold cErr at h
  split at h
  · rename_i h1
    simp only [Bool.and_eq_true, Bool.or_eq_true, decide_eq_true_eq] at h1
    split at h
    · exact absurd h (by decide)
    · rename_i h2
      cases hf : c.Fields.findSome? fErr with
      | some e =>
        rw [hf] at h
        simp only [Option.getD_some] at h
        subst h
        obtain ⟨x, _, hx⟩ := List.exists_of_findSome?_eq_some hf
        unfold fErr at hx
        split at hx
        · split at hx <;> simp at hx
        · simp at hx
      | none =>
        rw [hf] at h
        simp only [Option.getD_none] at h
        have hm := getD0 (fun x e hx => nz_some hx) h
        refine ⟨h1.1, h1.2, by omega, by omega, fun f hff => ?_, fun m hmm => okM (nz_none (hm m hmm))⟩
        have := List.findSome?_eq_none_iff.1 hf f hff
        unfold fErr at this
        split at this
        · rename_i q1
          split at this
          · rename_i q2; exact ⟨q1, q2⟩
          · cases this
        · cases this
  · exact absurd h (by decide)
theorem okL {l : List Class} (h : chk l = 0) : l.length ≤ 10 ∧ ∀ c ∈ l, OkC c := by
  unfold chk at h
  split at h
  · exact absurd h (by decide)
  · rename_i hl
    have hm := getD0 (fun x e hx => nz_some hx) h
    exact ⟨by omega, fun c hc => okC (nz_none (hm c hc))⟩
theorem isNm_len {s : List UInt8} (h : isNm s = true) : s.length ≤ 20 := by
  unfold isNm at h
  simp only [Bool.and_eq_true, decide_eq_true_eq] at h
  exact h.2
theorem kindOk_len {k : Kind} (h : kindOk k = true) : k.Class.length ≤ 20 := by
  unfold kindOk at h
  split at h
  · exact isNm_len h
  · simp only [Bool.and_eq_true, decide_eq_true_eq] at h
    rw [h.2]; simp
theorem flat_len {α : Type} {g : α → List UInt8} {B : Nat} : ∀ {l : List α}, (∀ x ∈ l, (g x).length ≤ B) → (l.flatMap g).length ≤ l.length * B
  | [], _ => by simp
  | x :: r, h => by
    have h1 := h x (by simp)
    have h2 := flat_len (l := r) (g := g) (B := B) fun y hy => h y (by simp [hy])
    simp only [List.flatMap_cons, List.length_append, List.length_cons, Nat.add_mul]
    omega
theorem bKind_len {k : Kind} (h : k.Class.length ≤ 20) : (bKind k).length ≤ 22 := by
  unfold bKind bTxt
  split <;> simp; omega
theorem ret_len {m : Method} (h : OkM m) : m.Returns.Class.length ≤ 20 := by
  rcases h.ret with e | e
  · rw [e]; simp
  · exact kindOk_len e
theorem bMeth_len {m : Method} (h : OkM m) : (bMeth m).length ≤ 446 := by
  have a1 := isNm_len h.name
  have a2 := flat_len (g := bKind) (B := 22) (l := m.Args) fun k hk => bKind_len (kindOk_len (h.arg k hk))
  have a3 := bKind_len (ret_len h)
  have a4 := flat_len (g := bHand) (B := 27) (l := m.Handlers) fun x hx => by
    have := isNm_len (h.hand x hx).1
    simp only [bHand, bTwo, bTxt, List.length_append, List.length_cons, List.length_nil]; omega
  have a5 := h.args
  have a6 := h.hands
  have a7 := h.code
  simp only [bMeth, bLst, bTwo, bTxt, List.length_append, List.length_cons, List.length_nil]
  omega
theorem bClass_len {c : Class} (h : OkC c) : (bClass c).length ≤ 3870 := by
  have a1 := isNm_len h.name
  have a2 : c.Super.length ≤ 20 := by
    rcases h.super with e | e
    · rw [e]; simp
    · exact isNm_len e
  have a3 := flat_len (g := bField) (B := 43) (l := c.Fields) fun f hf => by
    have q1 := isNm_len (h.field f hf).1
    have q2 := bKind_len (kindOk_len (h.field f hf).2)
    simp only [bField, bTxt, List.length_append, List.length_cons]; omega
  have a4 := flat_len (g := bMeth) (B := 446) (l := c.Methods) fun m hm => bMeth_len (h.method m hm)
  have a5 := h.fields
  have a6 := h.methods
  simp only [bClass, bLst, bTxt, List.length_append, List.length_cons]
  omega
theorem bImg_len {l : List Class} (h : chk l = 0) : (bImg l).length ≤ 38701 := by
  obtain ⟨h1, h2⟩ := okL h
  have a := flat_len (g := bClass) (B := 3870) (l := l) fun c hc => bClass_len (h2 c hc)
  simp only [bImg, bLst, List.length_cons]
  omega
theorem cat_ok {p q : List UInt8} (h : p.length + q.length ≤ 1000000) : cat p q = some (p ++ q) := by
  unfold cat
  rw [if_pos (by omega)]
theorem rTxt {s : List UInt8} (h : s.length ≤ 20) : R_Text s = some (bTxt s) := by
  unfold R_Text R_Count
  rw [Option.bind_some, cat_ok (by simp; omega)]
  rfl
theorem rKind {k : Kind} (h : k.Class.length ≤ 20) : R_KindBytes k = some (bKind k) := by
  unfold R_KindBytes R_Count
  show cond (nmd k) _ _ = _
  cases hk : nmd k with
  | false => rw [cond_false]; simp [bKind, hk]
  | true =>
    rw [cond_true, Option.bind_some, rTxt h, Option.bind_some, cat_ok (by simp [bTxt]; omega)]
    simp [bKind, hk]
theorem rTwo {n : Int} (h0 : 0 ≤ n) (h1 : n ≤ 255) : R_Two n = some (bTwo n) := by
  obtain ⟨m, rfl⟩ := Int.eq_ofNat_of_zero_le h0
  have hm : m < 256 := by omega
  have key : ∀ m : Fin 256, R_Two ((m.val : Nat) : Int) = some (bTwo ((m.val : Nat) : Int)) := by decide +kernel
  exact key ⟨m, hm⟩
theorem rlist {α : Type} {l : List α} {L : Nat → List UInt8 → Int → Option (List UInt8)} (g : α → List UInt8) (hl : l.length ≤ 50)
    (hs : ∀ k b (i : Nat) x, l[i]? = some x → b.length + (g x).length ≤ 50000 → L (k + 1) b (i : Int) = L k (b ++ g x) (w64 ((i : Int) + 1)))
    (he : ∀ k b, L (k + 1) b (l.length : Int) = some b) {F : Nat} (hF : l.length < F) (b : List UInt8) (hb : b.length + (l.flatMap g).length ≤ 50000) : L F b 0 = some (b ++ l.flatMap g) := by
  have hl : l.length ≤ M47 := Nat.le_trans hl (by decide)
  have key : ∀ (d i k : Nat) (b : List UInt8), i + d = l.length → d < k → b.length + ((l.drop i).flatMap g).length ≤ 50000 → L k b (i : Int) = some (b ++ (l.drop i).flatMap g) := by
    intro d
    induction d with
    | zero =>
      intro i k b h hk _
      obtain ⟨k, rfl⟩ : ∃ k', k = k' + 1 := ⟨k - 1, by omega⟩
      have hi : i = l.length := by omega
      subst hi
      rw [he]; simp
    | succ d ih =>
      intro i k b h hk hb
      obtain ⟨k, rfl⟩ : ∃ k', k = k' + 1 := ⟨k - 1, by omega⟩
      have hi : i < l.length := by omega
      rw [List.drop_eq_getElem_cons hi, List.flatMap_cons, List.length_append] at hb
      rw [hs k b i l[i] (List.getElem?_eq_getElem hi) (by omega), w64_up hi hl, ih (i + 1) k _ (by omega) (by omega) (by rw [List.length_append]; omega), List.drop_eq_getElem_cons hi, List.flatMap_cons, List.append_assoc]
  have := key l.length 0 F b (by omega) hF (by simpa using hb)
  simpa using this
theorem wi_i {n a b : Int} (h : wi n a b = true) : a ≤ n ∧ n ≤ b := by
  unfold wi at h
  simpa using h
end Cin
namespace Cin
open Go Go.Proofs.Ytfbkanhgjpdohaa
theorem sm_reach {n : Nat} (h : n ≤ reachBytes) : Small 140737488356000 n := by
  have : reachBytes = 140737488351232 := rfl
  unfold Small
  omega
theorem sm_mul {n : Nat} (k : Nat) (h : n * (k + 1) ≤ reachBytes) : Small 140737488356000 n :=
  sm_reach (Nat.le_trans (Nat.le_mul_of_pos_right n (Nat.succ_pos k)) h)
theorem fits_method {m : Method} (h : Ok_Method reachBytes m) : m.Fits 140737488356000 :=
  ⟨sm_reach h.1, sm_mul 23 h.2.2.1.1, fun k hk => sm_reach (h.2.2.1.2 k hk).2, sm_reach h.2.2.2.1.2, sm_mul 39 h.2.2.2.2.2.2.2.1, fun x hx => sm_reach (h.2.2.2.2.2.2.2.2 x hx).2.2.2⟩
theorem fits_class {c : Class} (h : Ok_Class reachBytes c) : c.Fits 140737488356000 :=
  ⟨sm_reach h.1, sm_reach h.2.1, sm_mul 39 h.2.2.1.1, fun f hf => ⟨sm_reach (h.2.2.1.2 f hf).1, sm_reach (h.2.2.1.2 f hf).2.2⟩, sm_mul 127 h.2.2.2.1, fun m hm => fits_method (h.2.2.2.2 m hm)⟩
theorem fits_of {l : List Class} (h : l.length * 80 ≤ reachBytes ∧ ∀ x ∈ l, Ok_Class reachBytes x) : Fits 140737488356000 l :=
  ⟨sm_mul 79 h.1, fun c hc => fits_class (h.2 c hc)⟩
end Cin
namespace Cin
section
variable {F : Nat} (hF : 1000 < F)
include hF
theorem rHands {m : Method} (h : OkM m) (b : List UInt8) (hb : b.length + (m.Handlers.flatMap bHand).length ≤ 50000) : R_ImageOf_L5 m F b 0 = some (b ++ m.Handlers.flatMap bHand) := by
  have h6 := h.hands
  refine rlist bHand (by omega) (fun k b i x hx hb => ?_) (fun k b => by rw [R_ImageOf_L5, lt_f]; rfl) (by omega) b hb
  obtain ⟨o1, o2, o3, o4⟩ := h.hand x (List.mem_of_getElem? hx)
  have o2 := wi_i o2; have o3 := wi_i o3; have o4 := wi_i o4
  have o5 := isNm_len o1
  rw [R_ImageOf_L5, lt_t (List.getElem?_eq_some_iff.1 hx).1, cond_true, idx_at hx, Option.bind_some, rTwo o2.1 (by omega), Option.bind_some, rTwo o3.1 (by omega), Option.bind_some,
    cat_ok (by simp [bTwo]), Option.bind_some, rTwo o4.1 (by omega), Option.bind_some, cat_ok (by simp [bTwo]), Option.bind_some, rTxt o5, Option.bind_some, cat_ok (by simp [bTwo, bTxt]; omega), Option.bind_some,
    cat_ok (by simp [bTwo, bTxt]; omega), Option.bind_some]
  simp only [bHand, List.append_assoc]
theorem rArgs {m : Method} (h : OkM m) (b : List UInt8) (hb : b.length + (m.Args.flatMap bKind).length ≤ 50000) : R_ImageOf_L4 m F b 0 = some (b ++ m.Args.flatMap bKind) := by
  have h6 := h.args
  refine rlist bKind (by omega) (fun k b i x hx hb => ?_) (fun k b => by rw [R_ImageOf_L4, lt_f]; rfl) (by omega) b hb
  have o5 := kindOk_len (h.arg x (List.mem_of_getElem? hx))
  have o6 := bKind_len o5
  rw [R_ImageOf_L4, lt_t (List.getElem?_eq_some_iff.1 hx).1, cond_true, idx_at hx, Option.bind_some, rKind o5, Option.bind_some, cat_ok (by omega), Option.bind_some]
theorem rMeths {c : Class} (h : OkC c) (b : List UInt8) (hb : b.length + (c.Methods.flatMap bMeth).length ≤ 50000) : R_ImageOf_L3 F c F b 0 = some (b ++ c.Methods.flatMap bMeth) := by
  have h6 := h.methods
  refine rlist bMeth (by omega) (fun k b i x hx hb => ?_) (fun k b => by rw [R_ImageOf_L3, lt_f]; rfl) (by omega) b hb
  have hm := h.method x (List.mem_of_getElem? hx)
  have q1 := isNm_len hm.name
  have q2 := bKind_len (ret_len hm)
  have q3 := hm.code
  have q4 := flat_len (g := bKind) (B := 22) (l := x.Args) fun k hk => bKind_len (kindOk_len (hm.arg k hk))
  have q5 := hm.args
  have q6 := hm.hands
  have q7 := flat_len (g := bHand) (B := 27) (l := x.Handlers) fun y hy => by
    have := isNm_len (hm.hand y hy).1
    simp only [bHand, bTwo, bTxt, List.length_append, List.length_cons, List.length_nil]; omega
  have q8 : (bTxt x.Name).length ≤ 21 := by simp [bTxt]; omega
  have hlen : (bMeth x).length = (bTxt x.Name).length + (1 + (1 + (x.Args.flatMap bKind).length + ((bKind x.Returns).length + (2 + (2 + (x.Code.length + (1 + (x.Handlers.flatMap bHand).length))))))) := by
    simp only [bMeth, bLst, bTwo, List.length_append, List.length_cons, List.length_nil]; omega
  rw [hlen] at hb
  have hst : ∀ b : List UInt8, b.length ≤ 60000 → (cond x.Static ((R_Count 1).bind fun r44277_ => (cat b r44277_).bind fun s44279_ => some s44279_) ((R_Count 0).bind fun r44281_ => (cat b r44281_).bind fun s44283_ => some s44283_)) = some (b ++ [b8 (cond x.Static 1 0)]) := by
    intro b hb
    unfold R_Count
    cases x.Static
    · rw [cond_false, Option.bind_some, cat_ok (by simp; omega)]; rfl
    · rw [cond_true, Option.bind_some, cat_ok (by simp; omega)]; rfl
  rw [R_ImageOf_L3, lt_t (List.getElem?_eq_some_iff.1 hx).1, cond_true, idx_at hx, Option.bind_some, rTxt q1, Option.bind_some, cat_ok (by omega), Option.bind_some,
    hst _ (by rw [List.length_append]; omega), Option.bind_some, show R_Count (x.Args.length : Int) = some [b8 (x.Args.length : Int)] from rfl, Option.bind_some,
    cat_ok (by simp only [List.length_append, List.length_cons, List.length_nil]; omega), Option.bind_some, rArgs hF hm _ (by simp only [List.length_append, List.length_cons, List.length_nil]; omega), Option.bind_some,
    rKind (k := (⟨x.Returns.Kind, x.Returns.Class⟩ : Kind)) (ret_len hm), Option.bind_some, show R_Count x.Stack = some [b8 x.Stack] from rfl, Option.bind_some]
  have e0 : bKind (⟨x.Returns.Kind, x.Returns.Class⟩ : Kind) = bKind x.Returns := rfl
  rw [e0, cat_ok (by simp only [List.length_append, List.length_cons, List.length_nil, bTwo]; omega), Option.bind_some, show R_Count x.Locals = some [b8 x.Locals] from rfl, Option.bind_some, cat_ok (by simp only [List.length_append, List.length_cons, List.length_nil, bTwo]; omega), Option.bind_some,
    rTwo (by omega) (by omega), Option.bind_some, cat_ok (by simp only [List.length_append, List.length_cons, List.length_nil, bTwo]; omega), Option.bind_some, cat_ok (by simp only [List.length_append, List.length_cons, List.length_nil, bTwo]; omega), Option.bind_some, show R_Count (x.Handlers.length : Int) = some [b8 (x.Handlers.length : Int)] from rfl, Option.bind_some,
    cat_ok (by simp only [List.length_append, List.length_cons, List.length_nil, bTwo]; omega), Option.bind_some, cat_ok (by simp only [List.length_append, List.length_cons, List.length_nil, bTwo]; omega), Option.bind_some, rHands hF hm _ (by simp only [List.length_append, List.length_cons, List.length_nil, bTwo]; omega), Option.bind_some, Option.bind_some]
  congr 1
  simp [bMeth, bLst, List.append_assoc]
theorem rFields {c : Class} (h : OkC c) (b : List UInt8) (hb : b.length + (c.Fields.flatMap bField).length ≤ 50000) : R_ImageOf_L2 c F b 0 = some (b ++ c.Fields.flatMap bField) := by
  have h6 := h.fields
  refine rlist bField (by omega) (fun k b i x hx hb => ?_) (fun k b => by rw [R_ImageOf_L2, lt_f]; rfl) (by omega) b hb
  obtain ⟨o1, o2⟩ := h.field x (List.mem_of_getElem? hx)
  have q1 := isNm_len o1
  have q2 := kindOk_len o2
  have q3 := bKind_len q2
  rw [R_ImageOf_L2, lt_t (List.getElem?_eq_some_iff.1 hx).1, cond_true, idx_at hx, Option.bind_some, Option.bind_some, rTxt q1, Option.bind_some, rKind (k := (⟨x.Kind.Kind, x.Kind.Class⟩ : Kind)) q2, Option.bind_some]
  have e0 : bKind (⟨x.Kind.Kind, x.Kind.Class⟩ : Kind) = bKind x.Kind := rfl
  rw [e0, cat_ok (by simp [bTxt]; omega), Option.bind_some, cat_ok (by simp [bTxt]; omega), Option.bind_some]
  rfl
theorem R_ImageOf_eq {l : List Class} (h0 : chk l = 0) : R_ImageOf F l = some (bImg l) := by
  obtain ⟨h1, h2⟩ := okL h0
  have hb0 := bImg_len h0
  have hb1 : (l.flatMap bClass).length + 1 ≤ 38701 := by simpa [bImg, bLst] using hb0
  unfold R_ImageOf R_Count
  rw [Option.bind_some]
  have key : R_ImageOf_L1 F l F [b8 (l.length : Int)] 0 = some ([b8 (l.length : Int)] ++ l.flatMap bClass) := by
    refine rlist bClass (by omega) (fun k b i x hx hb => ?_) (fun k b => by rw [R_ImageOf_L1, lt_f]; rfl) (by omega) _ (by simp only [List.length_cons, List.length_nil]; omega)
    have hc := h2 x (List.mem_of_getElem? hx)
    have q1 := isNm_len hc.name
    have q2 : x.Super.length ≤ 20 := by
      rcases hc.super with e | e
      · rw [e]; simp
      · exact isNm_len e
    have hlen : (bClass x).length = (bTxt x.Name).length + ((bTxt x.Super).length + (1 + (x.Fields.flatMap bField).length + (1 + (x.Methods.flatMap bMeth).length))) := by
      simp only [bClass, bLst, List.length_append, List.length_cons]; omega
    have q3 : (bTxt x.Name).length = x.Name.length + 1 := rfl
    have q4 : (bTxt x.Super).length = x.Super.length + 1 := rfl
    rw [hlen] at hb
    rw [R_ImageOf_L1, lt_t (List.getElem?_eq_some_iff.1 hx).1, cond_true, idx_at hx, Option.bind_some, rTxt q1, Option.bind_some, rTxt q2, Option.bind_some, cat_ok (by omega), Option.bind_some,
      show R_Count (x.Fields.length : Int) = some [b8 (x.Fields.length : Int)] from rfl, Option.bind_some, cat_ok (by simp only [List.length_append, List.length_cons, List.length_nil]; omega), Option.bind_some,
      cat_ok (by simp only [List.length_append, List.length_cons, List.length_nil]; omega), Option.bind_some, rFields hF hc _ (by simp only [List.length_append, List.length_cons, List.length_nil]; omega), Option.bind_some,
      show R_Count (x.Methods.length : Int) = some [b8 (x.Methods.length : Int)] from rfl, Option.bind_some, cat_ok (by simp only [List.length_append, List.length_cons, List.length_nil]; omega), Option.bind_some,
      rMeths hF hc _ (by simp only [List.length_append, List.length_cons, List.length_nil]; omega), Option.bind_some, Option.bind_some]
    congr 1
    simp [bClass, bLst, List.append_assoc]
  rw [key, Option.bind_some]
  rfl
end
set_option maxRecDepth 100000 in
theorem image_begun (F : Nat) : L_imageBegun (F + 60) = some true := by kernel_rfl
theorem plain_ImageWrites (l : List Class) (h0 : l.length * 80 ≤ Go.reachBytes ∧ ∀ x ∈ l, Go.Proofs.Ytfbkanhgjpdohaa.Ok_Class Go.reachBytes x) : ∃ F, L_ImageWrites F l = some true := by
  refine ⟨140737488355940 + 60, ?_⟩
  have hf : Fits (140737488355940 + 60) l := fits_of h0
  unfold L_ImageWrites
  rw [image_Write_eq (F := 140737488355940 + 56) hf (fun h => Nat.le_trans (bImg_len h) (by decide)), Option.bind_some, R_CheckClasses_eq hf, Option.bind_some, image_begun, image_Check_eq hf]
  by_cases h : chk l = 0
  · rw [if_pos h, decide_eq_true h, cond_true, R_ImageOf_eq (by omega) h, Option.bind_some, h]
    by_cases h2 : 20000 < (bImg l).length
    · rw [if_pos h2, decide_eq_true (show (20000 : Int) < ((bImg l).length : Int) by omega)]
      simp [L_textIs]
    · rw [if_neg h2, decide_eq_false (show ¬ (20000 : Int) < ((bImg l).length : Int) by omega)]
      simp [L_textIs]
  · rw [if_neg h, decide_eq_false h]
    simp [L_textIs, h]
end Cin
namespace Go.Proofs.Ytfbkanhgjpdohaa.imageWrites
open Go Go.ChangeShapes Go.WideShapes Go.ChangeAt Go.RowKit
theorem own : ownKnob Try.prog.godebug = none := by kernel_rfl
set_option maxRecDepth 100000 in
theorem contract (H : Type) (enc : TypeId × Value → H) (W : World) (base : Nat) (args : Array Value) (ds gs : List (DataW H)) (before : List MemPlace)
    (hval : ∀ (j : Nat) t v, Try.f3.params[j]? = some t → args[j]? = some v → Value.okWide Try.prog W .any base t v)
    (hW : DataW.Whole enc Try.prog Try.f3.params.toList Rows.imageWritesSpec.vars false W args.toList ds gs before) (hsz0 : ∀ n ∈ DataW.weightsEach Try.prog Try.f3.params.toList ds, n ≤ reachBytes) :
    Calls Try.prog 3 args W fun e W' => ∃ v, e = .returned v ∧ Rows.imageWritesSpec.post enc Try.prog Try.f3 false true false false W args v W' := by
  have hW' := hW
  have hlt := hW.lt
  obtain ⟨p, q, hA0, hV, hpq, hfz, hnd⟩ := hW
  have hA : DataW.TrodAll enc Try.prog W 0 (fun _ => true) true Try.f3.params.toList args.toList ds p := hA0
  have hsz := hsz0
  rw [Try.params3] at hA hval hsz
  obtain ⟨v0, vs0, d0, ds0, p0, q0, hargs, rfl, rfl, h0, tr0⟩ := trodAll_cons hA
  obtain ⟨rfl, rfl, rfl⟩ := trodAll_nil tr0
  obtain rfl : args = #[v0] := by cases args; simp_all
  obtain ⟨rfl, rfl⟩ := trodVars_none hV
  have rr0 := rds_sl22 (enc := enc) (N := reachBytes)
  have rq0 := Gg.arg_rds rr0 h0 (fun x hx => hlt x (by subst hpq; simp [hx]))
  have rs0 := rq0 (fun m hm => hsz m (by simp only [DataW.weightsEach, List.mem_append]; simp [hm]))
  obtain ⟨d0, r0, k0⟩ := rs0
  obtain ⟨a0, n0, c0, rfl⟩ := okWide_slice Try.underlying22 (hval 0 22 v0 rfl rfl)
  obtain ⟨A0, C0, e0⟩ := Gg.slice_cs r0
  obtain ⟨rfl, rfl, rfl⟩ := Value.slice.inj (List.cons.inj e0).1
  obtain ⟨F, hF⟩ := Cin.plain_ImageWrites d0 k0
  refine (c_L_ImageWrites (X := []) (W := W) ⟨Gg.Ev.refl _ _, fun _ hk => absurd hk (List.not_mem_nil), fun _ hk => absurd hk (List.not_mem_nil), fun _ hx => absurd hx (List.not_mem_nil), List.nodup_nil, fun y hy => by cases List.mem_singleton.1 hy; exact r0⟩ hF).mono fun e W' ⟨he, hv⟩ => ?_
  exact ⟨_, he, Gg.post_true hW' (by kernel_rfl) (by kernel_rfl) rfl rfl Try.underlying4 rfl hv.ev⟩
theorem laid_met (os : Os) : laidMet Try.prog Rows.imageWritesRow.laid ((World.holding Try.prog os ⟨#[], #[], []⟩).forCall (fun _ _ => 0) ⟨#[], #[.slice none 0 0], []⟩).memory :=
  laidMet_of_run' 8 (by kernel_rfl) (by kernel_rfl)
theorem reads (os : Os) {H : Type} (enc : TypeId × Value → H) : ∃ places, DataW.whole enc Try.prog ((World.holding Try.prog os ⟨#[], #[], []⟩).forCall (fun _ _ => 0) ⟨#[], #[.slice none 0 0], []⟩).memory Try.f3.params.toList Rows.imageWritesSpec.vars false (#[.slice none 0 0] : Array Value).toList 8 = some ([.nil], [], places) :=
  ⟨[], by kernel_rfl⟩
set_option maxRecDepth 100000 in
theorem lifted (os : Os) (started : os.Started) (H : Type) (enc : TypeId × Value → H) (F : Stop.Interp) :
    ReturnsInHanded {} Try.checked os 3 .any ((OpenSpec.ofChange Rows.imageWritesSpec).preRow enc Try.prog Try.f3 Rows.imageWritesRow.domain false Rows.imageWritesRow.laid) (((OpenSpec.ofChange Rows.imageWritesSpec).at F).post enc Try.prog Try.f3 false true false false) := by
  obtain ⟨places, hx⟩ := reads os enc
  refine returnsInHanded_of_row (C := Try.checked) (s := OpenSpec.ofChange Rows.imageWritesSpec) own started (by kernel_rfl) Try.func3
    (witness_row_at (enc := enc) (C := Try.checked) false (World.holding Try.prog os ⟨#[], #[], []⟩) #[.slice none 0 0] rfl (by kernel_rfl) (by kernel_rfl) (by kernel_rfl)
      (OpenSpec.preRow_of_cond 8 hx (by kernel_rfl) (fun k hk => by cases hk) (by kernel_rfl) (laid_met os))) ?_
  intro W base args ds gs before hval hW _ hcond hwts _ _ _
  exact contract H enc W base args ds gs before hval hW (fun n hn => by obtain ⟨_, _, _, hV, _, _, _⟩ := hW; obtain ⟨rfl, _⟩ := trodVars_none hV; have hw2 : (DataW.weightsEach Try.prog (Try.f3.params.toList ++ []) (ds ++ [])).all (· ≤ reachBytes) = true := hwts; rw [List.append_nil, List.append_nil] at hw2; exact of_decide_eq_true (List.all_eq_true.1 hw2 n hn))
theorem said : Rows.ImageWritesSaid :=
  OpenClaim.holds_of_cond 3 Try.f3 rfl rfl rfl rfl rfl rfl rfl ⟨rfl, rfl, rfl, rfl, rfl⟩ rfl rfl rfl rfl rfl (by kernel_rfl) Try.func3 (by kernel_rfl)
    (of_decide_eq_true (by kernel_rfl)) (by unfold Func.isWrapper; first | (rw [if_pos (by decide +kernel)]; kernel_rfl) | (rw [if_neg (by decide +kernel)]; exact ⟨rfl, rfl⟩))
    (fun os started H enc _ F => by rw [OpenClaim.pre_eq_preRow]; exact lifted os started H enc F)
end Go.Proofs.Ytfbkanhgjpdohaa.imageWrites
