/- LAW: THE WALK AND THE PLAIN LAW, JOINED TO THE GIVEN STATEMENT: for every input that the row speaks of, the call returns true and what came in reads as it did. Made by program (liftgen2.py). -/
import Derived.Test.YtfbkanhgjpdohaaZr3
import Derived.KernelRfl
import Derived.Test.YtfbkanhgjpdohaaRows
import Derived.WalkKit
import Derived.ProofKit
import Derived.OpenShut
import Derived.Deep.DeepHandedRow
namespace Cin
def chr (b : UInt8) : Bool := ((((decide (97 ≤ (b.toNat : Int))) && (decide ((b.toNat : Int) ≤ 122))) || ((decide (65 ≤ (b.toNat : Int))) && (decide ((b.toNat : Int) ≤ 90)))) || ((decide (48 ≤ (b.toNat : Int))) && (decide ((b.toNat : Int) ≤ 57)))) || (decide ((b.toNat : Int) = 95))
def isNm (s : List UInt8) : Bool := (s.findSome? fun b => if chr b then none else some ()).isNone && decide (s ≠ []) && decide (s.length ≤ 20)
theorem R_IsName_eq {F : Nat} {s : List UInt8} (h : Small F s.length) : R_IsName F s = some (isNm s) := by
  unfold R_IsName
  have l1 := each (l := s) (L := R_IsName_L1 s) (fun b => if chr b then none else some false) h.1 (fun k i x hx => by
    rw [R_IsName_L1, lt_t (List.getElem?_eq_some_iff.1 hx).1, cond_true, idx_at hx, Option.bind_some]
    show cond (!chr x) _ _ = _
    cases chr x <;> rfl) (fun k => by rw [R_IsName_L1, lt_f]; rfl) h.2
  rw [l1]
  unfold isNm
  have e : ∀ s : List UInt8, s.findSome? (fun b => if chr b then none else some false) = (s.findSome? (fun b => if chr b then none else some ())).map (fun _ => false) := by
    intro s
    induction s with
    | nil => rfl
    | cons b r ih => simp only [List.findSome?_cons]; cases chr b <;> simp [ih]
  rw [e]
  cases s.findSome? (fun b => if chr b then none else some ()) with
  | some _ => rfl
  | none =>
    simp only [Option.map_none, wo, seqR_go, Option.isNone_none, Bool.true_and]
    congr 1
    rw [Bool.eq_iff_iff]
    cases s <;> first | (simp; done) | (simp; omega)
theorem image_IsName_eq {F : Nat} {s : List UInt8} (h : Small F s.length) : image_IsName F s = some (isNm s) := by
  rw [← R_IsName_eq h]
  unfold image_IsName R_IsName bytesOf
  rw [if_pos h.1, Option.bind_some]
  have e : ∀ k n, image_IsName_L1 s k n = R_IsName_L1 s k n := by
    intro k
    induction k with
    | zero => intro n; rfl
    | succ k ih =>
      intro n
      rw [image_IsName_L1, R_IsName_L1]
      simp only [ih]
      congr 1
      congr 1
      funext b
      have hc : (((((decide ((b.toNat : Int) < 97)) || (decide (122 < (b.toNat : Int)))) && ((decide ((b.toNat : Int) < 65)) || (decide (90 < (b.toNat : Int))))) && ((decide ((b.toNat : Int) < 48)) || (decide (57 < (b.toNat : Int))))) && (!decide ((b.toNat : Int) = 95))) = !chr b := by
        unfold chr
        rw [Bool.eq_iff_iff]
        first | (simp; done) | (simp; omega)
      rw [hc]; rfl
  rw [e]
  cases R_IsName_L1 s F 0 with
  | none => rfl
  | some w =>
    cases w with
    | out r => rfl
    | go u =>
      simp only [seqR_go]
      congr 1
      rw [Bool.eq_iff_iff]
      cases s <;> first | (simp; done) | (simp; omega)
def kindOk (k : Kind) : Bool := if k.Kind = 3 ∨ k.Kind = 4 then isNm k.Class else (decide (k.Kind = 1) || decide (k.Kind = 2)) && decide (k.Class = [])
theorem image_isKind_eq {F : Nat} {k : Kind} (h : Small F k.Class.length) : image_isKind F k = some (kindOk k) := by
  unfold image_isKind image_named kindOk
  simp only [Option.bind_some, image_IsName_eq h]
  by_cases h3 : k.Kind = 3 ∨ k.Kind = 4
  · rw [if_pos h3]
    rcases h3 with e | e <;> simp [e]
  · rw [if_neg h3]
    have e3 : ¬ k.Kind = 3 := fun e => h3 (.inl e)
    have e4 : ¬ k.Kind = 4 := fun e => h3 (.inr e)
    simp [e3, e4]
theorem R_RightKind_eq {F : Nat} {k : Kind} (h : Small F k.Class.length) : R_RightKind F k = some (kindOk k) := by
  unfold R_RightKind kindOk
  simp only [R_IsName_eq h, Option.bind_some]
  by_cases h3 : k.Kind = 3 ∨ k.Kind = 4
  · rw [if_pos h3]
    rcases h3 with e | e <;> simp [e]
  · rw [if_neg h3]
    have e3 : ¬ k.Kind = 3 := fun e => h3 (.inl e)
    have e4 : ¬ k.Kind = 4 := fun e => h3 (.inr e)
    by_cases h1 : k.Kind = 1
    · simp [h1]
    · by_cases h2 : k.Kind = 2
      · simp [h2]
      · simp [e3, e4, h1, h2]
def wi (n a b : Int) : Bool := decide (a ≤ n) && decide (n ≤ b)
def hErr (h : Handler) : Option Int := if isNm h.Class then (if wi h.From 0 200 && wi h.To 0 200 && wi h.At 0 200 then none else some 3) else some 1
def kErr (k : Kind) : Option Int := if kindOk k then none else some 7
def mErr (m : Method) : Int :=
  if isNm m.Name then
    if 4 < m.Args.length ∨ 200 < m.Code.length ∨ 4 < m.Handlers.length then 2
    else if wi m.Stack 0 10 && wi m.Locals 0 10 then
      match m.Args.findSome? kErr with
      | some e => e
      | none => if m.Returns = ⟨0, []⟩ ∨ kindOk m.Returns = true then (m.Handlers.findSome? hErr).getD 0 else 7
    else 3
  else 1
structure Method.Fits (F : Nat) (m : Method) : Prop where
  name : Small F m.Name.length
  args : Small F m.Args.length
  arg : ∀ k ∈ m.Args, Small F k.Class.length
  ret : Small F m.Returns.Class.length
  hands : Small F m.Handlers.length
  hand : ∀ h ∈ m.Handlers, Small F h.Class.length
structure Class.Fits (F : Nat) (c : Class) : Prop where
  name : Small F c.Name.length
  super : Small F c.Super.length
  fields : Small F c.Fields.length
  field : ∀ f ∈ c.Fields, Small F f.Name.length ∧ Small F f.Kind.Class.length
  methods : Small F c.Methods.length
  method : ∀ m ∈ c.Methods, m.Fits F
def Fits (F : Nat) (l : List Class) : Prop := Small F l.length ∧ ∀ c ∈ l, c.Fits F
theorem way_getD {F : Nat} (o : Option Int) (d : Int) : seqR (α := Unit) (some (wo o)) (fun _ => some d) = some (o.getD d) := by cases o <;> rfl
theorem way_seq {o : Option Int} {k : Option Int} : seqR (α := Unit) (some (wo o)) (fun _ => k) = (match o with | some e => some e | none => k) := by cases o <;> rfl
theorem image_method_eq {F : Nat} {m : Method} (h : m.Fits F) : image_method F m = some (mErr m) := by
  have l1 : image_method_L1 F m F 0 = some (wo (m.Args.findSome? kErr)) := each kErr h.args.1 (fun k i x hx => by
    rw [image_method_L1, lt_t (List.getElem?_eq_some_iff.1 hx).1, cond_true, idx_at hx, Option.bind_some, image_isKind_eq (h.arg x (List.mem_of_getElem? hx)), Option.bind_some]
    unfold kErr
    show cond (!kindOk x) _ _ = _
    cases kindOk x <;> rfl) (fun k => by rw [image_method_L1, lt_f]; rfl) h.args.2
  have hl : ∀ {x : Handler} (_ : x ∈ m.Handlers) (Y : Option (Way Int Unit)), ((image_IsName F x.Class).bind fun r204_ =>
    cond (!r204_) (some (.out 1)) ((image_within x.From 0 200).bind fun r207_ =>
    cond (!r207_) (some (.out 3)) ((image_within x.To 0 200).bind fun r210_ =>
    cond (!r210_) (some (.out 3)) ((image_within x.At 0 200).bind fun r213_ =>
    cond (!r213_) (some (.out 3)) Y)))) = wm (hErr x) Y := by
    intro x hx Y
    rw [image_IsName_eq (h.hand x hx)]
    unfold hErr image_within
    simp only [Option.bind_some]
    show cond (!isNm x.Class) _ (cond (!wi x.From 0 200) _ (cond (!wi x.To 0 200) _ (cond (!wi x.At 0 200) _ _))) = _
    cases isNm x.Class <;> cases wi x.From 0 200 <;> cases wi x.To 0 200 <;> cases wi x.At 0 200 <;> rfl
  have l2 : image_method_L2 F m F 0 = some (wo (m.Handlers.findSome? hErr)) := each hErr h.hands.1 (fun k i x hx => by
    rw [image_method_L2, lt_t (List.getElem?_eq_some_iff.1 hx).1, cond_true, idx_at hx, Option.bind_some]
    exact hl (List.mem_of_getElem? hx) _) (fun k => by rw [image_method_L2, lt_f]; rfl) h.hands.2
  have l3 : image_method_L3 F m F 0 = some (wo (m.Handlers.findSome? hErr)) := each hErr h.hands.1 (fun k i x hx => by
    rw [image_method_L3, lt_t (List.getElem?_eq_some_iff.1 hx).1, cond_true, idx_at hx, Option.bind_some]
    exact hl (List.mem_of_getElem? hx) _) (fun k => by rw [image_method_L3, lt_f]; rfl) h.hands.2
  unfold image_method image_within mErr
  rw [image_IsName_eq h.name, l1, l2, l3]
  have hk := image_isKind_eq (F := F) (k := (⟨m.Returns.Kind, m.Returns.Class⟩ : Kind)) h.ret
  simp only [Option.bind_some, hk, way_getD (F := F), way_seq]
  cases isNm m.Name with
  | false => rfl
  | true =>
    simp only [Bool.not_true, cond_false, if_true]
    by_cases hm : 4 < m.Args.length ∨ 200 < m.Code.length ∨ 4 < m.Handlers.length
    · rw [if_pos hm]
      have : ((decide (4 < (m.Args.length : Int))) || (decide (200 < (m.Code.length : Int))) || (decide (4 < (m.Handlers.length : Int)))) = true := by
        simp; omega
      rw [this]; rfl
    · rw [if_neg hm]
      have : ((decide (4 < (m.Args.length : Int))) || (decide (200 < (m.Code.length : Int))) || (decide (4 < (m.Handlers.length : Int)))) = false := by
        simp; omega
      rw [this]
      show cond (!wi m.Stack 0 10) _ (cond (!wi m.Locals 0 10) _ _) = _
      cases wi m.Stack 0 10 <;> cases wi m.Locals 0 10 <;> try rfl
      simp only [Bool.not_true, cond_false, Bool.and_self, if_true]
      cases m.Args.findSome? kErr with
      | some e => rfl
      | none =>
        simp only
        by_cases hr : m.Returns = ⟨0, []⟩
        · rw [if_pos (.inl hr), show (decide ((⟨m.Returns.Kind, m.Returns.Class⟩ : Kind) = ⟨0, []⟩)) = true from decide_eq_true hr]
          rfl
        · rw [show (decide ((⟨m.Returns.Kind, m.Returns.Class⟩ : Kind) = ⟨0, []⟩)) = false from decide_eq_false hr]
          simp only [Bool.not_false, cond_true]
          show cond (!kindOk m.Returns) _ _ = _
          cases hkk : kindOk m.Returns with
          | true => rw [if_pos (.inr rfl)]; rfl
          | false => rw [if_neg (by simp [hr])]; rfl
theorem R_CheckMethod_eq {F : Nat} {m : Method} (h : m.Fits F) : R_CheckMethod F m = some (mErr m) := by
  have l1 : R_CheckMethod_L1 F m F 0 = some (wo (m.Args.findSome? kErr)) := each kErr h.args.1 (fun k i x hx => by
    rw [R_CheckMethod_L1, lt_t (List.getElem?_eq_some_iff.1 hx).1, cond_true, idx_at hx, Option.bind_some, R_RightKind_eq (h.arg x (List.mem_of_getElem? hx)), Option.bind_some]
    unfold kErr
    cases kindOk x <;> rfl) (fun k => by rw [R_CheckMethod_L1, lt_f]; rfl) h.args.2
  have l2 : R_CheckMethod_L2 F m F 0 = some (wo (m.Handlers.findSome? hErr)) := each hErr h.hands.1 (fun k i x hx => by
    rw [R_CheckMethod_L2, lt_t (List.getElem?_eq_some_iff.1 hx).1, cond_true, idx_at hx, Option.bind_some, R_IsName_eq (h.hand x (List.mem_of_getElem? hx))]
    unfold hErr R_between
    simp only [Option.bind_some]
    show cond (!isNm x.Class) _ (cond (!wi x.From 0 200) _ (cond (!wi x.To 0 200) _ (cond (!wi x.At 0 200) _ _))) = _
    cases isNm x.Class <;> cases wi x.From 0 200 <;> cases wi x.To 0 200 <;> cases wi x.At 0 200 <;> rfl) (fun k => by rw [R_CheckMethod_L2, lt_f]; rfl) h.hands.2
  unfold R_CheckMethod R_between mErr
  rw [R_IsName_eq h.name, l1, l2]
  have hk := R_RightKind_eq (F := F) (k := (⟨m.Returns.Kind, m.Returns.Class⟩ : Kind)) h.ret
  simp only [Option.bind_some, hk, way_getD (F := F), way_seq]
  cases isNm m.Name with
  | false => rfl
  | true =>
    simp only [Bool.not_true, cond_false, if_true]
    by_cases hm : 4 < m.Args.length ∨ 200 < m.Code.length ∨ 4 < m.Handlers.length
    · rw [if_pos hm]
      have : ((decide (4 < (m.Args.length : Int))) || (decide (200 < (m.Code.length : Int))) || (decide (4 < (m.Handlers.length : Int)))) = true := by
        simp; omega
      rw [this]; rfl
    · rw [if_neg hm]
      have : ((decide (4 < (m.Args.length : Int))) || (decide (200 < (m.Code.length : Int))) || (decide (4 < (m.Handlers.length : Int)))) = false := by
        simp; omega
      rw [this]
      show cond (!wi m.Stack 0 10) _ (cond (!wi m.Locals 0 10) _ _) = _
      cases wi m.Stack 0 10 <;> cases wi m.Locals 0 10 <;> try rfl
      simp only [Bool.not_true, cond_false, Bool.and_self, if_true]
      cases m.Args.findSome? kErr with
      | some e => rfl
      | none =>
        simp only
        show cond ((!kindOk m.Returns) && _) _ _ = _
        by_cases hr : m.Returns = ⟨0, []⟩
        · rw [if_pos (.inl hr), hr]
          simp
        · have hne : ((!decide (m.Returns.Kind = 0)) || (!decide (m.Returns.Class = []))) = true := by
            rcases hh : m.Returns with ⟨a, b⟩
            rw [hh] at hr
            by_cases ha : a = 0
            · by_cases hb : b = []
              · subst ha; subst hb; exact absurd rfl hr
              · simp [hb]
            · simp [ha]
          rw [hne]
          cases hkk : kindOk m.Returns with
          | true => rw [if_pos (.inr rfl)]; rfl
          | false => rw [if_neg (by simp [hr])]; rfl
end Cin
namespace Cin
def fErr (f : Field) : Option Int := if isNm f.Name then (if kindOk f.Kind then none else some 7) else some 1
def nz (e : Int) : Option Int := if e = 0 then none else some e
def mE (m : Method) : Option Int := nz (mErr m)
def cErr (c : Class) : Int :=
  if isNm c.Name && (decide (c.Super = []) || isNm c.Super) then
    if 6 < c.Fields.length ∨ 8 < c.Methods.length then 2
    else (c.Fields.findSome? fErr).getD ((c.Methods.findSome? mE).getD 0)
  else 1
def cE (c : Class) : Option Int := nz (cErr c)
def chk (l : List Class) : Int := if 10 < l.length then 2 else (l.findSome? cE).getD 0
def om {ρ : Type} (o : Option ρ) (y : Option ρ) : Option ρ := match o with
  | some e => some e
  | none => y
theorem nz_wm {e : Int} {Y : Option (Way Int Unit)} : cond (!decide (e = 0)) (some (.out e)) Y = wm (nz e) Y := by
  unfold nz wm
  by_cases h : e = 0
  · rw [if_pos h, decide_eq_true h]; rfl
  · rw [if_neg h, decide_eq_false h]; rfl
theorem dec2 {a b : Nat} (x y : Nat) : ((decide ((x : Int) < (a : Int))) || (decide ((y : Int) < (b : Int)))) = decide (x < a ∨ y < b) := by
  rw [Bool.eq_iff_iff]; simp
theorem so_wo {o : Option Int} {k : Unit → Option (Way Int Unit)} : seqO (α := Unit) (some (wo o)) k = wm o (k ()) := by cases o <;> rfl
theorem sr_wo {ρ : Type} {o : Option ρ} {k : Unit → Option ρ} : seqR (α := Unit) (some (wo o)) k = om o (k ()) := by cases o <;> rfl
section
variable {F : Nat}
theorem image_class_eq {c : Class} (h : c.Fits F) : image_class F c = some (cErr c) := by
  have hf : ∀ {x : Field} (_ : x ∈ c.Fields) (Y : Option (Way Int Unit)), ((image_IsName F x.Name).bind fun r97_ =>
    cond (!r97_) (some (.out 1)) ((image_isKind F (⟨x.Kind.Kind, x.Kind.Class⟩ : Kind)).bind fun r100_ =>
    cond (!r100_) (some (.out 7)) Y)) = wm (fErr x) Y := by
    intro x hx Y
    rw [image_IsName_eq (h.field x hx).1, image_isKind_eq (k := (⟨x.Kind.Kind, x.Kind.Class⟩ : Kind)) (h.field x hx).2]
    unfold fErr
    simp only [Option.bind_some]
    show cond (!isNm x.Name) _ (cond (!kindOk x.Kind) _ _) = _
    cases isNm x.Name <;> cases kindOk x.Kind <;> rfl
  have hm : ∀ {x : Method} (_ : x ∈ c.Methods) (Y : Option (Way Int Unit)), ((image_method F (⟨x.Name, x.Static, x.Args, (⟨x.Returns.Kind, x.Returns.Class⟩ : Kind), x.Stack, x.Locals, x.Code, x.Handlers⟩ : Method)).bind fun r207_ =>
    cond (!decide (r207_ = 0)) (some (.out r207_)) Y) = wm (mE x) Y := by
    intro x hx Y
    have := image_method_eq (F := F) (m := (⟨x.Name, x.Static, x.Args, (⟨x.Returns.Kind, x.Returns.Class⟩ : Kind), x.Stack, x.Locals, x.Code, x.Handlers⟩ : Method)) (h.method x hx)
    rw [this, Option.bind_some]
    exact nz_wm
  have l1 : image_class_L1 F c F 0 = some (wo (c.Fields.findSome? fErr)) := each fErr h.fields.1 (fun k i x hx => by
    rw [image_class_L1, lt_t (List.getElem?_eq_some_iff.1 hx).1, cond_true, idx_at hx, Option.bind_some]; exact hf (List.mem_of_getElem? hx) _) (fun k => by rw [image_class_L1, lt_f]; rfl) h.fields.2
  have l3 : image_class_L3 F c F 0 = some (wo (c.Fields.findSome? fErr)) := each fErr h.fields.1 (fun k i x hx => by
    rw [image_class_L3, lt_t (List.getElem?_eq_some_iff.1 hx).1, cond_true, idx_at hx, Option.bind_some]; exact hf (List.mem_of_getElem? hx) _) (fun k => by rw [image_class_L3, lt_f]; rfl) h.fields.2
  have l2 : image_class_L2 F c F 0 = some (wo (c.Methods.findSome? mE)) := each mE h.methods.1 (fun k i x hx => by
    rw [image_class_L2, lt_t (List.getElem?_eq_some_iff.1 hx).1, cond_true, idx_at hx, Option.bind_some]; exact hm (List.mem_of_getElem? hx) _) (fun k => by rw [image_class_L2, lt_f]; rfl) h.methods.2
  have l4 : image_class_L4 F c F 0 = some (wo (c.Methods.findSome? mE)) := each mE h.methods.1 (fun k i x hx => by
    rw [image_class_L4, lt_t (List.getElem?_eq_some_iff.1 hx).1, cond_true, idx_at hx, Option.bind_some]; exact hm (List.mem_of_getElem? hx) _) (fun k => by rw [image_class_L4, lt_f]; rfl) h.methods.2
  unfold image_class cErr
  rw [image_IsName_eq h.name, image_IsName_eq h.super, l1, l2, l3, l4]
  simp only [Option.bind_some, sr_wo, show (6 : Int) = ((6 : Nat) : Int) from rfl, show (8 : Int) = ((8 : Nat) : Int) from rfl, dec2]
  cases isNm c.Name with
  | false => rfl
  | true =>
    simp only [Bool.not_true, cond_false, Bool.true_and]
    have hrest : ∀ p : Bool, p = decide (6 < c.Fields.length ∨ 8 < c.Methods.length) → cond p (some (2 : Int)) (om (c.Fields.findSome? fErr) (om (c.Methods.findSome? mE) (some 0))) =
        some (if 6 < c.Fields.length ∨ 8 < c.Methods.length then 2 else (c.Fields.findSome? fErr).getD ((c.Methods.findSome? mE).getD 0)) := by
      intro p hp
      subst hp
      by_cases hh : 6 < c.Fields.length ∨ 8 < c.Methods.length
      · rw [if_pos hh, decide_eq_true hh]; rfl
      · rw [if_neg hh, decide_eq_false hh]
        cases c.Fields.findSome? fErr with
        | some e => rfl
        | none => cases c.Methods.findSome? mE <;> rfl
    by_cases hs : c.Super = []
    · rw [decide_eq_true hs]
      simp only [Bool.not_true, cond_false, Bool.true_or, if_true]
      exact hrest _ rfl
    · rw [decide_eq_false hs]
      simp only [Bool.not_false, cond_true, Bool.false_or]
      cases isNm c.Super with
      | false => rfl
      | true =>
        simp only [Bool.not_true, cond_false, if_true]
        exact hrest _ rfl
theorem image_Check_eq {l : List Class} (h : Fits F l) : image_Check F l = some (chk l) := by
  have l1 : image_Check_L1 F l F 0 = some (wo (l.findSome? cE)) := each cE h.1.1 (fun k i x hx => by
    rw [image_Check_L1, lt_t (List.getElem?_eq_some_iff.1 hx).1, cond_true, idx_at hx, Option.bind_some, image_class_eq (c := (⟨x.Name, x.Super, x.Fields, x.Methods⟩ : Class)) (h.2 x (List.mem_of_getElem? hx)), Option.bind_some]
    exact nz_wm) (fun k => by rw [image_Check_L1, lt_f]; rfl) h.1.2
  unfold image_Check chk
  rw [l1, sr_wo]
  by_cases hl : 10 < l.length
  · rw [if_pos hl, decide_eq_true (show (10 : Int) < (l.length : Int) by omega)]; rfl
  · rw [if_neg hl, decide_eq_false (show ¬ (10 : Int) < (l.length : Int) by omega)]
    cases l.findSome? cE <;> rfl
theorem R_CheckClasses_eq {l : List Class} (h : Fits F l) : R_CheckClasses F l = some (chk l) := by
  have body : ∀ {c : Class} (_ : c.Fits F) , R_CheckClasses_L2 F c F 0 = some (wo (c.Fields.findSome? fErr)) ∧ R_CheckClasses_L4 F c F 0 = some (wo (c.Fields.findSome? fErr)) ∧ R_CheckClasses_L3 F c F 0 = some (wo (c.Methods.findSome? mE)) ∧ R_CheckClasses_L5 F c F 0 = some (wo (c.Methods.findSome? mE)) := by
    intro c hc
    have hf : ∀ {x : Field} (_ : x ∈ c.Fields) (i : Int) (_ : idx c.Fields i = some x) (Y : Option (Way Int Unit)), ((R_IsName F x.Name).bind fun r97_ =>
      cond (!r97_) (some (.out 1)) ((idx c.Fields i).bind fun x => (R_RightKind F (⟨x.Kind.Kind, x.Kind.Class⟩ : Kind)).bind fun r100_ =>
      cond (!r100_) (some (.out 7)) Y)) = wm (fErr x) Y := by
      intro x hx i hi Y
      rw [R_IsName_eq (hc.field x hx).1, hi]
      unfold fErr
      simp only [Option.bind_some]
      rw [R_RightKind_eq (k := (⟨x.Kind.Kind, x.Kind.Class⟩ : Kind)) (hc.field x hx).2, Option.bind_some]
      show cond (!isNm x.Name) _ (cond (!kindOk x.Kind) _ _) = _
      cases isNm x.Name <;> cases kindOk x.Kind <;> rfl
    have hm : ∀ {x : Method} (_ : x ∈ c.Methods) (Y : Option (Way Int Unit)), ((R_CheckMethod F x).bind fun r207_ =>
      cond (!decide (r207_ = 0)) (some (.out r207_)) Y) = wm (mE x) Y := by
      intro x hx Y
      rw [R_CheckMethod_eq (hc.method x hx), Option.bind_some]
      exact nz_wm
    refine ⟨each fErr hc.fields.1 (fun k i x hx => ?_) (fun k => by rw [R_CheckClasses_L2, lt_f]; rfl) hc.fields.2, each fErr hc.fields.1 (fun k i x hx => ?_) (fun k => by rw [R_CheckClasses_L4, lt_f]; rfl) hc.fields.2,
      each mE hc.methods.1 (fun k i x hx => ?_) (fun k => by rw [R_CheckClasses_L3, lt_f]; rfl) hc.methods.2, each mE hc.methods.1 (fun k i x hx => ?_) (fun k => by rw [R_CheckClasses_L5, lt_f]; rfl) hc.methods.2⟩
    · rw [R_CheckClasses_L2, lt_t (List.getElem?_eq_some_iff.1 hx).1, cond_true, idx_at hx, Option.bind_some]; rw [← idx_at hx]; exact hf (List.mem_of_getElem? hx) _ (idx_at hx) _
    · rw [R_CheckClasses_L4, lt_t (List.getElem?_eq_some_iff.1 hx).1, cond_true, idx_at hx, Option.bind_some]; rw [← idx_at hx]; exact hf (List.mem_of_getElem? hx) _ (idx_at hx) _
    · rw [R_CheckClasses_L3, lt_t (List.getElem?_eq_some_iff.1 hx).1, cond_true, idx_at hx, Option.bind_some]; exact hm (List.mem_of_getElem? hx) _
    · rw [R_CheckClasses_L5, lt_t (List.getElem?_eq_some_iff.1 hx).1, cond_true, idx_at hx, Option.bind_some]; exact hm (List.mem_of_getElem? hx) _
  have l1 : R_CheckClasses_L1 F l F 0 = some (wo (l.findSome? cE)) := each cE h.1.1 (fun k i c hx => by
    have hc := h.2 c (List.mem_of_getElem? hx)
    obtain ⟨b2, b4, b3, b5⟩ := body hc
    rw [R_CheckClasses_L1, lt_t (List.getElem?_eq_some_iff.1 hx).1, cond_true, idx_at hx, Option.bind_some, R_IsName_eq hc.name, R_IsName_eq hc.super, b2, b3, b4, b5]
    simp only [Option.bind_some, so_wo, show (6 : Int) = ((6 : Nat) : Int) from rfl, show (8 : Int) = ((8 : Nat) : Int) from rfl, dec2]
    unfold cE cErr
    cases isNm c.Name with
    | false => rfl
    | true =>
      simp only [Bool.not_true, cond_false, Bool.true_and]
      have hrest : ∀ (p : Bool) (Y : Option (Way Int Unit)), p = decide (6 < c.Fields.length ∨ 8 < c.Methods.length) → seqO (α := Unit) (cond p (some (.out (2 : Int))) (wm (c.Fields.findSome? fErr) (wm (c.Methods.findSome? mE) (some (.go ()))))) (fun _ => Y) =
          wm (nz (if 6 < c.Fields.length ∨ 8 < c.Methods.length then 2 else (c.Fields.findSome? fErr).getD ((c.Methods.findSome? mE).getD 0))) Y := by
        intro p Y hp
        subst hp
        by_cases hh : 6 < c.Fields.length ∨ 8 < c.Methods.length
        · rw [if_pos hh, decide_eq_true hh]; rfl
        · rw [if_neg hh, decide_eq_false hh, cond_false]
          have hfe : ∀ e, c.Fields.findSome? fErr = some e → nz e = some e := by
            intro e he
            obtain ⟨x, _, hx⟩ := List.exists_of_findSome?_eq_some he
            unfold fErr at hx
            split at hx
            · split at hx
              · cases hx
              · injection hx with hx; subst hx; rfl
            · injection hx with hx; subst hx; rfl
          have hme : ∀ e, c.Methods.findSome? mE = some e → nz e = some e := by
            intro e he
            obtain ⟨x, _, hx⟩ := List.exists_of_findSome?_eq_some he
            unfold mE at hx
            unfold nz at hx ⊢
            split at hx
            · cases hx
            · rename_i hn; injection hx with hx; subst hx; rw [if_neg hn]
          cases hf : c.Fields.findSome? fErr with
          | some e => simp only [Option.getD_some, hfe e hf]; rfl
          | none =>
            cases hm : c.Methods.findSome? mE with
            | some e => simp only [Option.getD_some, Option.getD_none, hme e hm]; rfl
            | none => rfl
      by_cases hs : c.Super = []
      · rw [decide_eq_true hs]
        simp only [Bool.not_true, cond_false, Bool.true_or, if_true]
        exact hrest _ _ rfl
      · rw [decide_eq_false hs]
        simp only [Bool.not_false, cond_true, Bool.false_or]
        cases isNm c.Super with
        | false => rfl
        | true =>
          simp only [Bool.not_true, cond_false, if_true]
          exact hrest _ _ rfl) (fun k => by rw [R_CheckClasses_L1, lt_f]; rfl) h.1.2
  unfold R_CheckClasses chk
  rw [l1, sr_wo]
  by_cases hl : 10 < l.length
  · rw [if_pos hl, decide_eq_true (show (10 : Int) < (l.length : Int) by omega)]; rfl
  · rw [if_neg hl, decide_eq_false (show ¬ (10 : Int) < (l.length : Int) by omega)]
    cases l.findSome? cE <;> rfl
end
end Cin
namespace Cin
abbrev M47 : Nat := 140737488355328
def mkw (a : Bool) (b : List UInt8) : image_writer := ⟨⟨a, b⟩⟩
def Wr (f : image_writer → Option image_writer) (bs : List UInt8) : Prop := ∀ a b, b.length + bs.length ≤ M47 → f (mkw a b) = some (mkw true (b ++ bs))
theorem Wr.seq {f g : image_writer → Option image_writer} {x y : List UInt8} (hf : Wr f x) (hg : Wr g y) : Wr (fun w => (f w).bind fun r => g r) (x ++ y) := by
  intro a b h
  rw [List.length_append] at h
  show (f (mkw a b)).bind _ = _
  rw [hf a b (by omega), Option.bind_some, hg true (b ++ x) (by rw [List.length_append]; omega), List.append_assoc]
theorem Wr.ret {f : image_writer → Option image_writer} {x : List UInt8} (h : Wr f x) : Wr (fun w => (f w).bind fun r => some r) x := by
  intro a b hb
  show (f (mkw a b)).bind _ = _
  rw [h a b hb]
  rfl
end Cin
namespace Cin
set_option maxRecDepth 100000 in
theorem image_begun (F : Nat) : L_imageBegun (F + 60) = some true := by kernel_rfl
end Cin
namespace Cin
abbrev Ps (α : Type) := List UInt8 → Option (α × List UInt8)
def pR {α : Type} (x : α) : Ps α := fun s => some (x, s)
def pB {α β : Type} (p : Ps α) (f : α → Ps β) : Ps β := fun s => match p s with
  | none => none
  | some (x, r) => f x r
def pTake (n : Int) : Ps (List UInt8) := fun s => if n ≤ s.length then some (s.take n.toNat, s.drop n.toNat) else none
def pCnt : Ps Int := fun s => match s with
  | [] => none
  | b :: r => some ((b.toNat : Int), r)
def pTwo : Ps Int := fun s => match s with
  | a :: b :: r => some (256 * (a.toNat : Int) + (b.toNat : Int), r)
  | _ => none
def pTxt : Ps (List UInt8) := pB pCnt pTake
def pYes : Ps Bool := pB pCnt fun n => if 1 < n then fun _ => none else pR (decide (n = 1))
def nmI (n : Int) : Bool := (decide (n = 3)) || (decide (n = 4))
def pKind : Ps Kind := pB pCnt fun n => if nmI n then pB pTxt fun t => pR ⟨n, t⟩ else pR ⟨n, []⟩
def pField : Ps Field := pB pTxt fun t => pB pKind fun k => pR ⟨t, k⟩
def pHand : Ps Handler := pB pTwo fun a => pB pTwo fun b => pB pTwo fun c => pB pTxt fun t => pR ⟨a, b, c, t⟩
def pRep {α : Type} (p : Ps α) : Nat → Ps (List α)
  | 0 => pR []
  | n + 1 => pB p fun x => pB (pRep p n) fun l => pR (x :: l)
def pLst {α : Type} (p : Ps α) : Ps (List α) := pB pCnt fun n => pRep p n.toNat
def pMeth : Ps Method := pB pTxt fun nm => pB pYes fun st => pB (pLst pKind) fun ar => pB pKind fun rt => pB pCnt fun sk => pB pCnt fun lo => pB pTwo fun n => pB (pTake n) fun co => pB (pLst pHand) fun ha => pR ⟨nm, st, ar, rt, sk, lo, co, ha⟩
def pClass : Ps Class := pB pTxt fun nm => pB pTxt fun su => pB (pLst pField) fun fs => pB (pLst pMeth) fun ms => pR ⟨nm, su, fs, ms⟩
def pImg : Ps (List Class) := pLst pClass
def R3 {α γ : Type} (o : Option γ) (bad : γ) (emb : α → List UInt8 → γ) (p : Ps α) (s : List UInt8) : Prop := o = some (match p s with
  | none => bad
  | some (x, r) => emb x r)
def ro {α : Type} (x : α) (r : List UInt8) : Pn (α × image_reader) := .ok (x, ⟨r⟩)
theorem R3.bind {α β γ : Type} {o : Option (Pn (α × image_reader))} {p : Ps α} {q : α → Ps β} {s : List UInt8} {bad2 : γ} {emb2 : β → List UInt8 → γ} {k : α × image_reader → Option γ} (h : R3 o .bad ro p s)
    (hk : ∀ x r, p s = some (x, r) → R3 (k (x, ⟨r⟩)) bad2 emb2 (q x) r) : R3 (o.bind fun z => pnB z (some bad2) k) bad2 emb2 (pB p q) s := by
  unfold R3 at h ⊢
  rw [h]
  unfold pB
  cases hp : p s with
  | none => rfl
  | some xr => exact hk xr.1 xr.2 hp
theorem R3.ret {α γ : Type} {bad : γ} {emb : α → List UInt8 → γ} (x : α) (s : List UInt8) : R3 (some (emb x s)) bad emb (pR x) s := rfl
theorem r_take {n : Int} (h0 : 0 ≤ n) (s : List UInt8) : R3 (image_reader_take ⟨s⟩ n) .bad ro (pTake n) s := by
  unfold R3 image_reader_take pTake
  by_cases h : n ≤ s.length
  · rw [if_pos h, decide_eq_false (show ¬ (s.length : Int) < n by omega), cond_false, seqR_go]
    have c1 : cut s 0 n = some (s.take n.toNat) := by unfold cut; rw [if_pos ⟨by omega, h0, h⟩]; simp
    have c2 : cut s n (s.length : Int) = some (s.drop n.toNat) := by unfold cut; rw [if_pos ⟨h0, h, by omega⟩]; simp
    show Option.bind (cut s 0 n) _ = _
    rw [c1, Option.bind_some]
    show Option.bind (cut s n (s.length : Int)) _ = _
    rw [c2]
    rfl
  · rw [if_neg h, decide_eq_true (show (s.length : Int) < n by omega)]
    rfl
theorem r_cnt (s : List UInt8) : R3 (image_reader_count ⟨s⟩) .bad ro pCnt s := by
  have h := r_take (n := 1) (by decide) s
  unfold R3 at h ⊢
  unfold image_reader_count
  have h' : image_reader_take (⟨(⟨s⟩ : image_reader).s⟩ : image_reader) 1 = _ := h
  rw [h']
  cases s with
  | nil => rfl
  | cons b r =>
    have h1 : (1 : Int) ≤ ((b :: r).length : Int) := by simp; omega
    have e : pTake 1 (b :: r) = some ([b], r) := by unfold pTake; rw [if_pos h1]; rfl
    rw [e]
    rfl
theorem or_two (a b : UInt8) : orI (shlI (a.toNat : Int) 8) (b.toNat : Int) = 256 * (a.toNat : Int) + (b.toNat : Int) := by
  have ha := a.toNat_lt
  have hb := b.toNat_lt
  have h1 : shlI (a.toNat : Int) 8 = ((a.toNat * 256 : Nat) : Int) := by unfold shlI w64; omega
  rw [h1]
  unfold orI
  have h3 : (BitVec.ofInt 64 ((a.toNat * 256 : Nat) : Int) ||| BitVec.ofInt 64 (b.toNat : Int)).toNat = a.toNat * 256 + b.toNat := by
    rw [BitVec.toNat_or]
    simp only [BitVec.ofInt_natCast, BitVec.toNat_ofNat]
    rw [Nat.mod_eq_of_lt (by omega), Nat.mod_eq_of_lt (by omega)]
    have := Nat.shiftLeft_add_eq_or_of_lt (i := 8) (b := b.toNat) (by omega) a.toNat
    rw [Nat.shiftLeft_eq] at this
    exact this.symm
  rw [h3]
  unfold w64
  omega
theorem r_num (s : List UInt8) : R3 (image_reader_number ⟨s⟩) .bad ro pTwo s := by
  have h := r_take (n := 2) (by decide) s
  unfold R3 at h ⊢
  unfold image_reader_number
  have h' : image_reader_take (⟨(⟨s⟩ : image_reader).s⟩ : image_reader) 2 = _ := h
  rw [h']
  match s with
  | [] => rfl
  | [a] => rfl
  | a :: b :: r =>
    have : (2 : Int) ≤ ((a :: b :: r).length : Int) := by simp; omega
    have e : pTake 2 (a :: b :: r) = some ([a, b], r) := by unfold pTake; rw [if_pos this]; rfl
    rw [e]
    show some (Pn.ok (orI (shlI (a.toNat : Int) 8) (b.toNat : Int), (⟨r⟩ : image_reader))) = _
    rw [or_two]
    rfl
theorem r_txt (s : List UInt8) : R3 (image_reader_text ⟨s⟩) .bad ro pTxt s := by
  unfold image_reader_text
  refine R3.bind (r_cnt s) fun n r hn => ?_
  have h0 : 0 ≤ n := by
    unfold pCnt at hn
    split at hn
    · cases hn
    · simp only [Option.some.injEq, Prod.mk.injEq] at hn; omega
  have h := r_take h0 r
  unfold R3 at h ⊢
  have h' : image_reader_take (⟨(⟨r⟩ : image_reader).s⟩ : image_reader) n = _ := h
  show Option.bind (image_reader_take (⟨r⟩ : image_reader) n) _ = _
  rw [h]
  cases pTake n r <;> rfl
theorem r_yes (s : List UInt8) : R3 (image_reader_yes ⟨s⟩) .bad ro pYes s := by
  unfold image_reader_yes
  refine R3.bind (r_cnt s) fun n r hn => ?_
  show R3 (cond (decide (1 < n)) _ _) _ _ _ _
  by_cases h : 1 < n
  · rw [decide_eq_true h, if_pos h]; rfl
  · rw [decide_eq_false h, if_neg h]; rfl
theorem R3.last {α γ : Type} {o : Option (Pn (α × image_reader))} {p : Ps α} {s : List UInt8} {bad2 : γ} {emb2 : α → List UInt8 → γ} {k : α × image_reader → Option γ} (h : R3 o .bad ro p s)
    (hk : ∀ x r, k (x, ⟨r⟩) = some (emb2 x r)) : R3 (o.bind fun z => pnB z (some bad2) k) bad2 emb2 p s := by
  unfold R3 at h ⊢
  rw [h]
  cases hp : p s with
  | none => rfl
  | some xr => exact hk xr.1 xr.2
theorem r_kind (s : List UInt8) : R3 (image_reader_kind ⟨s⟩) .bad ro pKind s := by
  unfold image_reader_kind
  refine R3.bind (r_cnt s) fun n r hn => ?_
  show R3 (Option.bind (image_named n) _) _ _ _ _
  rw [show image_named n = some (nmI n) from rfl, Option.bind_some]
  cases h : nmI n with
  | true =>
    rw [cond_true, if_pos rfl]
    exact R3.bind (r_txt r) fun t r2 ht => rfl
  | false =>
    rw [cond_false, if_neg (by simp)]
    exact rfl
theorem r_field (s : List UInt8) : R3 (image_reader_field ⟨s⟩) .bad ro pField s := by
  unfold image_reader_field
  exact R3.bind (r_txt s) fun t r _ => R3.bind (r_kind r) fun k r2 _ => rfl
theorem r_hand (s : List UInt8) : R3 (image_reader_handler ⟨s⟩) .bad ro pHand s := by
  unfold image_reader_handler
  exact R3.bind (r_num s) fun a r _ => R3.bind (r_num r) fun b r2 _ => R3.bind (r_num r2) fun c r3 _ => R3.bind (r_txt r3) fun t r4 _ => rfl
theorem r_rep {α : Type} {p : Ps α} {bytes : Nat} {f : image_reader → Option (Pn (α × image_reader))} {L : Nat → List α → List UInt8 → Int → Option (Way (Pn (List α × image_reader)) (List α × List UInt8))} {n : Int} (h0 : 0 ≤ n) (hn : n ≤ 255) (hby : bytes ≤ 1000) (hf : ∀ s, R3 (f ⟨s⟩) .bad ro p s)
    (hL : ∀ k l s i, L (k + 1) l s i = cond (decide (i < n)) ((f ⟨s⟩).bind fun z => pnB z (some (.out .bad)) fun r => (app bytes l [r.1]).bind fun l' => L k l' r.2.s (w64 (i + 1))) (some (.go (l, s)))) {F : Nat} (hF : 300 < F) (s : List UInt8) :
    R3 (L F [] s 0) (.out .bad) (fun x r => .go (x, r)) (pRep p n.toNat) s := by
  have key : ∀ (d : Nat) (i : Nat) (k : Nat) (l : List α) (s : List UInt8), i + d = n.toNat → d < k → l.length = i → R3 (L k l s (i : Int)) (.out .bad) (fun x r => .go (l ++ x, r)) (pRep p d) s := by
    intro d
    induction d with
    | zero =>
      intro i k l s h hk hl
      obtain ⟨k, rfl⟩ : ∃ k', k = k' + 1 := ⟨k - 1, by omega⟩
      rw [hL, decide_eq_false (show ¬ (i : Int) < n by omega), cond_false]
      show some _ = some _
      simp [pRep, pR]
    | succ d ih =>
      intro i k l s h hk hl
      obtain ⟨k, rfl⟩ : ∃ k', k = k' + 1 := ⟨k - 1, by omega⟩
      rw [hL, decide_eq_true (show (i : Int) < n by omega), cond_true]
      refine R3.bind (hf s) fun x r hx => ?_
      have ha : app bytes l [x] = some (l ++ [x]) := by
        unfold app
        have : (l.length + 1) * bytes ≤ 256 * 1000 := Nat.mul_le_mul (by omega) hby
        rw [if_pos (by simpa using Nat.le_trans this (by decide))]
      show R3 ((app bytes l [x]).bind fun l' => L k l' r (w64 ((i : Int) + 1))) _ _ _ _
      rw [ha, Option.bind_some, w64_up (n := 256) (by omega) (by decide)]
      have hh := ih (i + 1) k (l ++ [x]) r (by omega) (by omega) (by simp [hl])
      unfold R3 at hh ⊢
      rw [hh]
      unfold pB
      cases pRep p d r with
      | none => rfl
      | some q => simp [pR]
  have := key n.toNat 0 F [] s (by omega) (by omega) rfl
  simpa using this
theorem cnt_range {s : List UInt8} {n : Int} {r : List UInt8} (h : pCnt s = some (n, r)) : 0 ≤ n ∧ n ≤ 255 := by
  unfold pCnt at h
  split at h
  · cases h
  · rename_i b r'
    have := b.toNat_lt
    simp only [Option.some.injEq, Prod.mk.injEq] at h; omega
theorem r_lst {α : Type} {p : Ps α} {bytes : Nat} {f : image_reader → Option (Pn (α × image_reader))} {L : (Int × image_reader) → Nat → List α → List UInt8 → Int → Option (Way (Pn (List α × image_reader)) (List α × List UInt8))} {g : image_reader → Option (Pn (List α × image_reader))} (hby : bytes ≤ 1000) (hf : ∀ s, R3 (f ⟨s⟩) .bad ro p s)
    (hL : ∀ q k l s i, L q (k + 1) l s i = cond (decide (i < q.1)) ((f ⟨s⟩).bind fun z => pnB z (some (.out .bad)) fun r => (app bytes l [r.1]).bind fun l' => L q k l' r.2.s (w64 (i + 1))) (some (.go (l, s)))) {F : Nat} (hF : 300 < F)
    (hg : ∀ s, g ⟨s⟩ = (image_reader_count ⟨s⟩).bind fun z => pnB z (some .bad) fun q => seqR (L q F [] q.2.s 0) fun x => some (.ok (x.1, ⟨x.2⟩))) (s : List UInt8) : R3 (g ⟨s⟩) .bad ro (pLst p) s := by
  rw [hg]
  refine R3.bind (r_cnt s) fun n r hn => ?_
  obtain ⟨h0, h1⟩ := cnt_range hn
  have h := r_rep (n := n) h0 h1 hby hf (fun k l s i => hL (n, ⟨r⟩) k l s i) hF r
  unfold R3 at h ⊢
  show seqR (L (n, ⟨r⟩) F [] r 0) _ = _
  rw [h]
  cases pRep p n.toNat r <;> rfl
section
variable {F : Nat} (hF : 300 < F)
include hF
theorem r_kinds (s : List UInt8) : R3 (image_read_api_Kind__image_reader_kind F ⟨s⟩) .bad ro (pLst pKind) s :=
  r_lst (bytes := 24) (L := image_read_api_Kind__image_reader_kind_L1) (by decide) r_kind (fun q k l s i => by rw [image_read_api_Kind__image_reader_kind_L1]) hF (fun s => rfl) s
theorem r_hands (s : List UInt8) : R3 (image_read_api_Handler__image_reader_handler F ⟨s⟩) .bad ro (pLst pHand) s :=
  r_lst (bytes := 40) (L := image_read_api_Handler__image_reader_handler_L1) (by decide) r_hand (fun q k l s i => by rw [image_read_api_Handler__image_reader_handler_L1]) hF (fun s => rfl) s
theorem r_fields (s : List UInt8) : R3 (image_read_api_Field__image_reader_field F ⟨s⟩) .bad ro (pLst pField) s :=
  r_lst (bytes := 40) (L := image_read_api_Field__image_reader_field_L1) (by decide) r_field (fun q k l s i => by rw [image_read_api_Field__image_reader_field_L1]) hF (fun s => rfl) s
omit hF in
theorem two_range {s : List UInt8} {n : Int} {r : List UInt8} (h : pTwo s = some (n, r)) : 0 ≤ n := by
  unfold pTwo at h
  split at h
  · simp only [Option.some.injEq, Prod.mk.injEq] at h; omega
  · cases h
theorem r_meth (s : List UInt8) : R3 (image_reader_method F ⟨s⟩) .bad ro pMeth s := by
  unfold image_reader_method
  exact R3.bind (r_txt s) fun _ r1 _ => R3.bind (r_yes r1) fun _ r2 _ => R3.bind (r_kinds hF r2) fun _ r3 _ => R3.bind (r_kind r3) fun _ r4 _ => R3.bind (r_cnt r4) fun _ r5 _ => R3.bind (r_cnt r5) fun _ r6 _ =>
    R3.bind (r_num r6) fun _ r7 h7 => R3.bind (r_take (two_range h7) r7) fun _ r8 _ => R3.bind (r_hands hF r8) fun _ r9 _ => rfl
theorem r_meths (s : List UInt8) : R3 (image_read_api_Method__image_reader_method F ⟨s⟩) .bad ro (pLst pMeth) s :=
  r_lst (bytes := 128) (L := image_read_api_Method__image_reader_method_L1 F) (by decide) (r_meth hF) (fun q k l s i => by rw [image_read_api_Method__image_reader_method_L1]) hF (fun s => rfl) s
theorem r_class (s : List UInt8) : R3 (image_reader_class F ⟨s⟩) .bad ro pClass s := by
  unfold image_reader_class
  exact R3.bind (r_txt s) fun _ r1 _ => R3.bind (r_txt r1) fun _ r2 _ => R3.bind (r_fields hF r2) fun _ r3 _ => R3.bind (r_meths hF r3) fun _ r4 _ => rfl
theorem r_img (s : List UInt8) : R3 (image_read_api_Class__image_reader_class F ⟨s⟩) .bad ro pImg s :=
  r_lst (bytes := 80) (L := image_read_api_Class__image_reader_class_L1 F) (by decide) (r_class hF) (fun q k l s i => by rw [image_read_api_Class__image_reader_class_L1]) hF (fun s => rfl) s
end
end Cin
namespace Cin
def QP {α : Type} (p : Ps α) (Q : α → Prop) : Prop := ∀ s x r, s.length ≤ 20000 → p s = some (x, r) → Q x ∧ r.length ≤ s.length
theorem pB_some {α β : Type} {p : Ps α} {f : α → Ps β} {s : List UInt8} {y : β} {r : List UInt8} (h : pB p f s = some (y, r)) : ∃ x r1, p s = some (x, r1) ∧ f x r1 = some (y, r) := by
  unfold pB at h
  cases hp : p s with
  | none => rw [hp] at h; cases h
  | some xr => rw [hp] at h; exact ⟨xr.1, xr.2, rfl, h⟩
theorem QP.bind {α β : Type} {p : Ps α} {f : α → Ps β} {Q : α → Prop} {Q2 : β → Prop} (h : QP p Q) (hf : ∀ x, Q x → QP (f x) Q2) : QP (pB p f) Q2 := by
  intro s y r hs e
  obtain ⟨x, r1, h1, h2⟩ := pB_some e
  obtain ⟨q1, l1⟩ := h s x r1 hs h1
  obtain ⟨q2, l2⟩ := hf x q1 r1 y r (by omega) h2
  exact ⟨q2, by omega⟩
theorem QP.ret {α : Type} {Q : α → Prop} {x : α} (h : Q x) : QP (pR x) Q := by
  intro s y r _ e
  simp only [pR, Option.some.injEq, Prod.mk.injEq] at e
  obtain ⟨rfl, rfl⟩ := e
  exact ⟨h, Nat.le_refl _⟩
theorem qTake (n : Int) : QP (pTake n) fun t => t.length ≤ 20000 := by
  intro s x r hs e
  unfold pTake at e
  split at e
  · simp only [Option.some.injEq, Prod.mk.injEq] at e
    obtain ⟨rfl, rfl⟩ := e
    exact ⟨by show (s.take n.toNat).length ≤ 20000; rw [List.length_take]; omega, by rw [List.length_drop]; omega⟩
  · cases e
theorem qCnt : QP pCnt fun n => 0 ≤ n ∧ n ≤ 255 := by
  intro s x r hs e
  refine ⟨cnt_range e, ?_⟩
  unfold pCnt at e
  split at e
  · cases e
  · simp only [Option.some.injEq, Prod.mk.injEq] at e
    rw [← e.2]; simp
theorem qTwo : QP pTwo fun _ => True := by
  intro s x r hs e
  refine ⟨trivial, ?_⟩
  unfold pTwo at e
  split at e
  · simp only [Option.some.injEq, Prod.mk.injEq] at e
    rw [← e.2]; simp; omega
  · cases e
theorem qTxt : QP pTxt fun t => t.length ≤ 20000 := qCnt.bind fun n _ => qTake n
theorem qYes : QP pYes fun _ => True := qCnt.bind fun n _ => by
  split
  · intro s x r _ e; cases e
  · exact QP.ret trivial
theorem qKind : QP pKind fun k => k.Class.length ≤ 20000 := qCnt.bind fun n _ => by
  split
  · exact qTxt.bind fun t ht => QP.ret ht
  · exact QP.ret (by simp)
theorem qField : QP pField fun f => f.Name.length ≤ 20000 ∧ f.Kind.Class.length ≤ 20000 := qTxt.bind fun t ht => qKind.bind fun k hk => QP.ret ⟨ht, hk⟩
theorem qHand : QP pHand fun h => h.Class.length ≤ 20000 := qTwo.bind fun _ _ => qTwo.bind fun _ _ => qTwo.bind fun _ _ => qTxt.bind fun t ht => QP.ret ht
theorem qRep {α : Type} {p : Ps α} {Q : α → Prop} (h : QP p Q) : ∀ n, QP (pRep p n) fun l => l.length = n ∧ ∀ x ∈ l, Q x
  | 0 => QP.ret ⟨rfl, fun x hx => by cases hx⟩
  | n + 1 => h.bind fun x hx => (qRep h n).bind fun l hl => QP.ret ⟨by simp [hl.1], fun y hy => by
      rcases List.mem_cons.1 hy with rfl | e
      · exact hx
      · exact hl.2 y e⟩
theorem qLst {α : Type} {p : Ps α} {Q : α → Prop} (h : QP p Q) : QP (pLst p) fun l => l.length ≤ 255 ∧ ∀ x ∈ l, Q x := qCnt.bind fun n hn => fun s x r hs e => by
  obtain ⟨⟨h1, h2⟩, h3⟩ := qRep h n.toNat s x r hs e
  exact ⟨⟨by omega, h2⟩, h3⟩
def rdAns (s : List UInt8) : List Class × Int := if 20000 < s.length then ([], 2) else match pImg s with
    | some (l, []) => if chk l = 0 then (l, 0) else ([], 1)
    | _ => ([], 1)
section
variable {F : Nat} (hF : 20000 < F)
include hF
theorem sm20 {n : Nat} (h : n ≤ 20000) : Small F n := ⟨by omega, by omega⟩
theorem qMeth : QP pMeth fun m => m.Fits F :=
  qTxt.bind fun nm h1 => qYes.bind fun st _ => (qLst qKind).bind fun ar h3 => qKind.bind fun rt h4 => qCnt.bind fun _ _ => qCnt.bind fun _ _ => qTwo.bind fun n _ => (qTake n).bind fun co _ => (qLst qHand).bind fun ha h9 =>
    QP.ret ⟨sm20 hF h1, sm20 hF (Nat.le_trans h3.1 (by decide)), fun k hk => sm20 hF (h3.2 k hk), sm20 hF h4, sm20 hF (Nat.le_trans h9.1 (by decide)), fun h hh => sm20 hF (h9.2 h hh)⟩
theorem qClass : QP pClass fun c => c.Fits F :=
  qTxt.bind fun nm h1 => qTxt.bind fun su h2 => (qLst qField).bind fun fs h3 => (qLst (qMeth hF)).bind fun ms h4 =>
    QP.ret ⟨sm20 hF h1, sm20 hF h2, sm20 hF (Nat.le_trans h3.1 (by decide)), fun f hf => ⟨sm20 hF (h3.2 f hf).1, sm20 hF (h3.2 f hf).2⟩, sm20 hF (Nat.le_trans h4.1 (by decide)), h4.2⟩
theorem qImg : QP pImg fun l => Fits F l := fun s x r hs e => by
  obtain ⟨⟨h1, h2⟩, h3⟩ := qLst (qClass hF) s x r hs e
  exact ⟨⟨sm20 hF (by omega), h2⟩, h3⟩
theorem image_Read_eq (s : List UInt8) : image_Read F s = some (rdAns s) := by
  unfold rdAns
  unfold image_Read
  by_cases h : 20000 < s.length
  · rw [if_pos h, decide_eq_true (show (20000 : Int) < (s.length : Int) by omega)]; rfl
  · rw [if_neg h, decide_eq_false (show ¬ (20000 : Int) < (s.length : Int) by omega), cond_false]
    have hr := r_img (F := F) (by omega) s
    unfold R3 at hr
    rw [hr, Option.bind_some]
    cases hp : pImg s with
    | none => rfl
    | some lr =>
      obtain ⟨l, r⟩ := lr
      have hfit := (qImg hF s l r (by omega) hp).1
      show cond (!decide (r = [])) _ (Option.bind (image_Check F l) _) = _
      cases r with
      | nil =>
        rw [decide_eq_true rfl, Bool.not_true, cond_false, image_Check_eq hfit, Option.bind_some]
        by_cases h0 : chk l = 0
        · simp [h0]
        · simp [h0]
      | cons b r => rfl
end
end Cin
namespace Cin
theorem cmpL {α : Type} [DecidableEq α] {F : Nat} {a b : List α} (hl : a.length = b.length) {L : Nat → Int → Option (Way Bool Unit)} (hn : a.length ≤ 140737488355328)
    (hs : ∀ k (i : Nat) x y, a[i]? = some x → b[i]? = some y → L (k + 1) (i : Int) = cond (!decide (x = y)) (some (.out false)) (L k (w64 ((i : Int) + 1)))) (he : ∀ k, L (k + 1) (a.length : Int) = some (.go ())) (hF : a.length < F) :
    L F 0 = some (if a = b then .go () else .out false) := by
  have l1 : L F 0 = some (wo ((List.range a.length).findSome? fun i => if a[i]? = b[i]? then none else some false)) := eachN _ hn (fun k i hi => by
    rw [hs k i a[i] (b[i]'(by omega)) (List.getElem?_eq_getElem hi) (List.getElem?_eq_getElem (show i < b.length by omega)), List.getElem?_eq_getElem hi, List.getElem?_eq_getElem (show i < b.length by omega)]
    simp only [Option.some.injEq]
    by_cases e : a[i] = b[i]'(by omega)
    · rw [decide_eq_true e, if_pos e]; rfl
    · rw [decide_eq_false e, if_neg e]; rfl) he hF
  rw [l1]
  cases hf : (List.range a.length).findSome? fun i => if a[i]? = b[i]? then none else some false with
  | some e =>
    obtain ⟨i, hi, h1⟩ := List.exists_of_findSome?_eq_some hf
    split at h1
    · cases h1
    · rename_i hne
      injection h1 with h1
      subst h1
      rw [if_neg (fun e => hne (by rw [e]))]; rfl
  | none =>
    rw [if_pos]; rfl
    apply List.ext_getElem?
    intro i
    by_cases hi : i < a.length
    · have := List.findSome?_eq_none_iff.1 hf i (by simpa using hi)
      split at this
      · assumption
      · cases this
    · rw [List.getElem?_eq_none (by omega), List.getElem?_eq_none (by omega)]
theorem fs_none {α β : Type} (l : List α) : l.findSome? (fun _ => (none : Option β)) = none := by rw [List.findSome?_eq_none_iff]; intro _ _; rfl
theorem cmpR {p : Prop} [Decidable p] {Y : Option Bool} : seqR (α := Unit) (some (if p then (.go () : Way Bool Unit) else .out false)) (fun _ => Y) = if p then Y else some false := by by_cases h : p <;> simp [h]
theorem len_dec {α : Type} {a b : List α} : decide ((a.length : Int) = (b.length : Int)) = decide (a.length = b.length) := by
  rw [Bool.eq_iff_iff]; simp; omega
theorem eq_len {α : Type} [DecidableEq α] {a b : List α} (h : a.length ≠ b.length) : decide (a = b) = false := decide_eq_false (fun e => h (by rw [e]))
section
variable {F : Nat}
theorem sameFields {a b : List Field} (ha : Small F a.length) : R_SameFields F a b = some (decide (a = b)) := by
  unfold R_SameFields
  rw [len_dec]
  by_cases hl : a.length = b.length
  · rw [decide_eq_true hl]
    simp only [Bool.not_true, cond_false]
    rw [cmpL hl ha.1 (L := R_SameFields_L1 a b) (fun k i x y hx hy => by rw [R_SameFields_L1, lt_t (List.getElem?_eq_some_iff.1 hx).1, cond_true, idx_at hx, Option.bind_some, idx_at hy, Option.bind_some]) (fun k => by rw [R_SameFields_L1, lt_f]; rfl) ha.2, cmpR]
    by_cases h : a = b <;> simp [h]
  · rw [decide_eq_false hl, eq_len hl]; rfl
theorem sameKinds' {a b : List Kind} (ha : Small F a.length) : R_SameKinds F a b = some (decide (a = b)) := by
  unfold R_SameKinds
  rw [len_dec]
  by_cases hl : a.length = b.length
  · rw [decide_eq_true hl]
    simp only [Bool.not_true, cond_false]
    rw [cmpL hl ha.1 (L := R_SameKinds_L1 a b) (fun k i x y hx hy => by rw [R_SameKinds_L1, lt_t (List.getElem?_eq_some_iff.1 hx).1, cond_true, idx_at hx, Option.bind_some, idx_at hy, Option.bind_some]) (fun k => by rw [R_SameKinds_L1, lt_f]; rfl) ha.2, cmpR]
    by_cases h : a = b <;> simp [h]
  · rw [decide_eq_false hl, eq_len hl]; rfl
theorem same_self {l : List Class} (h : Fits F l) : R_SameClasses F l l = some true := by
  unfold R_SameClasses
  rw [decide_eq_true rfl]
  simp only [Bool.not_true, cond_false]
  have l1 : R_SameClasses_L1 F l l F 0 = some (wo (l.findSome? fun _ => (none : Option Bool))) := each (fun _ => none) h.1.1 (fun k i c hx => by
    have hc := h.2 c (List.mem_of_getElem? hx)
    have l2 : R_SameClasses_L2 F c c F 0 = some (wo (c.Methods.findSome? fun _ => (none : Option Bool))) := each (fun _ => none) hc.methods.1 (fun k i m hy => by
      have hm := hc.method m (List.mem_of_getElem? hy)
      have l3 : R_SameClasses_L3 m m F 0 = some (wo (m.Handlers.findSome? fun _ => (none : Option Bool))) := each (fun _ => none) hm.hands.1 (fun k i x hz => by
        rw [R_SameClasses_L3, lt_t (List.getElem?_eq_some_iff.1 hz).1, cond_true, idx_at hz, Option.bind_some, Option.bind_some, decide_eq_true rfl]; rfl) (fun k => by rw [R_SameClasses_L3, lt_f]; rfl) hm.hands.2
      rw [R_SameClasses_L2, lt_t (List.getElem?_eq_some_iff.1 hy).1, cond_true, idx_at hy, Option.bind_some, Option.bind_some, sameKinds' hm.args, Option.bind_some, l3, fs_none]
      simp
      rfl) (fun k => by rw [R_SameClasses_L2, lt_f]; rfl) hc.methods.2
    rw [R_SameClasses_L1, lt_t (List.getElem?_eq_some_iff.1 hx).1, cond_true, idx_at hx, Option.bind_some, Option.bind_some, sameFields hc.fields, Option.bind_some, l2, fs_none]
    simp
    rfl) (fun k => by rw [R_SameClasses_L1, lt_f]; rfl) h.1.2
  rw [l1, fs_none]; rfl
end
end Cin
namespace Cin
def ScM {α : Type} (S : List UInt8) (i : Nat) (p : Ps α) (v : α) (i' : Nat) (b' : Bool) : Prop := match p (S.drop i) with
  | none => b' = true
  | some (x, r) => v = x ∧ b' = false ∧ r = S.drop i'
def AtS {α γ : Type} (S : List UInt8) (i : Nat) (b : Bool) (o : Option γ) (emb : α → Nat → Bool → γ) (p : Ps α) (V : α → Prop) : Prop :=
  ∃ v i' b', o = some (emb v i' b') ∧ i' ≤ S.length ∧ V v ∧ (b = true → b' = true) ∧ (b = false → ScM S i p v i' b')
def se {α : Type} (S : List UInt8) (v : α) (i : Nat) (b : Bool) : α × cinderref_Scan := (v, ⟨S, (i : Int), b⟩)
def le3 {α : Type} (v : List α) (i : Nat) (b : Bool) : List α × Int × Bool := (v, (i : Int), b)
section
variable {S : List UInt8} (hS : S.length ≤ 20000)
theorem AtS.bind {α β γ δ : Type} {i : Nat} {b : Bool} {o : Option γ} {emb : α → Nat → Bool → γ} {emb2 : β → Nat → Bool → δ} {p : Ps α} {q : α → Ps β} {V : α → Prop} {V2 : β → Prop} {k : γ → Option δ} (h : AtS S i b o emb p V)
    (hk : ∀ v i' b', V v → i' ≤ S.length → AtS S i' b' (k (emb v i' b')) emb2 (q v) V2) : AtS S i b (o.bind k) emb2 (pB p q) V2 := by
  obtain ⟨v, i1, b1, e1, l1, v1, t1, f1⟩ := h
  obtain ⟨w, i2, b2, e2, l2, v2, t2, f2⟩ := hk v i1 b1 v1 l1
  refine ⟨w, i2, b2, by rw [e1, Option.bind_some, e2], l2, v2, fun hb => t2 (t1 hb), fun hb => ?_⟩
  have h1 := f1 hb
  unfold ScM pB at *
  cases hp : p (S.drop i) with
  | none => rw [hp] at h1; exact t2 h1
  | some xr =>
    obtain ⟨x, r⟩ := xr
    rw [hp] at h1
    obtain ⟨rfl, q2, rfl⟩ := h1
    exact f2 q2
theorem AtS.ret {α γ : Type} {i : Nat} {b : Bool} {emb : α → Nat → Bool → γ} {V : α → Prop} {v : α} (hi : i ≤ S.length) (hv : V v) : AtS S i b (some (emb v i b)) emb (pR v) V :=
  ⟨v, i, b, rfl, hi, hv, id, fun hb => ⟨rfl, hb, rfl⟩⟩
theorem AtS.ite {α γ : Type} {i : Nat} {b c : Bool} {o : Option γ} {emb : α → Nat → Bool → γ} {p : Ps α} {V : α → Prop} (h : AtS S i (b || c) o emb p V) : AtS S i b o emb (if c = true then fun _ => none else p) V := by
  obtain ⟨v, i1, b1, e1, l1, v1, t1, f1⟩ := h
  refine ⟨v, i1, b1, e1, l1, v1, fun hb => t1 (by simp [hb]), fun hb => ?_⟩
  cases c with
  | true => rw [if_pos rfl]; exact t1 (by simp)
  | false => rw [if_neg (by simp)]; exact f1 (by simp [hb])
theorem AtS.ext {α γ : Type} {i : Nat} {b : Bool} {o : Option γ} {emb : α → Nat → Bool → γ} {p p' : Ps α} {V : α → Prop} (h : AtS S i b o emb p V) (e : p' = p) : AtS S i b o emb p' V := e ▸ h
theorem pB_assoc {α β γ : Type} (p : Ps α) (f : α → Ps β) (g : β → Ps γ) : pB (pB p f) g = pB p fun x => pB (f x) g := by
  funext s
  unfold pB
  cases p s with
  | none => rfl
  | some xr => rfl
include hS
theorem s_cnt {i : Nat} (b : Bool) (hi : i ≤ S.length) : AtS S i b (R_Scan_count ⟨S, (i : Int), b⟩) (se S) pCnt (fun n => 0 ≤ n ∧ n ≤ 255) := by
  unfold R_Scan_count
  by_cases h : i = S.length
  · rw [decide_eq_true (show (S.length : Int) ≤ (i : Int) by omega)]
    refine ⟨0, i, true, rfl, hi, by decide, fun _ => rfl, fun _ => ?_⟩
    unfold ScM
    rw [h, List.drop_length]
    rfl
  · have hlt : i < S.length := by omega
    rw [decide_eq_false (show ¬ (S.length : Int) ≤ (i : Int) by omega), cond_false]
    have hw : w64 ((i : Int) + 1) = ((i + 1 : Nat) : Int) := by rw [w64_id (by omega) (by omega)]; omega
    have hw2 : w64 (((i + 1 : Nat) : Int) - 1) = (i : Int) := by rw [w64_id (by omega) (by omega)]; omega
    show AtS S i b (Option.bind (idx S (w64 (w64 ((i : Int) + 1) - 1))) _) _ _ _
    rw [hw, hw2, idx_at (List.getElem?_eq_getElem hlt), Option.bind_some]
    have hb := (S[i]).toNat_lt
    refine ⟨((S[i]).toNat : Int), i + 1, b, rfl, by omega, by omega, id, fun hb => ?_⟩
    unfold ScM
    rw [List.drop_eq_getElem_cons hlt]
    exact ⟨rfl, hb, rfl⟩
theorem s_two {i : Nat} (b : Bool) (hi : i ≤ S.length) : AtS S i b (R_Scan_two ⟨S, (i : Int), b⟩) (se S) pTwo (fun n => 0 ≤ n ∧ n ≤ 65535) := by
  have key : AtS S i b (R_Scan_two ⟨S, (i : Int), b⟩) (se S) (pB pCnt fun x => pB pCnt fun y => pR (256 * x + y)) (fun n => 0 ≤ n ∧ n ≤ 65535) := by
    unfold R_Scan_two
    refine AtS.bind (s_cnt hS b hi) fun v i1 b1 hv h1 => AtS.bind (s_cnt hS b1 h1) fun v2 i2 b2 hv2 h2 => ?_
    have e : w64 (w64 (256 * v) + v2) = 256 * v + v2 := by rw [w64_id (n := 256 * v) (by omega) (by omega), w64_id (by omega) (by omega)]
    show AtS S i2 b2 (some (w64 (w64 (256 * v) + v2), _)) _ _ _
    rw [e]
    exact AtS.ret (emb := se S) h2 (by omega)
  refine key.ext ?_
  funext s
  match s with
  | [] => rfl
  | [a] => rfl
  | a :: b :: r => rfl
theorem s_bytes {i : Nat} (b : Bool) (hi : i ≤ S.length) {n : Int} (h0 : 0 ≤ n) (h1 : n ≤ 65535) : AtS S i b (R_Scan_bytes ⟨S, (i : Int), b⟩ n) (se S) (pTake n) (fun _ => True) := by
  unfold R_Scan_bytes
  have hw : w64 ((S.length : Int) - (i : Int)) = (S.length : Int) - (i : Int) := w64_id (by omega) (by omega)
  show AtS S i b (cond (b || decide (w64 ((S.length : Int) - (i : Int)) < n)) _ _) _ _ _
  rw [hw]
  by_cases h : (S.length : Int) - (i : Int) < n
  · rw [decide_eq_true h, Bool.or_true]
    refine ⟨[], i, true, rfl, hi, trivial, fun _ => rfl, fun _ => ?_⟩
    unfold ScM pTake
    rw [if_neg (by rw [List.length_drop]; omega)]
  · rw [decide_eq_false h, Bool.or_false]
    cases b with
    | true => exact ⟨[], i, true, rfl, hi, trivial, fun _ => rfl, fun hb => by cases hb⟩
    | false =>
      rw [cond_false]
      have h2 : w64 ((i : Int) + n) = (i : Int) + n := w64_id (by omega) (by omega)
      have h3 : w64 ((i : Int) + n - n) = (i : Int) := by rw [w64_id (by omega) (by omega)]; omega
      show AtS S i false (Option.bind (cut S (w64 (w64 ((i : Int) + n) - n)) (w64 ((i : Int) + n))) _) _ _ _
      have hc : cut S (i : Int) ((i : Int) + n) = some ((S.drop i).take n.toNat) := by
        unfold cut
        rw [if_pos (by omega), show ((i : Int) + n).toNat = i + n.toNat by omega, Int.toNat_natCast, List.drop_take]
        congr 2
        omega
      rw [h2, h3, hc, Option.bind_some]
      refine ⟨(S.drop i).take n.toNat, i + n.toNat, false, ?_, by omega, trivial, id, fun _ => ?_⟩
      · unfold se
        have : (i : Int) + n = ((i + n.toNat : Nat) : Int) := by omega
        show some (_, (⟨S, (i : Int) + n, false⟩ : cinderref_Scan)) = _
        rw [this]
      · unfold ScM pTake
        rw [if_pos (by rw [List.length_drop]; omega)]
        exact ⟨rfl, rfl, by rw [List.drop_drop]⟩
omit hS in
theorem AtS.last {α : Type} {i : Nat} {b : Bool} {o : Option (α × cinderref_Scan)} {p : Ps α} {V : α → Prop} {k : α × cinderref_Scan → Option (α × cinderref_Scan)} (h : AtS S i b o (se S) p V) (hk : ∀ v i' b', k (se S v i' b') = some (se S v i' b')) : AtS S i b (o.bind k) (se S) p V := by
  obtain ⟨v, i1, b1, e1, l1, v1, t1, f1⟩ := h
  exact ⟨v, i1, b1, by rw [e1, Option.bind_some, hk], l1, v1, t1, f1⟩
theorem s_txt {i : Nat} (b : Bool) (hi : i ≤ S.length) : AtS S i b (R_Scan_text ⟨S, (i : Int), b⟩) (se S) pTxt (fun _ => True) := by
  unfold R_Scan_text
  exact AtS.bind (s_cnt hS b hi) fun n i1 b1 hn h1 => AtS.last (s_bytes hS b1 h1 hn.1 (show n ≤ 65535 by omega)) fun _ _ _ => rfl
theorem s_kind {i : Nat} (b : Bool) (hi : i ≤ S.length) : AtS S i b (R_Scan_kind ⟨S, (i : Int), b⟩) (se S) pKind (fun _ => True) := by
  unfold R_Scan_kind
  refine AtS.bind (s_cnt hS b hi) fun n i1 b1 hn h1 => ?_
  show AtS S i1 b1 (cond (nmI n) _ _) _ _ _
  cases h : nmI n with
  | true =>
    rw [cond_true, if_pos rfl]
    exact AtS.bind (s_txt hS b1 h1) fun t i2 b2 _ h2 => AtS.ret (emb := se S) (v := (⟨n, t⟩ : Kind)) h2 trivial
  | false =>
    rw [cond_false, if_neg (by simp)]
    exact AtS.ret (emb := se S) (v := (⟨n, []⟩ : Kind)) h1 trivial
omit hS in
theorem s_rep {α : Type} {p : Ps α} {V : α → Prop} {bytes : Nat} {bd : Nat → Option (α × cinderref_Scan)} {L : Nat → List α → Int → Bool → Int → Option (List α × Int × Bool)} {n : Int} (h0 : 0 ≤ n) (hn : n ≤ 255) (hby : bytes ≤ 1000)
    (hbd : ∀ i, i ≤ S.length → AtS S i false (bd i) (se S) p V)
    (hL : ∀ k l (i : Nat) m, m < n → L (k + 1) l (i : Int) false m = (bd i).bind fun r => (app bytes l [r.1]).bind fun l' => L k l' r.2.At r.2.Bad (w64 (m + 1)))
    (hE : ∀ k l i b m, (¬ m < n ∨ b = true) → L (k + 1) l i b m = some (l, i, b)) {F : Nat} (hF : 300 < F) {i : Nat} (b : Bool) (hi : i ≤ S.length) :
    AtS S i b (L F [] (i : Int) b 0) le3 (pRep p n.toNat) (fun _ => True) := by
  have key : ∀ (d j k : Nat) (l : List α) (i : Nat) (b : Bool), j + d = n.toNat → d < k → l.length = j → i ≤ S.length →
      AtS S i b (L k l (i : Int) b (j : Int)) (fun v i b => le3 (l ++ v) i b) (pRep p d) (fun _ => True) := by
    intro d
    induction d with
    | zero =>
      intro j k l i b h hk hl hi
      obtain ⟨k, rfl⟩ : ∃ k', k = k' + 1 := ⟨k - 1, by omega⟩
      rw [hE k l i b j (.inl (by omega))]
      exact ⟨[], i, b, by simp [le3], hi, trivial, id, fun hb => ⟨rfl, hb, rfl⟩⟩
    | succ d ih =>
      intro j k l i b h hk hl hi
      obtain ⟨k, rfl⟩ : ∃ k', k = k' + 1 := ⟨k - 1, by omega⟩
      cases b with
      | true =>
        rw [hE k l i true j (.inr rfl)]
        exact ⟨[], i, true, by simp [le3], hi, trivial, id, fun hb => by cases hb⟩
      | false =>
        rw [hL k l i j (by omega)]
        refine AtS.bind (hbd i hi) fun v i1 b1 _ h1 => ?_
        have ha : app bytes l [v] = some (l ++ [v]) := by
          unfold app
          have : (l.length + 1) * bytes ≤ 256 * 1000 := Nat.mul_le_mul (by omega) hby
          rw [if_pos (by simpa using Nat.le_trans this (by decide))]
        show AtS S i1 b1 ((app bytes l [v]).bind fun l' => L k l' (i1 : Int) b1 (w64 ((j : Int) + 1))) _ _ _
        rw [ha, Option.bind_some, w64_up (n := 256) (by omega) (by decide)]
        obtain ⟨q, i2, b2, e2, l2, _, t2, f2⟩ := ih (j + 1) k (l ++ [v]) i1 b1 (by omega) (by omega) (by simp [hl]) h1
        refine ⟨v :: q, i2, b2, by rw [e2]; simp [le3], l2, trivial, t2, fun hb => ?_⟩
        have := f2 hb
        unfold ScM pB at *
        cases hq : pRep p d (S.drop i1) with
        | none => rw [hq] at this; exact this
        | some xr =>
          obtain ⟨x, r⟩ := xr
          rw [hq] at this
          exact ⟨by rw [this.1], this.2.1, this.2.2⟩
  have := key n.toNat 0 F [] i b (by omega) (by omega) rfl hi
  simpa using this
omit hS in
theorem hE_of {α : Type} {n m : Int} {b : Bool} {X Y : Option α} (h : ¬ m < n ∨ b = true) : cond (decide (m < n) && !b) X Y = Y := by
  rcases h with h | rfl
  · rw [decide_eq_false h]; rfl
  · rw [Bool.not_true, Bool.and_false]; rfl
omit hS in
theorem hL_of {α : Type} {n m : Int} {X Y : Option α} (h : m < n) : cond (decide (m < n) && !false) X Y = X := by rw [decide_eq_true h]; rfl
theorem s_kinds {F : Nat} (hF : 300 < F) {n : Int} (hn : 0 ≤ n ∧ n ≤ 255) (q : Int × cinderref_Scan) (hq : q.1 = n) {i : Nat} (b : Bool) (hi : i ≤ S.length) : AtS S i b (R_ClassesOf_L4 S q F [] (i : Int) b 0) le3 (pRep pKind n.toNat) (fun _ => True) := by
  subst hq
  exact s_rep (bytes := 24) (L := R_ClassesOf_L4 S q) (bd := fun i => R_Scan_kind ⟨S, (i : Int), false⟩) hn.1 hn.2 (by decide) (fun i hi => s_kind hS false hi) (fun k l i m h => by rw [R_ClassesOf_L4, hL_of h]) (fun k l i b m h => by rw [R_ClassesOf_L4, hE_of h]) hF b hi
theorem s_field {i : Nat} (b : Bool) (hi : i ≤ S.length) : AtS S i b ((R_Scan_text ⟨S, (i : Int), b⟩).bind fun r1 => (R_Scan_kind ⟨S, r1.2.At, r1.2.Bad⟩).bind fun r2 => some ((⟨r1.1, (⟨r2.1.Kind, r2.1.Class⟩ : Kind)⟩ : Field), (⟨S, r2.2.At, r2.2.Bad⟩ : cinderref_Scan))) (se S) pField (fun _ => True) :=
  AtS.bind (s_txt hS b hi) fun t i1 b1 _ h1 => AtS.bind (s_kind hS b1 h1) fun k i2 b2 _ h2 => AtS.ret (emb := se S) (v := (⟨t, k⟩ : Field)) h2 trivial
theorem s_fields {F : Nat} (hF : 300 < F) {n : Int} (hn : 0 ≤ n ∧ n ≤ 255) (q : Int × cinderref_Scan) (hq : q.1 = n) {i : Nat} (b : Bool) (hi : i ≤ S.length) : AtS S i b (R_ClassesOf_L2 S q F [] (i : Int) b 0) le3 (pRep pField n.toNat) (fun _ => True) := by
  subst hq
  refine s_rep (bytes := 40) (L := R_ClassesOf_L2 S q) hn.1 hn.2 (by decide) (fun i hi => s_field hS false hi) (fun k l i m h => ?_) (fun k l i b m h => by rw [R_ClassesOf_L2, hE_of h]) hF b hi
  rw [R_ClassesOf_L2, hL_of h]
  simp only [Option.bind_assoc, Option.bind_some]
theorem s_hand {i : Nat} (b : Bool) (hi : i ≤ S.length) : AtS S i b ((R_Scan_two ⟨S, (i : Int), b⟩).bind fun r1 => (R_Scan_two ⟨S, r1.2.At, r1.2.Bad⟩).bind fun r2 => (R_Scan_two ⟨S, r2.2.At, r2.2.Bad⟩).bind fun r3 => (R_Scan_text ⟨S, r3.2.At, r3.2.Bad⟩).bind fun r4 =>
    some ((⟨r1.1, r2.1, r3.1, r4.1⟩ : Handler), (⟨S, r4.2.At, r4.2.Bad⟩ : cinderref_Scan))) (se S) pHand (fun _ => True) :=
  AtS.bind (s_two hS b hi) fun x i1 b1 _ h1 => AtS.bind (s_two hS b1 h1) fun y i2 b2 _ h2 => AtS.bind (s_two hS b2 h2) fun z i3 b3 _ h3 => AtS.bind (s_txt hS b3 h3) fun t i4 b4 _ h4 => AtS.ret (emb := se S) (v := (⟨x, y, z, t⟩ : Handler)) h4 trivial
theorem s_hands {F : Nat} (hF : 300 < F) {n : Int} (hn : 0 ≤ n ∧ n ≤ 255) (q : Int × cinderref_Scan) (hq : q.1 = n) {i : Nat} (b : Bool) (hi : i ≤ S.length) : AtS S i b (R_ClassesOf_L5 S q F [] (i : Int) b 0) le3 (pRep pHand n.toNat) (fun _ => True) := by
  subst hq
  refine s_rep (bytes := 40) (L := R_ClassesOf_L5 S q) hn.1 hn.2 (by decide) (fun i hi => s_hand hS false hi) (fun k l i m h => ?_) (fun k l i b m h => by rw [R_ClassesOf_L5, hE_of h]) hF b hi
  rw [R_ClassesOf_L5, hL_of h]
  simp only [Option.bind_assoc, Option.bind_some]
def scMeth (F : Nat) (S : List UInt8) (i : Int) (b : Bool) : Option (Method × cinderref_Scan) :=
  (R_Scan_text ⟨S, i, b⟩).bind fun r1 =>
  (R_Scan_count ⟨S, r1.2.At, r1.2.Bad⟩).bind fun r2 =>
  (R_Scan_count ⟨S, r2.2.At, r2.2.Bad || (decide (1 < r2.1))⟩).bind fun r3 =>
  (R_ClassesOf_L4 S r3 F [] r3.2.At r3.2.Bad 0).bind fun l4 =>
  (R_Scan_kind ⟨S, l4.2.1, l4.2.2⟩).bind fun r5 =>
  (R_Scan_count ⟨S, r5.2.At, r5.2.Bad⟩).bind fun r6 =>
  (R_Scan_count ⟨S, r6.2.At, r6.2.Bad⟩).bind fun r7 =>
  (R_Scan_two ⟨S, r7.2.At, r7.2.Bad⟩).bind fun r8 =>
  (R_Scan_bytes ⟨S, r8.2.At, r8.2.Bad⟩ r8.1).bind fun r9 =>
  (R_Scan_count ⟨S, r9.2.At, r9.2.Bad⟩).bind fun r10 =>
  (R_ClassesOf_L5 S r10 F [] r10.2.At r10.2.Bad 0).bind fun l11 =>
  some ((⟨r1.1, decide (r2.1 = 1), l4.1, (⟨r5.1.Kind, r5.1.Class⟩ : Kind), r6.1, r7.1, r9.1, l11.1⟩ : Method), (⟨S, l11.2.1, l11.2.2⟩ : cinderref_Scan))
theorem s_meth {F : Nat} (hF : 300 < F) {i : Nat} (b : Bool) (hi : i ≤ S.length) : AtS S i b (scMeth F S i b) (se S) pMeth (fun _ => True) := by
  unfold scMeth
  refine AtS.bind (s_txt hS b hi) fun nm i1 b1 _ h1 => ?_
  refine AtS.ext (p := pB pCnt fun n => if decide (1 < n) = true then fun _ => none else pB (pLst pKind) fun ar => pB pKind fun rt => pB pCnt fun sk => pB pCnt fun lo => pB pTwo fun m => pB (pTake m) fun co => pB (pLst pHand) fun ha => pR ⟨nm, decide (n = 1), ar, rt, sk, lo, co, ha⟩) ?_ ?_
  · refine AtS.bind (s_cnt hS b1 h1) fun st i2 b2 _ h2 => AtS.ite ?_
    refine AtS.ext (p := pB pCnt fun n => pB (pRep pKind n.toNat) fun ar => pB pKind fun rt => pB pCnt fun sk => pB pCnt fun lo => pB pTwo fun m => pB (pTake m) fun co => pB (pLst pHand) fun ha => pR ⟨nm, decide (st = 1), ar, rt, sk, lo, co, ha⟩) ?_ (by unfold pLst; rw [pB_assoc])
    refine AtS.bind (s_cnt hS _ h2) fun n i3 b3 hn h3 => ?_
    refine AtS.bind (s_kinds hS hF hn _ rfl b3 h3) fun ar i4 b4 _ h4 => ?_
    refine AtS.bind (s_kind hS b4 h4) fun rt i5 b5 _ h5 => AtS.bind (s_cnt hS b5 h5) fun sk i6 b6 _ h6 => AtS.bind (s_cnt hS b6 h6) fun lo i7 b7 _ h7 => AtS.bind (s_two hS b7 h7) fun m i8 b8 hm h8 => AtS.bind (s_bytes hS b8 h8 hm.1 hm.2) fun co i9 b9 _ h9 => ?_
    refine AtS.ext (p := pB pCnt fun n => pB (pRep pHand n.toNat) fun ha => pR ⟨nm, decide (st = 1), ar, rt, sk, lo, co, ha⟩) ?_ (by unfold pLst; rw [pB_assoc])
    exact AtS.bind (s_cnt hS b9 h9) fun n2 i10 b10 hn2 h10 => AtS.bind (s_hands hS hF hn2 _ rfl b10 h10) fun ha i11 b11 _ h11 => AtS.ret (emb := se S) (v := (⟨nm, decide (st = 1), ar, rt, sk, lo, co, ha⟩ : Method)) h11 trivial
  · unfold pYes
    rw [pB_assoc]
    congr 1
    funext n
    by_cases h : 1 < n
    · rw [if_pos h, if_pos (by simpa using h)]; rfl
    · rw [if_neg h, if_neg (by simpa using h)]; rfl
theorem s_meths {F : Nat} (hF : 300 < F) {n : Int} (hn : 0 ≤ n ∧ n ≤ 255) (q : Int × cinderref_Scan) (hq : q.1 = n) {i : Nat} (b : Bool) (hi : i ≤ S.length) : AtS S i b (R_ClassesOf_L3 F S q F [] (i : Int) b 0) le3 (pRep pMeth n.toNat) (fun _ => True) := by
  subst hq
  refine s_rep (bytes := 128) (L := R_ClassesOf_L3 F S q) (bd := fun i => scMeth F S (i : Int) false) hn.1 hn.2 (by decide) (fun i hi => s_meth hS hF false hi) (fun k l i m h => ?_) (fun k l i b m h => by rw [R_ClassesOf_L3, hE_of h]) hF b hi
  rw [R_ClassesOf_L3, hL_of h]
  unfold scMeth
  simp only [Option.bind_assoc, Option.bind_some]
def scClass (F : Nat) (S : List UInt8) (i : Int) (b : Bool) : Option (Class × cinderref_Scan) :=
  (R_Scan_text ⟨S, i, b⟩).bind fun r1 =>
  (R_Scan_text ⟨S, r1.2.At, r1.2.Bad⟩).bind fun r2 =>
  (R_Scan_count ⟨S, r2.2.At, r2.2.Bad⟩).bind fun r3 =>
  (R_ClassesOf_L2 S r3 F [] r3.2.At r3.2.Bad 0).bind fun l4 =>
  (R_Scan_count ⟨S, l4.2.1, l4.2.2⟩).bind fun r5 =>
  (R_ClassesOf_L3 F S r5 F [] r5.2.At r5.2.Bad 0).bind fun l6 =>
  some ((⟨r1.1, r2.1, l4.1, l6.1⟩ : Class), (⟨S, l6.2.1, l6.2.2⟩ : cinderref_Scan))
theorem s_class {F : Nat} (hF : 300 < F) {i : Nat} (b : Bool) (hi : i ≤ S.length) : AtS S i b (scClass F S i b) (se S) pClass (fun _ => True) := by
  unfold scClass
  refine AtS.bind (s_txt hS b hi) fun nm i1 b1 _ h1 => AtS.bind (s_txt hS b1 h1) fun su i2 b2 _ h2 => ?_
  refine AtS.ext (p := pB pCnt fun n => pB (pRep pField n.toNat) fun fs => pB pCnt fun n2 => pB (pRep pMeth n2.toNat) fun ms => pR ⟨nm, su, fs, ms⟩) ?_ (by unfold pLst; rw [pB_assoc]; congr 1; funext n; congr 1; funext fs; rw [pB_assoc])
  exact AtS.bind (s_cnt hS b2 h2) fun n i3 b3 hn h3 => AtS.bind (s_fields hS hF hn _ rfl b3 h3) fun fs i4 b4 _ h4 => AtS.bind (s_cnt hS b4 h4) fun n2 i5 b5 hn2 h5 => AtS.bind (s_meths hS hF hn2 _ rfl b5 h5) fun ms i6 b6 _ h6 =>
    AtS.ret (emb := se S) (v := (⟨nm, su, fs, ms⟩ : Class)) h6 trivial
theorem s_img {F : Nat} (hF : 300 < F) : AtS S 0 false ((R_Scan_count (⟨S, 0, false⟩ : cinderref_Scan)).bind fun r3_ => R_ClassesOf_L1 F S r3_ F [] r3_.2.At r3_.2.Bad 0) le3 pImg (fun _ => True) := by
  unfold pImg pLst
  refine AtS.bind (s_cnt hS (i := 0) false (Nat.zero_le _)) fun n i1 b1 hn h1 => ?_
  refine s_rep (bytes := 80) (L := R_ClassesOf_L1 F S (se S n i1 b1)) (bd := fun i => scClass F S (i : Int) false) hn.1 hn.2 (by decide) (fun i hi => s_class hS hF false hi) (fun k l i m h => ?_) (fun k l i b m h => by rw [R_ClassesOf_L1]; exact hE_of h) hF b1 h1
  rw [R_ClassesOf_L1]
  refine (hL_of h).trans ?_
  unfold scClass
  simp only [Option.bind_assoc, Option.bind_some]
end
end Cin
namespace Cin
theorem R_ClassesOf_eq {F : Nat} (hF : 20000 < F) (s : List UInt8) : R_ClassesOf F s = some (rdAns s) := by
  unfold R_ClassesOf rdAns
  by_cases h : 20000 < s.length
  · rw [if_pos h, decide_eq_true (show (20000 : Int) < (s.length : Int) by omega)]; rfl
  · rw [if_neg h, decide_eq_false (show ¬ (20000 : Int) < (s.length : Int) by omega), cond_false]
    obtain ⟨l, i, b, e, hi, _, _, hm⟩ := s_img (S := s) (by omega) (F := F) (by omega)
    have hm := hm rfl
    rw [← Option.bind_assoc, e, Option.bind_some]
    show cond (b || !decide ((i : Int) = (s.length : Int))) _ (Option.bind (R_CheckClasses F l) _) = _
    unfold ScM at hm
    rw [List.drop_zero] at hm
    cases hp : pImg s with
    | none =>
      rw [hp] at hm
      subst hm
      rfl
    | some lr =>
      obtain ⟨x, r⟩ := lr
      rw [hp] at hm
      obtain ⟨rfl, rfl, rfl⟩ := hm
      have hfit := (qImg hF s l _ (by omega) hp).1
      by_cases he : i = s.length
      · subst he
        rw [List.drop_length]
        rw [decide_eq_true rfl, R_CheckClasses_eq hfit]
        by_cases h0 : chk l = 0
        · simp [h0]
        · simp [h0]
      · have hne : s.drop i ≠ [] := by
          intro hd
          have := congrArg List.length hd
          rw [List.length_drop] at this
          simp at this
          omega
        rw [decide_eq_false (show ¬ (i : Int) = (s.length : Int) by omega)]
        cases hd : s.drop i with
        | nil => exact absurd hd hne
        | cons b r => rfl
theorem plain_ImageReads (s : List UInt8) (_ : s.length ≤ Go.reachBytes) : ∃ F, L_ImageReads F s = some true := by
  refine ⟨140737488355940 + 60, ?_⟩
  have hF : 20000 < 140737488355940 + 60 := by omega
  unfold L_ImageReads
  rw [image_Read_eq hF, R_ClassesOf_eq hF, image_begun]
  simp only [Option.bind_some, decide_true, Bool.and_self, cond_true]
  have hs : R_SameClasses (140737488355940 + 60) (rdAns s).1 (rdAns s).1 = some true := by
    refine same_self ?_
    have hnil : Fits (140737488355940 + 60) [] := ⟨⟨by simp, by simp⟩, fun c hc => by cases hc⟩
    unfold rdAns
    by_cases h : 20000 < s.length
    · rw [if_pos h]; exact hnil
    · rw [if_neg h]
      cases hp : pImg s with
      | none => exact hnil
      | some lr =>
        obtain ⟨l, r⟩ := lr
        have hfit := (qImg hF s l _ (by omega) hp).1
        cases r with
        | cons b r => exact hnil
        | nil =>
          by_cases h0 : chk l = 0
          · simp only [h0, if_true]; exact hfit
          · simp only [h0, if_false]; exact hnil
  rw [hs]
  rfl
end Cin
namespace Go.Proofs.Ytfbkanhgjpdohaa.imageReads
open Go Go.ChangeShapes Go.WideShapes Go.ChangeAt Go.RowKit
theorem own : ownKnob Try.prog.godebug = none := by kernel_rfl
set_option maxRecDepth 100000 in
theorem contract (H : Type) (enc : TypeId × Value → H) (W : World) (base : Nat) (args : Array Value) (ds gs : List (DataW H)) (before : List MemPlace)
    (hval : ∀ (j : Nat) t v, Try.f4.params[j]? = some t → args[j]? = some v → Value.okWide Try.prog W .any base t v)
    (hW : DataW.Whole enc Try.prog Try.f4.params.toList Rows.imageReadsSpec.vars false W args.toList ds gs before) (hsz0 : ∀ n ∈ DataW.weightsEach Try.prog Try.f4.params.toList ds, n ≤ reachBytes) :
    Calls Try.prog 4 args W fun e W' => ∃ v, e = .returned v ∧ Rows.imageReadsSpec.post enc Try.prog Try.f4 false true false false W args v W' := by
  have hW' := hW
  have hlt := hW.lt
  obtain ⟨p, q, hA0, hV, hpq, hfz, hnd⟩ := hW
  have hA : DataW.TrodAll enc Try.prog W 0 (fun _ => true) true Try.f4.params.toList args.toList ds p := hA0
  have hsz := hsz0
  rw [Try.params4] at hA hval hsz
  obtain ⟨v0, vs0, d0, ds0, p0, q0, hargs, rfl, rfl, h0, tr0⟩ := trodAll_cons hA
  obtain ⟨rfl, rfl, rfl⟩ := trodAll_nil tr0
  obtain rfl : args = #[v0] := by cases args; simp_all
  obtain ⟨rfl, rfl⟩ := trodVars_none hV
  obtain ⟨s0, rfl, _⟩ := Gg.arg_str Try.underlying9 (hval 0 9 v0 rfl rfl) h0
  have k0 := Gg.arg_str_wt (N := reachBytes) Try.underlying9 (hval 0 9 _ rfl rfl) h0 (fun m hm => hsz m (by simp only [DataW.weightsEach, List.mem_append]; simp [hm]))
  obtain ⟨F, hF⟩ := Cin.plain_ImageReads s0 k0
  refine (c_L_ImageReads (X := []) (W := W) ⟨Gg.Ev.refl _ _, fun _ hk => absurd hk (List.not_mem_nil), fun _ hk => absurd hk (List.not_mem_nil), fun _ hx => absurd hx (List.not_mem_nil), List.nodup_nil, fun y hy => by cases hy⟩ hF).mono fun e W' ⟨he, hv⟩ => ?_
  exact ⟨_, he, Gg.post_true hW' (by kernel_rfl) (by kernel_rfl) rfl rfl Try.underlying4 rfl hv.ev⟩
theorem laid_met (os : Os) : laidMet Try.prog Rows.imageReadsRow.laid ((World.holding Try.prog os ⟨#[], #[], []⟩).forCall (fun _ _ => 0) ⟨#[], #[.string ⟨#[]⟩], []⟩).memory :=
  laidMet_of_run' 8 (by kernel_rfl) (by kernel_rfl)
theorem reads (os : Os) {H : Type} (enc : TypeId × Value → H) : ∃ places, DataW.whole enc Try.prog ((World.holding Try.prog os ⟨#[], #[], []⟩).forCall (fun _ _ => 0) ⟨#[], #[.string ⟨#[]⟩], []⟩).memory Try.f4.params.toList Rows.imageReadsSpec.vars false (#[.string ⟨#[]⟩] : Array Value).toList 8 = some ([.lit (.string [])], [], places) :=
  ⟨[], by kernel_rfl⟩
set_option maxRecDepth 100000 in
theorem lifted (os : Os) (started : os.Started) (H : Type) (enc : TypeId × Value → H) (F : Stop.Interp) :
    ReturnsInHanded {} Try.checked os 4 .any ((OpenSpec.ofChange Rows.imageReadsSpec).preRow enc Try.prog Try.f4 Rows.imageReadsRow.domain false Rows.imageReadsRow.laid) (((OpenSpec.ofChange Rows.imageReadsSpec).at F).post enc Try.prog Try.f4 false true false false) := by
  obtain ⟨places, hx⟩ := reads os enc
  refine returnsInHanded_of_row (C := Try.checked) (s := OpenSpec.ofChange Rows.imageReadsSpec) own started (by kernel_rfl) Try.func4
    (witness_row_at (enc := enc) (C := Try.checked) false (World.holding Try.prog os ⟨#[], #[], []⟩) #[.string ⟨#[]⟩] rfl (by kernel_rfl) (by kernel_rfl) (by kernel_rfl)
      (OpenSpec.preRow_of_cond 8 hx (by kernel_rfl) (fun k hk => by cases hk) (by kernel_rfl) (laid_met os))) ?_
  intro W base args ds gs before hval hW _ hcond hwts _ _ _
  exact contract H enc W base args ds gs before hval hW (fun n hn => by obtain ⟨_, _, _, hV, _, _, _⟩ := hW; obtain ⟨rfl, _⟩ := trodVars_none hV; have hw2 : (DataW.weightsEach Try.prog (Try.f4.params.toList ++ []) (ds ++ [])).all (· ≤ reachBytes) = true := hwts; rw [List.append_nil, List.append_nil] at hw2; exact of_decide_eq_true (List.all_eq_true.1 hw2 n hn))
theorem said : Rows.ImageReadsSaid :=
  OpenClaim.holds_of_cond 4 Try.f4 rfl rfl rfl rfl rfl rfl rfl ⟨rfl, rfl, rfl, rfl, rfl⟩ rfl rfl rfl rfl rfl (by kernel_rfl) Try.func4 (by kernel_rfl)
    (of_decide_eq_true (by kernel_rfl)) (by unfold Func.isWrapper; first | (rw [if_pos (by decide +kernel)]; kernel_rfl) | (rw [if_neg (by decide +kernel)]; exact ⟨rfl, rfl⟩))
    (fun os started H enc _ F => by rw [OpenClaim.pre_eq_preRow]; exact lifted os started H enc F)
end Go.Proofs.Ytfbkanhgjpdohaa.imageReads
