/- Plain law, the link laws: whom classes tell of. No program in sight. -/
import Derived.Test.YtfbkanhgjpdohaaPlainLk6
namespace Cin
/-- A loop that puts lists behind each other. -/
theorem accL {α β : Type} {l : List α} (T : Nat → List β → Nat → Option (List β)) (g : α → List β) (B M : Nat) (hB : ∀ x ∈ l, (g x).length ≤ B)
    (hs : ∀ k (i : Nat) x acc, l[i]? = some x → acc.length + B ≤ M → T (k + 1) acc i = T k (acc ++ g x) (i + 1)) (he : ∀ k acc, T (k + 1) acc l.length = some acc) {F : Nat} (hF : l.length < F) {acc : List β} (hM : acc.length + B * l.length ≤ M) :
    T F acc 0 = some (acc ++ l.flatMap g) := by
  have key : ∀ (d i k : Nat) (acc : List β), i + d = l.length → d < k → acc.length + B * d ≤ M → T k acc i = some (acc ++ (l.drop i).flatMap g) := by
    intro d
    induction d with
    | zero =>
      intro i k acc h hk _
      obtain ⟨k, rfl⟩ : ∃ k', k = k' + 1 := ⟨k - 1, by omega⟩
      have hi : i = l.length := by omega
      subst hi
      rw [he, List.drop_of_length_le (Nat.le_refl _)]; simp
    | succ d ih =>
      intro i k acc h hk hm
      obtain ⟨k, rfl⟩ : ∃ k', k = k' + 1 := ⟨k - 1, by omega⟩
      have hi : i < l.length := by omega
      have hb := hB l[i] (List.getElem_mem hi)
      rw [Nat.mul_succ] at hm
      rw [hs k i l[i] acc (List.getElem?_eq_getElem hi) (by omega), ih (i + 1) k _ (by omega) (by omega) (by simp only [List.length_append]; omega), List.drop_eq_getElem_cons hi, List.flatMap_cons, List.append_assoc]
  have := key l.length 0 F acc (by omega) hF hM
  simpa using this
theorem one_fs {α β : Type} {g : α → Option β} {a : α} : [a].findSome? g = g a := by rw [List.findSome?_cons]; cases g a <;> rfl
theorem fs_flat {α β γ : Type} (f : α → List β) (g : β → Option γ) : ∀ l : List α, (l.flatMap f).findSome? g = l.findSome? fun x => (f x).findSome? g
  | [] => rfl
  | x :: r => by
    rw [List.flatMap_cons, List.findSome?_append, List.findSome?_cons, fs_flat f g r]
    cases (f x).findSome? g <;> rfl
theorem flat_le {α β : Type} {g : α → List β} {B : Nat} : ∀ {l : List α}, (∀ x ∈ l, (g x).length ≤ B) → (l.flatMap g).length ≤ B * l.length
  | [], _ => by simp
  | x :: r, h => by
    have h1 := h x (by simp)
    have h2 := flat_le (l := r) (fun y hy => h y (by simp [hy]))
    simp only [List.flatMap_cons, List.length_append, List.length_cons, Nat.mul_succ]
    omega
def kn (k : Kind) : List (List UInt8) := if k.Class = [] then [] else [k.Class]
def mt (m : Method) : List (List UInt8) := m.Args.flatMap kn ++ kn m.Returns ++ m.Handlers.map (·.Class)
def ct (c : Class) : List (List UInt8) := c.Fields.flatMap (fun f => kn f.Kind) ++ c.Methods.flatMap mt
def toldL (l : List Class) : List (List UInt8) := l.flatMap ct
def tokE (l : List Class) (s : List UInt8) : Option Int := if 0 ≤ clAt l s then none else some 5
theorem kn_len (k : Kind) : (kn k).length ≤ 1 := by unfold kn; split <;> simp
section
variable {F : Nat} {l : List Class}
theorem mt_len (h : Right l) {c : Class} (hc : c ∈ l) {m : Method} (hm : m ∈ c.Methods) : (mt m).length ≤ 9 := by
  have h1 := h.method c hc m hm
  have h2 := flat_le (l := m.Args) (g := kn) (B := 1) (fun k _ => kn_len k)
  have h3 := kn_len m.Returns
  unfold mt
  simp only [List.length_append, List.length_map]
  omega
theorem ct_len (h : Right l) {c : Class} (hc : c ∈ l) : (ct c).length ≤ 78 := by
  have h1 := flat_le (l := c.Fields) (g := fun f => kn f.Kind) (B := 1) (fun f _ => kn_len f.Kind)
  have h2 := flat_le (l := c.Methods) (g := mt) (B := 9) (fun m hm => mt_len h hc hm)
  have h3 := h.fields c hc
  have h4 := h.methods c hc
  unfold ct
  simp only [List.length_append]
  omega
theorem app_ok {b : Nat} {α : Type} {acc r : List α} (h : (acc.length + r.length) * b ≤ 140737488355328) : app b acc r = some (acc ++ r) := by unfold app; rw [if_pos h]
theorem told_1 {acc : List (List UInt8)} (h : acc.length ≤ 5000) (k : Kind) : link_linker_told_1 k acc = some (acc ++ kn k) := by
  unfold link_linker_told_1 kn
  by_cases e : k.Class = []
  · rw [decide_eq_true e, if_pos e]; simp
  · rw [decide_eq_false e, if_neg e]
    simp only [Bool.not_false, cond_true]
    rw [app_ok (by simp only [List.length_cons, List.length_nil]; omega)]; rfl
theorem told_all (hF : 1100 < F) (h : Right l) (m : List (List UInt8 × Int)) (s : List Int) : link_linker_told_L1 F ⟨l, m, s⟩ F [] 0 = some (toldL l) := by
  have hlen := h.len
  have := accL (l := l) (fun k acc i => link_linker_told_L1 F ⟨l, m, s⟩ k acc (i : Int)) ct 78 2000 (fun c hc => ct_len h hc) (fun k i c acc hx hacc => by
    have hc := List.mem_of_getElem? hx
    have h6 := h.fields c hc
    have h8 := h.methods c hc
    have hi := (List.getElem?_eq_some_iff.1 hx).1
    have l2 : ∀ acc : List (List UInt8), acc.length ≤ 2000 → link_linker_told_L2 c F acc 0 = some (acc ++ c.Fields.flatMap fun f => kn f.Kind) := fun acc ha =>
      accL (l := c.Fields) (fun k acc i => link_linker_told_L2 c k acc (i : Int)) (fun f => kn f.Kind) 1 3000 (fun f _ => kn_len f.Kind) (fun k i f acc hx hacc => by
        have hi := (List.getElem?_eq_some_iff.1 hx).1
        rw [link_linker_told_L2, lt_t hi, cond_true, idx_at hx, Option.bind_some, told_1 (by omega), Option.bind_some, w64_up hi (by omega)]) (fun k acc => by rw [link_linker_told_L2, lt_f]; rfl) (by omega) (by omega)
    have l3 : ∀ acc : List (List UInt8), acc.length ≤ 2100 → link_linker_told_L3 F c F acc 0 = some (acc ++ c.Methods.flatMap mt) := fun acc ha =>
      accL (l := c.Methods) (fun k acc i => link_linker_told_L3 F c k acc (i : Int)) mt 9 3000 (fun m hm => mt_len h hc hm) (fun k i m acc hx hacc => by
        have hm := List.mem_of_getElem? hx
        have hi := (List.getElem?_eq_some_iff.1 hx).1
        obtain ⟨h4, h5⟩ := h.method c hc m hm
        have l4 : link_linker_told_L4 m F acc 0 = some (acc ++ m.Args.flatMap kn) := accL (l := m.Args) (fun k acc i => link_linker_told_L4 m k acc (i : Int)) kn 1 3100 (fun k _ => kn_len k) (fun k i x acc hx hacc => by
          have hi := (List.getElem?_eq_some_iff.1 hx).1
          rw [link_linker_told_L4, lt_t hi, cond_true, idx_at hx, Option.bind_some, told_1 (by omega), Option.bind_some, w64_up hi (by omega)]) (fun k acc => by rw [link_linker_told_L4, lt_f]; rfl) (by omega) (by omega)
        have hk := flat_le (l := m.Args) (g := kn) (B := 1) (fun k _ => kn_len k)
        have hk2 := kn_len m.Returns
        have l5 : ∀ acc : List (List UInt8), acc.length ≤ 3200 → link_linker_told_L5 m F acc 0 = some (acc ++ m.Handlers.flatMap fun h => [h.Class]) := fun acc ha =>
          accL (l := m.Handlers) (fun k acc i => link_linker_told_L5 m k acc (i : Int)) (fun h => [h.Class]) 1 3300 (fun k _ => by simp) (fun k i x acc hx hacc => by
            have hi := (List.getElem?_eq_some_iff.1 hx).1
            rw [link_linker_told_L5, lt_t hi, cond_true, idx_at hx, Option.bind_some, app_ok (by simp only [List.length_cons, List.length_nil]; omega), Option.bind_some, w64_up hi (by omega)]) (fun k acc => by rw [link_linker_told_L5, lt_f]; rfl) (by omega) (by omega)
        rw [link_linker_told_L3, lt_t hi, cond_true, idx_at hx, Option.bind_some, l4, Option.bind_some, told_1 (k := (⟨m.Returns.Kind, m.Returns.Class⟩ : Kind)) (by simp only [List.length_append]; omega), Option.bind_some,
          l5 _ (by simp only [List.length_append]; have : (kn (⟨m.Returns.Kind, m.Returns.Class⟩ : Kind)).length ≤ 1 := kn_len _; omega), Option.bind_some, Option.bind_some, w64_up hi (by omega)]
        have e : (m.Handlers.flatMap fun h => [h.Class]) = m.Handlers.map (·.Class) := by
          induction m.Handlers with
          | nil => rfl
          | cons x r ih => rw [List.flatMap_cons, ih]; rfl
        rw [e]
        unfold mt
        simp only [List.append_assoc]) (fun k acc => by rw [link_linker_told_L3, lt_f]; rfl) (by omega) (by omega)
    have hk := flat_le (l := c.Fields) (g := fun f => kn f.Kind) (B := 1) (fun f _ => kn_len f.Kind)
    rw [link_linker_told_L1]
    have hcd : decide ((i : Int) < ((⟨l, m, s⟩ : link_linker).l.length : Int)) = true := lt_t (n := l.length) hi
    rw [hcd, cond_true]
    show (Option.bind (α := List (List UInt8)) ((idx l (i : Int)).bind fun x58905_ => _) _) = _
    rw [idx_at hx, Option.bind_some, l2 acc (by omega), Option.bind_some, l3 _ (by simp only [List.length_append]; omega), Option.bind_some, Option.bind_some, w64_up hi (by omega)]
    unfold ct
    simp only [List.append_assoc]) (fun k acc => by
      rw [link_linker_told_L1]
      show cond (decide ((l.length : Int) < (l.length : Int))) _ _ = _
      rw [lt_f]; rfl) (F := F) (by omega) (acc := []) (by simp; omega)
  simpa [toldL] using this
theorem nmap_some (s : List UInt8) : (mget (nmap 0 l) s).isSome = decide (0 ≤ clAt l s) := by
  rw [nmap_get]
  unfold clAt
  cases posP (isN s) l with
  | none => simp
  | some i => simp
theorem told_L (hF : 1100 < F) (h : Right l) (s : List Int) : link_linker_told F ⟨l, nmap 0 l, s⟩ = some (((toldL l).findSome? (tokE l)).getD 0) := by
  have hlen := h.len
  unfold link_linker_told
  have ht := told_all hF h (nmap 0 l) s
  have htl : (toldL l).length ≤ 780 := by
    have := flat_le (l := l) (g := ct) (B := 78) (fun c hc => ct_len h hc)
    unfold toldL; omega
  rw [ht, Option.bind_some]
  have l6 : link_linker_told_L6 ⟨l, nmap 0 l, s⟩ (toldL l) F 0 = some (wo ((toldL l).findSome? (tokE l))) := each (tokE l) (by omega) (fun k i x hx => by
    rw [link_linker_told_L6, lt_t (List.getElem?_eq_some_iff.1 hx).1, cond_true, idx_at hx, Option.bind_some]
    show cond (!(mget (nmap 0 l) x).isSome) _ _ = _
    rw [nmap_some]
    unfold tokE
    by_cases e : 0 ≤ clAt l x
    · rw [decide_eq_true e, if_pos e]; rfl
    · rw [decide_eq_false e, if_neg e]; rfl) (fun k => by rw [link_linker_told_L6, lt_f]; rfl) (by omega)
  rw [l6]
  cases (toldL l).findSome? (tokE l) <;> rfl
/-! The second reading. -/
def kE (l : List Class) (k : Kind) : Option Int := (kn k).findSome? (tokE l)
theorem tokE_five {s : List UInt8} : tokE l s = none ∨ tokE l s = some 5 := by unfold tokE; split <;> simp
theorem fs_five {α : Type} {g : α → Option Int} {e : Int} (hg : ∀ x, g x = none ∨ g x = some e) : ∀ r : List α, r.findSome? g = none ∨ r.findSome? g = some e
  | [] => .inl rfl
  | x :: r => by
    rw [List.findSome?_cons]
    rcases hg x with h | h
    · rw [h]; exact fs_five hg r
    · rw [h]; exact .inr rfl
theorem kE_eq (k : Kind) : kE l k = if k.Class = [] ∨ 0 ≤ clAt l k.Class then none else some 5 := by
  unfold kE kn tokE
  by_cases e : k.Class = []
  · simp [e]
  · by_cases e2 : 0 ≤ clAt l k.Class <;> simp [e, e2]
theorem Told_eq (h : Small F l.length) {ks : List Kind} (hk : Small F ks.length) : R_Told F l ks = some (ks.findSome? (kE l)).isNone := by
  unfold R_Told
  have l1 := each (l := ks) (L := R_Told_L1 F ks l) (fun k => (kE l k).map fun _ => false) hk.1 (fun k i x hx => by
    rw [R_Told_L1, lt_t (List.getElem?_eq_some_iff.1 hx).1, cond_true, idx_at hx, Option.bind_some, Option.bind_some, R_ClassAt_eq h, Option.bind_some, kE_eq]
    by_cases e : x.Class = []
    · rw [if_pos (.inl e), decide_eq_true e]; rfl
    · rw [decide_eq_false e]
      by_cases e2 : 0 ≤ clAt l x.Class
      · rw [if_pos (.inr e2), decide_eq_false (show ¬ clAt l x.Class < 0 by omega)]; rfl
      · rw [if_neg (by simp [e, e2]), decide_eq_true (show clAt l x.Class < 0 by omega)]; rfl) (fun k => by rw [R_Told_L1, lt_f]; rfl) hk.2
  rw [l1, fs_map]
  cases ks.findSome? (kE l) <;> rfl
theorem isNone_wm {o : Option Int} (h : o = none ∨ o = some 5) (Y : Option (Way Int Unit)) : cond (!o.isNone) (some (.out 5)) Y = wm o Y := by rcases h with h | h <;> rw [h] <;> rfl
theorem kE_five (k : Kind) : kE l k = none ∨ kE l k = some 5 := fs_five (fun _ => tokE_five) _
theorem wm_or {o o' : Option Int} {Y : Option (Way Int Unit)} : wm o (wm o' Y) = wm (o.or o') Y := by cases o <;> rfl
theorem told_R (hF : 1100 < F) (h : Right l) : R_CheckLink_L5 F l F 0 = some (wo ((toldL l).findSome? (tokE l))) := by
  have hlen := h.len
  have := each (l := l) (L := R_CheckLink_L5 F l) (fun c => (ct c).findSome? (tokE l)) (by omega) (fun k n c hx => by
    have hc := List.mem_of_getElem? hx
    have h6 := h.fields c hc
    have h8 := h.methods c hc
    have l6 : R_CheckLink_L6 F l (n : Int) F 0 = some (wo (c.Fields.findSome? fun f => kE l f.Kind)) := each (l := c.Fields) (fun f => kE l f.Kind) (by omega) (fun k i f hy => by
      rw [R_CheckLink_L6, idx_at hx, Option.bind_some, lt_t (List.getElem?_eq_some_iff.1 hy).1, cond_true, Option.bind_some, idx_at hy, Option.bind_some, Told_eq ⟨by omega, by omega⟩ ⟨by simp, by simp; omega⟩, Option.bind_some]
      have e : [(⟨f.Kind.Kind, f.Kind.Class⟩ : Kind)].findSome? (kE l) = kE l f.Kind := one_fs
      rw [e]
      exact isNone_wm (kE_five _) _) (fun k => by rw [R_CheckLink_L6, idx_at hx, Option.bind_some, lt_f]; rfl) (by omega)
    have l7 : R_CheckLink_L7 F l (n : Int) F 0 = some (wo (c.Methods.findSome? fun m => (mt m).findSome? (tokE l))) := each (l := c.Methods) (fun m => (mt m).findSome? (tokE l)) (by omega) (fun k i m hy => by
      have hm := List.mem_of_getElem? hy
      obtain ⟨h4, h5⟩ := h.method c hc m hm
      have l8 : R_CheckLink_L8 F l m F 0 = some (wo (m.Handlers.findSome? fun x => tokE l x.Class)) := each (l := m.Handlers) (fun x => tokE l x.Class) (by omega) (fun k i x hz => by
        rw [R_CheckLink_L8, lt_t (List.getElem?_eq_some_iff.1 hz).1, cond_true, idx_at hz, Option.bind_some, R_ClassAt_eq ⟨by omega, by omega⟩, Option.bind_some]
        unfold tokE
        by_cases e2 : 0 ≤ clAt l x.Class
        · rw [if_pos e2, decide_eq_false (show ¬ clAt l x.Class < 0 by omega)]; rfl
        · rw [if_neg e2, decide_eq_true (show clAt l x.Class < 0 by omega)]; rfl) (fun k => by rw [R_CheckLink_L8, lt_f]; rfl) (by omega)
      have e : [(⟨m.Returns.Kind, m.Returns.Class⟩ : Kind)].findSome? (kE l) = kE l m.Returns := one_fs
      rw [R_CheckLink_L7, idx_at hx, Option.bind_some, lt_t (List.getElem?_eq_some_iff.1 hy).1, cond_true, Option.bind_some, idx_at hy, Option.bind_some, Told_eq ⟨by omega, by omega⟩ ⟨by omega, by omega⟩, Option.bind_some, Told_eq ⟨by omega, by omega⟩ ⟨by simp, by simp; omega⟩, Option.bind_some, l8, e, so_wo]
      rw [isNone_wm (kE_five _), isNone_wm (fs_five (fun k => kE_five k) _), wm_or, wm_or, so_wm, seqO_go]
      congr 1
      unfold mt
      rw [List.findSome?_append, List.findSome?_append, fs_flat, List.findSome?_map]
      cases hA : m.Args.findSome? (kE l) with
      | some a =>
        have : (m.Args.findSome? fun x => (kn x).findSome? (tokE l)) = some a := hA
        rw [this]; rfl
      | none =>
        have : (m.Args.findSome? fun x => (kn x).findSome? (tokE l)) = none := hA
        rw [this]; rfl) (fun k => by rw [R_CheckLink_L7, idx_at hx, Option.bind_some, lt_f]; rfl) (by omega)
    rw [R_CheckLink_L5, lt_t (List.getElem?_eq_some_iff.1 hx).1, cond_true, l6, l7, so_wo, so_wo, wm_or, so_wm, seqO_go]
    congr 1
    unfold ct
    rw [List.findSome?_append, fs_flat, fs_flat]
    rfl) (fun k => by rw [R_CheckLink_L5, lt_f]; rfl) (F := F) (by omega)
  rw [this, toldL, fs_flat]
end
end Cin
