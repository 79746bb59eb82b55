/- From a row's condition to the small logic: arguments, and the row's last step. General: no program is named. -/
import Derived.Test.YtfbkanhgjpdohaaGgAny
import Derived.Carry
import Derived.ChangeSame
import Derived.OpenShut
import Derived.Deep.Slices
import Derived.Deep.Fields
import Derived.ChangeMaps5
import Derived.Lib.LaidTab
namespace Gg
open Go Go.RowKit Go.ChangeShapes Go.WideShapes Go.Deep Cin

section
variable {H : Type} {enc : TypeId × Value → H} {P : Program}
theorem carry_all (hl : laidOutB P = true) {W W' : World} {sp : Nat → Bool} : ∀ {ts : List TypeId} {vs : List Value} {ds : List (DataW H)} {ps : List MemPlace}, DataW.TrodAll enc P W 0 (fun _ => true) true ts vs ds ps →
    (ts.all fun t => P.readableRec t && Nat.blt t P.types.size) = true → (∀ p ∈ ps, W.sameAt W' p) → (∀ p ∈ ps, sp p.block = true) → DataW.TrodAll enc P W' 0 sp true ts vs ds ps
  | [], vs, ds, ps, h, _, _, _ => by obtain ⟨rfl, rfl, rfl⟩ := trodAll_nil h; exact trodAll_mk0
  | t :: ts, vs, ds, ps, h, hr, hs, hp => by
    obtain ⟨v, vs', d, ds', p, q, rfl, rfl, rfl, h0, h1⟩ := trodAll_cons h
    simp only [List.all_cons, Bool.and_eq_true] at hr
    exact trodAll_cons_mk (WideElems.Trod_stays hl hr.1.1 (Nat.le_of_ble_eq_true hr.1.2) h0 (fun x hx => hs x (List.mem_append_left _ hx)) (fun x hx => hp x (List.mem_append_left _ hx)))
      (carry_all hl h1 hr.2 (fun x hx => hs x (List.mem_append_right _ hx)) (fun x hx => hp x (List.mem_append_right _ hx)))

/-- The row's last step: true came back, the arguments read as before. -/
theorem post_true {f : Func} {s : ChangeSpec} {W W' : World} {args : Array Value} {ds gs : List (DataW H)} {before : List MemPlace} {tb : TypeId}
    (hW : DataW.Whole enc P f.params.toList s.vars false W args.toList ds gs before) (hl : laidOutB P = true) (hr : (f.params.toList.all fun t => P.readableRec t && Nat.blt t P.types.size) = true)
    (hv : s.vars = []) (hfn : s.fn H ds = { results := [.lit (.bool true)], args := ds }) (hb : P.underlying tb = some .bool) (hres : f.resultTypes = #[tb]) (hev : Ev [] W W') :
    s.post enc P f false true false false W args (.bool true) W' := by
  have hbw := hev.below
  have hlt : ∀ p ∈ before, p.block < W.heap.size := fun p hp => hW.lt p hp
  have hW0 := hW
  obtain ⟨p, q, hA, hV, hpq, hz, hn⟩ := hW
  rw [hv] at hV
  obtain ⟨rfl, rfl⟩ := trodVars_none hV
  simp only [List.append_nil] at hpq
  subst hpq
  have hold : ∀ x ∈ before, (fun b => decide (b < W.heap.size)) x.block = true := fun x hx => by simpa using hlt x hx
  have hargs : ∀ sp : Nat → Bool, (∀ x ∈ before, sp x.block = true) → DataW.TrodAll enc P W' 0 sp true f.params.toList args.toList ds before :=
    fun sp hsp => carry_all hl hA hr (fun x hx => hbw.same (hlt x hx)) hsp
  have hrs : ∀ (b : Nat) (sp : Nat → Bool) (hd : Bool), DataW.TrodAll enc P W' b sp hd f.resultTypes.toList ((Value.bool true).resultList f.resultTypes.size) [.lit (.bool true)] [] := fun b sp hd => by
    rw [hres]; exact trodAll_cons_mk (p := []) (shut_bool hb true) trodAll_mk0
  have hvs : ∀ sp : Nat → Bool, DataW.TrodVars enc P W' sp s.vars [] [] := fun sp => by rw [hv]; rfl
  refine ⟨ds, [], before, [], before, [], hW0, ?_, ?_, ?_, World.keptBut_mono (fun x hx => ⟨hx, Or.inr (by simpa using hx)⟩) (hbw.frame (· ∈ before)), fun _ => ?_⟩
  · simp only [List.append_nil, hfn]; exact hrs _ _ _
  · simp only [List.append_nil, hfn]; exact hargs _ hold
  · simp only [List.append_nil, hfn]; exact hvs _
  · refine ⟨ok_one hres rfl (okWide_bool_mk hb true), _, _, ([] ++ before) ++ [], ⟨[] ++ before, [], trodAll_append (hargs (fun _ => true) (fun _ _ => rfl)) (hrs _ _ _), hvs _, rfl, ?_, ?_⟩, ?_⟩
    · intro b off hp
      have hin : MemPlace.cell b off ∈ before := by simpa using hp
      rw [hbw.frozen (hlt _ hin)]
      exact hz b off hin
    · intro ha; simpa using hn ha
    · intro x hx _; simpa using hx

/-! ### What the arguments give -/
theorem arg_str {W : World} {r : Reach} {b0 : Nat} {sp : Nat → Bool} {hd : Bool} {t : TypeId} {v : Value} {d : DataW H} {ps : List MemPlace} (ht : P.underlying t = some .string) (hval : Value.okWide P W r b0 t v) (h : DataW.Trod enc P W 0 sp hd t v d ps) :
    ∃ l : List UInt8, v = Str l ∧ l.length ≤ maxLen := by
  obtain ⟨s, rfl, _, _, hs⟩ := Go.ChangeMaps.open_string ht hval h
  exact ⟨s.data.toList, rfl, by simpa using hs⟩

theorem arg_i64 {W : World} {r : Reach} {b0 : Nat} {sp : Nat → Bool} {hd : Bool} {t : TypeId} {v : Value} {d : DataW H} {ps : List MemPlace} (ht : P.underlying t = some (.int .i64)) (hval : Value.okWide P W r b0 t v) (h : DataW.Trod enc P W 0 sp hd t v d ps) :
    ∃ n : Int, v = .int .i64 n ∧ -9223372036854775808 ≤ n ∧ n ≤ 9223372036854775807 := by
  obtain ⟨n, rfl, _, _, hw⟩ := open_int ht hval h
  exact ⟨n, rfl, by simpa [Lit.wf, IntKind.min, IntKind.max, IntKind.signed, IntKind.bits] using hw⟩

/-- The cells of a run of elements, one by one. -/
theorem run_cells {α : Type} {T : Ty α} {F : Nat → Prop} {W : World} {b o : Nat} {R : α → Prop} : ∀ m : Nat, (∀ i, i < m → ∃ cs d, Cells W ⟨b, o + i * T.size, none⟩ cs ∧ T.rd F W cs d ∧ R d) →
    ∃ (l : List α) (xs : List Value), l.length = m ∧ rdAll T F W xs l ∧ Cells W ⟨b, o, none⟩ xs ∧ ∀ d ∈ l, R d
  | 0, _ => ⟨[], [], rfl, rfl, fun j u hj => by simp at hj, fun d hd => by cases hd⟩
  | m + 1, h => by
    obtain ⟨l, xs, h1, h2, h3, h4⟩ := run_cells m (fun i hi => h i (by omega))
    obtain ⟨cs, d, c1, c2, c3⟩ := h m (by omega)
    refine ⟨l ++ [d], xs ++ cs, by simp [h1], rdAll_snoc (T := T) c2 h2, fun j u hj => ?_, fun e he => ?_⟩
    · have hl := rdAll_len (T := T) h2
      rcases Nat.lt_or_ge j xs.length with hlt | hge
      · exact h3 j u (by simpa [List.getElem?_append, hlt] using hj)
      · rw [List.getElem?_append_right hge] at hj
        have := c1 (j - xs.length) u hj
        rw [hl, h1] at this
        rw [show o + j = o + m * T.size + (j - m * T.size) by rw [hl, h1] at hge; omega]
        simpa using this
    · rcases List.mem_append.1 he with e1 | e1
      · exact h4 e e1
      · simp at e1; subst e1; exact c3

theorem arg_slice {α : Type} {T : Ty α} {R : α → Prop} {W : World} {r : Reach} {b0 : Nat} {t e : TypeId} {v : Value} {d : DataW H} {ps : List MemPlace} (ht : P.underlying t = some (.slice e)) (hsz : P.cellsOf e = T.size) (hpos : 0 < T.size)
    (hel : ∀ {n : Nat} {cs : List Value} {x : DataW H × List MemPlace}, DataW.trod enc P W 0 (fun _ => true) true n e cs = some x → ∃ d, T.rd (Fz [] W) W cs d ∧ R d)
    (hval : Value.okWide P W r b0 t v) (h : DataW.Trod enc P W 0 (fun _ => true) true t v d ps) (hlt : ∀ p ∈ ps, p.block < W.heap.size) :
    ∃ (A : Option Addr) (c : Nat) (l : List α), v = .slice A l.length c ∧ (Dt.of (tySlice T) [v] l).ok [] W ∧ (∀ d ∈ l, R d) ∧ l.length ≤ maxLen := by
  obtain ⟨a0, len0, cap0, rfl⟩ := okWide_slice ht hval
  obtain ⟨fuel, hf⟩ := h
  rcases open_slice ht hf with ⟨h0, _⟩ | ⟨a, len, cap, m, n, D, Pl, hcs, _, hl, hm, hmm, hx, hi⟩
  · simp only [Value.cells, List.cons.injEq, Value.slice.injEq, and_true] at h0
    obtain ⟨rfl, rfl, rfl⟩ := h0
    exact ⟨none, 0, [], rfl, ⟨none, 0, rfl, Nat.le_refl _, Nat.zero_le _, fun _ => rfl, fun h => absurd rfl h⟩, (fun d hd => by cases hd), Nat.zero_le _⟩
  · simp only [Value.cells, List.cons.injEq, Value.slice.injEq, and_true] at hcs
    obtain ⟨rfl, rfl, rfl⟩ := hcs
    have hm' : m = cap0 := by simpa using hmm
    subst hm'
    have hps : ps = MemPlace.row a (m * P.cellsOf e) ++ (List.range m).flatMap Pl := congrArg Prod.snd hx
    by_cases h0 : len0 = 0
    · subst h0
      exact ⟨some a, m, [], rfl, ⟨some a, m, rfl, by simp, hm, fun h => (by cases h), fun h => absurd rfl h⟩, fun d hd => (by cases hd), by simp⟩
    · have hcell : ∀ i, i < m → ∃ cs d, (∀ j u, cs[j]? = some u → W.cell? (a.add (i * T.size + j)) = some u) ∧ cs.length = T.size ∧ T.rd (Fz [] W) W cs d ∧ R d := fun i him => by
        obtain ⟨cs', hc, ht'⟩ := hi i him
        obtain ⟨d, hd, hR⟩ := hel ht'
        rw [hsz] at hc
        obtain ⟨_, hcl, hat⟩ := World.cells?_some hc
        refine ⟨cs', d, fun j u hj => ?_, hcl, hd, hR⟩
        have hjl : j < T.size := by rw [← hcl]; exact (List.getElem?_eq_some_iff.1 hj).1
        have := hat j hjl
        rw [hj, Go.Deep.add_add] at this
        exact this
      have hspot : a.spot = none := by
        obtain ⟨cs, d, h1, h2, _⟩ := hcell 0 (by omega)
        have := h1 0 _ (List.getElem?_eq_getElem (by omega))
        unfold World.cell? at this
        split at this
        · split at this
          · cases this
          · rename_i hs; simpa [Addr.add] using hs
        · cases this
      obtain ⟨ab, ao, as⟩ := a
      simp only at hspot
      subst hspot
      obtain ⟨l, xs, h1, h2, h3, h4⟩ := run_cells (T := T) (F := Fz [] W) (W := W) (b := ab) (o := ao) (R := R) len0 (fun i hil => by
        obtain ⟨cs, d, c1, _, c3, c4⟩ := hcell i (by omega)
        exact ⟨cs, d, fun j u hj => by have := c1 j u hj; rw [addr_add] at this; simpa [Nat.add_assoc] using this, c3, c4⟩)
      subst h1
      refine ⟨_, m, l, rfl, ⟨_, m, rfl, hl, hm, fun h => (by cases h), fun _ => ⟨rfl, ⟨by simp, ?_⟩, xs, h2, h3⟩⟩, h4, Nat.le_trans hl hm⟩
      have hin : MemPlace.cell ab ao ∈ ps := by
        rw [hps, List.mem_append]
        left
        have : 0 < m * P.cellsOf e := Nat.mul_pos (by omega) (by omega)
        simp only [MemPlace.row, List.mem_map, List.mem_range]
        exact ⟨0, this, by simp⟩
      exact hlt _ hin

/-- What the row's own bound on sizes gives. -/
theorem arg_str_wt {W : World} {r : Reach} {b0 : Nat} {sp : Nat → Bool} {hd : Bool} {t N : Nat} {l : List UInt8} {d : DataW H} {ps : List MemPlace} (ht : P.underlying t = some .string) (hval : Value.okWide P W r b0 t (Str l)) (h : DataW.Trod enc P W 0 sp hd t (Str l) d ps)
    (hw : ∀ n ∈ d.weights P t, n ≤ N) : l.length ≤ N := by
  obtain ⟨s, hs, rfl, _, _⟩ := Go.ChangeMaps.open_string ht hval h
  have hl : l = s.data.toList := by
    have : (⟨⟨l⟩⟩ : ByteArray) = s := by injection hs
    rw [← this]
  have := hw s.data.toList.length (by simp [DataW.weights])
  rw [hl]; exact this
theorem arg_slice_wt {W : World} {b0 : Nat} {r : Reach} {t e N : Nat} {A : Option Addr} {n c : Nat} {d : DataW H} {ps : List MemPlace} (ht : P.underlying t = some (.slice e)) (h : DataW.Trod enc P W 0 (fun _ => true) true t (.slice A n c) d ps)
    (hw : ∀ n ∈ d.weights P t, n ≤ N) : n * P.bytesOf e ≤ N := by
  obtain ⟨fuel, hf⟩ := h
  rcases open_slice ht hf with ⟨h0, _⟩ | ⟨a, len, cap, m, n', D, Pl, hcs, _, hl, hm, hmm, hx, hi⟩
  · simp only [Value.cells, List.cons.injEq, Value.slice.injEq, and_true] at h0
    obtain ⟨_, rfl, _⟩ := h0
    simp
  · simp only [Value.cells, List.cons.injEq, Value.slice.injEq, and_true] at hcs
    obtain ⟨_, rfl, _⟩ := hcs
    have hd : d = _ := congrArg Prod.fst hx
    subst hd
    have := hw _ (by simp only [DataW.weights, ht]; exact List.mem_cons_self)
    simp only [List.length_map, List.length_range] at this
    exact Nat.le_trans (Nat.mul_le_mul_right _ (Nat.le_add_right _ _)) this

/-- The cells of a struct of int64 fields. -/
theorem ints_of_struct {W : World} {sp : Nat → Bool} {hd : Bool} {e ti n : Nat} {fs : Array Field} {cs : List Value} {x : DataW H × List MemPlace} (he : P.underlying e = some (.struct fs)) (hone : oneCellFields P fs = true) (hC : P.cellsOf e = fs.size)
    (hf : (fs.toList.all fun f => f.type == ti) = true) (hi : P.underlying ti = some (.int .i64)) (h : DataW.trod enc P W 0 sp hd n e cs = some x) :
    ∃ zs : List Int, zs.length = fs.size ∧ cs = zs.map (Value.int .i64) ∧ ∀ z ∈ zs, -9223372036854775808 ≤ z ∧ z ≤ 9223372036854775807 := by
  obtain ⟨ys, n', _, _, hlen, hyl, hg⟩ := DataW.trod_struct he h
  rw [hC] at hlen
  have key : ∀ m, m ≤ fs.size → ∃ zs : List Int, zs.length = m ∧ cs.take m = zs.map (Value.int .i64) ∧ ∀ z ∈ zs, -9223372036854775808 ≤ z ∧ z ≤ 9223372036854775807 := by
    intro m
    induction m with
    | zero => intro _; exact ⟨[], rfl, by simp, fun z hz => by cases hz⟩
    | succ m ih =>
      intro hm
      obtain ⟨zs, h1, h2, h3⟩ := ih (by omega)
      have hj : fs[m]? = some (fs[m]'(by omega)) := Array.getElem?_eq_getElem (by omega)
      obtain ⟨ho, hk⟩ := hone_of hone m _ hj
      have h4 := hg m _ hj
      rw [ho, hk] at h4
      have hd1 : (cs.drop m).take 1 = [cs[m]'(by omega)] := by
        rw [List.drop_eq_getElem_cons (by omega)]; rfl
      rw [hd1, List.getElem?_eq_getElem (by omega)] at h4
      have hty : (fs[m]'(by omega)).type = ti := by
        have := List.all_eq_true.1 hf (fs[m]'(by omega)) (by simp)
        simpa using this
      rw [hty] at h4
      obtain ⟨z, hz, _, hw⟩ := DataW.trod_int hi h4
      refine ⟨zs ++ [z], by simp [h1], ?_, fun u hu => ?_⟩
      · rw [List.take_add_one, h2, List.getElem?_eq_getElem (by omega)]
        simp only [List.cons.injEq, and_true] at hz
        simp [hz]
      · rcases List.mem_append.1 hu with e1 | e1
        · exact h3 u e1
        · simp at e1; subst e1
          simpa [Lit.wf, IntKind.min, IntKind.max, IntKind.signed, IntKind.bits] using hw
  obtain ⟨zs, h1, h2, h3⟩ := key fs.size (Nat.le_refl _)
  exact ⟨zs, h1, by rw [← h2, List.take_of_length_le (by omega)], h3⟩
theorem glob_of_tab {W : World} {name : String} {zs : List Int} {g : Nat} (h : Lib.TabIs P W name .i64 zs) (hg : P.globalNamed name = some g) (hne : Nat.blt 0 zs.length = true) : (Dt.glob g (zs.map (Value.int .i64))).ok [] W := by
  have hpos : 0 < zs.length := Nat.le_of_ble_eq_true hne
  refine ⟨by simp, World.block_lt_of_cell? W _ (h.cell hg 0 hpos), fun j u hj => ?_⟩
  rw [List.getElem?_map, Option.map_eq_some_iff] at hj
  obtain ⟨z, hz, rfl⟩ := hj
  have hl : j < zs.length := (List.getElem?_eq_some_iff.1 hz).1
  have := h.cell hg j hl
  rw [show (0 : Nat) + j = j by omega]
  rw [this, List.getD_eq_getElem?_getD, hz]
  rfl
end
end Gg
