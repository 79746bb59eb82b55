/- The small logic, the steps that the generator prints. General: no program is named. -/
import Derived.Test.YtfbkanhgjpdohaaGvRow2
import Derived.Laws.IdiomStrings
namespace Gg
open Go Go.RowKit Cin

section
variable {P : Program} {ops : Array Oper} {Q : Exit → Act → World → Prop} {a : Act} {w : World} {rest : List Oper} {o : Oper} {n : FrN} {d : Nat} {l : List (Nat × Value)}
  {W : World} {M0 X : List Nat} {E : List Ent} {D : List Dt}
theorem Fr.bt (hf : Fr n l a) (t : Nat) {b c : Bool} (hl : lk l t = some (.bool b)) (hb : b = c) : Fr n ((t, .bool c) :: l) a :=
  ⟨hf.size, hf.defers, fun u v h => by
    simp only [lk] at h
    cases hbq : Nat.beq t u with
    | true =>
      rw [hbq] at h
      simp only [Option.some.injEq] at h
      rw [← Nat.eq_of_beq_eq_true hbq, ← h, ← hb]
      exact hf.get t _ hl
    | false => rw [hbq] at h; exact hf.get u v h⟩
theorem ev_map {κ β : Type} [DecidableEq κ] {K : Ky κ} {ev : β → Value} {w w' : World} {r : Nat} {m : List (κ × β)} (h : Ev [] w w') (hm : MapIs K ev w r m) : MapIs K ev w' r m := by
  obtain ⟨es, c, h1, h2⟩ := hm
  exact ⟨es, c, (h.block r (Array.getElem?_eq_some_iff.1 h1).1 (by simp)).trans h1, h2⟩
theorem ev_ev {w w1 w2 : World} (h : Ev [] w w1) (h' : Ev [] w1 w2) : Ev [] w w2 := h.trans h' (by simp)

theorem nnew {t : TypeId} {cs : List Value} (hw : Region.wanted o (yielded ops a.tmps) = true) (hy : Yv P o a w (.pointer (some ⟨w.heap.size, 0, none⟩)) (w.alloc (.cells cs.toArray t))) (hf : Fr n l a) (hm : St W M0 X w E D)
    (hd : o.dst = some d) (hn : Nat.blt d n = true) (k : ∀ a' g w', Ev [] w w' → Fr n ((d, .pointer (some ⟨g, 0, none⟩)) :: l) a' → St W M0 X w' (Ent.blk g t cs :: E) D → wpList P ops Q rest a' w') : wpList P ops Q (o :: rest) a w :=
  sv hw hy hf hd hn fun a' hf' => k a' _ _ (Ev.alloc _ _ _) hf' (hm.new t cs)
theorem nnewS {t : TypeId} {cs : List Value} {m : Nat} (hw : Region.wanted o (yielded ops a.tmps) = true) (hy : Yv P o a w (.slice (some ⟨w.heap.size, 0, none⟩) m m) (w.alloc (.cells cs.toArray t))) (hf : Fr n l a) (hm : St W M0 X w E D)
    (hd : o.dst = some d) (hn : Nat.blt d n = true) (k : ∀ a' g w', Ev [] w w' → Fr n ((d, .slice (some ⟨g, 0, none⟩) m m) :: l) a' → St W M0 X w' (Ent.blk g t cs :: E) D → wpList P ops Q rest a' w') : wpList P ops Q (o :: rest) a w :=
  sv hw hy hf hd hn fun a' hf' => k a' _ _ (Ev.alloc _ _ _) hf' (hm.new t cs)
theorem nmake {κ β : Type} [DecidableEq κ] {t : TypeId} (K : Ky κ) (ev : β → Value) (hw : Region.wanted o (yielded ops a.tmps) = true) (ho : o.op = .makeMap t none) (hf : Fr n l a) (hm : St W M0 X w E D)
    (hd : o.dst = some d) (hn : Nat.blt d n = true) (k : ∀ a' r w', Ev [] w w' → Fr n ((d, .map (some r)) :: l) a' → St W M0 X w' (Ent.map K ev r ([] : List (κ × β)) :: E) D → wpList P ops Q rest a' w') : wpList P ops Q (o :: rest) a w :=
  sv hw (y_makeMap ho) hf hd hn fun a' hf' => k a' _ _ (Ev.alloc _ _ _) hf' (hm.newMap K ev)
/-- A literal of nothing. -/
theorem y_buildNone {t e : TypeId} {sz : Nat} (hu : P.underlying t = some (.slice e)) (hs : ∀ w, (Go.sizeOf e).run P w = .ok sz w) (ho : o.op = .buildSlice t 0 (List.toArray [])) :
    Yv P o a w (.slice (some ⟨w.heap.size, 0, none⟩) 0 0) (w.alloc (.cells (List.toArray []) e)) := by
  simp only [Yv, execOp, ho, Instr.buildSlice, Sem.run_bind, Sem.run_pure, hs, Result.andThen_ok, run_underlying hu]
  simp [Instr.fill, newRow, go_sem]

/-- One operation that leaves the world alone is taken at once. -/
theorem ah_v {S : World → Prop} {f p : Nat} {ds : List Nat} {v : Value} (i : Nat) (hi : ops[i]? = some o) (hpu : (mkL ops.size ds).getD p false = false) (ht : (takes ops ds i && waitsB ops p i ds && !Nat.beq p i) = true) (hw : Region.wanted o (yielded ops a.tmps) = true) (hy : ∀ w', S w' → Yv P o a w' v w') (hSw : S w)
    (hf : Fr n l a) (hd : o.dst = some d) (hn : Nat.blt d n = true) (k : ∀ a', Fr n ((d, v) :: l) a' → Ah P ops Q p S f (i :: ds) a' w) : Ah P ops Q p S (f + 1) ds a w := by
  simp only [Bool.and_eq_true, Bool.not_eq_true'] at ht
  obtain ⟨⟨ht1, hwt⟩, hpi⟩ := ht
  have hpi' : p ≠ i := fun e => by rw [e] at hpi; simp at hpi
  simp only [takes, Bool.and_eq_true] at ht1
  refine ⟨fun _ => hSw, ?_⟩
  refine wpAnyP_first (v := v) hi (Region.noSelect_spec ht1.1.1) hpi' (fun c a w h => h) (waitsB_ok hwt).1 (waitsB_ok hwt).2.1 f _ a w (Region.free_spec hi ht1.1.2) hpu (waitsB_ok hwt).2.2 (by simpa using ht1.2) (.inl ⟨hw, hy⟩) hSw ?_
  rw [hd]
  exact (k _ (hf.put hn)).2

/-- The same for what yields in whatever world, whatever the phase. -/
theorem ah_v0 {S : World → Prop} {f p : Nat} {ds : List Nat} {v : Value} (i : Nat) (hi : ops[i]? = some o) (ht : (takes ops ds i && !Nat.beq p i) = true) (hw : Region.wanted o (yielded ops a.tmps) = true) (hy : ∀ w', Yv P o a w' v w') (hSw : S w)
    (hf : Fr n l a) (hd : o.dst = some d) (hn : Nat.blt d n = true) (k : ∀ a', Fr n ((d, v) :: l) a' → Ah P ops Q p S f (i :: ds) a' w) : Ah P ops Q p S (f + 1) ds a w := by
  simp only [Bool.and_eq_true, Bool.not_eq_true'] at ht
  obtain ⟨ht1, hpi⟩ := ht
  have hpi' : p ≠ i := fun e => by rw [e] at hpi; simp at hpi
  simp only [takes, Bool.and_eq_true] at ht1
  refine ⟨fun _ => hSw, ?_⟩
  refine wpAnyP_first0 (v := v) hi (Region.noSelect_spec ht1.1.1) hpi' (fun c a w h => h) f _ a w (Region.free_spec hi ht1.1.2) (fun _ => hSw) (by simpa using ht1.2) (.inl ⟨hw, fun w _ => hy w⟩) ?_
  rw [hd]
  exact (k _ (hf.put hn)).2
theorem St.swap {x y : Ent} (h : St W M0 X w (x :: y :: E) D) : St W M0 X w (y :: x :: E) D := by
  have hf : ∀ k, k ∈ foots (y :: x :: E) ↔ k ∈ foots (x :: y :: E) := fun k => by
    simp only [foots, List.flatMap_cons, List.mem_append]
    exact ⟨fun h => by rcases h with h | h | h <;> simp [h], fun h => by rcases h with h | h | h <;> simp [h]⟩
  refine ⟨h.ev, h.ltX, fun k hk => h.lt k ((hf k).1 hk), fun z hz => h.ok z (by simp only [List.mem_cons] at hz ⊢; rcases hz with h | h | h <;> simp [h]), ?_, fun z hz => z.law _ _ w w (Ev.refl _ _) (fun k hk => .inl (by
    rcases List.mem_append.1 hk with e | e
    · exact List.mem_append.2 (.inl e)
    · exact List.mem_append.2 (.inr ((hf k).1 e)))) (h.rd z hz)⟩
  have hd := h.dj
  have e1 : foots (x :: y :: E) = x.foot ++ (y.foot ++ foots E) := by simp [foots]
  have e2 : foots (y :: x :: E) = y.foot ++ (x.foot ++ foots E) := by simp [foots]
  rw [e1, List.nodup_append, List.nodup_append] at hd
  rw [e2, List.nodup_append, List.nodup_append]
  obtain ⟨dx, ⟨dy, dE, dyE⟩, dxy⟩ := hd
  exact ⟨dy, ⟨dx, dE, fun a ha b hb => dxy a ha b (by simp [hb])⟩, fun a ha b hb => by
    rcases List.mem_append.1 hb with e | e
    · exact fun e3 => dxy b e a (by simp [ha]) e3.symm
    · exact dyE a ha b e⟩
theorem new_step {K : Act → World → Prop} {i d t : Nat} {c : List Value} (hi : ops[i]? = some o) (hw : Region.wanted o (yielded ops a.tmps) = true) (hy : Yv P o a w (.pointer (some ⟨w.heap.size, 0, none⟩)) (w.alloc (.cells c.toArray t))) (hd : o.dst = some d)
    (h : K (a.put (some d) (.pointer (some ⟨w.heap.size, 0, none⟩))) (w.alloc (.cells c.toArray t))) : wpOp P ops Q i K a w := by
  unfold wpOp
  simp only [hi]
  rw [if_pos hw]
  refine .inl ?_
  unfold Oper.wp
  rw [show (execOp a.eval o).run P w = _ from hy]
  show K (a.put o.dst _) _
  rw [hd]
  exact h
theorem ah_one {S : World → Prop} {f p i : Nat} {ds : List Nat} (hr : Region.ready .any ops (mkL ops.size ds) = [i]) (hS : S w) (h : wpOp P ops (NoPanic Q) i (Ah P ops Q p S f (i :: ds)) a w) : Ah P ops Q p S (f + 1) ds a w :=
  ⟨fun _ => hS, ⟨fun h0 => (by rw [hr] at h0; cases h0), fun j hj => by
    rw [hr] at hj
    have : j = i := by simpa using hj
    subst this
    exact h⟩⟩
/-- Two new variables, in whatever order they come. -/
theorem ah_new2 {S : World → Prop} {f p : Nat} {ds : List Nat} {oi oj : Oper} {di dj ti tj : Nat} {ci cj : List Value} (i j : Nat) (hi : ops[i]? = some oi) (hj : ops[j]? = some oj) (hc : (Region.ready .any ops (mkL ops.size ds) == [i, j]) = true) (hci : (Region.ready .any ops (mkL ops.size (i :: ds)) == [j]) = true) (hcj : (Region.ready .any ops (mkL ops.size (j :: ds)) == [i]) = true)
    (hm2 : (mkL ops.size (i :: j :: ds) == mkL ops.size (j :: i :: ds)) = true)
    (hgi : oi.guard = none) (hgj : oj.guard = none)
    (hyi : ∀ (b : Act) w, Yv P oi b w (.pointer (some ⟨w.heap.size, 0, none⟩)) (w.alloc (.cells ci.toArray ti))) (hyj : ∀ (b : Act) w, Yv P oj b w (.pointer (some ⟨w.heap.size, 0, none⟩)) (w.alloc (.cells cj.toArray tj)))
    (hf : Fr n l a) (hm : St W M0 X w E D) (hdi : oi.dst = some di) (hdj : oj.dst = some dj) (hni : Nat.blt di n = true) (hnj : Nat.blt dj n = true) (hne : Nat.beq di dj = false) (hS : ∀ w', Ev [] w w' → S w')
    (k : ∀ a' gi gj w', Ev [] w w' → w.heap.size ≤ gi → w.heap.size ≤ gj → Fr n ((di, .pointer (some ⟨gi, 0, none⟩)) :: (dj, .pointer (some ⟨gj, 0, none⟩)) :: l) a' → St W M0 X w' (Ent.blk gi ti ci :: Ent.blk gj tj cj :: E) D → Ah P ops Q p S f (i :: j :: ds) a' w') : Ah P ops Q p S (f + 2) ds a w := by
  have hr := eq_of_beq hc
  have hri := eq_of_beq hci
  have hrj := eq_of_beq hcj
  have hmm := eq_of_beq hm2
  have hne' : di ≠ dj := fun e => by rw [e] at hne; simp at hne
  have hswap : ∀ {gi gj : Nat} {a' : Act}, Fr n ((dj, .pointer (some ⟨gj, 0, none⟩)) :: (di, .pointer (some ⟨gi, 0, none⟩)) :: l) a' → Fr n ((di, .pointer (some ⟨gi, 0, none⟩)) :: (dj, .pointer (some ⟨gj, 0, none⟩)) :: l) a' := fun h => ⟨h.size, h.defers, fun t v ht => h.get t v (by
    simp only [lk] at ht ⊢
    cases e1 : Nat.beq di t <;> cases e2 : Nat.beq dj t <;> simp only [e1, e2] at ht ⊢ <;> first | exact ht | exact absurd ((Nat.eq_of_beq_eq_true e1).trans (Nat.eq_of_beq_eq_true e2).symm) hne')⟩
  refine ⟨fun _ => hS w (Ev.refl _ _), ⟨fun h0 => (by rw [hr] at h0; cases h0), fun m hmem => ?_⟩⟩
  rw [hr] at hmem
  have hij : m = i ∨ m = j := by simpa using hmem
  rcases hij with rfl | rfl
  · have e1 : Ev [] w (w.alloc (.cells ci.toArray ti)) := Ev.alloc _ _ _
    refine new_step hi (wN hgi) (hyi a w) hdi ?_
    have e3 := ev_ev e1 (Ev.alloc [] (w.alloc (.cells ci.toArray ti)) (.cells cj.toArray tj))
    exact ⟨fun _ => hS _ e1, (ah_one (f := f) hri (hS _ e1) (new_step hj (wN hgj) (hyj _ _) hdj (by
      have := k _ _ _ _ e3 (Nat.le_refl _) (by simp) (hswap ((hf.put hni).put hnj)) ((hm.new ti ci).new tj cj).swap
      unfold Ah at this ⊢
      rw [← hmm]
      exact this))).2⟩
  · have e1 : Ev [] w (w.alloc (.cells cj.toArray tj)) := Ev.alloc _ _ _
    refine new_step hj (wN hgj) (hyj a w) hdj ?_
    have e3 := ev_ev e1 (Ev.alloc [] (w.alloc (.cells cj.toArray tj)) (.cells ci.toArray ti))
    exact ⟨fun _ => hS _ e1, (ah_one (f := f) hrj (hS _ e1) (new_step hi (wN hgi) (hyi _ _) hdi (k _ _ _ _ e3 (by simp) (Nat.le_refl _) ((hf.put hnj).put hni) ((hm.new tj cj).new ti ci)))).2⟩

theorem run_callB {f : FuncId} {fx : Operand} {xs : List Operand} {ats : Array TypeId} {vs cs us : List Value}
    (ho : o.op = .call { callee := .value fx, args := xs.toArray, argTypes := ats }) (hcf : ∀ args w, (callFunc f args).run P w = .ok (.enter f args) w) (hfx : a.eval fx = .func (.func f) us.toArray cs.toArray)
    (hxs : evs a xs vs) : (execOp a.eval o).run P w = .ok (.enter f (us ++ vs ++ cs).toArray) w := by
  have h1 := evs_map hxs
  simp only [execOp, ho, resolve, List.map_toArray, h1, hfx]
  simp [Deferred.ofValue, invoke, hcf]
/-- A call of a function value that is known: a method with its receiver, a closure with what it has captured. -/
theorem scB {f : FuncId} {fx : Operand} {xs : List Operand} {ats : Array TypeId} {vs cs us : List Value} {R : Ending → World → Prop} (hw : Region.wanted o (yielded ops a.tmps) = true)
    (ho : o.op = .call { callee := .value fx, args := xs.toArray, argTypes := ats }) (hcf : ∀ args w, (callFunc f args).run P w = .ok (.enter f args) w) (hfx : a.eval fx = .func (.func f) us.toArray cs.toArray)
    (hxs : evs a xs vs) (hc : Calls P f (us ++ vs ++ cs).toArray w R) (hf : Fr n l a) (hd : o.dst = some d) (hn : Nat.blt d n = true)
    (k : ∀ e w', R e w' → ∃ v, e = .returned v ∧ ∀ a', Fr n ((d, v) :: l) a' → wpList P ops Q rest a' w') : wpList P ops Q (o :: rest) a w := by
  refine wpList_step fun K hK => ?_
  rw [if_pos hw]
  unfold Oper.wp
  rw [run_callB ho hcf hfx hxs]
  refine hc.mono fun e w' hr => ?_
  obtain ⟨v, rfl, hk⟩ := k e w' hr
  rw [hd]
  exact hK _ _ (hk _ (hf.put hn))
/-- A call whose answer nobody takes. -/
theorem sc0 {f : FuncId} {xs : List Operand} {ats : Array TypeId} {vs : List Value} {R : Ending → World → Prop} (hw : Region.wanted o (yielded ops a.tmps) = true)
    (ho : o.op = .call { callee := .value (.func f), args := xs.toArray, argTypes := ats }) (hcf : ∀ args w, (callFunc f args).run P w = .ok (.enter f args) w)
    (hxs : evs a xs vs) (hc : Calls P f vs.toArray w R) (hd : o.dst = none)
    (k : ∀ e w', R e w' → ∃ v, e = .returned v ∧ wpList P ops Q rest a w') : wpList P ops Q (o :: rest) a w := by
  refine wpList_step fun K hK => ?_
  rw [if_pos hw]
  refine wp_call ho hcf hxs hc fun e w' hr => ?_
  obtain ⟨v, he, hk⟩ := k e w' hr
  rw [hd]
  exact ⟨v, he, hK _ _ hk⟩
end
section
variable {P : Program} {o : Oper} {a : Act} {w : World} {xs ys : Array Value}
theorem eqF_sub {d sz : Nat} {f : Field} {l : List Field} {us vs : List Value} {e q : Prop} [Decidable e] [Decidable q] (hn : (f.name != "_") = true) (hg : ∀ w, (isAgg f.type).run P w = .ok true w) (hs : ∀ w, (Go.sizeOf f.type).run P w = .ok sz w)
    (hx : xs.extract f.offset (f.offset + sz) = us.toArray) (hy : ys.extract f.offset (f.offset + sz) = vs.toArray) (hq : (Op.equalIn (d + 1) f.type (.agg us.toArray) (.agg vs.toArray)).run P w = .ok (decide q) w)
    (h : (Op.eqFields (d + 1) xs ys l).run P w = .ok (decide e) w) : (Op.eqFields (d + 1) xs ys (f :: l)).run P w = .ok (decide (q ∧ e)) w := by
  have hn' : f.name ≠ "_" := by simpa using hn
  simp only [Op.eqFields, hn', if_true, ne_eq, not_false_iff, part, Sem.run_bind, hg, hs, Result.andThen_ok, hx, hy, Sem.run_pure, hq]
  by_cases hmn : q
  · simp [hmn, h]
  · simp [hmn]
theorem eq_sub {d : Nat} {t : TypeId} {fs : Array Field} {q : Prop} [Decidable q] (ht : P.underlying t = some (.struct fs)) (hp : P.stoodInHeld t = false) (h : (Op.eqFields d xs ys fs.toList).run P w = .ok (decide q) w) : (Op.equalIn (d + 1) t (.agg xs) (.agg ys)).run P w = .ok (decide q) w := by
  have hf : P.fieldsOf t = fs := by simp [Program.fieldsOf, ht]
  have h' := run_equalIn_struct (P := P) w d t xs ys (by rw [hf]; exact ht) hp
  rw [hf, h] at h'
  exact h'
theorem eqF_str {d : Nat} {f : Field} {l : List Field} {m n : List UInt8} {e : Prop} [Decidable e] (hn : (f.name != "_") = true) (hu : P.underlying f.type = some .string) (hg : ∀ w, (isAgg f.type).run P w = .ok false w)
    (hx : xs[f.offset]? = some (Str m)) (hy : ys[f.offset]? = some (Str n)) (h : (Op.eqFields (d + 1) xs ys l).run P w = .ok (decide e) w) : (Op.eqFields (d + 1) xs ys (f :: l)).run P w = .ok (decide (m = n ∧ e)) w := by
  have hn' : f.name ≠ "_" := by simpa using hn
  have heq : (Op.equalIn (d + 1) f.type (Str m) (Str n)).run P w = .ok (decide (m = n)) w := by
    simp only [Op.equalIn, Sem.run_bind, run_underlying hu, Result.andThen_ok]
    rw [← bbeq m n]
    rfl
  simp only [Op.eqFields, hn', if_true, ne_eq, not_false_iff, part, Sem.run_bind, hg, Result.andThen_ok, hx, hy, Bool.false_eq_true, if_false, Sem.run_pure, heq]
  by_cases hmn : m = n
  · subst hmn; simp [h]
  · simp [hmn]
end
section
variable {P : Program} {ops : Array Oper} {Q : Exit → Act → World → Prop} {a : Act} {w : World} {rest : List Oper} {o : Oper} {n : FrN} {d : Nat} {l : List (Nat × Value)}
  {W : World} {M0 X : List Nat} {E : List Ent} {D : List Dt}
theorem rd_bytes {F : Nat → Prop} {w : World} : ∀ s : List UInt8, rdAll tyByte F w (s.map fun b => Value.int .u8 (b.toNat : Int)) s
  | [] => rfl
  | b :: r => ⟨[.int .u8 (b.toNat : Int)], _, rfl, rfl, rd_bytes r⟩
/-- A text as bytes: a new row that nobody writes. -/
theorem nbytes {t t' e : TypeId} {x : Operand} {s r : List UInt8} (hr : bytesOf s = some r) (ht : P.underlying t = some .string) (ht' : P.underlying t' = some (.slice e)) (he : P.underlying e = some (.int .u8)) (hw : Region.wanted o (yielded ops a.tmps) = true)
    (ho : o.op = .convert t t' x) (hx : a.eval x = Str s) (hf : Fr n l a) (hm : St W M0 X w E D) (hd : o.dst = some d) (hn : Nat.blt d n = true)
    (k : ∀ a' A c w', Ev [] w w' → Fr n ((d, .slice A r.length c) :: l) a' → St W M0 X w' E (Dt.of (tySlice tyByte) [.slice A r.length c] r :: D) → wpList P ops Q rest a' w') : wpList P ops Q (o :: rest) a w := by
  unfold bytesOf at hr
  split at hr
  · rename_i hle
    simp only [Option.some.injEq] at hr
    subst hr
    have hrun := run_bytes_of_string (P := P) w t t' e ⟨⟨s⟩⟩ ht ht' he
    have hsz : (⟨⟨s⟩⟩ : ByteArray).size = s.length := rfl
    have hc := grownCap_ge w s.length 0 e
    have hcm := grownCap_le_maxLen w s.length 0 e (by simp only [maxLen]; omega)
    obtain ⟨B, hB⟩ : ∃ B, B = bytesRow ⟨⟨s⟩⟩ (grownCap w s.length 0 e) := ⟨_, rfl⟩
    obtain ⟨c0, hc0⟩ : ∃ c0, c0 = grownCap w s.length 0 e := ⟨_, rfl⟩
    rw [hsz, ← hB, ← hc0] at hrun
    rw [← hc0] at hc hcm
    have hy : Yv P o a w (.slice (some ⟨w.heap.size, 0, none⟩) s.length c0) (w.drew.alloc (.cells B e (B.size, B.size + 1))) := by
      simp only [Yv, execOp, ho, hx, Sem.run_bind, hrun, Result.andThen_ok]
      rfl
    have hev : Ev [] w (w.drew.alloc (.cells B e (B.size, B.size + 1))) := (Ev.drew [] w).trans (Ev.alloc [] _ _) (by simp)
    have hm2 := hm.keep hev
    refine sv hw hy hf hd hn fun a' hf' => k a' _ _ _ hev hf' (hm2.more ⟨_, _, rfl, hc, hcm, (fun h => by cases h), fun _ => ⟨rfl, ⟨?_, by show w.heap.size < _; simp⟩, _, rd_bytes s, fun j u hj => ?_⟩⟩)
    · intro hk
      have : w.heap.size < w.heap.size := by
        rcases List.mem_append.1 hk with e1 | e1
        · exact Nat.lt_of_lt_of_le (hm.ltX _ e1).1 hm.ev.size
        · exact (hm.lt _ e1).1
      omega
    · rw [List.getElem?_map, Option.map_eq_some_iff] at hj
      obtain ⟨b, hb, rfl⟩ := hj
      obtain ⟨hjl, hb'⟩ := List.getElem?_eq_some_iff.1 hb
      have := bytesRow_at ⟨⟨s⟩⟩ (grownCap w s.length 0 e) j (by simpa using hjl)
      rw [← hB] at this
      show World.cell? _ ⟨w.heap.size, 0 + j, none⟩ = _
      simp only [World.cell?, World.alloc]
      rw [show (w.drew.heap.push _)[w.heap.size]? = some _ from Array.getElem?_push_size (xs := w.heap)]
      simp only [Nat.zero_add, this]
      simp [hb']
  · cases hr
end
end Gg
namespace Gg
open Go Go.RowKit Cin
section
variable {P : Program} {o : Oper} {a : Act} {w : World} {x y : Operand} {t t' e : TypeId}
theorem y_eqNil {A : Option Addr} {n c : Nat} (ht : P.underlying t = some (.slice e)) (ho : o.op = .binOp .eql t x y t') (hx : a.eval x = .slice A n c) (hy : a.eval y = .slice none 0 0) : Yv P o a w (.bool A.isNone) w := by
  have h : ∀ d : Nat, (Op.equalIn (d + 1) t (.slice A n c) (.slice none 0 0)).run P w = .ok A.isNone w := fun d => by
    cases A <;> simp [Op.equalIn, run_underlying ht]
  have h2 : (binOp .eql t (.slice A n c) (.slice none 0 0)).run P w = .ok (.bool A.isNone) w := by
    simp only [binOp]
    simp [Op.equal, Op.maxDepth, h 9999]
  simp only [Yv, execOp, ho, hx, hy]
  simp [go_sem, h2]
theorem nil_of {α : Type} {T : Ty α} {M : List Nat} {w : World} {n c : Nat} {l : List α} (h : (Dt.of (tySlice T) [.slice none n c] l).ok M w) : l = [] ∧ n = 0 ∧ c = 0 := by
  obtain ⟨A, c', e1, e2, e3, e4, e5⟩ := h
  simp only [List.cons.injEq, Value.slice.injEq, and_true] at e1
  obtain ⟨rfl, rfl, rfl⟩ := e1
  have hc := e4 rfl
  have hl : l.length = 0 := by omega
  exact ⟨List.eq_nil_of_length_eq_zero hl, hl, hc⟩
theorem clone_nil {α : Type} {b : Nat} {r : List α} (h : ((Cin.app b [] []).bind fun l => some l) = some r) : r = [] := by
  simp [Cin.app] at h
  exact h
end

section
variable {P : Program} {Q : Exit → Act → World → Prop} {a : Act} {w : World}
/-- A loop, walked round by round. -/
def Un (P : Program) (c : Code) (Q : Exit → Act → World → Prop) : Nat → Act → World → Prop
  | 0, _, _ => False
  | n + 1, a, w => c.wp P (Exit.then (Un P c Q n) Q) a w
theorem cc {c : Operand} {x y : Code} {t : Bool} {ρ : Type} {p q : Option ρ} {r : ρ} (hc : a.eval c = .bool t) (h : cond t p q = some r) (ht : t = true → p = some r → x.wp P Q a w) (hf : t = false → q = some r → y.wp P Q a w) : (Code.cond c x y).wp P Q a w :=
  wp_cond_split hc (fun e => ht e (cond_t e h)) (fun e => hf e (cond_f e h))
theorem c_unroll {c : Code} (n : Nat) (h : Un P c Q n a w) : (Code.loop c).wp P Q a w := by
  refine c_loop (fun k a w => Un P c Q k a w) n h (fun a w h => h) fun k a w hI K hK => ?_
  exact wp_mono (h := hI) fun e a w h => by
    cases e with
    | normal => exact hK a w h
    | _ => exact h
theorem un_step {c : Code} {n : Nat} (h : c.wp P (Exit.then (Un P c Q n) Q) a w) : Un P c Q (n + 1) a w := h
end
end Gg
namespace Gg
open Go Go.RowKit Cin
section
variable {P : Program} {ops : Array Oper} {Q : Exit → Act → World → Prop} {a : Act} {w w0 w' : World} {rest : List Oper} {o : Oper} {n : FrN} {d : Nat} {l : List (Nat × Value)}
  {W : World} {M0 X : List Nat} {E : List Ent} {D : List Dt}
theorem y_neg {t : TypeId} {x : Operand} {m : Int} (ho : o.op = .unOp .neg t x) (hx : a.eval x = .int .i64 m) : Yv P o a w (.int .i64 (w64 (0 - m))) w := by
  rw [← w64_eq]
  simp only [Yv, execOp, ho, hx]
  simp [go_sem]
theorem St.offE (h : St W M0 X w E D) {g : Nat} {t : TypeId} {cs : List Value} {x : Ent} (i j : Nat) (hi : E[i]? = some (Ent.blk g t cs)) (hj : E[j]? = some x) (hne : i ≠ j) : g ∉ x.foot := fun hk =>
  (fd_of h.dj i _ hi).2 j x hj hne g (by simp [Ent.blk]) hk
theorem St.offD (h : St W M0 X w E D) {g : Nat} {x : Ent} (j : Nat) (hg : g ∉ X ++ foots E) (hj : E[j]? = some x) : g ∉ x.foot := fun hk =>
  hg (List.mem_append.2 (.inr (List.mem_flatMap.2 ⟨x, List.mem_of_getElem? hj, hk⟩)))
theorem ev_fresh {g : Nat} (h : Ev [] w0 w) (h' : Ev [g] w w') (hg : w0.heap.size ≤ g) : Ev [] w0 w' := h.trans h' (fun x hx => .inr (by simp at hx; omega))
theorem ev_cellsM {M : List Nat} {p : Addr} {cs : List Value} (h : Ev M w w') (hn : p.block ∉ M) (hlt : p.block < w.heap.size) (hc : Cells w p cs) : Cells w' p cs := hc.law (h.block p.block hlt hn)
/-- A new variable, and where it lies. -/
theorem nnewG {t : TypeId} {cs : List Value} (hw : Region.wanted o (yielded ops a.tmps) = true) (hy : Yv P o a w (.pointer (some ⟨w.heap.size, 0, none⟩)) (w.alloc (.cells cs.toArray t))) (hf : Fr n l a) (hm : St W M0 X w E D)
    (hd : o.dst = some d) (hn : Nat.blt d n = true) (k : ∀ a' g w', Ev [] w w' → w.heap.size ≤ g → Fr n ((d, .pointer (some ⟨g, 0, none⟩)) :: l) a' → St W M0 X w' (Ent.blk g t cs :: E) D → wpList P ops Q rest a' w') : wpList P ops Q (o :: rest) a w :=
  sv hw hy hf hd hn fun a' hf' => k a' _ _ (Ev.alloc _ _ _) (Nat.le_refl _) hf' (hm.new t cs)
theorem sstV {g p sz : Nat} {t tb : TypeId} {x y : Operand} {cs vs : List Value} {v : Value} (i : Nat) (hm : St W M0 X w E D) (hi : E[i]? = some (Ent.blk g tb cs)) (hw : Region.wanted o (yielded ops a.tmps) = true)
    (hv : v.cells = vs.toArray) (hs : ∀ w, (Go.sizeOf t).run P w = .ok sz w) (hl : Nat.beq vs.length sz = true) (h1 : vs.all (·.oneCell') = true) (hle : Nat.ble (p + vs.length) cs.length = true)
    (ho : o.op = .store t x y) (hx : a.eval x = .pointer (some ⟨g, p, none⟩)) (hy : a.eval y = v) (hd : o.dst = none)
    (k : ∀ w', Ev [g] w w' → St W M0 X w' (E.set i (Ent.blk g tb (lay cs p vs))) D → wpList P ops Q rest a w') : wpList P ops Q (o :: rest) a w := by
  obtain ⟨w', h1, h2, h3⟩ := y_store hv hs hl h1 hle (hm.e i hi) ho hx hy
  exact su hw h1 hd (k w' h2 (hm.turnI i hi h2 h3 (by simp [Ent.blk]) (fun k hk => .inl hk)))
end
end Gg
