/- The small logic, steps: one operation at a time, calls, tests, loops, returns. General: no program is named. -/
import Derived.Test.YtfbkanhgjpdohaaGgMem
namespace Gg
open Go Go.RowKit Cin

section
variable {P : Program} {ops : Array Oper} {Q : Exit → Act → World → Prop} {a : Act} {w w' : World} {rest : List Oper} {o : Oper} {n : FrN} {d : Nat} {l : List (Nat × Value)} {v : Value}

theorem wN (hg : o.guard = none) : Region.wanted o (yielded ops a.tmps) = true := by simp [Region.wanted, hg]

theorem sv (hw : Region.wanted o (yielded ops a.tmps) = true) (hy : Yv P o a w v w') (hf : Fr n l a) (hd : o.dst = some d) (hn : Nat.blt d n = true) (k : ∀ a', Fr n ((d, v) :: l) a' → wpList P ops Q rest a' w') : wpList P ops Q (o :: rest) a w := by
  refine wpList_step fun K hK => ?_
  rw [if_pos hw]
  unfold Oper.wp
  rw [show (execOp a.eval o).run P w = _ from hy]
  show K (a.put o.dst v) w'
  rw [hd]
  exact hK _ _ (k _ (hf.put hn))

theorem su (hw : Region.wanted o (yielded ops a.tmps) = true) (hy : Yu P o a w w') (hd : o.dst = none) (k : wpList P ops Q rest a w') : wpList P ops Q (o :: rest) a w := by
  refine wpList_step fun K hK => ?_
  rw [if_pos hw]
  unfold Oper.wp
  rw [show (execOp a.eval o).run P w = _ from hy]
  show K (a.put o.dst undef) w'
  rw [hd]
  exact hK _ _ k

theorem wantT {j dj : Nat} {b : Bool} (hf : Fr n l a) (hg : o.guard = some (j, b)) (hj : (ops[j]?).bind (·.dst) = some dj) (hl : lk l dj = some (.bool b)) (hn : Nat.blt dj n = true) : Region.wanted o (yielded ops a.tmps) = true := by
  have hlt : dj < n := Nat.le_of_ble_eq_true hn
  have h := hf.get dj _ hl
  have hs := hf.size
  have h2 : a.tmps[dj]? = some (.bool b) := by
    rw [Array.getElem?_eq_getElem (by omega)]
    simpa [Array.getD_eq_getD_getElem?, hs, hlt] using h
  simp [Region.wanted, hg, yielded, hj, h2]
theorem wantF {j dj : Nat} {b b' : Bool} (hf : Fr n l a) (hg : o.guard = some (j, b)) (hj : (ops[j]?).bind (·.dst) = some dj) (hl : lk l dj = some (.bool b')) (hne : (b' == b) = false) (hn : Nat.blt dj n = true) : Region.wanted o (yielded ops a.tmps) = false := by
  have hlt : dj < n := Nat.le_of_ble_eq_true hn
  have h := hf.get dj _ hl
  have hs := hf.size
  have h2 : a.tmps[dj]? = some (.bool b') := by
    rw [Array.getElem?_eq_getElem (by omega)]
    simpa [Array.getD_eq_getD_getElem?, hs, hlt] using h
  simpa [Region.wanted, hg, yielded, hj, h2] using hne
theorem wantU {j dj : Nat} {b : Bool} (hf : Fr n l a) (hg : o.guard = some (j, b)) (hj : (ops[j]?).bind (·.dst) = some dj) (hl : lk l dj = some undef) (hn : Nat.blt dj n = true) : Region.wanted o (yielded ops a.tmps) = false := by
  have hlt : dj < n := Nat.le_of_ble_eq_true hn
  have h := hf.get dj _ hl
  have hs := hf.size
  have h2 : a.tmps[dj]? = some undef := by
    rw [Array.getElem?_eq_getElem (by omega)]
    simpa [Array.getD_eq_getD_getElem?, hs, hlt] using h
  simp [Region.wanted, hg, yielded, hj, h2, undef]

/-- A guarded operation that is passed over. -/
theorem ss (hw : Region.wanted o (yielded ops a.tmps) = false) (hf : Fr n l a) (hd : o.dst = some d) (hn : Nat.blt d n = true) (k : ∀ a', Fr n ((d, undef) :: l) a' → wpList P ops Q rest a' w) : wpList P ops Q (o :: rest) a w := by
  refine wpList_step fun K hK => ?_
  rw [if_neg (by simp [hw]), hd]
  exact hK _ _ (k _ (hf.put hn))

/-- The arguments of a call. -/
def evs (a : Act) : List Operand → List Value → Prop
  | [], [] => True
  | x :: xs, v :: vs => a.eval x = v ∧ evs a xs vs
  | _, _ => False
theorem evs_map : ∀ {xs : List Operand} {vs : List Value}, evs a xs vs → xs.map a.eval = vs
  | [], [], _ => rfl
  | x :: xs, v :: vs, h => by rw [List.map_cons, h.1, evs_map h.2]

theorem wp_call {f : FuncId} {xs : List Operand} {ats : Array TypeId} {vs : List Value} {R : Ending → World → Prop} {K : Act → World → Prop}
    (ho : o.op = .call { callee := .value (.func f), args := xs.toArray, argTypes := ats }) (hcf : ∀ args w, (callFunc f args).run P w = .ok (.enter f args) w)
    (hxs : evs a xs vs) (hc : Calls P f vs.toArray w R) (k : ∀ e w', R e w' → ∃ v, e = .returned v ∧ K (a.put o.dst v) w') : o.wp P a w K Q := by
  unfold Oper.wp
  have e : (execOp a.eval o).run P w = .ok (.enter f vs.toArray) w := by
    have h1 := evs_map hxs
    simp only [execOp, ho, resolve, List.map_toArray, h1]
    simp [go_sem, Act.eval, Deferred.ofValue, invoke, hcf]
  rw [e]
  exact hc.mono fun e w' hr => by
    obtain ⟨v, rfl, hk⟩ := k e w' hr
    exact hk

/-- A call of a Go function by its contract. -/
theorem sc {f : FuncId} {xs : List Operand} {ats : Array TypeId} {vs : List Value} {R : Ending → World → Prop} (hw : Region.wanted o (yielded ops a.tmps) = true)
    (ho : o.op = .call { callee := .value (.func f), args := xs.toArray, argTypes := ats }) (hcf : ∀ args w, (callFunc f args).run P w = .ok (.enter f args) w)
    (hxs : evs a xs vs) (hc : Calls P f vs.toArray w R) (hf : Fr n l a) (hd : o.dst = some d) (hn : Nat.blt d n = true)
    (k : ∀ e w', R e w' → ∃ v, e = .returned v ∧ ∀ a', Fr n ((d, v) :: l) a' → wpList P ops Q rest a' w') : wpList P ops Q (o :: rest) a w := by
  refine wpList_step fun K hK => ?_
  rw [if_pos hw]
  refine wp_call ho hcf hxs hc fun e w' hr => ?_
  obtain ⟨v, he, hk⟩ := k e w' hr
  rw [hd]
  exact ⟨v, he, hK _ _ (hk _ (hf.put hn))⟩
end

section
variable {P : Program} {ops : Array Oper} {Q : Exit → Act → World → Prop} {a : Act} {w w' : World} {rest : List Oper} {o : Oper} {n : FrN} {d : Nat} {l : List (Nat × Value)} {v : Value}
theorem run_callF {f : FuncId} {fx : Operand} {xs : List Operand} {ats : Array TypeId} {vs cs : List Value}
    (ho : o.op = .call { callee := .value fx, args := xs.toArray, argTypes := ats }) (hcf : ∀ args w, (callFunc f args).run P w = .ok (.enter f args) w) (hfx : a.eval fx = .func (.func f) #[] cs.toArray)
    (hxs : evs a xs vs) : (execOp a.eval o).run P w = .ok (.enter f (vs ++ cs).toArray) w := by
  have h1 := evs_map hxs
  simp only [execOp, ho, resolve, List.map_toArray, h1, hfx]
  simp [Deferred.ofValue, invoke, hcf]
/-- A call of a function value that is known. -/
theorem scF {f : FuncId} {fx : Operand} {xs : List Operand} {ats : Array TypeId} {vs cs : List Value} {R : Ending → World → Prop} (hw : Region.wanted o (yielded ops a.tmps) = true)
    (ho : o.op = .call { callee := .value fx, args := xs.toArray, argTypes := ats }) (hcf : ∀ args w, (callFunc f args).run P w = .ok (.enter f args) w) (hfx : a.eval fx = .func (.func f) #[] cs.toArray)
    (hxs : evs a xs vs) (hc : Calls P f (vs ++ cs).toArray w R) (hf : Fr n l a) (hd : o.dst = some d) (hn : Nat.blt d n = true)
    (k : ∀ e w', R e w' → ∃ v, e = .returned v ∧ ∀ a', Fr n ((d, v) :: l) a' → wpList P ops Q rest a' w') : wpList P ops Q (o :: rest) a w := by
  refine wpList_step fun K hK => ?_
  rw [if_pos hw]
  unfold Oper.wp
  rw [run_callF ho hcf hfx hxs]
  refine hc.mono fun e w' hr => ?_
  obtain ⟨v, rfl, hk⟩ := k e w' hr
  rw [hd]
  exact hK _ _ (hk _ (hf.put hn))
end

/-! ### Code -/
section
variable {P : Program} {Q : Exit → Act → World → Prop} {a : Act} {w : World}

theorem c_cond {c : Operand} {x y : Code} {t : Bool} (hc : a.eval c = .bool t) (ht : t = true → x.wp P Q a w) (hf : t = false → y.wp P Q a w) : (Code.cond c x y).wp P Q a w := wp_cond_split hc ht hf

/-- A loop, by a number that every round lowers by one. -/
theorem c_loop {c : Code} (I : Nat → Act → World → Prop) (k : Nat) (h : I k a w) (h0 : ∀ a w, ¬ I 0 a w)
    (round : ∀ k a w, I (k + 1) a w → ∀ K : Act → World → Prop, (∀ a w, I k a w → K a w) → c.wp P (Exit.then K Q) a w) : (Code.loop c).wp P Q a w :=
  wp_loop_ghost I k h fun m a w hI => by
    cases m with
    | zero => exact absurd hI (h0 a w)
    | succ m => exact round m a w hI _ fun a' w' h' => ⟨m, Nat.lt_succ_self m, h'⟩

/-- Ways that meet again: what holds there. -/
theorem c_meet {x y : Code} (J : Act → World → Prop) (hx : ∀ K : Act → World → Prop, (∀ a w, J a w → K a w) → x.wp P (Exit.then K Q) a w) (hy : ∀ a w, J a w → y.wp P Q a w) : (Code.seq x y).wp P Q a w :=
  wp_seq (hx _ hy)

theorem r_none {fn : Func} {R : Ending → World → Prop} {n : Nat} {l : List (Nat × Value)} (hr : fn.results = #[]) (hf : Fr ⟨n, []⟩ l a) (h : R (.returned (.tuple #[])) w) : bodyPost P fn R .ret a w :=
  ⟨hf.defers, _, results_none hr _ _ _, h⟩
theorem r_one {fn : Func} {R : Ending → World → Prop} {n : Nat} {t : Nat} {l : List (Nat × Value)} {v : Value} (hr : fn.results = #[.tmp t]) (hf : Fr ⟨n, []⟩ l a) (hl : lk l t = some v) (h : R (.returned v) w) : bodyPost P fn R .ret a w :=
  ⟨hf.defers, _, results_tmp hr _ _ _, by rw [hf.get _ _ hl]; exact h⟩
theorem r_two {fn : Func} {R : Ending → World → Prop} {n : Nat} {t u : Nat} {l : List (Nat × Value)} {v v' : Value} (hr : fn.results = #[.tmp t, .tmp u]) (hf : Fr ⟨n, []⟩ l a) (hl : lk l t = some v) (hl' : lk l u = some v')
    (h : R (.returned (.tuple #[v, v'])) w) : bodyPost P fn R .ret a w :=
  ⟨hf.defers, _, results_tmp2 hr _ _ _, by rw [hf.get _ _ hl, hf.get _ _ hl']; exact h⟩

/-- Results of whatever make: each from a slot or from cells. -/
def resVal (P : Program) (a : Act) (w : World) : ResultVar → Value → Prop
  | .tmp t, v => a.tmps.getD t undef = v
  | .cell ad ty, v => ∃ b p, a.tmps.getD ad undef = .pointer (some ⟨b, p, none⟩) ∧
      ((∃ cs : List Value, (∀ w, (isAgg ty).run P w = .ok true w) ∧ (∀ w, (Go.sizeOf ty).run P w = .ok cs.length w) ∧ Cells w ⟨b, p, none⟩ cs ∧ v = .agg cs.toArray) ∨
       ((∀ w, (isAgg ty).run P w = .ok false w) ∧ w.cell? ⟨b, p, none⟩ = some v))
def resVals (P : Program) (a : Act) (w : World) : List ResultVar → List Value → Prop
  | [], [] => True
  | r :: rs, v :: vs => resVal P a w r v ∧ resVals P a w rs vs
  | _, _ => False
def pack : List Value → Value
  | [v] => v
  | vs => .tuple vs.toArray

def resOf (a : Act) : ResultVar → Sem Value
  | .tmp t => pure (a.tmps.getD t undef)
  | .cell ad t => do loadVar t (← asAddr (a.tmps.getD ad undef))
theorem run_res {r : ResultVar} {v : Value} (h : resVal P a w r v) : (resOf a r).run P w = .ok v w := by
  cases r with
  | tmp t => exact congrArg (fun x => Result.ok x w) h
  | cell ad ty =>
    obtain ⟨b, p, h1, h2⟩ := h
    simp only [resOf, h1]
    rcases h2 with ⟨cs, hg, hs, hc, rfl⟩ | ⟨hg, hc⟩
    · have hl := run_loadCells_list (P := P) w ⟨b, p, none⟩ cs (fun j u hj => by rw [addr_add]; exact hc j u hj)
      unfold loadCells at hl
      simp [go_sem, loadVar, asAddr, hg, hs, hl]
    · simp [go_sem, loadVar, asAddr, hg, hc]
theorem run_ress : ∀ {rs : List ResultVar} {vs : List Value}, resVals P a w rs vs → (rs.mapM (resOf a)).run P w = .ok vs w
  | [], [], _ => rfl
  | r :: rs, v :: vs, h => by
    have h1 := run_res h.1
    have h2 := run_ress h.2
    rw [List.mapM_cons]
    simp only [Sem.run_bind, h1, h2, Result.andThen_ok]
    rfl
theorem r_any {fn : Func} {R : Ending → World → Prop} {n : Nat} {l : List (Nat × Value)} {rs : List ResultVar} {vs : List Value} (hr : fn.results = rs.toArray) (hf : Fr ⟨n, []⟩ l a) (hv : resVals P a w rs vs)
    (h : R (.returned (pack vs)) w) : bodyPost P fn R .ret a w := by
  refine ⟨hf.defers, pack vs, ?_, h⟩
  have h1 := run_ress hv
  unfold results
  have e : (fun x => match x with | .tmp t => pure (a.tmps.getD t undef) | .cell ad t => do loadVar t (← asAddr (a.tmps.getD ad undef)) : ResultVar → Sem Value) = resOf a := by
    funext x; cases x <;> rfl
  rw [hr, List.mapM_toArray]
  simp only [Sem.run_bind]
  show Result.andThen (((List.toArray <$> rs.mapM (fun x => match x with | .tmp t => pure (a.tmps.getD t undef) | .cell ad t => do loadVar t (← asAddr (a.tmps.getD ad undef)) : ResultVar → Sem Value))).run P w) _ = _
  rw [e, map_eq_pure_bind, Sem.run_bind, h1]
  match vs with
  | [] => rfl
  | [v] => rfl
  | v :: u :: r => rfl
end

/-! ### Steps that turn the world -/
section
variable {P : Program} {ops : Array Oper} {Q : Exit → Act → World → Prop} {a : Act} {w : World} {rest : List Oper} {o : Oper} {n : FrN} {d : Nat} {l : List (Nat × Value)}
  {W : World} {M0 X : List Nat} {E : List Ent} {D : List Dt}

theorem St.new (hm : St W M0 X w E D) (t : TypeId) (cs : List Value) : St W M0 X (w.alloc (.cells cs.toArray t)) (Ent.blk w.heap.size t cs :: E) D :=
  hm.push _ (Ev.alloc _ _ _) (blk_new w t cs) (fun k hk => by simp [Ent.blk] at hk; subst hk; exact ⟨Nat.le_refl _, by simp⟩) (by simp [Ent.blk])

theorem snew {t : TypeId} {cs : List Value} (hw : Region.wanted o (yielded ops a.tmps) = true) (hy : Yv P o a w (.pointer (some ⟨w.heap.size, 0, none⟩)) (w.alloc (.cells cs.toArray t))) (hf : Fr n l a) (hm : St W M0 X w E D)
    (hd : o.dst = some d) (hn : Nat.blt d n = true) (k : ∀ a' g w', Fr n ((d, .pointer (some ⟨g, 0, none⟩)) :: l) a' → St W M0 X w' (Ent.blk g t cs :: E) D → wpList P ops Q rest a' w') : wpList P ops Q (o :: rest) a w :=
  sv hw hy hf hd hn fun a' hf' => k a' _ _ hf' (hm.new t cs)

theorem snewS {t : TypeId} {cs : List Value} {m : Nat} (hw : Region.wanted o (yielded ops a.tmps) = true) (hy : Yv P o a w (.slice (some ⟨w.heap.size, 0, none⟩) m m) (w.alloc (.cells cs.toArray t))) (hf : Fr n l a) (hm : St W M0 X w E D)
    (hd : o.dst = some d) (hn : Nat.blt d n = true) (k : ∀ a' g w', Fr n ((d, .slice (some ⟨g, 0, none⟩) m m) :: l) a' → St W M0 X w' (Ent.blk g t cs :: E) D → wpList P ops Q rest a' w') : wpList P ops Q (o :: rest) a w :=
  sv hw hy hf hd hn fun a' hf' => k a' _ _ hf' (hm.new t cs)

theorem sst {g p sz : Nat} {t tb : TypeId} {x y : Operand} {cs vs : List Value} {v : Value} (i : Nat) (hm : St W M0 X w E D) (hi : E[i]? = some (Ent.blk g tb cs)) (hw : Region.wanted o (yielded ops a.tmps) = true)
    (hv : v.cells = vs.toArray) (hs : ∀ w, (Go.sizeOf t).run P w = .ok sz w) (hl : Nat.beq vs.length sz = true) (h1 : vs.all (·.oneCell') = true) (hle : Nat.ble (p + vs.length) cs.length = true)
    (ho : o.op = .store t x y) (hx : a.eval x = .pointer (some ⟨g, p, none⟩)) (hy : a.eval y = v) (hd : o.dst = none)
    (k : ∀ w', St W M0 X w' (E.set i (Ent.blk g tb (lay cs p vs))) D → wpList P ops Q rest a w') : wpList P ops Q (o :: rest) a w := by
  obtain ⟨w', h1, h2, h3⟩ := y_store hv hs hl h1 hle (hm.e i hi) ho hx hy
  exact su hw h1 hd (k w' (hm.turnI i hi h2 h3 (by simp [Ent.blk]) (fun k hk => .inl hk)))

theorem St.nilRow {α : Type} (hm : St W M0 X w E D) (e : TypeId) (size : Nat) : St W M0 X w (Ent.row e size (.slice none 0 0) ([] : List α) [] :: E) D :=
  hm.push _ (Ev.refl _ _) (World.ownsRow_nil w 0 e size) (fun k hk => by simp [Ent.row, Value.ownBlock] at hk) (by simp [Ent.row, Value.ownBlock])

theorem opt_nodup (o : Option Nat) : o.toList.Nodup := by cases o <;> simp

theorem info_p {e : TypeId} {z : Value} {sz bytes : Nat} (h : (P.info? e).map (fun i => (i.zero, i.size, i.bytes)) = some (some z, sz, bytes)) : ∃ i, P.info? e = some i ∧ i.zero = some z ∧ i.size = sz ∧ i.bytes = bytes := by
  cases hi : P.info? e with
  | none => rw [hi] at h; cases h
  | some i =>
    rw [hi] at h
    simp only [Option.map_some, Option.some.injEq, Prod.mk.injEq] at h
    exact ⟨i, rfl, h.1, h.2.1, h.2.2⟩

theorem sapp {α : Type} {t e : TypeId} {x y : Operand} {z : Value} {sz bytes g m c : Nat} {v : Value} {li ml l' : List α} {xs cs : List Value} (i j : Nat) (hm : St W M0 X w E D) (hi : E[i]? = some (Ent.row e sz v li xs)) (hj : E[j]? = some (Ent.blk g e cs))
    (hT : P.underlying t = some (.slice e)) (hinfo : (P.info? e).map (fun i => (i.zero, i.size, i.bytes)) = some (some z, sz, bytes)) (hz : z.cells.size = sz) (hsz : Nat.blt 0 sz = true)
    (hr : app bytes li ml = some l') (hml : ml.length = m) (hcl : cs.length = m * sz) (h1 : cs.all (·.oneCell') = true) (hby : Nat.blt 0 bytes = true)
    (hw : Region.wanted o (yielded ops a.tmps) = true)
    (ho : o.op = .call { callee := .builtin .append, args := #[x, y], argTypes := #[t, t] }) (hx : a.eval x = v) (hy : a.eval y = .slice (some ⟨g, 0, none⟩) m c) (hf : Fr n l a) (hd : o.dst = some d) (hn : Nat.blt d n = true)
    (k : ∀ a' A c' w', Fr n ((d, .slice A l'.length c') :: l) a' → St W M0 X w' (E.set i (Ent.row e sz (.slice A l'.length c') l' (xs ++ cs))) D → wpList P ops Q rest a' w') : wpList P ops Q (o :: rest) a w := by
  obtain ⟨i0, hi0, hz0, hs0, hb0⟩ := info_p hinfo
  obtain ⟨happ, rfl⟩ := app_some hr
  have hown : w.ownsRow 0 e sz v li.length xs := hm.e i hi
  have hb := hm.e j hj
  subst hml
  have hb63 : li.length + ml.length ≤ maxLen := by
    have h1 : 0 < bytes := Nat.le_of_ble_eq_true hby
    have h2 := Nat.le_mul_of_pos_right (li.length + ml.length) h1
    simp only [maxLen]
    omega
  obtain ⟨v', w', hrun, h2, h3, _, h5⟩ := run_append_own_at (P := P) w 0 t o.type e i0 z sz bytes hT hi0 hz0 hs0 hb0 hz (Nat.le_of_ble_eq_true hsz) v li.length xs hown ⟨g, 0, none⟩ ml.length c cs hcl
    (fun j u hu => by rw [addr_add]; simpa using blk_cell hb hu) (fun u hu => List.all_eq_true.1 h1 u hu) hb63 happ (Nat.zero_le _)
  have hrow : (Ent.row e sz v' (li ++ ml) (xs ++ cs)).ok w' := by
    show w'.ownsRow 0 e sz v' (li ++ ml).length (xs ++ cs)
    rw [List.length_append]; exact h2
  obtain ⟨A, c', rfl, _⟩ := row_val hrow
  have hyv : Yv P o a w (.slice A (li ++ ml).length c') w' := by
    simp only [Yv, execOp, ho, resolve, invoke, builtin, Sem.run_bind, Sem.run_pure, Result.andThen_ok, List.map_toArray, List.map_cons, List.map_nil, hx, hy, hrun]
  refine sv hw hyv hf hd hn fun a' hf' => k a' A c' w' hf' (hm.turnI i hi (Ev.grown h3) hrow (opt_nodup _) fun q hq => ?_)
  have hq' : (Value.slice A (li ++ ml).length c').ownBlock = some q := by simpa [Ent.row] using hq
  rcases h5 with e5 | e5
  · left; simpa [Ent.row, ← e5] using hq'
  · right
    rw [e5] at hq'
    injection hq' with hq'
    subst hq'
    refine ⟨Nat.le_refl _, ?_⟩
    rcases h2.2 with ⟨hv, _⟩ | ⟨g', cap, cur, hv, _, hg', _⟩
    · rw [hv] at e5; simp [Value.ownBlock] at e5
    · rw [hv] at e5
      have : g' = w.heap.size := by simpa [Value.ownBlock] using e5
      subst this
      exact (Array.getElem?_eq_some_iff.1 hg').1
end
end Gg
