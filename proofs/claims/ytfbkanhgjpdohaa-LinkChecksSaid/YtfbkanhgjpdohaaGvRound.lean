/- The small logic, ranges over a function: code walked in a round's frame; the backward walk over a slice. General: no program is named. -/
import Derived.Test.YtfbkanhgjpdohaaGvStep
import Derived.RangeFuncRecord
import Derived.RangeFuncSeq
import Derived.RangeFuncIn
import Derived.RangeFuncLeaves
import Derived.OrdersIn
import Derived.TacticsIn
namespace Gg
open Go Go.RowKit Cin

def noDef : List Oper → Bool
  | [] => true
  | o :: r => (match o.op with
    | .defer _ => false
    | _ => true) && noDef r
theorem noDef_mem : ∀ {l : List Oper}, noDef l = true → ∀ o ∈ l, ∀ c, o.op ≠ .defer c
  | [], _, o, ho, _ => by simp at ho
  | p :: r, h, o, ho, c => by
    simp only [noDef, Bool.and_eq_true] at h
    rcases List.mem_cons.1 ho with rfl | e
    · intro e2
      rw [e2] at h
      exact absurd h.1 (by simp)
    · exact noDef_mem h.2 o e c

/-- Every machine is let in; of a round's frame, or of a plain one. -/
def Rd (ro : Option Nat) : Fence := { Fence.wide with round := ro }
theorem rd_fn (ro : Option Nat) (f : FuncId) : (Rd ro).fn f := trivial
theorem rd_depth {ro : Option Nat} {q : Prop} : (Rd ro).depth.isSome = true → q := fun h => by simp [Rd, Fence.wide] at h

section
variable {P : Program} {ops : Array Oper} {Q : Exit → Act → World → Prop} {K : Act → World → Prop} {a : Act} {w : World} {o : Oper} {ro : Option Nat} {n : Nat}
theorem op_in (hd : ∀ c, o.op ≠ .defer c) (h : o.wp P a w K Q) : o.wpIn (Rd ro) n P a w K Q := by
  unfold Oper.wpIn
  refine ⟨fun _ _ => trivial, ?_⟩
  rw [Oper.semAt_eq _ _ _ hd]
  unfold Oper.wp at h
  generalize (execOp a.eval o).run P w = r at *
  cases r with
  | ok x w' =>
    cases x <;> simp only [Oper.upon, Oper.uponIn] at h ⊢ <;> first
      | exact h
      | exact ⟨rd_depth, (callsIn_wide (n := n - 1)).2 h⟩
      | exact ⟨rd_depth, fun c cs _ => let ⟨v, w', r, s⟩ := h c cs; ⟨v, w', r, stepsIn_wide.2 s⟩⟩
  | halt x w' => cases x <;> simp only [Oper.upon, Oper.uponIn] at h ⊢ <;> exact h
theorem list_in (hQ : ∀ a w, ¬ Q .outgrown a w) : ∀ {os : List Oper} {a : Act} {w : World}, noDef os = true → wpList P ops Q os a w → wpListIn (Rd ro) n P ops Q os a w
  | [], _, _, _, h => h
  | o :: r, a, w, hd, h => by
    have hd' := hd
    simp only [noDef, Bool.and_eq_true] at hd'
    simp only [wpList] at h
    simp only [wpListIn]
    split
    · rename_i hw
      rw [if_pos hw] at h
      rcases h with h | ⟨_, a', w', h⟩
      · exact op_in (noDef_mem hd o (by simp)) (Oper.wp_mono (fun a w h => list_in hQ hd'.2 h) h)
      · exact absurd h (hQ _ _)
    · rename_i hw
      rw [if_neg hw] at h
      exact ⟨fun _ _ => trivial, list_in hQ hd'.2 h⟩
/-- The first operations as in a plain frame, the others by the fence's own laws. -/
theorem list_split (k : Nat) {lo : List Oper} (hd : noDef (lo.take k) = true) (h : wpList P ops (Exit.then (wpListIn (Rd ro) n P ops Q (lo.drop k)) (fun _ _ _ => False)) (lo.take k) a w) : wpListIn (Rd ro) n P ops Q lo a w := by
  have key : ∀ (os rest : List Oper) (a : Act) (w : World), noDef os = true → wpList P ops (Exit.then (wpListIn (Rd ro) n P ops Q rest) (fun _ _ _ => False)) os a w → wpListIn (Rd ro) n P ops Q (os ++ rest) a w := by
    intro os
    induction os with
    | nil => intro rest a w _ h; exact h
    | cons o r ih =>
      intro rest a w hd h
      have hd' := hd
      simp only [noDef, Bool.and_eq_true] at hd'
      simp only [wpList] at h
      simp only [List.cons_append, wpListIn]
      split
      · rename_i hw
        rw [if_pos hw] at h
        rcases h with h | ⟨_, a', w', h⟩
        · have h1 := op_in (ro := ro) (n := n) (noDef_mem hd o (by simp)) (Oper.wp_mono (fun a w h => ih rest a w hd'.2 h) h)
          refine ⟨h1.1, ?_⟩
          have h2 := h1.2
          revert h2
          generalize (o.semAt (Rd ro).round a.eval).run P w = r'
          intro h2
          cases r' with
          | ok x w' =>
            cases x <;> simp only [Oper.uponIn] at h2 ⊢ <;> first
              | exact h2
              | exact ⟨h2.1, CallsIn.mono h2.2 (fun e w'' he => by cases e <;> first | exact he | exact absurd he (by simp [Exit.then, LetsOut]))⟩
              | exact ⟨h2.1, RoundIn.mono h2.2 (fun e w'' he => by cases e <;> first | exact he | exact absurd he (by simp [Exit.then, LetsOut]))⟩
          | halt x w' => cases x <;> simp only [Oper.uponIn] at h2 ⊢ <;> first | exact h2 | exact absurd h2 (by simp [Exit.then])
        · exact absurd h (by simp [Exit.then])
      · rename_i hw
        rw [if_neg hw] at h
        exact ⟨fun _ _ => trivial, ih rest _ _ hd'.2 h⟩
  have := key (lo.take k) (lo.drop k) a w hd h
  rwa [List.take_append_drop] at this
theorem op1_in (hQ : ∀ a w, ¬ Q .outgrown a w) (hd : noDef ops.toList = true) {i : Nat} (h : wpOp P ops Q i K a w) : wpOpIn (Rd ro) n P ops Q i K a w := by
  unfold wpOp at h
  unfold wpOpIn
  split
  · rename_i h0
    rw [h0] at h
    exact h
  · rename_i o ho
    rw [ho] at h
    have hm : o ∈ ops.toList := by
      have := List.mem_of_getElem? (l := ops.toList) (i := i) (a := o) (by rw [Array.getElem?_toList]; exact ho)
      exact this
    simp only at h
    split
    · rename_i hw
      rw [if_pos hw] at h
      rcases h with h | ⟨_, a', w', h⟩
      · exact op_in (noDef_mem hd o hm) h
      · exact absurd h (hQ _ _)
    · rename_i hw
      rw [if_neg hw] at h
      exact ⟨fun _ _ => trivial, h⟩
theorem any_in (hQ : ∀ a w, ¬ Q .outgrown a w) (hd : noDef ops.toList = true) : ∀ {f : Nat} {ls : Array Bool} {a : Act} {w : World}, wpAny P .any ops Q f ls a w → wpAnyIn (Rd ro) n P .any ops Q f ls a w
  | 0, _, _, _, h => h
  | f + 1, ls, a, w, h => ⟨h.1, fun i hi => op1_in hQ hd (wpOp_mono (fun a w h => any_in hQ hd h) (h.2 i hi))⟩
end

/-- Code in a round's frame. -/
def Wr (ro : Option Nat) (n : Nat) (P : Program) (c : Code) (Q : Exit → Act → World → Prop) (a : Act) (w : World) : Prop := (∀ a w, ¬ Q .outgrown a w) → c.wpIn (Rd ro) n P Q a w

section
variable {P : Program} {Q : Exit → Act → World → Prop} {a : Act} {w : World} {ro : Option Nat} {n : Nat}
theorem wr_skip (h : Q .normal a w) : Wr ro n P .skip Q a w := fun _ => wpIn_skip h
theorem wr_exit {id : Nat} (h : Q (.exit id) a w) : Wr ro n P (.exit id) Q a w := fun _ => wpIn_exit h
theorem wr_ret (h : Q .ret a w) : Wr ro n P .ret Q a w := fun _ => wpIn_ret h
theorem wr_seq_k {x y : Code} (h : ∀ K : Act → World → Prop, (∀ a w, Wr ro n P y Q a w → K a w) → Wr ro n P x (Exit.then K Q) a w) : Wr ro n P (.seq x y) Q a w :=
  fun hQ => wpIn_seq (h _ (fun _ _ h => h hQ) hQ)
theorem wr_cond {c : Operand} {x y : Code} {t : Bool} (hc : a.eval c = .bool t) (ht : t = true → Wr ro n P x Q a w) (hf : t = false → Wr ro n P y Q a w) : Wr ro n P (.cond c x y) Q a w :=
  fun hQ => wpIn_cond_split hc (fun e => ht e hQ) (fun e => hf e hQ)
theorem wr_condT {c : Operand} {x y : Code} {b : Bool} (hc : a.eval c = .bool b) (hb : b = true) (h : Wr ro n P x Q a w) : Wr ro n P (.cond c x y) Q a w := fun hQ => wpIn_cond_true (by rw [hc, hb]) (h hQ)
theorem wr_condF {c : Operand} {x y : Code} {b : Bool} (hc : a.eval c = .bool b) (hb : b = false) (h : Wr ro n P y Q a w) : Wr ro n P (.cond c x y) Q a w := fun hQ => wpIn_cond_false (by rw [hc, hb]) (h hQ)
theorem wr_block {id : Nat} {c : Code} (h : Wr ro n P c (Exit.inBlock id Q) a w) : Wr ro n P (.block id c) Q a w := fun hQ => wpIn_block (h hQ)
theorem wr_blockJ {id : Nat} {c : Code} (J : Act → World → Prop) (hx : ∀ K : Act → World → Prop, (∀ a w, J a w → K a w) → Wr ro n P c (Exit.inBlock id (Exit.then K Q)) a w) (hy : ∀ a w, J a w → Q .normal a w) : Wr ro n P (.block id c) Q a w := by
  intro hQ
  refine wpIn_block (wpIn_mono (hx _ hy hQ) ?_)
  intro e a w h
  cases e with
  | exit i =>
    by_cases hi : i = id
    · simpa [Exit.inBlock, Exit.then, hi] using h
    · simpa [Exit.inBlock, Exit.then, hi] using h
  | _ => exact h
theorem wr_meet {x y : Code} (J : Act → World → Prop) (hx : ∀ K : Act → World → Prop, (∀ a w, J a w → K a w) → Wr ro n P x (Exit.then K Q) a w) (hy : ∀ a w, J a w → Wr ro n P y Q a w) : Wr ro n P (.seq x y) Q a w :=
  fun hQ => wpIn_seq (hx _ (fun a w h => hy a w h hQ) hQ)
theorem wr_loop {c : Code} (I : Nat → Act → World → Prop) (k : Nat) (h : I k a w) (h0 : ∀ a w, ¬ I 0 a w)
    (round : ∀ k a w, I (k + 1) a w → ∀ K : Act → World → Prop, (∀ a w, I k a w → K a w) → Wr ro n P c (Exit.then K Q) a w) : Wr ro n P (.loop c) Q a w := by
  intro hQ
  refine wpIn_loop (fun a w => ∃ n, I n a w) (fun a w => leastOf (fun n => I n a w)) ⟨k, h⟩ ?_
  intro a w hI
  have h1 := (leastOf_spec hI).1
  cases hk : leastOf (fun n => I n a w) with
  | zero => rw [hk] at h1; exact absurd h1 (h0 a w)
  | succ m =>
    rw [hk] at h1
    exact round m a w h1 _ (fun a' w' h' => ⟨⟨m, h'⟩, Nat.lt_succ_of_le ((leastOf_spec ⟨m, h'⟩).2 m h')⟩) hQ
theorem wr_region {id : Nat} {l : List Oper} (hd : noDef l = true) (h : wpList P l.toArray Q l a w) : Wr ro n P (.region id l.toArray false) Q a w := fun hQ => wpIn_region_lit (list_in hQ hd h)
theorem wr_anyH {id m : Nat} {lo : List Oper} (p : Nat) (S : World → World → Prop) (hm : P.follows .mixedOrders = true) (hl : Nat.beq lo.length m = true) (hd : noDef lo = true) (h : ∀ w', Ev [] w w' → Ah P lo.toArray Q p (S w') m [] a w') : Wr ro n P (.region id lo.toArray true) Q a w := by
  have hl := Nat.eq_of_beq_eq_true hl
  subst hl
  intro hQ
  exact wpIn_mono (Q := NoPanic Q) (wpIn_region_any hm (any_in (Q := NoPanic Q) (fun a w => hQ a w) hd (h _ (Ev.drew [] w)).wpAny)) NoPanic.imp
theorem wr_regionY {id : Nat} {l : List Oper} (h : (∀ a w, ¬ Q .outgrown a w) → wpListIn (Rd ro) n P l.toArray Q l a w) : Wr ro n P (.region id l.toArray false) Q a w := fun hQ => wpIn_region_lit (h hQ)
end

/-! ### Objects that are owned whole -/
def Ent.obj (g : Nat) (o : Obj) : Ent where
  foot := [g]
  ok w := w.heap[g]? = some o
  law w w' h hk := (h g (by simp)).trans hk
section
variable {W w : World} {M0 X : List Nat} {E : List Ent} {D : List Dt}
theorem ev_putObj (w : World) (g : Nat) (o : Obj) : Ev [g] w (w.putObj g o) :=
  ⟨rfl, rfl, rfl, by simp, fun k _ hn => World.putObj_heap_other (by simpa using hn)⟩
theorem St.putObj {g : Nat} {o : Obj} (hm : St W M0 X w E D) (i : Nat) (hi : E[i]? = some (Ent.obj g o)) (o' : Obj) : St W M0 X (w.putObj g o') (E.set i (Ent.obj g o')) D :=
  hm.turnI i hi (ev_putObj w g o') (by
    have h : w.heap[g]? = some o := hm.e i hi
    exact World.putObj_heap_same (Array.getElem?_eq_some_iff.1 h).1) (by simp [Ent.obj]) (fun k hk => .inl hk)
theorem St.newObj (hm : St W M0 X w E D) (o : Obj) : St W M0 X (w.alloc o) (Ent.obj w.heap.size o :: E) D :=
  hm.push _ (Ev.alloc _ _ _) (World.alloc_heap_new w o) (fun k hk => by simp [Ent.obj] at hk; subst hk; exact ⟨Nat.le_refl _, by simp⟩) (by simp [Ent.obj])
end

/-! ### Functions that leave with a mark -/
def mark (r : Nat) : Deferred := { target := .collected r, args := #[] }
theorem enterM {P : Program} {f : FuncId} {fn : Func} {c : Code} {vs : List Value} {w : World} {R : Ending → World → Prop} {n : Nat}
    (hf : P.funcs[f]? = some fn) (hb : fn.body = some c) (hn : fn.ntmps = n) (hl : Nat.ble vs.length n = true)
    (h : ∀ a, Fr ⟨n, []⟩ (enum 0 vs) a → c.wp P (bodyPostM Fence.wide 0 P fn R) a w) : Calls P f vs.toArray w R := by
  refine (callsIn_wide (n := 0)).1 (callsIn_of_wp_marks hf hb trivial (wpIn_wide.2 ?_))
  rw [hn]
  exact h _ (Fr.init vs n hl)
section
variable {P : Program} {a : Act} {w : World} {W : World} {M0 X : List Nat} {E : List Ent} {D : List Dt} {fn : Func} {R : Ending → World → Prop} {l : List (Nat × Value)} {n g t u : Nat} {v v' : Value}
theorem m_leave (i : Nat) (hf : Fr ⟨n, [mark g]⟩ l a) (hm : St W M0 X w E D) (hi : E[i]? = some (Ent.obj g (.deferred (some [])))) (h : ∀ w', St W M0 X w' (E.set i (Ent.obj g (.deferred none))) D → ∃ v, (results fn a.tmps).run P w' = .ok v w' ∧ R (.returned v) w') :
    bodyPostM Fence.wide 0 P fn R .ret a w := by
  show LeavesInM Fence.wide 0 P fn a.tmps R a.defers .returning w
  rw [hf.defers]
  exact ⟨by simp, .inl ⟨g, _, rfl, run_takeDeferred (hm.e i hi), h _ (hm.putObj i hi _)⟩⟩
theorem m_one (i : Nat) (hr : fn.results = #[.tmp t]) (hf : Fr ⟨n, [mark g]⟩ l a) (hm : St W M0 X w E D) (hi : E[i]? = some (Ent.obj g (.deferred (some [])))) (hl : lk l t = some v)
    (h : ∀ w', St W M0 X w' (E.set i (Ent.obj g (.deferred none))) D → R (.returned v) w') : bodyPostM Fence.wide 0 P fn R .ret a w :=
  m_leave i hf hm hi fun w' hm' => ⟨_, results_tmp hr _ _ _, by rw [hf.get _ _ hl]; exact h w' hm'⟩
theorem m_two (i : Nat) (hr : fn.results = #[.tmp t, .tmp u]) (hf : Fr ⟨n, [mark g]⟩ l a) (hm : St W M0 X w E D) (hi : E[i]? = some (Ent.obj g (.deferred (some [])))) (hl : lk l t = some v) (hl' : lk l u = some v')
    (h : ∀ w', St W M0 X w' (E.set i (Ent.obj g (.deferred none))) D → R (.returned (.tuple #[v, v'])) w') : bodyPostM Fence.wide 0 P fn R .ret a w :=
  m_leave i hf hm hi fun w' hm' => ⟨_, results_tmp2 hr _ _ _, by rw [hf.get _ _ hl, hf.get _ _ hl']; exact h w' hm'⟩
end

theorem enterR {P : Program} {f : FuncId} {fn : Func} {c : Code} {vs : List Value} {w : World} {R : Ending → World → Prop} {n : Nat}
    (hf : P.funcs[f]? = some fn) (hb : fn.body = some c) (hn : fn.ntmps = n) (hl : Nat.ble vs.length n = true) (hR : ∀ w, ¬ R .outgrown w)
    (h : ∀ a, Fr ⟨n, []⟩ (enum 0 vs) a → Wr none 1 P c (bodyPost P fn R) a w) : CallsIn (Rd none) 1 P f vs.toArray w R := by
  refine callsIn_of_wp hf hb trivial ?_
  rw [hn]
  exact h _ (Fr.init vs n hl) (fun a w h => hR w h)
theorem b_norm {P : Program} {fn : Func} {R : Ending → World → Prop} {a : Act} {w : World} (h : bodyPost P fn R .ret a w) : bodyPost P fn R .normal a w := h
theorem w64_pred {n : Nat} (h : n ≤ maxLen) : Cin.w64 ((n : Int) - 1) = (n : Int) - 1 := by
  unfold Cin.w64
  simp only [maxLen] at h
  omega
theorem idx_back {lst pre rem : List Int} {x : Int} (h : lst = (x :: rem).reverse ++ pre) : Cin.idx lst (rem.length : Int) = some x := by
  subst h
  unfold Cin.idx
  rw [if_pos (by omega)]
  simp

/-! ### The backward walk -/
/-- What the function behind slices.Backward does with its yield. -/
def IterBack (P : Program) (f : FuncId) : Prop := ∀ (J : List Int → World → Prop) (lst : List Int) (A : Option Addr) (c gB L : Nat) (w0 : World),
  (∀ rem w, J rem w → ∃ W M0 X E, St W M0 X w E [Dt.glob gB [.slice A lst.length c], Dt.of (tySlice (tyInt .i64)) [.slice A lst.length c] lst]) →
  (∀ x rem w, J (x :: rem) w → YieldAt (Rd none) 0 P L #[.int .i64 (rem.length : Int), .int .i64 x] w (fun e w' => e = .returned (.bool true) ∧ J rem w')) →
  J lst.reverse w0 → CallsIn (Rd none) 1 P f #[.func (.yield L) #[] #[], .pointer (some ⟨gB, 0, none⟩)] w0 (fun e w' => (∃ v, e = .returned v) ∧ J [] w')
section
variable {P : Program} {ops : Array Oper} {Q : Exit → Act → World → Prop} {a : Act} {w : World} {rest : List Oper} {o : Oper} {n : FrN} {d L : Nat} {l : List (Nat × Value)}
theorem run_yieldCall {fx : Operand} {xs : List Operand} {ats : Array TypeId} {vs : List Value} (ho : o.op = .call { callee := .value fx, args := xs.toArray, argTypes := ats }) (hfx : a.eval fx = .func (.yield L) #[] #[]) (hxs : evs a xs vs) :
    (execOp a.eval o).run P w = (Instr.yield L vs.toArray).run P w := by
  have h1 := evs_map hxs
  simp only [execOp, ho, resolve, List.map_toArray, h1, hfx]
  simp [Deferred.ofValue, invoke]
theorem y_yield {fx : Operand} {xs : List Operand} {ats : Array TypeId} {vs : List Value} {R : Ending → World → Prop} (hw : Region.wanted o (yielded ops a.tmps) = true) (ho : o.op = .call { callee := .value fx, args := xs.toArray, argTypes := ats })
    (hfx : a.eval fx = .func (.yield L) #[] #[]) (hxs : evs a xs vs) (hy : YieldAt (Rd none) 0 P L vs.toArray w R) (hf : Fr n l a) (hd : o.dst = some d) (hn : Nat.blt d n = true)
    (k : ∀ e w', R e w' → ∃ v, e = .returned v ∧ ∀ a', Fr n ((d, v) :: l) a' → wpListIn (Rd none) 1 P ops Q rest a' w') : wpListIn (Rd none) 1 P ops Q (o :: rest) a w := by
  refine wpListIn_step fun K hK => ?_
  rw [if_pos hw]
  refine ⟨fun _ _ => trivial, ?_⟩
  obtain ⟨fn, tmps, assign, body, h1, h2⟩ := hy
  rw [Oper.semAt_eq _ _ _ (by rw [ho]; simp), run_yieldCall ho hfx hxs, h1]
  refine ⟨rd_depth, RoundIn.mono h2 ?_⟩
  intro e w' hr
  obtain ⟨v, rfl, hk⟩ := k e w' hr
  rw [hd]
  exact hK _ _ (hk _ (hf.put hn))
end
section
variable {P : Program} {Q : Exit → Act → World → Prop} {a : Act} {w : World} {W : World} {M0 X : List Nat} {E : List Ent} {D : List Dt}
/-- for _, x := range slices.Backward(lst) { body } -/
theorem c_back {β : Type} {kb tg p0 p1 n gB c : Nat} {A : Option Addr} {l : List (Nat × Value)} {l1 : Int → Int → List (Nat × Value)} {assign body : Code} (Ef : β → List Ent) (Df : β → List Dt) (rel : List Int → β → Prop) (lst : List Int) (b0 : β) (q1 q2 : Nat)
    (hit : IterBack P kb) (eg : ∀ args w, (callFunc kb args).run P w = .ok (.enter kb args) w)
    (hf : Fr ⟨n, []⟩ l a) (hg : lk l tg = some (.func (.func kb) #[] #[.pointer (some ⟨gB, 0, none⟩)])) (hp0 : Nat.blt p0 n = true) (hp1 : Nat.blt p1 n = true)
    (hm : St W M0 X w (Ef b0) (Df b0)) (h0 : rel lst.reverse b0)
    (hq1 : ∀ b, (Df b)[q1]? = some (Dt.glob gB [.slice A lst.length c])) (hq2 : ∀ b, (Df b)[q2]? = some (Dt.of (tySlice (tyInt .i64)) [.slice A lst.length c] lst))
    (ha : ∀ L i x w a' (K : Act → World → Prop), Fr ⟨n, []⟩ ((p1, .int .i64 x) :: (p0, .int .i64 i) :: l) a' → (∀ a'', Fr ⟨n, []⟩ (l1 i x) a'' → K a'' w) → Wr (some L) 0 P assign (Exit.then K (fun _ _ _ => False)) a' w)
    (hb : ∀ L g o1 g2 o2 b i x rem w a' (K : Exit → Act → World → Prop), rel (x :: rem) b → Fr ⟨n, []⟩ (l1 i x) a' → St W M0 X w (Ent.obj g o1 :: Ent.obj g2 o2 :: Ef b) (Df b) →
      (∀ b' a'' w', rel rem b' → St W M0 X w' (Ent.obj g o1 :: Ent.obj g2 o2 :: Ef b') (Df b') → K .normal a'' w') → Wr (some L) 0 P body K a' w)
    (hdone : ∀ g b a' w', rel [] b → Fr ⟨n, [mark g]⟩ l a' → St W M0 X w' (Ent.obj g (.deferred (some [])) :: Ef b) (Df b) → Q .normal a' w') :
    (Code.rangeFunc (.tmp tg) #[p0, p1] assign body).wp P Q a w := by
  refine (wpIn_wide (n := 2)).1 (wpIn_rangeFunc fun fn _ => ?_)
  obtain ⟨rec, hrec⟩ : ∃ rec : LoopState → Loop, rec = fun st => { state := st, pending := none, fn, tmps := a.tmps, params := #[p0, p1], assign, body, defers := w.heap.size } := ⟨_, rfl⟩
  obtain ⟨W1, hW1⟩ : ∃ W1, (w.alloc (.deferred (some []))).alloc (.loop (rec .ready)) = W1 := ⟨_, rfl⟩
  have hm1 : St W M0 X W1 (Ent.obj (w.heap.size + 1) (.loop (rec .ready)) :: Ent.obj w.heap.size (.deferred (some [])) :: Ef b0) (Df b0) := by
    have := (hm.newObj (.deferred (some []))).newObj (.loop (rec .ready))
    rw [hW1] at this
    simpa using this
  refine ⟨w.heap.size + 1, [mark w.heap.size], W1, { target := .fn (.func kb) #[.pointer (some ⟨gB, 0, none⟩)], args := #[.func (.yield (w.heap.size + 1)) #[] #[]] }, W1, kb,
    #[.func (.yield (w.heap.size + 1)) #[] #[], .pointer (some ⟨gB, 0, none⟩)], W1, ?_, ?_, fun _ _ => trivial, ?_, fun _ => by decide, ?_⟩
  · rw [← hW1, hrec]; exact run_enterLoop_outer _ _ _ _ _
  · have hgg := hf.g hg
    simp only [resolve, hgg]
    simp [go_sem]
  · simp [invoke, go_sem, eg]
  · refine CallsIn.mono (hit (fun rem w' => ∃ b, rel rem b ∧ St W M0 X w' (Ent.obj (w.heap.size + 1) (.loop (rec .ready)) :: Ent.obj w.heap.size (.deferred (some [])) :: Ef b) (Df b)) lst A c gB (w.heap.size + 1) W1 ?_ ?_ ⟨b0, h0, hm1⟩) ?_
    · rintro rem w' ⟨b, _, hm'⟩
      exact ⟨_, _, _, _, hm'.less fun y hy => by
        simp only [List.mem_cons, List.not_mem_nil, or_false] at hy
        rcases hy with rfl | rfl
        · exact List.mem_of_getElem? (hq1 b)
        · exact List.mem_of_getElem? (hq2 b)⟩
    · rintro x rem w' ⟨b, hr, hm'⟩
      have hl : w'.heap[w.heap.size + 1]? = some (.loop (rec .ready)) := hm'.e 0 rfl
      have hy := run_yield (P := P) (args := #[.int .i64 (rem.length : Int), .int .i64 x]) hl (by rw [hrec]; rfl)
      rw [hrec] at hy
      refine ⟨fn, _, assign, body, hy, roundIn_of_wpIn trivial ?_⟩
      have hf0 : Fr ⟨n, []⟩ ((p1, .int .i64 x) :: (p0, .int .i64 (rem.length : Int)) :: l) ⟨((#[p0, p1] : Array Tmp).zip #[Value.int .i64 (rem.length : Int), .int .i64 x]).foldl (fun tmps (x : Tmp × Value) => tmps.setIfInBounds x.1 x.2) a.tmps, []⟩ := by
        have h1 := (hf.put (v := .int .i64 (rem.length : Int)) hp0).put (v := .int .i64 x) hp1
        have e : ((#[p0, p1] : Array Tmp).zip #[Value.int .i64 (rem.length : Int), .int .i64 x]).foldl (fun tmps (x : Tmp × Value) => tmps.setIfInBounds x.1 x.2) a.tmps = ((a.put (some p0) (.int .i64 (rem.length : Int))).put (some p1) (.int .i64 x)).tmps := by simp [Act.put]
        refine ⟨?_, rfl, ?_⟩
        · simp only [e]; exact h1.size
        · simp only [e]; exact h1.get
      refine ha (w.heap.size + 1) _ _ w' _ _ hf0 ?_ (fun a w h => h)
      intro a'' hf''
      have hm2 := hm'.putObj 0 rfl (.loop { rec .ready with state := .busy })
      refine ⟨_, run_beginRound hl (by rw [hrec]), ?_⟩
      refine hb (w.heap.size + 1) _ _ _ _ b _ x rem _ a'' _ hr hf'' hm2 ?_ (fun a w h => h)
      intro b' a3 w3 hr' hm3
      have hl3 : w3.heap[w.heap.size + 1]? = some (.loop { rec .ready with state := .busy }) := hm3.e 0 rfl
      refine ⟨_, _, run_endRound none hl3, rfl, b', hr', ?_⟩
      have hm4 := hm3.putObj 0 rfl (.loop (rec .ready))
      rw [hrec] at hm4 ⊢
      exact hm4
    · rintro e w3 ⟨⟨v, rfl⟩, b, hr, hm3⟩
      have hl3 : w3.heap[w.heap.size + 1]? = some (.loop (rec .ready)) := hm3.e 0 rfl
      have he := run_endLoop (P := P) hl3 (by rw [hrec]; simp)
      rw [hrec] at he
      refine ⟨none, _, he, ?_⟩
      have hm4 := hm3.putObj 0 rfl (.loop { rec .ready with state := .exhausted })
      rw [hrec] at hm4
      refine hdone w.heap.size b _ _ hr ⟨hf.size, ?_, hf.get⟩ (hm4.drop (List.sublist_cons_self _ _))
      show [mark w.heap.size] ++ a.defers = [mark w.heap.size]
      rw [hf.defers]; rfl
end
end Gg
