/- The small logic, more: regions that draw their order and only read; literals; the start of a call. General: no program is named. -/
import Derived.Test.YtfbkanhgjpdohaaGgStep
import Derived.KernelRfl
namespace Gg
open Go Go.RowKit Cin

section
variable {P : Program} {ops : Array Oper} {C : World → Prop} {Qq : Act → Prop} {a : Act} {w : World} {rest : List Oper} {o : Oper} {n : FrN} {d : Nat} {l : List (Nat × Value)} {v : Value}

theorem qv (hw : Region.wanted o (yielded ops a.tmps) = true) (hy : ∀ w, C w → Yv P o a w v w) (hf : Fr n l a) (hd : o.dst = some d) (hn : Nat.blt d n = true) (k : ∀ a', Fr n ((d, v) :: l) a' → wpQuiet P ops C Qq rest a') : wpQuiet P ops C Qq (o :: rest) a := by
  unfold wpQuiet
  rw [if_pos hw]
  refine ⟨v, fun w hc => ?_, ?_⟩
  · unfold Oper.quietAt
    rw [show (execOp a.eval o).run P w = _ from hy w hc]
    exact ⟨rfl, rfl⟩
  · rw [hd]; exact k _ (hf.put hn)
theorem qs (hw : Region.wanted o (yielded ops a.tmps) = false) (hf : Fr n l a) (hd : o.dst = some d) (hn : Nat.blt d n = true) (k : ∀ a', Fr n ((d, undef) :: l) a' → wpQuiet P ops C Qq rest a') : wpQuiet P ops C Qq (o :: rest) a := by
  unfold wpQuiet
  rw [if_neg (by simp [hw]), hd]
  exact k _ (hf.put hn)
theorem qc {f : FuncId} {xs : List Operand} {ats : Array TypeId} {vs : List Value} (hw : Region.wanted o (yielded ops a.tmps) = true)
    (ho : o.op = .call { callee := .value (.func f), args := xs.toArray, argTypes := ats }) (hcf : ∀ args w, (callFunc f args).run P w = .ok (.enter f args) w)
    (hxs : evs a xs vs) (hc : ∀ w, C w → Calls P f vs.toArray w (fun e w' => e = .returned v ∧ C w')) (hf : Fr n l a) (hd : o.dst = some d) (hn : Nat.blt d n = true)
    (k : ∀ a', Fr n ((d, v) :: l) a' → wpQuiet P ops C Qq rest a') : wpQuiet P ops C Qq (o :: rest) a := by
  unfold wpQuiet
  rw [if_pos hw]
  refine ⟨v, fun w hC => ?_, ?_⟩
  · unfold Oper.quietAt
    have e : (execOp a.eval o).run P w = .ok (.enter f vs.toArray) w := by
      have h1 := evs_map hxs
      simp only [execOp, ho, resolve, List.map_toArray, h1]
      simp [go_sem, Act.eval, Deferred.ofValue, invoke, hcf]
    rw [e]
    exact ⟨rfl, hc w hC⟩
  · rw [hd]; exact k _ (hf.put hn)

theorem qcF {f : FuncId} {fx : Operand} {xs : List Operand} {ats : Array TypeId} {vs cs : List Value} (hw : Region.wanted o (yielded ops a.tmps) = true)
    (ho : o.op = .call { callee := .value fx, args := xs.toArray, argTypes := ats }) (hcf : ∀ args w, (callFunc f args).run P w = .ok (.enter f args) w) (hfx : a.eval fx = .func (.func f) #[] cs.toArray)
    (hxs : evs a xs vs) (hc : ∀ w, C w → Calls P f (vs ++ cs).toArray w (fun e w' => e = .returned v ∧ C w')) (hf : Fr n l a) (hd : o.dst = some d) (hn : Nat.blt d n = true)
    (k : ∀ a', Fr n ((d, v) :: l) a' → wpQuiet P ops C Qq rest a') : wpQuiet P ops C Qq (o :: rest) a := by
  unfold wpQuiet
  rw [if_pos hw]
  refine ⟨v, fun w hC => ?_, ?_⟩
  · unfold Oper.quietAt
    rw [run_callF ho hcf hfx hxs]
    exact ⟨rfl, hc w hC⟩
  · rw [hd]; exact k _ (hf.put hn)

theorem c_quiet {id : Nat} {Q : Exit → Act → World → Prop} {l : List Oper} (hm : P.follows .mixedOrders = true) (hB : Region.lexB .any l.toArray = true)
    (h : wpQuiet P l.toArray (fun w' => Ev [] w w') (fun a => ∀ w', Ev [] w w' → Q .normal a w') l a) : (Code.region id l.toArray true).wp P Q a w :=
  wp_region_quiet (C := fun w' => Ev [] w w') hm hB (Ev.drew [] w) (by
    refine Eq.mp ?_ h
    rw [List.toList_toArray]) |> fun h => wp_mono h (fun e a w q => q)
end

theorem ev_cell {w w' : World} {p : Addr} {v : Value} (h : Ev [] w w') (hc : w.cell? p = some v) : w'.cell? p = some v :=
  (World.cell?_of_block (h.block p.block (World.block_lt_of_cell? w p hc) (by simp))).trans hc
theorem ev_cells {w w' : World} {p : Addr} {cs : List Value} (h : Ev [] w w') (hc : Cells w p cs) : Cells w' p cs := fun j u hj => ev_cell h (hc j u hj)

section
variable {P : Program} {Q : Exit → Act → World → Prop} {K : Act → World → Prop} {a : Act} {w : World}
theorem x_then {i : Nat} (h : Q (.exit i) a w) : Exit.then K Q (.exit i) a w := h
theorem x_hit {i : Nat} (h : Q .normal a w) : Exit.inBlock i Q (.exit i) a w := by simpa [Exit.inBlock] using h
theorem x_miss {i j : Nat} (hb : Nat.beq j i = false) (h : Q (.exit j) a w) : Exit.inBlock i Q (.exit j) a w := by
  have : j ≠ i := by intro e; subst e; simp at hb
  simpa [Exit.inBlock, this] using h
theorem x_norm {i : Nat} (h : Q .normal a w) : Exit.inBlock i Q .normal a w := h
theorem x_retT (h : Q .ret a w) : Exit.then K Q .ret a w := h
theorem x_retB {i : Nat} (h : Q .ret a w) : Exit.inBlock i Q .ret a w := h
theorem x_thenN (h : K a w) : Exit.then K Q .normal a w := h

/-- A block, several ways to whose end meet: what holds there. -/
theorem c_blockJ {id : Nat} {c : Code} (J : Act → World → Prop) (hx : ∀ K : Act → World → Prop, (∀ a w, J a w → K a w) → c.wp P (Exit.inBlock id (Exit.then K Q)) a w) (hy : ∀ a w, J a w → Q .normal a w) : (Code.block id c).wp P Q a w := by
  refine wp_block (wp_mono (hx _ hy) ?_)
  intro e a w h
  cases e with
  | exit i =>
    by_cases hi : i = id
    · simpa [Exit.inBlock, Exit.then, hi] using h
    · simpa [Exit.inBlock, Exit.then, hi] using h
  | _ => exact h
theorem c_region {id : Nat} {l : List Oper} (h : wpList P l.toArray Q l a w) : (Code.region id l.toArray false).wp P Q a w := wp_region_lit h
theorem c_condT {c : Operand} {x y : Code} {b : Bool} (hc : a.eval c = .bool b) (hb : b = true) (h : x.wp P Q a w) : (Code.cond c x y).wp P Q a w := wp_cond_true (by rw [hc, hb]) h
theorem c_condF {c : Operand} {x y : Code} {b : Bool} (hc : a.eval c = .bool b) (hb : b = false) (h : y.wp P Q a w) : (Code.cond c x y).wp P Q a w := wp_cond_false (by rw [hc, hb]) h
end
theorem wantT' {ops : Array Oper} {o : Oper} {a : Act} {n : FrN} {l : List (Nat × Value)} {j dj : Nat} {b b' : Bool} (hf : Fr n l a) (hg : o.guard = some (j, b)) (hj : (ops[j]?).bind (·.dst) = some dj) (hl : lk l dj = some (.bool b')) (hb : b' = b) (hn : Nat.blt dj n = true) :
    Region.wanted o (yielded ops a.tmps) = true := wantT hf hg hj (by rw [hl, hb]) hn

theorem wantF' {ops : Array Oper} {o : Oper} {a : Act} {n : FrN} {l : List (Nat × Value)} {j dj : Nat} {b b' b'' : Bool} (hf : Fr n l a) (hg : o.guard = some (j, b)) (hj : (ops[j]?).bind (·.dst) = some dj) (hl : lk l dj = some (.bool b')) (hb : b' = b'') (hne : (b'' == b) = false) (hn : Nat.blt dj n = true) :
    Region.wanted o (yielded ops a.tmps) = false := wantF hf hg hj (by rw [hl, hb]) hne hn

section
variable {W w : World} {M0 X : List Nat} {E : List Ent} {D : List Dt}
/-- A call begins: nothing is owned, the arguments read. -/
def Ds (X : List Nat) (w : World) : List Dt → Prop
  | [] => True
  | y :: r => y.ok X w ∧ Ds X w r
theorem Ds_mem {X : List Nat} {w : World} : ∀ {D : List Dt}, Ds X w D → ∀ y ∈ D, y.ok X w
  | [], _, y, hy => by simp at hy
  | z :: r, h, y, hy => by
    rcases List.mem_cons.1 hy with rfl | e
    · exact h.1
    · exact Ds_mem h.2 y e
theorem St.start0 (X : List Nat) (w : World) (D : List Dt) (hX : ∀ k ∈ X, k < w.heap.size) (hD : Ds X w D) : St w [] X w [] D :=
  St.start [] X w [] D (fun k hk => ⟨hX k hk, by simp⟩) (by simp [foots]) (by simp) (by simp [foots]) (fun y hy => by simpa [foots] using Ds_mem hD y hy)
def pk (D : List Dt) : List Dt → Prop
  | [] => True
  | y :: r => (∃ i : Nat, D[i]? = some y) ∧ pk D r
theorem pk_mem {D : List Dt} : ∀ {D' : List Dt}, pk D D' → ∀ y ∈ D', y ∈ D
  | [], _, y, hy => by simp at hy
  | z :: r, h, y, hy => by
    rcases List.mem_cons.1 hy with rfl | e
    · obtain ⟨i, hi⟩ := h.1; exact List.mem_of_getElem? hi
    · exact pk_mem h.2 y e
theorem St.pick (h : St W M0 X w E D) {D' : List Dt} (hs : pk D D') : St W M0 X w E D' := h.less (pk_mem hs)
theorem St.dropN (h : St W M0 X w E D) (k : Nat) : St W M0 X w (E.drop k) D := h.drop (List.drop_sublist k E)
/-- At a call's end: what reads, shunning what was to be shunned. -/
theorem St.res (h : St W M0 X w E D) (i : Nat) {y : Dt} (hi : D[i]? = some y) : y.ok X w := Dt.less (h.d i hi) (fun k hk => List.mem_append.2 (.inl hk))
theorem St.evN (h : St W [] X w E D) : Ev [] W w := h.ev
theorem St.eraseE (h : St W M0 X w E D) (i : Nat) : St W M0 X w (E.eraseIdx i) D := h.drop (List.eraseIdx_sublist E i)
/-- A row is data from here on. -/
theorem St.freeze {α : Type} {T : Ty α} {e : TypeId} {A : Option Addr} {n c : Nat} {l : List α} {xs : List Value} (h : St W M0 X w E D) (i j : Nat) (hi : E[i]? = some (Ent.row e T.size (.slice A n c) l xs)) (hj : D[j]? = some (Dt.rows T xs l)) :
    St W M0 X w (E.eraseIdx i) (Dt.of (tySlice T) [.slice A n c] l :: D) := by
  have h1 := h.eraseE i
  refine h1.more (row_data (h.e i hi) (h1.d j hj) ?_)
  intro k hk hk'
  rcases List.mem_append.1 hk' with e1 | e1
  · have hlt := h.ltX k e1
    rcases (h.lt k (List.mem_flatMap.2 ⟨_, List.mem_of_getElem? hi, hk⟩)).2 with e2 | e2
    · exact hlt.2 e2
    · omega
  · obtain ⟨hl, hx⟩ := List.getElem?_eq_some_iff.1 hi
    have hE : E = E.take i ++ E[i] :: E.drop (i + 1) := by simp
    have hd := h.dj
    rw [hE, hx] at hd
    have e2 : foots (E.take i ++ Ent.row e T.size (.slice A n c) l xs :: E.drop (i + 1)) = foots (E.take i) ++ ((Ent.row e T.size (.slice A n c) l xs).foot ++ foots (E.drop (i + 1))) := by simp [foots]
    rw [e2, List.nodup_append, List.nodup_append] at hd
    rw [List.eraseIdx_eq_take_drop_succ] at e1
    rcases List.mem_append.1 (by simpa [foots] using e1 : k ∈ foots (E.take i) ++ foots (E.drop (i + 1))) with e3 | e3
    · exact hd.2.2 k e3 k (List.mem_append.2 (.inl hk)) rfl
    · exact hd.2.1.2.2 k hk k e3 rfl
theorem St.freezeB {g : Nat} {t : TypeId} {cs : List Value} (h : St W M0 X w E D) (i : Nat) (hi : E[i]? = some (Ent.blk g t cs)) : St W M0 X w (E.eraseIdx i) (Dt.glob g cs :: D) := by
  have h1 := h.eraseE i
  refine h1.more ⟨?_, blk_lt (h.e i hi), fun j u hj => ?_⟩
  · intro hk'
    have hk : g ∈ (Ent.blk g t cs).foot := by simp [Ent.blk]
    rcases List.mem_append.1 hk' with e1 | e1
    · have hlt := h.ltX g e1
      rcases (h.lt g (List.mem_flatMap.2 ⟨_, List.mem_of_getElem? hi, hk⟩)).2 with e2 | e2
      · exact hlt.2 e2
      · omega
    · obtain ⟨hl, hx⟩ := List.getElem?_eq_some_iff.1 hi
      have hE : E = E.take i ++ E[i] :: E.drop (i + 1) := by simp
      have hd := h.dj
      rw [hE, hx] at hd
      have e2 : foots (E.take i ++ Ent.blk g t cs :: E.drop (i + 1)) = foots (E.take i) ++ ((Ent.blk g t cs).foot ++ foots (E.drop (i + 1))) := by simp [foots]
      rw [e2, List.nodup_append, List.nodup_append] at hd
      rw [List.eraseIdx_eq_take_drop_succ] at e1
      rcases List.mem_append.1 (by simpa [foots] using e1 : g ∈ foots (E.take i) ++ foots (E.drop (i + 1))) with e3 | e3
      · exact hd.2.2 g e3 g (List.mem_append.2 (.inl hk)) rfl
      · exact hd.2.1.2.2 g hk g e3 rfl
  · have := blk_cell (h.e i hi) hj
    simpa using this
end
end Gg
