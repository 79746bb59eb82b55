/- The small logic, regions that draw their order and turn the world: what is free is taken at once, what is not waits until it alone is ready. General: no program is named. -/
import Derived.Test.YtfbkanhgjpdohaaGgMore
import Derived.Deep.RegionHeld3
import Derived.Laws.StructEq
namespace Gg
open Go Go.RowKit Cin

def mkL (n : Nat) : List Nat → Array Bool
  | [] => Array.replicate n false
  | i :: d => (mkL n d).setIfInBounds i true

def QN (K : Act → World → Prop) (Q : Exit → Act → World → Prop) : Exit → Act → World → Prop
  | .normal, a, w => K a w
  | e, a, w => Q e a w

def An (P : Program) (ops : Array Oper) (Q : Exit → Act → World → Prop) (f : Nat) (ds : List Nat) (a : Act) (w : World) : Prop := wpAny P .any ops (NoPanic Q) f (mkL ops.size ds) a w

section
variable {P : Program} {ops : Array Oper} {Q : Exit → Act → World → Prop} {a : Act} {w : World} {o : Oper} {n : FrN} {f d i : Nat} {ds : List Nat} {l : List (Nat × Value)} {v : Value}

theorem c_any {id m : Nat} {lo : List Oper} (hm : P.follows .mixedOrders = true) (hl : lo.length = m) (h : ∀ w', Ev [] w w' → An P lo.toArray Q m [] a w') : (Code.region id lo.toArray true).wp P Q a w := by
  subst hl
  exact wp_region_noPanic (wp_region_any hm (h _ (Ev.drew [] w)))

theorem an_done (hc : (Region.ready .any ops (mkL ops.size ds)).isEmpty = true) (h : Q .normal a w) : An P ops Q f ds a w :=
  wpAny_done (Q := NoPanic Q) (List.isEmpty_iff.1 hc) (NoPanic.normal h) f

def takes (ops : Array Oper) (ds : List Nat) (i : Nat) : Bool := Region.noSelect ops && Region.free .any ops (mkL ops.size ds) i && (Region.ready .any ops (mkL ops.size ds)).contains i

theorem an_take (hi : ops[i]? = some o) (hc : takes ops ds i = true) (hy : Yields P ops o v a) (hd : o.dst = some d) (hf : Fr n l a) (hn : Nat.blt d n = true) (k : ∀ a', Fr n ((d, v) :: l) a' → An P ops Q f (i :: ds) a' w) : An P ops Q (f + 1) ds a w := by
  simp only [takes, Bool.and_eq_true] at hc
  refine wpAny_take hi hc.1.1 hc.1.2 hc.2 (fun c a w h => h) hy ?_
  rw [hd]
  exact k _ (hf.put hn)

theorem an_v (i : Nat) (hi : ops[i]? = some o) (hc : takes ops ds i = true) (hw : Region.wanted o (yielded ops a.tmps) = true) (hy : ∀ w, Yv P o a w v w) (hf : Fr n l a) (hd : o.dst = some d) (hn : Nat.blt d n = true)
    (k : ∀ a', Fr n ((d, v) :: l) a' → An P ops Q f (i :: ds) a' w) : An P ops Q (f + 1) ds a w :=
  an_take hi hc (.inl ⟨hw, hy⟩) hd hf hn k
theorem an_s (i : Nat) (hi : ops[i]? = some o) (hc : takes ops ds i = true) (hw : Region.wanted o (yielded ops a.tmps) = false) (hf : Fr n l a) (hd : o.dst = some d) (hn : Nat.blt d n = true)
    (k : ∀ a', Fr n ((d, undef) :: l) a' → An P ops Q f (i :: ds) a' w) : An P ops Q (f + 1) ds a w :=
  an_take hi hc (.inr ⟨hw, rfl⟩) hd hf hn k

theorem wp_QN {K : Act → World → Prop} {Q : Exit → Act → World → Prop} (h : o.wp P a w K (QN K Q)) : o.wp P a w K Q := by
  unfold Oper.wp at *
  generalize (execOp a.eval o).run P w = r at *
  cases r with
  | ok n w' =>
    cases n <;> simp only [Oper.upon] at h ⊢ <;>
      first
        | exact h
        | exact Calls.mono h (fun e w'' he => by cases e <;> first | exact he | exact he)
  | halt x w' => cases x <;> simp only [Oper.upon] at h ⊢ <;> exact h

theorem wpOp_of_list {K : Act → World → Prop} (hi : ops[i]? = some o) (h : wpList P ops (QN K (NoPanic Q)) [o] a w) : wpOp P ops (NoPanic Q) i K a w := by
  unfold wpOp
  simp only [hi]
  unfold wpList at h
  split at h
  · rename_i hw
    rw [if_pos hw]
    rcases h with h | ⟨h1, h2⟩
    · exact .inl (wp_QN h)
    · exact .inr ⟨h1, h2.elim fun a h => h.elim fun w h => ⟨a, w, h⟩⟩
  · rename_i hw
    rw [if_neg hw]
    exact h

theorem an_o (i : Nat) (hi : ops[i]? = some o) (hc : (Region.ready .any ops (mkL ops.size ds) == [i]) = true) (h : wpList P ops (QN (An P ops Q f (i :: ds)) (NoPanic Q)) [o] a w) : An P ops Q (f + 1) ds a w := by
  have hr := eq_of_beq hc
  refine wpAny_all hr (by simp) fun j hj => ?_
  have : j = i := by simpa using hj
  subst this
  exact wpOp_of_list hi h
theorem an_n (h : An P ops Q f ds a w) : wpList P ops (QN (An P ops Q f ds) (NoPanic Q)) [] a w := h
theorem an_oo (i j : Nat) {o' : Oper} (hi : ops[i]? = some o) (hj : ops[j]? = some o') (hc : (Region.ready .any ops (mkL ops.size ds) == [i, j]) = true) (h : wpList P ops (QN (An P ops Q f (i :: ds)) (NoPanic Q)) [o] a w)
    (h' : wpList P ops (QN (An P ops Q f (j :: ds)) (NoPanic Q)) [o'] a w) : An P ops Q (f + 1) ds a w := by
  have hr := eq_of_beq hc
  refine wpAny_all hr (by simp) fun m hm => ?_
  have : m = i ∨ m = j := by simpa using hm
  rcases this with rfl | rfl
  · exact wpOp_of_list hi h
  · exact wpOp_of_list hj h'
end

section
variable {P : Program} {o : Oper} {a : Act} {w : World} {t t' : TypeId} {x y : Operand} {fs : Array Field} {xs ys : Array Value} {b : Bool}
theorem y_eqF (ht : P.underlying t = some (.struct fs)) (hp : P.stoodInHeld t = false) (hm : P.eqGuardType P.depth t = false)
    (hr : (Op.eqFields 9999 xs ys fs.toList).run P w = .ok b w) (ho : o.op = .binOp .eql t x y t') (hx : a.eval x = .agg xs) (hy : a.eval y = .agg ys) : Yv P o a w (.bool b) w := by
  have hf : P.fieldsOf t = fs := by simp [Program.fieldsOf, ht]
  have h := run_equalIn_struct (P := P) w 9999 t xs ys (by rw [hf]; exact ht) hp
  rw [hf, hr] at h
  have h : (Op.equalIn 10000 t (Value.agg xs) (Value.agg ys)).run P w = .ok b w := h
  simp only [Yv, execOp, ho, hx, hy]
  simp [go_sem, Op.equal, Op.maxDepth, h, run_eqGuard_agg w _ _ _ _ _ _ hm]
theorem y_neF (ht : P.underlying t = some (.struct fs)) (hp : P.stoodInHeld t = false) (hm : P.eqGuardType P.depth t = false)
    (hr : (Op.eqFields 9999 xs ys fs.toList).run P w = .ok b w) (ho : o.op = .binOp .neq t x y t') (hx : a.eval x = .agg xs) (hy : a.eval y = .agg ys) : Yv P o a w (.bool (!b)) w := by
  have hf : P.fieldsOf t = fs := by simp [Program.fieldsOf, ht]
  have h := run_equalIn_struct (P := P) w 9999 t xs ys (by rw [hf]; exact ht) hp
  rw [hf, hr] at h
  have h : (Op.equalIn 10000 t (Value.agg xs) (Value.agg ys)).run P w = .ok b w := h
  simp only [Yv, execOp, ho, hx, hy]
  simp [go_sem, Op.equal, Op.maxDepth, h, run_eqGuard_agg w _ _ _ _ _ _ hm]
theorem eqF_nil {d : Nat} : (Op.eqFields d xs ys []).run P w = .ok true w := rfl
theorem eqF_int {d : Nat} {f : Field} {l : List Field} {k : IntKind} {m n : Int} {e : Prop} [Decidable e] (hn : (f.name != "_") = true) (hu : P.underlying f.type = some (.int k)) (hg : ∀ w, (isAgg f.type).run P w = .ok false w)
    (hx : xs[f.offset]? = some (.int k m)) (hy : ys[f.offset]? = some (.int k n)) (h : (Op.eqFields (d + 1) xs ys l).run P w = .ok (decide e) w) : (Op.eqFields (d + 1) xs ys (f :: l)).run P w = .ok (decide (m = n ∧ e)) w := by
  have hn' : f.name ≠ "_" := by simpa using hn
  simp only [Op.eqFields, hn', if_true, ne_eq, not_false_iff, part, Sem.run_bind, hg, Result.andThen_ok, hx, hy, Bool.false_eq_true, if_false, Sem.run_pure, run_equalIn_int w d f.type k k m n hu]
  by_cases hmn : m = n
  · subst hmn; simp [h]
  · simp [hmn, show (m == n) = false from by simpa using hmn]
end
end Gg
