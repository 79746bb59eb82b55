/- The small logic, maps: what is owned, looked up, put. General: no program is named. -/
import Derived.Test.YtfbkanhgjpdohaaGvRun3
import Derived.MapKept
namespace Gg
open Go Go.RowKit Cin

theorem bbeq (p q : List UInt8) : ((⟨⟨p⟩⟩ : ByteArray) == ⟨⟨q⟩⟩) = decide (p = q) := by
  show ((⟨p⟩ : Array UInt8) == ⟨q⟩) = _
  rw [Bool.eq_iff_iff]; simp
/-- Keys that are compared at once: numbers, texts. -/
structure Ky (κ : Type) [DecidableEq κ] where
  enc : κ → Value
  desc : TypeDesc
  same : ∀ a b, Instr.sameNow desc (enc a) (enc b) = some (decide (b = a))
  bits : ∀ a, Instr.sameBits 10000 (enc a) (enc a) = true
  check : ∀ (P : Program) (w : World) (e : Bool) (t : TypeId) (a : κ), P.underlying t = some desc → (Instr.checkKey e 10000 t (enc a)).run P w = .ok () w
def kyI : Ky Int where
  enc n := .int .i64 n
  desc := .int .i64
  same a b := by
    simp only [Instr.sameNow, if_true, Option.some.injEq]
    rw [Bool.eq_iff_iff]
    simp only [beq_iff_eq, decide_eq_true_iff]
    exact eq_comm
  bits a := by
    have h : ∀ n, Instr.sameBits n (.int .i64 a) (.int .i64 a) = true := fun n => by cases n <;> simp [Instr.sameBits]
    exact h 10000
  check P w e t a h := by
    have h' : ∀ n : Nat, (Instr.checkKey e (n + 1) t (.int .i64 a)).run P w = .ok () w := fun n => by simp [Instr.checkKey, run_underlying h]
    exact h' 9999
def kyS : Ky (List UInt8) where
  enc s := Str s
  desc := .string
  same a b := by
    simp only [Instr.sameNow, Option.some.injEq]
    have e : decide (a = b) = decide (b = a) := by rw [decide_eq_decide]; exact eq_comm
    exact (bbeq a b).trans e
  bits a := by
    have h : ∀ n, Instr.sameBits n (Str a) (Str a) = true := fun n => by
      have e : ((⟨⟨a⟩⟩ : ByteArray) == ⟨⟨a⟩⟩) = true := (bbeq a a).trans (by simp)
      cases n <;> (simp only [Instr.sameBits]; exact e)
    exact h 10000
  check P w e t a h := by
    have h' : ∀ n : Nat, (Instr.checkKey e (n + 1) t (Str a)).run P w = .ok () w := fun n => by simp [Instr.checkKey, run_underlying h]
    exact h' 9999

section
variable {κ β : Type} [DecidableEq κ] (K : Ky κ) (ev : β → Value)
def EntsAre (es : List MapEntry) (d : List (κ × β)) : Prop := es.map (fun e => (e.key, e.val)) = d.map (fun p => (K.enc p.1, ev p.2))
/-- The entries of a map: born one behind the other. -/
def MapIs (w : World) (r : Nat) (d : List (κ × β)) : Prop := ∃ es clock, w.heap[r]? = some (.map es clock) ∧ EntsAre K ev es.toList d ∧ (es.toList.map (·.born)).Pairwise (· < ·) ∧ ∀ e ∈ es.toList, e.born < clock
def Ent.map (r : Nat) (d : List (κ × β)) : Ent where
  foot := [r]
  ok w := MapIs K ev w r d
  law w w' h hk := by
    obtain ⟨es, c, h1, h2⟩ := hk
    exact ⟨es, c, (h r (by simp)).trans h1, h2⟩
/-- A map that is only looked at. -/
def Dt.map (r : Nat) (d : List (κ × β)) : Dt where
  ok M w := r ∉ M ∧ r < w.heap.size ∧ MapIs K ev w r d
  law M M' w w' hv hm h := by
    obtain ⟨h1, h2, es, c, h3, h4⟩ := h
    exact ⟨fun hx => by rcases hm r hx with e | e; exact h1 e; omega, Nat.lt_of_lt_of_le h2 hv.size, es, c, (hv.block r h2 h1).trans h3, h4⟩
end

section
variable {κ β : Type} [DecidableEq κ] {K : Ky κ} {ev : β → Value}
theorem find_now {k : κ} : ∀ {es : List MapEntry} {d : List (κ × β)} (i : Nat), EntsAre K ev es d → Instr.findNow K.desc (K.enc k) es i = some ((mpos d k).bind fun p => (mget d k).map fun v => (i + p, ev v))
  | [], [], i, _ => rfl
  | [], _ :: _, _, h => by simp [EntsAre] at h
  | _ :: _, [], _, h => by simp [EntsAre] at h
  | e :: es, p :: d, i, h => by
    simp only [EntsAre, List.map_cons, List.cons.injEq, Prod.mk.injEq] at h
    obtain ⟨⟨h1, h2⟩, h3⟩ := h
    simp only [Instr.findNow, h1, K.same, mpos, mget]
    by_cases hp : p.1 = k
    · simp [hp, h2]
    · simp only [hp, decide_false, if_false]
      rw [find_now (i + 1) h3]
      cases hm : mpos d k with
      | none => rfl
      | some q => simp only [Option.bind_some, Option.map_some]; rw [show i + 1 + q = i + (q + 1) by omega]
theorem mget_of_mpos {k : κ} : ∀ {d : List (κ × β)}, (mpos d k).isSome = (mget d k).isSome
  | [] => rfl
  | p :: d => by
    simp only [mpos, mget]
    by_cases hp : p.1 = k
    · simp [hp]
    · simp [hp, mget_of_mpos]
variable {P : Program} {o : Oper} {a : Act} {w : World} {x y z : Operand} {t kt et : TypeId} {r : Nat} {d : List (κ × β)} {k : κ} {v : β}

theorem run_findKey {es : Array MapEntry} (hk : P.underlying kt = some K.desc) (he : EntsAre K ev es.toList d) : (Instr.findKey kt (K.enc k) es.toList).run P w = .ok ((mpos d k).bind fun p => (mget d k).map fun v => (p, ev v)) w := by
  have h := find_now (k := k) 0 he
  simp only [Nat.zero_add] at h
  simp only [Instr.findKey, Sem.run_bind, run_underlying hk, Result.andThen_ok, h]
  rfl

theorem y_makeMap (ho : o.op = .makeMap t none) : Yv P o a w (.map (some w.heap.size)) (w.alloc (.map #[] 0)) := by
  simp only [Yv, execOp, ho, Sem.run_bind]
  rfl
theorem map_new (w : World) : (Ent.map K ev w.heap.size ([] : List (κ × β))).ok (w.alloc (.map #[] 0)) := ⟨#[], 0, heap_alloc_new w _, rfl, by simp, by simp⟩

theorem y_lookupOk {zv : β} (ht : P.underlying t = some (.map kt et)) (hk : P.underlying kt = some K.desc) (hz : ∀ w, (zeroValue et).run P w = .ok (ev zv) w) (hm : MapIs K ev w r d) (ho : o.op = .lookup t x y true) (hx : a.eval x = .map (some r)) (hy : a.eval y = K.enc k) :
    Yv P o a w (.tuple #[ev ((mget d k).getD zv), .bool (mget d k).isSome]) w := by
  obtain ⟨es, clock, h1, h2, _⟩ := hm
  have hf := run_findKey (P := P) (w := w) (k := k) hk h2
  simp only [Yv, execOp, ho, hx, hy, Instr.lookup, Sem.run_bind, Sem.run_pure, run_underlying ht, Result.andThen_ok, MapKept.run_getObj_map h1, K.check P w es.isEmpty kt k hk, hf]
  have hs := mget_of_mpos (k := k) (d := d)
  cases hp : mpos d k with
  | none =>
    rw [hp] at hs
    cases hg : mget d k with
    | none =>
      simp only [Option.bind_none, Sem.run_bind, Sem.run_pure, hz, Result.andThen_ok]
      rfl
    | some u => rw [hg] at hs; cases hs
  | some p =>
    rw [hp] at hs
    cases hg : mget d k with
    | none => rw [hg] at hs; cases hs
    | some u => rfl
theorem y_lookup {zv : β} (ht : P.underlying t = some (.map kt et)) (hk : P.underlying kt = some K.desc) (hz : ∀ w, (zeroValue et).run P w = .ok (ev zv) w) (hm : MapIs K ev w r d) (ho : o.op = .lookup t x y false) (hx : a.eval x = .map (some r)) (hy : a.eval y = K.enc k) :
    Yv P o a w (ev ((mget d k).getD zv)) w := by
  obtain ⟨es, clock, h1, h2, _⟩ := hm
  have hf := run_findKey (P := P) (w := w) (k := k) hk h2
  simp only [Yv, execOp, ho, hx, hy, Instr.lookup, Sem.run_bind, Sem.run_pure, run_underlying ht, Result.andThen_ok, MapKept.run_getObj_map h1, K.check P w es.isEmpty kt k hk, hf]
  have hs := mget_of_mpos (k := k) (d := d)
  cases hp : mpos d k with
  | none =>
    rw [hp] at hs
    cases hg : mget d k with
    | none =>
      simp only [Option.bind_none, Sem.run_bind, Sem.run_pure, hz, Result.andThen_ok]
      rfl
    | some u => rw [hg] at hs; cases hs
  | some p =>
    rw [hp] at hs
    cases hg : mget d k with
    | none => rw [hg] at hs; cases hs
    | some u => rfl
theorem y_lenM (ht : P.underlying t = some (.map kt et)) (hm : MapIs K ev w r d) (ho : o.op = .call { callee := .builtin .len, args := #[x], argTypes := #[t] }) (hx : a.eval x = .map (some r)) : Yv P o a w (.int .i64 (d.length : Int)) w := by
  obtain ⟨es, clock, h1, h2, _⟩ := hm
  have hl : es.size = d.length := by
    have := congrArg List.length h2
    simpa using this
  simp only [Yv, execOp, ho, resolve, invoke, List.map_toArray, List.map_cons, List.map_nil, hx]
  simp [go_sem, Builtin.len_, run_underlying ht, goInt, MapKept.run_getObj_map h1, hl]

theorem ents_put {k : κ} {v : β} : ∀ {es : List MapEntry} {d : List (κ × β)} {p : Nat}, EntsAre K ev es d → mpos d k = some p → EntsAre K ev (es.modify p fun e => { e with key := K.enc k, val := ev v }) (mput d k v)
  | [], [], _, _, hp => by simp [mpos] at hp
  | [], _ :: _, _, h, _ => by simp [EntsAre] at h
  | _ :: _, [], _, h, _ => by simp [EntsAre] at h
  | e :: es, q :: d, p, h, hp => by
    simp only [EntsAre, List.map_cons, List.cons.injEq, Prod.mk.injEq] at h
    obtain ⟨⟨h1, h2⟩, h3⟩ := h
    simp only [mpos] at hp
    by_cases hq : q.1 = k
    · simp only [hq, if_true, Option.some.injEq] at hp
      subst hp
      simp only [mput, hq, if_true, EntsAre, List.modify_zero_cons, List.map_cons, List.cons.injEq, true_and]
      exact h3
    · simp only [hq, if_false, Option.map_eq_some_iff] at hp
      obtain ⟨p', hp', rfl⟩ := hp
      have := ents_put (v := v) h3 hp'
      simp only [mput, hq, if_false, EntsAre, List.modify_succ_cons, List.map_cons, List.cons.injEq, Prod.mk.injEq, h1, h2, and_self, true_and]
      exact this
theorem ents_push {k : κ} {v : β} {c : Nat} : ∀ {es : List MapEntry} {d : List (κ × β)}, EntsAre K ev es d → mpos d k = none → EntsAre K ev (es ++ [{ key := K.enc k, val := ev v, born := c }]) (mput d k v)
  | [], [], _, _ => rfl
  | [], _ :: _, h, _ => by simp [EntsAre] at h
  | _ :: _, [], h, _ => by simp [EntsAre] at h
  | e :: es, q :: d, h, hp => by
    simp only [EntsAre, List.map_cons, List.cons.injEq, Prod.mk.injEq] at h
    obtain ⟨⟨h1, h2⟩, h3⟩ := h
    simp only [mpos] at hp
    by_cases hq : q.1 = k
    · simp [hq] at hp
    · simp only [hq, if_false, Option.map_eq_none_iff] at hp
      have := ents_push (v := v) (c := c) h3 hp
      simp only [mput, hq, if_false, EntsAre, List.cons_append, List.map_cons, List.cons.injEq, Prod.mk.injEq, h1, h2, and_self, true_and]
      exact this
theorem ents_at {k : κ} : ∀ {es : List MapEntry} {d : List (κ × β)} {p : Nat}, EntsAre K ev es d → mpos d k = some p → ∃ e, es[p]? = some e ∧ e.key = K.enc k
  | [], [], _, _, hp => by simp [mpos] at hp
  | [], _ :: _, _, h, _ => by simp [EntsAre] at h
  | _ :: _, [], _, h, _ => by simp [EntsAre] at h
  | e :: es, q :: d, p, h, hp => by
    simp only [EntsAre, List.map_cons, List.cons.injEq, Prod.mk.injEq] at h
    obtain ⟨⟨h1, h2⟩, h3⟩ := h
    simp only [mpos] at hp
    by_cases hq : q.1 = k
    · simp only [hq, if_true, Option.some.injEq] at hp
      subst hp
      exact ⟨e, rfl, by rw [h1, hq]⟩
    · simp only [hq, if_false, Option.map_eq_some_iff] at hp
      obtain ⟨p', hp', rfl⟩ := hp
      simpa using ents_at h3 hp'

theorem y_mapUpdate (ht : P.underlying t = some (.map kt et)) (hk : P.underlying kt = some K.desc) (hm : MapIs K ev w r d) (ho : o.op = .mapUpdate t x y z ∨ o.op = .insert t x y z) (hx : a.eval x = .map (some r)) (hy : a.eval y = K.enc k) (hz : a.eval z = ev v) :
    ∃ w', Yu P o a w w' ∧ Ev [r] w w' ∧ MapIs K ev w' r (mput d k v) := by
  obtain ⟨es, clock, h1, h2, h3, h4⟩ := hm
  have hf := run_findKey (P := P) (w := w) (k := k) hk h2
  have hs := mget_of_mpos (k := k) (d := d)
  have hlt : r < w.heap.size := (Array.getElem?_eq_some_iff.1 h1).1
  have hev : ∀ o' : Obj, Ev [r] w { w with heap := w.heap.setIfInBounds r o' } := fun o' => ⟨rfl, rfl, rfl, by simp, fun q _ hn => by
    rw [Array.getElem?_setIfInBounds, if_neg (fun e => hn (by simp [e]))]⟩
  cases hp : mpos d k with
  | none =>
    rw [hp] at hf
    refine ⟨{ w with heap := w.heap.setIfInBounds r (.map (es.push { key := K.enc k, val := ev v, born := clock }) (clock + 1)) }, ?_, hev _, es.push { key := K.enc k, val := ev v, born := clock }, clock + 1, ?_, ?_, ?_, ?_⟩
    · rcases ho with ho | ho <;>
      · simp only [Yu, execOp, ho, hx, hy, hz, Instr.mapUpdate, Sem.run_bind, run_underlying ht, Result.andThen_ok, MapKept.run_getObj_map h1, K.check P w false kt k hk, hf, Option.bind_none, MapKept.run_setObj_map _ h1]
        rfl
    · simp [hlt]
    · simpa using ents_push h2 hp
    · simp only [Array.toList_push, List.map_append, List.map_cons, List.map_nil, List.pairwise_append]
      refine ⟨h3, by simp, fun b hb c hc => ?_⟩
      obtain ⟨e, he, rfl⟩ := List.mem_map.1 hb
      simp only [List.mem_singleton] at hc
      subst hc
      exact h4 e he
    · intro e he
      simp only [Array.toList_push, List.mem_append, List.mem_singleton] at he
      rcases he with he | rfl
      · exact Nat.lt_succ_of_lt (h4 e he)
      · exact Nat.lt_succ_self _
  | some p =>
    rw [hp] at hf hs
    obtain ⟨e, he, hek⟩ := ents_at (k := k) h2 hp
    cases hg : mget d k with
    | none => rw [hg] at hs; cases hs
    | some u =>
      rw [hg] at hf
      have he' : es[p]? = some e := by simpa using he
      have hborn : ((es.modify p fun e => { e with key := K.enc k, val := ev v }).toList.map (·.born)) = es.toList.map (·.born) := by
        rw [Array.toList_modify]
        apply List.ext_getElem?
        intro i
        simp only [List.getElem?_map, List.getElem?_modify]
        cases hi : es.toList[i]? with
        | none => simp
        | some e' => by_cases hip : p = i <;> simp [hip]
      refine ⟨{ w with heap := w.heap.setIfInBounds r (.map (es.modify p fun e => { e with key := K.enc k, val := ev v }) clock) }, ?_, hev _, es.modify p fun e => { e with key := K.enc k, val := ev v }, clock, ?_, ?_, ?_, ?_⟩
      · have hks : (Instr.keyThatStays e.key (K.enc k)).run P w = .ok (K.enc k) w := by
          rw [hek]; simp only [Instr.keyThatStays, K.bits, if_true]; rfl
        rcases ho with ho | ho <;>
        · simp only [Yu, execOp, ho, hx, hy, hz, Instr.mapUpdate, Sem.run_bind, run_underlying ht, Result.andThen_ok, MapKept.run_getObj_map h1, K.check P w false kt k hk, hf, Option.bind_some, Option.map_some, he', Option.getD_some, hks, MapKept.run_setObj_map _ h1]
          rfl
      · simp [hlt]
      · rw [Array.toList_modify]; exact ents_put h2 hp
      · rw [hborn]; exact h3
      · intro e1 he1
        have : e1.born ∈ es.toList.map (·.born) := by rw [← hborn]; exact List.mem_map.2 ⟨e1, he1, rfl⟩
        obtain ⟨e2, he2, heq⟩ := List.mem_map.1 this
        rw [← heq]; exact h4 e2 he2
end
end Gg
