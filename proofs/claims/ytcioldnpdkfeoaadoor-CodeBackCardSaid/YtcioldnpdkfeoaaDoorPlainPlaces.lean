/- Plain law: CodePlaces answers true, whatever comes in. No program in sight. -/
import Derived.Test.YtcioldnpdkfeoaaDoorPureC6
import Derived.Test.YtcioldnpdkfeoaaDoorPlainIns
import Derived.KernelRfl
namespace Cin
theorem w64_id {n : Int} (h : ok64 n) : w64 n = n := by unfold w64; unfold ok64 at h; omega

theorem begun (F : Nat) : L_codeBegun (F + 20) = some true := by kernel_rfl

theorem same_find (q : Int) (l : List Ins) (j : Unit → Option Int) : ∀ (k : Nat) (n : Int), slices_IndexFunc_api_Ins_api_Ins__code_Place_1_L1 q l j k n = R_PlaceOf_L1 q l j k n
  | 0, _ => rfl
  | k + 1, n => by simp only [slices_IndexFunc_api_Ins_api_Ins__code_Place_1_L1, R_PlaceOf_L1, code_Place_1, Option.bind_some, same_find q l j k]

theorem find_ends (q : Int) (l : List Ins) (hl : l.length ≤ 9223372036854775807) : ∀ (k : Nat) (n : Int), 0 ≤ n → n ≤ l.length → (l.length : Int) < n + k → ∃ i, R_PlaceOf_L1 q l (fun _ => some (-1)) k n = some i
  | 0, n, _, h1, h => absurd h (by omega)
  | k + 1, n, h0, h1, h => by
    rw [R_PlaceOf_L1]
    by_cases hn : n < l.length
    · have hx : idx l n = some (l[n.toNat]'(by omega)) := by
        unfold idx; rw [if_pos h0]; exact List.getElem?_eq_getElem _
      rw [decide_eq_true hn, hx]
      simp only [cond_true, Option.bind_some]
      by_cases hp : (l[n.toNat]'(by omega)).At = q
      · rw [decide_eq_true hp]; exact ⟨n, rfl⟩
      · rw [decide_eq_false hp, w64_id ⟨by omega, by omega⟩]
        exact find_ends q l hl k (n + 1) (by omega) (by omega) (by omega)
    · rw [decide_eq_false hn]; exact ⟨-1, rfl⟩

theorem place_same (F : Nat) (l : List Ins) (q : Int) : code_Place F l q = (R_PlaceOf F l q).bind fun r => cond (decide (r < 0)) (some (0, 5)) (some (r, 0)) := by
  unfold code_Place R_PlaceOf slices_IndexFunc_api_Ins_api_Ins__code_Place_1
  simp only [join, same_find]

theorem plain_CodePlaces (l : List Ins) (_ : ∀ d ∈ l, InsWf d) (hl : l.length ≤ 9223372036854775807) (q : Int) (_ : ok64 q) : ∃ F, L_CodePlaces F l q = some true := by
  refine ⟨l.length + 1 + 20, ?_⟩
  obtain ⟨i, hi⟩ := find_ends q l hl (l.length + 1 + 20) 0 (by omega) (by omega) (by omega)
  have hP : R_PlaceOf (l.length + 1 + 20) l q = some i := hi
  unfold L_CodePlaces
  rw [place_same, hP]
  simp only [Option.bind_some, join]
  by_cases h0 : i < 0
  · simp [h0, begun]
  · simp [h0, begun]
end Cin
