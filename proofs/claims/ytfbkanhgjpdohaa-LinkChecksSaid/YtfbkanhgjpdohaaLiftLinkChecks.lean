/- LAW: THE WALK AND THE PLAIN LAW, JOINED TO THE GIVEN STATEMENT: for every input that the row speaks of, the call returns true and what came in reads as it did. Made by program (liftgen2.py). -/
import Derived.Test.YtfbkanhgjpdohaaRows
import Derived.WalkKit
import Derived.ProofKit
import Derived.OpenShut
import Derived.Deep.DeepHandedRow
import Derived.Test.YtfbkanhgjpdohaaReads
import Derived.Test.YtfbkanhgjpdohaaWalkLA
import Derived.Test.YtfbkanhgjpdohaaPlainChecks
namespace Go.Proofs.Ytfbkanhgjpdohaa.linkChecks
open Go Go.ChangeShapes Go.WideShapes Go.ChangeAt Go.RowKit

theorem own : ownKnob Try.prog.godebug = none := by kernel_rfl

set_option maxRecDepth 100000 in
/-- WHAT THE WALK GIVES, FOR EVERY ARGUMENT. -/
theorem contract (H : Type) (enc : TypeId × Value → H) (W : World) (base : Nat) (args : Array Value) (ds gs : List (DataW H)) (before : List MemPlace)
    (hval : ∀ (j : Nat) t v, Try.f7.params[j]? = some t → args[j]? = some v → Value.okWide Try.prog W .any base t v)
    (hW : DataW.Whole enc Try.prog Try.f7.params.toList Rows.linkChecksSpec.vars false W args.toList ds gs before) (hsz0 : ∀ n ∈ DataW.weightsEach Try.prog Try.f7.params.toList ds, n ≤ reachBytes) :
    Calls Try.prog 7 args W fun e W' => ∃ v, e = .returned v ∧ Rows.linkChecksSpec.post enc Try.prog Try.f7 false true false false W args v W' := by
  have hW' := hW
  have hlt := hW.lt
  obtain ⟨p, q, hA0, hV, hpq, hfz, hnd⟩ := hW
  have hA : DataW.TrodAll enc Try.prog W 0 (fun _ => true) true Try.f7.params.toList args.toList ds p := hA0
  have hsz := hsz0
  rw [Try.params7] at hA hval hsz
  obtain ⟨v0, vs0, d0, ds0, p0, q0, hargs, rfl, rfl, h0, r0⟩ := trodAll_cons hA
  obtain ⟨rfl, rfl, rfl⟩ := trodAll_nil r0
  obtain rfl : args = #[v0] := by cases args; simp_all
  obtain ⟨rfl, rfl⟩ := trodVars_none hV
  have rr0 := rds_Linked (enc := enc) (N := reachBytes)
  have rq0 := Gg.arg_rds rr0 h0 (fun x hx => hlt x (by subst hpq; simp [hx]))
  have rs0 := rq0 (fun m hm => hsz m (by simp only [DataW.weightsEach, List.mem_append]; simp [hm]))
  obtain ⟨d0, r0, k0⟩ := rs0
  obtain ⟨v0, rfl, _⟩ := okWide_struct Try.underlying41 (hval 0 41 v0 rfl rfl)
  obtain ⟨A0_0, c0_0, A0_1, c0_1, A0_2, c0_2, A0_3, c0_3, A0_4, c0_4, e0, q0_0, q0_1, q0_2, q0_3, q0_4⟩ := r0
  obtain rfl := Gg.agg_cells e0
  obtain ⟨F, hF⟩ := Cin.plain_LinkChecks d0 k0
  refine (c_L_LinkChecks (X := []) (W := W) ⟨Gg.Ev.refl _ _, fun _ hk => absurd hk (List.not_mem_nil), fun _ hk => absurd hk (List.not_mem_nil), fun _ hx => absurd hx (List.not_mem_nil), List.nodup_nil, fun y hy => by (simp only [List.mem_cons, List.not_mem_nil, or_false] at hy; rcases hy with rfl | rfl | rfl | rfl | rfl <;> first | exact q0_0 | exact q0_1 | exact q0_2 | exact q0_3 | exact q0_4)⟩ hF).mono fun e W' ⟨he, hv⟩ => ?_
  exact ⟨_, he, Gg.post_true hW' (by kernel_rfl) (by kernel_rfl) rfl rfl Try.underlying4 rfl hv.ev⟩

theorem laid_met (os : Os) : laidMet Try.prog Rows.linkChecksRow.laid ((World.holding Try.prog os ⟨#[], #[], []⟩).forCall (fun _ _ => 0) ⟨#[], #[.agg #[.slice none 0 0, .slice none 0 0, .slice none 0 0, .slice none 0 0, .slice none 0 0]], []⟩).memory :=
  laidMet_of_run' 8 (by kernel_rfl) (by kernel_rfl)
theorem reads (os : Os) {H : Type} (enc : TypeId × Value → H) : ∃ places, DataW.whole enc Try.prog ((World.holding Try.prog os ⟨#[], #[], []⟩).forCall (fun _ _ => 0) ⟨#[], #[.agg #[.slice none 0 0, .slice none 0 0, .slice none 0 0, .slice none 0 0, .slice none 0 0]], []⟩).memory Try.f7.params.toList Rows.linkChecksSpec.vars false (#[.agg #[.slice none 0 0, .slice none 0 0, .slice none 0 0, .slice none 0 0, .slice none 0 0]] : Array Value).toList 8 = some ([.agg [.nil, .nil, .nil, .nil, .nil]], [], places) :=
  ⟨[], by kernel_rfl⟩

set_option maxRecDepth 100000 in
/-- THE STATEMENT's STEP. -/
theorem lifted (os : Os) (started : os.Started) (H : Type) (enc : TypeId × Value → H) (F : Stop.Interp) :
    ReturnsInHanded {} Try.checked os 7 .any ((OpenSpec.ofChange Rows.linkChecksSpec).preRow enc Try.prog Try.f7 Rows.linkChecksRow.domain false Rows.linkChecksRow.laid) (((OpenSpec.ofChange Rows.linkChecksSpec).at F).post enc Try.prog Try.f7 false true false false) := by
  obtain ⟨places, hx⟩ := reads os enc
  refine returnsInHanded_of_row (C := Try.checked) (s := OpenSpec.ofChange Rows.linkChecksSpec) own started (by kernel_rfl) Try.func7
    (witness_row_at (enc := enc) (C := Try.checked) false (World.holding Try.prog os ⟨#[], #[], []⟩) #[.agg #[.slice none 0 0, .slice none 0 0, .slice none 0 0, .slice none 0 0, .slice none 0 0]] rfl (by kernel_rfl) (by kernel_rfl) (by kernel_rfl)
      (OpenSpec.preRow_of_cond 8 hx (by kernel_rfl) (fun k hk => by cases hk) (by kernel_rfl) (laid_met os))) ?_
  intro W base args ds gs before hval hW _ hcond hwts _ _ _
  exact contract H enc W base args ds gs before hval hW (fun n hn => by obtain ⟨_, _, _, hV, _, _, _⟩ := hW; obtain ⟨rfl, _⟩ := trodVars_none hV; have hw2 : (DataW.weightsEach Try.prog (Try.f7.params.toList ++ []) (ds ++ [])).all (· ≤ reachBytes) = true := hwts; rw [List.append_nil, List.append_nil] at hw2; exact of_decide_eq_true (List.all_eq_true.1 hw2 n hn))

/-- ████ THE STATEMENT ████ -/
theorem said : Rows.LinkChecksSaid :=
  OpenClaim.holds_of_cond 7 Try.f7 rfl rfl rfl rfl rfl rfl rfl ⟨rfl, rfl, rfl, rfl, rfl⟩ rfl rfl rfl rfl rfl (by kernel_rfl) Try.func7 (by kernel_rfl)
    (of_decide_eq_true (by kernel_rfl)) (by unfold Func.isWrapper; first | (rw [if_pos (by decide +kernel)]; kernel_rfl) | (rw [if_neg (by decide +kernel)]; exact ⟨rfl, rfl⟩))
    (fun os started H enc _ F => by rw [OpenClaim.pre_eq_preRow]; exact lifted os started H enc F)
end Go.Proofs.Ytfbkanhgjpdohaa.linkChecks
