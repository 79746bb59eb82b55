/- Made by program (liftgen.py): the law's walk and its plain law, joined to the given statement. -/
import Derived.Test.YtcioldnpdkfeoaaDoorCards
import Derived.Test.YtcioldnpdkfeoaaDoorTie
import Derived.WalkKit
import Derived.ProofKit
import Derived.OpenShut
import Derived.Deep.DeepHandedRow
import Derived.Lib.LaidTab
import Derived.Test.YtcioldnpdkfeoaaDoorGgArg
import Derived.Test.YtcioldnpdkfeoaaDoorWalkC6
import Derived.Test.YtcioldnpdkfeoaaDoorPlainEncodes
namespace Go.Proofs.YtcioldnpdkfeoaaDoor.codeEncodes
open Go Go.ChangeShapes Go.WideShapes Go.ChangeAt Go.RowKit

theorem own : ownKnob Tryd.prog.godebug = none := by kernel_rfl
theorem gTab : Tryd.prog.globalNamed "cinder/code.shapes" = some 0 := by kernel_rfl
theorem gTabType : (Tryd.prog.globals[0]?).map (·.type) = some 43 := by kernel_rfl
theorem cells43 : Tryd.prog.cellsOf 43 = 37 := by kernel_rfl
theorem cells42 : Tryd.prog.cellsOf 42 = 1 := by kernel_rfl
theorem table {W : World} (h : laidMetH Tryd.prog Rows.codeEncodesRow.laid W) : Lib.TabIs Tryd.prog W "cinder/code.shapes" .i64 [0, 1, 0, 3, 3, 0, 0, 0, 0, 0, 0, 0, 0, 2, 2, 2, 2, 2, 3, 4, 4, 0, 3, 0, 0, 0, 4, 0, 0, 3, 3, 0, 0, 0, 4, 0, 0] :=
  Lib.tabIs_of_head (rest := []) gTab gTabType Tryd.underlying43 Tryd.underlying42 cells42 cells43 h
theorem tab {W : World} (h : laidMetH Tryd.prog Rows.codeEncodesRow.laid W) : (Gg.Dt.glob 0 [.int .i64 0, .int .i64 1, .int .i64 0, .int .i64 3, .int .i64 3, .int .i64 0, .int .i64 0, .int .i64 0, .int .i64 0, .int .i64 0, .int .i64 0, .int .i64 0, .int .i64 0, .int .i64 2, .int .i64 2, .int .i64 2, .int .i64 2, .int .i64 2, .int .i64 3, .int .i64 4, .int .i64 4, .int .i64 0, .int .i64 3, .int .i64 0, .int .i64 0, .int .i64 0, .int .i64 4, .int .i64 0, .int .i64 0, .int .i64 3, .int .i64 3, .int .i64 0, .int .i64 0, .int .i64 0, .int .i64 4, .int .i64 0, .int .i64 0]).ok [] W := Gg.glob_of_tab (table h) gTab rfl
theorem cellsEl40 : Tryd.prog.cellsOf 40 = 4 := by kernel_rfl
theorem el_Ins {F : Nat → Prop} {W : World} {n : Nat} {cs : List Value} {H : Type} {enc : TypeId × Value → H} {x : DataW H × List MemPlace} (h : DataW.trod enc Tryd.prog W 0 (fun _ => true) true n 40 cs = some x) : ∃ d : Cin.Ins, Cin.ty_Ins.rd F W cs d ∧ Cin.InsWf d := by
  obtain ⟨zs, hl, rfl, hw⟩ := Gg.ints_of_struct (ti := 3) Tryd.underlying40 (by kernel_rfl) cellsEl40 (by kernel_rfl) Tryd.underlying3 h
  match zs, hl with
  | [x0, x1, x2, x3], _ => exact ⟨⟨x0, x1, x2, x3⟩, rfl, ⟨hw x0 (by simp), hw x1 (by simp), hw x2 (by simp), hw x3 (by simp)⟩⟩

/-- WHAT THE WALK GIVES, FOR EVERY ARGUMENT. -/
theorem contract (H : Type) (enc : TypeId × Value → H) (W : World) (base : Nat) (args : Array Value) (ds gs : List (DataW H)) (before : List MemPlace)
    (hval : ∀ (j : Nat) t v, Tryd.f5.params[j]? = some t → args[j]? = some v → Value.okWide Tryd.prog W .any base t v)
    (hW : DataW.Whole enc Tryd.prog Tryd.f5.params.toList Rows.codeEncodesSpec.vars false W args.toList ds gs before) (hL : laidMetH Tryd.prog Rows.codeEncodesRow.laid W) (hsz0 : ∀ n ∈ DataW.weightsEach Tryd.prog Tryd.f5.params.toList ds, n ≤ reachBytes) :
    Calls Tryd.prog 5 args W fun e W' => ∃ v, e = .returned v ∧ Rows.codeEncodesSpec.post enc Tryd.prog Tryd.f5 false true false false W args v W' := by
  have hW' := hW
  have hlt := hW.lt
  obtain ⟨p, q, hA0, hV, hpq, hfz, hnd⟩ := hW
  have hA : DataW.TrodAll enc Tryd.prog W 0 (fun _ => true) true Tryd.f5.params.toList args.toList ds p := hA0
  have hsz := hsz0
  rw [Tryd.params5] at hA hval hsz
  obtain ⟨v0, vs0, d0, ds0, p0, q0, hargs, rfl, rfl, h0, r0⟩ := trodAll_cons hA
  obtain ⟨rfl, rfl, rfl⟩ := trodAll_nil r0
  obtain rfl : args = #[v0] := by cases args; simp_all
  obtain ⟨rfl, rfl⟩ := trodVars_none hV
  obtain ⟨A0, c0, l0, rfl, dt0, wf0, len0⟩ := Gg.arg_slice (T := Cin.ty_Ins) (R := Cin.InsWf) Tryd.underlying22 cellsEl40 (by decide) el_Ins (hval 0 22 _ rfl rfl) h0 (fun x hx => hlt x (by subst hpq; simp [hx]))
  have wt0 := Gg.arg_slice_wt (b0 := 0) (r := .any) (N := reachBytes) Tryd.underlying22 h0 (fun n hn => hsz n (by simp only [DataW.weightsEach, List.mem_append]; simp [hn]))
  rw [show Tryd.prog.bytesOf 40 = 32 by kernel_rfl] at wt0
  obtain ⟨F, hF⟩ := Cin.plain_CodeEncodes l0 wf0 wt0
  refine (c_L_CodeEncodes (X := []) (fun k hk => by cases hk) hF (tab hL) dt0).mono fun e W' ⟨he, hv⟩ => ?_
  exact ⟨_, he, Gg.post_true hW' (by kernel_rfl) (by kernel_rfl) rfl rfl Tryd.underlying4 rfl hv⟩

/-- A WORLD FOR THE WITNESS: the settled one, the table holding what its initialiser lays. -/
noncomputable def laidWorld (os : Os) : World :=
  { World.holding Tryd.prog os ⟨#[], #[], []⟩ with heap := (World.holding Tryd.prog os ⟨#[], #[], []⟩).heap.modify 0 fun
      | .cells _ t frozen => .cells #[.int .i64 0, .int .i64 1, .int .i64 0, .int .i64 3, .int .i64 3, .int .i64 0, .int .i64 0, .int .i64 0, .int .i64 0, .int .i64 0, .int .i64 0, .int .i64 0, .int .i64 0, .int .i64 2, .int .i64 2, .int .i64 2, .int .i64 2, .int .i64 2, .int .i64 3, .int .i64 4, .int .i64 4, .int .i64 0, .int .i64 3, .int .i64 0, .int .i64 0, .int .i64 0, .int .i64 4, .int .i64 0, .int .i64 0, .int .i64 3, .int .i64 3, .int .i64 0, .int .i64 0, .int .i64 0, .int .i64 4, .int .i64 0, .int .i64 0] t frozen
      | o => o }
theorem laid_met (os : Os) : laidMet Tryd.prog Rows.codeEncodesRow.laid ((laidWorld os).forCall (fun _ _ => 0) ⟨#[], #[.slice none 0 0], []⟩).memory :=
  laidMet_of_run' 8 (by kernel_rfl) (by kernel_rfl)
theorem reads (os : Os) {H : Type} (enc : TypeId × Value → H) : ∃ places, DataW.whole enc Tryd.prog ((laidWorld os).forCall (fun _ _ => 0) ⟨#[], #[.slice none 0 0], []⟩).memory Tryd.f5.params.toList Rows.codeEncodesSpec.vars false (#[.slice none 0 0] : Array Value).toList 8 = some ([.nil], [], places) :=
  ⟨[], by kernel_rfl⟩

set_option maxRecDepth 100000 in
/-- THE STATEMENT's STEP. -/
theorem lifted (os : Os) (started : os.Started) (H : Type) (enc : TypeId × Value → H) (F : Stop.Interp) :
    ReturnsInHanded {} Tryd.checked os 5 .any ((OpenSpec.ofChange Rows.codeEncodesSpec).preRow enc Tryd.prog Tryd.f5 Rows.codeEncodesRow.domain false Rows.codeEncodesRow.laid) (((OpenSpec.ofChange Rows.codeEncodesSpec).at F).post enc Tryd.prog Tryd.f5 false true false false) := by
  obtain ⟨places, hx⟩ := reads os enc
  refine returnsInHanded_of_row (C := Tryd.checked) (s := OpenSpec.ofChange Rows.codeEncodesSpec) own started (by kernel_rfl) Tryd.func5
    (witness_row_at (enc := enc) (C := Tryd.checked) false (laidWorld os) #[.slice none 0 0] rfl (by kernel_rfl) (by kernel_rfl) (by kernel_rfl)
      (OpenSpec.preRow_of_cond 8 hx (by kernel_rfl) (fun k hk => by cases hk) (by kernel_rfl) (laid_met os))) ?_
  intro W base args ds gs before hval hW _ hcond hwts hL _ _
  exact contract H enc W base args ds gs before hval hW hL (fun n hn => by obtain ⟨_, _, _, hV, _, _, _⟩ := hW; obtain ⟨rfl, _⟩ := trodVars_none hV; have hw2 : (DataW.weightsEach Tryd.prog (Tryd.f5.params.toList ++ []) (ds ++ [])).all (· ≤ reachBytes) = true := hwts; rw [List.append_nil, List.append_nil] at hw2; exact of_decide_eq_true (List.all_eq_true.1 hw2 n hn))

theorem said : Rows.CodeEncodesSaid :=
  OpenClaim.holds_of_cond 5 Tryd.f5 rfl rfl rfl rfl rfl rfl rfl ⟨rfl, rfl, rfl, rfl, rfl⟩ rfl rfl rfl rfl rfl (by kernel_rfl) Tryd.func5 (by kernel_rfl)
    (of_decide_eq_true (by kernel_rfl)) (by unfold Func.isWrapper; first | (rw [if_pos (by decide +kernel)]; kernel_rfl) | (rw [if_neg (by decide +kernel)]; exact ⟨rfl, rfl⟩))
    (fun os started H enc _ F => by rw [OpenClaim.pre_eq_preRow]; exact lifted os started H enc F)

/-- No parameter wants a stand-in; the program's own looks are off. -/
theorem plain (f : FuncId) (fn : Func) (hf : Tryd.pinned.checked.prog.funcNamed "cinder/cinderlaw.CodeEncodes" = some f) (hfn : Tryd.pinned.checked.prog.funcs[f]? = some fn) :
    false = Tryd.pinned.checked.prog.looks [] ∧ ∀ (j : Nat) t, fn.params[j]? = some t → Tryd.pinned.checked.prog.wantsStandIn t = false := by
  obtain rfl : f = 5 := Option.some.inj ((show Tryd.prog.funcNamed "cinder/cinderlaw.CodeEncodes" = some 5 by kernel_rfl).symm.trans hf) |>.symm
  obtain rfl : fn = Tryd.f5 := (Option.some.inj (Tryd.func5.symm.trans hfn)).symm
  refine ⟨by kernel_rfl, fun j t ht => ?_⟩
  rw [Tryd.params5] at ht
  have hm : t ∈ ([22] : List Nat) := by simpa using Array.mem_of_getElem? ht
  have hall : (([22] : List Nat).all fun t => !Tryd.prog.wantsStandIn t) = true := by kernel_rfl
  have h2 := List.all_eq_true.1 hall t hm
  show Tryd.prog.wantsStandIn t = false
  simpa using h2

/-- ████ THE CARD ████ -/
theorem card : Rows.CodeEncodesCardSaid :=
  Claim7.holds_tied_plain_at .later [] _ _ _ _ said (fun _ h => by cases h) (by kernel_rfl) (fun _ h => by cases h) codeEncodes_row_tie rfl ⟨rfl, rfl⟩ (by kernel_rfl) rfl plain (by kernel_rfl)
end Go.Proofs.YtcioldnpdkfeoaaDoor.codeEncodes
