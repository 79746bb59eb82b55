/- The walks of this group, made by program. -/
import Derived.Test.YtcioldnpdkfeoaaDoorGgAny
import Derived.Test.YtcioldnpdkfeoaaDoorPureC1
import Derived.Test.YtcioldnpdkfeoaaDoorChecked
namespace Cin
open Go
def ty_Ins : Gg.Ty Ins where
  size := 4
  rd _ _ cs d := cs = [.int .i64 d.At, .int .i64 d.Op, .int .i64 d.A, .int .i64 d.B]
  len h := by subst h; rfl
  one h v hv := by subst h; simp only [List.mem_cons, List.not_mem_nil, or_false] at hv; rcases hv with rfl | rfl | rfl | rfl <;> rfl
  law _ h := h

end Cin
namespace Go.Proofs.YtcioldnpdkfeoaaDoor
open Go Go.RowKit
set_option maxHeartbeats 4000000 in
set_option maxRecDepth 20000 in
theorem c_code_IsOp {X : List Nat} {W : World} {n_ : Int} {r : Bool} (hX : ∀ k ∈ X, k < W.heap.size) (h : Cin.code_IsOp n_ = some r) :
    Calls Tryd.prog 16 [.int .i64 n_].toArray W (fun e w' => e = .returned (.bool r) ∧ Gg.Ev [] W w') := by
  refine Gg.enter Tryd.func16 rfl Tryd.ntmps16 rfl ?_
  intro a hf
  have hm := Gg.St.start0 X W [] hX trivial
  rw [Cin.code_IsOp] at h
  refine wp_seq_k ?_
  intro K hK1
  refine Gg.c_region ?_
  refine Gg.sv (Gg.wN rfl) (Gg.y_assign rfl (Gg.ec _ _)) hf rfl rfl ?_
  intro a hf
  refine wpList_nil ?_
  refine hK1 _ _ ?_
  refine wp_seq_k ?_
  intro K hK2
  refine Gg.c_region ?_
  refine Gg.sv (Gg.wN rfl) (Gg.y_move rfl (hf.g rfl)) hf rfl rfl ?_
  intro a hf
  refine Gg.sv (Gg.wN rfl) (Gg.y_geq rfl (hf.g rfl) (Gg.ec _ _)) hf rfl rfl ?_
  intro a hf
  refine Gg.sv (Gg.wN rfl) (Gg.y_move rfl (hf.g rfl)) hf rfl rfl ?_
  intro a hf
  rcases Bool.eq_false_or_eq_true (decide (0 ≤ n_)) with hb1_ | hb1_
  · have h := Cin.cond_t hb1_ h
    refine Gg.sv (Gg.wantT' hf rfl rfl rfl hb1_ rfl) (Gg.y_move rfl (hf.g rfl)) hf rfl rfl ?_
    intro a hf
    refine Gg.sv (Gg.wantT' hf rfl rfl rfl hb1_ rfl) (Gg.y_lss rfl (hf.g rfl) (Gg.ec _ _)) hf rfl rfl ?_
    intro a hf
    refine Gg.sv (Gg.wN rfl) (Gg.y_pickT' rfl (hf.g rfl) hb1_ (hf.g rfl)) hf rfl rfl ?_
    intro a hf
    refine Gg.sv (Gg.wN rfl) (Gg.y_assign rfl (hf.g rfl)) hf rfl rfl ?_
    intro a hf
    refine wpList_nil ?_
    refine hK2 _ _ ?_
    refine wp_ret ?_
    cases h
    refine Gg.r_one Tryd.results16 hf rfl ?_
    exact ⟨rfl, hm.ev⟩
  · have h := Cin.cond_f hb1_ h
    refine Gg.ss (Gg.wantF' hf rfl rfl rfl hb1_ rfl rfl) hf rfl rfl ?_
    intro a hf
    refine Gg.ss (Gg.wantF' hf rfl rfl rfl hb1_ rfl rfl) hf rfl rfl ?_
    intro a hf
    refine Gg.sv (Gg.wN rfl) (Gg.y_pickF' rfl (hf.g rfl) hb1_ (Gg.ec _ _)) hf rfl rfl ?_
    intro a hf
    refine Gg.sv (Gg.wN rfl) (Gg.y_assign rfl (hf.g rfl)) hf rfl rfl ?_
    intro a hf
    refine wpList_nil ?_
    refine hK2 _ _ ?_
    refine wp_ret ?_
    cases h
    refine Gg.r_one Tryd.results16 hf rfl ?_
    exact ⟨rfl, hm.ev⟩

set_option maxHeartbeats 4000000 in
set_option maxRecDepth 20000 in
theorem c_R_GoesTo {X : List Nat} {W : World} {op_ : Int} {r : Bool} (hX : ∀ k ∈ X, k < W.heap.size) (h : Cin.R_GoesTo op_ = some r) :
    Calls Tryd.prog 21 [.int .i64 op_].toArray W (fun e w' => e = .returned (.bool r) ∧ Gg.Ev [] W w') := by
  refine Gg.enter Tryd.func21 rfl Tryd.ntmps21 rfl ?_
  intro a hf
  have hm := Gg.St.start0 X W [] hX trivial
  rw [Cin.R_GoesTo] at h
  refine wp_seq_k ?_
  intro K hK1
  refine Gg.c_region ?_
  refine Gg.sv (Gg.wN rfl) (Gg.y_assign rfl (Gg.ec _ _)) hf rfl rfl ?_
  intro a hf
  refine wpList_nil ?_
  refine hK1 _ _ ?_
  refine wp_seq_k ?_
  intro K hK2
  refine Gg.c_region ?_
  refine Gg.sv (Gg.wN rfl) (Gg.y_move rfl (hf.g rfl)) hf rfl rfl ?_
  intro a hf
  refine Gg.sv (Gg.wN rfl) (Gg.y_geq rfl (hf.g rfl) (Gg.ec _ _)) hf rfl rfl ?_
  intro a hf
  refine Gg.sv (Gg.wN rfl) (Gg.y_move rfl (hf.g rfl)) hf rfl rfl ?_
  intro a hf
  rcases Bool.eq_false_or_eq_true (decide (13 ≤ op_)) with hb1_ | hb1_
  · have h := Cin.cond_t hb1_ h
    refine Gg.sv (Gg.wantT' hf rfl rfl rfl hb1_ rfl) (Gg.y_move rfl (hf.g rfl)) hf rfl rfl ?_
    intro a hf
    refine Gg.sv (Gg.wantT' hf rfl rfl rfl hb1_ rfl) (Gg.y_leq rfl (hf.g rfl) (Gg.ec _ _)) hf rfl rfl ?_
    intro a hf
    refine Gg.sv (Gg.wN rfl) (Gg.y_pickT' rfl (hf.g rfl) hb1_ (hf.g rfl)) hf rfl rfl ?_
    intro a hf
    refine Gg.sv (Gg.wN rfl) (Gg.y_assign rfl (hf.g rfl)) hf rfl rfl ?_
    intro a hf
    refine wpList_nil ?_
    refine hK2 _ _ ?_
    refine wp_ret ?_
    cases h
    refine Gg.r_one Tryd.results21 hf rfl ?_
    exact ⟨rfl, hm.ev⟩
  · have h := Cin.cond_f hb1_ h
    refine Gg.ss (Gg.wantF' hf rfl rfl rfl hb1_ rfl rfl) hf rfl rfl ?_
    intro a hf
    refine Gg.ss (Gg.wantF' hf rfl rfl rfl hb1_ rfl rfl) hf rfl rfl ?_
    intro a hf
    refine Gg.sv (Gg.wN rfl) (Gg.y_pickF' rfl (hf.g rfl) hb1_ (Gg.ec _ _)) hf rfl rfl ?_
    intro a hf
    refine Gg.sv (Gg.wN rfl) (Gg.y_assign rfl (hf.g rfl)) hf rfl rfl ?_
    intro a hf
    refine wpList_nil ?_
    refine hK2 _ _ ?_
    refine wp_ret ?_
    cases h
    refine Gg.r_one Tryd.results21 hf rfl ?_
    exact ⟨rfl, hm.ev⟩

set_option maxHeartbeats 4000000 in
set_option maxRecDepth 20000 in
theorem c_R_PlaceOf {X : List Nat} {W : World} {F : Nat} {l_ : List Cin.Ins} {at_ : Int} {r : Int} {A1_ : Option Addr} {c2_ : Nat} (hX : ∀ k ∈ X, k < W.heap.size) (h : Cin.R_PlaceOf F l_ at_ = some r) (d1 : (Gg.Dt.of (Gg.tySlice Cin.ty_Ins) [.slice A1_ l_.length c2_] l_).ok X W) :
    Calls Tryd.prog 12 [.slice A1_ l_.length c2_, .int .i64 at_].toArray W (fun e w' => e = .returned (.int .i64 r) ∧ Gg.Ev [] W w') := by
  refine Gg.enter Tryd.func12 rfl Tryd.ntmps12 rfl ?_
  intro a hf
  have hm := Gg.St.start0 X W [Gg.Dt.of (Gg.tySlice Cin.ty_Ins) [.slice A1_ l_.length c2_] l_] hX ⟨d1, trivial⟩
  rw [Cin.R_PlaceOf] at h
  refine wp_seq_k ?_
  intro K hK1
  refine Gg.c_region ?_
  refine Gg.sv (Gg.wN rfl) (Gg.y_assign rfl (Gg.ec _ _)) hf rfl rfl ?_
  intro a hf
  refine wpList_nil ?_
  refine hK1 _ _ ?_
  refine wp_seq_k ?_
  intro K hK2
  refine wp_seq_k ?_
  intro K hK3
  refine Gg.c_region ?_
  refine Gg.sv (Gg.wN rfl) (Gg.y_assign rfl (Gg.ec _ _)) hf rfl rfl ?_
  intro a hf
  refine wpList_nil ?_
  refine hK3 _ _ ?_
  obtain ⟨j26_, hj26_, h⟩ := Cin.join_s h
  refine Gg.c_blockJ (fun a w => Gg.Fr 20 [] a ∧ Gg.St W [] X w [] [Gg.Dt.of (Gg.tySlice Cin.ty_Ins) [.slice A1_ l_.length c2_] l_] ∧ j26_ () = some r) (fun K hK4 => ?_) ?_
  · clear hj26_
    refine Gg.c_loop (fun (k1_ : Nat) a w => ∃ (n34_ : Int), Gg.Fr 20 [(0, .slice A1_ l_.length c2_), (1, .int .i64 at_), (5, .int .i64 n34_)] a ∧ Gg.St W [] X w [] [Gg.Dt.of (Gg.tySlice Cin.ty_Ins) [.slice A1_ l_.length c2_] l_] ∧ Cin.R_PlaceOf_L1 at_ l_ j26_ k1_ n34_ = some r) F ⟨0, hf.sub ⟨rfl, rfl, rfl, trivial⟩, (hm).pick ⟨⟨0, rfl⟩, trivial⟩, h⟩ ?_ ?_
    · rintro a w ⟨n34_, hf, hm, h⟩
      exact absurd h (by simp [Cin.R_PlaceOf_L1])
    · rintro k1_ a w ⟨n34_, hf, hm, h⟩ K hK5
      rw [Cin.R_PlaceOf_L1] at h
      refine wp_seq_k ?_
      intro K hK6
      refine wp_seq_k ?_
      intro K hK7
      refine Gg.c_region ?_
      refine Gg.sv (Gg.wN rfl) (Gg.y_move rfl (hf.g rfl)) hf rfl rfl ?_
      intro a hf
      refine Gg.sv (Gg.wN rfl) (Gg.y_move rfl (hf.g rfl)) hf rfl rfl ?_
      intro a hf
      refine Gg.sv (Gg.wN rfl) (Gg.y_len Tryd.underlying22 rfl (hf.g rfl)) hf rfl rfl ?_
      intro a hf
      refine Gg.sv (Gg.wN rfl) (Gg.y_lss rfl (hf.g rfl) (hf.g rfl)) hf rfl rfl ?_
      intro a hf
      refine wpList_nil ?_
      refine hK7 _ _ ?_
      refine Gg.c_cond (hf.g rfl) (fun hb43_ => ?_) (fun hb43_ => ?_)
      · have h := Cin.cond_t hb43_ h
        refine wp_skip ?_
        refine hK6 _ _ ?_
        refine wp_seq_k ?_
        intro K hK8
        refine wp_block ?_
        refine wp_seq_k ?_
        intro K hK9
        refine Gg.c_region ?_
        refine Gg.sv (Gg.wN rfl) (Gg.y_move rfl (hf.g rfl)) hf rfl rfl ?_
        intro a hf
        refine Gg.sv (Gg.wN rfl) (Gg.y_move rfl (hf.g rfl)) hf rfl rfl ?_
        intro a hf
        obtain ⟨x44_, hx45_, h⟩ := Cin.bind_s h
        obtain ⟨hA46_, hi47_, _, rfl, hc48_⟩ := Gg.slice_at _ (hm.d 0 rfl) hx45_
        refine Gg.sv (Gg.wN rfl) (Gg.y_idx Tryd.underlying22 Tryd.sizeOf40 rfl (hf.g rfl) (hf.g rfl) hA46_ hi47_) hf rfl rfl ?_
        intro a hf
        refine Gg.sv (Gg.wN rfl) (Gg.y_fld Tryd.underlying40 rfl Tryd.sizeOf3 rfl rfl (hf.g rfl)) hf rfl rfl ?_
        intro a hf
        refine Gg.sv (Gg.wN rfl) (Gg.y_load1 Tryd.isAgg3 rfl (hf.g rfl) (hc48_ 0 _ rfl)) hf rfl rfl ?_
        intro a hf
        refine Gg.sv (Gg.wN rfl) (Gg.y_move rfl (hf.g rfl)) hf rfl rfl ?_
        intro a hf
        refine Gg.sv (Gg.wN rfl) (Gg.y_eqI Tryd.underlying3 rfl (hf.g rfl) (hf.g rfl)) hf rfl rfl ?_
        intro a hf
        refine wpList_nil ?_
        refine hK9 _ _ ?_
        refine Gg.c_cond (hf.g rfl) (fun hb49_ => ?_) (fun hb49_ => ?_)
        · have h := Cin.cond_t hb49_ h
          refine wp_seq_k ?_
          intro K hK10
          refine Gg.c_region ?_
          refine Gg.sv (Gg.wN rfl) (Gg.y_move rfl (hf.g rfl)) hf rfl rfl ?_
          intro a hf
          refine Gg.sv (Gg.wN rfl) (Gg.y_assign rfl (hf.g rfl)) hf rfl rfl ?_
          intro a hf
          refine wpList_nil ?_
          have hf := hf.sub (l' := [(4, .int .i64 n34_)]) ⟨rfl, trivial⟩
          refine hK10 _ _ ?_
          refine wp_ret ?_
          cases h
          refine Gg.x_retB ?_
          refine Gg.x_retT ?_
          refine Gg.x_retT ?_
          refine Gg.x_retB ?_
          refine Gg.x_retT ?_
          refine Gg.x_retT ?_
          refine Gg.r_one Tryd.results12 hf rfl ?_
          exact ⟨rfl, hm.ev⟩
        · have h := Cin.cond_f hb49_ h
          refine wp_skip ?_
          refine hK8 _ _ ?_
          refine Gg.c_region ?_
          refine Gg.sv (Gg.wN rfl) (Gg.y_move rfl (hf.g rfl)) hf rfl rfl ?_
          intro a hf
          refine Gg.sv (Gg.wN rfl) (Gg.y_add64 rfl (hf.g rfl) (Gg.ec _ _)) hf rfl rfl ?_
          intro a hf
          refine Gg.sv (Gg.wN rfl) (Gg.y_assign rfl (hf.g rfl)) hf rfl rfl ?_
          intro a hf
          refine wpList_nil ?_
          have hf := hf.sub (l' := [(0, .slice A1_ l_.length c2_), (1, .int .i64 at_), (5, .int .i64 (Cin.w64 (n34_ + 1)))]) ⟨rfl, rfl, rfl, trivial⟩
          exact hK5 _ _ ⟨Cin.w64 (n34_ + 1), hf.sub ⟨rfl, rfl, rfl, trivial⟩, (hm).pick ⟨⟨0, rfl⟩, trivial⟩, h⟩
      · have h := Cin.cond_f hb43_ h
        refine wp_exit ?_
        refine Gg.x_then ?_
        refine Gg.x_then ?_
        refine Gg.x_hit ?_
        exact hK4 _ _ ⟨hf.sub trivial, (hm).pick ⟨⟨0, rfl⟩, trivial⟩, h⟩
  · rintro a w ⟨hf, hm, h⟩
    subst hj26_
    try dsimp only at h
    refine hK2 _ _ ?_
    refine wp_seq_k ?_
    intro K hK11
    refine Gg.c_region ?_
    refine Gg.sv (Gg.wN rfl) (Gg.y_assign rfl (Gg.ec _ _)) hf rfl rfl ?_
    intro a hf
    refine wpList_nil ?_
    refine hK11 _ _ ?_
    refine wp_ret ?_
    cases h
    refine Gg.r_one Tryd.results12 hf rfl ?_
    exact ⟨rfl, hm.ev⟩

set_option maxHeartbeats 4000000 in
set_option maxRecDepth 20000 in
theorem c_R_Behind {X : List Nat} {W : World} {op_ : Int} {r : Int} (hX : ∀ k ∈ X, k < W.heap.size) (h : Cin.R_Behind op_ = some r) :
    Calls Tryd.prog 19 [.int .i64 op_].toArray W (fun e w' => e = .returned (.int .i64 r) ∧ Gg.Ev [] W w') := by
  refine Gg.enter Tryd.func19 rfl Tryd.ntmps19 rfl ?_
  intro a hf
  have hm := Gg.St.start0 X W [] hX trivial
  rw [Cin.R_Behind] at h
  refine wp_seq_k ?_
  intro K hK1
  refine Gg.c_region ?_
  refine Gg.sv (Gg.wN rfl) (Gg.y_assign rfl (Gg.ec _ _)) hf rfl rfl ?_
  intro a hf
  refine wpList_nil ?_
  refine hK1 _ _ ?_
  obtain ⟨j70_, hj70_, h⟩ := Cin.join_s h
  refine Gg.c_meet (fun a w => Gg.Fr 28 [(0, .int .i64 op_)] a ∧ Gg.St W [] X w [] [] ∧ j70_ () = some r) (fun K hK2 => ?_) ?_
  · clear hj70_
    refine wp_seq_k ?_
    intro K hK3
    refine Gg.c_region ?_
    refine Gg.sv (Gg.wN rfl) (Gg.y_move rfl (hf.g rfl)) hf rfl rfl ?_
    intro a hf
    refine wpList_nil ?_
    refine hK3 _ _ ?_
    obtain ⟨j105_, hj105_, h⟩ := Cin.join_s h
    refine Gg.c_blockJ (fun a w => Gg.Fr 28 [(0, .int .i64 op_)] a ∧ Gg.St W [] X w [] [] ∧ j105_ () = some r) (fun K hK4 => ?_) ?_
    · clear hj105_
      obtain ⟨j116_, hj116_, h⟩ := Cin.join_s h
      refine Gg.c_meet (fun a w => ∃ (b115_ : Bool), Gg.Fr 28 [(0, .int .i64 op_), (3, .int .i64 op_), (4, .bool b115_)] a ∧ Gg.St W [] X w [] [] ∧ j116_ b115_ = some r) (fun K hK5 => ?_) ?_
      · clear hj116_
        refine wp_seq_k ?_
        intro K hK6
        refine Gg.c_region ?_
        refine Gg.sv (Gg.wN rfl) (Gg.y_eqI Tryd.underlying3 rfl (hf.g rfl) (Gg.ec _ _)) hf rfl rfl ?_
        intro a hf
        refine Gg.sv (Gg.wN rfl) (Gg.y_assign rfl (hf.g rfl)) hf rfl rfl ?_
        intro a hf
        refine wpList_nil ?_
        refine hK6 _ _ ?_
        refine Gg.c_cond (hf.g rfl) (fun hb117_ => ?_) (fun hb117_ => ?_)
        · have h := Cin.cond_t hb117_ h
          refine wp_skip ?_
          exact hK5 _ _ ⟨decide (op_ = 1), hf.sub ⟨rfl, rfl, rfl, trivial⟩, (hm).pick trivial, h⟩
        · have h := Cin.cond_f hb117_ h
          refine wp_seq_k ?_
          intro K hK7
          refine Gg.c_region ?_
          refine Gg.sv (Gg.wN rfl) (Gg.y_eqI Tryd.underlying3 rfl (hf.g rfl) (Gg.ec _ _)) hf rfl rfl ?_
          intro a hf
          refine Gg.sv (Gg.wN rfl) (Gg.y_assign rfl (hf.g rfl)) hf rfl rfl ?_
          intro a hf
          refine wpList_nil ?_
          refine hK7 _ _ ?_
          refine Gg.c_cond (hf.g rfl) (fun hb118_ => ?_) (fun hb118_ => ?_)
          · have h := Cin.cond_t hb118_ h
            refine wp_skip ?_
            exact hK5 _ _ ⟨decide (op_ = 13), hf.sub ⟨rfl, rfl, rfl, trivial⟩, (hm).pick trivial, h⟩
          · have h := Cin.cond_f hb118_ h
            refine wp_seq_k ?_
            intro K hK8
            refine Gg.c_region ?_
            refine Gg.sv (Gg.wN rfl) (Gg.y_eqI Tryd.underlying3 rfl (hf.g rfl) (Gg.ec _ _)) hf rfl rfl ?_
            intro a hf
            refine Gg.sv (Gg.wN rfl) (Gg.y_assign rfl (hf.g rfl)) hf rfl rfl ?_
            intro a hf
            refine wpList_nil ?_
            refine hK8 _ _ ?_
            refine Gg.c_cond (hf.g rfl) (fun hb119_ => ?_) (fun hb119_ => ?_)
            · have h := Cin.cond_t hb119_ h
              refine wp_skip ?_
              exact hK5 _ _ ⟨decide (op_ = 14), hf.sub ⟨rfl, rfl, rfl, trivial⟩, (hm).pick trivial, h⟩
            · have h := Cin.cond_f hb119_ h
              refine wp_seq_k ?_
              intro K hK9
              refine Gg.c_region ?_
              refine Gg.sv (Gg.wN rfl) (Gg.y_eqI Tryd.underlying3 rfl (hf.g rfl) (Gg.ec _ _)) hf rfl rfl ?_
              intro a hf
              refine Gg.sv (Gg.wN rfl) (Gg.y_assign rfl (hf.g rfl)) hf rfl rfl ?_
              intro a hf
              refine wpList_nil ?_
              refine hK9 _ _ ?_
              refine Gg.c_cond (hf.g rfl) (fun hb120_ => ?_) (fun hb120_ => ?_)
              · have h := Cin.cond_t hb120_ h
                refine wp_skip ?_
                exact hK5 _ _ ⟨decide (op_ = 15), hf.sub ⟨rfl, rfl, rfl, trivial⟩, (hm).pick trivial, h⟩
              · have h := Cin.cond_f hb120_ h
                refine wp_seq_k ?_
                intro K hK10
                refine Gg.c_region ?_
                refine Gg.sv (Gg.wN rfl) (Gg.y_eqI Tryd.underlying3 rfl (hf.g rfl) (Gg.ec _ _)) hf rfl rfl ?_
                intro a hf
                refine Gg.sv (Gg.wN rfl) (Gg.y_assign rfl (hf.g rfl)) hf rfl rfl ?_
                intro a hf
                refine wpList_nil ?_
                refine hK10 _ _ ?_
                refine Gg.c_cond (hf.g rfl) (fun hb121_ => ?_) (fun hb121_ => ?_)
                · have h := Cin.cond_t hb121_ h
                  refine wp_skip ?_
                  exact hK5 _ _ ⟨decide (op_ = 16), hf.sub ⟨rfl, rfl, rfl, trivial⟩, (hm).pick trivial, h⟩
                · have h := Cin.cond_f hb121_ h
                  refine wp_seq_k ?_
                  intro K hK11
                  refine Gg.c_region ?_
                  refine Gg.sv (Gg.wN rfl) (Gg.y_eqI Tryd.underlying3 rfl (hf.g rfl) (Gg.ec _ _)) hf rfl rfl ?_
                  intro a hf
                  refine Gg.sv (Gg.wN rfl) (Gg.y_assign rfl (hf.g rfl)) hf rfl rfl ?_
                  intro a hf
                  refine wpList_nil ?_
                  refine hK11 _ _ ?_
                  refine Gg.c_cond (hf.g rfl) (fun hb122_ => ?_) (fun hb122_ => ?_)
                  · have h := Cin.cond_t hb122_ h
                    refine wp_skip ?_
                    exact hK5 _ _ ⟨decide (op_ = 17), hf.sub ⟨rfl, rfl, rfl, trivial⟩, (hm).pick trivial, h⟩
                  · have h := Cin.cond_f hb122_ h
                    refine wp_seq_k ?_
                    intro K hK12
                    refine Gg.c_region ?_
                    refine Gg.sv (Gg.wN rfl) (Gg.y_eqI Tryd.underlying3 rfl (hf.g rfl) (Gg.ec _ _)) hf rfl rfl ?_
                    intro a hf
                    refine Gg.sv (Gg.wN rfl) (Gg.y_assign rfl (hf.g rfl)) hf rfl rfl ?_
                    intro a hf
                    refine wpList_nil ?_
                    refine hK12 _ _ ?_
                    refine Gg.c_cond (hf.g rfl) (fun hb123_ => ?_) (fun hb123_ => ?_)
                    · have h := Cin.cond_t hb123_ h
                      refine wp_skip ?_
                      exact hK5 _ _ ⟨decide (op_ = 19), hf.sub ⟨rfl, rfl, rfl, trivial⟩, (hm).pick trivial, h⟩
                    · have h := Cin.cond_f hb123_ h
                      refine wp_seq_k ?_
                      intro K hK13
                      refine Gg.c_region ?_
                      refine Gg.sv (Gg.wN rfl) (Gg.y_eqI Tryd.underlying3 rfl (hf.g rfl) (Gg.ec _ _)) hf rfl rfl ?_
                      intro a hf
                      refine Gg.sv (Gg.wN rfl) (Gg.y_assign rfl (hf.g rfl)) hf rfl rfl ?_
                      intro a hf
                      refine wpList_nil ?_
                      refine hK13 _ _ ?_
                      refine Gg.c_cond (hf.g rfl) (fun hb124_ => ?_) (fun hb124_ => ?_)
                      · have h := Cin.cond_t hb124_ h
                        refine wp_skip ?_
                        exact hK5 _ _ ⟨decide (op_ = 20), hf.sub ⟨rfl, rfl, rfl, trivial⟩, (hm).pick trivial, h⟩
                      · have h := Cin.cond_f hb124_ h
                        refine wp_seq_k ?_
                        intro K hK14
                        refine Gg.c_region ?_
                        refine Gg.sv (Gg.wN rfl) (Gg.y_eqI Tryd.underlying3 rfl (hf.g rfl) (Gg.ec _ _)) hf rfl rfl ?_
                        intro a hf
                        refine Gg.sv (Gg.wN rfl) (Gg.y_assign rfl (hf.g rfl)) hf rfl rfl ?_
                        intro a hf
                        refine wpList_nil ?_
                        refine hK14 _ _ ?_
                        refine Gg.c_cond (hf.g rfl) (fun hb125_ => ?_) (fun hb125_ => ?_)
                        · have h := Cin.cond_t hb125_ h
                          refine wp_skip ?_
                          exact hK5 _ _ ⟨decide (op_ = 26), hf.sub ⟨rfl, rfl, rfl, trivial⟩, (hm).pick trivial, h⟩
                        · have h := Cin.cond_f hb125_ h
                          refine Gg.c_region ?_
                          refine Gg.sv (Gg.wN rfl) (Gg.y_eqI Tryd.underlying3 rfl (hf.g rfl) (Gg.ec _ _)) hf rfl rfl ?_
                          intro a hf
                          refine Gg.sv (Gg.wN rfl) (Gg.y_assign rfl (hf.g rfl)) hf rfl rfl ?_
                          intro a hf
                          refine wpList_nil ?_
                          exact hK5 _ _ ⟨decide (op_ = 34), hf.sub ⟨rfl, rfl, rfl, trivial⟩, (hm).pick trivial, h⟩
      · rintro a w ⟨b115_, hf, hm, h⟩
        subst hj116_
        try dsimp only at h
        refine Gg.c_cond (hf.g rfl) (fun hb126_ => ?_) (fun hb126_ => ?_)
        · have h := Cin.cond_t hb126_ h
          refine wp_seq_k ?_
          intro K hK15
          refine Gg.c_region ?_
          refine Gg.sv (Gg.wN rfl) (Gg.y_assign rfl (Gg.ec _ _)) hf rfl rfl ?_
          intro a hf
          refine wpList_nil ?_
          refine hK15 _ _ ?_
          refine wp_ret ?_
          cases h
          refine Gg.x_retB ?_
          refine Gg.x_retT ?_
          refine Gg.x_retT ?_
          refine Gg.r_one Tryd.results19 hf rfl ?_
          exact ⟨rfl, hm.ev⟩
        · have h := Cin.cond_f hb126_ h
          obtain ⟨j133_, hj133_, h⟩ := Cin.join_s h
          refine Gg.c_meet (fun a w => ∃ (b132_ : Bool), Gg.Fr 28 [(0, .int .i64 op_), (15, .bool b132_)] a ∧ Gg.St W [] X w [] [] ∧ j133_ b132_ = some r) (fun K hK16 => ?_) ?_
          · clear hj133_
            refine wp_seq_k ?_
            intro K hK17
            refine Gg.c_region ?_
            refine Gg.sv (Gg.wN rfl) (Gg.y_eqI Tryd.underlying3 rfl (hf.g rfl) (Gg.ec _ _)) hf rfl rfl ?_
            intro a hf
            refine Gg.sv (Gg.wN rfl) (Gg.y_assign rfl (hf.g rfl)) hf rfl rfl ?_
            intro a hf
            refine wpList_nil ?_
            refine hK17 _ _ ?_
            refine Gg.c_cond (hf.g rfl) (fun hb134_ => ?_) (fun hb134_ => ?_)
            · have h := Cin.cond_t hb134_ h
              refine wp_skip ?_
              exact hK16 _ _ ⟨decide (op_ = 3), hf.sub ⟨rfl, rfl, trivial⟩, (hm).pick trivial, h⟩
            · have h := Cin.cond_f hb134_ h
              refine wp_seq_k ?_
              intro K hK18
              refine Gg.c_region ?_
              refine Gg.sv (Gg.wN rfl) (Gg.y_eqI Tryd.underlying3 rfl (hf.g rfl) (Gg.ec _ _)) hf rfl rfl ?_
              intro a hf
              refine Gg.sv (Gg.wN rfl) (Gg.y_assign rfl (hf.g rfl)) hf rfl rfl ?_
              intro a hf
              refine wpList_nil ?_
              refine hK18 _ _ ?_
              refine Gg.c_cond (hf.g rfl) (fun hb135_ => ?_) (fun hb135_ => ?_)
              · have h := Cin.cond_t hb135_ h
                refine wp_skip ?_
                exact hK16 _ _ ⟨decide (op_ = 4), hf.sub ⟨rfl, rfl, trivial⟩, (hm).pick trivial, h⟩
              · have h := Cin.cond_f hb135_ h
                refine wp_seq_k ?_
                intro K hK19
                refine Gg.c_region ?_
                refine Gg.sv (Gg.wN rfl) (Gg.y_eqI Tryd.underlying3 rfl (hf.g rfl) (Gg.ec _ _)) hf rfl rfl ?_
                intro a hf
                refine Gg.sv (Gg.wN rfl) (Gg.y_assign rfl (hf.g rfl)) hf rfl rfl ?_
                intro a hf
                refine wpList_nil ?_
                refine hK19 _ _ ?_
                refine Gg.c_cond (hf.g rfl) (fun hb136_ => ?_) (fun hb136_ => ?_)
                · have h := Cin.cond_t hb136_ h
                  refine wp_skip ?_
                  exact hK16 _ _ ⟨decide (op_ = 18), hf.sub ⟨rfl, rfl, trivial⟩, (hm).pick trivial, h⟩
                · have h := Cin.cond_f hb136_ h
                  refine wp_seq_k ?_
                  intro K hK20
                  refine Gg.c_region ?_
                  refine Gg.sv (Gg.wN rfl) (Gg.y_eqI Tryd.underlying3 rfl (hf.g rfl) (Gg.ec _ _)) hf rfl rfl ?_
                  intro a hf
                  refine Gg.sv (Gg.wN rfl) (Gg.y_assign rfl (hf.g rfl)) hf rfl rfl ?_
                  intro a hf
                  refine wpList_nil ?_
                  refine hK20 _ _ ?_
                  refine Gg.c_cond (hf.g rfl) (fun hb137_ => ?_) (fun hb137_ => ?_)
                  · have h := Cin.cond_t hb137_ h
                    refine wp_skip ?_
                    exact hK16 _ _ ⟨decide (op_ = 22), hf.sub ⟨rfl, rfl, trivial⟩, (hm).pick trivial, h⟩
                  · have h := Cin.cond_f hb137_ h
                    refine wp_seq_k ?_
                    intro K hK21
                    refine Gg.c_region ?_
                    refine Gg.sv (Gg.wN rfl) (Gg.y_eqI Tryd.underlying3 rfl (hf.g rfl) (Gg.ec _ _)) hf rfl rfl ?_
                    intro a hf
                    refine Gg.sv (Gg.wN rfl) (Gg.y_assign rfl (hf.g rfl)) hf rfl rfl ?_
                    intro a hf
                    refine wpList_nil ?_
                    refine hK21 _ _ ?_
                    refine Gg.c_cond (hf.g rfl) (fun hb138_ => ?_) (fun hb138_ => ?_)
                    · have h := Cin.cond_t hb138_ h
                      refine wp_skip ?_
                      exact hK16 _ _ ⟨decide (op_ = 29), hf.sub ⟨rfl, rfl, trivial⟩, (hm).pick trivial, h⟩
                    · have h := Cin.cond_f hb138_ h
                      refine Gg.c_region ?_
                      refine Gg.sv (Gg.wN rfl) (Gg.y_eqI Tryd.underlying3 rfl (hf.g rfl) (Gg.ec _ _)) hf rfl rfl ?_
                      intro a hf
                      refine Gg.sv (Gg.wN rfl) (Gg.y_assign rfl (hf.g rfl)) hf rfl rfl ?_
                      intro a hf
                      refine wpList_nil ?_
                      exact hK16 _ _ ⟨decide (op_ = 30), hf.sub ⟨rfl, rfl, trivial⟩, (hm).pick trivial, h⟩
          · rintro a w ⟨b132_, hf, hm, h⟩
            subst hj133_
            try dsimp only at h
            refine Gg.c_cond (hf.g rfl) (fun hb139_ => ?_) (fun hb139_ => ?_)
            · have h := Cin.cond_t hb139_ h
              refine wp_seq_k ?_
              intro K hK22
              refine Gg.c_region ?_
              refine Gg.sv (Gg.wN rfl) (Gg.y_assign rfl (Gg.ec _ _)) hf rfl rfl ?_
              intro a hf
              refine wpList_nil ?_
              refine hK22 _ _ ?_
              refine wp_ret ?_
              cases h
              refine Gg.x_retB ?_
              refine Gg.x_retT ?_
              refine Gg.x_retT ?_
              refine Gg.r_one Tryd.results19 hf rfl ?_
              exact ⟨rfl, hm.ev⟩
            · have h := Cin.cond_f hb139_ h
              refine wp_skip ?_
              exact hK4 _ _ ⟨hf.sub ⟨rfl, trivial⟩, (hm).pick trivial, h⟩
    · rintro a w ⟨hf, hm, h⟩
      subst hj105_
      try dsimp only at h
      exact hK2 _ _ ⟨hf.sub ⟨rfl, trivial⟩, (hm).pick trivial, h⟩
  · rintro a w ⟨hf, hm, h⟩
    subst hj70_
    try dsimp only at h
    refine wp_seq_k ?_
    intro K hK23
    obtain ⟨j142_, hj142_, h⟩ := Cin.join_s h
    refine Gg.c_meet (fun a w => ∃ (b141_ : Bool), Gg.Fr 28 [(27, .bool b141_)] a ∧ Gg.St W [] X w [] [] ∧ j142_ b141_ = some r) (fun K hK24 => ?_) ?_
    · clear hj142_
      refine Gg.c_region ?_
      refine Gg.sv (Gg.wN rfl) (Gg.y_move rfl (hf.g rfl)) hf rfl rfl ?_
      intro a hf
      refine Gg.sv (Gg.wN rfl) (Gg.y_lss rfl (hf.g rfl) (Gg.ec _ _)) hf rfl rfl ?_
      intro a hf
      refine Gg.sv (Gg.wN rfl) (Gg.y_move rfl (hf.g rfl)) hf rfl rfl ?_
      intro a hf
      rcases Bool.eq_false_or_eq_true (decide (op_ < 0)) with hb143_ | hb143_
      · have h := Cin.cond_t hb143_ h
        refine Gg.ss (Gg.wantF' hf rfl rfl rfl hb143_ rfl rfl) hf rfl rfl ?_
        intro a hf
        refine Gg.ss (Gg.wantF' hf rfl rfl rfl hb143_ rfl rfl) hf rfl rfl ?_
        intro a hf
        refine Gg.sv (Gg.wN rfl) (Gg.y_pickT' rfl (hf.g rfl) hb143_ (Gg.ec _ _)) hf rfl rfl ?_
        intro a hf
        refine wpList_nil ?_
        exact hK24 _ _ ⟨true, hf.sub ⟨rfl, trivial⟩, (hm).pick trivial, h⟩
      · have h := Cin.cond_f hb143_ h
        refine Gg.sv (Gg.wantT' hf rfl rfl rfl hb143_ rfl) (Gg.y_move rfl (hf.g rfl)) hf rfl rfl ?_
        intro a hf
        refine Gg.sv (Gg.wantT' hf rfl rfl rfl hb143_ rfl) (Gg.y_gtr rfl (hf.g rfl) (Gg.ec _ _)) hf rfl rfl ?_
        intro a hf
        refine Gg.sv (Gg.wN rfl) (Gg.y_pickF' rfl (hf.g rfl) hb143_ (hf.g rfl)) hf rfl rfl ?_
        intro a hf
        refine wpList_nil ?_
        exact hK24 _ _ ⟨decide (36 < op_), hf.sub ⟨rfl, trivial⟩, (hm).pick trivial, h⟩
    · rintro a w ⟨b141_, hf, hm, h⟩
      subst hj142_
      try dsimp only at h
      refine Gg.c_cond (hf.g rfl) (fun hb144_ => ?_) (fun hb144_ => ?_)
      · have h := Cin.cond_t hb144_ h
        refine wp_seq_k ?_
        intro K hK25
        refine Gg.c_region ?_
        refine Gg.sv (Gg.wN rfl) (Gg.y_assign rfl (Gg.ec _ _)) hf rfl rfl ?_
        intro a hf
        refine wpList_nil ?_
        refine hK25 _ _ ?_
        refine wp_ret ?_
        cases h
        refine Gg.x_retT ?_
        refine Gg.r_one Tryd.results19 hf rfl ?_
        exact ⟨rfl, hm.ev⟩
      · have h := Cin.cond_f hb144_ h
        refine wp_skip ?_
        refine hK23 _ _ ?_
        refine wp_seq_k ?_
        intro K hK26
        refine Gg.c_region ?_
        refine Gg.sv (Gg.wN rfl) (Gg.y_assign rfl (Gg.ec _ _)) hf rfl rfl ?_
        intro a hf
        refine wpList_nil ?_
        refine hK26 _ _ ?_
        refine wp_ret ?_
        cases h
        refine Gg.r_one Tryd.results19 hf rfl ?_
        exact ⟨rfl, hm.ev⟩

set_option maxHeartbeats 4000000 in
set_option maxRecDepth 20000 in
theorem c_R_between {X : List Nat} {W : World} {n_ : Int} {least_ : Int} {most_ : Int} {r : Bool} (hX : ∀ k ∈ X, k < W.heap.size) (h : Cin.R_between n_ least_ most_ = some r) :
    Calls Tryd.prog 25 [.int .i64 n_, .int .i64 least_, .int .i64 most_].toArray W (fun e w' => e = .returned (.bool r) ∧ Gg.Ev [] W w') := by
  refine Gg.enter Tryd.func25 rfl Tryd.ntmps25 rfl ?_
  intro a hf
  have hm := Gg.St.start0 X W [] hX trivial
  rw [Cin.R_between] at h
  refine wp_seq_k ?_
  intro K hK1
  refine Gg.c_region ?_
  refine Gg.sv (Gg.wN rfl) (Gg.y_assign rfl (Gg.ec _ _)) hf rfl rfl ?_
  intro a hf
  refine wpList_nil ?_
  refine hK1 _ _ ?_
  refine wp_seq_k ?_
  intro K hK2
  refine Gg.c_region ?_
  refine Gg.sv (Gg.wN rfl) (Gg.y_move rfl (hf.g rfl)) hf rfl rfl ?_
  intro a hf
  refine Gg.sv (Gg.wN rfl) (Gg.y_move rfl (hf.g rfl)) hf rfl rfl ?_
  intro a hf
  refine Gg.sv (Gg.wN rfl) (Gg.y_geq rfl (hf.g rfl) (hf.g rfl)) hf rfl rfl ?_
  intro a hf
  refine Gg.sv (Gg.wN rfl) (Gg.y_move rfl (hf.g rfl)) hf rfl rfl ?_
  intro a hf
  rcases Bool.eq_false_or_eq_true (decide (least_ ≤ n_)) with hb1_ | hb1_
  · have h := Cin.cond_t hb1_ h
    refine Gg.sv (Gg.wantT' hf rfl rfl rfl hb1_ rfl) (Gg.y_move rfl (hf.g rfl)) hf rfl rfl ?_
    intro a hf
    refine Gg.sv (Gg.wantT' hf rfl rfl rfl hb1_ rfl) (Gg.y_move rfl (hf.g rfl)) hf rfl rfl ?_
    intro a hf
    refine Gg.sv (Gg.wantT' hf rfl rfl rfl hb1_ rfl) (Gg.y_leq rfl (hf.g rfl) (hf.g rfl)) hf rfl rfl ?_
    intro a hf
    refine Gg.sv (Gg.wN rfl) (Gg.y_pickT' rfl (hf.g rfl) hb1_ (hf.g rfl)) hf rfl rfl ?_
    intro a hf
    refine Gg.sv (Gg.wN rfl) (Gg.y_assign rfl (hf.g rfl)) hf rfl rfl ?_
    intro a hf
    refine wpList_nil ?_
    refine hK2 _ _ ?_
    refine wp_ret ?_
    cases h
    refine Gg.r_one Tryd.results25 hf rfl ?_
    exact ⟨rfl, hm.ev⟩
  · have h := Cin.cond_f hb1_ h
    refine Gg.ss (Gg.wantF' hf rfl rfl rfl hb1_ rfl rfl) hf rfl rfl ?_
    intro a hf
    refine Gg.ss (Gg.wantF' hf rfl rfl rfl hb1_ rfl rfl) hf rfl rfl ?_
    intro a hf
    refine Gg.ss (Gg.wantF' hf rfl rfl rfl hb1_ rfl rfl) hf rfl rfl ?_
    intro a hf
    refine Gg.sv (Gg.wN rfl) (Gg.y_pickF' rfl (hf.g rfl) hb1_ (Gg.ec _ _)) hf rfl rfl ?_
    intro a hf
    refine Gg.sv (Gg.wN rfl) (Gg.y_assign rfl (hf.g rfl)) hf rfl rfl ?_
    intro a hf
    refine wpList_nil ?_
    refine hK2 _ _ ?_
    refine wp_ret ?_
    cases h
    refine Gg.r_one Tryd.results25 hf rfl ?_
    exact ⟨rfl, hm.ev⟩

set_option maxHeartbeats 4000000 in
set_option maxRecDepth 20000 in
theorem c_code_within {X : List Nat} {W : World} {n_ : Int} {least_ : Int} {most_ : Int} {r : Bool} (hX : ∀ k ∈ X, k < W.heap.size) (h : Cin.code_within n_ least_ most_ = some r) :
    Calls Tryd.prog 28 [.int .i64 n_, .int .i64 least_, .int .i64 most_].toArray W (fun e w' => e = .returned (.bool r) ∧ Gg.Ev [] W w') := by
  refine Gg.enter Tryd.func28 rfl Tryd.ntmps28 rfl ?_
  intro a hf
  have hm := Gg.St.start0 X W [] hX trivial
  rw [Cin.code_within] at h
  refine wp_seq_k ?_
  intro K hK1
  refine Gg.c_region ?_
  refine Gg.sv (Gg.wN rfl) (Gg.y_assign rfl (Gg.ec _ _)) hf rfl rfl ?_
  intro a hf
  refine wpList_nil ?_
  refine hK1 _ _ ?_
  refine wp_seq_k ?_
  intro K hK2
  refine Gg.c_region ?_
  refine Gg.sv (Gg.wN rfl) (Gg.y_move rfl (hf.g rfl)) hf rfl rfl ?_
  intro a hf
  refine Gg.sv (Gg.wN rfl) (Gg.y_move rfl (hf.g rfl)) hf rfl rfl ?_
  intro a hf
  refine Gg.sv (Gg.wN rfl) (Gg.y_geq rfl (hf.g rfl) (hf.g rfl)) hf rfl rfl ?_
  intro a hf
  refine Gg.sv (Gg.wN rfl) (Gg.y_move rfl (hf.g rfl)) hf rfl rfl ?_
  intro a hf
  rcases Bool.eq_false_or_eq_true (decide (least_ ≤ n_)) with hb1_ | hb1_
  · have h := Cin.cond_t hb1_ h
    refine Gg.sv (Gg.wantT' hf rfl rfl rfl hb1_ rfl) (Gg.y_move rfl (hf.g rfl)) hf rfl rfl ?_
    intro a hf
    refine Gg.sv (Gg.wantT' hf rfl rfl rfl hb1_ rfl) (Gg.y_move rfl (hf.g rfl)) hf rfl rfl ?_
    intro a hf
    refine Gg.sv (Gg.wantT' hf rfl rfl rfl hb1_ rfl) (Gg.y_leq rfl (hf.g rfl) (hf.g rfl)) hf rfl rfl ?_
    intro a hf
    refine Gg.sv (Gg.wN rfl) (Gg.y_pickT' rfl (hf.g rfl) hb1_ (hf.g rfl)) hf rfl rfl ?_
    intro a hf
    refine Gg.sv (Gg.wN rfl) (Gg.y_assign rfl (hf.g rfl)) hf rfl rfl ?_
    intro a hf
    refine wpList_nil ?_
    refine hK2 _ _ ?_
    refine wp_ret ?_
    cases h
    refine Gg.r_one Tryd.results28 hf rfl ?_
    exact ⟨rfl, hm.ev⟩
  · have h := Cin.cond_f hb1_ h
    refine Gg.ss (Gg.wantF' hf rfl rfl rfl hb1_ rfl rfl) hf rfl rfl ?_
    intro a hf
    refine Gg.ss (Gg.wantF' hf rfl rfl rfl hb1_ rfl rfl) hf rfl rfl ?_
    intro a hf
    refine Gg.ss (Gg.wantF' hf rfl rfl rfl hb1_ rfl rfl) hf rfl rfl ?_
    intro a hf
    refine Gg.sv (Gg.wN rfl) (Gg.y_pickF' rfl (hf.g rfl) hb1_ (Gg.ec _ _)) hf rfl rfl ?_
    intro a hf
    refine Gg.sv (Gg.wN rfl) (Gg.y_assign rfl (hf.g rfl)) hf rfl rfl ?_
    intro a hf
    refine wpList_nil ?_
    refine hK2 _ _ ?_
    refine wp_ret ?_
    cases h
    refine Gg.r_one Tryd.results28 hf rfl ?_
    exact ⟨rfl, hm.ev⟩

set_option maxHeartbeats 4000000 in
set_option maxRecDepth 20000 in
theorem c_R_ByItself {X : List Nat} {W : World} {op_ : Int} {r : Bool} (hX : ∀ k ∈ X, k < W.heap.size) (h : Cin.R_ByItself op_ = some r) :
    Calls Tryd.prog 20 [.int .i64 op_].toArray W (fun e w' => e = .returned (.bool r) ∧ Gg.Ev [] W w') := by
  refine Gg.enter Tryd.func20 rfl Tryd.ntmps20 rfl ?_
  intro a hf
  have hm := Gg.St.start0 X W [] hX trivial
  rw [Cin.R_ByItself] at h
  refine wp_seq_k ?_
  intro K hK1
  refine Gg.c_region ?_
  refine Gg.sv (Gg.wN rfl) (Gg.y_assign rfl (Gg.ec _ _)) hf rfl rfl ?_
  intro a hf
  refine wpList_nil ?_
  refine hK1 _ _ ?_
  refine wp_seq_k ?_
  intro K hK2
  refine Gg.c_region ?_
  refine Gg.sv (Gg.wN rfl) (Gg.y_move rfl (hf.g rfl)) hf rfl rfl ?_
  intro a hf
  refine Gg.sv (Gg.wN rfl) (Gg.y_eqI Tryd.underlying3 rfl (hf.g rfl) (Gg.ec _ _)) hf rfl rfl ?_
  intro a hf
  refine Gg.sv (Gg.wN rfl) (Gg.y_move rfl (hf.g rfl)) hf rfl rfl ?_
  intro a hf
  rcases Bool.eq_false_or_eq_true (decide (op_ = 19)) with hb1_ | hb1_
  · have h := Cin.cond_t hb1_ h
    refine Gg.ss (Gg.wantF' hf rfl rfl rfl hb1_ rfl rfl) hf rfl rfl ?_
    intro a hf
    refine Gg.ss (Gg.wantF' hf rfl rfl rfl hb1_ rfl rfl) hf rfl rfl ?_
    intro a hf
    refine Gg.sv (Gg.wN rfl) (Gg.y_pickT' rfl (hf.g rfl) hb1_ (Gg.ec _ _)) hf rfl rfl ?_
    intro a hf
    refine Gg.sv (Gg.wN rfl) (Gg.y_move rfl (hf.g rfl)) hf rfl rfl ?_
    intro a hf
    refine Gg.ss (Gg.wantF hf rfl rfl rfl rfl rfl) hf rfl rfl ?_
    intro a hf
    refine Gg.ss (Gg.wantF hf rfl rfl rfl rfl rfl) hf rfl rfl ?_
    intro a hf
    refine Gg.sv (Gg.wN rfl) (Gg.y_pickT' rfl (hf.g rfl) rfl (Gg.ec _ _)) hf rfl rfl ?_
    intro a hf
    refine Gg.sv (Gg.wN rfl) (Gg.y_move rfl (hf.g rfl)) hf rfl rfl ?_
    intro a hf
    refine Gg.ss (Gg.wantF hf rfl rfl rfl rfl rfl) hf rfl rfl ?_
    intro a hf
    refine Gg.ss (Gg.wantF hf rfl rfl rfl rfl rfl) hf rfl rfl ?_
    intro a hf
    refine Gg.sv (Gg.wN rfl) (Gg.y_pickT' rfl (hf.g rfl) rfl (Gg.ec _ _)) hf rfl rfl ?_
    intro a hf
    refine Gg.sv (Gg.wN rfl) (Gg.y_assign rfl (hf.g rfl)) hf rfl rfl ?_
    intro a hf
    refine wpList_nil ?_
    have hf := hf.sub (l' := [(2, .bool true)]) ⟨rfl, trivial⟩
    refine hK2 _ _ ?_
    refine wp_ret ?_
    cases h
    refine Gg.r_one Tryd.results20 hf rfl ?_
    exact ⟨rfl, hm.ev⟩
  · have h := Cin.cond_f hb1_ h
    refine Gg.sv (Gg.wantT' hf rfl rfl rfl hb1_ rfl) (Gg.y_move rfl (hf.g rfl)) hf rfl rfl ?_
    intro a hf
    refine Gg.sv (Gg.wantT' hf rfl rfl rfl hb1_ rfl) (Gg.y_eqI Tryd.underlying3 rfl (hf.g rfl) (Gg.ec _ _)) hf rfl rfl ?_
    intro a hf
    refine Gg.sv (Gg.wN rfl) (Gg.y_pickF' rfl (hf.g rfl) hb1_ (hf.g rfl)) hf rfl rfl ?_
    intro a hf
    refine Gg.sv (Gg.wN rfl) (Gg.y_move rfl (hf.g rfl)) hf rfl rfl ?_
    intro a hf
    rcases Bool.eq_false_or_eq_true (decide (op_ = 20)) with hb2_ | hb2_
    · have h := Cin.cond_t hb2_ h
      refine Gg.ss (Gg.wantF' hf rfl rfl rfl hb2_ rfl rfl) hf rfl rfl ?_
      intro a hf
      refine Gg.ss (Gg.wantF' hf rfl rfl rfl hb2_ rfl rfl) hf rfl rfl ?_
      intro a hf
      refine Gg.sv (Gg.wN rfl) (Gg.y_pickT' rfl (hf.g rfl) hb2_ (Gg.ec _ _)) hf rfl rfl ?_
      intro a hf
      refine Gg.sv (Gg.wN rfl) (Gg.y_move rfl (hf.g rfl)) hf rfl rfl ?_
      intro a hf
      refine Gg.ss (Gg.wantF hf rfl rfl rfl rfl rfl) hf rfl rfl ?_
      intro a hf
      refine Gg.ss (Gg.wantF hf rfl rfl rfl rfl rfl) hf rfl rfl ?_
      intro a hf
      refine Gg.sv (Gg.wN rfl) (Gg.y_pickT' rfl (hf.g rfl) rfl (Gg.ec _ _)) hf rfl rfl ?_
      intro a hf
      refine Gg.sv (Gg.wN rfl) (Gg.y_assign rfl (hf.g rfl)) hf rfl rfl ?_
      intro a hf
      refine wpList_nil ?_
      have hf := hf.sub (l' := [(2, .bool true)]) ⟨rfl, trivial⟩
      refine hK2 _ _ ?_
      refine wp_ret ?_
      cases h
      refine Gg.r_one Tryd.results20 hf rfl ?_
      exact ⟨rfl, hm.ev⟩
    · have h := Cin.cond_f hb2_ h
      refine Gg.sv (Gg.wantT' hf rfl rfl rfl hb2_ rfl) (Gg.y_move rfl (hf.g rfl)) hf rfl rfl ?_
      intro a hf
      refine Gg.sv (Gg.wantT' hf rfl rfl rfl hb2_ rfl) (Gg.y_eqI Tryd.underlying3 rfl (hf.g rfl) (Gg.ec _ _)) hf rfl rfl ?_
      intro a hf
      refine Gg.sv (Gg.wN rfl) (Gg.y_pickF' rfl (hf.g rfl) hb2_ (hf.g rfl)) hf rfl rfl ?_
      intro a hf
      refine Gg.sv (Gg.wN rfl) (Gg.y_move rfl (hf.g rfl)) hf rfl rfl ?_
      intro a hf
      rcases Bool.eq_false_or_eq_true (decide (op_ = 26)) with hb3_ | hb3_
      · have h := Cin.cond_t hb3_ h
        refine Gg.ss (Gg.wantF' hf rfl rfl rfl hb3_ rfl rfl) hf rfl rfl ?_
        intro a hf
        refine Gg.ss (Gg.wantF' hf rfl rfl rfl hb3_ rfl rfl) hf rfl rfl ?_
        intro a hf
        refine Gg.sv (Gg.wN rfl) (Gg.y_pickT' rfl (hf.g rfl) hb3_ (Gg.ec _ _)) hf rfl rfl ?_
        intro a hf
        refine Gg.sv (Gg.wN rfl) (Gg.y_assign rfl (hf.g rfl)) hf rfl rfl ?_
        intro a hf
        refine wpList_nil ?_
        have hf := hf.sub (l' := [(2, .bool true)]) ⟨rfl, trivial⟩
        refine hK2 _ _ ?_
        refine wp_ret ?_
        cases h
        refine Gg.r_one Tryd.results20 hf rfl ?_
        exact ⟨rfl, hm.ev⟩
      · have h := Cin.cond_f hb3_ h
        refine Gg.sv (Gg.wantT' hf rfl rfl rfl hb3_ rfl) (Gg.y_move rfl (hf.g rfl)) hf rfl rfl ?_
        intro a hf
        refine Gg.sv (Gg.wantT' hf rfl rfl rfl hb3_ rfl) (Gg.y_eqI Tryd.underlying3 rfl (hf.g rfl) (Gg.ec _ _)) hf rfl rfl ?_
        intro a hf
        refine Gg.sv (Gg.wN rfl) (Gg.y_pickF' rfl (hf.g rfl) hb3_ (hf.g rfl)) hf rfl rfl ?_
        intro a hf
        refine Gg.sv (Gg.wN rfl) (Gg.y_assign rfl (hf.g rfl)) hf rfl rfl ?_
        intro a hf
        refine wpList_nil ?_
        have hf := hf.sub (l' := [(2, .bool (decide (op_ = 34)))]) ⟨rfl, trivial⟩
        refine hK2 _ _ ?_
        refine wp_ret ?_
        cases h
        refine Gg.r_one Tryd.results20 hf rfl ?_
        exact ⟨rfl, hm.ev⟩

set_option maxHeartbeats 4000000 in
set_option maxRecDepth 20000 in
theorem c_code_shape_size {X : List Nat} {W : World} {s_ : Int} {r : Int} (hX : ∀ k ∈ X, k < W.heap.size) (h : Cin.code_shape_size s_ = some r) :
    Calls Tryd.prog 17 [.int .i64 s_].toArray W (fun e w' => e = .returned (.int .i64 r) ∧ Gg.Ev [] W w') := by
  refine Gg.enter Tryd.func17 rfl Tryd.ntmps17 rfl ?_
  intro a hf
  have hm := Gg.St.start0 X W [] hX trivial
  rw [Cin.code_shape_size] at h
  refine wp_seq_k ?_
  intro K hK1
  refine Gg.c_region ?_
  refine Gg.sv (Gg.wN rfl) (Gg.y_assign rfl (Gg.ec _ _)) hf rfl rfl ?_
  intro a hf
  refine wpList_nil ?_
  refine hK1 _ _ ?_
  refine wp_seq_k ?_
  intro K hK2
  refine wp_seq_k ?_
  intro K hK3
  refine Gg.c_region ?_
  refine Gg.sv (Gg.wN rfl) (Gg.y_move rfl (hf.g rfl)) hf rfl rfl ?_
  intro a hf
  refine wpList_nil ?_
  refine hK3 _ _ ?_
  refine wp_block ?_
  refine wp_seq_k ?_
  intro K hK4
  refine Gg.c_region ?_
  refine Gg.sv (Gg.wN rfl) (Gg.y_eqI Tryd.underlying42 rfl (hf.g rfl) (Gg.ec _ _)) hf rfl rfl ?_
  intro a hf
  refine Gg.sv (Gg.wN rfl) (Gg.y_assign rfl (hf.g rfl)) hf rfl rfl ?_
  intro a hf
  refine wpList_nil ?_
  refine hK4 _ _ ?_
  refine Gg.c_cond (hf.g rfl) (fun hb1_ => ?_) (fun hb1_ => ?_)
  · have h := Cin.cond_t hb1_ h
    refine wp_seq_k ?_
    intro K hK5
    refine Gg.c_region ?_
    refine Gg.sv (Gg.wN rfl) (Gg.y_assign rfl (Gg.ec _ _)) hf rfl rfl ?_
    intro a hf
    refine wpList_nil ?_
    refine hK5 _ _ ?_
    refine wp_ret ?_
    cases h
    refine Gg.x_retB ?_
    refine Gg.x_retT ?_
    refine Gg.r_one Tryd.results17 hf rfl ?_
    exact ⟨rfl, hm.ev⟩
  · have h := Cin.cond_f hb1_ h
    refine wp_seq_k ?_
    intro K hK6
    refine Gg.c_region ?_
    refine Gg.sv (Gg.wN rfl) (Gg.y_eqI Tryd.underlying42 rfl (hf.g rfl) (Gg.ec _ _)) hf rfl rfl ?_
    intro a hf
    refine Gg.sv (Gg.wN rfl) (Gg.y_assign rfl (hf.g rfl)) hf rfl rfl ?_
    intro a hf
    refine wpList_nil ?_
    refine hK6 _ _ ?_
    refine Gg.c_cond (hf.g rfl) (fun hb2_ => ?_) (fun hb2_ => ?_)
    · have h := Cin.cond_t hb2_ h
      refine wp_seq_k ?_
      intro K hK7
      refine Gg.c_region ?_
      refine Gg.sv (Gg.wN rfl) (Gg.y_assign rfl (Gg.ec _ _)) hf rfl rfl ?_
      intro a hf
      refine wpList_nil ?_
      refine hK7 _ _ ?_
      refine wp_ret ?_
      cases h
      refine Gg.x_retB ?_
      refine Gg.x_retT ?_
      refine Gg.r_one Tryd.results17 hf rfl ?_
      exact ⟨rfl, hm.ev⟩
    · have h := Cin.cond_f hb2_ h
      refine wp_skip ?_
      refine hK2 _ _ ?_
      refine wp_seq_k ?_
      intro K hK8
      refine Gg.c_region ?_
      refine Gg.sv (Gg.wN rfl) (Gg.y_assign rfl (Gg.ec _ _)) hf rfl rfl ?_
      intro a hf
      refine wpList_nil ?_
      refine hK8 _ _ ?_
      refine wp_ret ?_
      cases h
      refine Gg.r_one Tryd.results17 hf rfl ?_
      exact ⟨rfl, hm.ev⟩

set_option maxHeartbeats 4000000 in
set_option maxRecDepth 20000 in
theorem c_code_Goes {X : List Nat} {W : World} {n_ : Int} {r : Bool} (hX : ∀ k ∈ X, k < W.heap.size) (h : Cin.code_Goes n_ = some r) (dg0 : (Gg.Dt.glob 0 [.int .i64 0, .int .i64 1, .int .i64 0, .int .i64 3, .int .i64 3, .int .i64 0, .int .i64 0, .int .i64 0, .int .i64 0, .int .i64 0, .int .i64 0, .int .i64 0, .int .i64 0, .int .i64 2, .int .i64 2, .int .i64 2, .int .i64 2, .int .i64 2, .int .i64 3, .int .i64 4, .int .i64 4, .int .i64 0, .int .i64 3, .int .i64 0, .int .i64 0, .int .i64 0, .int .i64 4, .int .i64 0, .int .i64 0, .int .i64 3, .int .i64 3, .int .i64 0, .int .i64 0, .int .i64 0, .int .i64 4, .int .i64 0, .int .i64 0]).ok X W) :
    Calls Tryd.prog 18 [.int .i64 n_].toArray W (fun e w' => e = .returned (.bool r) ∧ Gg.Ev [] W w') := by
  refine Gg.enter Tryd.func18 rfl Tryd.ntmps18 rfl ?_
  intro a hf
  have hm := Gg.St.start0 X W [Gg.Dt.glob 0 [.int .i64 0, .int .i64 1, .int .i64 0, .int .i64 3, .int .i64 3, .int .i64 0, .int .i64 0, .int .i64 0, .int .i64 0, .int .i64 0, .int .i64 0, .int .i64 0, .int .i64 0, .int .i64 2, .int .i64 2, .int .i64 2, .int .i64 2, .int .i64 2, .int .i64 3, .int .i64 4, .int .i64 4, .int .i64 0, .int .i64 3, .int .i64 0, .int .i64 0, .int .i64 0, .int .i64 4, .int .i64 0, .int .i64 0, .int .i64 3, .int .i64 3, .int .i64 0, .int .i64 0, .int .i64 0, .int .i64 4, .int .i64 0, .int .i64 0]] hX ⟨dg0, trivial⟩
  rw [Cin.code_Goes] at h
  refine wp_seq_k ?_
  intro K hK1
  refine Gg.c_region ?_
  refine Gg.sv (Gg.wN rfl) (Gg.y_assign rfl (Gg.ec _ _)) hf rfl rfl ?_
  intro a hf
  refine wpList_nil ?_
  refine hK1 _ _ ?_
  refine wp_seq_k ?_
  intro K hK2
  refine Gg.c_region ?_
  refine Gg.sv (Gg.wN rfl) (Gg.y_move rfl (hf.g rfl)) hf rfl rfl ?_
  intro a hf
  obtain ⟨r1_, hr2_, h⟩ := Cin.bind_s h
  refine Gg.sc (vs := [.int .i64 n_]) (Gg.wN rfl) rfl Tryd.call16 ⟨(hf.g rfl), trivial⟩ (c_code_IsOp hm.ltM hr2_ ) hf rfl rfl ?_
  rintro _ w ⟨rfl, hv⟩
  refine ⟨_, rfl, ?_⟩
  intro a hf
  have hm := hm.keep hv
  clear hv
  refine Gg.sv (Gg.wN rfl) (Gg.y_move rfl (hf.g rfl)) hf rfl rfl ?_
  intro a hf
  rcases Bool.eq_false_or_eq_true r1_ with hb3_ | hb3_
  · have h := Cin.cond_t hb3_ h
    refine Gg.sv (Gg.wantT' hf rfl rfl rfl hb3_ rfl) (Gg.y_move rfl (hf.g rfl)) hf rfl rfl ?_
    intro a hf
    obtain ⟨x4_, hx5_, h⟩ := Cin.bind_s h
    have hc6_ := Gg.glob_at (hm.d 0 rfl) hx5_
    refine Gg.sv (Gg.wantT' hf rfl rfl rfl hb3_ rfl) (Gg.y_idxG Tryd.underlying43 Tryd.sizeOf42 rfl (Gg.eg _ _) (hf.g rfl) rfl hx5_) hf rfl rfl ?_
    intro a hf
    refine Gg.sv (Gg.wantT' hf rfl rfl rfl hb3_ rfl) (Gg.y_load1 Tryd.isAgg42 rfl (hf.g rfl) (hc6_)) hf rfl rfl ?_
    intro a hf
    refine Gg.sv (Gg.wantT' hf rfl rfl rfl hb3_ rfl) (Gg.y_eqI Tryd.underlying42 rfl (hf.g rfl) (Gg.ec _ _)) hf rfl rfl ?_
    intro a hf
    refine Gg.sv (Gg.wN rfl) (Gg.y_pickT' rfl (hf.g rfl) hb3_ (hf.g rfl)) hf rfl rfl ?_
    intro a hf
    refine Gg.sv (Gg.wN rfl) (Gg.y_assign rfl (hf.g rfl)) hf rfl rfl ?_
    intro a hf
    refine wpList_nil ?_
    refine hK2 _ _ ?_
    refine wp_ret ?_
    cases h
    refine Gg.r_one Tryd.results18 hf rfl ?_
    exact ⟨rfl, hm.ev⟩
  · have h := Cin.cond_f hb3_ h
    refine Gg.ss (Gg.wantF' hf rfl rfl rfl hb3_ rfl rfl) hf rfl rfl ?_
    intro a hf
    refine Gg.ss (Gg.wantF' hf rfl rfl rfl hb3_ rfl rfl) hf rfl rfl ?_
    intro a hf
    refine Gg.ss (Gg.wantF' hf rfl rfl rfl hb3_ rfl rfl) hf rfl rfl ?_
    intro a hf
    refine Gg.ss (Gg.wantF' hf rfl rfl rfl hb3_ rfl rfl) hf rfl rfl ?_
    intro a hf
    refine Gg.sv (Gg.wN rfl) (Gg.y_pickF' rfl (hf.g rfl) hb3_ (Gg.ec _ _)) hf rfl rfl ?_
    intro a hf
    refine Gg.sv (Gg.wN rfl) (Gg.y_assign rfl (hf.g rfl)) hf rfl rfl ?_
    intro a hf
    refine wpList_nil ?_
    refine hK2 _ _ ?_
    refine wp_ret ?_
    cases h
    refine Gg.r_one Tryd.results18 hf rfl ?_
    exact ⟨rfl, hm.ev⟩

end Go.Proofs.YtcioldnpdkfeoaaDoor
