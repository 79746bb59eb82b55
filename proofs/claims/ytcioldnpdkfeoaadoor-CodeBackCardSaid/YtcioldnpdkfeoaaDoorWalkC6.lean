/- The walks of this group, made by program. -/
import Derived.Test.YtcioldnpdkfeoaaDoorWalkC5
import Derived.Test.YtcioldnpdkfeoaaDoorPureC6
import Derived.Test.YtcioldnpdkfeoaaDoorChecked
namespace Go.Proofs.YtcioldnpdkfeoaaDoor
open Go Go.RowKit
theorem eq_eql_Fault {o : Oper} {a : Act} {w : World} {t' : TypeId} {x y : Operand} {X Y : Cin.Fault} (ho : o.op = .binOp .eql 25 x y t') (hx : a.eval x = .agg #[.int .i64 X.Err, .int .i64 X.At]) (hy : a.eval y = .agg #[.int .i64 Y.Err, .int .i64 Y.At]) : Gg.Yv Tryd.prog o a w (.bool (decide (X = Y))) w := by
  have hd : decide (X = Y) = decide (X.Err = Y.Err ∧ X.At = Y.At ∧ True) := by cases X; cases Y; simp
  rw [hd]
  exact Gg.y_eqF Tryd.underlying25 (by kernel_rfl) (by kernel_rfl) (Gg.eqF_int rfl Tryd.underlying23 Tryd.isAgg23 rfl rfl (Gg.eqF_int rfl Tryd.underlying3 Tryd.isAgg3 rfl rfl (by simp [Gg.eqF_nil]))) ho hx hy
theorem eq_neq_Fault {o : Oper} {a : Act} {w : World} {t' : TypeId} {x y : Operand} {X Y : Cin.Fault} (ho : o.op = .binOp .neq 25 x y t') (hx : a.eval x = .agg #[.int .i64 X.Err, .int .i64 X.At]) (hy : a.eval y = .agg #[.int .i64 Y.Err, .int .i64 Y.At]) : Gg.Yv Tryd.prog o a w (.bool (!decide (X = Y))) w := by
  have hd : decide (X = Y) = decide (X.Err = Y.Err ∧ X.At = Y.At ∧ True) := by cases X; cases Y; simp
  rw [hd]
  exact Gg.y_neF Tryd.underlying25 (by kernel_rfl) (by kernel_rfl) (Gg.eqF_int rfl Tryd.underlying23 Tryd.isAgg23 rfl rfl (Gg.eqF_int rfl Tryd.underlying3 Tryd.isAgg3 rfl rfl (by simp [Gg.eqF_nil]))) ho hx hy
set_option maxHeartbeats 4000000 in
set_option maxRecDepth 20000 in
theorem c_L_textIs {X : List Nat} {W : World} {s_ : List UInt8} {e_ : Int} {w_ : Int} {want_ : List UInt8} {r : Bool} (hX : ∀ k ∈ X, k < W.heap.size) (h : Cin.L_textIs s_ e_ w_ want_ = some r) :
    Calls Tryd.prog 15 [Gg.Str s_, .int .i64 e_, .int .i64 w_, Gg.Str want_].toArray W (fun e w' => e = .returned (.bool r) ∧ Gg.Ev [] W w') := by
  refine Gg.enter Tryd.func15 rfl Tryd.ntmps15 rfl ?_
  intro a hf
  have hm := Gg.St.start0 X W [] hX trivial
  rw [Cin.L_textIs] at h
  refine wp_seq_k ?_
  intro K hK1
  refine Gg.c_region ?_
  refine Gg.sv (Gg.wN rfl) (Gg.y_assign rfl (Gg.ec _ _)) hf rfl rfl ?_
  intro a hf
  refine wpList_nil ?_
  refine hK1 _ _ ?_
  obtain ⟨j3_, hj3_, h⟩ := Cin.join_s h
  refine Gg.c_meet (fun a w => ∃ (s2_ : List UInt8), Gg.Fr 19 [(0, Gg.Str s_), (1, .int .i64 e_), (2, .int .i64 w_), (3, Gg.Str s2_)] a ∧ Gg.St W [] X w [] [] ∧ j3_ s2_ = some r) (fun K hK2 => ?_) ?_
  · clear hj3_
    refine wp_seq_k ?_
    intro K hK3
    refine Gg.c_region ?_
    refine Gg.sv (Gg.wN rfl) (Gg.y_move rfl (hf.g rfl)) hf rfl rfl ?_
    intro a hf
    refine Gg.sv (Gg.wN rfl) (Gg.y_neI Tryd.underlying23 rfl (hf.g rfl) (Gg.ec _ _)) hf rfl rfl ?_
    intro a hf
    refine wpList_nil ?_
    refine hK3 _ _ ?_
    refine Gg.c_cond (hf.g rfl) (fun hb4_ => ?_) (fun hb4_ => ?_)
    · have h := Cin.cond_t hb4_ h
      refine Gg.c_region ?_
      refine Gg.sv (Gg.wN rfl) (Gg.y_assign rfl (Gg.ec _ _)) hf rfl rfl ?_
      intro a hf
      refine wpList_nil ?_
      exact hK2 _ _ ⟨[], hf.sub ⟨rfl, rfl, rfl, rfl, trivial⟩, (hm).pick trivial, h⟩
    · have h := Cin.cond_f hb4_ h
      refine wp_skip ?_
      exact hK2 _ _ ⟨want_, hf.sub ⟨rfl, rfl, rfl, rfl, trivial⟩, (hm).pick trivial, h⟩
  · rintro a w ⟨s2_, hf, hm, h⟩
    subst hj3_
    try dsimp only at h
    refine wp_seq_k ?_
    intro K hK4
    refine Gg.c_region ?_
    refine Gg.sv (Gg.wN rfl) (Gg.y_move rfl (hf.g rfl)) hf rfl rfl ?_
    intro a hf
    refine Gg.sv (Gg.wN rfl) (Gg.y_move rfl (hf.g rfl)) hf rfl rfl ?_
    intro a hf
    refine Gg.sv (Gg.wN rfl) (Gg.y_eqI Tryd.underlying23 rfl (hf.g rfl) (hf.g rfl)) hf rfl rfl ?_
    intro a hf
    refine Gg.sv (Gg.wN rfl) (Gg.y_move rfl (hf.g rfl)) hf rfl rfl ?_
    intro a hf
    rcases Bool.eq_false_or_eq_true (decide (e_ = w_)) with hb5_ | hb5_
    · have h := Cin.cond_t hb5_ h
      refine Gg.sv (Gg.wantT' hf rfl rfl rfl hb5_ rfl) (Gg.y_move rfl (hf.g rfl)) hf rfl rfl ?_
      intro a hf
      refine Gg.sv (Gg.wantT' hf rfl rfl rfl hb5_ rfl) (Gg.y_move rfl (hf.g rfl)) hf rfl rfl ?_
      intro a hf
      refine Gg.sv (Gg.wantT' hf rfl rfl rfl hb5_ rfl) (Gg.y_eqS Tryd.underlying9 rfl (hf.g rfl) (hf.g rfl)) hf rfl rfl ?_
      intro a hf
      refine Gg.sv (Gg.wN rfl) (Gg.y_pickT' rfl (hf.g rfl) hb5_ (hf.g rfl)) hf rfl rfl ?_
      intro a hf
      refine Gg.sv (Gg.wN rfl) (Gg.y_assign rfl (hf.g rfl)) hf rfl rfl ?_
      intro a hf
      refine wpList_nil ?_
      refine hK4 _ _ ?_
      refine wp_ret ?_
      cases h
      refine Gg.r_one Tryd.results15 hf rfl ?_
      exact ⟨rfl, hm.ev⟩
    · have h := Cin.cond_f hb5_ h
      refine Gg.ss (Gg.wantF' hf rfl rfl rfl hb5_ rfl rfl) hf rfl rfl ?_
      intro a hf
      refine Gg.ss (Gg.wantF' hf rfl rfl rfl hb5_ rfl rfl) hf rfl rfl ?_
      intro a hf
      refine Gg.ss (Gg.wantF' hf rfl rfl rfl hb5_ rfl rfl) hf rfl rfl ?_
      intro a hf
      refine Gg.sv (Gg.wN rfl) (Gg.y_pickF' rfl (hf.g rfl) hb5_ (Gg.ec _ _)) hf rfl rfl ?_
      intro a hf
      refine Gg.sv (Gg.wN rfl) (Gg.y_assign rfl (hf.g rfl)) hf rfl rfl ?_
      intro a hf
      refine wpList_nil ?_
      refine hK4 _ _ ?_
      refine wp_ret ?_
      cases h
      refine Gg.r_one Tryd.results15 hf rfl ?_
      exact ⟨rfl, hm.ev⟩

set_option maxHeartbeats 4000000 in
set_option maxRecDepth 20000 in
theorem c_L_codeBegun {X : List Nat} {W : World} {F : Nat} {r : Bool} (hX : ∀ k ∈ X, k < W.heap.size) (h : Cin.L_codeBegun F = some r) (dg0 : (Gg.Dt.glob 0 [.int .i64 0, .int .i64 1, .int .i64 0, .int .i64 3, .int .i64 3, .int .i64 0, .int .i64 0, .int .i64 0, .int .i64 0, .int .i64 0, .int .i64 0, .int .i64 0, .int .i64 0, .int .i64 2, .int .i64 2, .int .i64 2, .int .i64 2, .int .i64 2, .int .i64 3, .int .i64 4, .int .i64 4, .int .i64 0, .int .i64 3, .int .i64 0, .int .i64 0, .int .i64 0, .int .i64 4, .int .i64 0, .int .i64 0, .int .i64 3, .int .i64 3, .int .i64 0, .int .i64 0, .int .i64 0, .int .i64 4, .int .i64 0, .int .i64 0]).ok X W) :
    Calls Tryd.prog 9 [].toArray W (fun e w' => e = .returned (.bool r) ∧ Gg.Ev [] W w') := by
  refine Gg.enter Tryd.func9 rfl Tryd.ntmps9 rfl ?_
  intro a hf
  have hm := Gg.St.start0 X W [Gg.Dt.glob 0 [.int .i64 0, .int .i64 1, .int .i64 0, .int .i64 3, .int .i64 3, .int .i64 0, .int .i64 0, .int .i64 0, .int .i64 0, .int .i64 0, .int .i64 0, .int .i64 0, .int .i64 0, .int .i64 2, .int .i64 2, .int .i64 2, .int .i64 2, .int .i64 2, .int .i64 3, .int .i64 4, .int .i64 4, .int .i64 0, .int .i64 3, .int .i64 0, .int .i64 0, .int .i64 0, .int .i64 4, .int .i64 0, .int .i64 0, .int .i64 3, .int .i64 3, .int .i64 0, .int .i64 0, .int .i64 0, .int .i64 4, .int .i64 0, .int .i64 0]] hX ⟨dg0, trivial⟩
  rw [Cin.L_codeBegun] at h
  refine wp_seq_k ?_
  intro K hK1
  refine Gg.c_region ?_
  refine Gg.sv (Gg.wN rfl) (Gg.y_assign rfl (Gg.ec _ _)) hf rfl rfl ?_
  intro a hf
  refine wpList_nil ?_
  refine hK1 _ _ ?_
  refine wp_seq_k ?_
  intro K hK2
  refine Gg.c_region ?_
  obtain ⟨r1_, hr2_, h⟩ := Cin.bind_s h
  refine Gg.sc (vs := [Gg.Str [1, 255, 254, 13, 0, 3]]) (Gg.wN rfl) rfl Tryd.call7 ⟨(Gg.ec _ _), trivial⟩ (c_code_Decode hm.ltM hr2_ (hm.d 0 rfl)) hf rfl rfl ?_
  rintro _ w ⟨A3_, c4_, rfl, hv, hd5_⟩
  refine ⟨_, rfl, ?_⟩
  intro a hf
  have hm := hm.keep hv
  clear hv
  have hm := hm.more (y := Gg.Dt.of (Gg.tySlice Cin.ty_Ins) [.slice A3_ r1_.1.length c4_] r1_.1) hd5_
  refine Gg.sv (Gg.wN rfl) (Gg.y_move rfl (hf.g rfl)) hf rfl rfl ?_
  intro a hf
  refine Gg.sv (Gg.wN rfl) (Gg.y_extract (vs := [.slice A3_ r1_.1.length c4_, .agg #[.int .i64 r1_.2.Err, .int .i64 r1_.2.At]]) rfl (hf.g rfl) rfl) hf rfl rfl ?_
  intro a hf
  refine Gg.sv (Gg.wN rfl) (Gg.y_extract (vs := [.slice A3_ r1_.1.length c4_, .agg #[.int .i64 r1_.2.Err, .int .i64 r1_.2.At]]) rfl (hf.g rfl) rfl) hf rfl rfl ?_
  intro a hf
  refine Gg.snew (cs := [.int .i64 0, .int .i64 0]) (Gg.wN rfl) (Gg.y_alloc Tryd.zeroValue25 rfl rfl) hf hm rfl rfl ?_
  intro a g6_ w hf hm
  refine Gg.sv (Gg.wN rfl) (Gg.y_assign rfl (hf.g rfl)) hf rfl rfl ?_
  intro a hf
  refine Gg.sst (vs := [.int .i64 r1_.2.Err, .int .i64 r1_.2.At]) 0 hm rfl (Gg.wN rfl) rfl Tryd.sizeOf25 rfl rfl rfl rfl (hf.g rfl) (hf.g rfl) rfl ?_
  intro w hm
  simp only [List.set, Gg.lay, List.drop, List.length, List.cons_append, List.nil_append] at hm
  refine wpList_nil ?_
  refine hK2 _ _ ?_
  refine wp_seq_k ?_
  intro K hK3
  refine Gg.c_region ?_
  refine Gg.sv (Gg.wN rfl) (Gg.y_move rfl (hf.g rfl)) hf rfl rfl ?_
  intro a hf
  obtain ⟨r7_, hr8_, h⟩ := Cin.bind_s h
  refine Gg.sc (vs := [.slice A3_ r1_.1.length c4_, .int .i64 3]) (Gg.wN rfl) rfl Tryd.call11 ⟨(hf.g rfl), (Gg.ec _ _), trivial⟩ (c_code_Place hm.ltM hr8_ (hm.d 0 rfl)) hf rfl rfl ?_
  rintro _ w ⟨rfl, hv⟩
  refine ⟨_, rfl, ?_⟩
  intro a hf
  have hm := hm.keep hv
  clear hv
  refine Gg.sv (Gg.wN rfl) (Gg.y_move rfl (hf.g rfl)) hf rfl rfl ?_
  intro a hf
  refine Gg.sv (Gg.wN rfl) (Gg.y_extract (vs := [.int .i64 r7_.1, .int .i64 r7_.2]) rfl (hf.g rfl) rfl) hf rfl rfl ?_
  intro a hf
  refine Gg.sv (Gg.wN rfl) (Gg.y_extract (vs := [.int .i64 r7_.1, .int .i64 r7_.2]) rfl (hf.g rfl) rfl) hf rfl rfl ?_
  intro a hf
  refine Gg.sv (Gg.wN rfl) (Gg.y_assign rfl (hf.g rfl)) hf rfl rfl ?_
  intro a hf
  refine Gg.sv (Gg.wN rfl) (Gg.y_assign rfl (hf.g rfl)) hf rfl rfl ?_
  intro a hf
  refine wpList_nil ?_
  refine hK3 _ _ ?_
  refine wp_seq_k ?_
  intro K hK4
  refine Gg.c_region ?_
  refine Gg.sv (Gg.wN rfl) (Gg.y_fld Tryd.underlying25 rfl Tryd.sizeOf23 rfl rfl (hf.g rfl)) hf rfl rfl ?_
  intro a hf
  refine Gg.sv (Gg.wN rfl) (Gg.y_load1 Tryd.isAgg23 rfl (hf.g rfl) (Gg.blk_cell (hm.e 0 rfl) (j := 0) rfl)) hf rfl rfl ?_
  intro a hf
  refine Gg.sv (Gg.wN rfl) (Gg.y_eqI Tryd.underlying23 rfl (hf.g rfl) (Gg.ec _ _)) hf rfl rfl ?_
  intro a hf
  refine Gg.sv (Gg.wN rfl) (Gg.y_move rfl (hf.g rfl)) hf rfl rfl ?_
  intro a hf
  rcases Bool.eq_false_or_eq_true (decide (r1_.2.Err = 0)) with hb9_ | hb9_
  · have h := Cin.cond_t hb9_ h
    refine Gg.sv (Gg.wantT' hf rfl rfl rfl hb9_ rfl) (Gg.y_move rfl (hf.g rfl)) hf rfl rfl ?_
    intro a hf
    refine Gg.sv (Gg.wantT' hf rfl rfl rfl hb9_ rfl) (Gg.y_eqI Tryd.underlying23 rfl (hf.g rfl) (Gg.ec _ _)) hf rfl rfl ?_
    intro a hf
    refine Gg.sv (Gg.wN rfl) (Gg.y_pickT' rfl (hf.g rfl) hb9_ (hf.g rfl)) hf rfl rfl ?_
    intro a hf
    refine Gg.sv (Gg.wN rfl) (Gg.y_move rfl (hf.g rfl)) hf rfl rfl ?_
    intro a hf
    rcases Bool.eq_false_or_eq_true (decide (r7_.2 = 0)) with hb10_ | hb10_
    · have h := Cin.cond_t hb10_ h
      refine Gg.sv (Gg.wantT' hf rfl rfl rfl hb10_ rfl) (Gg.y_move rfl (hf.g rfl)) hf rfl rfl ?_
      intro a hf
      refine Gg.sv (Gg.wantT' hf rfl rfl rfl hb10_ rfl) (Gg.y_len Tryd.underlying22 rfl (hf.g rfl)) hf rfl rfl ?_
      intro a hf
      refine Gg.sv (Gg.wantT' hf rfl rfl rfl hb10_ rfl) (Gg.y_eqI Tryd.underlying3 rfl (hf.g rfl) (Gg.ec _ _)) hf rfl rfl ?_
      intro a hf
      refine Gg.sv (Gg.wN rfl) (Gg.y_pickT' rfl (hf.g rfl) hb10_ (hf.g rfl)) hf rfl rfl ?_
      intro a hf
      refine Gg.sv (Gg.wN rfl) (Gg.y_move rfl (hf.g rfl)) hf rfl rfl ?_
      intro a hf
      rcases Bool.eq_false_or_eq_true (decide ((r1_.1.length : Int) = 2)) with hb11_ | hb11_
      · have h := Cin.cond_t hb11_ h
        refine Gg.sv (Gg.wantT' hf rfl rfl rfl hb11_ rfl) (Gg.y_move rfl (hf.g rfl)) hf rfl rfl ?_
        intro a hf
        obtain ⟨x12_, hx13_, h⟩ := Cin.bind_s h
        obtain ⟨hA14_, hi15_, _, rfl, hc16_⟩ := Gg.slice_at _ (hm.d 0 rfl) hx13_
        refine Gg.sv (Gg.wantT' hf rfl rfl rfl hb11_ rfl) (Gg.y_idx Tryd.underlying22 Tryd.sizeOf40 rfl (hf.g rfl) (Gg.ec _ _) hA14_ hi15_) hf rfl rfl ?_
        intro a hf
        refine Gg.sv (Gg.wantT' hf rfl rfl rfl hb11_ rfl) (Gg.y_fld Tryd.underlying40 rfl Tryd.sizeOf3 rfl rfl (hf.g rfl)) hf rfl rfl ?_
        intro a hf
        refine Gg.sv (Gg.wantT' hf rfl rfl rfl hb11_ rfl) (Gg.y_load1 Tryd.isAgg3 rfl (hf.g rfl) (hc16_ 2 _ rfl)) hf rfl rfl ?_
        intro a hf
        refine Gg.sv (Gg.wantT' hf rfl rfl rfl hb11_ rfl) (Gg.y_eqI Tryd.underlying3 rfl (hf.g rfl) (Gg.ec _ _)) hf rfl rfl ?_
        intro a hf
        refine Gg.sv (Gg.wN rfl) (Gg.y_pickT' rfl (hf.g rfl) hb11_ (hf.g rfl)) hf rfl rfl ?_
        intro a hf
        refine Gg.sv (Gg.wN rfl) (Gg.y_move rfl (hf.g rfl)) hf rfl rfl ?_
        intro a hf
        rcases Bool.eq_false_or_eq_true (decide (x12_.A = (-2))) with hb17_ | hb17_
        · have h := Cin.cond_t hb17_ h
          refine Gg.sv (Gg.wantT' hf rfl rfl rfl hb17_ rfl) (Gg.y_move rfl (hf.g rfl)) hf rfl rfl ?_
          intro a hf
          refine Gg.sv (Gg.wantT' hf rfl rfl rfl hb17_ rfl) (Gg.y_eqI Tryd.underlying3 rfl (hf.g rfl) (Gg.ec _ _)) hf rfl rfl ?_
          intro a hf
          refine Gg.sv (Gg.wN rfl) (Gg.y_pickT' rfl (hf.g rfl) hb17_ (hf.g rfl)) hf rfl rfl ?_
          intro a hf
          refine Gg.sv (Gg.wN rfl) (Gg.y_assign rfl (hf.g rfl)) hf rfl rfl ?_
          intro a hf
          refine wpList_nil ?_
          have hf := hf.sub (l' := [(0, .bool (decide (r7_.1 = 1)))]) ⟨rfl, trivial⟩
          refine hK4 _ _ ?_
          refine wp_ret ?_
          cases h
          refine Gg.r_one Tryd.results9 hf rfl ?_
          exact ⟨rfl, hm.ev⟩
        · have h := Cin.cond_f hb17_ h
          refine Gg.ss (Gg.wantF' hf rfl rfl rfl hb17_ rfl rfl) hf rfl rfl ?_
          intro a hf
          refine Gg.ss (Gg.wantF' hf rfl rfl rfl hb17_ rfl rfl) hf rfl rfl ?_
          intro a hf
          refine Gg.sv (Gg.wN rfl) (Gg.y_pickF' rfl (hf.g rfl) hb17_ (Gg.ec _ _)) hf rfl rfl ?_
          intro a hf
          refine Gg.sv (Gg.wN rfl) (Gg.y_assign rfl (hf.g rfl)) hf rfl rfl ?_
          intro a hf
          refine wpList_nil ?_
          have hf := hf.sub (l' := [(0, .bool false)]) ⟨rfl, trivial⟩
          refine hK4 _ _ ?_
          refine wp_ret ?_
          cases h
          refine Gg.r_one Tryd.results9 hf rfl ?_
          exact ⟨rfl, hm.ev⟩
      · have h := Cin.cond_f hb11_ h
        refine Gg.ss (Gg.wantF' hf rfl rfl rfl hb11_ rfl rfl) hf rfl rfl ?_
        intro a hf
        refine Gg.ss (Gg.wantF' hf rfl rfl rfl hb11_ rfl rfl) hf rfl rfl ?_
        intro a hf
        refine Gg.ss (Gg.wantF' hf rfl rfl rfl hb11_ rfl rfl) hf rfl rfl ?_
        intro a hf
        refine Gg.ss (Gg.wantF' hf rfl rfl rfl hb11_ rfl rfl) hf rfl rfl ?_
        intro a hf
        refine Gg.ss (Gg.wantF' hf rfl rfl rfl hb11_ rfl rfl) hf rfl rfl ?_
        intro a hf
        refine Gg.sv (Gg.wN rfl) (Gg.y_pickF' rfl (hf.g rfl) hb11_ (Gg.ec _ _)) hf rfl rfl ?_
        intro a hf
        refine Gg.sv (Gg.wN rfl) (Gg.y_move rfl (hf.g rfl)) hf rfl rfl ?_
        intro a hf
        refine Gg.ss (Gg.wantF hf rfl rfl rfl rfl rfl) hf rfl rfl ?_
        intro a hf
        refine Gg.ss (Gg.wantF hf rfl rfl rfl rfl rfl) hf rfl rfl ?_
        intro a hf
        refine Gg.sv (Gg.wN rfl) (Gg.y_pickF' rfl (hf.g rfl) rfl (Gg.ec _ _)) hf rfl rfl ?_
        intro a hf
        refine Gg.sv (Gg.wN rfl) (Gg.y_assign rfl (hf.g rfl)) hf rfl rfl ?_
        intro a hf
        refine wpList_nil ?_
        have hf := hf.sub (l' := [(0, .bool false)]) ⟨rfl, trivial⟩
        refine hK4 _ _ ?_
        refine wp_ret ?_
        cases h
        refine Gg.r_one Tryd.results9 hf rfl ?_
        exact ⟨rfl, hm.ev⟩
    · have h := Cin.cond_f hb10_ h
      refine Gg.ss (Gg.wantF' hf rfl rfl rfl hb10_ rfl rfl) hf rfl rfl ?_
      intro a hf
      refine Gg.ss (Gg.wantF' hf rfl rfl rfl hb10_ rfl rfl) hf rfl rfl ?_
      intro a hf
      refine Gg.ss (Gg.wantF' hf rfl rfl rfl hb10_ rfl rfl) hf rfl rfl ?_
      intro a hf
      refine Gg.sv (Gg.wN rfl) (Gg.y_pickF' rfl (hf.g rfl) hb10_ (Gg.ec _ _)) hf rfl rfl ?_
      intro a hf
      refine Gg.sv (Gg.wN rfl) (Gg.y_move rfl (hf.g rfl)) hf rfl rfl ?_
      intro a hf
      refine Gg.ss (Gg.wantF hf rfl rfl rfl rfl rfl) hf rfl rfl ?_
      intro a hf
      refine Gg.ss (Gg.wantF hf rfl rfl rfl rfl rfl) hf rfl rfl ?_
      intro a hf
      refine Gg.ss (Gg.wantF hf rfl rfl rfl rfl rfl) hf rfl rfl ?_
      intro a hf
      refine Gg.ss (Gg.wantF hf rfl rfl rfl rfl rfl) hf rfl rfl ?_
      intro a hf
      refine Gg.ss (Gg.wantF hf rfl rfl rfl rfl rfl) hf rfl rfl ?_
      intro a hf
      refine Gg.sv (Gg.wN rfl) (Gg.y_pickF' rfl (hf.g rfl) rfl (Gg.ec _ _)) hf rfl rfl ?_
      intro a hf
      refine Gg.sv (Gg.wN rfl) (Gg.y_move rfl (hf.g rfl)) hf rfl rfl ?_
      intro a hf
      refine Gg.ss (Gg.wantF hf rfl rfl rfl rfl rfl) hf rfl rfl ?_
      intro a hf
      refine Gg.ss (Gg.wantF hf rfl rfl rfl rfl rfl) hf rfl rfl ?_
      intro a hf
      refine Gg.sv (Gg.wN rfl) (Gg.y_pickF' rfl (hf.g rfl) rfl (Gg.ec _ _)) hf rfl rfl ?_
      intro a hf
      refine Gg.sv (Gg.wN rfl) (Gg.y_assign rfl (hf.g rfl)) hf rfl rfl ?_
      intro a hf
      refine wpList_nil ?_
      have hf := hf.sub (l' := [(0, .bool false)]) ⟨rfl, trivial⟩
      refine hK4 _ _ ?_
      refine wp_ret ?_
      cases h
      refine Gg.r_one Tryd.results9 hf rfl ?_
      exact ⟨rfl, hm.ev⟩
  · have h := Cin.cond_f hb9_ h
    refine Gg.ss (Gg.wantF' hf rfl rfl rfl hb9_ rfl rfl) hf rfl rfl ?_
    intro a hf
    refine Gg.ss (Gg.wantF' hf rfl rfl rfl hb9_ rfl rfl) hf rfl rfl ?_
    intro a hf
    refine Gg.sv (Gg.wN rfl) (Gg.y_pickF' rfl (hf.g rfl) hb9_ (Gg.ec _ _)) hf rfl rfl ?_
    intro a hf
    refine Gg.sv (Gg.wN rfl) (Gg.y_move rfl (hf.g rfl)) hf rfl rfl ?_
    intro a hf
    refine Gg.ss (Gg.wantF hf rfl rfl rfl rfl rfl) hf rfl rfl ?_
    intro a hf
    refine Gg.ss (Gg.wantF hf rfl rfl rfl rfl rfl) hf rfl rfl ?_
    intro a hf
    refine Gg.ss (Gg.wantF hf rfl rfl rfl rfl rfl) hf rfl rfl ?_
    intro a hf
    refine Gg.sv (Gg.wN rfl) (Gg.y_pickF' rfl (hf.g rfl) rfl (Gg.ec _ _)) hf rfl rfl ?_
    intro a hf
    refine Gg.sv (Gg.wN rfl) (Gg.y_move rfl (hf.g rfl)) hf rfl rfl ?_
    intro a hf
    refine Gg.ss (Gg.wantF hf rfl rfl rfl rfl rfl) hf rfl rfl ?_
    intro a hf
    refine Gg.ss (Gg.wantF hf rfl rfl rfl rfl rfl) hf rfl rfl ?_
    intro a hf
    refine Gg.ss (Gg.wantF hf rfl rfl rfl rfl rfl) hf rfl rfl ?_
    intro a hf
    refine Gg.ss (Gg.wantF hf rfl rfl rfl rfl rfl) hf rfl rfl ?_
    intro a hf
    refine Gg.ss (Gg.wantF hf rfl rfl rfl rfl rfl) hf rfl rfl ?_
    intro a hf
    refine Gg.sv (Gg.wN rfl) (Gg.y_pickF' rfl (hf.g rfl) rfl (Gg.ec _ _)) hf rfl rfl ?_
    intro a hf
    refine Gg.sv (Gg.wN rfl) (Gg.y_move rfl (hf.g rfl)) hf rfl rfl ?_
    intro a hf
    refine Gg.ss (Gg.wantF hf rfl rfl rfl rfl rfl) hf rfl rfl ?_
    intro a hf
    refine Gg.ss (Gg.wantF hf rfl rfl rfl rfl rfl) hf rfl rfl ?_
    intro a hf
    refine Gg.sv (Gg.wN rfl) (Gg.y_pickF' rfl (hf.g rfl) rfl (Gg.ec _ _)) hf rfl rfl ?_
    intro a hf
    refine Gg.sv (Gg.wN rfl) (Gg.y_assign rfl (hf.g rfl)) hf rfl rfl ?_
    intro a hf
    refine wpList_nil ?_
    have hf := hf.sub (l' := [(0, .bool false)]) ⟨rfl, trivial⟩
    refine hK4 _ _ ?_
    refine wp_ret ?_
    cases h
    refine Gg.r_one Tryd.results9 hf rfl ?_
    exact ⟨rfl, hm.ev⟩

set_option maxHeartbeats 4000000 in
set_option maxRecDepth 20000 in
theorem c_L_CodePlaces {X : List Nat} {W : World} {F : Nat} {l_ : List Cin.Ins} {at_ : Int} {r : Bool} {A1_ : Option Addr} {c2_ : Nat} (hX : ∀ k ∈ X, k < W.heap.size) (h : Cin.L_CodePlaces F l_ at_ = some r) (dg0 : (Gg.Dt.glob 0 [.int .i64 0, .int .i64 1, .int .i64 0, .int .i64 3, .int .i64 3, .int .i64 0, .int .i64 0, .int .i64 0, .int .i64 0, .int .i64 0, .int .i64 0, .int .i64 0, .int .i64 0, .int .i64 2, .int .i64 2, .int .i64 2, .int .i64 2, .int .i64 2, .int .i64 3, .int .i64 4, .int .i64 4, .int .i64 0, .int .i64 3, .int .i64 0, .int .i64 0, .int .i64 0, .int .i64 4, .int .i64 0, .int .i64 0, .int .i64 3, .int .i64 3, .int .i64 0, .int .i64 0, .int .i64 0, .int .i64 4, .int .i64 0, .int .i64 0]).ok X W) (d2 : (Gg.Dt.of (Gg.tySlice Cin.ty_Ins) [.slice A1_ l_.length c2_] l_).ok X W) :
    Calls Tryd.prog 4 [.slice A1_ l_.length c2_, .int .i64 at_].toArray W (fun e w' => e = .returned (.bool r) ∧ Gg.Ev [] W w') := by
  refine Gg.enter Tryd.func4 rfl Tryd.ntmps4 rfl ?_
  intro a hf
  have hm := Gg.St.start0 X W [Gg.Dt.glob 0 [.int .i64 0, .int .i64 1, .int .i64 0, .int .i64 3, .int .i64 3, .int .i64 0, .int .i64 0, .int .i64 0, .int .i64 0, .int .i64 0, .int .i64 0, .int .i64 0, .int .i64 0, .int .i64 2, .int .i64 2, .int .i64 2, .int .i64 2, .int .i64 2, .int .i64 3, .int .i64 4, .int .i64 4, .int .i64 0, .int .i64 3, .int .i64 0, .int .i64 0, .int .i64 0, .int .i64 4, .int .i64 0, .int .i64 0, .int .i64 3, .int .i64 3, .int .i64 0, .int .i64 0, .int .i64 0, .int .i64 4, .int .i64 0, .int .i64 0], Gg.Dt.of (Gg.tySlice Cin.ty_Ins) [.slice A1_ l_.length c2_] l_] hX ⟨dg0, d2, trivial⟩
  rw [Cin.L_CodePlaces] at h
  refine wp_seq_k ?_
  intro K hK1
  refine Gg.c_region ?_
  refine Gg.sv (Gg.wN rfl) (Gg.y_assign rfl (Gg.ec _ _)) hf rfl rfl ?_
  intro a hf
  refine wpList_nil ?_
  refine hK1 _ _ ?_
  refine wp_seq_k ?_
  intro K hK2
  refine Gg.c_region ?_
  refine Gg.sv (Gg.wN rfl) (Gg.y_move rfl (hf.g rfl)) hf rfl rfl ?_
  intro a hf
  refine Gg.sv (Gg.wN rfl) (Gg.y_move rfl (hf.g rfl)) hf rfl rfl ?_
  intro a hf
  obtain ⟨r3_, hr4_, h⟩ := Cin.bind_s h
  refine Gg.sc (vs := [.slice A1_ l_.length c2_, .int .i64 at_]) (Gg.wN rfl) rfl Tryd.call11 ⟨(hf.g rfl), (hf.g rfl), trivial⟩ (c_code_Place hm.ltM hr4_ (hm.d 1 rfl)) hf rfl rfl ?_
  rintro _ w ⟨rfl, hv⟩
  refine ⟨_, rfl, ?_⟩
  intro a hf
  have hm := hm.keep hv
  clear hv
  refine Gg.sv (Gg.wN rfl) (Gg.y_move rfl (hf.g rfl)) hf rfl rfl ?_
  intro a hf
  refine Gg.sv (Gg.wN rfl) (Gg.y_extract (vs := [.int .i64 r3_.1, .int .i64 r3_.2]) rfl (hf.g rfl) rfl) hf rfl rfl ?_
  intro a hf
  refine Gg.sv (Gg.wN rfl) (Gg.y_extract (vs := [.int .i64 r3_.1, .int .i64 r3_.2]) rfl (hf.g rfl) rfl) hf rfl rfl ?_
  intro a hf
  refine Gg.sv (Gg.wN rfl) (Gg.y_assign rfl (hf.g rfl)) hf rfl rfl ?_
  intro a hf
  refine Gg.sv (Gg.wN rfl) (Gg.y_assign rfl (hf.g rfl)) hf rfl rfl ?_
  intro a hf
  refine wpList_nil ?_
  refine hK2 _ _ ?_
  refine wp_seq_k ?_
  intro K hK3
  refine Gg.c_region ?_
  refine Gg.sv (Gg.wN rfl) (Gg.y_move rfl (hf.g rfl)) hf rfl rfl ?_
  intro a hf
  refine Gg.sv (Gg.wN rfl) (Gg.y_move rfl (hf.g rfl)) hf rfl rfl ?_
  intro a hf
  obtain ⟨r5_, hr6_, h⟩ := Cin.bind_s h
  refine Gg.sc (vs := [.slice A1_ l_.length c2_, .int .i64 at_]) (Gg.wN rfl) rfl Tryd.call12 ⟨(hf.g rfl), (hf.g rfl), trivial⟩ (c_R_PlaceOf hm.ltM hr6_ (hm.d 1 rfl)) hf rfl rfl ?_
  rintro _ w ⟨rfl, hv⟩
  refine ⟨_, rfl, ?_⟩
  intro a hf
  have hm := hm.keep hv
  clear hv
  refine Gg.sv (Gg.wN rfl) (Gg.y_assign rfl (hf.g rfl)) hf rfl rfl ?_
  intro a hf
  refine Gg.sv (Gg.wN rfl) (Gg.y_assign rfl (Gg.ec _ _)) hf rfl rfl ?_
  intro a hf
  refine wpList_nil ?_
  have hf := hf.sub (l' := [(5, .int .i64 r3_.1), (6, .int .i64 r3_.2), (7, .int .i64 r5_), (8, .int .i64 0)]) ⟨rfl, rfl, rfl, rfl, trivial⟩
  refine hK3 _ _ ?_
  obtain ⟨j10_, hj10_, h⟩ := Cin.join_s h
  refine Gg.c_meet (fun a w => ∃ (n8_ : Int) (n9_ : Int), Gg.Fr 31 [(5, .int .i64 r3_.1), (6, .int .i64 r3_.2), (7, .int .i64 n8_), (8, .int .i64 n9_)] a ∧ Gg.St W [] X w [] [Gg.Dt.glob 0 [.int .i64 0, .int .i64 1, .int .i64 0, .int .i64 3, .int .i64 3, .int .i64 0, .int .i64 0, .int .i64 0, .int .i64 0, .int .i64 0, .int .i64 0, .int .i64 0, .int .i64 0, .int .i64 2, .int .i64 2, .int .i64 2, .int .i64 2, .int .i64 2, .int .i64 3, .int .i64 4, .int .i64 4, .int .i64 0, .int .i64 3, .int .i64 0, .int .i64 0, .int .i64 0, .int .i64 4, .int .i64 0, .int .i64 0, .int .i64 3, .int .i64 3, .int .i64 0, .int .i64 0, .int .i64 0, .int .i64 4, .int .i64 0, .int .i64 0], Gg.Dt.of (Gg.tySlice Cin.ty_Ins) [.slice A1_ l_.length c2_] l_] ∧ j10_ n8_ n9_ = some r) (fun K hK4 => ?_) ?_
  · clear hj10_
    refine wp_seq_k ?_
    intro K hK5
    refine Gg.c_region ?_
    refine Gg.sv (Gg.wN rfl) (Gg.y_move rfl (hf.g rfl)) hf rfl rfl ?_
    intro a hf
    refine Gg.sv (Gg.wN rfl) (Gg.y_lss rfl (hf.g rfl) (Gg.ec _ _)) hf rfl rfl ?_
    intro a hf
    refine wpList_nil ?_
    refine hK5 _ _ ?_
    refine Gg.c_cond (hf.g rfl) (fun hb11_ => ?_) (fun hb11_ => ?_)
    · have h := Cin.cond_t hb11_ h
      refine Gg.c_region ?_
      refine Gg.sv (Gg.wN rfl) (Gg.y_assign rfl (Gg.ec _ _)) hf rfl rfl ?_
      intro a hf
      refine Gg.sv (Gg.wN rfl) (Gg.y_assign rfl (Gg.ec _ _)) hf rfl rfl ?_
      intro a hf
      refine wpList_nil ?_
      exact hK4 _ _ ⟨0, 5, hf.sub ⟨rfl, rfl, rfl, rfl, trivial⟩, (hm).pick ⟨⟨0, rfl⟩, ⟨1, rfl⟩, trivial⟩, h⟩
    · have h := Cin.cond_f hb11_ h
      refine wp_skip ?_
      exact hK4 _ _ ⟨r5_, 0, hf.sub ⟨rfl, rfl, rfl, rfl, trivial⟩, (hm).pick ⟨⟨0, rfl⟩, ⟨1, rfl⟩, trivial⟩, h⟩
  · rintro a w ⟨n8_, n9_, hf, hm, h⟩
    subst hj10_
    try dsimp only at h
    refine wp_seq_k ?_
    intro K hK6
    refine Gg.c_region ?_
    obtain ⟨r12_, hr13_, h⟩ := Cin.bind_s h
    refine Gg.sc (vs := []) (Gg.wN rfl) rfl Tryd.call9 trivial (c_L_codeBegun hm.ltM hr13_ (hm.d 0 rfl)) hf rfl rfl ?_
    rintro _ w ⟨rfl, hv⟩
    refine ⟨_, rfl, ?_⟩
    intro a hf
    have hm := hm.keep hv
    clear hv
    refine Gg.sv (Gg.wN rfl) (Gg.y_move rfl (hf.g rfl)) hf rfl rfl ?_
    intro a hf
    rcases Bool.eq_false_or_eq_true r12_ with hb14_ | hb14_
    · have h := Cin.cond_t hb14_ h
      refine Gg.sv (Gg.wantT' hf rfl rfl rfl hb14_ rfl) (Gg.y_move rfl (hf.g rfl)) hf rfl rfl ?_
      intro a hf
      refine Gg.sv (Gg.wantT' hf rfl rfl rfl hb14_ rfl) (Gg.y_move rfl (hf.g rfl)) hf rfl rfl ?_
      intro a hf
      refine Gg.sv (Gg.wantT' hf rfl rfl rfl hb14_ rfl) (Gg.y_eqI Tryd.underlying23 rfl (hf.g rfl) (hf.g rfl)) hf rfl rfl ?_
      intro a hf
      refine Gg.sv (Gg.wN rfl) (Gg.y_pickT' rfl (hf.g rfl) hb14_ (hf.g rfl)) hf rfl rfl ?_
      intro a hf
      refine Gg.sv (Gg.wN rfl) (Gg.y_move rfl (hf.g rfl)) hf rfl rfl ?_
      intro a hf
      rcases Bool.eq_false_or_eq_true (decide (r3_.2 = n9_)) with hb15_ | hb15_
      · have h := Cin.cond_t hb15_ h
        refine Gg.sv (Gg.wantT' hf rfl rfl rfl hb15_ rfl) (Gg.y_move rfl (hf.g rfl)) hf rfl rfl ?_
        intro a hf
        refine Gg.sv (Gg.wantT' hf rfl rfl rfl hb15_ rfl) (Gg.y_move rfl (hf.g rfl)) hf rfl rfl ?_
        intro a hf
        refine Gg.sv (Gg.wantT' hf rfl rfl rfl hb15_ rfl) (Gg.y_eqI Tryd.underlying3 rfl (hf.g rfl) (hf.g rfl)) hf rfl rfl ?_
        intro a hf
        refine Gg.sv (Gg.wN rfl) (Gg.y_pickT' rfl (hf.g rfl) hb15_ (hf.g rfl)) hf rfl rfl ?_
        intro a hf
        refine Gg.sv (Gg.wN rfl) (Gg.y_assign rfl (hf.g rfl)) hf rfl rfl ?_
        intro a hf
        refine wpList_nil ?_
        have hf := hf.sub (l' := [(4, .bool (decide (r3_.1 = n8_)))]) ⟨rfl, trivial⟩
        refine hK6 _ _ ?_
        refine wp_ret ?_
        cases h
        refine Gg.r_one Tryd.results4 hf rfl ?_
        exact ⟨rfl, hm.ev⟩
      · have h := Cin.cond_f hb15_ h
        refine Gg.ss (Gg.wantF' hf rfl rfl rfl hb15_ rfl rfl) hf rfl rfl ?_
        intro a hf
        refine Gg.ss (Gg.wantF' hf rfl rfl rfl hb15_ rfl rfl) hf rfl rfl ?_
        intro a hf
        refine Gg.ss (Gg.wantF' hf rfl rfl rfl hb15_ rfl rfl) hf rfl rfl ?_
        intro a hf
        refine Gg.sv (Gg.wN rfl) (Gg.y_pickF' rfl (hf.g rfl) hb15_ (Gg.ec _ _)) hf rfl rfl ?_
        intro a hf
        refine Gg.sv (Gg.wN rfl) (Gg.y_assign rfl (hf.g rfl)) hf rfl rfl ?_
        intro a hf
        refine wpList_nil ?_
        have hf := hf.sub (l' := [(4, .bool false)]) ⟨rfl, trivial⟩
        refine hK6 _ _ ?_
        refine wp_ret ?_
        cases h
        refine Gg.r_one Tryd.results4 hf rfl ?_
        exact ⟨rfl, hm.ev⟩
    · have h := Cin.cond_f hb14_ h
      refine Gg.ss (Gg.wantF' hf rfl rfl rfl hb14_ rfl rfl) hf rfl rfl ?_
      intro a hf
      refine Gg.ss (Gg.wantF' hf rfl rfl rfl hb14_ rfl rfl) hf rfl rfl ?_
      intro a hf
      refine Gg.ss (Gg.wantF' hf rfl rfl rfl hb14_ rfl rfl) hf rfl rfl ?_
      intro a hf
      refine Gg.sv (Gg.wN rfl) (Gg.y_pickF' rfl (hf.g rfl) hb14_ (Gg.ec _ _)) hf rfl rfl ?_
      intro a hf
      refine Gg.sv (Gg.wN rfl) (Gg.y_move rfl (hf.g rfl)) hf rfl rfl ?_
      intro a hf
      refine Gg.ss (Gg.wantF hf rfl rfl rfl rfl rfl) hf rfl rfl ?_
      intro a hf
      refine Gg.ss (Gg.wantF hf rfl rfl rfl rfl rfl) hf rfl rfl ?_
      intro a hf
      refine Gg.ss (Gg.wantF hf rfl rfl rfl rfl rfl) hf rfl rfl ?_
      intro a hf
      refine Gg.sv (Gg.wN rfl) (Gg.y_pickF' rfl (hf.g rfl) rfl (Gg.ec _ _)) hf rfl rfl ?_
      intro a hf
      refine Gg.sv (Gg.wN rfl) (Gg.y_assign rfl (hf.g rfl)) hf rfl rfl ?_
      intro a hf
      refine wpList_nil ?_
      have hf := hf.sub (l' := [(4, .bool false)]) ⟨rfl, trivial⟩
      refine hK6 _ _ ?_
      refine wp_ret ?_
      cases h
      refine Gg.r_one Tryd.results4 hf rfl ?_
      exact ⟨rfl, hm.ev⟩

set_option maxHeartbeats 4000000 in
set_option maxRecDepth 20000 in
theorem c_L_CodeEncodes {X : List Nat} {W : World} {F : Nat} {l_ : List Cin.Ins} {r : Bool} {A1_ : Option Addr} {c2_ : Nat} (hX : ∀ k ∈ X, k < W.heap.size) (h : Cin.L_CodeEncodes F l_ = some r) (dg0 : (Gg.Dt.glob 0 [.int .i64 0, .int .i64 1, .int .i64 0, .int .i64 3, .int .i64 3, .int .i64 0, .int .i64 0, .int .i64 0, .int .i64 0, .int .i64 0, .int .i64 0, .int .i64 0, .int .i64 0, .int .i64 2, .int .i64 2, .int .i64 2, .int .i64 2, .int .i64 2, .int .i64 3, .int .i64 4, .int .i64 4, .int .i64 0, .int .i64 3, .int .i64 0, .int .i64 0, .int .i64 0, .int .i64 4, .int .i64 0, .int .i64 0, .int .i64 3, .int .i64 3, .int .i64 0, .int .i64 0, .int .i64 0, .int .i64 4, .int .i64 0, .int .i64 0]).ok X W) (d2 : (Gg.Dt.of (Gg.tySlice Cin.ty_Ins) [.slice A1_ l_.length c2_] l_).ok X W) :
    Calls Tryd.prog 5 [.slice A1_ l_.length c2_].toArray W (fun e w' => e = .returned (.bool r) ∧ Gg.Ev [] W w') := by
  refine Gg.enter Tryd.func5 rfl Tryd.ntmps5 rfl ?_
  intro a hf
  have hm := Gg.St.start0 X W [Gg.Dt.glob 0 [.int .i64 0, .int .i64 1, .int .i64 0, .int .i64 3, .int .i64 3, .int .i64 0, .int .i64 0, .int .i64 0, .int .i64 0, .int .i64 0, .int .i64 0, .int .i64 0, .int .i64 0, .int .i64 2, .int .i64 2, .int .i64 2, .int .i64 2, .int .i64 2, .int .i64 3, .int .i64 4, .int .i64 4, .int .i64 0, .int .i64 3, .int .i64 0, .int .i64 0, .int .i64 0, .int .i64 4, .int .i64 0, .int .i64 0, .int .i64 3, .int .i64 3, .int .i64 0, .int .i64 0, .int .i64 0, .int .i64 4, .int .i64 0, .int .i64 0], Gg.Dt.of (Gg.tySlice Cin.ty_Ins) [.slice A1_ l_.length c2_] l_] hX ⟨dg0, d2, trivial⟩
  rw [Cin.L_CodeEncodes] at h
  refine wp_seq_k ?_
  intro K hK1
  refine Gg.c_region ?_
  refine Gg.sv (Gg.wN rfl) (Gg.y_assign rfl (Gg.ec _ _)) hf rfl rfl ?_
  intro a hf
  refine wpList_nil ?_
  refine hK1 _ _ ?_
  refine wp_seq_k ?_
  intro K hK2
  refine Gg.c_region ?_
  refine Gg.sv (Gg.wN rfl) (Gg.y_move rfl (hf.g rfl)) hf rfl rfl ?_
  intro a hf
  obtain ⟨r3_, hr4_, h⟩ := Cin.bind_s h
  refine Gg.sc (vs := [.slice A1_ l_.length c2_]) (Gg.wN rfl) rfl Tryd.call13 ⟨(hf.g rfl), trivial⟩ (c_code_Encode hm.ltM hr4_ (hm.d 0 rfl) (hm.d 1 rfl)) hf rfl rfl ?_
  rintro _ w ⟨rfl, hv⟩
  refine ⟨_, rfl, ?_⟩
  intro a hf
  have hm := hm.keep hv
  clear hv
  refine Gg.sv (Gg.wN rfl) (Gg.y_move rfl (hf.g rfl)) hf rfl rfl ?_
  intro a hf
  refine Gg.sv (Gg.wN rfl) (Gg.y_extract (vs := [Gg.Str r3_.1, .int .i64 r3_.2]) rfl (hf.g rfl) rfl) hf rfl rfl ?_
  intro a hf
  refine Gg.sv (Gg.wN rfl) (Gg.y_extract (vs := [Gg.Str r3_.1, .int .i64 r3_.2]) rfl (hf.g rfl) rfl) hf rfl rfl ?_
  intro a hf
  refine Gg.sv (Gg.wN rfl) (Gg.y_assign rfl (hf.g rfl)) hf rfl rfl ?_
  intro a hf
  refine Gg.sv (Gg.wN rfl) (Gg.y_assign rfl (hf.g rfl)) hf rfl rfl ?_
  intro a hf
  refine wpList_nil ?_
  refine hK2 _ _ ?_
  refine wp_seq_k ?_
  intro K hK3
  refine Gg.c_region ?_
  refine Gg.sv (Gg.wN rfl) (Gg.y_move rfl (hf.g rfl)) hf rfl rfl ?_
  intro a hf
  obtain ⟨r5_, hr6_, h⟩ := Cin.bind_s h
  refine Gg.sc (vs := [.slice A1_ l_.length c2_]) (Gg.wN rfl) rfl Tryd.call14 ⟨(hf.g rfl), trivial⟩ (c_R_CodeOf hm.ltM hr6_ (hm.d 1 rfl)) hf rfl rfl ?_
  rintro _ w ⟨rfl, hv⟩
  refine ⟨_, rfl, ?_⟩
  intro a hf
  have hm := hm.keep hv
  clear hv
  refine Gg.sv (Gg.wN rfl) (Gg.y_move rfl (hf.g rfl)) hf rfl rfl ?_
  intro a hf
  refine Gg.sv (Gg.wN rfl) (Gg.y_extract (vs := [Gg.Str r5_.1, .int .i64 r5_.2]) rfl (hf.g rfl) rfl) hf rfl rfl ?_
  intro a hf
  refine Gg.sv (Gg.wN rfl) (Gg.y_extract (vs := [Gg.Str r5_.1, .int .i64 r5_.2]) rfl (hf.g rfl) rfl) hf rfl rfl ?_
  intro a hf
  refine Gg.sv (Gg.wN rfl) (Gg.y_assign rfl (hf.g rfl)) hf rfl rfl ?_
  intro a hf
  refine Gg.sv (Gg.wN rfl) (Gg.y_assign rfl (hf.g rfl)) hf rfl rfl ?_
  intro a hf
  refine wpList_nil ?_
  have hf := hf.sub (l' := [(3, Gg.Str r3_.1), (4, .int .i64 r3_.2), (5, Gg.Str r5_.1), (6, .int .i64 r5_.2)]) ⟨rfl, rfl, rfl, rfl, trivial⟩
  refine hK3 _ _ ?_
  refine wp_seq_k ?_
  intro K hK4
  refine Gg.c_region ?_
  obtain ⟨r7_, hr8_, h⟩ := Cin.bind_s h
  refine Gg.sc (vs := []) (Gg.wN rfl) rfl Tryd.call9 trivial (c_L_codeBegun hm.ltM hr8_ (hm.d 0 rfl)) hf rfl rfl ?_
  rintro _ w ⟨rfl, hv⟩
  refine ⟨_, rfl, ?_⟩
  intro a hf
  have hm := hm.keep hv
  clear hv
  refine Gg.sv (Gg.wN rfl) (Gg.y_move rfl (hf.g rfl)) hf rfl rfl ?_
  intro a hf
  rcases Bool.eq_false_or_eq_true r7_ with hb9_ | hb9_
  · have h := Cin.cond_t hb9_ h
    refine Gg.sv (Gg.wantT' hf rfl rfl rfl hb9_ rfl) (Gg.y_move rfl (hf.g rfl)) hf rfl rfl ?_
    intro a hf
    refine Gg.sv (Gg.wantT' hf rfl rfl rfl hb9_ rfl) (Gg.y_move rfl (hf.g rfl)) hf rfl rfl ?_
    intro a hf
    refine Gg.sv (Gg.wantT' hf rfl rfl rfl hb9_ rfl) (Gg.y_move rfl (hf.g rfl)) hf rfl rfl ?_
    intro a hf
    refine Gg.sv (Gg.wantT' hf rfl rfl rfl hb9_ rfl) (Gg.y_move rfl (hf.g rfl)) hf rfl rfl ?_
    intro a hf
    obtain ⟨r10_, hr11_, h⟩ := Cin.bind_s h
    refine Gg.sc (vs := [Gg.Str r3_.1, .int .i64 r3_.2, .int .i64 r5_.2, Gg.Str r5_.1]) (Gg.wantT' hf rfl rfl rfl hb9_ rfl) rfl Tryd.call15 ⟨(hf.g rfl), (hf.g rfl), (hf.g rfl), (hf.g rfl), trivial⟩ (c_L_textIs hm.ltM hr11_ ) hf rfl rfl ?_
    rintro _ w ⟨rfl, hv⟩
    refine ⟨_, rfl, ?_⟩
    intro a hf
    have hm := hm.keep hv
    clear hv
    refine Gg.sv (Gg.wN rfl) (Gg.y_pickT' rfl (hf.g rfl) hb9_ (hf.g rfl)) hf rfl rfl ?_
    intro a hf
    refine Gg.sv (Gg.wN rfl) (Gg.y_assign rfl (hf.g rfl)) hf rfl rfl ?_
    intro a hf
    refine wpList_nil ?_
    refine hK4 _ _ ?_
    refine wp_ret ?_
    cases h
    refine Gg.r_one Tryd.results5 hf rfl ?_
    exact ⟨rfl, hm.ev⟩
  · have h := Cin.cond_f hb9_ h
    refine Gg.ss (Gg.wantF' hf rfl rfl rfl hb9_ rfl rfl) hf rfl rfl ?_
    intro a hf
    refine Gg.ss (Gg.wantF' hf rfl rfl rfl hb9_ rfl rfl) hf rfl rfl ?_
    intro a hf
    refine Gg.ss (Gg.wantF' hf rfl rfl rfl hb9_ rfl rfl) hf rfl rfl ?_
    intro a hf
    refine Gg.ss (Gg.wantF' hf rfl rfl rfl hb9_ rfl rfl) hf rfl rfl ?_
    intro a hf
    refine Gg.ss (Gg.wantF' hf rfl rfl rfl hb9_ rfl rfl) hf rfl rfl ?_
    intro a hf
    refine Gg.sv (Gg.wN rfl) (Gg.y_pickF' rfl (hf.g rfl) hb9_ (Gg.ec _ _)) hf rfl rfl ?_
    intro a hf
    refine Gg.sv (Gg.wN rfl) (Gg.y_assign rfl (hf.g rfl)) hf rfl rfl ?_
    intro a hf
    refine wpList_nil ?_
    refine hK4 _ _ ?_
    refine wp_ret ?_
    cases h
    refine Gg.r_one Tryd.results5 hf rfl ?_
    exact ⟨rfl, hm.ev⟩

set_option maxHeartbeats 4000000 in
set_option maxRecDepth 20000 in
theorem c_L_CodeDecodes {X : List Nat} {W : World} {F : Nat} {s_ : List UInt8} {r : Bool} (hX : ∀ k ∈ X, k < W.heap.size) (h : Cin.L_CodeDecodes F s_ = some r) (dg0 : (Gg.Dt.glob 0 [.int .i64 0, .int .i64 1, .int .i64 0, .int .i64 3, .int .i64 3, .int .i64 0, .int .i64 0, .int .i64 0, .int .i64 0, .int .i64 0, .int .i64 0, .int .i64 0, .int .i64 0, .int .i64 2, .int .i64 2, .int .i64 2, .int .i64 2, .int .i64 2, .int .i64 3, .int .i64 4, .int .i64 4, .int .i64 0, .int .i64 3, .int .i64 0, .int .i64 0, .int .i64 0, .int .i64 4, .int .i64 0, .int .i64 0, .int .i64 3, .int .i64 3, .int .i64 0, .int .i64 0, .int .i64 0, .int .i64 4, .int .i64 0, .int .i64 0]).ok X W) :
    Calls Tryd.prog 3 [Gg.Str s_].toArray W (fun e w' => e = .returned (.bool r) ∧ Gg.Ev [] W w') := by
  refine Gg.enter Tryd.func3 rfl Tryd.ntmps3 rfl ?_
  intro a hf
  have hm := Gg.St.start0 X W [Gg.Dt.glob 0 [.int .i64 0, .int .i64 1, .int .i64 0, .int .i64 3, .int .i64 3, .int .i64 0, .int .i64 0, .int .i64 0, .int .i64 0, .int .i64 0, .int .i64 0, .int .i64 0, .int .i64 0, .int .i64 2, .int .i64 2, .int .i64 2, .int .i64 2, .int .i64 2, .int .i64 3, .int .i64 4, .int .i64 4, .int .i64 0, .int .i64 3, .int .i64 0, .int .i64 0, .int .i64 0, .int .i64 4, .int .i64 0, .int .i64 0, .int .i64 3, .int .i64 3, .int .i64 0, .int .i64 0, .int .i64 0, .int .i64 4, .int .i64 0, .int .i64 0]] hX ⟨dg0, trivial⟩
  rw [Cin.L_CodeDecodes] at h
  refine wp_seq_k ?_
  intro K hK1
  refine Gg.c_region ?_
  refine Gg.sv (Gg.wN rfl) (Gg.y_assign rfl (Gg.ec _ _)) hf rfl rfl ?_
  intro a hf
  refine wpList_nil ?_
  refine hK1 _ _ ?_
  refine wp_seq_k ?_
  intro K hK2
  refine Gg.c_region ?_
  refine Gg.sv (Gg.wN rfl) (Gg.y_move rfl (hf.g rfl)) hf rfl rfl ?_
  intro a hf
  obtain ⟨r1_, hr2_, h⟩ := Cin.bind_s h
  refine Gg.sc (vs := [Gg.Str s_]) (Gg.wN rfl) rfl Tryd.call7 ⟨(hf.g rfl), trivial⟩ (c_code_Decode hm.ltM hr2_ (hm.d 0 rfl)) hf rfl rfl ?_
  rintro _ w ⟨A3_, c4_, rfl, hv, hd5_⟩
  refine ⟨_, rfl, ?_⟩
  intro a hf
  have hm := hm.keep hv
  clear hv
  have hm := hm.more (y := Gg.Dt.of (Gg.tySlice Cin.ty_Ins) [.slice A3_ r1_.1.length c4_] r1_.1) hd5_
  refine Gg.sv (Gg.wN rfl) (Gg.y_move rfl (hf.g rfl)) hf rfl rfl ?_
  intro a hf
  refine Gg.sv (Gg.wN rfl) (Gg.y_extract (vs := [.slice A3_ r1_.1.length c4_, .agg #[.int .i64 r1_.2.Err, .int .i64 r1_.2.At]]) rfl (hf.g rfl) rfl) hf rfl rfl ?_
  intro a hf
  refine Gg.sv (Gg.wN rfl) (Gg.y_extract (vs := [.slice A3_ r1_.1.length c4_, .agg #[.int .i64 r1_.2.Err, .int .i64 r1_.2.At]]) rfl (hf.g rfl) rfl) hf rfl rfl ?_
  intro a hf
  refine Gg.snew (cs := [.int .i64 0, .int .i64 0]) (Gg.wN rfl) (Gg.y_alloc Tryd.zeroValue25 rfl rfl) hf hm rfl rfl ?_
  intro a g6_ w hf hm
  refine Gg.sv (Gg.wN rfl) (Gg.y_assign rfl (hf.g rfl)) hf rfl rfl ?_
  intro a hf
  refine Gg.sst (vs := [.int .i64 r1_.2.Err, .int .i64 r1_.2.At]) 0 hm rfl (Gg.wN rfl) rfl Tryd.sizeOf25 rfl rfl rfl rfl (hf.g rfl) (hf.g rfl) rfl ?_
  intro w hm
  simp only [List.set, Gg.lay, List.drop, List.length, List.cons_append, List.nil_append] at hm
  refine wpList_nil ?_
  refine hK2 _ _ ?_
  refine wp_seq_k ?_
  intro K hK3
  refine Gg.c_region ?_
  refine Gg.sv (Gg.wN rfl) (Gg.y_move rfl (hf.g rfl)) hf rfl rfl ?_
  intro a hf
  obtain ⟨r7_, hr8_, h⟩ := Cin.bind_s h
  refine Gg.sc (vs := [Gg.Str s_]) (Gg.wN rfl) rfl Tryd.call8 ⟨(hf.g rfl), trivial⟩ (c_R_InsOf hm.ltM hr8_ ) hf rfl rfl ?_
  rintro _ w ⟨A9_, c10_, rfl, hv, hd11_⟩
  refine ⟨_, rfl, ?_⟩
  intro a hf
  have hm := hm.keep hv
  clear hv
  have hm := hm.more (y := Gg.Dt.of (Gg.tySlice Cin.ty_Ins) [.slice A9_ r7_.1.length c10_] r7_.1) hd11_
  refine Gg.sv (Gg.wN rfl) (Gg.y_move rfl (hf.g rfl)) hf rfl rfl ?_
  intro a hf
  refine Gg.sv (Gg.wN rfl) (Gg.y_extract (vs := [.slice A9_ r7_.1.length c10_, .agg #[.int .i64 r7_.2.Err, .int .i64 r7_.2.At]]) rfl (hf.g rfl) rfl) hf rfl rfl ?_
  intro a hf
  refine Gg.sv (Gg.wN rfl) (Gg.y_extract (vs := [.slice A9_ r7_.1.length c10_, .agg #[.int .i64 r7_.2.Err, .int .i64 r7_.2.At]]) rfl (hf.g rfl) rfl) hf rfl rfl ?_
  intro a hf
  refine Gg.snew (cs := [.int .i64 0, .int .i64 0]) (Gg.wN rfl) (Gg.y_alloc Tryd.zeroValue25 rfl rfl) hf hm rfl rfl ?_
  intro a g12_ w hf hm
  refine Gg.sv (Gg.wN rfl) (Gg.y_assign rfl (hf.g rfl)) hf rfl rfl ?_
  intro a hf
  refine Gg.sst (vs := [.int .i64 r7_.2.Err, .int .i64 r7_.2.At]) 0 hm rfl (Gg.wN rfl) rfl Tryd.sizeOf25 rfl rfl rfl rfl (hf.g rfl) (hf.g rfl) rfl ?_
  intro w hm
  simp only [List.set, Gg.lay, List.drop, List.length, List.cons_append, List.nil_append] at hm
  refine wpList_nil ?_
  have hf := hf.sub (l' := [(4, .pointer (some ⟨g6_, 0, none⟩)), (3, .slice A3_ r1_.1.length c4_), (6, .pointer (some ⟨g12_, 0, none⟩)), (5, .slice A9_ r7_.1.length c10_)]) ⟨rfl, rfl, rfl, rfl, trivial⟩
  refine hK3 _ _ ?_
  refine wp_seq_k ?_
  intro K hK4
  refine Gg.c_region ?_
  obtain ⟨r13_, hr14_, h⟩ := Cin.bind_s h
  refine Gg.sc (vs := []) (Gg.wN rfl) rfl Tryd.call9 trivial (c_L_codeBegun hm.ltM hr14_ (hm.d 2 rfl)) hf rfl rfl ?_
  rintro _ w ⟨rfl, hv⟩
  refine ⟨_, rfl, ?_⟩
  intro a hf
  have hm := hm.keep hv
  clear hv
  refine Gg.sv (Gg.wN rfl) (Gg.y_move rfl (hf.g rfl)) hf rfl rfl ?_
  intro a hf
  rcases Bool.eq_false_or_eq_true r13_ with hb15_ | hb15_
  · have h := Cin.cond_t hb15_ h
    refine Gg.sv (Gg.wantT' hf rfl rfl rfl hb15_ rfl) (Gg.y_loadN (cs := [.int .i64 r1_.2.Err, .int .i64 r1_.2.At]) Tryd.isAgg25 Tryd.sizeOf25 rfl rfl (hf.g rfl) (Gg.blk_cells (hm.e 1 rfl) 0 ⟨rfl, rfl, trivial⟩)) hf rfl rfl ?_
    intro a hf
    refine Gg.sv (Gg.wantT' hf rfl rfl rfl hb15_ rfl) (Gg.y_loadN (cs := [.int .i64 r7_.2.Err, .int .i64 r7_.2.At]) Tryd.isAgg25 Tryd.sizeOf25 rfl rfl (hf.g rfl) (Gg.blk_cells (hm.e 0 rfl) 0 ⟨rfl, rfl, trivial⟩)) hf rfl rfl ?_
    intro a hf
    refine Gg.sv (Gg.wantT' hf rfl rfl rfl hb15_ rfl) (eq_eql_Fault rfl (hf.g rfl) (hf.g rfl)) hf rfl rfl ?_
    intro a hf
    refine Gg.sv (Gg.wN rfl) (Gg.y_pickT' rfl (hf.g rfl) hb15_ (hf.g rfl)) hf rfl rfl ?_
    intro a hf
    refine Gg.sv (Gg.wN rfl) (Gg.y_move rfl (hf.g rfl)) hf rfl rfl ?_
    intro a hf
    rcases Bool.eq_false_or_eq_true (decide ((⟨r1_.2.Err, r1_.2.At⟩ : Cin.Fault) = (⟨r7_.2.Err, r7_.2.At⟩ : Cin.Fault))) with hb16_ | hb16_
    · have h := Cin.cond_t hb16_ h
      refine Gg.sv (Gg.wantT' hf rfl rfl rfl hb16_ rfl) (Gg.y_move rfl (hf.g rfl)) hf rfl rfl ?_
      intro a hf
      refine Gg.sv (Gg.wantT' hf rfl rfl rfl hb16_ rfl) (Gg.y_move rfl (hf.g rfl)) hf rfl rfl ?_
      intro a hf
      obtain ⟨r17_, hr18_, h⟩ := Cin.bind_s h
      refine Gg.sc (vs := [.slice A3_ r1_.1.length c4_, .slice A9_ r7_.1.length c10_]) (Gg.wantT' hf rfl rfl rfl hb16_ rfl) rfl Tryd.call10 ⟨(hf.g rfl), (hf.g rfl), trivial⟩ (c_R_SameIns hm.ltM hr18_ (hm.d 1 rfl) (hm.d 0 rfl)) hf rfl rfl ?_
      rintro _ w ⟨rfl, hv⟩
      refine ⟨_, rfl, ?_⟩
      intro a hf
      have hm := hm.keep hv
      clear hv
      refine Gg.sv (Gg.wN rfl) (Gg.y_pickT' rfl (hf.g rfl) hb16_ (hf.g rfl)) hf rfl rfl ?_
      intro a hf
      refine Gg.sv (Gg.wN rfl) (Gg.y_assign rfl (hf.g rfl)) hf rfl rfl ?_
      intro a hf
      refine wpList_nil ?_
      have hf := hf.sub (l' := [(2, .bool r17_)]) ⟨rfl, trivial⟩
      refine hK4 _ _ ?_
      refine wp_ret ?_
      cases h
      refine Gg.r_one Tryd.results3 hf rfl ?_
      exact ⟨rfl, hm.ev⟩
    · have h := Cin.cond_f hb16_ h
      refine Gg.ss (Gg.wantF' hf rfl rfl rfl hb16_ rfl rfl) hf rfl rfl ?_
      intro a hf
      refine Gg.ss (Gg.wantF' hf rfl rfl rfl hb16_ rfl rfl) hf rfl rfl ?_
      intro a hf
      refine Gg.ss (Gg.wantF' hf rfl rfl rfl hb16_ rfl rfl) hf rfl rfl ?_
      intro a hf
      refine Gg.sv (Gg.wN rfl) (Gg.y_pickF' rfl (hf.g rfl) hb16_ (Gg.ec _ _)) hf rfl rfl ?_
      intro a hf
      refine Gg.sv (Gg.wN rfl) (Gg.y_assign rfl (hf.g rfl)) hf rfl rfl ?_
      intro a hf
      refine wpList_nil ?_
      have hf := hf.sub (l' := [(2, .bool false)]) ⟨rfl, trivial⟩
      refine hK4 _ _ ?_
      refine wp_ret ?_
      cases h
      refine Gg.r_one Tryd.results3 hf rfl ?_
      exact ⟨rfl, hm.ev⟩
  · have h := Cin.cond_f hb15_ h
    refine Gg.ss (Gg.wantF' hf rfl rfl rfl hb15_ rfl rfl) hf rfl rfl ?_
    intro a hf
    refine Gg.ss (Gg.wantF' hf rfl rfl rfl hb15_ rfl rfl) hf rfl rfl ?_
    intro a hf
    refine Gg.ss (Gg.wantF' hf rfl rfl rfl hb15_ rfl rfl) hf rfl rfl ?_
    intro a hf
    refine Gg.sv (Gg.wN rfl) (Gg.y_pickF' rfl (hf.g rfl) hb15_ (Gg.ec _ _)) hf rfl rfl ?_
    intro a hf
    refine Gg.sv (Gg.wN rfl) (Gg.y_move rfl (hf.g rfl)) hf rfl rfl ?_
    intro a hf
    refine Gg.ss (Gg.wantF hf rfl rfl rfl rfl rfl) hf rfl rfl ?_
    intro a hf
    refine Gg.ss (Gg.wantF hf rfl rfl rfl rfl rfl) hf rfl rfl ?_
    intro a hf
    refine Gg.ss (Gg.wantF hf rfl rfl rfl rfl rfl) hf rfl rfl ?_
    intro a hf
    refine Gg.sv (Gg.wN rfl) (Gg.y_pickF' rfl (hf.g rfl) rfl (Gg.ec _ _)) hf rfl rfl ?_
    intro a hf
    refine Gg.sv (Gg.wN rfl) (Gg.y_assign rfl (hf.g rfl)) hf rfl rfl ?_
    intro a hf
    refine wpList_nil ?_
    have hf := hf.sub (l' := [(2, .bool false)]) ⟨rfl, trivial⟩
    refine hK4 _ _ ?_
    refine wp_ret ?_
    cases h
    refine Gg.r_one Tryd.results3 hf rfl ?_
    exact ⟨rfl, hm.ev⟩

set_option maxHeartbeats 4000000 in
set_option maxRecDepth 20000 in
theorem c_L_CodeBack {X : List Nat} {W : World} {F : Nat} {s_ : List UInt8} {r : Bool} (hX : ∀ k ∈ X, k < W.heap.size) (h : Cin.L_CodeBack F s_ = some r) (dg0 : (Gg.Dt.glob 0 [.int .i64 0, .int .i64 1, .int .i64 0, .int .i64 3, .int .i64 3, .int .i64 0, .int .i64 0, .int .i64 0, .int .i64 0, .int .i64 0, .int .i64 0, .int .i64 0, .int .i64 0, .int .i64 2, .int .i64 2, .int .i64 2, .int .i64 2, .int .i64 2, .int .i64 3, .int .i64 4, .int .i64 4, .int .i64 0, .int .i64 3, .int .i64 0, .int .i64 0, .int .i64 0, .int .i64 4, .int .i64 0, .int .i64 0, .int .i64 3, .int .i64 3, .int .i64 0, .int .i64 0, .int .i64 0, .int .i64 4, .int .i64 0, .int .i64 0]).ok X W) :
    Calls Tryd.prog 6 [Gg.Str s_].toArray W (fun e w' => e = .returned (.bool r) ∧ Gg.Ev [] W w') := by
  refine Gg.enter Tryd.func6 rfl Tryd.ntmps6 rfl ?_
  intro a hf
  have hm := Gg.St.start0 X W [Gg.Dt.glob 0 [.int .i64 0, .int .i64 1, .int .i64 0, .int .i64 3, .int .i64 3, .int .i64 0, .int .i64 0, .int .i64 0, .int .i64 0, .int .i64 0, .int .i64 0, .int .i64 0, .int .i64 0, .int .i64 2, .int .i64 2, .int .i64 2, .int .i64 2, .int .i64 2, .int .i64 3, .int .i64 4, .int .i64 4, .int .i64 0, .int .i64 3, .int .i64 0, .int .i64 0, .int .i64 0, .int .i64 4, .int .i64 0, .int .i64 0, .int .i64 3, .int .i64 3, .int .i64 0, .int .i64 0, .int .i64 0, .int .i64 4, .int .i64 0, .int .i64 0]] hX ⟨dg0, trivial⟩
  rw [Cin.L_CodeBack] at h
  refine wp_seq_k ?_
  intro K hK1
  refine Gg.c_region ?_
  refine Gg.sv (Gg.wN rfl) (Gg.y_assign rfl (Gg.ec _ _)) hf rfl rfl ?_
  intro a hf
  refine wpList_nil ?_
  refine hK1 _ _ ?_
  refine wp_seq_k ?_
  intro K hK2
  refine wp_seq_k ?_
  intro K hK3
  refine Gg.c_region ?_
  obtain ⟨r1_, hr2_, h⟩ := Cin.bind_s h
  refine Gg.sc (vs := []) (Gg.wN rfl) rfl Tryd.call9 trivial (c_L_codeBegun hm.ltM hr2_ (hm.d 0 rfl)) hf rfl rfl ?_
  rintro _ w ⟨rfl, hv⟩
  refine ⟨_, rfl, ?_⟩
  intro a hf
  have hm := hm.keep hv
  clear hv
  refine Gg.sv (Gg.wN rfl) (Gg.y_not rfl (hf.g rfl)) hf rfl rfl ?_
  intro a hf
  refine wpList_nil ?_
  refine hK3 _ _ ?_
  refine Gg.c_cond (hf.g rfl) (fun hb3_ => ?_) (fun hb3_ => ?_)
  · have h := Cin.cond_t hb3_ h
    refine wp_seq_k ?_
    intro K hK4
    refine Gg.c_region ?_
    refine Gg.sv (Gg.wN rfl) (Gg.y_assign rfl (Gg.ec _ _)) hf rfl rfl ?_
    intro a hf
    refine wpList_nil ?_
    refine hK4 _ _ ?_
    refine wp_ret ?_
    cases h
    refine Gg.x_retT ?_
    refine Gg.r_one Tryd.results6 hf rfl ?_
    exact ⟨rfl, hm.ev⟩
  · have h := Cin.cond_f hb3_ h
    refine wp_skip ?_
    refine hK2 _ _ ?_
    refine wp_seq_k ?_
    intro K hK5
    refine Gg.c_region ?_
    refine Gg.sv (Gg.wN rfl) (Gg.y_move rfl (hf.g rfl)) hf rfl rfl ?_
    intro a hf
    obtain ⟨r4_, hr5_, h⟩ := Cin.bind_s h
    refine Gg.sc (vs := [Gg.Str s_]) (Gg.wN rfl) rfl Tryd.call7 ⟨(hf.g rfl), trivial⟩ (c_code_Decode hm.ltM hr5_ (hm.d 0 rfl)) hf rfl rfl ?_
    rintro _ w ⟨A6_, c7_, rfl, hv, hd8_⟩
    refine ⟨_, rfl, ?_⟩
    intro a hf
    have hm := hm.keep hv
    clear hv
    have hm := hm.more (y := Gg.Dt.of (Gg.tySlice Cin.ty_Ins) [.slice A6_ r4_.1.length c7_] r4_.1) hd8_
    refine Gg.sv (Gg.wN rfl) (Gg.y_move rfl (hf.g rfl)) hf rfl rfl ?_
    intro a hf
    refine Gg.sv (Gg.wN rfl) (Gg.y_extract (vs := [.slice A6_ r4_.1.length c7_, .agg #[.int .i64 r4_.2.Err, .int .i64 r4_.2.At]]) rfl (hf.g rfl) rfl) hf rfl rfl ?_
    intro a hf
    refine Gg.sv (Gg.wN rfl) (Gg.y_extract (vs := [.slice A6_ r4_.1.length c7_, .agg #[.int .i64 r4_.2.Err, .int .i64 r4_.2.At]]) rfl (hf.g rfl) rfl) hf rfl rfl ?_
    intro a hf
    refine Gg.snew (cs := [.int .i64 0, .int .i64 0]) (Gg.wN rfl) (Gg.y_alloc Tryd.zeroValue25 rfl rfl) hf hm rfl rfl ?_
    intro a g9_ w hf hm
    refine Gg.sv (Gg.wN rfl) (Gg.y_assign rfl (hf.g rfl)) hf rfl rfl ?_
    intro a hf
    refine Gg.sst (vs := [.int .i64 r4_.2.Err, .int .i64 r4_.2.At]) 0 hm rfl (Gg.wN rfl) rfl Tryd.sizeOf25 rfl rfl rfl rfl (hf.g rfl) (hf.g rfl) rfl ?_
    intro w hm
    simp only [List.set, Gg.lay, List.drop, List.length, List.cons_append, List.nil_append] at hm
    refine wpList_nil ?_
    refine hK5 _ _ ?_
    refine wp_seq_k ?_
    intro K hK6
    refine wp_seq_k ?_
    intro K hK7
    refine Gg.c_region ?_
    refine Gg.sv (Gg.wN rfl) (Gg.y_fld Tryd.underlying25 rfl Tryd.sizeOf23 rfl rfl (hf.g rfl)) hf rfl rfl ?_
    intro a hf
    refine Gg.sv (Gg.wN rfl) (Gg.y_load1 Tryd.isAgg23 rfl (hf.g rfl) (Gg.blk_cell (hm.e 0 rfl) (j := 0) rfl)) hf rfl rfl ?_
    intro a hf
    refine Gg.sv (Gg.wN rfl) (Gg.y_neI Tryd.underlying23 rfl (hf.g rfl) (Gg.ec _ _)) hf rfl rfl ?_
    intro a hf
    refine wpList_nil ?_
    refine hK7 _ _ ?_
    refine Gg.c_cond (hf.g rfl) (fun hb10_ => ?_) (fun hb10_ => ?_)
    · have h := Cin.cond_t hb10_ h
      refine wp_seq_k ?_
      intro K hK8
      refine Gg.c_region ?_
      refine Gg.sv (Gg.wN rfl) (Gg.y_move rfl (hf.g rfl)) hf rfl rfl ?_
      intro a hf
      refine Gg.sv (Gg.wN rfl) (Gg.y_len Tryd.underlying22 rfl (hf.g rfl)) hf rfl rfl ?_
      intro a hf
      refine Gg.sv (Gg.wN rfl) (Gg.y_eqI Tryd.underlying3 rfl (hf.g rfl) (Gg.ec _ _)) hf rfl rfl ?_
      intro a hf
      refine Gg.sv (Gg.wN rfl) (Gg.y_assign rfl (hf.g rfl)) hf rfl rfl ?_
      intro a hf
      refine wpList_nil ?_
      have hf := hf.sub (l' := [(2, .bool (decide ((r4_.1.length : Int) = 0)))]) ⟨rfl, trivial⟩
      refine hK8 _ _ ?_
      refine wp_ret ?_
      cases h
      refine Gg.x_retT ?_
      refine Gg.r_one Tryd.results6 hf rfl ?_
      exact ⟨rfl, hm.ev⟩
    · have h := Cin.cond_f hb10_ h
      refine wp_skip ?_
      refine hK6 _ _ ?_
      refine wp_seq_k ?_
      intro K hK9
      refine Gg.c_region ?_
      refine Gg.sv (Gg.wN rfl) (Gg.y_move rfl (hf.g rfl)) hf rfl rfl ?_
      intro a hf
      obtain ⟨r11_, hr12_, h⟩ := Cin.bind_s h
      refine Gg.sc (vs := [.slice A6_ r4_.1.length c7_]) (Gg.wN rfl) rfl Tryd.call13 ⟨(hf.g rfl), trivial⟩ (c_code_Encode hm.ltM hr12_ (hm.d 1 rfl) (hm.d 0 rfl)) hf rfl rfl ?_
      rintro _ w ⟨rfl, hv⟩
      refine ⟨_, rfl, ?_⟩
      intro a hf
      have hm := hm.keep hv
      clear hv
      refine Gg.sv (Gg.wN rfl) (Gg.y_move rfl (hf.g rfl)) hf rfl rfl ?_
      intro a hf
      refine Gg.sv (Gg.wN rfl) (Gg.y_extract (vs := [Gg.Str r11_.1, .int .i64 r11_.2]) rfl (hf.g rfl) rfl) hf rfl rfl ?_
      intro a hf
      refine Gg.sv (Gg.wN rfl) (Gg.y_extract (vs := [Gg.Str r11_.1, .int .i64 r11_.2]) rfl (hf.g rfl) rfl) hf rfl rfl ?_
      intro a hf
      refine Gg.sv (Gg.wN rfl) (Gg.y_assign rfl (hf.g rfl)) hf rfl rfl ?_
      intro a hf
      refine Gg.sv (Gg.wN rfl) (Gg.y_assign rfl (hf.g rfl)) hf rfl rfl ?_
      intro a hf
      refine wpList_nil ?_
      have hf := hf.sub (l' := [(0, Gg.Str s_), (3, .slice A6_ r4_.1.length c7_), (5, Gg.Str r11_.1), (6, .int .i64 r11_.2)]) ⟨rfl, rfl, rfl, rfl, trivial⟩
      refine hK9 _ _ ?_
      obtain ⟨j32_, hj32_, h⟩ := Cin.join_s h
      refine Gg.c_meet (fun a w => Gg.Fr 88 [(3, .slice A6_ r4_.1.length c7_)] a ∧ Gg.St W [] X w [Gg.Ent.blk g9_ 25 [.int .i64 r4_.2.Err, .int .i64 r4_.2.At]] [Gg.Dt.of (Gg.tySlice Cin.ty_Ins) [.slice A6_ r4_.1.length c7_] r4_.1, Gg.Dt.glob 0 [.int .i64 0, .int .i64 1, .int .i64 0, .int .i64 3, .int .i64 3, .int .i64 0, .int .i64 0, .int .i64 0, .int .i64 0, .int .i64 0, .int .i64 0, .int .i64 0, .int .i64 0, .int .i64 2, .int .i64 2, .int .i64 2, .int .i64 2, .int .i64 2, .int .i64 3, .int .i64 4, .int .i64 4, .int .i64 0, .int .i64 3, .int .i64 0, .int .i64 0, .int .i64 0, .int .i64 4, .int .i64 0, .int .i64 0, .int .i64 3, .int .i64 3, .int .i64 0, .int .i64 0, .int .i64 0, .int .i64 4, .int .i64 0, .int .i64 0]] ∧ j32_ () = some r) (fun K hK10 => ?_) ?_
      · clear hj32_
        obtain ⟨j42_, hj42_, h⟩ := Cin.join_s h
        refine Gg.c_meet (fun a w => ∃ (b41_ : Bool), Gg.Fr 88 [(3, .slice A6_ r4_.1.length c7_), (46, .bool b41_)] a ∧ Gg.St W [] X w [Gg.Ent.blk g9_ 25 [.int .i64 r4_.2.Err, .int .i64 r4_.2.At]] [Gg.Dt.of (Gg.tySlice Cin.ty_Ins) [.slice A6_ r4_.1.length c7_] r4_.1, Gg.Dt.glob 0 [.int .i64 0, .int .i64 1, .int .i64 0, .int .i64 3, .int .i64 3, .int .i64 0, .int .i64 0, .int .i64 0, .int .i64 0, .int .i64 0, .int .i64 0, .int .i64 0, .int .i64 0, .int .i64 2, .int .i64 2, .int .i64 2, .int .i64 2, .int .i64 2, .int .i64 3, .int .i64 4, .int .i64 4, .int .i64 0, .int .i64 3, .int .i64 0, .int .i64 0, .int .i64 0, .int .i64 4, .int .i64 0, .int .i64 0, .int .i64 3, .int .i64 3, .int .i64 0, .int .i64 0, .int .i64 0, .int .i64 4, .int .i64 0, .int .i64 0]] ∧ j42_ b41_ = some r) (fun K hK11 => ?_) ?_
        · clear hj42_
          refine Gg.c_region ?_
          refine Gg.sv (Gg.wN rfl) (Gg.y_move rfl (hf.g rfl)) hf rfl rfl ?_
          intro a hf
          refine Gg.sv (Gg.wN rfl) (Gg.y_neI Tryd.underlying23 rfl (hf.g rfl) (Gg.ec _ _)) hf rfl rfl ?_
          intro a hf
          refine Gg.sv (Gg.wN rfl) (Gg.y_move rfl (hf.g rfl)) hf rfl rfl ?_
          intro a hf
          rcases Bool.eq_false_or_eq_true (!decide (r11_.2 = 0)) with hb43_ | hb43_
          · have h := Cin.cond_t hb43_ h
            refine Gg.ss (Gg.wantF' hf rfl rfl rfl hb43_ rfl rfl) hf rfl rfl ?_
            intro a hf
            refine Gg.ss (Gg.wantF' hf rfl rfl rfl hb43_ rfl rfl) hf rfl rfl ?_
            intro a hf
            refine Gg.ss (Gg.wantF' hf rfl rfl rfl hb43_ rfl rfl) hf rfl rfl ?_
            intro a hf
            refine Gg.sv (Gg.wN rfl) (Gg.y_pickT' rfl (hf.g rfl) hb43_ (Gg.ec _ _)) hf rfl rfl ?_
            intro a hf
            refine Gg.sv (Gg.wN rfl) (Gg.y_move rfl (hf.g rfl)) hf rfl rfl ?_
            intro a hf
            refine Gg.ss (Gg.wantF hf rfl rfl rfl rfl rfl) hf rfl rfl ?_
            intro a hf
            refine Gg.ss (Gg.wantF hf rfl rfl rfl rfl rfl) hf rfl rfl ?_
            intro a hf
            refine Gg.ss (Gg.wantF hf rfl rfl rfl rfl rfl) hf rfl rfl ?_
            intro a hf
            refine Gg.sv (Gg.wN rfl) (Gg.y_pickT' rfl (hf.g rfl) rfl (Gg.ec _ _)) hf rfl rfl ?_
            intro a hf
            refine Gg.sv (Gg.wN rfl) (Gg.y_move rfl (hf.g rfl)) hf rfl rfl ?_
            intro a hf
            refine Gg.ss (Gg.wantF hf rfl rfl rfl rfl rfl) hf rfl rfl ?_
            intro a hf
            refine Gg.ss (Gg.wantF hf rfl rfl rfl rfl rfl) hf rfl rfl ?_
            intro a hf
            refine Gg.ss (Gg.wantF hf rfl rfl rfl rfl rfl) hf rfl rfl ?_
            intro a hf
            refine Gg.ss (Gg.wantF hf rfl rfl rfl rfl rfl) hf rfl rfl ?_
            intro a hf
            refine Gg.ss (Gg.wantF hf rfl rfl rfl rfl rfl) hf rfl rfl ?_
            intro a hf
            refine Gg.sv (Gg.wN rfl) (Gg.y_pickT' rfl (hf.g rfl) rfl (Gg.ec _ _)) hf rfl rfl ?_
            intro a hf
            refine wpList_nil ?_
            have hf := hf.sub (l' := [(3, .slice A6_ r4_.1.length c7_), (46, .bool true)]) ⟨rfl, rfl, trivial⟩
            exact hK11 _ _ ⟨true, hf.sub ⟨rfl, rfl, trivial⟩, (hm).pick ⟨⟨0, rfl⟩, ⟨1, rfl⟩, trivial⟩, h⟩
          · have h := Cin.cond_f hb43_ h
            refine Gg.sv (Gg.wantT' hf rfl rfl rfl hb43_ rfl) (Gg.y_move rfl (hf.g rfl)) hf rfl rfl ?_
            intro a hf
            refine Gg.sv (Gg.wantT' hf rfl rfl rfl hb43_ rfl) (Gg.y_move rfl (hf.g rfl)) hf rfl rfl ?_
            intro a hf
            refine Gg.sv (Gg.wantT' hf rfl rfl rfl hb43_ rfl) (Gg.y_neS Tryd.underlying9 rfl (hf.g rfl) (hf.g rfl)) hf rfl rfl ?_
            intro a hf
            refine Gg.sv (Gg.wN rfl) (Gg.y_pickF' rfl (hf.g rfl) hb43_ (hf.g rfl)) hf rfl rfl ?_
            intro a hf
            refine Gg.sv (Gg.wN rfl) (Gg.y_move rfl (hf.g rfl)) hf rfl rfl ?_
            intro a hf
            rcases Bool.eq_false_or_eq_true (!decide (r11_.1 = s_)) with hb44_ | hb44_
            · have h := Cin.cond_t hb44_ h
              refine Gg.ss (Gg.wantF' hf rfl rfl rfl hb44_ rfl rfl) hf rfl rfl ?_
              intro a hf
              refine Gg.ss (Gg.wantF' hf rfl rfl rfl hb44_ rfl rfl) hf rfl rfl ?_
              intro a hf
              refine Gg.ss (Gg.wantF' hf rfl rfl rfl hb44_ rfl rfl) hf rfl rfl ?_
              intro a hf
              refine Gg.sv (Gg.wN rfl) (Gg.y_pickT' rfl (hf.g rfl) hb44_ (Gg.ec _ _)) hf rfl rfl ?_
              intro a hf
              refine Gg.sv (Gg.wN rfl) (Gg.y_move rfl (hf.g rfl)) hf rfl rfl ?_
              intro a hf
              refine Gg.ss (Gg.wantF hf rfl rfl rfl rfl rfl) hf rfl rfl ?_
              intro a hf
              refine Gg.ss (Gg.wantF hf rfl rfl rfl rfl rfl) hf rfl rfl ?_
              intro a hf
              refine Gg.ss (Gg.wantF hf rfl rfl rfl rfl rfl) hf rfl rfl ?_
              intro a hf
              refine Gg.ss (Gg.wantF hf rfl rfl rfl rfl rfl) hf rfl rfl ?_
              intro a hf
              refine Gg.ss (Gg.wantF hf rfl rfl rfl rfl rfl) hf rfl rfl ?_
              intro a hf
              refine Gg.sv (Gg.wN rfl) (Gg.y_pickT' rfl (hf.g rfl) rfl (Gg.ec _ _)) hf rfl rfl ?_
              intro a hf
              refine wpList_nil ?_
              have hf := hf.sub (l' := [(3, .slice A6_ r4_.1.length c7_), (46, .bool true)]) ⟨rfl, rfl, trivial⟩
              exact hK11 _ _ ⟨true, hf.sub ⟨rfl, rfl, trivial⟩, (hm).pick ⟨⟨0, rfl⟩, ⟨1, rfl⟩, trivial⟩, h⟩
            · have h := Cin.cond_f hb44_ h
              refine Gg.sv (Gg.wantT' hf rfl rfl rfl hb44_ rfl) (Gg.y_move rfl (hf.g rfl)) hf rfl rfl ?_
              intro a hf
              refine Gg.sv (Gg.wantT' hf rfl rfl rfl hb44_ rfl) (Gg.y_len Tryd.underlying22 rfl (hf.g rfl)) hf rfl rfl ?_
              intro a hf
              refine Gg.sv (Gg.wantT' hf rfl rfl rfl hb44_ rfl) (Gg.y_eqI Tryd.underlying3 rfl (hf.g rfl) (Gg.ec _ _)) hf rfl rfl ?_
              intro a hf
              refine Gg.sv (Gg.wN rfl) (Gg.y_pickF' rfl (hf.g rfl) hb44_ (hf.g rfl)) hf rfl rfl ?_
              intro a hf
              refine Gg.sv (Gg.wN rfl) (Gg.y_move rfl (hf.g rfl)) hf rfl rfl ?_
              intro a hf
              rcases Bool.eq_false_or_eq_true (decide ((r4_.1.length : Int) = 0)) with hb45_ | hb45_
              · have h := Cin.cond_t hb45_ h
                refine Gg.ss (Gg.wantF' hf rfl rfl rfl hb45_ rfl rfl) hf rfl rfl ?_
                intro a hf
                refine Gg.ss (Gg.wantF' hf rfl rfl rfl hb45_ rfl rfl) hf rfl rfl ?_
                intro a hf
                refine Gg.ss (Gg.wantF' hf rfl rfl rfl hb45_ rfl rfl) hf rfl rfl ?_
                intro a hf
                refine Gg.ss (Gg.wantF' hf rfl rfl rfl hb45_ rfl rfl) hf rfl rfl ?_
                intro a hf
                refine Gg.ss (Gg.wantF' hf rfl rfl rfl hb45_ rfl rfl) hf rfl rfl ?_
                intro a hf
                refine Gg.sv (Gg.wN rfl) (Gg.y_pickT' rfl (hf.g rfl) hb45_ (Gg.ec _ _)) hf rfl rfl ?_
                intro a hf
                refine wpList_nil ?_
                have hf := hf.sub (l' := [(3, .slice A6_ r4_.1.length c7_), (46, .bool true)]) ⟨rfl, rfl, trivial⟩
                exact hK11 _ _ ⟨true, hf.sub ⟨rfl, rfl, trivial⟩, (hm).pick ⟨⟨0, rfl⟩, ⟨1, rfl⟩, trivial⟩, h⟩
              · have h := Cin.cond_f hb45_ h
                refine Gg.sv (Gg.wantT' hf rfl rfl rfl hb45_ rfl) (Gg.y_move rfl (hf.g rfl)) hf rfl rfl ?_
                intro a hf
                obtain ⟨x46_, hx47_, h⟩ := Cin.bind_s h
                obtain ⟨hA48_, hi49_, _, rfl, hc50_⟩ := Gg.slice_at _ (hm.d 0 rfl) hx47_
                refine Gg.sv (Gg.wantT' hf rfl rfl rfl hb45_ rfl) (Gg.y_idx Tryd.underlying22 Tryd.sizeOf40 rfl (hf.g rfl) (Gg.ec _ _) hA48_ hi49_) hf rfl rfl ?_
                intro a hf
                refine Gg.sv (Gg.wantT' hf rfl rfl rfl hb45_ rfl) (Gg.y_fld Tryd.underlying40 rfl Tryd.sizeOf3 rfl rfl (hf.g rfl)) hf rfl rfl ?_
                intro a hf
                refine Gg.sv (Gg.wantT' hf rfl rfl rfl hb45_ rfl) (Gg.y_load1 Tryd.isAgg3 rfl (hf.g rfl) (hc50_ 0 _ rfl)) hf rfl rfl ?_
                intro a hf
                refine Gg.sv (Gg.wantT' hf rfl rfl rfl hb45_ rfl) (Gg.y_neI Tryd.underlying3 rfl (hf.g rfl) (Gg.ec _ _)) hf rfl rfl ?_
                intro a hf
                refine Gg.sv (Gg.wN rfl) (Gg.y_pickF' rfl (hf.g rfl) hb45_ (hf.g rfl)) hf rfl rfl ?_
                intro a hf
                refine wpList_nil ?_
                have hf := hf.sub (l' := [(3, .slice A6_ r4_.1.length c7_), (46, .bool (!decide (x46_.At = 0)))]) ⟨rfl, rfl, trivial⟩
                exact hK11 _ _ ⟨!decide (x46_.At = 0), hf.sub ⟨rfl, rfl, trivial⟩, (hm).pick ⟨⟨0, rfl⟩, ⟨1, rfl⟩, trivial⟩, h⟩
        · rintro a w ⟨b41_, hf, hm, h⟩
          subst hj42_
          try dsimp only at h
          refine Gg.c_cond (hf.g rfl) (fun hb51_ => ?_) (fun hb51_ => ?_)
          · have h := Cin.cond_t hb51_ h
            refine wp_seq_k ?_
            intro K hK12
            refine Gg.c_region ?_
            refine Gg.sv (Gg.wN rfl) (Gg.y_assign rfl (Gg.ec _ _)) hf rfl rfl ?_
            intro a hf
            refine wpList_nil ?_
            refine hK12 _ _ ?_
            refine wp_ret ?_
            cases h
            refine Gg.x_retT ?_
            refine Gg.r_one Tryd.results6 hf rfl ?_
            exact ⟨rfl, hm.ev⟩
          · have h := Cin.cond_f hb51_ h
            refine wp_skip ?_
            exact hK10 _ _ ⟨hf.sub ⟨rfl, trivial⟩, (hm).pick ⟨⟨0, rfl⟩, ⟨1, rfl⟩, trivial⟩, h⟩
      · rintro a w ⟨hf, hm, h⟩
        subst hj32_
        try dsimp only at h
        refine wp_seq_k ?_
        intro K hK13
        refine wp_seq_k ?_
        intro K hK14
        refine Gg.c_region ?_
        refine Gg.sv (Gg.wN rfl) (Gg.y_assign rfl (Gg.ec _ _)) hf rfl rfl ?_
        intro a hf
        refine wpList_nil ?_
        refine hK14 _ _ ?_
        obtain ⟨j276_, hj276_, h⟩ := Cin.join_s h
        refine Gg.c_blockJ (fun a w => Gg.Fr 88 [] a ∧ Gg.St W [] X w [Gg.Ent.blk g9_ 25 [.int .i64 r4_.2.Err, .int .i64 r4_.2.At]] [Gg.Dt.of (Gg.tySlice Cin.ty_Ins) [.slice A6_ r4_.1.length c7_] r4_.1, Gg.Dt.glob 0 [.int .i64 0, .int .i64 1, .int .i64 0, .int .i64 3, .int .i64 3, .int .i64 0, .int .i64 0, .int .i64 0, .int .i64 0, .int .i64 0, .int .i64 0, .int .i64 0, .int .i64 0, .int .i64 2, .int .i64 2, .int .i64 2, .int .i64 2, .int .i64 2, .int .i64 3, .int .i64 4, .int .i64 4, .int .i64 0, .int .i64 3, .int .i64 0, .int .i64 0, .int .i64 0, .int .i64 4, .int .i64 0, .int .i64 0, .int .i64 3, .int .i64 3, .int .i64 0, .int .i64 0, .int .i64 0, .int .i64 4, .int .i64 0, .int .i64 0]] ∧ j276_ () = some r) (fun K hK15 => ?_) ?_
        · clear hj276_
          refine Gg.c_loop (fun (k1_ : Nat) a w => ∃ (n351_ : Int), Gg.Fr 88 [(3, .slice A6_ r4_.1.length c7_), (7, .int .i64 n351_)] a ∧ Gg.St W [] X w [Gg.Ent.blk g9_ 25 [.int .i64 r4_.2.Err, .int .i64 r4_.2.At]] [Gg.Dt.of (Gg.tySlice Cin.ty_Ins) [.slice A6_ r4_.1.length c7_] r4_.1, Gg.Dt.glob 0 [.int .i64 0, .int .i64 1, .int .i64 0, .int .i64 3, .int .i64 3, .int .i64 0, .int .i64 0, .int .i64 0, .int .i64 0, .int .i64 0, .int .i64 0, .int .i64 0, .int .i64 0, .int .i64 2, .int .i64 2, .int .i64 2, .int .i64 2, .int .i64 2, .int .i64 3, .int .i64 4, .int .i64 4, .int .i64 0, .int .i64 3, .int .i64 0, .int .i64 0, .int .i64 0, .int .i64 4, .int .i64 0, .int .i64 0, .int .i64 3, .int .i64 3, .int .i64 0, .int .i64 0, .int .i64 0, .int .i64 4, .int .i64 0, .int .i64 0]] ∧ Cin.L_CodeBack_L1 F r4_ j276_ k1_ n351_ = some r) F ⟨0, hf.sub ⟨rfl, rfl, trivial⟩, (hm).pick ⟨⟨0, rfl⟩, ⟨1, rfl⟩, trivial⟩, h⟩ ?_ ?_
          · rintro a w ⟨n351_, hf, hm, h⟩
            exact absurd h (by simp [Cin.L_CodeBack_L1])
          · rintro k1_ a w ⟨n351_, hf, hm, h⟩ K hK16
            rw [Cin.L_CodeBack_L1] at h
            refine wp_seq_k ?_
            intro K hK17
            refine wp_seq_k ?_
            intro K hK18
            refine Gg.c_region ?_
            refine Gg.sv (Gg.wN rfl) (Gg.y_move rfl (hf.g rfl)) hf rfl rfl ?_
            intro a hf
            refine Gg.sv (Gg.wN rfl) (Gg.y_move rfl (hf.g rfl)) hf rfl rfl ?_
            intro a hf
            refine Gg.sv (Gg.wN rfl) (Gg.y_len Tryd.underlying22 rfl (hf.g rfl)) hf rfl rfl ?_
            intro a hf
            refine Gg.sv (Gg.wN rfl) (Gg.y_lss rfl (hf.g rfl) (hf.g rfl)) hf rfl rfl ?_
            intro a hf
            refine wpList_nil ?_
            refine hK18 _ _ ?_
            refine Gg.c_cond (hf.g rfl) (fun hb427_ => ?_) (fun hb427_ => ?_)
            · have h := Cin.cond_t hb427_ h
              refine wp_skip ?_
              refine hK17 _ _ ?_
              refine wp_seq_k ?_
              intro K hK19
              obtain ⟨j464_, hj464_, h⟩ := Cin.join_s h
              refine Gg.c_blockJ (fun a w => Gg.Fr 88 [(3, .slice A6_ r4_.1.length c7_), (7, .int .i64 n351_)] a ∧ Gg.St W [] X w [Gg.Ent.blk g9_ 25 [.int .i64 r4_.2.Err, .int .i64 r4_.2.At]] [Gg.Dt.of (Gg.tySlice Cin.ty_Ins) [.slice A6_ r4_.1.length c7_] r4_.1, Gg.Dt.glob 0 [.int .i64 0, .int .i64 1, .int .i64 0, .int .i64 3, .int .i64 3, .int .i64 0, .int .i64 0, .int .i64 0, .int .i64 0, .int .i64 0, .int .i64 0, .int .i64 0, .int .i64 0, .int .i64 2, .int .i64 2, .int .i64 2, .int .i64 2, .int .i64 2, .int .i64 3, .int .i64 4, .int .i64 4, .int .i64 0, .int .i64 3, .int .i64 0, .int .i64 0, .int .i64 0, .int .i64 4, .int .i64 0, .int .i64 0, .int .i64 3, .int .i64 3, .int .i64 0, .int .i64 0, .int .i64 0, .int .i64 4, .int .i64 0, .int .i64 0]] ∧ j464_ () = some r) (fun K hK20 => ?_) ?_
              · clear hj464_
                refine wp_seq_k ?_
                intro K hK21
                refine Gg.c_region ?_
                refine Gg.sv (Gg.wN rfl) (Gg.y_move rfl (hf.g rfl)) hf rfl rfl ?_
                intro a hf
                refine Gg.sv (Gg.wN rfl) (Gg.y_move rfl (hf.g rfl)) hf rfl rfl ?_
                intro a hf
                refine Gg.sv (Gg.wN rfl) (Gg.y_move rfl (hf.g rfl)) hf rfl rfl ?_
                intro a hf
                obtain ⟨x465_, hx466_, h⟩ := Cin.bind_s h
                obtain ⟨hA467_, hi468_, _, rfl, hc469_⟩ := Gg.slice_at _ (hm.d 0 rfl) hx466_
                refine Gg.sv (Gg.wN rfl) (Gg.y_idx Tryd.underlying22 Tryd.sizeOf40 rfl (hf.g rfl) (hf.g rfl) hA467_ hi468_) hf rfl rfl ?_
                intro a hf
                refine Gg.sv (Gg.wN rfl) (Gg.y_fld Tryd.underlying40 rfl Tryd.sizeOf3 rfl rfl (hf.g rfl)) hf rfl rfl ?_
                intro a hf
                refine Gg.sv (Gg.wN rfl) (Gg.y_load1 Tryd.isAgg3 rfl (hf.g rfl) (hc469_ 0 _ rfl)) hf rfl rfl ?_
                intro a hf
                obtain ⟨r470_, hr471_, h⟩ := Cin.bind_s h
                refine Gg.sc (vs := [.slice A6_ r4_.1.length c7_, .int .i64 x465_.At]) (Gg.wN rfl) rfl Tryd.call11 ⟨(hf.g rfl), (hf.g rfl), trivial⟩ (c_code_Place hm.ltM hr471_ (hm.d 0 rfl)) hf rfl rfl ?_
                rintro _ w ⟨rfl, hv⟩
                refine ⟨_, rfl, ?_⟩
                intro a hf
                have hm := hm.keep hv
                clear hv
                refine Gg.sv (Gg.wN rfl) (Gg.y_move rfl (hf.g rfl)) hf rfl rfl ?_
                intro a hf
                refine Gg.sv (Gg.wN rfl) (Gg.y_extract (vs := [.int .i64 r470_.1, .int .i64 r470_.2]) rfl (hf.g rfl) rfl) hf rfl rfl ?_
                intro a hf
                refine Gg.sv (Gg.wN rfl) (Gg.y_extract (vs := [.int .i64 r470_.1, .int .i64 r470_.2]) rfl (hf.g rfl) rfl) hf rfl rfl ?_
                intro a hf
                refine Gg.sv (Gg.wN rfl) (Gg.y_assign rfl (hf.g rfl)) hf rfl rfl ?_
                intro a hf
                refine Gg.sv (Gg.wN rfl) (Gg.y_assign rfl (hf.g rfl)) hf rfl rfl ?_
                intro a hf
                refine wpList_nil ?_
                have hf := hf.sub (l' := [(3, .slice A6_ r4_.1.length c7_), (7, .int .i64 n351_), (8, .int .i64 r470_.1), (9, .int .i64 r470_.2)]) ⟨rfl, rfl, rfl, rfl, trivial⟩
                refine hK21 _ _ ?_
                obtain ⟨j486_, hj486_, h⟩ := Cin.join_s h
                refine Gg.c_meet (fun a w => ∃ (b485_ : Bool), Gg.Fr 88 [(3, .slice A6_ r4_.1.length c7_), (7, .int .i64 n351_), (87, .bool b485_)] a ∧ Gg.St W [] X w [Gg.Ent.blk g9_ 25 [.int .i64 r4_.2.Err, .int .i64 r4_.2.At]] [Gg.Dt.of (Gg.tySlice Cin.ty_Ins) [.slice A6_ r4_.1.length c7_] r4_.1, Gg.Dt.glob 0 [.int .i64 0, .int .i64 1, .int .i64 0, .int .i64 3, .int .i64 3, .int .i64 0, .int .i64 0, .int .i64 0, .int .i64 0, .int .i64 0, .int .i64 0, .int .i64 0, .int .i64 0, .int .i64 2, .int .i64 2, .int .i64 2, .int .i64 2, .int .i64 2, .int .i64 3, .int .i64 4, .int .i64 4, .int .i64 0, .int .i64 3, .int .i64 0, .int .i64 0, .int .i64 0, .int .i64 4, .int .i64 0, .int .i64 0, .int .i64 3, .int .i64 3, .int .i64 0, .int .i64 0, .int .i64 0, .int .i64 4, .int .i64 0, .int .i64 0]] ∧ j486_ b485_ = some r) (fun K hK22 => ?_) ?_
                · clear hj486_
                  refine Gg.c_quiet (by kernel_rfl) (by kernel_rfl) ?_
                  refine Gg.qv (Gg.wN rfl) (fun w hv => Gg.y_move rfl (hf.g rfl)) hf rfl rfl ?_
                  intro a hf
                  refine Gg.qv (Gg.wN rfl) (fun w hv => Gg.y_neI Tryd.underlying23 rfl (hf.g rfl) (Gg.ec _ _)) hf rfl rfl ?_
                  intro a hf
                  refine Gg.qv (Gg.wN rfl) (fun w hv => Gg.y_move rfl (hf.g rfl)) hf rfl rfl ?_
                  intro a hf
                  rcases Bool.eq_false_or_eq_true (!decide (r470_.2 = 0)) with hb487_ | hb487_
                  · have h := Cin.cond_t hb487_ h
                    refine Gg.qs (Gg.wantF' hf rfl rfl rfl hb487_ rfl rfl) hf rfl rfl ?_
                    intro a hf
                    refine Gg.qs (Gg.wantF' hf rfl rfl rfl hb487_ rfl rfl) hf rfl rfl ?_
                    intro a hf
                    refine Gg.qs (Gg.wantF' hf rfl rfl rfl hb487_ rfl rfl) hf rfl rfl ?_
                    intro a hf
                    refine Gg.qv (Gg.wN rfl) (fun w hv => Gg.y_pickT' rfl (hf.g rfl) hb487_ (Gg.ec _ _)) hf rfl rfl ?_
                    intro a hf
                    refine Gg.qv (Gg.wN rfl) (fun w hv => Gg.y_move rfl (hf.g rfl)) hf rfl rfl ?_
                    intro a hf
                    refine Gg.qs (Gg.wantF hf rfl rfl rfl rfl rfl) hf rfl rfl ?_
                    intro a hf
                    refine Gg.qs (Gg.wantF hf rfl rfl rfl rfl rfl) hf rfl rfl ?_
                    intro a hf
                    refine Gg.qs (Gg.wantF hf rfl rfl rfl rfl rfl) hf rfl rfl ?_
                    intro a hf
                    refine Gg.qs (Gg.wantU hf rfl rfl rfl rfl) hf rfl rfl ?_
                    intro a hf
                    refine Gg.qs (Gg.wantU hf rfl rfl rfl rfl) hf rfl rfl ?_
                    intro a hf
                    refine Gg.qs (Gg.wantU hf rfl rfl rfl rfl) hf rfl rfl ?_
                    intro a hf
                    refine Gg.qs (Gg.wantU hf rfl rfl rfl rfl) hf rfl rfl ?_
                    intro a hf
                    refine Gg.qs (Gg.wantU hf rfl rfl rfl rfl) hf rfl rfl ?_
                    intro a hf
                    refine Gg.qs (Gg.wantU hf rfl rfl rfl rfl) hf rfl rfl ?_
                    intro a hf
                    refine Gg.qs (Gg.wantU hf rfl rfl rfl rfl) hf rfl rfl ?_
                    intro a hf
                    refine Gg.qs (Gg.wantU hf rfl rfl rfl rfl) hf rfl rfl ?_
                    intro a hf
                    refine Gg.qs (Gg.wantU hf rfl rfl rfl rfl) hf rfl rfl ?_
                    intro a hf
                    refine Gg.qs (Gg.wantU hf rfl rfl rfl rfl) hf rfl rfl ?_
                    intro a hf
                    refine Gg.qs (Gg.wantU hf rfl rfl rfl rfl) hf rfl rfl ?_
                    intro a hf
                    refine Gg.qs (Gg.wantU hf rfl rfl rfl rfl) hf rfl rfl ?_
                    intro a hf
                    refine Gg.qs (Gg.wantF hf rfl rfl rfl rfl rfl) hf rfl rfl ?_
                    intro a hf
                    refine Gg.qv (Gg.wN rfl) (fun w hv => Gg.y_pickT' rfl (hf.g rfl) rfl (Gg.ec _ _)) hf rfl rfl ?_
                    intro a hf
                    refine wpQuiet_nil ?_
                    intro w hv
                    have hm := hm.keep hv
                    clear hv
                    have hf := hf.sub (l' := [(3, .slice A6_ r4_.1.length c7_), (7, .int .i64 n351_), (87, .bool true)]) ⟨rfl, rfl, rfl, trivial⟩
                    exact hK22 _ _ ⟨true, hf.sub ⟨rfl, rfl, rfl, trivial⟩, (hm).pick ⟨⟨0, rfl⟩, ⟨1, rfl⟩, trivial⟩, h⟩
                  · have h := Cin.cond_f hb487_ h
                    refine Gg.qv (Gg.wantT' hf rfl rfl rfl hb487_ rfl) (fun w hv => Gg.y_move rfl (hf.g rfl)) hf rfl rfl ?_
                    intro a hf
                    refine Gg.qv (Gg.wantT' hf rfl rfl rfl hb487_ rfl) (fun w hv => Gg.y_move rfl (hf.g rfl)) hf rfl rfl ?_
                    intro a hf
                    refine Gg.qv (Gg.wantT' hf rfl rfl rfl hb487_ rfl) (fun w hv => Gg.y_neI Tryd.underlying3 rfl (hf.g rfl) (hf.g rfl)) hf rfl rfl ?_
                    intro a hf
                    refine Gg.qv (Gg.wN rfl) (fun w hv => Gg.y_pickF' rfl (hf.g rfl) hb487_ (hf.g rfl)) hf rfl rfl ?_
                    intro a hf
                    refine Gg.qv (Gg.wN rfl) (fun w hv => Gg.y_move rfl (hf.g rfl)) hf rfl rfl ?_
                    intro a hf
                    rcases Bool.eq_false_or_eq_true (!decide (r470_.1 = n351_)) with hb488_ | hb488_
                    · have h := Cin.cond_t hb488_ h
                      refine Gg.qs (Gg.wantF' hf rfl rfl rfl hb488_ rfl rfl) hf rfl rfl ?_
                      intro a hf
                      refine Gg.qs (Gg.wantF' hf rfl rfl rfl hb488_ rfl rfl) hf rfl rfl ?_
                      intro a hf
                      refine Gg.qs (Gg.wantF' hf rfl rfl rfl hb488_ rfl rfl) hf rfl rfl ?_
                      intro a hf
                      refine Gg.qs (Gg.wantU hf rfl rfl rfl rfl) hf rfl rfl ?_
                      intro a hf
                      refine Gg.qs (Gg.wantU hf rfl rfl rfl rfl) hf rfl rfl ?_
                      intro a hf
                      refine Gg.qs (Gg.wantU hf rfl rfl rfl rfl) hf rfl rfl ?_
                      intro a hf
                      refine Gg.qs (Gg.wantU hf rfl rfl rfl rfl) hf rfl rfl ?_
                      intro a hf
                      refine Gg.qs (Gg.wantU hf rfl rfl rfl rfl) hf rfl rfl ?_
                      intro a hf
                      refine Gg.qs (Gg.wantU hf rfl rfl rfl rfl) hf rfl rfl ?_
                      intro a hf
                      refine Gg.qs (Gg.wantU hf rfl rfl rfl rfl) hf rfl rfl ?_
                      intro a hf
                      refine Gg.qs (Gg.wantU hf rfl rfl rfl rfl) hf rfl rfl ?_
                      intro a hf
                      refine Gg.qs (Gg.wantU hf rfl rfl rfl rfl) hf rfl rfl ?_
                      intro a hf
                      refine Gg.qs (Gg.wantU hf rfl rfl rfl rfl) hf rfl rfl ?_
                      intro a hf
                      refine Gg.qs (Gg.wantU hf rfl rfl rfl rfl) hf rfl rfl ?_
                      intro a hf
                      refine Gg.qs (Gg.wantU hf rfl rfl rfl rfl) hf rfl rfl ?_
                      intro a hf
                      refine Gg.qs (Gg.wantF' hf rfl rfl rfl hb488_ rfl rfl) hf rfl rfl ?_
                      intro a hf
                      refine Gg.qv (Gg.wN rfl) (fun w hv => Gg.y_pickT' rfl (hf.g rfl) hb488_ (Gg.ec _ _)) hf rfl rfl ?_
                      intro a hf
                      refine wpQuiet_nil ?_
                      intro w hv
                      have hm := hm.keep hv
                      clear hv
                      have hf := hf.sub (l' := [(3, .slice A6_ r4_.1.length c7_), (7, .int .i64 n351_), (87, .bool true)]) ⟨rfl, rfl, rfl, trivial⟩
                      exact hK22 _ _ ⟨true, hf.sub ⟨rfl, rfl, rfl, trivial⟩, (hm).pick ⟨⟨0, rfl⟩, ⟨1, rfl⟩, trivial⟩, h⟩
                    · have h := Cin.cond_f hb488_ h
                      refine Gg.qv (Gg.wantT' hf rfl rfl rfl hb488_ rfl) (fun w hv => Gg.y_move rfl (hf.g rfl)) hf rfl rfl ?_
                      intro a hf
                      refine Gg.qv (Gg.wantT' hf rfl rfl rfl hb488_ rfl) (fun w hv => Gg.y_gtr rfl (hf.g rfl) (Gg.ec _ _)) hf rfl rfl ?_
                      intro a hf
                      refine Gg.qv (Gg.wantT' hf rfl rfl rfl hb488_ rfl) (fun w hv => Gg.y_move rfl (hf.g rfl)) hf rfl rfl ?_
                      intro a hf
                      rcases Bool.eq_false_or_eq_true (decide (0 < n351_)) with hb489_ | hb489_
                      · have h := Cin.cond_t hb489_ h
                        refine Gg.qv (Gg.wantT' hf rfl rfl rfl hb489_ rfl) (fun w hv => Gg.y_move rfl (hf.g rfl)) hf rfl rfl ?_
                        intro a hf
                        refine Gg.qv (Gg.wantT' hf rfl rfl rfl hb489_ rfl) (fun w hv => Gg.y_move rfl (hf.g rfl)) hf rfl rfl ?_
                        intro a hf
                        obtain ⟨x490_, hx491_, h⟩ := Cin.bind_s h
                        obtain ⟨hA492_, hi493_, _, rfl, hc494_⟩ := Gg.slice_at _ (hm.d 0 rfl) hx491_
                        refine Gg.qv (Gg.wantT' hf rfl rfl rfl hb489_ rfl) (fun w hv => Gg.y_idx Tryd.underlying22 Tryd.sizeOf40 rfl (hf.g rfl) (hf.g rfl) hA492_ hi493_) hf rfl rfl ?_
                        intro a hf
                        refine Gg.qv (Gg.wantT' hf rfl rfl rfl hb489_ rfl) (fun w hv => Gg.y_fld Tryd.underlying40 rfl Tryd.sizeOf3 rfl rfl (hf.g rfl)) hf rfl rfl ?_
                        intro a hf
                        refine Gg.qv (Gg.wantT' hf rfl rfl rfl hb489_ rfl) (fun w hv => Gg.y_load1 Tryd.isAgg3 rfl (hf.g rfl) (Gg.ev_cell hv (hc494_ 0 _ rfl))) hf rfl rfl ?_
                        intro a hf
                        refine Gg.qv (Gg.wantT' hf rfl rfl rfl hb489_ rfl) (fun w hv => Gg.y_move rfl (hf.g rfl)) hf rfl rfl ?_
                        intro a hf
                        refine Gg.qv (Gg.wantT' hf rfl rfl rfl hb489_ rfl) (fun w hv => Gg.y_move rfl (hf.g rfl)) hf rfl rfl ?_
                        intro a hf
                        refine Gg.qv (Gg.wantT' hf rfl rfl rfl hb489_ rfl) (fun w hv => Gg.y_sub64 rfl (hf.g rfl) (Gg.ec _ _)) hf rfl rfl ?_
                        intro a hf
                        obtain ⟨x495_, hx496_, h⟩ := Cin.bind_s h
                        obtain ⟨hA497_, hi498_, _, rfl, hc499_⟩ := Gg.slice_at _ (hm.d 0 rfl) hx496_
                        refine Gg.qv (Gg.wantT' hf rfl rfl rfl hb489_ rfl) (fun w hv => Gg.y_idx Tryd.underlying22 Tryd.sizeOf40 rfl (hf.g rfl) (hf.g rfl) hA497_ hi498_) hf rfl rfl ?_
                        intro a hf
                        refine Gg.qv (Gg.wantT' hf rfl rfl rfl hb489_ rfl) (fun w hv => Gg.y_fld Tryd.underlying40 rfl Tryd.sizeOf3 rfl rfl (hf.g rfl)) hf rfl rfl ?_
                        intro a hf
                        refine Gg.qv (Gg.wantT' hf rfl rfl rfl hb489_ rfl) (fun w hv => Gg.y_load1 Tryd.isAgg3 rfl (hf.g rfl) (Gg.ev_cell hv (hc499_ 0 _ rfl))) hf rfl rfl ?_
                        intro a hf
                        refine Gg.qv (Gg.wantT' hf rfl rfl rfl hb489_ rfl) (fun w hv => Gg.y_leq rfl (hf.g rfl) (hf.g rfl)) hf rfl rfl ?_
                        intro a hf
                        refine Gg.qv (Gg.wantT' hf rfl rfl rfl hb488_ rfl) (fun w hv => Gg.y_pickT' rfl (hf.g rfl) hb489_ (hf.g rfl)) hf rfl rfl ?_
                        intro a hf
                        refine Gg.qv (Gg.wN rfl) (fun w hv => Gg.y_pickF' rfl (hf.g rfl) hb488_ (hf.g rfl)) hf rfl rfl ?_
                        intro a hf
                        refine wpQuiet_nil ?_
                        intro w hv
                        have hm := hm.keep hv
                        clear hv
                        have hf := hf.sub (l' := [(3, .slice A6_ r4_.1.length c7_), (7, .int .i64 n351_), (87, .bool (decide (x490_.At ≤ x495_.At)))]) ⟨rfl, rfl, rfl, trivial⟩
                        exact hK22 _ _ ⟨decide (x490_.At ≤ x495_.At), hf.sub ⟨rfl, rfl, rfl, trivial⟩, (hm).pick ⟨⟨0, rfl⟩, ⟨1, rfl⟩, trivial⟩, h⟩
                      · have h := Cin.cond_f hb489_ h
                        refine Gg.qs (Gg.wantF' hf rfl rfl rfl hb489_ rfl rfl) hf rfl rfl ?_
                        intro a hf
                        refine Gg.qs (Gg.wantF' hf rfl rfl rfl hb489_ rfl rfl) hf rfl rfl ?_
                        intro a hf
                        refine Gg.qs (Gg.wantF' hf rfl rfl rfl hb489_ rfl rfl) hf rfl rfl ?_
                        intro a hf
                        refine Gg.qs (Gg.wantF' hf rfl rfl rfl hb489_ rfl rfl) hf rfl rfl ?_
                        intro a hf
                        refine Gg.qs (Gg.wantF' hf rfl rfl rfl hb489_ rfl rfl) hf rfl rfl ?_
                        intro a hf
                        refine Gg.qs (Gg.wantF' hf rfl rfl rfl hb489_ rfl rfl) hf rfl rfl ?_
                        intro a hf
                        refine Gg.qs (Gg.wantF' hf rfl rfl rfl hb489_ rfl rfl) hf rfl rfl ?_
                        intro a hf
                        refine Gg.qs (Gg.wantF' hf rfl rfl rfl hb489_ rfl rfl) hf rfl rfl ?_
                        intro a hf
                        refine Gg.qs (Gg.wantF' hf rfl rfl rfl hb489_ rfl rfl) hf rfl rfl ?_
                        intro a hf
                        refine Gg.qs (Gg.wantF' hf rfl rfl rfl hb489_ rfl rfl) hf rfl rfl ?_
                        intro a hf
                        refine Gg.qs (Gg.wantF' hf rfl rfl rfl hb489_ rfl rfl) hf rfl rfl ?_
                        intro a hf
                        refine Gg.qs (Gg.wantF' hf rfl rfl rfl hb489_ rfl rfl) hf rfl rfl ?_
                        intro a hf
                        refine Gg.qv (Gg.wantT' hf rfl rfl rfl hb488_ rfl) (fun w hv => Gg.y_pickF' rfl (hf.g rfl) hb489_ (Gg.ec _ _)) hf rfl rfl ?_
                        intro a hf
                        refine Gg.qv (Gg.wN rfl) (fun w hv => Gg.y_pickF' rfl (hf.g rfl) hb488_ (hf.g rfl)) hf rfl rfl ?_
                        intro a hf
                        refine wpQuiet_nil ?_
                        intro w hv
                        have hm := hm.keep hv
                        clear hv
                        have hf := hf.sub (l' := [(3, .slice A6_ r4_.1.length c7_), (7, .int .i64 n351_), (87, .bool false)]) ⟨rfl, rfl, rfl, trivial⟩
                        exact hK22 _ _ ⟨false, hf.sub ⟨rfl, rfl, rfl, trivial⟩, (hm).pick ⟨⟨0, rfl⟩, ⟨1, rfl⟩, trivial⟩, h⟩
                · rintro a w ⟨b485_, hf, hm, h⟩
                  subst hj486_
                  try dsimp only at h
                  refine Gg.c_cond (hf.g rfl) (fun hb500_ => ?_) (fun hb500_ => ?_)
                  · have h := Cin.cond_t hb500_ h
                    refine wp_seq_k ?_
                    intro K hK23
                    refine Gg.c_region ?_
                    refine Gg.sv (Gg.wN rfl) (Gg.y_assign rfl (Gg.ec _ _)) hf rfl rfl ?_
                    intro a hf
                    refine wpList_nil ?_
                    refine hK23 _ _ ?_
                    refine wp_ret ?_
                    cases h
                    refine Gg.x_retB ?_
                    refine Gg.x_retT ?_
                    refine Gg.x_retT ?_
                    refine Gg.x_retT ?_
                    refine Gg.x_retB ?_
                    refine Gg.x_retT ?_
                    refine Gg.x_retT ?_
                    refine Gg.r_one Tryd.results6 hf rfl ?_
                    exact ⟨rfl, hm.ev⟩
                  · have h := Cin.cond_f hb500_ h
                    refine wp_skip ?_
                    exact hK20 _ _ ⟨hf.sub ⟨rfl, rfl, trivial⟩, (hm).pick ⟨⟨0, rfl⟩, ⟨1, rfl⟩, trivial⟩, h⟩
              · rintro a w ⟨hf, hm, h⟩
                subst hj464_
                try dsimp only at h
                refine hK19 _ _ ?_
                refine Gg.c_region ?_
                refine Gg.sv (Gg.wN rfl) (Gg.y_move rfl (hf.g rfl)) hf rfl rfl ?_
                intro a hf
                refine Gg.sv (Gg.wN rfl) (Gg.y_add64 rfl (hf.g rfl) (Gg.ec _ _)) hf rfl rfl ?_
                intro a hf
                refine Gg.sv (Gg.wN rfl) (Gg.y_assign rfl (hf.g rfl)) hf rfl rfl ?_
                intro a hf
                refine wpList_nil ?_
                exact hK16 _ _ ⟨Cin.w64 (n351_ + 1), hf.sub ⟨rfl, rfl, trivial⟩, (hm).pick ⟨⟨0, rfl⟩, ⟨1, rfl⟩, trivial⟩, h⟩
            · have h := Cin.cond_f hb427_ h
              refine wp_exit ?_
              refine Gg.x_then ?_
              refine Gg.x_then ?_
              refine Gg.x_hit ?_
              exact hK15 _ _ ⟨hf.sub trivial, (hm).pick ⟨⟨0, rfl⟩, ⟨1, rfl⟩, trivial⟩, h⟩
        · rintro a w ⟨hf, hm, h⟩
          subst hj276_
          try dsimp only at h
          refine hK13 _ _ ?_
          refine wp_seq_k ?_
          intro K hK24
          refine Gg.c_region ?_
          refine Gg.sv (Gg.wN rfl) (Gg.y_assign rfl (Gg.ec _ _)) hf rfl rfl ?_
          intro a hf
          refine wpList_nil ?_
          refine hK24 _ _ ?_
          refine wp_ret ?_
          cases h
          refine Gg.r_one Tryd.results6 hf rfl ?_
          exact ⟨rfl, hm.ev⟩

end Go.Proofs.YtcioldnpdkfeoaaDoor
