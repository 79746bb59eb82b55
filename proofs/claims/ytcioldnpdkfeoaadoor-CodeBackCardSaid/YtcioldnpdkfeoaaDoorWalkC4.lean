/- The walks of this group, made by program. -/
import Derived.Test.YtcioldnpdkfeoaaDoorWalkC3
import Derived.Test.YtcioldnpdkfeoaaDoorPureC4
import Derived.Test.YtcioldnpdkfeoaaDoorChecked
namespace Go.Proofs.YtcioldnpdkfeoaaDoor
open Go Go.RowKit
set_option maxHeartbeats 4000000 in
set_option maxRecDepth 20000 in
theorem c_code_Place_1 {X : List Nat} {W : World} {i_ : Cin.Ins} {q1_ : Int} {r : Bool} {g2_ : Nat} (hX : ∀ k ∈ X, k < W.heap.size) (h : Cin.code_Place_1 i_ q1_ = some r) (d1 : (Gg.Dt.glob g2_ [.int .i64 q1_]).ok X W) :
    Calls Tryd.prog 23 [.agg #[.int .i64 i_.At, .int .i64 i_.Op, .int .i64 i_.A, .int .i64 i_.B], .pointer (some ⟨g2_, 0, none⟩)].toArray W (fun e w' => e = .returned (.bool r) ∧ Gg.Ev [] W w') := by
  refine Gg.enter Tryd.func23 rfl Tryd.ntmps23 rfl ?_
  intro a hf
  have hm := Gg.St.start0 X W [Gg.Dt.glob g2_ [.int .i64 q1_]] hX ⟨d1, trivial⟩
  rw [Cin.code_Place_1] at h
  refine wp_seq_k ?_
  intro K hK1
  refine Gg.c_region ?_
  refine Gg.snew (cs := [.int .i64 i_.At, .int .i64 i_.Op, .int .i64 i_.A, .int .i64 i_.B]) (Gg.wN rfl) (Gg.y_box rfl rfl (hf.g rfl)) hf hm rfl rfl ?_
  intro a g3_ w hf hm
  refine Gg.sv (Gg.wN rfl) (Gg.y_assign rfl (Gg.ec _ _)) hf rfl rfl ?_
  intro a hf
  refine wpList_nil ?_
  refine hK1 _ _ ?_
  refine wp_seq_k ?_
  intro K hK2
  refine Gg.c_region ?_
  refine Gg.sv (Gg.wN rfl) (Gg.y_fld Tryd.underlying40 rfl Tryd.sizeOf3 rfl rfl (hf.g rfl)) hf rfl rfl ?_
  intro a hf
  refine Gg.sv (Gg.wN rfl) (Gg.y_load1 Tryd.isAgg3 rfl (hf.g rfl) (Gg.blk_cell (hm.e 0 rfl) (j := 0) rfl)) hf rfl rfl ?_
  intro a hf
  refine Gg.sv (Gg.wN rfl) (Gg.y_load1 Tryd.isAgg3 rfl (hf.g rfl) ((hm.d 0 rfl).2.2 0 _ rfl)) hf rfl rfl ?_
  intro a hf
  refine Gg.sv (Gg.wN rfl) (Gg.y_eqI Tryd.underlying3 rfl (hf.g rfl) (hf.g rfl)) hf rfl rfl ?_
  intro a hf
  refine Gg.sv (Gg.wN rfl) (Gg.y_assign rfl (hf.g rfl)) hf rfl rfl ?_
  intro a hf
  refine wpList_nil ?_
  refine hK2 _ _ ?_
  refine wp_ret ?_
  cases h
  refine Gg.r_one Tryd.results23 hf rfl ?_
  exact ⟨rfl, hm.ev⟩

set_option maxHeartbeats 4000000 in
set_option maxRecDepth 20000 in
theorem c_slices_IndexFunc_api_Ins_api_Ins__code_Place_1 {X : List Nat} {W : World} {F : Nat} {s_ : List Cin.Ins} {q3_ : Int} {r : Int} {A1_ : Option Addr} {c2_ : Nat} {g4_ : Nat} (hX : ∀ k ∈ X, k < W.heap.size) (h : Cin.slices_IndexFunc_api_Ins_api_Ins__code_Place_1 F s_ q3_ = some r) (d1 : (Gg.Dt.of (Gg.tySlice Cin.ty_Ins) [.slice A1_ s_.length c2_] s_).ok X W) (d2 : (Gg.Dt.glob g4_ [.int .i64 q3_]).ok X W) :
    Calls Tryd.prog 22 [.slice A1_ s_.length c2_, .func (.func 23) #[] #[.pointer (some ⟨g4_, 0, none⟩)]].toArray W (fun e w' => e = .returned (.int .i64 r) ∧ Gg.Ev [] W w') := by
  refine Gg.enter Tryd.func22 rfl Tryd.ntmps22 rfl ?_
  intro a hf
  have hm := Gg.St.start0 X W [Gg.Dt.of (Gg.tySlice Cin.ty_Ins) [.slice A1_ s_.length c2_] s_, Gg.Dt.glob g4_ [.int .i64 q3_]] hX ⟨d1, d2, trivial⟩
  rw [Cin.slices_IndexFunc_api_Ins_api_Ins__code_Place_1] at h
  refine wp_seq_k ?_
  intro K hK1
  refine Gg.c_region ?_
  refine Gg.sv (Gg.wN rfl) (Gg.y_assign rfl (Gg.ec _ _)) hf rfl rfl ?_
  intro a hf
  refine wpList_nil ?_
  refine hK1 _ _ ?_
  refine wp_seq_k ?_
  intro K hK2
  refine wp_seq_k ?_
  intro K hK3
  refine Gg.c_region ?_
  refine Gg.sv (Gg.wN rfl) (Gg.y_move rfl (hf.g rfl)) hf rfl rfl ?_
  intro a hf
  refine Gg.sv (Gg.wN rfl) (Gg.y_len Tryd.underlying22 rfl (hf.g rfl)) hf rfl rfl ?_
  intro a hf
  refine Gg.sv (Gg.wN rfl) (Gg.y_move rfl (Gg.ec _ _)) hf rfl rfl ?_
  intro a hf
  refine wpList_nil ?_
  refine hK3 _ _ ?_
  obtain ⟨j34_, hj34_, h⟩ := Cin.join_s h
  refine Gg.c_blockJ (fun a w => Gg.Fr 19 [] a ∧ Gg.St W [] X w [] [Gg.Dt.of (Gg.tySlice Cin.ty_Ins) [.slice A1_ s_.length c2_] s_, Gg.Dt.glob g4_ [.int .i64 q3_]] ∧ j34_ () = some r) (fun K hK4 => ?_) ?_
  · clear hj34_
    refine Gg.c_loop (fun (k1_ : Nat) a w => ∃ (n44_ : Int), Gg.Fr 19 [(0, .slice A1_ s_.length c2_), (1, .func (.func 23) #[] #[.pointer (some ⟨g4_, 0, none⟩)]), (7, .int .i64 (s_.length : Int)), (8, .int .i64 n44_)] a ∧ Gg.St W [] X w [] [Gg.Dt.of (Gg.tySlice Cin.ty_Ins) [.slice A1_ s_.length c2_] s_, Gg.Dt.glob g4_ [.int .i64 q3_]] ∧ Cin.slices_IndexFunc_api_Ins_api_Ins__code_Place_1_L1 q3_ s_ j34_ k1_ n44_ = some r) F ⟨0, hf.sub ⟨rfl, rfl, rfl, rfl, trivial⟩, (hm).pick ⟨⟨0, rfl⟩, ⟨1, rfl⟩, trivial⟩, h⟩ ?_ ?_
    · rintro a w ⟨n44_, hf, hm, h⟩
      exact absurd h (by simp [Cin.slices_IndexFunc_api_Ins_api_Ins__code_Place_1_L1])
    · rintro k1_ a w ⟨n44_, hf, hm, h⟩ K hK5
      rw [Cin.slices_IndexFunc_api_Ins_api_Ins__code_Place_1_L1] at h
      refine wp_seq_k ?_
      intro K hK6
      refine Gg.c_region ?_
      refine Gg.sv (Gg.wN rfl) (Gg.y_lss rfl (hf.g rfl) (hf.g rfl)) hf rfl rfl ?_
      intro a hf
      refine wpList_nil ?_
      refine hK6 _ _ ?_
      refine wp_seq_k ?_
      intro K hK7
      refine Gg.c_cond (hf.g rfl) (fun hb55_ => ?_) (fun hb55_ => ?_)
      · have h := Cin.cond_t hb55_ h
        refine wp_skip ?_
        refine hK7 _ _ ?_
        refine wp_seq_k ?_
        intro K hK8
        refine wp_block ?_
        refine wp_seq_k ?_
        intro K hK9
        refine Gg.c_region ?_
        refine Gg.sv (Gg.wN rfl) (Gg.y_move rfl (hf.g rfl)) hf rfl rfl ?_
        intro a hf
        refine Gg.sv (Gg.wN rfl) (Gg.y_assign rfl (hf.g rfl)) hf rfl rfl ?_
        intro a hf
        refine wpList_nil ?_
        refine hK9 _ _ ?_
        refine wp_seq_k ?_
        intro K hK10
        refine Gg.c_region ?_
        refine Gg.sv (Gg.wN rfl) (Gg.y_move rfl (hf.g rfl)) hf rfl rfl ?_
        intro a hf
        refine Gg.sv (Gg.wN rfl) (Gg.y_move rfl (hf.g rfl)) hf rfl rfl ?_
        intro a hf
        refine Gg.sv (Gg.wN rfl) (Gg.y_move rfl (hf.g rfl)) hf rfl rfl ?_
        intro a hf
        obtain ⟨x56_, hx57_, h⟩ := Cin.bind_s h
        obtain ⟨hA58_, hi59_, _, rfl, hc60_⟩ := Gg.slice_at _ (hm.d 0 rfl) hx57_
        refine Gg.sv (Gg.wN rfl) (Gg.y_idx Tryd.underlying22 Tryd.sizeOf40 rfl (hf.g rfl) (hf.g rfl) hA58_ hi59_) hf rfl rfl ?_
        intro a hf
        refine Gg.sv (Gg.wN rfl) (Gg.y_loadN (cs := [.int .i64 x56_.At, .int .i64 x56_.Op, .int .i64 x56_.A, .int .i64 x56_.B]) Tryd.isAgg40 Tryd.sizeOf40 rfl rfl (hf.g rfl) (hc60_)) hf rfl rfl ?_
        intro a hf
        obtain ⟨r61_, hr62_, h⟩ := Cin.bind_s h
        refine Gg.scF (vs := [.agg #[.int .i64 x56_.At, .int .i64 x56_.Op, .int .i64 x56_.A, .int .i64 x56_.B]]) (cs := [.pointer (some ⟨g4_, 0, none⟩)]) (Gg.wN rfl) rfl Tryd.call23 (hf.g rfl) ⟨(hf.g rfl), trivial⟩ (c_code_Place_1 hm.ltM hr62_ (hm.d 1 rfl)) hf rfl rfl ?_
        rintro _ w ⟨rfl, hv⟩
        refine ⟨_, rfl, ?_⟩
        intro a hf
        have hm := hm.keep hv
        clear hv
        refine wpList_nil ?_
        refine hK10 _ _ ?_
        refine Gg.c_cond (hf.g rfl) (fun hb63_ => ?_) (fun hb63_ => ?_)
        · have h := Cin.cond_t hb63_ h
          refine wp_seq_k ?_
          intro K hK11
          refine Gg.c_region ?_
          refine Gg.sv (Gg.wN rfl) (Gg.y_move rfl (hf.g rfl)) hf rfl rfl ?_
          intro a hf
          refine Gg.sv (Gg.wN rfl) (Gg.y_assign rfl (hf.g rfl)) hf rfl rfl ?_
          intro a hf
          refine wpList_nil ?_
          have hf := hf.sub (l' := [(4, .int .i64 n44_)]) ⟨rfl, trivial⟩
          refine hK11 _ _ ?_
          refine wp_ret ?_
          cases h
          refine Gg.x_retB ?_
          refine Gg.x_retT ?_
          refine Gg.x_retT ?_
          refine Gg.x_retB ?_
          refine Gg.x_retT ?_
          refine Gg.x_retT ?_
          refine Gg.r_one Tryd.results22 hf rfl ?_
          exact ⟨rfl, hm.ev⟩
        · have h := Cin.cond_f hb63_ h
          refine wp_skip ?_
          refine hK8 _ _ ?_
          refine Gg.c_region ?_
          refine Gg.sv (Gg.wN rfl) (Gg.y_add64 rfl (hf.g rfl) (Gg.ec _ _)) hf rfl rfl ?_
          intro a hf
          refine Gg.sv (Gg.wN rfl) (Gg.y_move rfl (hf.g rfl)) hf rfl rfl ?_
          intro a hf
          refine wpList_nil ?_
          exact hK5 _ _ ⟨Cin.w64 (n44_ + 1), hf.sub ⟨rfl, rfl, rfl, rfl, trivial⟩, (hm).pick ⟨⟨0, rfl⟩, ⟨1, rfl⟩, trivial⟩, h⟩
      · have h := Cin.cond_f hb55_ h
        refine wp_exit ?_
        refine Gg.x_then ?_
        refine Gg.x_then ?_
        refine Gg.x_hit ?_
        exact hK4 _ _ ⟨hf.sub trivial, (hm).pick ⟨⟨0, rfl⟩, ⟨1, rfl⟩, trivial⟩, h⟩
  · rintro a w ⟨hf, hm, h⟩
    subst hj34_
    try dsimp only at h
    refine hK2 _ _ ?_
    refine wp_seq_k ?_
    intro K hK12
    refine Gg.c_region ?_
    refine Gg.sv (Gg.wN rfl) (Gg.y_assign rfl (Gg.ec _ _)) hf rfl rfl ?_
    intro a hf
    refine wpList_nil ?_
    refine hK12 _ _ ?_
    refine wp_ret ?_
    cases h
    refine Gg.r_one Tryd.results22 hf rfl ?_
    exact ⟨rfl, hm.ev⟩

set_option maxHeartbeats 4000000 in
set_option maxRecDepth 20000 in
theorem c_code_Place {X : List Nat} {W : World} {F : Nat} {l_ : List Cin.Ins} {at_ : Int} {r : Int × Int} {A1_ : Option Addr} {c2_ : Nat} (hX : ∀ k ∈ X, k < W.heap.size) (h : Cin.code_Place F l_ at_ = some r) (d1 : (Gg.Dt.of (Gg.tySlice Cin.ty_Ins) [.slice A1_ l_.length c2_] l_).ok X W) :
    Calls Tryd.prog 11 [.slice A1_ l_.length c2_, .int .i64 at_].toArray W (fun e w' => e = .returned (.tuple #[.int .i64 r.1, .int .i64 r.2]) ∧ Gg.Ev [] W w') := by
  refine Gg.enter Tryd.func11 rfl Tryd.ntmps11 rfl ?_
  intro a hf
  have hm := Gg.St.start0 X W [Gg.Dt.of (Gg.tySlice Cin.ty_Ins) [.slice A1_ l_.length c2_] l_] hX ⟨d1, trivial⟩
  rw [Cin.code_Place] at h
  refine wp_seq_k ?_
  intro K hK1
  refine Gg.c_region ?_
  refine Gg.snew (cs := [.int .i64 at_]) (Gg.wN rfl) (Gg.y_box rfl rfl (hf.g rfl)) hf hm rfl rfl ?_
  intro a g3_ w hf hm
  refine Gg.sv (Gg.wN rfl) (Gg.y_assign rfl (Gg.ec _ _)) hf rfl rfl ?_
  intro a hf
  refine Gg.sv (Gg.wN rfl) (Gg.y_assign rfl (Gg.ec _ _)) hf rfl rfl ?_
  intro a hf
  refine wpList_nil ?_
  refine hK1 _ _ ?_
  refine wp_seq_k ?_
  intro K hK2
  refine Gg.c_region ?_
  refine Gg.sv (Gg.wN rfl) (Gg.y_move rfl (hf.g rfl)) hf rfl rfl ?_
  intro a hf
  refine Gg.sv (Gg.wN rfl) (Gg.y_makeFunc (vs := [.pointer (some ⟨g3_, 0, none⟩)]) rfl (Gg.evs_map ⟨(hf.g rfl), trivial⟩)) hf rfl rfl ?_
  intro a hf
  obtain ⟨r4_, hr5_, h⟩ := Cin.bind_s h
  have hmr := hm.freezeB 0 rfl
  simp only [List.eraseIdx] at hmr
  refine Gg.sc (vs := [.slice A1_ l_.length c2_, .func (.func 23) #[] #[.pointer (some ⟨g3_, 0, none⟩)]]) (Gg.wN rfl) rfl Tryd.call22 ⟨(hf.g rfl), (hf.g rfl), trivial⟩ (c_slices_IndexFunc_api_Ins_api_Ins__code_Place_1 hmr.ltM hr5_ (hmr.d 1 rfl) (hmr.d 0 rfl)) hf rfl rfl ?_
  rintro _ w ⟨rfl, hv⟩
  refine ⟨_, rfl, ?_⟩
  intro a hf
  have hm := hm.keep hv
  clear hv
  clear hmr
  refine Gg.sv (Gg.wN rfl) (Gg.y_assign rfl (hf.g rfl)) hf rfl rfl ?_
  intro a hf
  refine wpList_nil ?_
  refine hK2 _ _ ?_
  refine wp_seq_k ?_
  intro K hK3
  refine wp_seq_k ?_
  intro K hK4
  refine Gg.c_region ?_
  refine Gg.sv (Gg.wN rfl) (Gg.y_move rfl (hf.g rfl)) hf rfl rfl ?_
  intro a hf
  refine Gg.sv (Gg.wN rfl) (Gg.y_lss rfl (hf.g rfl) (Gg.ec _ _)) hf rfl rfl ?_
  intro a hf
  refine wpList_nil ?_
  refine hK4 _ _ ?_
  refine Gg.c_cond (hf.g rfl) (fun hb6_ => ?_) (fun hb6_ => ?_)
  · have h := Cin.cond_t hb6_ h
    refine wp_seq_k ?_
    intro K hK5
    refine Gg.c_region ?_
    refine Gg.sv (Gg.wN rfl) (Gg.y_assign rfl (Gg.ec _ _)) hf rfl rfl ?_
    intro a hf
    refine Gg.sv (Gg.wN rfl) (Gg.y_assign rfl (Gg.ec _ _)) hf rfl rfl ?_
    intro a hf
    refine wpList_nil ?_
    refine hK5 _ _ ?_
    refine wp_ret ?_
    cases h
    refine Gg.x_retT ?_
    refine Gg.r_two Tryd.results11 hf rfl rfl ?_
    exact ⟨rfl, hm.ev⟩
  · have h := Cin.cond_f hb6_ h
    refine wp_skip ?_
    refine hK3 _ _ ?_
    refine wp_seq_k ?_
    intro K hK6
    refine Gg.c_region ?_
    refine Gg.sv (Gg.wN rfl) (Gg.y_move rfl (hf.g rfl)) hf rfl rfl ?_
    intro a hf
    refine Gg.sv (Gg.wN rfl) (Gg.y_assign rfl (hf.g rfl)) hf rfl rfl ?_
    intro a hf
    refine Gg.sv (Gg.wN rfl) (Gg.y_assign rfl (Gg.ec _ _)) hf rfl rfl ?_
    intro a hf
    refine wpList_nil ?_
    refine hK6 _ _ ?_
    refine wp_ret ?_
    cases h
    refine Gg.r_two Tryd.results11 hf rfl rfl ?_
    exact ⟨rfl, hm.ev⟩

set_option maxHeartbeats 4000000 in
set_option maxRecDepth 20000 in
theorem c_code_fits {X : List Nat} {W : World} {i_ : Cin.Ins} {r : Bool} (hX : ∀ k ∈ X, k < W.heap.size) (h : Cin.code_fits i_ = some r) (dg0 : (Gg.Dt.glob 0 [.int .i64 0, .int .i64 1, .int .i64 0, .int .i64 3, .int .i64 3, .int .i64 0, .int .i64 0, .int .i64 0, .int .i64 0, .int .i64 0, .int .i64 0, .int .i64 0, .int .i64 0, .int .i64 2, .int .i64 2, .int .i64 2, .int .i64 2, .int .i64 2, .int .i64 3, .int .i64 4, .int .i64 4, .int .i64 0, .int .i64 3, .int .i64 0, .int .i64 0, .int .i64 0, .int .i64 4, .int .i64 0, .int .i64 0, .int .i64 3, .int .i64 3, .int .i64 0, .int .i64 0, .int .i64 0, .int .i64 4, .int .i64 0, .int .i64 0]).ok X W) :
    Calls Tryd.prog 24 [.agg #[.int .i64 i_.At, .int .i64 i_.Op, .int .i64 i_.A, .int .i64 i_.B]].toArray W (fun e w' => e = .returned (.bool r) ∧ Gg.Ev [] W w') := by
  refine Gg.enter Tryd.func24 rfl Tryd.ntmps24 rfl ?_
  intro a hf
  have hm := Gg.St.start0 X W [Gg.Dt.glob 0 [.int .i64 0, .int .i64 1, .int .i64 0, .int .i64 3, .int .i64 3, .int .i64 0, .int .i64 0, .int .i64 0, .int .i64 0, .int .i64 0, .int .i64 0, .int .i64 0, .int .i64 0, .int .i64 2, .int .i64 2, .int .i64 2, .int .i64 2, .int .i64 2, .int .i64 3, .int .i64 4, .int .i64 4, .int .i64 0, .int .i64 3, .int .i64 0, .int .i64 0, .int .i64 0, .int .i64 4, .int .i64 0, .int .i64 0, .int .i64 3, .int .i64 3, .int .i64 0, .int .i64 0, .int .i64 0, .int .i64 4, .int .i64 0, .int .i64 0]] hX ⟨dg0, trivial⟩
  rw [Cin.code_fits] at h
  refine wp_seq_k ?_
  intro K hK1
  refine Gg.c_region ?_
  refine Gg.snew (cs := [.int .i64 i_.At, .int .i64 i_.Op, .int .i64 i_.A, .int .i64 i_.B]) (Gg.wN rfl) (Gg.y_box rfl rfl (hf.g rfl)) hf hm rfl rfl ?_
  intro a g1_ w hf hm
  refine Gg.sv (Gg.wN rfl) (Gg.y_assign rfl (Gg.ec _ _)) hf rfl rfl ?_
  intro a hf
  refine wpList_nil ?_
  refine hK1 _ _ ?_
  refine wp_seq_k ?_
  intro K hK2
  refine wp_seq_k ?_
  intro K hK3
  refine Gg.c_region ?_
  refine Gg.sv (Gg.wN rfl) (Gg.y_fld Tryd.underlying40 rfl Tryd.sizeOf3 rfl rfl (hf.g rfl)) hf rfl rfl ?_
  intro a hf
  refine Gg.sv (Gg.wN rfl) (Gg.y_load1 Tryd.isAgg3 rfl (hf.g rfl) (Gg.blk_cell (hm.e 0 rfl) (j := 1) rfl)) hf rfl rfl ?_
  intro a hf
  obtain ⟨x2_, hx3_, h⟩ := Cin.bind_s h
  have hc4_ := Gg.glob_at (hm.d 0 rfl) hx3_
  refine Gg.sv (Gg.wN rfl) (Gg.y_idxG Tryd.underlying43 Tryd.sizeOf42 rfl (Gg.eg _ _) (hf.g rfl) rfl hx3_) hf rfl rfl ?_
  intro a hf
  refine Gg.sv (Gg.wN rfl) (Gg.y_load1 Tryd.isAgg42 rfl (hf.g rfl) (hc4_)) hf rfl rfl ?_
  intro a hf
  refine wpList_nil ?_
  refine hK3 _ _ ?_
  refine wp_block ?_
  refine wp_seq_k ?_
  intro K hK4
  refine Gg.c_region ?_
  refine Gg.sv (Gg.wN rfl) (Gg.y_eqI Tryd.underlying42 rfl (hf.g rfl) (Gg.ec _ _)) hf rfl rfl ?_
  intro a hf
  refine Gg.sv (Gg.wN rfl) (Gg.y_assign rfl (hf.g rfl)) hf rfl rfl ?_
  intro a hf
  refine wpList_nil ?_
  refine hK4 _ _ ?_
  refine Gg.c_cond (hf.g rfl) (fun hb5_ => ?_) (fun hb5_ => ?_)
  · have h := Cin.cond_t hb5_ h
    refine wp_seq_k ?_
    intro K hK5
    refine Gg.c_region ?_
    refine Gg.sv (Gg.wN rfl) (Gg.y_fld Tryd.underlying40 rfl Tryd.sizeOf3 rfl rfl (hf.g rfl)) hf rfl rfl ?_
    intro a hf
    refine Gg.sv (Gg.wN rfl) (Gg.y_load1 Tryd.isAgg3 rfl (hf.g rfl) (Gg.blk_cell (hm.e 0 rfl) (j := 2) rfl)) hf rfl rfl ?_
    intro a hf
    obtain ⟨r6_, hr7_, h⟩ := Cin.bind_s h
    refine Gg.sc (vs := [.int .i64 i_.A, .int .i64 (-32768), .int .i64 32767]) (Gg.wN rfl) rfl Tryd.call28 ⟨(hf.g rfl), (Gg.ec _ _), (Gg.ec _ _), trivial⟩ (c_code_within hm.ltM hr7_ ) hf rfl rfl ?_
    rintro _ w ⟨rfl, hv⟩
    refine ⟨_, rfl, ?_⟩
    intro a hf
    have hm := hm.keep hv
    clear hv
    refine Gg.sv (Gg.wN rfl) (Gg.y_move rfl (hf.g rfl)) hf rfl rfl ?_
    intro a hf
    rcases Bool.eq_false_or_eq_true r6_ with hb8_ | hb8_
    · have h := Cin.cond_t hb8_ h
      refine Gg.sv (Gg.wantT' hf rfl rfl rfl hb8_ rfl) (Gg.y_fld Tryd.underlying40 rfl Tryd.sizeOf3 rfl rfl (hf.g rfl)) hf rfl rfl ?_
      intro a hf
      refine Gg.sv (Gg.wantT' hf rfl rfl rfl hb8_ rfl) (Gg.y_load1 Tryd.isAgg3 rfl (hf.g rfl) (Gg.blk_cell (hm.e 0 rfl) (j := 3) rfl)) hf rfl rfl ?_
      intro a hf
      refine Gg.sv (Gg.wantT' hf rfl rfl rfl hb8_ rfl) (Gg.y_eqI Tryd.underlying3 rfl (hf.g rfl) (Gg.ec _ _)) hf rfl rfl ?_
      intro a hf
      refine Gg.sv (Gg.wN rfl) (Gg.y_pickT' rfl (hf.g rfl) hb8_ (hf.g rfl)) hf rfl rfl ?_
      intro a hf
      refine Gg.sv (Gg.wN rfl) (Gg.y_assign rfl (hf.g rfl)) hf rfl rfl ?_
      intro a hf
      refine wpList_nil ?_
      have hf := hf.sub (l' := [(2, .bool (decide (i_.B = 0)))]) ⟨rfl, trivial⟩
      refine hK5 _ _ ?_
      refine wp_ret ?_
      cases h
      refine Gg.x_retB ?_
      refine Gg.x_retT ?_
      refine Gg.r_one Tryd.results24 hf rfl ?_
      exact ⟨rfl, hm.ev⟩
    · have h := Cin.cond_f hb8_ h
      refine Gg.ss (Gg.wantF' hf rfl rfl rfl hb8_ rfl rfl) hf rfl rfl ?_
      intro a hf
      refine Gg.ss (Gg.wantF' hf rfl rfl rfl hb8_ rfl rfl) hf rfl rfl ?_
      intro a hf
      refine Gg.ss (Gg.wantF' hf rfl rfl rfl hb8_ rfl rfl) hf rfl rfl ?_
      intro a hf
      refine Gg.sv (Gg.wN rfl) (Gg.y_pickF' rfl (hf.g rfl) hb8_ (Gg.ec _ _)) hf rfl rfl ?_
      intro a hf
      refine Gg.sv (Gg.wN rfl) (Gg.y_assign rfl (hf.g rfl)) hf rfl rfl ?_
      intro a hf
      refine wpList_nil ?_
      have hf := hf.sub (l' := [(2, .bool false)]) ⟨rfl, trivial⟩
      refine hK5 _ _ ?_
      refine wp_ret ?_
      cases h
      refine Gg.x_retB ?_
      refine Gg.x_retT ?_
      refine Gg.r_one Tryd.results24 hf rfl ?_
      exact ⟨rfl, hm.ev⟩
  · have h := Cin.cond_f hb5_ h
    refine wp_seq_k ?_
    intro K hK6
    refine Gg.c_region ?_
    refine Gg.sv (Gg.wN rfl) (Gg.y_eqI Tryd.underlying42 rfl (hf.g rfl) (Gg.ec _ _)) hf rfl rfl ?_
    intro a hf
    refine Gg.sv (Gg.wN rfl) (Gg.y_assign rfl (hf.g rfl)) hf rfl rfl ?_
    intro a hf
    refine wpList_nil ?_
    refine hK6 _ _ ?_
    refine Gg.c_cond (hf.g rfl) (fun hb9_ => ?_) (fun hb9_ => ?_)
    · have h := Cin.cond_t hb9_ h
      refine wp_seq_k ?_
      intro K hK7
      refine Gg.c_region ?_
      refine Gg.sv (Gg.wN rfl) (Gg.y_fld Tryd.underlying40 rfl Tryd.sizeOf3 rfl rfl (hf.g rfl)) hf rfl rfl ?_
      intro a hf
      refine Gg.sv (Gg.wN rfl) (Gg.y_load1 Tryd.isAgg3 rfl (hf.g rfl) (Gg.blk_cell (hm.e 0 rfl) (j := 2) rfl)) hf rfl rfl ?_
      intro a hf
      obtain ⟨r10_, hr11_, h⟩ := Cin.bind_s h
      refine Gg.sc (vs := [.int .i64 i_.A, .int .i64 0, .int .i64 65535]) (Gg.wN rfl) rfl Tryd.call28 ⟨(hf.g rfl), (Gg.ec _ _), (Gg.ec _ _), trivial⟩ (c_code_within hm.ltM hr11_ ) hf rfl rfl ?_
      rintro _ w ⟨rfl, hv⟩
      refine ⟨_, rfl, ?_⟩
      intro a hf
      have hm := hm.keep hv
      clear hv
      refine Gg.sv (Gg.wN rfl) (Gg.y_move rfl (hf.g rfl)) hf rfl rfl ?_
      intro a hf
      rcases Bool.eq_false_or_eq_true r10_ with hb12_ | hb12_
      · have h := Cin.cond_t hb12_ h
        refine Gg.sv (Gg.wantT' hf rfl rfl rfl hb12_ rfl) (Gg.y_fld Tryd.underlying40 rfl Tryd.sizeOf3 rfl rfl (hf.g rfl)) hf rfl rfl ?_
        intro a hf
        refine Gg.sv (Gg.wantT' hf rfl rfl rfl hb12_ rfl) (Gg.y_load1 Tryd.isAgg3 rfl (hf.g rfl) (Gg.blk_cell (hm.e 0 rfl) (j := 3) rfl)) hf rfl rfl ?_
        intro a hf
        refine Gg.sv (Gg.wantT' hf rfl rfl rfl hb12_ rfl) (Gg.y_eqI Tryd.underlying3 rfl (hf.g rfl) (Gg.ec _ _)) hf rfl rfl ?_
        intro a hf
        refine Gg.sv (Gg.wN rfl) (Gg.y_pickT' rfl (hf.g rfl) hb12_ (hf.g rfl)) hf rfl rfl ?_
        intro a hf
        refine Gg.sv (Gg.wN rfl) (Gg.y_assign rfl (hf.g rfl)) hf rfl rfl ?_
        intro a hf
        refine wpList_nil ?_
        have hf := hf.sub (l' := [(2, .bool (decide (i_.B = 0)))]) ⟨rfl, trivial⟩
        refine hK7 _ _ ?_
        refine wp_ret ?_
        cases h
        refine Gg.x_retB ?_
        refine Gg.x_retT ?_
        refine Gg.r_one Tryd.results24 hf rfl ?_
        exact ⟨rfl, hm.ev⟩
      · have h := Cin.cond_f hb12_ h
        refine Gg.ss (Gg.wantF' hf rfl rfl rfl hb12_ rfl rfl) hf rfl rfl ?_
        intro a hf
        refine Gg.ss (Gg.wantF' hf rfl rfl rfl hb12_ rfl rfl) hf rfl rfl ?_
        intro a hf
        refine Gg.ss (Gg.wantF' hf rfl rfl rfl hb12_ rfl rfl) hf rfl rfl ?_
        intro a hf
        refine Gg.sv (Gg.wN rfl) (Gg.y_pickF' rfl (hf.g rfl) hb12_ (Gg.ec _ _)) hf rfl rfl ?_
        intro a hf
        refine Gg.sv (Gg.wN rfl) (Gg.y_assign rfl (hf.g rfl)) hf rfl rfl ?_
        intro a hf
        refine wpList_nil ?_
        have hf := hf.sub (l' := [(2, .bool false)]) ⟨rfl, trivial⟩
        refine hK7 _ _ ?_
        refine wp_ret ?_
        cases h
        refine Gg.x_retB ?_
        refine Gg.x_retT ?_
        refine Gg.r_one Tryd.results24 hf rfl ?_
        exact ⟨rfl, hm.ev⟩
    · have h := Cin.cond_f hb9_ h
      refine wp_seq_k ?_
      intro K hK8
      refine Gg.c_region ?_
      refine Gg.sv (Gg.wN rfl) (Gg.y_eqI Tryd.underlying42 rfl (hf.g rfl) (Gg.ec _ _)) hf rfl rfl ?_
      intro a hf
      refine Gg.sv (Gg.wN rfl) (Gg.y_assign rfl (hf.g rfl)) hf rfl rfl ?_
      intro a hf
      refine wpList_nil ?_
      refine hK8 _ _ ?_
      refine Gg.c_cond (hf.g rfl) (fun hb13_ => ?_) (fun hb13_ => ?_)
      · have h := Cin.cond_t hb13_ h
        refine wp_seq_k ?_
        intro K hK9
        refine Gg.c_region ?_
        refine Gg.sv (Gg.wN rfl) (Gg.y_fld Tryd.underlying40 rfl Tryd.sizeOf3 rfl rfl (hf.g rfl)) hf rfl rfl ?_
        intro a hf
        refine Gg.sv (Gg.wN rfl) (Gg.y_load1 Tryd.isAgg3 rfl (hf.g rfl) (Gg.blk_cell (hm.e 0 rfl) (j := 2) rfl)) hf rfl rfl ?_
        intro a hf
        obtain ⟨r14_, hr15_, h⟩ := Cin.bind_s h
        refine Gg.sc (vs := [.int .i64 i_.A, .int .i64 0, .int .i64 255]) (Gg.wN rfl) rfl Tryd.call28 ⟨(hf.g rfl), (Gg.ec _ _), (Gg.ec _ _), trivial⟩ (c_code_within hm.ltM hr15_ ) hf rfl rfl ?_
        rintro _ w ⟨rfl, hv⟩
        refine ⟨_, rfl, ?_⟩
        intro a hf
        have hm := hm.keep hv
        clear hv
        refine Gg.sv (Gg.wN rfl) (Gg.y_move rfl (hf.g rfl)) hf rfl rfl ?_
        intro a hf
        rcases Bool.eq_false_or_eq_true r14_ with hb16_ | hb16_
        · have h := Cin.cond_t hb16_ h
          refine Gg.sv (Gg.wantT' hf rfl rfl rfl hb16_ rfl) (Gg.y_fld Tryd.underlying40 rfl Tryd.sizeOf3 rfl rfl (hf.g rfl)) hf rfl rfl ?_
          intro a hf
          refine Gg.sv (Gg.wantT' hf rfl rfl rfl hb16_ rfl) (Gg.y_load1 Tryd.isAgg3 rfl (hf.g rfl) (Gg.blk_cell (hm.e 0 rfl) (j := 3) rfl)) hf rfl rfl ?_
          intro a hf
          refine Gg.sv (Gg.wantT' hf rfl rfl rfl hb16_ rfl) (Gg.y_eqI Tryd.underlying3 rfl (hf.g rfl) (Gg.ec _ _)) hf rfl rfl ?_
          intro a hf
          refine Gg.sv (Gg.wN rfl) (Gg.y_pickT' rfl (hf.g rfl) hb16_ (hf.g rfl)) hf rfl rfl ?_
          intro a hf
          refine Gg.sv (Gg.wN rfl) (Gg.y_assign rfl (hf.g rfl)) hf rfl rfl ?_
          intro a hf
          refine wpList_nil ?_
          have hf := hf.sub (l' := [(2, .bool (decide (i_.B = 0)))]) ⟨rfl, trivial⟩
          refine hK9 _ _ ?_
          refine wp_ret ?_
          cases h
          refine Gg.x_retB ?_
          refine Gg.x_retT ?_
          refine Gg.r_one Tryd.results24 hf rfl ?_
          exact ⟨rfl, hm.ev⟩
        · have h := Cin.cond_f hb16_ h
          refine Gg.ss (Gg.wantF' hf rfl rfl rfl hb16_ rfl rfl) hf rfl rfl ?_
          intro a hf
          refine Gg.ss (Gg.wantF' hf rfl rfl rfl hb16_ rfl rfl) hf rfl rfl ?_
          intro a hf
          refine Gg.ss (Gg.wantF' hf rfl rfl rfl hb16_ rfl rfl) hf rfl rfl ?_
          intro a hf
          refine Gg.sv (Gg.wN rfl) (Gg.y_pickF' rfl (hf.g rfl) hb16_ (Gg.ec _ _)) hf rfl rfl ?_
          intro a hf
          refine Gg.sv (Gg.wN rfl) (Gg.y_assign rfl (hf.g rfl)) hf rfl rfl ?_
          intro a hf
          refine wpList_nil ?_
          have hf := hf.sub (l' := [(2, .bool false)]) ⟨rfl, trivial⟩
          refine hK9 _ _ ?_
          refine wp_ret ?_
          cases h
          refine Gg.x_retB ?_
          refine Gg.x_retT ?_
          refine Gg.r_one Tryd.results24 hf rfl ?_
          exact ⟨rfl, hm.ev⟩
      · have h := Cin.cond_f hb13_ h
        refine wp_seq_k ?_
        intro K hK10
        refine Gg.c_region ?_
        refine Gg.sv (Gg.wN rfl) (Gg.y_eqI Tryd.underlying42 rfl (hf.g rfl) (Gg.ec _ _)) hf rfl rfl ?_
        intro a hf
        refine Gg.sv (Gg.wN rfl) (Gg.y_assign rfl (hf.g rfl)) hf rfl rfl ?_
        intro a hf
        refine wpList_nil ?_
        have hf := hf.sub (l' := [(1, .pointer (some ⟨g1_, 0, none⟩)), (37, .bool (decide (x2_ = 4)))]) ⟨rfl, rfl, trivial⟩
        refine hK10 _ _ ?_
        refine Gg.c_cond (hf.g rfl) (fun hb17_ => ?_) (fun hb17_ => ?_)
        · have h := Cin.cond_t hb17_ h
          refine wp_seq_k ?_
          intro K hK11
          refine Gg.c_region ?_
          refine Gg.sv (Gg.wN rfl) (Gg.y_fld Tryd.underlying40 rfl Tryd.sizeOf3 rfl rfl (hf.g rfl)) hf rfl rfl ?_
          intro a hf
          refine Gg.sv (Gg.wN rfl) (Gg.y_load1 Tryd.isAgg3 rfl (hf.g rfl) (Gg.blk_cell (hm.e 0 rfl) (j := 2) rfl)) hf rfl rfl ?_
          intro a hf
          obtain ⟨r18_, hr19_, h⟩ := Cin.bind_s h
          refine Gg.sc (vs := [.int .i64 i_.A, .int .i64 0, .int .i64 255]) (Gg.wN rfl) rfl Tryd.call28 ⟨(hf.g rfl), (Gg.ec _ _), (Gg.ec _ _), trivial⟩ (c_code_within hm.ltM hr19_ ) hf rfl rfl ?_
          rintro _ w ⟨rfl, hv⟩
          refine ⟨_, rfl, ?_⟩
          intro a hf
          have hm := hm.keep hv
          clear hv
          refine Gg.sv (Gg.wN rfl) (Gg.y_move rfl (hf.g rfl)) hf rfl rfl ?_
          intro a hf
          rcases Bool.eq_false_or_eq_true r18_ with hb20_ | hb20_
          · have h := Cin.cond_t hb20_ h
            refine Gg.sv (Gg.wantT' hf rfl rfl rfl hb20_ rfl) (Gg.y_fld Tryd.underlying40 rfl Tryd.sizeOf3 rfl rfl (hf.g rfl)) hf rfl rfl ?_
            intro a hf
            refine Gg.sv (Gg.wantT' hf rfl rfl rfl hb20_ rfl) (Gg.y_load1 Tryd.isAgg3 rfl (hf.g rfl) (Gg.blk_cell (hm.e 0 rfl) (j := 3) rfl)) hf rfl rfl ?_
            intro a hf
            obtain ⟨r21_, hr22_, h⟩ := Cin.bind_s h
            refine Gg.sc (vs := [.int .i64 i_.B, .int .i64 0, .int .i64 255]) (Gg.wantT' hf rfl rfl rfl hb20_ rfl) rfl Tryd.call28 ⟨(hf.g rfl), (Gg.ec _ _), (Gg.ec _ _), trivial⟩ (c_code_within hm.ltM hr22_ ) hf rfl rfl ?_
            rintro _ w ⟨rfl, hv⟩
            refine ⟨_, rfl, ?_⟩
            intro a hf
            have hm := hm.keep hv
            clear hv
            refine Gg.sv (Gg.wN rfl) (Gg.y_pickT' rfl (hf.g rfl) hb20_ (hf.g rfl)) hf rfl rfl ?_
            intro a hf
            refine Gg.sv (Gg.wN rfl) (Gg.y_assign rfl (hf.g rfl)) hf rfl rfl ?_
            intro a hf
            refine wpList_nil ?_
            refine hK11 _ _ ?_
            refine wp_ret ?_
            cases h
            refine Gg.x_retB ?_
            refine Gg.x_retT ?_
            refine Gg.r_one Tryd.results24 hf rfl ?_
            exact ⟨rfl, hm.ev⟩
          · have h := Cin.cond_f hb20_ h
            refine Gg.ss (Gg.wantF' hf rfl rfl rfl hb20_ rfl rfl) hf rfl rfl ?_
            intro a hf
            refine Gg.ss (Gg.wantF' hf rfl rfl rfl hb20_ rfl rfl) hf rfl rfl ?_
            intro a hf
            refine Gg.ss (Gg.wantF' hf rfl rfl rfl hb20_ rfl rfl) hf rfl rfl ?_
            intro a hf
            refine Gg.sv (Gg.wN rfl) (Gg.y_pickF' rfl (hf.g rfl) hb20_ (Gg.ec _ _)) hf rfl rfl ?_
            intro a hf
            refine Gg.sv (Gg.wN rfl) (Gg.y_assign rfl (hf.g rfl)) hf rfl rfl ?_
            intro a hf
            refine wpList_nil ?_
            refine hK11 _ _ ?_
            refine wp_ret ?_
            cases h
            refine Gg.x_retB ?_
            refine Gg.x_retT ?_
            refine Gg.r_one Tryd.results24 hf rfl ?_
            exact ⟨rfl, hm.ev⟩
        · have h := Cin.cond_f hb17_ h
          refine wp_skip ?_
          refine hK2 _ _ ?_
          refine wp_seq_k ?_
          intro K hK12
          refine Gg.c_region ?_
          refine Gg.sv (Gg.wN rfl) (Gg.y_fld Tryd.underlying40 rfl Tryd.sizeOf3 rfl rfl (hf.g rfl)) hf rfl rfl ?_
          intro a hf
          refine Gg.sv (Gg.wN rfl) (Gg.y_load1 Tryd.isAgg3 rfl (hf.g rfl) (Gg.blk_cell (hm.e 0 rfl) (j := 2) rfl)) hf rfl rfl ?_
          intro a hf
          refine Gg.sv (Gg.wN rfl) (Gg.y_eqI Tryd.underlying3 rfl (hf.g rfl) (Gg.ec _ _)) hf rfl rfl ?_
          intro a hf
          refine Gg.sv (Gg.wN rfl) (Gg.y_move rfl (hf.g rfl)) hf rfl rfl ?_
          intro a hf
          rcases Bool.eq_false_or_eq_true (decide (i_.A = 0)) with hb23_ | hb23_
          · have h := Cin.cond_t hb23_ h
            refine Gg.sv (Gg.wantT' hf rfl rfl rfl hb23_ rfl) (Gg.y_fld Tryd.underlying40 rfl Tryd.sizeOf3 rfl rfl (hf.g rfl)) hf rfl rfl ?_
            intro a hf
            refine Gg.sv (Gg.wantT' hf rfl rfl rfl hb23_ rfl) (Gg.y_load1 Tryd.isAgg3 rfl (hf.g rfl) (Gg.blk_cell (hm.e 0 rfl) (j := 3) rfl)) hf rfl rfl ?_
            intro a hf
            refine Gg.sv (Gg.wantT' hf rfl rfl rfl hb23_ rfl) (Gg.y_eqI Tryd.underlying3 rfl (hf.g rfl) (Gg.ec _ _)) hf rfl rfl ?_
            intro a hf
            refine Gg.sv (Gg.wN rfl) (Gg.y_pickT' rfl (hf.g rfl) hb23_ (hf.g rfl)) hf rfl rfl ?_
            intro a hf
            refine Gg.sv (Gg.wN rfl) (Gg.y_assign rfl (hf.g rfl)) hf rfl rfl ?_
            intro a hf
            refine wpList_nil ?_
            refine hK12 _ _ ?_
            refine wp_ret ?_
            cases h
            refine Gg.r_one Tryd.results24 hf rfl ?_
            exact ⟨rfl, hm.ev⟩
          · have h := Cin.cond_f hb23_ h
            refine Gg.ss (Gg.wantF' hf rfl rfl rfl hb23_ rfl rfl) hf rfl rfl ?_
            intro a hf
            refine Gg.ss (Gg.wantF' hf rfl rfl rfl hb23_ rfl rfl) hf rfl rfl ?_
            intro a hf
            refine Gg.ss (Gg.wantF' hf rfl rfl rfl hb23_ rfl rfl) hf rfl rfl ?_
            intro a hf
            refine Gg.sv (Gg.wN rfl) (Gg.y_pickF' rfl (hf.g rfl) hb23_ (Gg.ec _ _)) hf rfl rfl ?_
            intro a hf
            refine Gg.sv (Gg.wN rfl) (Gg.y_assign rfl (hf.g rfl)) hf rfl rfl ?_
            intro a hf
            refine wpList_nil ?_
            refine hK12 _ _ ?_
            refine wp_ret ?_
            cases h
            refine Gg.r_one Tryd.results24 hf rfl ?_
            exact ⟨rfl, hm.ev⟩

set_option maxHeartbeats 4000000 in
set_option maxRecDepth 20000 in
theorem c_code_Decode {X : List Nat} {W : World} {F : Nat} {s_ : List UInt8} {r : (List Cin.Ins) × Cin.Fault} (hX : ∀ k ∈ X, k < W.heap.size) (h : Cin.code_Decode F s_ = some r) (dg0 : (Gg.Dt.glob 0 [.int .i64 0, .int .i64 1, .int .i64 0, .int .i64 3, .int .i64 3, .int .i64 0, .int .i64 0, .int .i64 0, .int .i64 0, .int .i64 0, .int .i64 0, .int .i64 0, .int .i64 0, .int .i64 2, .int .i64 2, .int .i64 2, .int .i64 2, .int .i64 2, .int .i64 3, .int .i64 4, .int .i64 4, .int .i64 0, .int .i64 3, .int .i64 0, .int .i64 0, .int .i64 0, .int .i64 4, .int .i64 0, .int .i64 0, .int .i64 3, .int .i64 3, .int .i64 0, .int .i64 0, .int .i64 0, .int .i64 4, .int .i64 0, .int .i64 0]).ok X W) :
    Calls Tryd.prog 7 [Gg.Str s_].toArray W (fun e w' => ∃ (A3539_ : Option Addr) (c3540_ : Nat), e = .returned (.tuple #[.slice A3539_ r.1.length c3540_, .agg #[.int .i64 r.2.Err, .int .i64 r.2.At]]) ∧ Gg.Ev [] W w' ∧ (Gg.Dt.of (Gg.tySlice Cin.ty_Ins) [.slice A3539_ r.1.length c3540_] r.1).ok X w') := by
  refine Gg.enter Tryd.func7 rfl Tryd.ntmps7 rfl ?_
  intro a hf
  have hm := Gg.St.start0 X W [Gg.Dt.glob 0 [.int .i64 0, .int .i64 1, .int .i64 0, .int .i64 3, .int .i64 3, .int .i64 0, .int .i64 0, .int .i64 0, .int .i64 0, .int .i64 0, .int .i64 0, .int .i64 0, .int .i64 0, .int .i64 2, .int .i64 2, .int .i64 2, .int .i64 2, .int .i64 2, .int .i64 3, .int .i64 4, .int .i64 4, .int .i64 0, .int .i64 3, .int .i64 0, .int .i64 0, .int .i64 0, .int .i64 4, .int .i64 0, .int .i64 0, .int .i64 3, .int .i64 3, .int .i64 0, .int .i64 0, .int .i64 0, .int .i64 4, .int .i64 0, .int .i64 0]] hX ⟨dg0, trivial⟩
  rw [Cin.code_Decode] at h
  refine wp_seq_k ?_
  intro K hK1
  refine Gg.c_region ?_
  refine Gg.sv (Gg.wN rfl) (Gg.y_assign rfl (Gg.ec _ _)) hf rfl rfl ?_
  intro a hf
  refine Gg.snew (cs := [.int .i64 0, .int .i64 0]) (Gg.wN rfl) (Gg.y_alloc Tryd.zeroValue25 rfl rfl) hf hm rfl rfl ?_
  intro a g1_ w hf hm
  refine wpList_nil ?_
  refine hK1 _ _ ?_
  refine wp_seq_k ?_
  intro K hK2
  refine wp_block ?_
  refine wp_seq_k ?_
  intro K hK3
  refine Gg.c_region ?_
  refine Gg.sv (Gg.wN rfl) (Gg.y_move rfl (hf.g rfl)) hf rfl rfl ?_
  intro a hf
  refine Gg.sv (Gg.wN rfl) (Gg.y_lenS Tryd.underlying9 rfl (hf.g rfl)) hf rfl rfl ?_
  intro a hf
  refine Gg.sv (Gg.wN rfl) (Gg.y_gtr rfl (hf.g rfl) (Gg.ec _ _)) hf rfl rfl ?_
  intro a hf
  refine Gg.sv (Gg.wN rfl) (Gg.y_assign rfl (hf.g rfl)) hf rfl rfl ?_
  intro a hf
  refine wpList_nil ?_
  refine hK3 _ _ ?_
  refine Gg.c_cond (hf.g rfl) (fun hb2_ => ?_) (fun hb2_ => ?_)
  · have h := Cin.cond_t hb2_ h
    refine wp_seq_k ?_
    intro K hK4
    refine Gg.c_region ?_
    refine Gg.sv (Gg.wN rfl) (Gg.y_build (vs := [(0, .int .i64 2)]) (cs := [.int .i64 2, .int .i64 0]) Tryd.zeroValue25 Tryd.underlying25 places25 rfl ⟨⟨(Gg.ec _ _), rfl⟩, trivial⟩ rfl) hf rfl rfl ?_
    intro a hf
    refine Gg.sv (Gg.wN rfl) (Gg.y_assign rfl (Gg.ec _ _)) hf rfl rfl ?_
    intro a hf
    refine Gg.sst (vs := [.int .i64 2, .int .i64 0]) 0 hm rfl (Gg.wN rfl) rfl Tryd.sizeOf25 rfl rfl rfl rfl (hf.g rfl) (hf.g rfl) rfl ?_
    intro w hm
    simp only [List.set, Gg.lay, List.drop, List.length, List.cons_append, List.nil_append] at hm
    refine wpList_nil ?_
    refine hK4 _ _ ?_
    refine wp_ret ?_
    cases h
    refine Gg.x_retB ?_
    refine Gg.x_retT ?_
    refine Gg.r_any (vs := [.slice none 0 0, .agg #[.int .i64 2, .int .i64 0]]) Tryd.results7 hf ⟨hf.g rfl, ⟨_, _, hf.g rfl, .inl ⟨[.int .i64 2, .int .i64 0], Tryd.isAgg25, Tryd.sizeOf25, Gg.blk_cells (hm.e 0 rfl) 0 ⟨rfl, rfl, trivial⟩, rfl⟩⟩, trivial⟩ ?_
    exact ⟨none, 0, rfl, hm.ev, Gg.nil_ok _ _ _⟩
  · have h := Cin.cond_f hb2_ h
    refine wp_seq_k ?_
    intro K hK5
    refine Gg.c_region ?_
    refine Gg.sv (Gg.wN rfl) (Gg.y_move rfl (hf.g rfl)) hf rfl rfl ?_
    intro a hf
    refine Gg.sv (Gg.wN rfl) (Gg.y_eqS Tryd.underlying9 rfl (hf.g rfl) (Gg.ec _ _)) hf rfl rfl ?_
    intro a hf
    refine Gg.sv (Gg.wN rfl) (Gg.y_assign rfl (hf.g rfl)) hf rfl rfl ?_
    intro a hf
    refine wpList_nil ?_
    refine hK5 _ _ ?_
    refine Gg.c_cond (hf.g rfl) (fun hb3_ => ?_) (fun hb3_ => ?_)
    · have h := Cin.cond_t hb3_ h
      refine wp_seq_k ?_
      intro K hK6
      refine Gg.c_region ?_
      refine Gg.sv (Gg.wN rfl) (Gg.y_build (vs := [(0, .int .i64 1)]) (cs := [.int .i64 1, .int .i64 0]) Tryd.zeroValue25 Tryd.underlying25 places25 rfl ⟨⟨(Gg.ec _ _), rfl⟩, trivial⟩ rfl) hf rfl rfl ?_
      intro a hf
      refine Gg.sv (Gg.wN rfl) (Gg.y_assign rfl (Gg.ec _ _)) hf rfl rfl ?_
      intro a hf
      refine Gg.sst (vs := [.int .i64 1, .int .i64 0]) 0 hm rfl (Gg.wN rfl) rfl Tryd.sizeOf25 rfl rfl rfl rfl (hf.g rfl) (hf.g rfl) rfl ?_
      intro w hm
      simp only [List.set, Gg.lay, List.drop, List.length, List.cons_append, List.nil_append] at hm
      refine wpList_nil ?_
      refine hK6 _ _ ?_
      refine wp_ret ?_
      cases h
      refine Gg.x_retB ?_
      refine Gg.x_retT ?_
      refine Gg.r_any (vs := [.slice none 0 0, .agg #[.int .i64 1, .int .i64 0]]) Tryd.results7 hf ⟨hf.g rfl, ⟨_, _, hf.g rfl, .inl ⟨[.int .i64 1, .int .i64 0], Tryd.isAgg25, Tryd.sizeOf25, Gg.blk_cells (hm.e 0 rfl) 0 ⟨rfl, rfl, trivial⟩, rfl⟩⟩, trivial⟩ ?_
      exact ⟨none, 0, rfl, hm.ev, Gg.nil_ok _ _ _⟩
    · have h := Cin.cond_f hb3_ h
      refine wp_skip ?_
      refine hK2 _ _ ?_
      refine wp_seq_k ?_
      intro K hK7
      refine Gg.c_region ?_
      refine Gg.sv (Gg.wN rfl) (Gg.y_assign rfl (Gg.ec _ _)) hf rfl rfl ?_
      intro a hf
      refine wpList_nil ?_
      refine hK7 _ _ ?_
      refine wp_seq_k ?_
      intro K hK8
      refine wp_seq_k ?_
      intro K hK9
      refine Gg.c_region ?_
      refine Gg.sv (Gg.wN rfl) (Gg.y_assign rfl (Gg.ec _ _)) hf rfl rfl ?_
      intro a hf
      refine wpList_nil ?_
      refine hK9 _ _ ?_
      have hm := hm.nilRow (α := Cin.Ins) 40 4
      have hm := hm.more (y := Gg.Dt.rows Cin.ty_Ins [] []) rfl
      obtain ⟨j2276_, hj2276_, h⟩ := Cin.join_s h
      refine Gg.c_blockJ (fun a w => ∃ (A2272_ : Option Addr) (c2273_ : Nat) (l2274_ : List Cin.Ins) (xs2275_ : List Value), Gg.Fr 137 [(3, .pointer (some ⟨g1_, 0, none⟩)), (4, .slice A2272_ l2274_.length c2273_)] a ∧ Gg.St W [] X w [Gg.Ent.row 40 4 (.slice A2272_ l2274_.length c2273_) l2274_ xs2275_, Gg.Ent.blk g1_ 25 [.int .i64 0, .int .i64 0]] [Gg.Dt.rows Cin.ty_Ins xs2275_ l2274_, Gg.Dt.glob 0 [.int .i64 0, .int .i64 1, .int .i64 0, .int .i64 3, .int .i64 3, .int .i64 0, .int .i64 0, .int .i64 0, .int .i64 0, .int .i64 0, .int .i64 0, .int .i64 0, .int .i64 0, .int .i64 2, .int .i64 2, .int .i64 2, .int .i64 2, .int .i64 2, .int .i64 3, .int .i64 4, .int .i64 4, .int .i64 0, .int .i64 3, .int .i64 0, .int .i64 0, .int .i64 0, .int .i64 4, .int .i64 0, .int .i64 0, .int .i64 3, .int .i64 3, .int .i64 0, .int .i64 0, .int .i64 0, .int .i64 4, .int .i64 0, .int .i64 0]] ∧ j2276_ l2274_ = some r) (fun K hK10 => ?_) ?_
      · clear hj2276_
        refine Gg.c_loop (fun (k1_ : Nat) a w => ∃ (A2534_ : Option Addr) (c2535_ : Nat) (l2536_ : List Cin.Ins) (xs2537_ : List Value) (n2538_ : Int), Gg.Fr 137 [(0, Gg.Str s_), (3, .pointer (some ⟨g1_, 0, none⟩)), (4, .slice A2534_ l2536_.length c2535_), (5, .int .i64 n2538_)] a ∧ Gg.St W [] X w [Gg.Ent.row 40 4 (.slice A2534_ l2536_.length c2535_) l2536_ xs2537_, Gg.Ent.blk g1_ 25 [.int .i64 0, .int .i64 0]] [Gg.Dt.rows Cin.ty_Ins xs2537_ l2536_, Gg.Dt.glob 0 [.int .i64 0, .int .i64 1, .int .i64 0, .int .i64 3, .int .i64 3, .int .i64 0, .int .i64 0, .int .i64 0, .int .i64 0, .int .i64 0, .int .i64 0, .int .i64 0, .int .i64 0, .int .i64 2, .int .i64 2, .int .i64 2, .int .i64 2, .int .i64 2, .int .i64 3, .int .i64 4, .int .i64 4, .int .i64 0, .int .i64 3, .int .i64 0, .int .i64 0, .int .i64 0, .int .i64 4, .int .i64 0, .int .i64 0, .int .i64 3, .int .i64 3, .int .i64 0, .int .i64 0, .int .i64 0, .int .i64 4, .int .i64 0, .int .i64 0]] ∧ Cin.code_Decode_L1 s_ j2276_ k1_ l2536_ n2538_ = some r) F ⟨none, 0, [], [], 0, hf.sub ⟨rfl, rfl, rfl, rfl, trivial⟩, (hm).pick ⟨⟨0, rfl⟩, ⟨1, rfl⟩, trivial⟩, h⟩ ?_ ?_
        · rintro a w ⟨A2534_, c2535_, l2536_, xs2537_, n2538_, hf, hm, h⟩
          exact absurd h (by simp [Cin.code_Decode_L1])
        · rintro k1_ a w ⟨A2534_, c2535_, l2536_, xs2537_, n2538_, hf, hm, h⟩ K hK11
          rw [Cin.code_Decode_L1] at h
          refine wp_seq_k ?_
          intro K hK12
          refine wp_seq_k ?_
          intro K hK13
          refine Gg.c_region ?_
          refine Gg.sv (Gg.wN rfl) (Gg.y_move rfl (hf.g rfl)) hf rfl rfl ?_
          intro a hf
          refine Gg.sv (Gg.wN rfl) (Gg.y_move rfl (hf.g rfl)) hf rfl rfl ?_
          intro a hf
          refine Gg.sv (Gg.wN rfl) (Gg.y_lenS Tryd.underlying9 rfl (hf.g rfl)) hf rfl rfl ?_
          intro a hf
          refine Gg.sv (Gg.wN rfl) (Gg.y_lss rfl (hf.g rfl) (hf.g rfl)) hf rfl rfl ?_
          intro a hf
          refine wpList_nil ?_
          refine hK13 _ _ ?_
          refine Gg.c_cond (hf.g rfl) (fun hb2881_ => ?_) (fun hb2881_ => ?_)
          · have h := Cin.cond_t hb2881_ h
            refine wp_skip ?_
            refine hK12 _ _ ?_
            obtain ⟨j3052_, hj3052_, h⟩ := Cin.join_s h
            refine Gg.c_blockJ (fun a w => ∃ (A3047_ : Option Addr) (c3048_ : Nat) (l3049_ : List Cin.Ins) (xs3050_ : List Value) (n3051_ : Int), Gg.Fr 137 [(0, Gg.Str s_), (3, .pointer (some ⟨g1_, 0, none⟩)), (4, .slice A3047_ l3049_.length c3048_), (5, .int .i64 n3051_)] a ∧ Gg.St W [] X w [Gg.Ent.row 40 4 (.slice A3047_ l3049_.length c3048_) l3049_ xs3050_, Gg.Ent.blk g1_ 25 [.int .i64 0, .int .i64 0]] [Gg.Dt.rows Cin.ty_Ins xs3050_ l3049_, Gg.Dt.glob 0 [.int .i64 0, .int .i64 1, .int .i64 0, .int .i64 3, .int .i64 3, .int .i64 0, .int .i64 0, .int .i64 0, .int .i64 0, .int .i64 0, .int .i64 0, .int .i64 0, .int .i64 0, .int .i64 2, .int .i64 2, .int .i64 2, .int .i64 2, .int .i64 2, .int .i64 3, .int .i64 4, .int .i64 4, .int .i64 0, .int .i64 3, .int .i64 0, .int .i64 0, .int .i64 0, .int .i64 4, .int .i64 0, .int .i64 0, .int .i64 3, .int .i64 3, .int .i64 0, .int .i64 0, .int .i64 0, .int .i64 4, .int .i64 0, .int .i64 0]] ∧ j3052_ l3049_ n3051_ = some r) (fun K hK14 => ?_) ?_
            · clear hj3052_
              refine wp_seq_k ?_
              intro K hK15
              refine Gg.c_region ?_
              refine Gg.sv (Gg.wN rfl) (Gg.y_move rfl (hf.g rfl)) hf rfl rfl ?_
              intro a hf
              refine Gg.sv (Gg.wN rfl) (Gg.y_move rfl (hf.g rfl)) hf rfl rfl ?_
              intro a hf
              obtain ⟨b3053_, hx3054_, h⟩ := Cin.bind_s h
              refine Gg.sv (Gg.wN rfl) (Gg.y_indexS' Tryd.underlying9 rfl (hf.g rfl) (hf.g rfl) hx3054_) hf rfl rfl ?_
              intro a hf
              refine Gg.sv (Gg.wN rfl) (Gg.y_cI64 Tryd.underlying5 Tryd.underlying3 rfl (hf.g rfl)) hf rfl rfl ?_
              intro a hf
              refine Gg.sv (Gg.wN rfl) (Gg.y_assign rfl (hf.g rfl)) hf rfl rfl ?_
              intro a hf
              refine wpList_nil ?_
              refine hK15 _ _ ?_
              refine wp_seq_k ?_
              intro K hK16
              refine wp_seq_k ?_
              intro K hK17
              refine Gg.c_region ?_
              refine Gg.sv (Gg.wN rfl) (Gg.y_move rfl (hf.g rfl)) hf rfl rfl ?_
              intro a hf
              obtain ⟨r3055_, hr3056_, h⟩ := Cin.bind_s h
              refine Gg.sc (vs := [.int .i64 (b3053_.toNat : Int)]) (Gg.wN rfl) rfl Tryd.call16 ⟨(hf.g rfl), trivial⟩ (c_code_IsOp hm.ltM hr3056_ ) hf rfl rfl ?_
              rintro _ w ⟨rfl, hv⟩
              refine ⟨_, rfl, ?_⟩
              intro a hf
              have hm := hm.keep hv
              clear hv
              refine Gg.sv (Gg.wN rfl) (Gg.y_not rfl (hf.g rfl)) hf rfl rfl ?_
              intro a hf
              refine wpList_nil ?_
              have hf := hf.sub (l' := [(0, Gg.Str s_), (3, .pointer (some ⟨g1_, 0, none⟩)), (4, .slice A2534_ l2536_.length c2535_), (5, .int .i64 n2538_), (6, .int .i64 (b3053_.toNat : Int)), (32, .bool (!r3055_))]) ⟨rfl, rfl, rfl, rfl, rfl, rfl, trivial⟩
              refine hK17 _ _ ?_
              refine Gg.c_cond (hf.g rfl) (fun hb3057_ => ?_) (fun hb3057_ => ?_)
              · have h := Cin.cond_t hb3057_ h
                refine wp_seq_k ?_
                intro K hK18
                refine Gg.c_region ?_
                refine Gg.sv (Gg.wN rfl) (Gg.y_move rfl (hf.g rfl)) hf rfl rfl ?_
                intro a hf
                refine Gg.sv (Gg.wN rfl) (Gg.y_build (vs := [(0, .int .i64 7), (1, .int .i64 n2538_)]) (cs := [.int .i64 7, .int .i64 n2538_]) Tryd.zeroValue25 Tryd.underlying25 places25 rfl ⟨⟨(Gg.ec _ _), rfl⟩, ⟨(hf.g rfl), rfl⟩, trivial⟩ rfl) hf rfl rfl ?_
                intro a hf
                refine Gg.sv (Gg.wN rfl) (Gg.y_assign rfl (Gg.ec _ _)) hf rfl rfl ?_
                intro a hf
                refine Gg.sst (vs := [.int .i64 7, .int .i64 n2538_]) 1 hm rfl (Gg.wN rfl) rfl Tryd.sizeOf25 rfl rfl rfl rfl (hf.g rfl) (hf.g rfl) rfl ?_
                intro w hm
                simp only [List.set, Gg.lay, List.drop, List.length, List.cons_append, List.nil_append] at hm
                refine wpList_nil ?_
                refine hK18 _ _ ?_
                refine wp_ret ?_
                cases h
                refine Gg.x_retT ?_
                refine Gg.x_retB ?_
                refine Gg.x_retT ?_
                refine Gg.x_retT ?_
                refine Gg.x_retB ?_
                refine Gg.x_retT ?_
                refine Gg.x_retT ?_
                refine Gg.r_any (vs := [.slice none 0 0, .agg #[.int .i64 7, .int .i64 n2538_]]) Tryd.results7 hf ⟨hf.g rfl, ⟨_, _, hf.g rfl, .inl ⟨[.int .i64 7, .int .i64 n2538_], Tryd.isAgg25, Tryd.sizeOf25, Gg.blk_cells (hm.e 1 rfl) 0 ⟨rfl, rfl, trivial⟩, rfl⟩⟩, trivial⟩ ?_
                exact ⟨none, 0, rfl, hm.ev, Gg.nil_ok _ _ _⟩
              · have h := Cin.cond_f hb3057_ h
                refine wp_skip ?_
                refine hK16 _ _ ?_
                refine wp_seq_k ?_
                intro K hK19
                refine Gg.c_region ?_
                refine Gg.sv (Gg.wN rfl) (Gg.y_move rfl (hf.g rfl)) hf rfl rfl ?_
                intro a hf
                obtain ⟨x3058_, hx3059_, h⟩ := Cin.bind_s h
                have hc3060_ := Gg.glob_at (hm.d 1 rfl) hx3059_
                refine Gg.sv (Gg.wN rfl) (Gg.y_idxG Tryd.underlying43 Tryd.sizeOf42 rfl (Gg.eg _ _) (hf.g rfl) rfl hx3059_) hf rfl rfl ?_
                intro a hf
                refine Gg.sv (Gg.wN rfl) (Gg.y_load1 Tryd.isAgg42 rfl (hf.g rfl) (hc3060_)) hf rfl rfl ?_
                intro a hf
                obtain ⟨r3061_, hr3062_, h⟩ := Cin.bind_s h
                refine Gg.sc (vs := [.int .i64 x3058_]) (Gg.wN rfl) rfl Tryd.call17 ⟨(hf.g rfl), trivial⟩ (c_code_shape_size hm.ltM hr3062_ ) hf rfl rfl ?_
                rintro _ w ⟨rfl, hv⟩
                refine ⟨_, rfl, ?_⟩
                intro a hf
                have hm := hm.keep hv
                clear hv
                refine Gg.sv (Gg.wN rfl) (Gg.y_assign rfl (hf.g rfl)) hf rfl rfl ?_
                intro a hf
                refine wpList_nil ?_
                refine hK19 _ _ ?_
                refine wp_seq_k ?_
                intro K hK20
                refine wp_seq_k ?_
                intro K hK21
                refine Gg.c_region ?_
                refine Gg.sv (Gg.wN rfl) (Gg.y_move rfl (hf.g rfl)) hf rfl rfl ?_
                intro a hf
                refine Gg.sv (Gg.wN rfl) (Gg.y_move rfl (hf.g rfl)) hf rfl rfl ?_
                intro a hf
                refine Gg.sv (Gg.wN rfl) (Gg.y_lenS Tryd.underlying9 rfl (hf.g rfl)) hf rfl rfl ?_
                intro a hf
                refine Gg.sv (Gg.wN rfl) (Gg.y_move rfl (hf.g rfl)) hf rfl rfl ?_
                intro a hf
                refine Gg.sv (Gg.wN rfl) (Gg.y_sub64 rfl (hf.g rfl) (hf.g rfl)) hf rfl rfl ?_
                intro a hf
                refine Gg.sv (Gg.wN rfl) (Gg.y_gtr rfl (hf.g rfl) (hf.g rfl)) hf rfl rfl ?_
                intro a hf
                refine wpList_nil ?_
                have hf := hf.sub (l' := [(0, Gg.Str s_), (3, .pointer (some ⟨g1_, 0, none⟩)), (4, .slice A2534_ l2536_.length c2535_), (5, .int .i64 n2538_), (6, .int .i64 (b3053_.toNat : Int)), (7, .int .i64 r3061_), (44, .bool (decide ((Cin.w64 ((s_.length : Int) - n2538_)) < r3061_)))]) ⟨rfl, rfl, rfl, rfl, rfl, rfl, rfl, trivial⟩
                refine hK21 _ _ ?_
                refine Gg.c_cond (hf.g rfl) (fun hb3063_ => ?_) (fun hb3063_ => ?_)
                · have h := Cin.cond_t hb3063_ h
                  refine wp_seq_k ?_
                  intro K hK22
                  refine Gg.c_region ?_
                  refine Gg.sv (Gg.wN rfl) (Gg.y_move rfl (hf.g rfl)) hf rfl rfl ?_
                  intro a hf
                  refine Gg.sv (Gg.wN rfl) (Gg.y_build (vs := [(0, .int .i64 1), (1, .int .i64 n2538_)]) (cs := [.int .i64 1, .int .i64 n2538_]) Tryd.zeroValue25 Tryd.underlying25 places25 rfl ⟨⟨(Gg.ec _ _), rfl⟩, ⟨(hf.g rfl), rfl⟩, trivial⟩ rfl) hf rfl rfl ?_
                  intro a hf
                  refine Gg.sv (Gg.wN rfl) (Gg.y_assign rfl (Gg.ec _ _)) hf rfl rfl ?_
                  intro a hf
                  refine Gg.sst (vs := [.int .i64 1, .int .i64 n2538_]) 1 hm rfl (Gg.wN rfl) rfl Tryd.sizeOf25 rfl rfl rfl rfl (hf.g rfl) (hf.g rfl) rfl ?_
                  intro w hm
                  simp only [List.set, Gg.lay, List.drop, List.length, List.cons_append, List.nil_append] at hm
                  refine wpList_nil ?_
                  refine hK22 _ _ ?_
                  refine wp_ret ?_
                  cases h
                  refine Gg.x_retT ?_
                  refine Gg.x_retB ?_
                  refine Gg.x_retT ?_
                  refine Gg.x_retT ?_
                  refine Gg.x_retB ?_
                  refine Gg.x_retT ?_
                  refine Gg.x_retT ?_
                  refine Gg.r_any (vs := [.slice none 0 0, .agg #[.int .i64 1, .int .i64 n2538_]]) Tryd.results7 hf ⟨hf.g rfl, ⟨_, _, hf.g rfl, .inl ⟨[.int .i64 1, .int .i64 n2538_], Tryd.isAgg25, Tryd.sizeOf25, Gg.blk_cells (hm.e 1 rfl) 0 ⟨rfl, rfl, trivial⟩, rfl⟩⟩, trivial⟩ ?_
                  exact ⟨none, 0, rfl, hm.ev, Gg.nil_ok _ _ _⟩
                · have h := Cin.cond_f hb3063_ h
                  refine wp_skip ?_
                  refine hK20 _ _ ?_
                  refine wp_seq_k ?_
                  intro K hK23
                  refine Gg.c_region ?_
                  refine Gg.sv (Gg.wN rfl) (Gg.y_move rfl (hf.g rfl)) hf rfl rfl ?_
                  intro a hf
                  refine Gg.sv (Gg.wN rfl) (Gg.y_move rfl (hf.g rfl)) hf rfl rfl ?_
                  intro a hf
                  refine Gg.sv (Gg.wN rfl) (Gg.y_build (vs := [(0, .int .i64 n2538_), (1, .int .i64 (b3053_.toNat : Int))]) (cs := [.int .i64 n2538_, .int .i64 (b3053_.toNat : Int), .int .i64 0, .int .i64 0]) Tryd.zeroValue40 Tryd.underlying40 places40 rfl ⟨⟨(hf.g rfl), rfl⟩, ⟨(hf.g rfl), rfl⟩, trivial⟩ rfl) hf rfl rfl ?_
                  intro a hf
                  refine Gg.snew (cs := [.int .i64 0, .int .i64 0, .int .i64 0, .int .i64 0]) (Gg.wN rfl) (Gg.y_alloc Tryd.zeroValue40 rfl rfl) hf hm rfl rfl ?_
                  intro a g3064_ w hf hm
                  refine Gg.sst (vs := [.int .i64 n2538_, .int .i64 (b3053_.toNat : Int), .int .i64 0, .int .i64 0]) 0 hm rfl (Gg.wN rfl) rfl Tryd.sizeOf40 rfl rfl rfl rfl (hf.g rfl) (hf.g rfl) rfl ?_
                  intro w hm
                  simp only [List.set, Gg.lay, List.drop, List.length, List.cons_append, List.nil_append] at hm
                  refine wpList_nil ?_
                  refine hK23 _ _ ?_
                  obtain ⟨j3123_, hj3123_, h⟩ := Cin.join_s h
                  refine Gg.c_meet (fun a w => ∃ (n3117_ : Int) (n3118_ : Int) (A3119_ : Option Addr) (c3120_ : Nat) (l3121_ : List Cin.Ins) (xs3122_ : List Value), Gg.Fr 137 [(0, Gg.Str s_), (3, .pointer (some ⟨g1_, 0, none⟩)), (4, .slice A3119_ l3121_.length c3120_), (5, .int .i64 n2538_), (6, .int .i64 (b3053_.toNat : Int)), (7, .int .i64 r3061_), (8, .pointer (some ⟨g3064_, 0, none⟩))] a ∧ Gg.St W [] X w [Gg.Ent.blk g3064_ 40 [.int .i64 n2538_, .int .i64 (b3053_.toNat : Int), .int .i64 n3117_, .int .i64 n3118_], Gg.Ent.row 40 4 (.slice A3119_ l3121_.length c3120_) l3121_ xs3122_, Gg.Ent.blk g1_ 25 [.int .i64 0, .int .i64 0]] [Gg.Dt.rows Cin.ty_Ins xs3122_ l3121_, Gg.Dt.glob 0 [.int .i64 0, .int .i64 1, .int .i64 0, .int .i64 3, .int .i64 3, .int .i64 0, .int .i64 0, .int .i64 0, .int .i64 0, .int .i64 0, .int .i64 0, .int .i64 0, .int .i64 0, .int .i64 2, .int .i64 2, .int .i64 2, .int .i64 2, .int .i64 2, .int .i64 3, .int .i64 4, .int .i64 4, .int .i64 0, .int .i64 3, .int .i64 0, .int .i64 0, .int .i64 0, .int .i64 4, .int .i64 0, .int .i64 0, .int .i64 3, .int .i64 3, .int .i64 0, .int .i64 0, .int .i64 0, .int .i64 4, .int .i64 0, .int .i64 0]] ∧ j3123_ n3117_ n3118_ l3121_ = some r) (fun K hK24 => ?_) ?_
                  · clear hj3123_
                    refine wp_seq_k ?_
                    intro K hK25
                    refine Gg.c_region ?_
                    refine Gg.sv (Gg.wN rfl) (Gg.y_move rfl (hf.g rfl)) hf rfl rfl ?_
                    intro a hf
                    obtain ⟨x3124_, hx3125_, h⟩ := Cin.bind_s h
                    have hc3126_ := Gg.glob_at (hm.d 1 rfl) hx3125_
                    refine Gg.sv (Gg.wN rfl) (Gg.y_idxG Tryd.underlying43 Tryd.sizeOf42 rfl (Gg.eg _ _) (hf.g rfl) rfl hx3125_) hf rfl rfl ?_
                    intro a hf
                    refine Gg.sv (Gg.wN rfl) (Gg.y_load1 Tryd.isAgg42 rfl (hf.g rfl) (hc3126_)) hf rfl rfl ?_
                    intro a hf
                    refine wpList_nil ?_
                    refine hK25 _ _ ?_
                    obtain ⟨j3154_, hj3154_, h⟩ := Cin.join_s h
                    refine Gg.c_blockJ (fun a w => ∃ (n3148_ : Int) (n3149_ : Int) (A3150_ : Option Addr) (c3151_ : Nat) (l3152_ : List Cin.Ins) (xs3153_ : List Value), Gg.Fr 137 [(0, Gg.Str s_), (3, .pointer (some ⟨g1_, 0, none⟩)), (4, .slice A3150_ l3152_.length c3151_), (5, .int .i64 n2538_), (6, .int .i64 (b3053_.toNat : Int)), (7, .int .i64 r3061_), (8, .pointer (some ⟨g3064_, 0, none⟩))] a ∧ Gg.St W [] X w [Gg.Ent.blk g3064_ 40 [.int .i64 n2538_, .int .i64 (b3053_.toNat : Int), .int .i64 n3148_, .int .i64 n3149_], Gg.Ent.row 40 4 (.slice A3150_ l3152_.length c3151_) l3152_ xs3153_, Gg.Ent.blk g1_ 25 [.int .i64 0, .int .i64 0]] [Gg.Dt.rows Cin.ty_Ins xs3153_ l3152_, Gg.Dt.glob 0 [.int .i64 0, .int .i64 1, .int .i64 0, .int .i64 3, .int .i64 3, .int .i64 0, .int .i64 0, .int .i64 0, .int .i64 0, .int .i64 0, .int .i64 0, .int .i64 0, .int .i64 0, .int .i64 2, .int .i64 2, .int .i64 2, .int .i64 2, .int .i64 2, .int .i64 3, .int .i64 4, .int .i64 4, .int .i64 0, .int .i64 3, .int .i64 0, .int .i64 0, .int .i64 0, .int .i64 4, .int .i64 0, .int .i64 0, .int .i64 3, .int .i64 3, .int .i64 0, .int .i64 0, .int .i64 0, .int .i64 4, .int .i64 0, .int .i64 0]] ∧ j3154_ n3148_ n3149_ l3152_ = some r) (fun K hK26 => ?_) ?_
                    · clear hj3154_
                      obtain ⟨j3161_, hj3161_, h⟩ := Cin.join_s h
                      refine Gg.c_meet (fun a w => ∃ (A3156_ : Option Addr) (c3157_ : Nat) (l3158_ : List Cin.Ins) (xs3159_ : List Value) (b3160_ : Bool), Gg.Fr 137 [(0, Gg.Str s_), (3, .pointer (some ⟨g1_, 0, none⟩)), (4, .slice A3156_ l3158_.length c3157_), (5, .int .i64 n2538_), (6, .int .i64 (b3053_.toNat : Int)), (7, .int .i64 r3061_), (8, .pointer (some ⟨g3064_, 0, none⟩)), (52, .int .i64 x3124_), (53, .bool b3160_)] a ∧ Gg.St W [] X w [Gg.Ent.blk g3064_ 40 [.int .i64 n2538_, .int .i64 (b3053_.toNat : Int), .int .i64 0, .int .i64 0], Gg.Ent.row 40 4 (.slice A3156_ l3158_.length c3157_) l3158_ xs3159_, Gg.Ent.blk g1_ 25 [.int .i64 0, .int .i64 0]] [Gg.Dt.rows Cin.ty_Ins xs3159_ l3158_, Gg.Dt.glob 0 [.int .i64 0, .int .i64 1, .int .i64 0, .int .i64 3, .int .i64 3, .int .i64 0, .int .i64 0, .int .i64 0, .int .i64 0, .int .i64 0, .int .i64 0, .int .i64 0, .int .i64 0, .int .i64 2, .int .i64 2, .int .i64 2, .int .i64 2, .int .i64 2, .int .i64 3, .int .i64 4, .int .i64 4, .int .i64 0, .int .i64 3, .int .i64 0, .int .i64 0, .int .i64 0, .int .i64 4, .int .i64 0, .int .i64 0, .int .i64 3, .int .i64 3, .int .i64 0, .int .i64 0, .int .i64 0, .int .i64 4, .int .i64 0, .int .i64 0]] ∧ j3161_ l3158_ b3160_ = some r) (fun K hK27 => ?_) ?_
                      · clear hj3161_
                        refine wp_seq_k ?_
                        intro K hK28
                        refine Gg.c_region ?_
                        refine Gg.sv (Gg.wN rfl) (Gg.y_eqI Tryd.underlying42 rfl (hf.g rfl) (Gg.ec _ _)) hf rfl rfl ?_
                        intro a hf
                        refine Gg.sv (Gg.wN rfl) (Gg.y_assign rfl (hf.g rfl)) hf rfl rfl ?_
                        intro a hf
                        refine wpList_nil ?_
                        have hf := hf.sub (l' := [(0, Gg.Str s_), (3, .pointer (some ⟨g1_, 0, none⟩)), (4, .slice A2534_ l2536_.length c2535_), (5, .int .i64 n2538_), (6, .int .i64 (b3053_.toNat : Int)), (7, .int .i64 r3061_), (8, .pointer (some ⟨g3064_, 0, none⟩)), (52, .int .i64 x3124_), (53, .bool (decide (x3124_ = 1)))]) ⟨rfl, rfl, rfl, rfl, rfl, rfl, rfl, rfl, rfl, trivial⟩
                        refine hK28 _ _ ?_
                        refine Gg.c_cond (hf.g rfl) (fun hb3162_ => ?_) (fun hb3162_ => ?_)
                        · have h := Cin.cond_t hb3162_ h
                          refine wp_skip ?_
                          exact hK27 _ _ ⟨A2534_, c2535_, l2536_, xs2537_, decide (x3124_ = 1), hf.sub ⟨rfl, rfl, rfl, rfl, rfl, rfl, rfl, rfl, rfl, trivial⟩, (hm).pick ⟨⟨0, rfl⟩, ⟨1, rfl⟩, trivial⟩, h⟩
                        · have h := Cin.cond_f hb3162_ h
                          refine Gg.c_region ?_
                          refine Gg.sv (Gg.wN rfl) (Gg.y_eqI Tryd.underlying42 rfl (hf.g rfl) (Gg.ec _ _)) hf rfl rfl ?_
                          intro a hf
                          refine Gg.sv (Gg.wN rfl) (Gg.y_assign rfl (hf.g rfl)) hf rfl rfl ?_
                          intro a hf
                          refine wpList_nil ?_
                          exact hK27 _ _ ⟨A2534_, c2535_, l2536_, xs2537_, decide (x3124_ = 2), hf.sub ⟨rfl, rfl, rfl, rfl, rfl, rfl, rfl, rfl, rfl, trivial⟩, (hm).pick ⟨⟨0, rfl⟩, ⟨1, rfl⟩, trivial⟩, h⟩
                      · rintro a w ⟨A3156_, c3157_, l3158_, xs3159_, b3160_, hf, hm, h⟩
                        subst hj3161_
                        try dsimp only at h
                        refine Gg.c_cond (hf.g rfl) (fun hb3163_ => ?_) (fun hb3163_ => ?_)
                        · have h := Cin.cond_t hb3163_ h
                          refine Gg.c_any (m := 14) (by kernel_rfl) rfl ?_
                          intro w hv
                          have hm := hm.keep hv
                          clear hv
                          refine Gg.an_v 0 rfl (by kernel_rfl) (Gg.wN rfl) (fun w => Gg.y_move rfl (hf.g rfl)) hf rfl rfl ?_
                          intro a hf
                          refine Gg.an_v 1 rfl (by kernel_rfl) (Gg.wN rfl) (fun w => Gg.y_move rfl (hf.g rfl)) hf rfl rfl ?_
                          intro a hf
                          refine Gg.an_v 2 rfl (by kernel_rfl) (Gg.wN rfl) (fun w => Gg.y_add64 rfl (hf.g rfl) (Gg.ec _ _)) hf rfl rfl ?_
                          intro a hf
                          obtain ⟨b3164_, hx3165_, h⟩ := Cin.bind_s h
                          refine Gg.an_v 3 rfl (by kernel_rfl) (Gg.wN rfl) (fun w => Gg.y_indexS' Tryd.underlying9 rfl (hf.g rfl) (hf.g rfl) hx3165_) hf rfl rfl ?_
                          intro a hf
                          refine Gg.an_v 4 rfl (by kernel_rfl) (Gg.wN rfl) (fun w => Gg.y_cI64 Tryd.underlying5 Tryd.underlying3 rfl (hf.g rfl)) hf rfl rfl ?_
                          intro a hf
                          refine Gg.an_v 5 rfl (by kernel_rfl) (Gg.wN rfl) (fun w => Gg.y_shl64 (n := 8) rfl rfl (hf.g rfl) (Gg.ec _ _)) hf rfl rfl ?_
                          intro a hf
                          refine Gg.an_v 6 rfl (by kernel_rfl) (Gg.wN rfl) (fun w => Gg.y_move rfl (hf.g rfl)) hf rfl rfl ?_
                          intro a hf
                          refine Gg.an_v 7 rfl (by kernel_rfl) (Gg.wN rfl) (fun w => Gg.y_move rfl (hf.g rfl)) hf rfl rfl ?_
                          intro a hf
                          refine Gg.an_v 8 rfl (by kernel_rfl) (Gg.wN rfl) (fun w => Gg.y_add64 rfl (hf.g rfl) (Gg.ec _ _)) hf rfl rfl ?_
                          intro a hf
                          obtain ⟨b3166_, hx3167_, h⟩ := Cin.bind_s h
                          refine Gg.an_v 9 rfl (by kernel_rfl) (Gg.wN rfl) (fun w => Gg.y_indexS' Tryd.underlying9 rfl (hf.g rfl) (hf.g rfl) hx3167_) hf rfl rfl ?_
                          intro a hf
                          refine Gg.an_v 10 rfl (by kernel_rfl) (Gg.wN rfl) (fun w => Gg.y_cI64 Tryd.underlying5 Tryd.underlying3 rfl (hf.g rfl)) hf rfl rfl ?_
                          intro a hf
                          refine Gg.an_v 11 rfl (by kernel_rfl) (Gg.wN rfl) (fun w => Gg.y_or64 rfl (hf.g rfl) (hf.g rfl)) hf rfl rfl ?_
                          intro a hf
                          refine Gg.an_v 12 rfl (by kernel_rfl) (Gg.wN rfl) (fun w => Gg.y_fld Tryd.underlying40 rfl Tryd.sizeOf3 rfl rfl (hf.g rfl)) hf rfl rfl ?_
                          intro a hf
                          refine Gg.an_o 13 rfl (by kernel_rfl) ?_
                          refine Gg.sst (vs := [.int .i64 (Cin.orI (Cin.shlI (b3164_.toNat : Int) 8) (b3166_.toNat : Int))]) 0 hm rfl (Gg.wN rfl) rfl Tryd.sizeOf3 rfl rfl rfl rfl (hf.g rfl) (hf.g rfl) rfl ?_
                          intro w hm
                          simp only [List.set, Gg.lay, List.drop, List.length, List.cons_append, List.nil_append] at hm
                          refine Gg.an_n ?_
                          refine Gg.an_done (by kernel_rfl) ?_
                          have hf := hf.sub (l' := [(0, Gg.Str s_), (3, .pointer (some ⟨g1_, 0, none⟩)), (4, .slice A3156_ l3158_.length c3157_), (5, .int .i64 n2538_), (6, .int .i64 (b3053_.toNat : Int)), (7, .int .i64 r3061_), (8, .pointer (some ⟨g3064_, 0, none⟩))]) ⟨rfl, rfl, rfl, rfl, rfl, rfl, rfl, trivial⟩
                          exact hK26 _ _ ⟨Cin.orI (Cin.shlI (b3164_.toNat : Int) 8) (b3166_.toNat : Int), 0, A3156_, c3157_, l3158_, xs3159_, hf.sub ⟨rfl, rfl, rfl, rfl, rfl, rfl, rfl, trivial⟩, (hm).pick ⟨⟨0, rfl⟩, ⟨1, rfl⟩, trivial⟩, h⟩
                        · have h := Cin.cond_f hb3163_ h
                          refine wp_seq_k ?_
                          intro K hK29
                          refine Gg.c_region ?_
                          refine Gg.sv (Gg.wN rfl) (Gg.y_eqI Tryd.underlying42 rfl (hf.g rfl) (Gg.ec _ _)) hf rfl rfl ?_
                          intro a hf
                          refine Gg.sv (Gg.wN rfl) (Gg.y_assign rfl (hf.g rfl)) hf rfl rfl ?_
                          intro a hf
                          refine wpList_nil ?_
                          refine hK29 _ _ ?_
                          refine Gg.c_cond (hf.g rfl) (fun hb3168_ => ?_) (fun hb3168_ => ?_)
                          · have h := Cin.cond_t hb3168_ h
                            refine Gg.c_region ?_
                            refine Gg.sv (Gg.wN rfl) (Gg.y_move rfl (hf.g rfl)) hf rfl rfl ?_
                            intro a hf
                            refine Gg.sv (Gg.wN rfl) (Gg.y_move rfl (hf.g rfl)) hf rfl rfl ?_
                            intro a hf
                            refine Gg.sv (Gg.wN rfl) (Gg.y_add64 rfl (hf.g rfl) (Gg.ec _ _)) hf rfl rfl ?_
                            intro a hf
                            obtain ⟨b3169_, hx3170_, h⟩ := Cin.bind_s h
                            refine Gg.sv (Gg.wN rfl) (Gg.y_indexS' Tryd.underlying9 rfl (hf.g rfl) (hf.g rfl) hx3170_) hf rfl rfl ?_
                            intro a hf
                            refine Gg.sv (Gg.wN rfl) (Gg.y_cI64 Tryd.underlying5 Tryd.underlying3 rfl (hf.g rfl)) hf rfl rfl ?_
                            intro a hf
                            refine Gg.sv (Gg.wN rfl) (Gg.y_fld Tryd.underlying40 rfl Tryd.sizeOf3 rfl rfl (hf.g rfl)) hf rfl rfl ?_
                            intro a hf
                            refine Gg.sst (vs := [.int .i64 (b3169_.toNat : Int)]) 0 hm rfl (Gg.wN rfl) rfl Tryd.sizeOf3 rfl rfl rfl rfl (hf.g rfl) (hf.g rfl) rfl ?_
                            intro w hm
                            simp only [List.set, Gg.lay, List.drop, List.length, List.cons_append, List.nil_append] at hm
                            refine wpList_nil ?_
                            have hf := hf.sub (l' := [(0, Gg.Str s_), (3, .pointer (some ⟨g1_, 0, none⟩)), (4, .slice A3156_ l3158_.length c3157_), (5, .int .i64 n2538_), (6, .int .i64 (b3053_.toNat : Int)), (7, .int .i64 r3061_), (8, .pointer (some ⟨g3064_, 0, none⟩))]) ⟨rfl, rfl, rfl, rfl, rfl, rfl, rfl, trivial⟩
                            exact hK26 _ _ ⟨(b3169_.toNat : Int), 0, A3156_, c3157_, l3158_, xs3159_, hf.sub ⟨rfl, rfl, rfl, rfl, rfl, rfl, rfl, trivial⟩, (hm).pick ⟨⟨0, rfl⟩, ⟨1, rfl⟩, trivial⟩, h⟩
                          · have h := Cin.cond_f hb3168_ h
                            refine wp_seq_k ?_
                            intro K hK30
                            refine Gg.c_region ?_
                            refine Gg.sv (Gg.wN rfl) (Gg.y_eqI Tryd.underlying42 rfl (hf.g rfl) (Gg.ec _ _)) hf rfl rfl ?_
                            intro a hf
                            refine Gg.sv (Gg.wN rfl) (Gg.y_assign rfl (hf.g rfl)) hf rfl rfl ?_
                            intro a hf
                            refine wpList_nil ?_
                            refine hK30 _ _ ?_
                            refine Gg.c_cond (hf.g rfl) (fun hb3171_ => ?_) (fun hb3171_ => ?_)
                            · have h := Cin.cond_t hb3171_ h
                              refine Gg.c_any (m := 14) (by kernel_rfl) rfl ?_
                              intro w hv
                              have hm := hm.keep hv
                              clear hv
                              refine Gg.an_v 0 rfl (by kernel_rfl) (Gg.wN rfl) (fun w => Gg.y_move rfl (hf.g rfl)) hf rfl rfl ?_
                              intro a hf
                              refine Gg.an_v 1 rfl (by kernel_rfl) (Gg.wN rfl) (fun w => Gg.y_move rfl (hf.g rfl)) hf rfl rfl ?_
                              intro a hf
                              refine Gg.an_v 2 rfl (by kernel_rfl) (Gg.wN rfl) (fun w => Gg.y_add64 rfl (hf.g rfl) (Gg.ec _ _)) hf rfl rfl ?_
                              intro a hf
                              obtain ⟨b3172_, hx3173_, h⟩ := Cin.bind_s h
                              refine Gg.an_v 3 rfl (by kernel_rfl) (Gg.wN rfl) (fun w => Gg.y_indexS' Tryd.underlying9 rfl (hf.g rfl) (hf.g rfl) hx3173_) hf rfl rfl ?_
                              intro a hf
                              refine Gg.an_v 4 rfl (by kernel_rfl) (Gg.wN rfl) (fun w => Gg.y_cI64 Tryd.underlying5 Tryd.underlying3 rfl (hf.g rfl)) hf rfl rfl ?_
                              intro a hf
                              refine Gg.an_v 5 rfl (by kernel_rfl) (Gg.wN rfl) (fun w => Gg.y_move rfl (hf.g rfl)) hf rfl rfl ?_
                              intro a hf
                              refine Gg.an_v 6 rfl (by kernel_rfl) (Gg.wN rfl) (fun w => Gg.y_move rfl (hf.g rfl)) hf rfl rfl ?_
                              intro a hf
                              refine Gg.an_v 7 rfl (by kernel_rfl) (Gg.wN rfl) (fun w => Gg.y_add64 rfl (hf.g rfl) (Gg.ec _ _)) hf rfl rfl ?_
                              intro a hf
                              obtain ⟨b3174_, hx3175_, h⟩ := Cin.bind_s h
                              refine Gg.an_v 8 rfl (by kernel_rfl) (Gg.wN rfl) (fun w => Gg.y_indexS' Tryd.underlying9 rfl (hf.g rfl) (hf.g rfl) hx3175_) hf rfl rfl ?_
                              intro a hf
                              refine Gg.an_v 9 rfl (by kernel_rfl) (Gg.wN rfl) (fun w => Gg.y_cI64 Tryd.underlying5 Tryd.underlying3 rfl (hf.g rfl)) hf rfl rfl ?_
                              intro a hf
                              refine Gg.an_v 10 rfl (by kernel_rfl) (Gg.wN rfl) (fun w => Gg.y_fld Tryd.underlying40 rfl Tryd.sizeOf3 rfl rfl (hf.g rfl)) hf rfl rfl ?_
                              intro a hf
                              refine Gg.an_o 11 rfl (by kernel_rfl) ?_
                              refine Gg.sst (vs := [.int .i64 (b3172_.toNat : Int)]) 0 hm rfl (Gg.wN rfl) rfl Tryd.sizeOf3 rfl rfl rfl rfl (hf.g rfl) (hf.g rfl) rfl ?_
                              intro w hm
                              simp only [List.set, Gg.lay, List.drop, List.length, List.cons_append, List.nil_append] at hm
                              refine Gg.an_n ?_
                              refine Gg.an_v 12 rfl (by kernel_rfl) (Gg.wN rfl) (fun w => Gg.y_fld Tryd.underlying40 rfl Tryd.sizeOf3 rfl rfl (hf.g rfl)) hf rfl rfl ?_
                              intro a hf
                              refine Gg.an_o 13 rfl (by kernel_rfl) ?_
                              refine Gg.sst (vs := [.int .i64 (b3174_.toNat : Int)]) 0 hm rfl (Gg.wN rfl) rfl Tryd.sizeOf3 rfl rfl rfl rfl (hf.g rfl) (hf.g rfl) rfl ?_
                              intro w hm
                              simp only [List.set, Gg.lay, List.drop, List.length, List.cons_append, List.nil_append] at hm
                              refine Gg.an_n ?_
                              refine Gg.an_done (by kernel_rfl) ?_
                              have hf := hf.sub (l' := [(0, Gg.Str s_), (3, .pointer (some ⟨g1_, 0, none⟩)), (4, .slice A3156_ l3158_.length c3157_), (5, .int .i64 n2538_), (6, .int .i64 (b3053_.toNat : Int)), (7, .int .i64 r3061_), (8, .pointer (some ⟨g3064_, 0, none⟩))]) ⟨rfl, rfl, rfl, rfl, rfl, rfl, rfl, trivial⟩
                              exact hK26 _ _ ⟨(b3172_.toNat : Int), (b3174_.toNat : Int), A3156_, c3157_, l3158_, xs3159_, hf.sub ⟨rfl, rfl, rfl, rfl, rfl, rfl, rfl, trivial⟩, (hm).pick ⟨⟨0, rfl⟩, ⟨1, rfl⟩, trivial⟩, h⟩
                            · have h := Cin.cond_f hb3171_ h
                              refine wp_skip ?_
                              exact hK26 _ _ ⟨0, 0, A3156_, c3157_, l3158_, xs3159_, hf.sub ⟨rfl, rfl, rfl, rfl, rfl, rfl, rfl, trivial⟩, (hm).pick ⟨⟨0, rfl⟩, ⟨1, rfl⟩, trivial⟩, h⟩
                    · rintro a w ⟨n3148_, n3149_, A3150_, c3151_, l3152_, xs3153_, hf, hm, h⟩
                      subst hj3154_
                      try dsimp only at h
                      exact hK24 _ _ ⟨n3148_, n3149_, A3150_, c3151_, l3152_, xs3153_, hf.sub ⟨rfl, rfl, rfl, rfl, rfl, rfl, rfl, trivial⟩, (hm).pick ⟨⟨0, rfl⟩, ⟨1, rfl⟩, trivial⟩, h⟩
                  · rintro a w ⟨n3117_, n3118_, A3119_, c3120_, l3121_, xs3122_, hf, hm, h⟩
                    subst hj3123_
                    try dsimp only at h
                    obtain ⟨j3196_, hj3196_, h⟩ := Cin.join_s h
                    refine Gg.c_meet (fun a w => ∃ (n3191_ : Int) (A3192_ : Option Addr) (c3193_ : Nat) (l3194_ : List Cin.Ins) (xs3195_ : List Value), Gg.Fr 137 [(0, Gg.Str s_), (3, .pointer (some ⟨g1_, 0, none⟩)), (4, .slice A3192_ l3194_.length c3193_), (5, .int .i64 n2538_), (7, .int .i64 r3061_), (8, .pointer (some ⟨g3064_, 0, none⟩))] a ∧ Gg.St W [] X w [Gg.Ent.blk g3064_ 40 [.int .i64 n2538_, .int .i64 (b3053_.toNat : Int), .int .i64 n3191_, .int .i64 n3118_], Gg.Ent.row 40 4 (.slice A3192_ l3194_.length c3193_) l3194_ xs3195_, Gg.Ent.blk g1_ 25 [.int .i64 0, .int .i64 0]] [Gg.Dt.rows Cin.ty_Ins xs3195_ l3194_, Gg.Dt.glob 0 [.int .i64 0, .int .i64 1, .int .i64 0, .int .i64 3, .int .i64 3, .int .i64 0, .int .i64 0, .int .i64 0, .int .i64 0, .int .i64 0, .int .i64 0, .int .i64 0, .int .i64 0, .int .i64 2, .int .i64 2, .int .i64 2, .int .i64 2, .int .i64 2, .int .i64 3, .int .i64 4, .int .i64 4, .int .i64 0, .int .i64 3, .int .i64 0, .int .i64 0, .int .i64 0, .int .i64 4, .int .i64 0, .int .i64 0, .int .i64 3, .int .i64 3, .int .i64 0, .int .i64 0, .int .i64 0, .int .i64 4, .int .i64 0, .int .i64 0]] ∧ j3196_ n3191_ l3194_ = some r) (fun K hK31 => ?_) ?_
                    · clear hj3196_
                      obtain ⟨j3206_, hj3206_, h⟩ := Cin.join_s h
                      refine Gg.c_meet (fun a w => ∃ (A3201_ : Option Addr) (c3202_ : Nat) (l3203_ : List Cin.Ins) (xs3204_ : List Value) (b3205_ : Bool), Gg.Fr 137 [(0, Gg.Str s_), (3, .pointer (some ⟨g1_, 0, none⟩)), (4, .slice A3201_ l3203_.length c3202_), (5, .int .i64 n2538_), (7, .int .i64 r3061_), (8, .pointer (some ⟨g3064_, 0, none⟩)), (99, .bool b3205_)] a ∧ Gg.St W [] X w [Gg.Ent.blk g3064_ 40 [.int .i64 n2538_, .int .i64 (b3053_.toNat : Int), .int .i64 n3117_, .int .i64 n3118_], Gg.Ent.row 40 4 (.slice A3201_ l3203_.length c3202_) l3203_ xs3204_, Gg.Ent.blk g1_ 25 [.int .i64 0, .int .i64 0]] [Gg.Dt.rows Cin.ty_Ins xs3204_ l3203_, Gg.Dt.glob 0 [.int .i64 0, .int .i64 1, .int .i64 0, .int .i64 3, .int .i64 3, .int .i64 0, .int .i64 0, .int .i64 0, .int .i64 0, .int .i64 0, .int .i64 0, .int .i64 0, .int .i64 0, .int .i64 2, .int .i64 2, .int .i64 2, .int .i64 2, .int .i64 2, .int .i64 3, .int .i64 4, .int .i64 4, .int .i64 0, .int .i64 3, .int .i64 0, .int .i64 0, .int .i64 0, .int .i64 4, .int .i64 0, .int .i64 0, .int .i64 3, .int .i64 3, .int .i64 0, .int .i64 0, .int .i64 0, .int .i64 4, .int .i64 0, .int .i64 0]] ∧ j3206_ l3203_ b3205_ = some r) (fun K hK32 => ?_) ?_
                      · clear hj3206_
                        refine Gg.c_region ?_
                        refine Gg.sv (Gg.wN rfl) (Gg.y_move rfl (hf.g rfl)) hf rfl rfl ?_
                        intro a hf
                        obtain ⟨x3207_, hx3208_, h⟩ := Cin.bind_s h
                        have hc3209_ := Gg.glob_at (hm.d 1 rfl) hx3208_
                        refine Gg.sv (Gg.wN rfl) (Gg.y_idxG Tryd.underlying43 Tryd.sizeOf42 rfl (Gg.eg _ _) (hf.g rfl) rfl hx3208_) hf rfl rfl ?_
                        intro a hf
                        refine Gg.sv (Gg.wN rfl) (Gg.y_load1 Tryd.isAgg42 rfl (hf.g rfl) (hc3209_)) hf rfl rfl ?_
                        intro a hf
                        refine Gg.sv (Gg.wN rfl) (Gg.y_eqI Tryd.underlying42 rfl (hf.g rfl) (Gg.ec _ _)) hf rfl rfl ?_
                        intro a hf
                        refine Gg.sv (Gg.wN rfl) (Gg.y_move rfl (hf.g rfl)) hf rfl rfl ?_
                        intro a hf
                        rcases Bool.eq_false_or_eq_true (decide (x3207_ = 1)) with hb3210_ | hb3210_
                        · have h := Cin.cond_t hb3210_ h
                          refine Gg.sv (Gg.wantT' hf rfl rfl rfl hb3210_ rfl) (Gg.y_fld Tryd.underlying40 rfl Tryd.sizeOf3 rfl rfl (hf.g rfl)) hf rfl rfl ?_
                          intro a hf
                          refine Gg.sv (Gg.wantT' hf rfl rfl rfl hb3210_ rfl) (Gg.y_load1 Tryd.isAgg3 rfl (hf.g rfl) (Gg.blk_cell (hm.e 0 rfl) (j := 2) rfl)) hf rfl rfl ?_
                          intro a hf
                          refine Gg.sv (Gg.wantT' hf rfl rfl rfl hb3210_ rfl) (Gg.y_geq rfl (hf.g rfl) (Gg.ec _ _)) hf rfl rfl ?_
                          intro a hf
                          refine Gg.sv (Gg.wN rfl) (Gg.y_pickT' rfl (hf.g rfl) hb3210_ (hf.g rfl)) hf rfl rfl ?_
                          intro a hf
                          refine wpList_nil ?_
                          have hf := hf.sub (l' := [(0, Gg.Str s_), (3, .pointer (some ⟨g1_, 0, none⟩)), (4, .slice A3119_ l3121_.length c3120_), (5, .int .i64 n2538_), (7, .int .i64 r3061_), (8, .pointer (some ⟨g3064_, 0, none⟩)), (99, .bool (decide (32768 ≤ n3117_)))]) ⟨rfl, rfl, rfl, rfl, rfl, rfl, rfl, trivial⟩
                          exact hK32 _ _ ⟨A3119_, c3120_, l3121_, xs3122_, decide (32768 ≤ n3117_), hf.sub ⟨rfl, rfl, rfl, rfl, rfl, rfl, rfl, trivial⟩, (hm).pick ⟨⟨0, rfl⟩, ⟨1, rfl⟩, trivial⟩, h⟩
                        · have h := Cin.cond_f hb3210_ h
                          refine Gg.ss (Gg.wantF' hf rfl rfl rfl hb3210_ rfl rfl) hf rfl rfl ?_
                          intro a hf
                          refine Gg.ss (Gg.wantF' hf rfl rfl rfl hb3210_ rfl rfl) hf rfl rfl ?_
                          intro a hf
                          refine Gg.ss (Gg.wantF' hf rfl rfl rfl hb3210_ rfl rfl) hf rfl rfl ?_
                          intro a hf
                          refine Gg.sv (Gg.wN rfl) (Gg.y_pickF' rfl (hf.g rfl) hb3210_ (Gg.ec _ _)) hf rfl rfl ?_
                          intro a hf
                          refine wpList_nil ?_
                          have hf := hf.sub (l' := [(0, Gg.Str s_), (3, .pointer (some ⟨g1_, 0, none⟩)), (4, .slice A3119_ l3121_.length c3120_), (5, .int .i64 n2538_), (7, .int .i64 r3061_), (8, .pointer (some ⟨g3064_, 0, none⟩)), (99, .bool false)]) ⟨rfl, rfl, rfl, rfl, rfl, rfl, rfl, trivial⟩
                          exact hK32 _ _ ⟨A3119_, c3120_, l3121_, xs3122_, false, hf.sub ⟨rfl, rfl, rfl, rfl, rfl, rfl, rfl, trivial⟩, (hm).pick ⟨⟨0, rfl⟩, ⟨1, rfl⟩, trivial⟩, h⟩
                      · rintro a w ⟨A3201_, c3202_, l3203_, xs3204_, b3205_, hf, hm, h⟩
                        subst hj3206_
                        try dsimp only at h
                        refine Gg.c_cond (hf.g rfl) (fun hb3211_ => ?_) (fun hb3211_ => ?_)
                        · have h := Cin.cond_t hb3211_ h
                          refine Gg.c_region ?_
                          refine Gg.sv (Gg.wN rfl) (Gg.y_fld Tryd.underlying40 rfl Tryd.sizeOf3 rfl rfl (hf.g rfl)) hf rfl rfl ?_
                          intro a hf
                          refine Gg.sv (Gg.wN rfl) (Gg.y_load1 Tryd.isAgg3 rfl (hf.g rfl) (Gg.blk_cell (hm.e 0 rfl) (j := 2) rfl)) hf rfl rfl ?_
                          intro a hf
                          refine Gg.sv (Gg.wN rfl) (Gg.y_sub64 rfl (hf.g rfl) (Gg.ec _ _)) hf rfl rfl ?_
                          intro a hf
                          refine Gg.sv (Gg.wN rfl) (Gg.y_fld Tryd.underlying40 rfl Tryd.sizeOf3 rfl rfl (hf.g rfl)) hf rfl rfl ?_
                          intro a hf
                          refine Gg.sst (vs := [.int .i64 (Cin.w64 (n3117_ - 65536))]) 0 hm rfl (Gg.wN rfl) rfl Tryd.sizeOf3 rfl rfl rfl rfl (hf.g rfl) (hf.g rfl) rfl ?_
                          intro w hm
                          simp only [List.set, Gg.lay, List.drop, List.length, List.cons_append, List.nil_append] at hm
                          refine wpList_nil ?_
                          exact hK31 _ _ ⟨Cin.w64 (n3117_ - 65536), A3201_, c3202_, l3203_, xs3204_, hf.sub ⟨rfl, rfl, rfl, rfl, rfl, rfl, trivial⟩, (hm).pick ⟨⟨0, rfl⟩, ⟨1, rfl⟩, trivial⟩, h⟩
                        · have h := Cin.cond_f hb3211_ h
                          refine wp_skip ?_
                          exact hK31 _ _ ⟨n3117_, A3201_, c3202_, l3203_, xs3204_, hf.sub ⟨rfl, rfl, rfl, rfl, rfl, rfl, trivial⟩, (hm).pick ⟨⟨0, rfl⟩, ⟨1, rfl⟩, trivial⟩, h⟩
                    · rintro a w ⟨n3191_, A3192_, c3193_, l3194_, xs3195_, hf, hm, h⟩
                      subst hj3196_
                      try dsimp only at h
                      refine wp_seq_k ?_
                      intro K hK33
                      refine Gg.c_region ?_
                      refine Gg.sv (Gg.wN rfl) (Gg.y_move rfl (hf.g rfl)) hf rfl rfl ?_
                      intro a hf
                      refine Gg.sv (Gg.wN rfl) (Gg.y_loadN (cs := [.int .i64 n2538_, .int .i64 (b3053_.toNat : Int), .int .i64 n3191_, .int .i64 n3118_]) Tryd.isAgg40 Tryd.sizeOf40 rfl rfl (hf.g rfl) (Gg.blk_cells (hm.e 0 rfl) 0 ⟨rfl, rfl, rfl, rfl, trivial⟩)) hf rfl rfl ?_
                      intro a hf
                      refine Gg.snewS (cs := [.int .i64 n2538_, .int .i64 (b3053_.toNat : Int), .int .i64 n3191_, .int .i64 n3118_]) (Gg.wN rfl) (Gg.y_buildSlice (vs := [(0, .agg #[.int .i64 n2538_, .int .i64 (b3053_.toNat : Int), .int .i64 n3191_, .int .i64 n3118_])]) Tryd.underlying22 Tryd.sizeOf40 Tryd.zeroValue40 rfl rfl rfl ⟨⟨(hf.g rfl), rfl⟩, trivial⟩ (by kernel_rfl)) hf hm rfl rfl ?_
                      intro a g3212_ w hf hm
                      obtain ⟨l3213_, hl3214_, h⟩ := Cin.bind_s h
                      refine Gg.sapp (ml := [(⟨n2538_, (b3053_.toNat : Int), n3191_, n3118_⟩ : Cin.Ins)]) 2 0 hm rfl rfl Tryd.underlying22 info40 rfl rfl hl3214_ rfl rfl rfl rfl (Gg.wN rfl) rfl (hf.g rfl) (hf.g rfl) hf rfl rfl ?_
                      intro a A3215_ c3216_ w hf hm
                      have hm := hm.more (y := Gg.Dt.rows Cin.ty_Ins (xs3195_ ++ [.int .i64 n2538_, .int .i64 (b3053_.toNat : Int), .int .i64 n3191_, .int .i64 n3118_]) l3213_) (Gg.rdAll_to (Cin.app_some hl3214_).2 (Gg.rdAll_snocs (hm.d 0 rfl) ⟨_, _, rfl, rfl, rfl⟩))
                      obtain ⟨xs3217_, hxs⟩ : ∃ z, z = xs3195_ ++ [.int .i64 n2538_, .int .i64 (b3053_.toNat : Int), .int .i64 n3191_, .int .i64 n3118_] := ⟨_, rfl⟩
                      rw [← hxs] at hm
                      clear hxs
                      simp only [List.set] at hm
                      have hm := hm.eraseE 0
                      simp only [List.eraseIdx] at hm
                      refine Gg.sv (Gg.wN rfl) (Gg.y_assign rfl (hf.g rfl)) hf rfl rfl ?_
                      intro a hf
                      refine wpList_nil ?_
                      refine hK33 _ _ ?_
                      refine Gg.c_region ?_
                      refine Gg.sv (Gg.wN rfl) (Gg.y_move rfl (hf.g rfl)) hf rfl rfl ?_
                      intro a hf
                      refine Gg.sv (Gg.wN rfl) (Gg.y_move rfl (hf.g rfl)) hf rfl rfl ?_
                      intro a hf
                      refine Gg.sv (Gg.wN rfl) (Gg.y_add64 rfl (hf.g rfl) (hf.g rfl)) hf rfl rfl ?_
                      intro a hf
                      refine Gg.sv (Gg.wN rfl) (Gg.y_assign rfl (hf.g rfl)) hf rfl rfl ?_
                      intro a hf
                      refine wpList_nil ?_
                      exact hK14 _ _ ⟨A3215_, c3216_, l3213_, xs3217_, Cin.w64 (n2538_ + r3061_), hf.sub ⟨rfl, rfl, rfl, rfl, trivial⟩, (hm.dropN 1).pick ⟨⟨0, rfl⟩, ⟨2, rfl⟩, trivial⟩, h⟩
            · rintro a w ⟨A3047_, c3048_, l3049_, xs3050_, n3051_, hf, hm, h⟩
              subst hj3052_
              try dsimp only at h
              exact hK11 _ _ ⟨A3047_, c3048_, l3049_, xs3050_, n3051_, hf.sub ⟨rfl, rfl, rfl, rfl, trivial⟩, (hm).pick ⟨⟨0, rfl⟩, ⟨1, rfl⟩, trivial⟩, h⟩
          · have h := Cin.cond_f hb2881_ h
            refine wp_exit ?_
            refine Gg.x_then ?_
            refine Gg.x_then ?_
            refine Gg.x_hit ?_
            exact hK10 _ _ ⟨A2534_, c2535_, l2536_, xs2537_, hf.sub ⟨rfl, rfl, trivial⟩, (hm).pick ⟨⟨0, rfl⟩, ⟨1, rfl⟩, trivial⟩, h⟩
      · rintro a w ⟨A2272_, c2273_, l2274_, xs2275_, hf, hm, h⟩
        subst hj2276_
        try dsimp only at h
        refine hK8 _ _ ?_
        refine wp_seq_k ?_
        intro K hK34
        refine wp_seq_k ?_
        intro K hK35
        refine Gg.c_region ?_
        refine Gg.sv (Gg.wN rfl) (Gg.y_move rfl (hf.g rfl)) hf rfl rfl ?_
        intro a hf
        refine Gg.sv (Gg.wN rfl) (Gg.y_len Tryd.underlying22 rfl (hf.g rfl)) hf rfl rfl ?_
        intro a hf
        refine Gg.sv (Gg.wN rfl) (Gg.y_move rfl (Gg.ec _ _)) hf rfl rfl ?_
        intro a hf
        refine wpList_nil ?_
        refine hK35 _ _ ?_
        obtain ⟨j3380_, hj3380_, h⟩ := Cin.join_s h
        refine Gg.c_blockJ (fun a w => ∃ (A3376_ : Option Addr) (c3377_ : Nat) (l3378_ : List Cin.Ins) (xs3379_ : List Value), Gg.Fr 137 [(3, .pointer (some ⟨g1_, 0, none⟩)), (4, .slice A3376_ l3378_.length c3377_)] a ∧ Gg.St W [] X w [Gg.Ent.row 40 4 (.slice A3376_ l3378_.length c3377_) l3378_ xs3379_, Gg.Ent.blk g1_ 25 [.int .i64 0, .int .i64 0]] [Gg.Dt.rows Cin.ty_Ins xs3379_ l3378_, Gg.Dt.glob 0 [.int .i64 0, .int .i64 1, .int .i64 0, .int .i64 3, .int .i64 3, .int .i64 0, .int .i64 0, .int .i64 0, .int .i64 0, .int .i64 0, .int .i64 0, .int .i64 0, .int .i64 0, .int .i64 2, .int .i64 2, .int .i64 2, .int .i64 2, .int .i64 2, .int .i64 3, .int .i64 4, .int .i64 4, .int .i64 0, .int .i64 3, .int .i64 0, .int .i64 0, .int .i64 0, .int .i64 4, .int .i64 0, .int .i64 0, .int .i64 3, .int .i64 3, .int .i64 0, .int .i64 0, .int .i64 0, .int .i64 4, .int .i64 0, .int .i64 0]] ∧ j3380_ l3378_ = some r) (fun K hK36 => ?_) ?_
        · clear hj3380_
          refine Gg.c_loop (fun (k2_ : Nat) a w => ∃ (A3433_ : Option Addr) (c3434_ : Nat) (l3435_ : List Cin.Ins) (xs3436_ : List Value) (n3437_ : Int), Gg.Fr 137 [(3, .pointer (some ⟨g1_, 0, none⟩)), (4, .slice A3433_ l3435_.length c3434_), (111, .slice A3433_ l3435_.length c3434_), (112, .int .i64 (l2274_.length : Int)), (113, .int .i64 n3437_)] a ∧ Gg.St W [] X w [Gg.Ent.row 40 4 (.slice A3433_ l3435_.length c3434_) l3435_ xs3436_, Gg.Ent.blk g1_ 25 [.int .i64 0, .int .i64 0]] [Gg.Dt.rows Cin.ty_Ins xs3436_ l3435_, Gg.Dt.glob 0 [.int .i64 0, .int .i64 1, .int .i64 0, .int .i64 3, .int .i64 3, .int .i64 0, .int .i64 0, .int .i64 0, .int .i64 0, .int .i64 0, .int .i64 0, .int .i64 0, .int .i64 0, .int .i64 2, .int .i64 2, .int .i64 2, .int .i64 2, .int .i64 2, .int .i64 3, .int .i64 4, .int .i64 4, .int .i64 0, .int .i64 3, .int .i64 0, .int .i64 0, .int .i64 0, .int .i64 4, .int .i64 0, .int .i64 0, .int .i64 3, .int .i64 3, .int .i64 0, .int .i64 0, .int .i64 0, .int .i64 4, .int .i64 0, .int .i64 0]] ∧ Cin.code_Decode_L2 F l2274_ j3380_ k2_ l3435_ n3437_ = some r) F ⟨A2272_, c2273_, l2274_, xs2275_, 0, hf.sub ⟨rfl, rfl, rfl, rfl, rfl, trivial⟩, (hm).pick ⟨⟨0, rfl⟩, ⟨1, rfl⟩, trivial⟩, h⟩ ?_ ?_
          · rintro a w ⟨A3433_, c3434_, l3435_, xs3436_, n3437_, hf, hm, h⟩
            exact absurd h (by simp [Cin.code_Decode_L2])
          · rintro k2_ a w ⟨A3433_, c3434_, l3435_, xs3436_, n3437_, hf, hm, h⟩ K hK37
            rw [Cin.code_Decode_L2] at h
            refine wp_seq_k ?_
            intro K hK38
            refine Gg.c_region ?_
            refine Gg.sv (Gg.wN rfl) (Gg.y_lss rfl (hf.g rfl) (hf.g rfl)) hf rfl rfl ?_
            intro a hf
            refine wpList_nil ?_
            refine hK38 _ _ ?_
            refine wp_seq_k ?_
            intro K hK39
            refine Gg.c_cond (hf.g rfl) (fun hb3491_ => ?_) (fun hb3491_ => ?_)
            · have h := Cin.cond_t hb3491_ h
              refine wp_skip ?_
              refine hK39 _ _ ?_
              refine wp_seq_k ?_
              intro K hK40
              obtain ⟨j3517_, hj3517_, h⟩ := Cin.join_s h
              refine Gg.c_blockJ (fun a w => ∃ (A3513_ : Option Addr) (c3514_ : Nat) (l3515_ : List Cin.Ins) (xs3516_ : List Value), Gg.Fr 137 [(3, .pointer (some ⟨g1_, 0, none⟩)), (4, .slice A3513_ l3515_.length c3514_), (111, .slice A3513_ l3515_.length c3514_), (112, .int .i64 (l2274_.length : Int)), (113, .int .i64 n3437_)] a ∧ Gg.St W [] X w [Gg.Ent.row 40 4 (.slice A3513_ l3515_.length c3514_) l3515_ xs3516_, Gg.Ent.blk g1_ 25 [.int .i64 0, .int .i64 0]] [Gg.Dt.rows Cin.ty_Ins xs3516_ l3515_, Gg.Dt.glob 0 [.int .i64 0, .int .i64 1, .int .i64 0, .int .i64 3, .int .i64 3, .int .i64 0, .int .i64 0, .int .i64 0, .int .i64 0, .int .i64 0, .int .i64 0, .int .i64 0, .int .i64 0, .int .i64 2, .int .i64 2, .int .i64 2, .int .i64 2, .int .i64 2, .int .i64 3, .int .i64 4, .int .i64 4, .int .i64 0, .int .i64 3, .int .i64 0, .int .i64 0, .int .i64 0, .int .i64 4, .int .i64 0, .int .i64 0, .int .i64 3, .int .i64 3, .int .i64 0, .int .i64 0, .int .i64 0, .int .i64 4, .int .i64 0, .int .i64 0]] ∧ j3517_ l3515_ = some r) (fun K hK41 => ?_) ?_
              · clear hj3517_
                refine wp_seq_k ?_
                intro K hK42
                refine Gg.c_region ?_
                obtain ⟨x3518_, hx3519_, h⟩ := Cin.bind_s h
                obtain ⟨hA3520_, hi3521_, _, rfl, hc3522_⟩ := Gg.row_at (hm.e 0 rfl) (hm.d 0 rfl) hx3519_
                refine Gg.sv (Gg.wN rfl) (Gg.y_idx Tryd.underlying22 Tryd.sizeOf40 rfl (hf.g rfl) (hf.g rfl) hA3520_ hi3521_) hf rfl rfl ?_
                intro a hf
                refine Gg.sv (Gg.wN rfl) (Gg.y_loadN (cs := [.int .i64 x3518_.At, .int .i64 x3518_.Op, .int .i64 x3518_.A, .int .i64 x3518_.B]) Tryd.isAgg40 Tryd.sizeOf40 rfl rfl (hf.g rfl) (hc3522_)) hf rfl rfl ?_
                intro a hf
                refine Gg.snew (cs := [.int .i64 0, .int .i64 0, .int .i64 0, .int .i64 0]) (Gg.wN rfl) (Gg.y_alloc Tryd.zeroValue40 rfl rfl) hf hm rfl rfl ?_
                intro a g3523_ w hf hm
                refine Gg.sst (vs := [.int .i64 x3518_.At, .int .i64 x3518_.Op, .int .i64 x3518_.A, .int .i64 x3518_.B]) 0 hm rfl (Gg.wN rfl) rfl Tryd.sizeOf40 rfl rfl rfl rfl (hf.g rfl) (hf.g rfl) rfl ?_
                intro w hm
                simp only [List.set, Gg.lay, List.drop, List.length, List.cons_append, List.nil_append] at hm
                refine wpList_nil ?_
                refine hK42 _ _ ?_
                refine wp_seq_k ?_
                intro K hK43
                refine Gg.c_region ?_
                refine Gg.sv (Gg.wN rfl) (Gg.y_move rfl (hf.g rfl)) hf rfl rfl ?_
                intro a hf
                refine Gg.sv (Gg.wN rfl) (Gg.y_fld Tryd.underlying40 rfl Tryd.sizeOf3 rfl rfl (hf.g rfl)) hf rfl rfl ?_
                intro a hf
                refine Gg.sv (Gg.wN rfl) (Gg.y_load1 Tryd.isAgg3 rfl (hf.g rfl) (Gg.blk_cell (hm.e 0 rfl) (j := 2) rfl)) hf rfl rfl ?_
                intro a hf
                obtain ⟨r3524_, hr3525_, h⟩ := Cin.bind_s h
                have hmr := hm.freeze 1 0 rfl rfl
                simp only [List.eraseIdx] at hmr
                refine Gg.sc (vs := [.slice A3433_ l3435_.length c3434_, .int .i64 x3518_.A]) (Gg.wN rfl) rfl Tryd.call11 ⟨(hf.g rfl), (hf.g rfl), trivial⟩ (c_code_Place hmr.ltM hr3525_ (hmr.d 0 rfl)) hf rfl rfl ?_
                rintro _ w ⟨rfl, hv⟩
                refine ⟨_, rfl, ?_⟩
                intro a hf
                have hm := hm.keep hv
                clear hv
                clear hmr
                refine Gg.sv (Gg.wN rfl) (Gg.y_move rfl (hf.g rfl)) hf rfl rfl ?_
                intro a hf
                refine Gg.sv (Gg.wN rfl) (Gg.y_extract (vs := [.int .i64 r3524_.1, .int .i64 r3524_.2]) rfl (hf.g rfl) rfl) hf rfl rfl ?_
                intro a hf
                refine Gg.sv (Gg.wN rfl) (Gg.y_extract (vs := [.int .i64 r3524_.1, .int .i64 r3524_.2]) rfl (hf.g rfl) rfl) hf rfl rfl ?_
                intro a hf
                refine Gg.sv (Gg.wN rfl) (Gg.y_assign rfl (hf.g rfl)) hf rfl rfl ?_
                intro a hf
                refine Gg.sv (Gg.wN rfl) (Gg.y_assign rfl (hf.g rfl)) hf rfl rfl ?_
                intro a hf
                refine wpList_nil ?_
                have hf := hf.sub (l' := [(3, .pointer (some ⟨g1_, 0, none⟩)), (4, .slice A3433_ l3435_.length c3434_), (111, .slice A3433_ l3435_.length c3434_), (112, .int .i64 (l2274_.length : Int)), (113, .int .i64 n3437_), (10, .pointer (some ⟨g3523_, 0, none⟩)), (12, .int .i64 r3524_.2)]) ⟨rfl, rfl, rfl, rfl, rfl, rfl, rfl, trivial⟩
                refine hK43 _ _ ?_
                obtain ⟨j3534_, hj3534_, h⟩ := Cin.join_s h
                refine Gg.c_meet (fun a w => ∃ (A3529_ : Option Addr) (c3530_ : Nat) (l3531_ : List Cin.Ins) (xs3532_ : List Value) (b3533_ : Bool), Gg.Fr 137 [(3, .pointer (some ⟨g1_, 0, none⟩)), (4, .slice A3529_ l3531_.length c3530_), (10, .pointer (some ⟨g3523_, 0, none⟩)), (111, .slice A3529_ l3531_.length c3530_), (112, .int .i64 (l2274_.length : Int)), (113, .int .i64 n3437_), (130, .bool b3533_)] a ∧ Gg.St W [] X w [Gg.Ent.blk g3523_ 40 [.int .i64 x3518_.At, .int .i64 x3518_.Op, .int .i64 x3518_.A, .int .i64 x3518_.B], Gg.Ent.row 40 4 (.slice A3529_ l3531_.length c3530_) l3531_ xs3532_, Gg.Ent.blk g1_ 25 [.int .i64 0, .int .i64 0]] [Gg.Dt.rows Cin.ty_Ins xs3532_ l3531_, Gg.Dt.glob 0 [.int .i64 0, .int .i64 1, .int .i64 0, .int .i64 3, .int .i64 3, .int .i64 0, .int .i64 0, .int .i64 0, .int .i64 0, .int .i64 0, .int .i64 0, .int .i64 0, .int .i64 0, .int .i64 2, .int .i64 2, .int .i64 2, .int .i64 2, .int .i64 2, .int .i64 3, .int .i64 4, .int .i64 4, .int .i64 0, .int .i64 3, .int .i64 0, .int .i64 0, .int .i64 0, .int .i64 4, .int .i64 0, .int .i64 0, .int .i64 3, .int .i64 3, .int .i64 0, .int .i64 0, .int .i64 0, .int .i64 4, .int .i64 0, .int .i64 0]] ∧ j3534_ l3531_ b3533_ = some r) (fun K hK44 => ?_) ?_
                · clear hj3534_
                  refine Gg.c_region ?_
                  refine Gg.sv (Gg.wN rfl) (Gg.y_fld Tryd.underlying40 rfl Tryd.sizeOf3 rfl rfl (hf.g rfl)) hf rfl rfl ?_
                  intro a hf
                  refine Gg.sv (Gg.wN rfl) (Gg.y_load1 Tryd.isAgg3 rfl (hf.g rfl) (Gg.blk_cell (hm.e 0 rfl) (j := 1) rfl)) hf rfl rfl ?_
                  intro a hf
                  obtain ⟨r3535_, hr3536_, h⟩ := Cin.bind_s h
                  refine Gg.sc (vs := [.int .i64 x3518_.Op]) (Gg.wN rfl) rfl Tryd.call18 ⟨(hf.g rfl), trivial⟩ (c_code_Goes hm.ltM hr3536_ (hm.d 1 rfl)) hf rfl rfl ?_
                  rintro _ w ⟨rfl, hv⟩
                  refine ⟨_, rfl, ?_⟩
                  intro a hf
                  have hm := hm.keep hv
                  clear hv
                  refine Gg.sv (Gg.wN rfl) (Gg.y_move rfl (hf.g rfl)) hf rfl rfl ?_
                  intro a hf
                  rcases Bool.eq_false_or_eq_true r3535_ with hb3537_ | hb3537_
                  · have h := Cin.cond_t hb3537_ h
                    refine Gg.sv (Gg.wantT' hf rfl rfl rfl hb3537_ rfl) (Gg.y_move rfl (hf.g rfl)) hf rfl rfl ?_
                    intro a hf
                    refine Gg.sv (Gg.wantT' hf rfl rfl rfl hb3537_ rfl) (Gg.y_neI Tryd.underlying23 rfl (hf.g rfl) (Gg.ec _ _)) hf rfl rfl ?_
                    intro a hf
                    refine Gg.sv (Gg.wN rfl) (Gg.y_pickT' rfl (hf.g rfl) hb3537_ (hf.g rfl)) hf rfl rfl ?_
                    intro a hf
                    refine wpList_nil ?_
                    exact hK44 _ _ ⟨A3433_, c3434_, l3435_, xs3436_, !decide (r3524_.2 = 0), hf.sub ⟨rfl, rfl, rfl, rfl, rfl, rfl, rfl, trivial⟩, (hm).pick ⟨⟨0, rfl⟩, ⟨1, rfl⟩, trivial⟩, h⟩
                  · have h := Cin.cond_f hb3537_ h
                    refine Gg.ss (Gg.wantF' hf rfl rfl rfl hb3537_ rfl rfl) hf rfl rfl ?_
                    intro a hf
                    refine Gg.ss (Gg.wantF' hf rfl rfl rfl hb3537_ rfl rfl) hf rfl rfl ?_
                    intro a hf
                    refine Gg.sv (Gg.wN rfl) (Gg.y_pickF' rfl (hf.g rfl) hb3537_ (Gg.ec _ _)) hf rfl rfl ?_
                    intro a hf
                    refine wpList_nil ?_
                    exact hK44 _ _ ⟨A3433_, c3434_, l3435_, xs3436_, false, hf.sub ⟨rfl, rfl, rfl, rfl, rfl, rfl, rfl, trivial⟩, (hm).pick ⟨⟨0, rfl⟩, ⟨1, rfl⟩, trivial⟩, h⟩
                · rintro a w ⟨A3529_, c3530_, l3531_, xs3532_, b3533_, hf, hm, h⟩
                  subst hj3534_
                  try dsimp only at h
                  refine Gg.c_cond (hf.g rfl) (fun hb3538_ => ?_) (fun hb3538_ => ?_)
                  · have h := Cin.cond_t hb3538_ h
                    refine wp_seq_k ?_
                    intro K hK45
                    refine Gg.c_any (m := 5) (by kernel_rfl) rfl ?_
                    intro w hv
                    have hm := hm.keep hv
                    clear hv
                    refine Gg.an_v 0 rfl (by kernel_rfl) (Gg.wN rfl) (fun w => Gg.y_fld Tryd.underlying40 rfl Tryd.sizeOf3 rfl rfl (hf.g rfl)) hf rfl rfl ?_
                    intro a hf
                    refine Gg.an_v 3 rfl (by kernel_rfl) (Gg.wN rfl) (fun w => Gg.y_assign rfl (Gg.ec _ _)) hf rfl rfl ?_
                    intro a hf
                    refine Gg.an_o 1 rfl (by kernel_rfl) ?_
                    refine Gg.sv (Gg.wN rfl) (Gg.y_load1 Tryd.isAgg3 rfl (hf.g rfl) (Gg.blk_cell (hm.e 0 rfl) (j := 0) rfl)) hf rfl rfl ?_
                    intro a hf
                    refine Gg.an_n ?_
                    refine Gg.an_v 2 rfl (by kernel_rfl) (Gg.wN rfl) (fun w => Gg.y_build (vs := [(0, .int .i64 3), (1, .int .i64 x3518_.At)]) (cs := [.int .i64 3, .int .i64 x3518_.At]) Tryd.zeroValue25 Tryd.underlying25 places25 rfl ⟨⟨(Gg.ec _ _), rfl⟩, ⟨(hf.g rfl), rfl⟩, trivial⟩ rfl) hf rfl rfl ?_
                    intro a hf
                    refine Gg.an_o 4 rfl (by kernel_rfl) ?_
                    refine Gg.sst (vs := [.int .i64 3, .int .i64 x3518_.At]) 2 hm rfl (Gg.wN rfl) rfl Tryd.sizeOf25 rfl rfl rfl rfl (hf.g rfl) (hf.g rfl) rfl ?_
                    intro w hm
                    simp only [List.set, Gg.lay, List.drop, List.length, List.cons_append, List.nil_append] at hm
                    refine Gg.an_n ?_
                    refine Gg.an_done (by kernel_rfl) ?_
                    refine hK45 _ _ ?_
                    refine wp_ret ?_
                    cases h
                    refine Gg.x_retB ?_
                    refine Gg.x_retT ?_
                    refine Gg.x_retT ?_
                    refine Gg.x_retT ?_
                    refine Gg.x_retB ?_
                    refine Gg.x_retT ?_
                    refine Gg.x_retT ?_
                    refine Gg.r_any (vs := [.slice none 0 0, .agg #[.int .i64 3, .int .i64 x3518_.At]]) Tryd.results7 hf ⟨hf.g rfl, ⟨_, _, hf.g rfl, .inl ⟨[.int .i64 3, .int .i64 x3518_.At], Tryd.isAgg25, Tryd.sizeOf25, Gg.blk_cells (hm.e 2 rfl) 0 ⟨rfl, rfl, trivial⟩, rfl⟩⟩, trivial⟩ ?_
                    exact ⟨none, 0, rfl, hm.ev, Gg.nil_ok _ _ _⟩
                  · have h := Cin.cond_f hb3538_ h
                    refine wp_skip ?_
                    exact hK41 _ _ ⟨A3529_, c3530_, l3531_, xs3532_, hf.sub ⟨rfl, rfl, rfl, rfl, rfl, trivial⟩, (hm.dropN 1).pick ⟨⟨0, rfl⟩, ⟨1, rfl⟩, trivial⟩, h⟩
              · rintro a w ⟨A3513_, c3514_, l3515_, xs3516_, hf, hm, h⟩
                subst hj3517_
                try dsimp only at h
                refine hK40 _ _ ?_
                refine Gg.c_region ?_
                refine Gg.sv (Gg.wN rfl) (Gg.y_add64 rfl (hf.g rfl) (Gg.ec _ _)) hf rfl rfl ?_
                intro a hf
                refine Gg.sv (Gg.wN rfl) (Gg.y_move rfl (hf.g rfl)) hf rfl rfl ?_
                intro a hf
                refine wpList_nil ?_
                exact hK37 _ _ ⟨A3513_, c3514_, l3515_, xs3516_, Cin.w64 (n3437_ + 1), hf.sub ⟨rfl, rfl, rfl, rfl, rfl, trivial⟩, (hm).pick ⟨⟨0, rfl⟩, ⟨1, rfl⟩, trivial⟩, h⟩
            · have h := Cin.cond_f hb3491_ h
              refine wp_exit ?_
              refine Gg.x_then ?_
              refine Gg.x_then ?_
              refine Gg.x_hit ?_
              exact hK36 _ _ ⟨A3433_, c3434_, l3435_, xs3436_, hf.sub ⟨rfl, rfl, trivial⟩, (hm).pick ⟨⟨0, rfl⟩, ⟨1, rfl⟩, trivial⟩, h⟩
        · rintro a w ⟨A3376_, c3377_, l3378_, xs3379_, hf, hm, h⟩
          subst hj3380_
          try dsimp only at h
          refine hK34 _ _ ?_
          refine wp_seq_k ?_
          intro K hK46
          refine Gg.c_region ?_
          refine Gg.sv (Gg.wN rfl) (Gg.y_move rfl (hf.g rfl)) hf rfl rfl ?_
          intro a hf
          refine Gg.sv (Gg.wN rfl) (Gg.y_build (vs := []) (cs := [.int .i64 0, .int .i64 0]) Tryd.zeroValue25 Tryd.underlying25 places25 rfl trivial rfl) hf rfl rfl ?_
          intro a hf
          refine Gg.sv (Gg.wN rfl) (Gg.y_assign rfl (hf.g rfl)) hf rfl rfl ?_
          intro a hf
          refine Gg.sst (vs := [.int .i64 0, .int .i64 0]) 1 hm rfl (Gg.wN rfl) rfl Tryd.sizeOf25 rfl rfl rfl rfl (hf.g rfl) (hf.g rfl) rfl ?_
          intro w hm
          simp only [List.set, Gg.lay, List.drop, List.length, List.cons_append, List.nil_append] at hm
          refine wpList_nil ?_
          refine hK46 _ _ ?_
          refine wp_ret ?_
          cases h
          have hm := hm.freeze 0 0 rfl rfl
          simp only [List.eraseIdx] at hm
          refine Gg.r_any (vs := [.slice A3376_ l3378_.length c3377_, .agg #[.int .i64 0, .int .i64 0]]) Tryd.results7 hf ⟨hf.g rfl, ⟨_, _, hf.g rfl, .inl ⟨[.int .i64 0, .int .i64 0], Tryd.isAgg25, Tryd.sizeOf25, Gg.blk_cells (hm.e 0 rfl) 0 ⟨rfl, rfl, trivial⟩, rfl⟩⟩, trivial⟩ ?_
          exact ⟨A3376_, c3377_, rfl, hm.ev, (hm.res 0 rfl)⟩

end Go.Proofs.YtcioldnpdkfeoaaDoor
