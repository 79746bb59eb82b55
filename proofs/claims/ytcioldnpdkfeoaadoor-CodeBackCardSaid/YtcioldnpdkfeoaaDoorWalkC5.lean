/- The walks of this group, made by program. -/
import Derived.Test.YtcioldnpdkfeoaaDoorWalkC4
import Derived.Test.YtcioldnpdkfeoaaDoorPureC5
import Derived.Test.YtcioldnpdkfeoaaDoorChecked
namespace Go.Proofs.YtcioldnpdkfeoaaDoor
open Go Go.RowKit
theorem info5 : (Tryd.prog.info? 5).map (fun i => (i.zero, i.size, i.bytes)) = some (some (.int .u8 ((0 : UInt8).toNat : Int)), 1, 1) := by kernel_rfl
set_option maxHeartbeats 4000000 in
set_option maxRecDepth 20000 in
theorem c_code_Encode {X : List Nat} {W : World} {F : Nat} {l_ : List Cin.Ins} {r : (List UInt8) × Int} {A1_ : Option Addr} {c2_ : Nat} (hX : ∀ k ∈ X, k < W.heap.size) (h : Cin.code_Encode F l_ = some r) (dg0 : (Gg.Dt.glob 0 [.int .i64 0, .int .i64 1, .int .i64 0, .int .i64 3, .int .i64 3, .int .i64 0, .int .i64 0, .int .i64 0, .int .i64 0, .int .i64 0, .int .i64 0, .int .i64 0, .int .i64 0, .int .i64 2, .int .i64 2, .int .i64 2, .int .i64 2, .int .i64 2, .int .i64 3, .int .i64 4, .int .i64 4, .int .i64 0, .int .i64 3, .int .i64 0, .int .i64 0, .int .i64 0, .int .i64 4, .int .i64 0, .int .i64 0, .int .i64 3, .int .i64 3, .int .i64 0, .int .i64 0, .int .i64 0, .int .i64 4, .int .i64 0, .int .i64 0]).ok X W) (d2 : (Gg.Dt.of (Gg.tySlice Cin.ty_Ins) [.slice A1_ l_.length c2_] l_).ok X W) :
    Calls Tryd.prog 13 [.slice A1_ l_.length c2_].toArray W (fun e w' => e = .returned (.tuple #[Gg.Str r.1, .int .i64 r.2]) ∧ Gg.Ev [] W w') := by
  refine Gg.enter Tryd.func13 rfl Tryd.ntmps13 rfl ?_
  intro a hf
  have hm := Gg.St.start0 X W [Gg.Dt.glob 0 [.int .i64 0, .int .i64 1, .int .i64 0, .int .i64 3, .int .i64 3, .int .i64 0, .int .i64 0, .int .i64 0, .int .i64 0, .int .i64 0, .int .i64 0, .int .i64 0, .int .i64 0, .int .i64 2, .int .i64 2, .int .i64 2, .int .i64 2, .int .i64 2, .int .i64 3, .int .i64 4, .int .i64 4, .int .i64 0, .int .i64 3, .int .i64 0, .int .i64 0, .int .i64 0, .int .i64 4, .int .i64 0, .int .i64 0, .int .i64 3, .int .i64 3, .int .i64 0, .int .i64 0, .int .i64 0, .int .i64 4, .int .i64 0, .int .i64 0], Gg.Dt.of (Gg.tySlice Cin.ty_Ins) [.slice A1_ l_.length c2_] l_] hX ⟨dg0, d2, trivial⟩
  rw [Cin.code_Encode] at h
  refine wp_seq_k ?_
  intro K hK1
  refine Gg.c_region ?_
  refine Gg.sv (Gg.wN rfl) (Gg.y_assign rfl (Gg.ec _ _)) hf rfl rfl ?_
  intro a hf
  refine Gg.sv (Gg.wN rfl) (Gg.y_assign rfl (Gg.ec _ _)) hf rfl rfl ?_
  intro a hf
  refine wpList_nil ?_
  refine hK1 _ _ ?_
  refine wp_seq_k ?_
  intro K hK2
  refine Gg.c_region ?_
  refine Gg.sv (Gg.wN rfl) (Gg.y_assign rfl (Gg.ec _ _)) hf rfl rfl ?_
  intro a hf
  refine wpList_nil ?_
  refine hK2 _ _ ?_
  refine wp_seq_k ?_
  intro K hK3
  refine wp_seq_k ?_
  intro K hK4
  refine Gg.c_region ?_
  refine Gg.sv (Gg.wN rfl) (Gg.y_move rfl (hf.g rfl)) hf rfl rfl ?_
  intro a hf
  refine Gg.sv (Gg.wN rfl) (Gg.y_len Tryd.underlying22 rfl (hf.g rfl)) hf rfl rfl ?_
  intro a hf
  refine Gg.sv (Gg.wN rfl) (Gg.y_move rfl (Gg.ec _ _)) hf rfl rfl ?_
  intro a hf
  refine wpList_nil ?_
  refine hK4 _ _ ?_
  have hm := hm.nilRow (α := UInt8) 5 1
  have hm := hm.more (y := Gg.Dt.rows Gg.tyByte [] []) rfl
  obtain ⟨j1348_, hj1348_, h⟩ := Cin.join_s h
  refine Gg.c_blockJ (fun a w => ∃ (A1344_ : Option Addr) (c1345_ : Nat) (l1346_ : List UInt8) (xs1347_ : List Value), Gg.Fr 76 [(4, .slice A1344_ l1346_.length c1345_)] a ∧ Gg.St W [] X w [Gg.Ent.row 5 1 (.slice A1344_ l1346_.length c1345_) l1346_ xs1347_] [Gg.Dt.rows Gg.tyByte xs1347_ l1346_, Gg.Dt.glob 0 [.int .i64 0, .int .i64 1, .int .i64 0, .int .i64 3, .int .i64 3, .int .i64 0, .int .i64 0, .int .i64 0, .int .i64 0, .int .i64 0, .int .i64 0, .int .i64 0, .int .i64 0, .int .i64 2, .int .i64 2, .int .i64 2, .int .i64 2, .int .i64 2, .int .i64 3, .int .i64 4, .int .i64 4, .int .i64 0, .int .i64 3, .int .i64 0, .int .i64 0, .int .i64 0, .int .i64 4, .int .i64 0, .int .i64 0, .int .i64 3, .int .i64 3, .int .i64 0, .int .i64 0, .int .i64 0, .int .i64 4, .int .i64 0, .int .i64 0], Gg.Dt.of (Gg.tySlice Cin.ty_Ins) [.slice A1_ l_.length c2_] l_] ∧ j1348_ l1346_ = some r) (fun K hK5 => ?_) ?_
  · clear hj1348_
    refine Gg.c_loop (fun (k1_ : Nat) a w => ∃ (A1525_ : Option Addr) (c1526_ : Nat) (l1527_ : List UInt8) (xs1528_ : List Value) (n1529_ : Int), Gg.Fr 76 [(4, .slice A1525_ l1527_.length c1526_), (7, .slice A1_ l_.length c2_), (8, .int .i64 (l_.length : Int)), (9, .int .i64 n1529_)] a ∧ Gg.St W [] X w [Gg.Ent.row 5 1 (.slice A1525_ l1527_.length c1526_) l1527_ xs1528_] [Gg.Dt.rows Gg.tyByte xs1528_ l1527_, Gg.Dt.glob 0 [.int .i64 0, .int .i64 1, .int .i64 0, .int .i64 3, .int .i64 3, .int .i64 0, .int .i64 0, .int .i64 0, .int .i64 0, .int .i64 0, .int .i64 0, .int .i64 0, .int .i64 0, .int .i64 2, .int .i64 2, .int .i64 2, .int .i64 2, .int .i64 2, .int .i64 3, .int .i64 4, .int .i64 4, .int .i64 0, .int .i64 3, .int .i64 0, .int .i64 0, .int .i64 0, .int .i64 4, .int .i64 0, .int .i64 0, .int .i64 3, .int .i64 3, .int .i64 0, .int .i64 0, .int .i64 0, .int .i64 4, .int .i64 0, .int .i64 0], Gg.Dt.of (Gg.tySlice Cin.ty_Ins) [.slice A1_ l_.length c2_] l_] ∧ Cin.code_Encode_L1 l_ j1348_ k1_ l1527_ n1529_ = some r) F ⟨none, 0, [], [], 0, hf.sub ⟨rfl, rfl, rfl, rfl, trivial⟩, (hm).pick ⟨⟨0, rfl⟩, ⟨1, rfl⟩, ⟨2, rfl⟩, trivial⟩, h⟩ ?_ ?_
    · rintro a w ⟨A1525_, c1526_, l1527_, xs1528_, n1529_, hf, hm, h⟩
      exact absurd h (by simp [Cin.code_Encode_L1])
    · rintro k1_ a w ⟨A1525_, c1526_, l1527_, xs1528_, n1529_, hf, hm, h⟩ K hK6
      rw [Cin.code_Encode_L1] at h
      refine wp_seq_k ?_
      intro K hK7
      refine Gg.c_region ?_
      refine Gg.sv (Gg.wN rfl) (Gg.y_lss rfl (hf.g rfl) (hf.g rfl)) hf rfl rfl ?_
      intro a hf
      refine wpList_nil ?_
      refine hK7 _ _ ?_
      refine wp_seq_k ?_
      intro K hK8
      refine Gg.c_cond (hf.g rfl) (fun hb1711_ => ?_) (fun hb1711_ => ?_)
      · have h := Cin.cond_t hb1711_ h
        refine wp_skip ?_
        refine hK8 _ _ ?_
        refine wp_seq_k ?_
        intro K hK9
        obtain ⟨j1801_, hj1801_, h⟩ := Cin.join_s h
        refine Gg.c_blockJ (fun a w => ∃ (A1797_ : Option Addr) (c1798_ : Nat) (l1799_ : List UInt8) (xs1800_ : List Value), Gg.Fr 76 [(4, .slice A1797_ l1799_.length c1798_), (7, .slice A1_ l_.length c2_), (8, .int .i64 (l_.length : Int)), (9, .int .i64 n1529_)] a ∧ Gg.St W [] X w [Gg.Ent.row 5 1 (.slice A1797_ l1799_.length c1798_) l1799_ xs1800_] [Gg.Dt.rows Gg.tyByte xs1800_ l1799_, Gg.Dt.glob 0 [.int .i64 0, .int .i64 1, .int .i64 0, .int .i64 3, .int .i64 3, .int .i64 0, .int .i64 0, .int .i64 0, .int .i64 0, .int .i64 0, .int .i64 0, .int .i64 0, .int .i64 0, .int .i64 2, .int .i64 2, .int .i64 2, .int .i64 2, .int .i64 2, .int .i64 3, .int .i64 4, .int .i64 4, .int .i64 0, .int .i64 3, .int .i64 0, .int .i64 0, .int .i64 0, .int .i64 4, .int .i64 0, .int .i64 0, .int .i64 3, .int .i64 3, .int .i64 0, .int .i64 0, .int .i64 0, .int .i64 4, .int .i64 0, .int .i64 0], Gg.Dt.of (Gg.tySlice Cin.ty_Ins) [.slice A1_ l_.length c2_] l_] ∧ j1801_ l1799_ = some r) (fun K hK10 => ?_) ?_
        · clear hj1801_
          refine wp_seq_k ?_
          intro K hK11
          refine Gg.c_region ?_
          obtain ⟨x1802_, hx1803_, h⟩ := Cin.bind_s h
          obtain ⟨hA1804_, hi1805_, _, rfl, hc1806_⟩ := Gg.slice_at _ (hm.d 2 rfl) hx1803_
          refine Gg.sv (Gg.wN rfl) (Gg.y_idx Tryd.underlying22 Tryd.sizeOf40 rfl (hf.g rfl) (hf.g rfl) hA1804_ hi1805_) hf rfl rfl ?_
          intro a hf
          refine Gg.sv (Gg.wN rfl) (Gg.y_loadN (cs := [.int .i64 x1802_.At, .int .i64 x1802_.Op, .int .i64 x1802_.A, .int .i64 x1802_.B]) Tryd.isAgg40 Tryd.sizeOf40 rfl rfl (hf.g rfl) (hc1806_)) hf rfl rfl ?_
          intro a hf
          refine Gg.snew (cs := [.int .i64 0, .int .i64 0, .int .i64 0, .int .i64 0]) (Gg.wN rfl) (Gg.y_alloc Tryd.zeroValue40 rfl rfl) hf hm rfl rfl ?_
          intro a g1807_ w hf hm
          refine Gg.sst (vs := [.int .i64 x1802_.At, .int .i64 x1802_.Op, .int .i64 x1802_.A, .int .i64 x1802_.B]) 0 hm rfl (Gg.wN rfl) rfl Tryd.sizeOf40 rfl rfl rfl rfl (hf.g rfl) (hf.g rfl) rfl ?_
          intro w hm
          simp only [List.set, Gg.lay, List.drop, List.length, List.cons_append, List.nil_append] at hm
          refine wpList_nil ?_
          refine hK11 _ _ ?_
          refine wp_seq_k ?_
          intro K hK12
          refine wp_block ?_
          refine wp_seq_k ?_
          intro K hK13
          refine Gg.c_region ?_
          refine Gg.sv (Gg.wN rfl) (Gg.y_fld Tryd.underlying40 rfl Tryd.sizeOf3 rfl rfl (hf.g rfl)) hf rfl rfl ?_
          intro a hf
          refine Gg.sv (Gg.wN rfl) (Gg.y_load1 Tryd.isAgg3 rfl (hf.g rfl) (Gg.blk_cell (hm.e 0 rfl) (j := 1) rfl)) hf rfl rfl ?_
          intro a hf
          obtain ⟨r1808_, hr1809_, h⟩ := Cin.bind_s h
          refine Gg.sc (vs := [.int .i64 x1802_.Op]) (Gg.wN rfl) rfl Tryd.call16 ⟨(hf.g rfl), trivial⟩ (c_code_IsOp hm.ltM hr1809_ ) hf rfl rfl ?_
          rintro _ w ⟨rfl, hv⟩
          refine ⟨_, rfl, ?_⟩
          intro a hf
          have hm := hm.keep hv
          clear hv
          refine Gg.sv (Gg.wN rfl) (Gg.y_not rfl (hf.g rfl)) hf rfl rfl ?_
          intro a hf
          refine Gg.sv (Gg.wN rfl) (Gg.y_assign rfl (hf.g rfl)) hf rfl rfl ?_
          intro a hf
          refine wpList_nil ?_
          refine hK13 _ _ ?_
          refine Gg.c_cond (hf.g rfl) (fun hb1810_ => ?_) (fun hb1810_ => ?_)
          · have h := Cin.cond_t hb1810_ h
            refine wp_seq_k ?_
            intro K hK14
            refine Gg.c_region ?_
            refine Gg.sv (Gg.wN rfl) (Gg.y_assign rfl (Gg.ec _ _)) hf rfl rfl ?_
            intro a hf
            refine Gg.sv (Gg.wN rfl) (Gg.y_assign rfl (Gg.ec _ _)) hf rfl rfl ?_
            intro a hf
            refine wpList_nil ?_
            have hf := hf.sub (l' := [(2, Gg.Str []), (3, .int .i64 7)]) ⟨rfl, rfl, trivial⟩
            refine hK14 _ _ ?_
            refine wp_ret ?_
            cases h
            refine Gg.x_retB ?_
            refine Gg.x_retT ?_
            refine Gg.x_retB ?_
            refine Gg.x_retT ?_
            refine Gg.x_retT ?_
            refine Gg.x_retT ?_
            refine Gg.x_retB ?_
            refine Gg.x_retT ?_
            refine Gg.x_retT ?_
            refine Gg.r_two Tryd.results13 hf rfl rfl ?_
            exact ⟨rfl, hm.ev⟩
          · have h := Cin.cond_f hb1810_ h
            refine wp_seq_k ?_
            intro K hK15
            refine Gg.c_region ?_
            refine Gg.sv (Gg.wN rfl) (Gg.y_loadN (cs := [.int .i64 x1802_.At, .int .i64 x1802_.Op, .int .i64 x1802_.A, .int .i64 x1802_.B]) Tryd.isAgg40 Tryd.sizeOf40 rfl rfl (hf.g rfl) (Gg.blk_cells (hm.e 0 rfl) 0 ⟨rfl, rfl, rfl, rfl, trivial⟩)) hf rfl rfl ?_
            intro a hf
            obtain ⟨r1811_, hr1812_, h⟩ := Cin.bind_s h
            refine Gg.sc (vs := [.agg #[.int .i64 x1802_.At, .int .i64 x1802_.Op, .int .i64 x1802_.A, .int .i64 x1802_.B]]) (Gg.wN rfl) rfl Tryd.call24 ⟨(hf.g rfl), trivial⟩ (c_code_fits hm.ltM hr1812_ (hm.d 1 rfl)) hf rfl rfl ?_
            rintro _ w ⟨rfl, hv⟩
            refine ⟨_, rfl, ?_⟩
            intro a hf
            have hm := hm.keep hv
            clear hv
            refine Gg.sv (Gg.wN rfl) (Gg.y_not rfl (hf.g rfl)) hf rfl rfl ?_
            intro a hf
            refine Gg.sv (Gg.wN rfl) (Gg.y_assign rfl (hf.g rfl)) hf rfl rfl ?_
            intro a hf
            refine wpList_nil ?_
            have hf := hf.sub (l' := [(4, .slice A1525_ l1527_.length c1526_), (7, .slice A1_ l_.length c2_), (8, .int .i64 (l_.length : Int)), (9, .int .i64 n1529_), (6, .pointer (some ⟨g1807_, 0, none⟩)), (18, .bool (!r1811_))]) ⟨rfl, rfl, rfl, rfl, rfl, rfl, trivial⟩
            refine hK15 _ _ ?_
            refine Gg.c_cond (hf.g rfl) (fun hb1813_ => ?_) (fun hb1813_ => ?_)
            · have h := Cin.cond_t hb1813_ h
              refine wp_seq_k ?_
              intro K hK16
              refine Gg.c_region ?_
              refine Gg.sv (Gg.wN rfl) (Gg.y_assign rfl (Gg.ec _ _)) hf rfl rfl ?_
              intro a hf
              refine Gg.sv (Gg.wN rfl) (Gg.y_assign rfl (Gg.ec _ _)) hf rfl rfl ?_
              intro a hf
              refine wpList_nil ?_
              refine hK16 _ _ ?_
              refine wp_ret ?_
              cases h
              refine Gg.x_retB ?_
              refine Gg.x_retT ?_
              refine Gg.x_retB ?_
              refine Gg.x_retT ?_
              refine Gg.x_retT ?_
              refine Gg.x_retT ?_
              refine Gg.x_retB ?_
              refine Gg.x_retT ?_
              refine Gg.x_retT ?_
              refine Gg.r_two Tryd.results13 hf rfl rfl ?_
              exact ⟨rfl, hm.ev⟩
            · have h := Cin.cond_f hb1813_ h
              refine wp_seq_k ?_
              intro K hK17
              refine Gg.c_region ?_
              refine Gg.sv (Gg.wN rfl) (Gg.y_fld Tryd.underlying40 rfl Tryd.sizeOf3 rfl rfl (hf.g rfl)) hf rfl rfl ?_
              intro a hf
              refine Gg.sv (Gg.wN rfl) (Gg.y_load1 Tryd.isAgg3 rfl (hf.g rfl) (Gg.blk_cell (hm.e 0 rfl) (j := 0) rfl)) hf rfl rfl ?_
              intro a hf
              refine Gg.sv (Gg.wN rfl) (Gg.y_move rfl (hf.g rfl)) hf rfl rfl ?_
              intro a hf
              refine Gg.sv (Gg.wN rfl) (Gg.y_len Tryd.underlying49 rfl (hf.g rfl)) hf rfl rfl ?_
              intro a hf
              refine Gg.sv (Gg.wN rfl) (Gg.y_neI Tryd.underlying3 rfl (hf.g rfl) (hf.g rfl)) hf rfl rfl ?_
              intro a hf
              refine Gg.sv (Gg.wN rfl) (Gg.y_assign rfl (hf.g rfl)) hf rfl rfl ?_
              intro a hf
              refine wpList_nil ?_
              refine hK17 _ _ ?_
              refine Gg.c_cond (hf.g rfl) (fun hb1814_ => ?_) (fun hb1814_ => ?_)
              · have h := Cin.cond_t hb1814_ h
                refine wp_seq_k ?_
                intro K hK18
                refine Gg.c_region ?_
                refine Gg.sv (Gg.wN rfl) (Gg.y_assign rfl (Gg.ec _ _)) hf rfl rfl ?_
                intro a hf
                refine Gg.sv (Gg.wN rfl) (Gg.y_assign rfl (Gg.ec _ _)) hf rfl rfl ?_
                intro a hf
                refine wpList_nil ?_
                refine hK18 _ _ ?_
                refine wp_ret ?_
                cases h
                refine Gg.x_retB ?_
                refine Gg.x_retT ?_
                refine Gg.x_retB ?_
                refine Gg.x_retT ?_
                refine Gg.x_retT ?_
                refine Gg.x_retT ?_
                refine Gg.x_retB ?_
                refine Gg.x_retT ?_
                refine Gg.x_retT ?_
                refine Gg.r_two Tryd.results13 hf rfl rfl ?_
                exact ⟨rfl, hm.ev⟩
              · have h := Cin.cond_f hb1814_ h
                refine wp_skip ?_
                refine hK12 _ _ ?_
                refine wp_seq_k ?_
                intro K hK19
                refine Gg.c_region ?_
                refine Gg.sv (Gg.wN rfl) (Gg.y_move rfl (hf.g rfl)) hf rfl rfl ?_
                intro a hf
                refine Gg.sv (Gg.wN rfl) (Gg.y_fld Tryd.underlying40 rfl Tryd.sizeOf3 rfl rfl (hf.g rfl)) hf rfl rfl ?_
                intro a hf
                refine Gg.sv (Gg.wN rfl) (Gg.y_load1 Tryd.isAgg3 rfl (hf.g rfl) (Gg.blk_cell (hm.e 0 rfl) (j := 1) rfl)) hf rfl rfl ?_
                intro a hf
                refine Gg.sv (Gg.wN rfl) (Gg.y_cU8 Tryd.underlying3 Tryd.underlying5 rfl (hf.g rfl)) hf rfl rfl ?_
                intro a hf
                refine Gg.snewS (cs := [.int .u8 ((Cin.b8 x1802_.Op).toNat : Int)]) (Gg.wN rfl) (Gg.y_buildSlice (vs := [(0, .int .u8 ((Cin.b8 x1802_.Op).toNat : Int))]) Tryd.underlying49 Tryd.sizeOf5 Tryd.zeroValue5 rfl rfl rfl ⟨⟨(hf.g rfl), rfl⟩, trivial⟩ (by kernel_rfl)) hf hm rfl rfl ?_
                intro a g1815_ w hf hm
                obtain ⟨l1816_, hl1817_, h⟩ := Cin.bind_s h
                refine Gg.sapp (ml := [Cin.b8 x1802_.Op]) 2 0 hm rfl rfl Tryd.underlying49 info5 rfl rfl hl1817_ rfl rfl rfl rfl (Gg.wN rfl) rfl (hf.g rfl) (hf.g rfl) hf rfl rfl ?_
                intro a A1818_ c1819_ w hf hm
                have hm := hm.more (y := Gg.Dt.rows Gg.tyByte (xs1528_ ++ [.int .u8 ((Cin.b8 x1802_.Op).toNat : Int)]) l1816_) (Gg.rdAll_to (Cin.app_some hl1817_).2 (Gg.rdAll_snocs (hm.d 0 rfl) ⟨_, _, rfl, rfl, rfl⟩))
                obtain ⟨xs1820_, hxs⟩ : ∃ z, z = xs1528_ ++ [.int .u8 ((Cin.b8 x1802_.Op).toNat : Int)] := ⟨_, rfl⟩
                rw [← hxs] at hm
                clear hxs
                simp only [List.set] at hm
                have hm := hm.eraseE 0
                simp only [List.eraseIdx] at hm
                refine Gg.sv (Gg.wN rfl) (Gg.y_assign rfl (hf.g rfl)) hf rfl rfl ?_
                intro a hf
                refine wpList_nil ?_
                have hf := hf.sub (l' := [(4, .slice A1818_ l1816_.length c1819_), (7, .slice A1_ l_.length c2_), (8, .int .i64 (l_.length : Int)), (9, .int .i64 n1529_), (6, .pointer (some ⟨g1807_, 0, none⟩))]) ⟨rfl, rfl, rfl, rfl, rfl, trivial⟩
                refine hK19 _ _ ?_
                refine wp_seq_k ?_
                intro K hK20
                refine Gg.c_region ?_
                refine Gg.sv (Gg.wN rfl) (Gg.y_fld Tryd.underlying40 rfl Tryd.sizeOf3 rfl rfl (hf.g rfl)) hf rfl rfl ?_
                intro a hf
                refine Gg.sv (Gg.wN rfl) (Gg.y_load1 Tryd.isAgg3 rfl (hf.g rfl) (Gg.blk_cell (hm.e 0 rfl) (j := 1) rfl)) hf rfl rfl ?_
                intro a hf
                obtain ⟨x1821_, hx1822_, h⟩ := Cin.bind_s h
                have hc1823_ := Gg.glob_at (hm.d 2 rfl) hx1822_
                refine Gg.sv (Gg.wN rfl) (Gg.y_idxG Tryd.underlying43 Tryd.sizeOf42 rfl (Gg.eg _ _) (hf.g rfl) rfl hx1822_) hf rfl rfl ?_
                intro a hf
                refine Gg.sv (Gg.wN rfl) (Gg.y_load1 Tryd.isAgg42 rfl (hf.g rfl) (hc1823_)) hf rfl rfl ?_
                intro a hf
                refine wpList_nil ?_
                refine hK20 _ _ ?_
                obtain ⟨j1857_, hj1857_, h⟩ := Cin.join_s h
                refine Gg.c_blockJ (fun a w => ∃ (A1853_ : Option Addr) (c1854_ : Nat) (l1855_ : List UInt8) (xs1856_ : List Value), Gg.Fr 76 [(4, .slice A1853_ l1855_.length c1854_), (7, .slice A1_ l_.length c2_), (8, .int .i64 (l_.length : Int)), (9, .int .i64 n1529_)] a ∧ Gg.St W [] X w [Gg.Ent.blk g1807_ 40 [.int .i64 x1802_.At, .int .i64 x1802_.Op, .int .i64 x1802_.A, .int .i64 x1802_.B], Gg.Ent.row 5 1 (.slice A1853_ l1855_.length c1854_) l1855_ xs1856_] [Gg.Dt.rows Gg.tyByte xs1856_ l1855_, Gg.Dt.glob 0 [.int .i64 0, .int .i64 1, .int .i64 0, .int .i64 3, .int .i64 3, .int .i64 0, .int .i64 0, .int .i64 0, .int .i64 0, .int .i64 0, .int .i64 0, .int .i64 0, .int .i64 0, .int .i64 2, .int .i64 2, .int .i64 2, .int .i64 2, .int .i64 2, .int .i64 3, .int .i64 4, .int .i64 4, .int .i64 0, .int .i64 3, .int .i64 0, .int .i64 0, .int .i64 0, .int .i64 4, .int .i64 0, .int .i64 0, .int .i64 3, .int .i64 3, .int .i64 0, .int .i64 0, .int .i64 0, .int .i64 4, .int .i64 0, .int .i64 0], Gg.Dt.of (Gg.tySlice Cin.ty_Ins) [.slice A1_ l_.length c2_] l_] ∧ j1857_ l1855_ = some r) (fun K hK21 => ?_) ?_
                · clear hj1857_
                  obtain ⟨j1864_, hj1864_, h⟩ := Cin.join_s h
                  refine Gg.c_meet (fun a w => ∃ (A1859_ : Option Addr) (c1860_ : Nat) (l1861_ : List UInt8) (xs1862_ : List Value) (b1863_ : Bool), Gg.Fr 76 [(4, .slice A1859_ l1861_.length c1860_), (6, .pointer (some ⟨g1807_, 0, none⟩)), (7, .slice A1_ l_.length c2_), (8, .int .i64 (l_.length : Int)), (9, .int .i64 n1529_), (37, .int .i64 x1821_), (38, .bool b1863_)] a ∧ Gg.St W [] X w [Gg.Ent.blk g1807_ 40 [.int .i64 x1802_.At, .int .i64 x1802_.Op, .int .i64 x1802_.A, .int .i64 x1802_.B], Gg.Ent.row 5 1 (.slice A1859_ l1861_.length c1860_) l1861_ xs1862_] [Gg.Dt.rows Gg.tyByte xs1862_ l1861_, Gg.Dt.glob 0 [.int .i64 0, .int .i64 1, .int .i64 0, .int .i64 3, .int .i64 3, .int .i64 0, .int .i64 0, .int .i64 0, .int .i64 0, .int .i64 0, .int .i64 0, .int .i64 0, .int .i64 0, .int .i64 2, .int .i64 2, .int .i64 2, .int .i64 2, .int .i64 2, .int .i64 3, .int .i64 4, .int .i64 4, .int .i64 0, .int .i64 3, .int .i64 0, .int .i64 0, .int .i64 0, .int .i64 4, .int .i64 0, .int .i64 0, .int .i64 3, .int .i64 3, .int .i64 0, .int .i64 0, .int .i64 0, .int .i64 4, .int .i64 0, .int .i64 0], Gg.Dt.of (Gg.tySlice Cin.ty_Ins) [.slice A1_ l_.length c2_] l_] ∧ j1864_ l1861_ b1863_ = some r) (fun K hK22 => ?_) ?_
                  · clear hj1864_
                    refine wp_seq_k ?_
                    intro K hK23
                    refine Gg.c_region ?_
                    refine Gg.sv (Gg.wN rfl) (Gg.y_eqI Tryd.underlying42 rfl (hf.g rfl) (Gg.ec _ _)) hf rfl rfl ?_
                    intro a hf
                    refine Gg.sv (Gg.wN rfl) (Gg.y_assign rfl (hf.g rfl)) hf rfl rfl ?_
                    intro a hf
                    refine wpList_nil ?_
                    refine hK23 _ _ ?_
                    refine Gg.c_cond (hf.g rfl) (fun hb1865_ => ?_) (fun hb1865_ => ?_)
                    · have h := Cin.cond_t hb1865_ h
                      refine wp_skip ?_
                      exact hK22 _ _ ⟨A1818_, c1819_, l1816_, xs1820_, decide (x1821_ = 1), hf.sub ⟨rfl, rfl, rfl, rfl, rfl, rfl, rfl, trivial⟩, (hm).pick ⟨⟨0, rfl⟩, ⟨2, rfl⟩, ⟨3, rfl⟩, trivial⟩, h⟩
                    · have h := Cin.cond_f hb1865_ h
                      refine Gg.c_region ?_
                      refine Gg.sv (Gg.wN rfl) (Gg.y_eqI Tryd.underlying42 rfl (hf.g rfl) (Gg.ec _ _)) hf rfl rfl ?_
                      intro a hf
                      refine Gg.sv (Gg.wN rfl) (Gg.y_assign rfl (hf.g rfl)) hf rfl rfl ?_
                      intro a hf
                      refine wpList_nil ?_
                      exact hK22 _ _ ⟨A1818_, c1819_, l1816_, xs1820_, decide (x1821_ = 2), hf.sub ⟨rfl, rfl, rfl, rfl, rfl, rfl, rfl, trivial⟩, (hm).pick ⟨⟨0, rfl⟩, ⟨2, rfl⟩, ⟨3, rfl⟩, trivial⟩, h⟩
                  · rintro a w ⟨A1859_, c1860_, l1861_, xs1862_, b1863_, hf, hm, h⟩
                    subst hj1864_
                    try dsimp only at h
                    refine Gg.c_cond (hf.g rfl) (fun hb1866_ => ?_) (fun hb1866_ => ?_)
                    · have h := Cin.cond_t hb1866_ h
                      refine Gg.c_region ?_
                      refine Gg.sv (Gg.wN rfl) (Gg.y_move rfl (hf.g rfl)) hf rfl rfl ?_
                      intro a hf
                      refine Gg.sv (Gg.wN rfl) (Gg.y_fld Tryd.underlying40 rfl Tryd.sizeOf3 rfl rfl (hf.g rfl)) hf rfl rfl ?_
                      intro a hf
                      refine Gg.sv (Gg.wN rfl) (Gg.y_load1 Tryd.isAgg3 rfl (hf.g rfl) (Gg.blk_cell (hm.e 0 rfl) (j := 2) rfl)) hf rfl rfl ?_
                      intro a hf
                      refine Gg.sv (Gg.wN rfl) (Gg.y_shr64 (n := 8) rfl rfl (hf.g rfl) (Gg.ec _ _)) hf rfl rfl ?_
                      intro a hf
                      refine Gg.sv (Gg.wN rfl) (Gg.y_cU8 Tryd.underlying3 Tryd.underlying5 rfl (hf.g rfl)) hf rfl rfl ?_
                      intro a hf
                      refine Gg.sv (Gg.wN rfl) (Gg.y_fld Tryd.underlying40 rfl Tryd.sizeOf3 rfl rfl (hf.g rfl)) hf rfl rfl ?_
                      intro a hf
                      refine Gg.sv (Gg.wN rfl) (Gg.y_load1 Tryd.isAgg3 rfl (hf.g rfl) (Gg.blk_cell (hm.e 0 rfl) (j := 2) rfl)) hf rfl rfl ?_
                      intro a hf
                      refine Gg.sv (Gg.wN rfl) (Gg.y_cU8 Tryd.underlying3 Tryd.underlying5 rfl (hf.g rfl)) hf rfl rfl ?_
                      intro a hf
                      refine Gg.snewS (cs := [.int .u8 ((Cin.b8 (Cin.shrI x1802_.A 8)).toNat : Int), .int .u8 ((Cin.b8 x1802_.A).toNat : Int)]) (Gg.wN rfl) (Gg.y_buildSlice (vs := [(0, .int .u8 ((Cin.b8 (Cin.shrI x1802_.A 8)).toNat : Int)), (1, .int .u8 ((Cin.b8 x1802_.A).toNat : Int))]) Tryd.underlying49 Tryd.sizeOf5 Tryd.zeroValue5 rfl rfl rfl ⟨⟨(hf.g rfl), rfl⟩, ⟨(hf.g rfl), rfl⟩, trivial⟩ (by kernel_rfl)) hf hm rfl rfl ?_
                      intro a g1867_ w hf hm
                      obtain ⟨l1868_, hl1869_, h⟩ := Cin.bind_s h
                      refine Gg.sapp (ml := [Cin.b8 (Cin.shrI x1802_.A 8), Cin.b8 x1802_.A]) 2 0 hm rfl rfl Tryd.underlying49 info5 rfl rfl hl1869_ rfl rfl rfl rfl (Gg.wN rfl) rfl (hf.g rfl) (hf.g rfl) hf rfl rfl ?_
                      intro a A1870_ c1871_ w hf hm
                      have hm := hm.more (y := Gg.Dt.rows Gg.tyByte (xs1862_ ++ [.int .u8 ((Cin.b8 (Cin.shrI x1802_.A 8)).toNat : Int), .int .u8 ((Cin.b8 x1802_.A).toNat : Int)]) l1868_) (Gg.rdAll_to (Cin.app_some hl1869_).2 (Gg.rdAll_snocs (hm.d 0 rfl) ⟨_, _, rfl, rfl, ⟨_, _, rfl, rfl, rfl⟩⟩))
                      obtain ⟨xs1872_, hxs⟩ : ∃ z, z = xs1862_ ++ [.int .u8 ((Cin.b8 (Cin.shrI x1802_.A 8)).toNat : Int), .int .u8 ((Cin.b8 x1802_.A).toNat : Int)] := ⟨_, rfl⟩
                      rw [← hxs] at hm
                      clear hxs
                      simp only [List.set] at hm
                      have hm := hm.eraseE 0
                      simp only [List.eraseIdx] at hm
                      refine Gg.sv (Gg.wN rfl) (Gg.y_assign rfl (hf.g rfl)) hf rfl rfl ?_
                      intro a hf
                      refine wpList_nil ?_
                      have hf := hf.sub (l' := [(4, .slice A1870_ l1868_.length c1871_), (7, .slice A1_ l_.length c2_), (8, .int .i64 (l_.length : Int)), (9, .int .i64 n1529_)]) ⟨rfl, rfl, rfl, rfl, trivial⟩
                      exact hK21 _ _ ⟨A1870_, c1871_, l1868_, xs1872_, hf.sub ⟨rfl, rfl, rfl, rfl, trivial⟩, (hm).pick ⟨⟨0, rfl⟩, ⟨2, rfl⟩, ⟨3, rfl⟩, trivial⟩, h⟩
                    · have h := Cin.cond_f hb1866_ h
                      refine wp_seq_k ?_
                      intro K hK24
                      refine Gg.c_region ?_
                      refine Gg.sv (Gg.wN rfl) (Gg.y_eqI Tryd.underlying42 rfl (hf.g rfl) (Gg.ec _ _)) hf rfl rfl ?_
                      intro a hf
                      refine Gg.sv (Gg.wN rfl) (Gg.y_assign rfl (hf.g rfl)) hf rfl rfl ?_
                      intro a hf
                      refine wpList_nil ?_
                      refine hK24 _ _ ?_
                      refine Gg.c_cond (hf.g rfl) (fun hb1873_ => ?_) (fun hb1873_ => ?_)
                      · have h := Cin.cond_t hb1873_ h
                        refine Gg.c_region ?_
                        refine Gg.sv (Gg.wN rfl) (Gg.y_move rfl (hf.g rfl)) hf rfl rfl ?_
                        intro a hf
                        refine Gg.sv (Gg.wN rfl) (Gg.y_fld Tryd.underlying40 rfl Tryd.sizeOf3 rfl rfl (hf.g rfl)) hf rfl rfl ?_
                        intro a hf
                        refine Gg.sv (Gg.wN rfl) (Gg.y_load1 Tryd.isAgg3 rfl (hf.g rfl) (Gg.blk_cell (hm.e 0 rfl) (j := 2) rfl)) hf rfl rfl ?_
                        intro a hf
                        refine Gg.sv (Gg.wN rfl) (Gg.y_cU8 Tryd.underlying3 Tryd.underlying5 rfl (hf.g rfl)) hf rfl rfl ?_
                        intro a hf
                        refine Gg.snewS (cs := [.int .u8 ((Cin.b8 x1802_.A).toNat : Int)]) (Gg.wN rfl) (Gg.y_buildSlice (vs := [(0, .int .u8 ((Cin.b8 x1802_.A).toNat : Int))]) Tryd.underlying49 Tryd.sizeOf5 Tryd.zeroValue5 rfl rfl rfl ⟨⟨(hf.g rfl), rfl⟩, trivial⟩ (by kernel_rfl)) hf hm rfl rfl ?_
                        intro a g1874_ w hf hm
                        obtain ⟨l1875_, hl1876_, h⟩ := Cin.bind_s h
                        refine Gg.sapp (ml := [Cin.b8 x1802_.A]) 2 0 hm rfl rfl Tryd.underlying49 info5 rfl rfl hl1876_ rfl rfl rfl rfl (Gg.wN rfl) rfl (hf.g rfl) (hf.g rfl) hf rfl rfl ?_
                        intro a A1877_ c1878_ w hf hm
                        have hm := hm.more (y := Gg.Dt.rows Gg.tyByte (xs1862_ ++ [.int .u8 ((Cin.b8 x1802_.A).toNat : Int)]) l1875_) (Gg.rdAll_to (Cin.app_some hl1876_).2 (Gg.rdAll_snocs (hm.d 0 rfl) ⟨_, _, rfl, rfl, rfl⟩))
                        obtain ⟨xs1879_, hxs⟩ : ∃ z, z = xs1862_ ++ [.int .u8 ((Cin.b8 x1802_.A).toNat : Int)] := ⟨_, rfl⟩
                        rw [← hxs] at hm
                        clear hxs
                        simp only [List.set] at hm
                        have hm := hm.eraseE 0
                        simp only [List.eraseIdx] at hm
                        refine Gg.sv (Gg.wN rfl) (Gg.y_assign rfl (hf.g rfl)) hf rfl rfl ?_
                        intro a hf
                        refine wpList_nil ?_
                        have hf := hf.sub (l' := [(4, .slice A1877_ l1875_.length c1878_), (7, .slice A1_ l_.length c2_), (8, .int .i64 (l_.length : Int)), (9, .int .i64 n1529_)]) ⟨rfl, rfl, rfl, rfl, trivial⟩
                        exact hK21 _ _ ⟨A1877_, c1878_, l1875_, xs1879_, hf.sub ⟨rfl, rfl, rfl, rfl, trivial⟩, (hm).pick ⟨⟨0, rfl⟩, ⟨2, rfl⟩, ⟨3, rfl⟩, trivial⟩, h⟩
                      · have h := Cin.cond_f hb1873_ h
                        refine wp_seq_k ?_
                        intro K hK25
                        refine Gg.c_region ?_
                        refine Gg.sv (Gg.wN rfl) (Gg.y_eqI Tryd.underlying42 rfl (hf.g rfl) (Gg.ec _ _)) hf rfl rfl ?_
                        intro a hf
                        refine Gg.sv (Gg.wN rfl) (Gg.y_assign rfl (hf.g rfl)) hf rfl rfl ?_
                        intro a hf
                        refine wpList_nil ?_
                        refine hK25 _ _ ?_
                        refine Gg.c_cond (hf.g rfl) (fun hb1880_ => ?_) (fun hb1880_ => ?_)
                        · have h := Cin.cond_t hb1880_ h
                          refine Gg.c_region ?_
                          refine Gg.sv (Gg.wN rfl) (Gg.y_move rfl (hf.g rfl)) hf rfl rfl ?_
                          intro a hf
                          refine Gg.sv (Gg.wN rfl) (Gg.y_fld Tryd.underlying40 rfl Tryd.sizeOf3 rfl rfl (hf.g rfl)) hf rfl rfl ?_
                          intro a hf
                          refine Gg.sv (Gg.wN rfl) (Gg.y_load1 Tryd.isAgg3 rfl (hf.g rfl) (Gg.blk_cell (hm.e 0 rfl) (j := 2) rfl)) hf rfl rfl ?_
                          intro a hf
                          refine Gg.sv (Gg.wN rfl) (Gg.y_cU8 Tryd.underlying3 Tryd.underlying5 rfl (hf.g rfl)) hf rfl rfl ?_
                          intro a hf
                          refine Gg.sv (Gg.wN rfl) (Gg.y_fld Tryd.underlying40 rfl Tryd.sizeOf3 rfl rfl (hf.g rfl)) hf rfl rfl ?_
                          intro a hf
                          refine Gg.sv (Gg.wN rfl) (Gg.y_load1 Tryd.isAgg3 rfl (hf.g rfl) (Gg.blk_cell (hm.e 0 rfl) (j := 3) rfl)) hf rfl rfl ?_
                          intro a hf
                          refine Gg.sv (Gg.wN rfl) (Gg.y_cU8 Tryd.underlying3 Tryd.underlying5 rfl (hf.g rfl)) hf rfl rfl ?_
                          intro a hf
                          refine Gg.snewS (cs := [.int .u8 ((Cin.b8 x1802_.A).toNat : Int), .int .u8 ((Cin.b8 x1802_.B).toNat : Int)]) (Gg.wN rfl) (Gg.y_buildSlice (vs := [(0, .int .u8 ((Cin.b8 x1802_.A).toNat : Int)), (1, .int .u8 ((Cin.b8 x1802_.B).toNat : Int))]) Tryd.underlying49 Tryd.sizeOf5 Tryd.zeroValue5 rfl rfl rfl ⟨⟨(hf.g rfl), rfl⟩, ⟨(hf.g rfl), rfl⟩, trivial⟩ (by kernel_rfl)) hf hm rfl rfl ?_
                          intro a g1881_ w hf hm
                          obtain ⟨l1882_, hl1883_, h⟩ := Cin.bind_s h
                          refine Gg.sapp (ml := [Cin.b8 x1802_.A, Cin.b8 x1802_.B]) 2 0 hm rfl rfl Tryd.underlying49 info5 rfl rfl hl1883_ rfl rfl rfl rfl (Gg.wN rfl) rfl (hf.g rfl) (hf.g rfl) hf rfl rfl ?_
                          intro a A1884_ c1885_ w hf hm
                          have hm := hm.more (y := Gg.Dt.rows Gg.tyByte (xs1862_ ++ [.int .u8 ((Cin.b8 x1802_.A).toNat : Int), .int .u8 ((Cin.b8 x1802_.B).toNat : Int)]) l1882_) (Gg.rdAll_to (Cin.app_some hl1883_).2 (Gg.rdAll_snocs (hm.d 0 rfl) ⟨_, _, rfl, rfl, ⟨_, _, rfl, rfl, rfl⟩⟩))
                          obtain ⟨xs1886_, hxs⟩ : ∃ z, z = xs1862_ ++ [.int .u8 ((Cin.b8 x1802_.A).toNat : Int), .int .u8 ((Cin.b8 x1802_.B).toNat : Int)] := ⟨_, rfl⟩
                          rw [← hxs] at hm
                          clear hxs
                          simp only [List.set] at hm
                          have hm := hm.eraseE 0
                          simp only [List.eraseIdx] at hm
                          refine Gg.sv (Gg.wN rfl) (Gg.y_assign rfl (hf.g rfl)) hf rfl rfl ?_
                          intro a hf
                          refine wpList_nil ?_
                          have hf := hf.sub (l' := [(4, .slice A1884_ l1882_.length c1885_), (7, .slice A1_ l_.length c2_), (8, .int .i64 (l_.length : Int)), (9, .int .i64 n1529_)]) ⟨rfl, rfl, rfl, rfl, trivial⟩
                          exact hK21 _ _ ⟨A1884_, c1885_, l1882_, xs1886_, hf.sub ⟨rfl, rfl, rfl, rfl, trivial⟩, (hm).pick ⟨⟨0, rfl⟩, ⟨2, rfl⟩, ⟨3, rfl⟩, trivial⟩, h⟩
                        · have h := Cin.cond_f hb1880_ h
                          refine wp_skip ?_
                          exact hK21 _ _ ⟨A1859_, c1860_, l1861_, xs1862_, hf.sub ⟨rfl, rfl, rfl, rfl, trivial⟩, (hm).pick ⟨⟨0, rfl⟩, ⟨1, rfl⟩, ⟨2, rfl⟩, trivial⟩, h⟩
                · rintro a w ⟨A1853_, c1854_, l1855_, xs1856_, hf, hm, h⟩
                  subst hj1857_
                  try dsimp only at h
                  exact hK10 _ _ ⟨A1853_, c1854_, l1855_, xs1856_, hf.sub ⟨rfl, rfl, rfl, rfl, trivial⟩, (hm.dropN 1).pick ⟨⟨0, rfl⟩, ⟨1, rfl⟩, ⟨2, rfl⟩, trivial⟩, h⟩
        · rintro a w ⟨A1797_, c1798_, l1799_, xs1800_, hf, hm, h⟩
          subst hj1801_
          try dsimp only at h
          refine hK9 _ _ ?_
          refine Gg.c_region ?_
          refine Gg.sv (Gg.wN rfl) (Gg.y_add64 rfl (hf.g rfl) (Gg.ec _ _)) hf rfl rfl ?_
          intro a hf
          refine Gg.sv (Gg.wN rfl) (Gg.y_move rfl (hf.g rfl)) hf rfl rfl ?_
          intro a hf
          refine wpList_nil ?_
          exact hK6 _ _ ⟨A1797_, c1798_, l1799_, xs1800_, Cin.w64 (n1529_ + 1), hf.sub ⟨rfl, rfl, rfl, rfl, trivial⟩, (hm).pick ⟨⟨0, rfl⟩, ⟨1, rfl⟩, ⟨2, rfl⟩, trivial⟩, h⟩
      · have h := Cin.cond_f hb1711_ h
        refine wp_exit ?_
        refine Gg.x_then ?_
        refine Gg.x_then ?_
        refine Gg.x_hit ?_
        exact hK5 _ _ ⟨A1525_, c1526_, l1527_, xs1528_, hf.sub ⟨rfl, trivial⟩, (hm).pick ⟨⟨0, rfl⟩, ⟨1, rfl⟩, ⟨2, rfl⟩, trivial⟩, h⟩
  · rintro a w ⟨A1344_, c1345_, l1346_, xs1347_, hf, hm, h⟩
    subst hj1348_
    try dsimp only at h
    refine hK3 _ _ ?_
    refine wp_seq_k ?_
    intro K hK26
    refine wp_seq_k ?_
    intro K hK27
    refine Gg.c_region ?_
    refine Gg.sv (Gg.wN rfl) (Gg.y_move rfl (hf.g rfl)) hf rfl rfl ?_
    intro a hf
    refine Gg.sv (Gg.wN rfl) (Gg.y_len Tryd.underlying49 rfl (hf.g rfl)) hf rfl rfl ?_
    intro a hf
    refine Gg.sv (Gg.wN rfl) (Gg.y_gtr rfl (hf.g rfl) (Gg.ec _ _)) hf rfl rfl ?_
    intro a hf
    refine wpList_nil ?_
    refine hK27 _ _ ?_
    refine Gg.c_cond (hf.g rfl) (fun hb1887_ => ?_) (fun hb1887_ => ?_)
    · have h := Cin.cond_t hb1887_ h
      refine wp_seq_k ?_
      intro K hK28
      refine Gg.c_region ?_
      refine Gg.sv (Gg.wN rfl) (Gg.y_assign rfl (Gg.ec _ _)) hf rfl rfl ?_
      intro a hf
      refine Gg.sv (Gg.wN rfl) (Gg.y_assign rfl (Gg.ec _ _)) hf rfl rfl ?_
      intro a hf
      refine wpList_nil ?_
      refine hK28 _ _ ?_
      refine wp_ret ?_
      cases h
      refine Gg.x_retT ?_
      refine Gg.r_two Tryd.results13 hf rfl rfl ?_
      exact ⟨rfl, hm.ev⟩
    · have h := Cin.cond_f hb1887_ h
      refine wp_skip ?_
      refine hK26 _ _ ?_
      refine wp_seq_k ?_
      intro K hK29
      refine Gg.c_region ?_
      refine Gg.sv (Gg.wN rfl) (Gg.y_move rfl (hf.g rfl)) hf rfl rfl ?_
      intro a hf
      refine Gg.sv (Gg.wN rfl) (Gg.y_bytesRow Tryd.underlying49 Tryd.underlying5 Tryd.underlying9 rfl (hf.g rfl) (hm.e 0 rfl) (hm.d 0 rfl)) hf rfl rfl ?_
      intro a hf
      refine Gg.sv (Gg.wN rfl) (Gg.y_assign rfl (hf.g rfl)) hf rfl rfl ?_
      intro a hf
      refine Gg.sv (Gg.wN rfl) (Gg.y_assign rfl (Gg.ec _ _)) hf rfl rfl ?_
      intro a hf
      refine wpList_nil ?_
      refine hK29 _ _ ?_
      refine wp_ret ?_
      cases h
      refine Gg.r_two Tryd.results13 hf rfl rfl ?_
      exact ⟨rfl, hm.ev⟩

end Go.Proofs.YtcioldnpdkfeoaaDoor
