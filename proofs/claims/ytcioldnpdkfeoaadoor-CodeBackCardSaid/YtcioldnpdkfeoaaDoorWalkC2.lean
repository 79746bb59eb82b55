/- The walks of this group, made by program. -/
import Derived.Test.YtcioldnpdkfeoaaDoorWalkC1
import Derived.Test.YtcioldnpdkfeoaaDoorPureC2
import Derived.Test.YtcioldnpdkfeoaaDoorChecked
namespace Cin
open Go
def ty_Fault : Gg.Ty Fault where
  size := 2
  rd _ _ cs d := cs = [.int .i64 d.Err, .int .i64 d.At]
  len h := by subst h; rfl
  one h v hv := by subst h; simp only [List.mem_cons, List.not_mem_nil, or_false] at hv; rcases hv with rfl | rfl <;> rfl
  law _ h := h

end Cin
namespace Go.Proofs.YtcioldnpdkfeoaaDoor
open Go Go.RowKit
theorem info40 : (Tryd.prog.info? 40).map (fun i => (i.zero, i.size, i.bytes)) = some (some (.agg #[.int .i64 0, .int .i64 0, .int .i64 0, .int .i64 0]), 4, 32) := by kernel_rfl
theorem places25 : ∀ w, (Gg.placesOf Tryd.prog 25).run Tryd.prog w = .ok #[(0, 1), (1, 1)] w := fun w => by kernel_rfl
theorem places40 : ∀ w, (Gg.placesOf Tryd.prog 40).run Tryd.prog w = .ok #[(0, 1), (1, 1), (2, 1), (3, 1)] w := fun w => by kernel_rfl
set_option maxHeartbeats 4000000 in
set_option maxRecDepth 20000 in
theorem c_R_Count {X : List Nat} {W : World} {n_ : Int} {r : (List UInt8)} (hX : ∀ k ∈ X, k < W.heap.size) (h : Cin.R_Count n_ = some r) :
    Calls Tryd.prog 26 [.int .i64 n_].toArray W (fun e w' => e = .returned (Gg.Str r) ∧ Gg.Ev [] W w') := by
  refine Gg.enter Tryd.func26 rfl Tryd.ntmps26 rfl ?_
  intro a hf
  have hm := Gg.St.start0 X W [] hX trivial
  rw [Cin.R_Count] at h
  refine wp_seq_k ?_
  intro K hK1
  refine Gg.c_region ?_
  refine Gg.sv (Gg.wN rfl) (Gg.y_assign rfl (Gg.ec _ _)) hf rfl rfl ?_
  intro a hf
  refine wpList_nil ?_
  refine hK1 _ _ ?_
  refine wp_seq_k ?_
  intro K hK2
  refine Gg.c_region ?_
  refine Gg.sv (Gg.wN rfl) (Gg.y_move rfl (hf.g rfl)) hf rfl rfl ?_
  intro a hf
  refine Gg.sv (Gg.wN rfl) (Gg.y_cU8 Tryd.underlying3 Tryd.underlying5 rfl (hf.g rfl)) hf rfl rfl ?_
  intro a hf
  refine Gg.snewS (cs := [.int .u8 ((Cin.b8 n_).toNat : Int)]) (Gg.wN rfl) (Gg.y_buildSlice (vs := [(0, .int .u8 ((Cin.b8 n_).toNat : Int))]) Tryd.underlying49 Tryd.sizeOf5 Tryd.zeroValue5 rfl rfl rfl ⟨⟨(hf.g rfl), rfl⟩, trivial⟩ (by kernel_rfl)) hf hm rfl rfl ?_
  intro a g1_ w hf hm
  refine Gg.sv (Gg.wN rfl) (Gg.y_bytesLit (bs := [Cin.b8 n_]) Tryd.underlying49 Tryd.underlying5 Tryd.underlying9 rfl (hf.g rfl) (hm.e 0 rfl) rfl) hf rfl rfl ?_
  intro a hf
  refine Gg.sv (Gg.wN rfl) (Gg.y_assign rfl (hf.g rfl)) hf rfl rfl ?_
  intro a hf
  refine wpList_nil ?_
  refine hK2 _ _ ?_
  refine wp_ret ?_
  cases h
  refine Gg.r_one Tryd.results26 hf rfl ?_
  exact ⟨rfl, hm.ev⟩

set_option maxHeartbeats 4000000 in
set_option maxRecDepth 20000 in
theorem c_R_Two {X : List Nat} {W : World} {n_ : Int} {r : (List UInt8)} (hX : ∀ k ∈ X, k < W.heap.size) (h : Cin.R_Two n_ = some r) :
    Calls Tryd.prog 27 [.int .i64 n_].toArray W (fun e w' => e = .returned (Gg.Str r) ∧ Gg.Ev [] W w') := by
  refine Gg.enter Tryd.func27 rfl Tryd.ntmps27 rfl ?_
  intro a hf
  have hm := Gg.St.start0 X W [] hX trivial
  rw [Cin.R_Two] at h
  refine wp_seq_k ?_
  intro K hK1
  refine Gg.c_region ?_
  refine Gg.sv (Gg.wN rfl) (Gg.y_assign rfl (Gg.ec _ _)) hf rfl rfl ?_
  intro a hf
  refine wpList_nil ?_
  refine hK1 _ _ ?_
  refine wp_seq_k ?_
  intro K hK2
  refine Gg.c_region ?_
  refine Gg.sv (Gg.wN rfl) (Gg.y_move rfl (hf.g rfl)) hf rfl rfl ?_
  intro a hf
  refine Gg.sv (Gg.wN rfl) (Gg.y_quo64 rfl (hf.g rfl) (Gg.ec _ _) (by decide)) hf rfl rfl ?_
  intro a hf
  refine Gg.sv (Gg.wN rfl) (Gg.y_cU8 Tryd.underlying3 Tryd.underlying5 rfl (hf.g rfl)) hf rfl rfl ?_
  intro a hf
  refine Gg.sv (Gg.wN rfl) (Gg.y_move rfl (hf.g rfl)) hf rfl rfl ?_
  intro a hf
  refine Gg.sv (Gg.wN rfl) (Gg.y_rem64 rfl (hf.g rfl) (Gg.ec _ _) (by decide)) hf rfl rfl ?_
  intro a hf
  refine Gg.sv (Gg.wN rfl) (Gg.y_cU8 Tryd.underlying3 Tryd.underlying5 rfl (hf.g rfl)) hf rfl rfl ?_
  intro a hf
  refine Gg.snewS (cs := [.int .u8 ((Cin.b8 (Cin.w64 (n_.tdiv 256))).toNat : Int), .int .u8 ((Cin.b8 (n_.tmod 256)).toNat : Int)]) (Gg.wN rfl) (Gg.y_buildSlice (vs := [(0, .int .u8 ((Cin.b8 (Cin.w64 (n_.tdiv 256))).toNat : Int)), (1, .int .u8 ((Cin.b8 (n_.tmod 256)).toNat : Int))]) Tryd.underlying49 Tryd.sizeOf5 Tryd.zeroValue5 rfl rfl rfl ⟨⟨(hf.g rfl), rfl⟩, ⟨(hf.g rfl), rfl⟩, trivial⟩ (by kernel_rfl)) hf hm rfl rfl ?_
  intro a g3_ w hf hm
  refine Gg.sv (Gg.wN rfl) (Gg.y_bytesLit (bs := [Cin.b8 (Cin.w64 (n_.tdiv 256)), Cin.b8 (n_.tmod 256)]) Tryd.underlying49 Tryd.underlying5 Tryd.underlying9 rfl (hf.g rfl) (hm.e 0 rfl) rfl) hf rfl rfl ?_
  intro a hf
  refine Gg.sv (Gg.wN rfl) (Gg.y_assign rfl (hf.g rfl)) hf rfl rfl ?_
  intro a hf
  refine wpList_nil ?_
  refine hK2 _ _ ?_
  refine wp_ret ?_
  cases h
  refine Gg.r_one Tryd.results27 hf rfl ?_
  exact ⟨rfl, hm.ev⟩

set_option maxHeartbeats 4000000 in
set_option maxRecDepth 20000 in
theorem c_R_InsOf {X : List Nat} {W : World} {F : Nat} {s_ : List UInt8} {r : (List Cin.Ins) × Cin.Fault} (hX : ∀ k ∈ X, k < W.heap.size) (h : Cin.R_InsOf F s_ = some r) :
    Calls Tryd.prog 8 [Gg.Str s_].toArray W (fun e w' => ∃ (A1934_ : Option Addr) (c1935_ : Nat), e = .returned (.tuple #[.slice A1934_ r.1.length c1935_, .agg #[.int .i64 r.2.Err, .int .i64 r.2.At]]) ∧ Gg.Ev [] W w' ∧ (Gg.Dt.of (Gg.tySlice Cin.ty_Ins) [.slice A1934_ r.1.length c1935_] r.1).ok X w') := by
  refine Gg.enter Tryd.func8 rfl Tryd.ntmps8 rfl ?_
  intro a hf
  have hm := Gg.St.start0 X W [] hX trivial
  rw [Cin.R_InsOf] at h
  refine wp_seq_k ?_
  intro K hK1
  refine Gg.c_region ?_
  refine Gg.sv (Gg.wN rfl) (Gg.y_assign rfl (Gg.ec _ _)) hf rfl rfl ?_
  intro a hf
  refine Gg.snew (cs := [.int .i64 0, .int .i64 0]) (Gg.wN rfl) (Gg.y_alloc Tryd.zeroValue25 rfl rfl) hf hm rfl rfl ?_
  intro a g1_ w hf hm
  refine wpList_nil ?_
  refine hK1 _ _ ?_
  refine wp_seq_k ?_
  intro K hK2
  refine wp_seq_k ?_
  intro K hK3
  refine Gg.c_region ?_
  refine Gg.sv (Gg.wN rfl) (Gg.y_move rfl (hf.g rfl)) hf rfl rfl ?_
  intro a hf
  refine Gg.sv (Gg.wN rfl) (Gg.y_lenS Tryd.underlying9 rfl (hf.g rfl)) hf rfl rfl ?_
  intro a hf
  refine Gg.sv (Gg.wN rfl) (Gg.y_gtr rfl (hf.g rfl) (Gg.ec _ _)) hf rfl rfl ?_
  intro a hf
  refine wpList_nil ?_
  refine hK3 _ _ ?_
  refine Gg.c_cond (hf.g rfl) (fun hb2_ => ?_) (fun hb2_ => ?_)
  · have h := Cin.cond_t hb2_ h
    refine wp_seq_k ?_
    intro K hK4
    refine Gg.c_region ?_
    refine Gg.sv (Gg.wN rfl) (Gg.y_build (vs := [(0, .int .i64 2)]) (cs := [.int .i64 2, .int .i64 0]) Tryd.zeroValue25 Tryd.underlying25 places25 rfl ⟨⟨(Gg.ec _ _), rfl⟩, trivial⟩ rfl) hf rfl rfl ?_
    intro a hf
    refine Gg.sv (Gg.wN rfl) (Gg.y_assign rfl (Gg.ec _ _)) hf rfl rfl ?_
    intro a hf
    refine Gg.sst (vs := [.int .i64 2, .int .i64 0]) 0 hm rfl (Gg.wN rfl) rfl Tryd.sizeOf25 rfl rfl rfl rfl (hf.g rfl) (hf.g rfl) rfl ?_
    intro w hm
    simp only [List.set, Gg.lay, List.drop, List.length, List.cons_append, List.nil_append] at hm
    refine wpList_nil ?_
    refine hK4 _ _ ?_
    refine wp_ret ?_
    cases h
    refine Gg.x_retT ?_
    refine Gg.r_any (vs := [.slice none 0 0, .agg #[.int .i64 2, .int .i64 0]]) Tryd.results8 hf ⟨hf.g rfl, ⟨_, _, hf.g rfl, .inl ⟨[.int .i64 2, .int .i64 0], Tryd.isAgg25, Tryd.sizeOf25, Gg.blk_cells (hm.e 0 rfl) 0 ⟨rfl, rfl, trivial⟩, rfl⟩⟩, trivial⟩ ?_
    exact ⟨none, 0, rfl, hm.ev, Gg.nil_ok _ _ _⟩
  · have h := Cin.cond_f hb2_ h
    refine wp_skip ?_
    refine hK2 _ _ ?_
    refine wp_seq_k ?_
    intro K hK5
    refine wp_seq_k ?_
    intro K hK6
    refine Gg.c_region ?_
    refine Gg.sv (Gg.wN rfl) (Gg.y_move rfl (hf.g rfl)) hf rfl rfl ?_
    intro a hf
    refine Gg.sv (Gg.wN rfl) (Gg.y_eqS Tryd.underlying9 rfl (hf.g rfl) (Gg.ec _ _)) hf rfl rfl ?_
    intro a hf
    refine wpList_nil ?_
    refine hK6 _ _ ?_
    refine Gg.c_cond (hf.g rfl) (fun hb3_ => ?_) (fun hb3_ => ?_)
    · have h := Cin.cond_t hb3_ h
      refine wp_seq_k ?_
      intro K hK7
      refine Gg.c_region ?_
      refine Gg.sv (Gg.wN rfl) (Gg.y_build (vs := [(0, .int .i64 1)]) (cs := [.int .i64 1, .int .i64 0]) Tryd.zeroValue25 Tryd.underlying25 places25 rfl ⟨⟨(Gg.ec _ _), rfl⟩, trivial⟩ rfl) hf rfl rfl ?_
      intro a hf
      refine Gg.sv (Gg.wN rfl) (Gg.y_assign rfl (Gg.ec _ _)) hf rfl rfl ?_
      intro a hf
      refine Gg.sst (vs := [.int .i64 1, .int .i64 0]) 0 hm rfl (Gg.wN rfl) rfl Tryd.sizeOf25 rfl rfl rfl rfl (hf.g rfl) (hf.g rfl) rfl ?_
      intro w hm
      simp only [List.set, Gg.lay, List.drop, List.length, List.cons_append, List.nil_append] at hm
      refine wpList_nil ?_
      refine hK7 _ _ ?_
      refine wp_ret ?_
      cases h
      refine Gg.x_retT ?_
      refine Gg.r_any (vs := [.slice none 0 0, .agg #[.int .i64 1, .int .i64 0]]) Tryd.results8 hf ⟨hf.g rfl, ⟨_, _, hf.g rfl, .inl ⟨[.int .i64 1, .int .i64 0], Tryd.isAgg25, Tryd.sizeOf25, Gg.blk_cells (hm.e 0 rfl) 0 ⟨rfl, rfl, trivial⟩, rfl⟩⟩, trivial⟩ ?_
      exact ⟨none, 0, rfl, hm.ev, Gg.nil_ok _ _ _⟩
    · have h := Cin.cond_f hb3_ h
      refine wp_skip ?_
      refine hK5 _ _ ?_
      refine wp_seq_k ?_
      intro K hK8
      refine Gg.c_region ?_
      refine Gg.sv (Gg.wN rfl) (Gg.y_assign rfl (Gg.ec _ _)) hf rfl rfl ?_
      intro a hf
      refine wpList_nil ?_
      refine hK8 _ _ ?_
      refine wp_seq_k ?_
      intro K hK9
      refine Gg.c_region ?_
      refine Gg.sv (Gg.wN rfl) (Gg.y_assign rfl (Gg.ec _ _)) hf rfl rfl ?_
      intro a hf
      refine wpList_nil ?_
      refine hK9 _ _ ?_
      refine wp_seq_k ?_
      intro K hK10
      have hm := hm.nilRow (α := Cin.Ins) 40 4
      have hm := hm.more (y := Gg.Dt.rows Cin.ty_Ins [] []) rfl
      obtain ⟨j961_, hj961_, h⟩ := Cin.join_s h
      refine Gg.c_blockJ (fun a w => ∃ (A957_ : Option Addr) (c958_ : Nat) (l959_ : List Cin.Ins) (xs960_ : List Value), Gg.Fr 120 [(3, .pointer (some ⟨g1_, 0, none⟩)), (4, .slice A957_ l959_.length c958_)] a ∧ Gg.St W [] X w [Gg.Ent.row 40 4 (.slice A957_ l959_.length c958_) l959_ xs960_, Gg.Ent.blk g1_ 25 [.int .i64 0, .int .i64 0]] [Gg.Dt.rows Cin.ty_Ins xs960_ l959_] ∧ j961_ l959_ = some r) (fun K hK11 => ?_) ?_
      · clear hj961_
        refine Gg.c_loop (fun (k1_ : Nat) a w => ∃ (A1065_ : Option Addr) (c1066_ : Nat) (l1067_ : List Cin.Ins) (xs1068_ : List Value) (n1069_ : Int), Gg.Fr 120 [(0, Gg.Str s_), (3, .pointer (some ⟨g1_, 0, none⟩)), (4, .slice A1065_ l1067_.length c1066_), (5, .int .i64 n1069_)] a ∧ Gg.St W [] X w [Gg.Ent.row 40 4 (.slice A1065_ l1067_.length c1066_) l1067_ xs1068_, Gg.Ent.blk g1_ 25 [.int .i64 0, .int .i64 0]] [Gg.Dt.rows Cin.ty_Ins xs1068_ l1067_] ∧ Cin.R_InsOf_L1 s_ j961_ k1_ l1067_ n1069_ = some r) F ⟨none, 0, [], [], 0, hf.sub ⟨rfl, rfl, rfl, rfl, trivial⟩, (hm).pick ⟨⟨0, rfl⟩, trivial⟩, h⟩ ?_ ?_
        · rintro a w ⟨A1065_, c1066_, l1067_, xs1068_, n1069_, hf, hm, h⟩
          exact absurd h (by simp [Cin.R_InsOf_L1])
        · rintro k1_ a w ⟨A1065_, c1066_, l1067_, xs1068_, n1069_, hf, hm, h⟩ K hK12
          rw [Cin.R_InsOf_L1] at h
          refine wp_seq_k ?_
          intro K hK13
          refine wp_seq_k ?_
          intro K hK14
          refine Gg.c_region ?_
          refine Gg.sv (Gg.wN rfl) (Gg.y_move rfl (hf.g rfl)) hf rfl rfl ?_
          intro a hf
          refine Gg.sv (Gg.wN rfl) (Gg.y_move rfl (hf.g rfl)) hf rfl rfl ?_
          intro a hf
          refine Gg.sv (Gg.wN rfl) (Gg.y_lenS Tryd.underlying9 rfl (hf.g rfl)) hf rfl rfl ?_
          intro a hf
          refine Gg.sv (Gg.wN rfl) (Gg.y_lss rfl (hf.g rfl) (hf.g rfl)) hf rfl rfl ?_
          intro a hf
          refine wpList_nil ?_
          refine hK14 _ _ ?_
          refine Gg.c_cond (hf.g rfl) (fun hb1218_ => ?_) (fun hb1218_ => ?_)
          · have h := Cin.cond_t hb1218_ h
            refine wp_skip ?_
            refine hK13 _ _ ?_
            obtain ⟨j1292_, hj1292_, h⟩ := Cin.join_s h
            refine Gg.c_blockJ (fun a w => ∃ (A1287_ : Option Addr) (c1288_ : Nat) (l1289_ : List Cin.Ins) (xs1290_ : List Value) (n1291_ : Int), Gg.Fr 120 [(0, Gg.Str s_), (3, .pointer (some ⟨g1_, 0, none⟩)), (4, .slice A1287_ l1289_.length c1288_), (5, .int .i64 n1291_)] a ∧ Gg.St W [] X w [Gg.Ent.row 40 4 (.slice A1287_ l1289_.length c1288_) l1289_ xs1290_, Gg.Ent.blk g1_ 25 [.int .i64 0, .int .i64 0]] [Gg.Dt.rows Cin.ty_Ins xs1290_ l1289_] ∧ j1292_ l1289_ n1291_ = some r) (fun K hK15 => ?_) ?_
            · clear hj1292_
              refine wp_seq_k ?_
              intro K hK16
              refine Gg.c_region ?_
              refine Gg.sv (Gg.wN rfl) (Gg.y_move rfl (hf.g rfl)) hf rfl rfl ?_
              intro a hf
              refine Gg.sv (Gg.wN rfl) (Gg.y_move rfl (hf.g rfl)) hf rfl rfl ?_
              intro a hf
              refine Gg.sv (Gg.wN rfl) (Gg.y_move rfl (hf.g rfl)) hf rfl rfl ?_
              intro a hf
              obtain ⟨b1293_, hx1294_, h⟩ := Cin.bind_s h
              refine Gg.sv (Gg.wN rfl) (Gg.y_indexS' Tryd.underlying9 rfl (hf.g rfl) (hf.g rfl) hx1294_) hf rfl rfl ?_
              intro a hf
              refine Gg.sv (Gg.wN rfl) (Gg.y_cI64 Tryd.underlying5 Tryd.underlying3 rfl (hf.g rfl)) hf rfl rfl ?_
              intro a hf
              refine Gg.sv (Gg.wN rfl) (Gg.y_build (vs := [(0, .int .i64 n1069_), (1, .int .i64 (b1293_.toNat : Int))]) (cs := [.int .i64 n1069_, .int .i64 (b1293_.toNat : Int), .int .i64 0, .int .i64 0]) Tryd.zeroValue40 Tryd.underlying40 places40 rfl ⟨⟨(hf.g rfl), rfl⟩, ⟨(hf.g rfl), rfl⟩, trivial⟩ rfl) hf rfl rfl ?_
              intro a hf
              refine Gg.snew (cs := [.int .i64 0, .int .i64 0, .int .i64 0, .int .i64 0]) (Gg.wN rfl) (Gg.y_alloc Tryd.zeroValue40 rfl rfl) hf hm rfl rfl ?_
              intro a g1295_ w hf hm
              refine Gg.sst (vs := [.int .i64 n1069_, .int .i64 (b1293_.toNat : Int), .int .i64 0, .int .i64 0]) 0 hm rfl (Gg.wN rfl) rfl Tryd.sizeOf40 rfl rfl rfl rfl (hf.g rfl) (hf.g rfl) rfl ?_
              intro w hm
              simp only [List.set, Gg.lay, List.drop, List.length, List.cons_append, List.nil_append] at hm
              refine wpList_nil ?_
              have hf := hf.sub (l' := [(0, Gg.Str s_), (3, .pointer (some ⟨g1_, 0, none⟩)), (4, .slice A1065_ l1067_.length c1066_), (5, .int .i64 n1069_), (6, .pointer (some ⟨g1295_, 0, none⟩))]) ⟨rfl, rfl, rfl, rfl, rfl, trivial⟩
              refine hK16 _ _ ?_
              refine wp_seq_k ?_
              intro K hK17
              refine Gg.c_region ?_
              refine Gg.sv (Gg.wN rfl) (Gg.y_fld Tryd.underlying40 rfl Tryd.sizeOf3 rfl rfl (hf.g rfl)) hf rfl rfl ?_
              intro a hf
              refine Gg.sv (Gg.wN rfl) (Gg.y_load1 Tryd.isAgg3 rfl (hf.g rfl) (Gg.blk_cell (hm.e 0 rfl) (j := 1) rfl)) hf rfl rfl ?_
              intro a hf
              obtain ⟨r1296_, hr1297_, h⟩ := Cin.bind_s h
              refine Gg.sc (vs := [.int .i64 (b1293_.toNat : Int)]) (Gg.wN rfl) rfl Tryd.call19 ⟨(hf.g rfl), trivial⟩ (c_R_Behind hm.ltM hr1297_ ) hf rfl rfl ?_
              rintro _ w ⟨rfl, hv⟩
              refine ⟨_, rfl, ?_⟩
              intro a hf
              have hm := hm.keep hv
              clear hv
              refine Gg.sv (Gg.wN rfl) (Gg.y_assign rfl (hf.g rfl)) hf rfl rfl ?_
              intro a hf
              refine wpList_nil ?_
              refine hK17 _ _ ?_
              refine wp_seq_k ?_
              intro K hK18
              refine wp_seq_k ?_
              intro K hK19
              refine Gg.c_region ?_
              refine Gg.sv (Gg.wN rfl) (Gg.y_move rfl (hf.g rfl)) hf rfl rfl ?_
              intro a hf
              refine Gg.sv (Gg.wN rfl) (Gg.y_lss rfl (hf.g rfl) (Gg.ec _ _)) hf rfl rfl ?_
              intro a hf
              refine wpList_nil ?_
              refine hK19 _ _ ?_
              refine Gg.c_cond (hf.g rfl) (fun hb1298_ => ?_) (fun hb1298_ => ?_)
              · have h := Cin.cond_t hb1298_ h
                refine wp_seq_k ?_
                intro K hK20
                refine Gg.c_region ?_
                refine Gg.sv (Gg.wN rfl) (Gg.y_move rfl (hf.g rfl)) hf rfl rfl ?_
                intro a hf
                refine Gg.sv (Gg.wN rfl) (Gg.y_build (vs := [(0, .int .i64 7), (1, .int .i64 n1069_)]) (cs := [.int .i64 7, .int .i64 n1069_]) Tryd.zeroValue25 Tryd.underlying25 places25 rfl ⟨⟨(Gg.ec _ _), rfl⟩, ⟨(hf.g rfl), rfl⟩, trivial⟩ rfl) hf rfl rfl ?_
                intro a hf
                refine Gg.sv (Gg.wN rfl) (Gg.y_assign rfl (Gg.ec _ _)) hf rfl rfl ?_
                intro a hf
                refine Gg.sst (vs := [.int .i64 7, .int .i64 n1069_]) 2 hm rfl (Gg.wN rfl) rfl Tryd.sizeOf25 rfl rfl rfl rfl (hf.g rfl) (hf.g rfl) rfl ?_
                intro w hm
                simp only [List.set, Gg.lay, List.drop, List.length, List.cons_append, List.nil_append] at hm
                refine wpList_nil ?_
                refine hK20 _ _ ?_
                refine wp_ret ?_
                cases h
                refine Gg.x_retT ?_
                refine Gg.x_retB ?_
                refine Gg.x_retT ?_
                refine Gg.x_retT ?_
                refine Gg.x_retB ?_
                refine Gg.x_retT ?_
                refine Gg.x_retT ?_
                refine Gg.r_any (vs := [.slice none 0 0, .agg #[.int .i64 7, .int .i64 n1069_]]) Tryd.results8 hf ⟨hf.g rfl, ⟨_, _, hf.g rfl, .inl ⟨[.int .i64 7, .int .i64 n1069_], Tryd.isAgg25, Tryd.sizeOf25, Gg.blk_cells (hm.e 2 rfl) 0 ⟨rfl, rfl, trivial⟩, rfl⟩⟩, trivial⟩ ?_
                exact ⟨none, 0, rfl, hm.ev, Gg.nil_ok _ _ _⟩
              · have h := Cin.cond_f hb1298_ h
                refine wp_skip ?_
                refine hK18 _ _ ?_
                refine wp_seq_k ?_
                intro K hK21
                refine wp_seq_k ?_
                intro K hK22
                refine Gg.c_region ?_
                refine Gg.sv (Gg.wN rfl) (Gg.y_move rfl (hf.g rfl)) hf rfl rfl ?_
                intro a hf
                refine Gg.sv (Gg.wN rfl) (Gg.y_add64 rfl (hf.g rfl) (Gg.ec _ _)) hf rfl rfl ?_
                intro a hf
                refine Gg.sv (Gg.wN rfl) (Gg.y_move rfl (hf.g rfl)) hf rfl rfl ?_
                intro a hf
                refine Gg.sv (Gg.wN rfl) (Gg.y_add64 rfl (hf.g rfl) (hf.g rfl)) hf rfl rfl ?_
                intro a hf
                refine Gg.sv (Gg.wN rfl) (Gg.y_move rfl (hf.g rfl)) hf rfl rfl ?_
                intro a hf
                refine Gg.sv (Gg.wN rfl) (Gg.y_lenS Tryd.underlying9 rfl (hf.g rfl)) hf rfl rfl ?_
                intro a hf
                refine Gg.sv (Gg.wN rfl) (Gg.y_gtr rfl (hf.g rfl) (hf.g rfl)) hf rfl rfl ?_
                intro a hf
                refine wpList_nil ?_
                have hf := hf.sub (l' := [(0, Gg.Str s_), (3, .pointer (some ⟨g1_, 0, none⟩)), (4, .slice A1065_ l1067_.length c1066_), (5, .int .i64 n1069_), (6, .pointer (some ⟨g1295_, 0, none⟩)), (7, .int .i64 r1296_), (39, .bool (decide ((s_.length : Int) < (Cin.w64 ((Cin.w64 (n1069_ + 1)) + r1296_)))))]) ⟨rfl, rfl, rfl, rfl, rfl, rfl, rfl, trivial⟩
                refine hK22 _ _ ?_
                refine Gg.c_cond (hf.g rfl) (fun hb1299_ => ?_) (fun hb1299_ => ?_)
                · have h := Cin.cond_t hb1299_ h
                  refine wp_seq_k ?_
                  intro K hK23
                  refine Gg.c_region ?_
                  refine Gg.sv (Gg.wN rfl) (Gg.y_move rfl (hf.g rfl)) hf rfl rfl ?_
                  intro a hf
                  refine Gg.sv (Gg.wN rfl) (Gg.y_build (vs := [(0, .int .i64 1), (1, .int .i64 n1069_)]) (cs := [.int .i64 1, .int .i64 n1069_]) Tryd.zeroValue25 Tryd.underlying25 places25 rfl ⟨⟨(Gg.ec _ _), rfl⟩, ⟨(hf.g rfl), rfl⟩, trivial⟩ rfl) hf rfl rfl ?_
                  intro a hf
                  refine Gg.sv (Gg.wN rfl) (Gg.y_assign rfl (Gg.ec _ _)) hf rfl rfl ?_
                  intro a hf
                  refine Gg.sst (vs := [.int .i64 1, .int .i64 n1069_]) 2 hm rfl (Gg.wN rfl) rfl Tryd.sizeOf25 rfl rfl rfl rfl (hf.g rfl) (hf.g rfl) rfl ?_
                  intro w hm
                  simp only [List.set, Gg.lay, List.drop, List.length, List.cons_append, List.nil_append] at hm
                  refine wpList_nil ?_
                  refine hK23 _ _ ?_
                  refine wp_ret ?_
                  cases h
                  refine Gg.x_retT ?_
                  refine Gg.x_retB ?_
                  refine Gg.x_retT ?_
                  refine Gg.x_retT ?_
                  refine Gg.x_retB ?_
                  refine Gg.x_retT ?_
                  refine Gg.x_retT ?_
                  refine Gg.r_any (vs := [.slice none 0 0, .agg #[.int .i64 1, .int .i64 n1069_]]) Tryd.results8 hf ⟨hf.g rfl, ⟨_, _, hf.g rfl, .inl ⟨[.int .i64 1, .int .i64 n1069_], Tryd.isAgg25, Tryd.sizeOf25, Gg.blk_cells (hm.e 2 rfl) 0 ⟨rfl, rfl, trivial⟩, rfl⟩⟩, trivial⟩ ?_
                  exact ⟨none, 0, rfl, hm.ev, Gg.nil_ok _ _ _⟩
                · have h := Cin.cond_f hb1299_ h
                  refine wp_skip ?_
                  refine hK21 _ _ ?_
                  obtain ⟨j1308_, hj1308_, h⟩ := Cin.join_s h
                  refine Gg.c_meet (fun a w => ∃ (n1303_ : Int) (A1304_ : Option Addr) (c1305_ : Nat) (l1306_ : List Cin.Ins) (xs1307_ : List Value), Gg.Fr 120 [(0, Gg.Str s_), (3, .pointer (some ⟨g1_, 0, none⟩)), (4, .slice A1304_ l1306_.length c1305_), (5, .int .i64 n1069_), (6, .pointer (some ⟨g1295_, 0, none⟩)), (7, .int .i64 r1296_)] a ∧ Gg.St W [] X w [Gg.Ent.blk g1295_ 40 [.int .i64 n1069_, .int .i64 (b1293_.toNat : Int), .int .i64 n1303_, .int .i64 0], Gg.Ent.row 40 4 (.slice A1304_ l1306_.length c1305_) l1306_ xs1307_, Gg.Ent.blk g1_ 25 [.int .i64 0, .int .i64 0]] [Gg.Dt.rows Cin.ty_Ins xs1307_ l1306_] ∧ j1308_ n1303_ l1306_ = some r) (fun K hK24 => ?_) ?_
                  · clear hj1308_
                    refine wp_seq_k ?_
                    intro K hK25
                    refine Gg.c_region ?_
                    refine Gg.sv (Gg.wN rfl) (Gg.y_move rfl (hf.g rfl)) hf rfl rfl ?_
                    intro a hf
                    refine Gg.sv (Gg.wN rfl) (Gg.y_geq rfl (hf.g rfl) (Gg.ec _ _)) hf rfl rfl ?_
                    intro a hf
                    refine wpList_nil ?_
                    refine hK25 _ _ ?_
                    refine Gg.c_cond (hf.g rfl) (fun hb1309_ => ?_) (fun hb1309_ => ?_)
                    · have h := Cin.cond_t hb1309_ h
                      refine Gg.c_region ?_
                      refine Gg.sv (Gg.wN rfl) (Gg.y_move rfl (hf.g rfl)) hf rfl rfl ?_
                      intro a hf
                      refine Gg.sv (Gg.wN rfl) (Gg.y_move rfl (hf.g rfl)) hf rfl rfl ?_
                      intro a hf
                      refine Gg.sv (Gg.wN rfl) (Gg.y_add64 rfl (hf.g rfl) (Gg.ec _ _)) hf rfl rfl ?_
                      intro a hf
                      obtain ⟨b1310_, hx1311_, h⟩ := Cin.bind_s h
                      refine Gg.sv (Gg.wN rfl) (Gg.y_indexS' Tryd.underlying9 rfl (hf.g rfl) (hf.g rfl) hx1311_) hf rfl rfl ?_
                      intro a hf
                      refine Gg.sv (Gg.wN rfl) (Gg.y_cI64 Tryd.underlying5 Tryd.underlying3 rfl (hf.g rfl)) hf rfl rfl ?_
                      intro a hf
                      refine Gg.sv (Gg.wN rfl) (Gg.y_fld Tryd.underlying40 rfl Tryd.sizeOf3 rfl rfl (hf.g rfl)) hf rfl rfl ?_
                      intro a hf
                      refine Gg.sst (vs := [.int .i64 (b1310_.toNat : Int)]) 0 hm rfl (Gg.wN rfl) rfl Tryd.sizeOf3 rfl rfl rfl rfl (hf.g rfl) (hf.g rfl) rfl ?_
                      intro w hm
                      simp only [List.set, Gg.lay, List.drop, List.length, List.cons_append, List.nil_append] at hm
                      refine wpList_nil ?_
                      have hf := hf.sub (l' := [(0, Gg.Str s_), (3, .pointer (some ⟨g1_, 0, none⟩)), (4, .slice A1065_ l1067_.length c1066_), (5, .int .i64 n1069_), (6, .pointer (some ⟨g1295_, 0, none⟩)), (7, .int .i64 r1296_)]) ⟨rfl, rfl, rfl, rfl, rfl, rfl, trivial⟩
                      exact hK24 _ _ ⟨(b1310_.toNat : Int), A1065_, c1066_, l1067_, xs1068_, hf.sub ⟨rfl, rfl, rfl, rfl, rfl, rfl, trivial⟩, (hm).pick ⟨⟨0, rfl⟩, trivial⟩, h⟩
                    · have h := Cin.cond_f hb1309_ h
                      refine wp_skip ?_
                      exact hK24 _ _ ⟨0, A1065_, c1066_, l1067_, xs1068_, hf.sub ⟨rfl, rfl, rfl, rfl, rfl, rfl, trivial⟩, (hm).pick ⟨⟨0, rfl⟩, trivial⟩, h⟩
                  · rintro a w ⟨n1303_, A1304_, c1305_, l1306_, xs1307_, hf, hm, h⟩
                    subst hj1308_
                    try dsimp only at h
                    obtain ⟨j1324_, hj1324_, h⟩ := Cin.join_s h
                    refine Gg.c_meet (fun a w => ∃ (n1318_ : Int) (n1319_ : Int) (A1320_ : Option Addr) (c1321_ : Nat) (l1322_ : List Cin.Ins) (xs1323_ : List Value), Gg.Fr 120 [(0, Gg.Str s_), (3, .pointer (some ⟨g1_, 0, none⟩)), (4, .slice A1320_ l1322_.length c1321_), (5, .int .i64 n1069_), (6, .pointer (some ⟨g1295_, 0, none⟩)), (7, .int .i64 r1296_)] a ∧ Gg.St W [] X w [Gg.Ent.blk g1295_ 40 [.int .i64 n1069_, .int .i64 (b1293_.toNat : Int), .int .i64 n1318_, .int .i64 n1319_], Gg.Ent.row 40 4 (.slice A1320_ l1322_.length c1321_) l1322_ xs1323_, Gg.Ent.blk g1_ 25 [.int .i64 0, .int .i64 0]] [Gg.Dt.rows Cin.ty_Ins xs1323_ l1322_] ∧ j1324_ n1318_ n1319_ l1322_ = some r) (fun K hK26 => ?_) ?_
                    · clear hj1324_
                      refine wp_seq_k ?_
                      intro K hK27
                      refine Gg.c_region ?_
                      refine Gg.sv (Gg.wN rfl) (Gg.y_move rfl (hf.g rfl)) hf rfl rfl ?_
                      intro a hf
                      refine Gg.sv (Gg.wN rfl) (Gg.y_eqI Tryd.underlying3 rfl (hf.g rfl) (Gg.ec _ _)) hf rfl rfl ?_
                      intro a hf
                      refine wpList_nil ?_
                      refine hK27 _ _ ?_
                      refine Gg.c_cond (hf.g rfl) (fun hb1325_ => ?_) (fun hb1325_ => ?_)
                      · have h := Cin.cond_t hb1325_ h
                        refine wp_seq_k ?_
                        intro K hK28
                        refine Gg.c_region ?_
                        refine Gg.sv (Gg.wN rfl) (Gg.y_move rfl (hf.g rfl)) hf rfl rfl ?_
                        intro a hf
                        refine Gg.sv (Gg.wN rfl) (Gg.y_move rfl (hf.g rfl)) hf rfl rfl ?_
                        intro a hf
                        refine Gg.sv (Gg.wN rfl) (Gg.y_add64 rfl (hf.g rfl) (Gg.ec _ _)) hf rfl rfl ?_
                        intro a hf
                        obtain ⟨b1326_, hx1327_, h⟩ := Cin.bind_s h
                        refine Gg.sv (Gg.wN rfl) (Gg.y_indexS' Tryd.underlying9 rfl (hf.g rfl) (hf.g rfl) hx1327_) hf rfl rfl ?_
                        intro a hf
                        refine Gg.sv (Gg.wN rfl) (Gg.y_cI64 Tryd.underlying5 Tryd.underlying3 rfl (hf.g rfl)) hf rfl rfl ?_
                        intro a hf
                        refine Gg.sv (Gg.wN rfl) (Gg.y_fld Tryd.underlying40 rfl Tryd.sizeOf3 rfl rfl (hf.g rfl)) hf rfl rfl ?_
                        intro a hf
                        refine Gg.sst (vs := [.int .i64 (b1326_.toNat : Int)]) 0 hm rfl (Gg.wN rfl) rfl Tryd.sizeOf3 rfl rfl rfl rfl (hf.g rfl) (hf.g rfl) rfl ?_
                        intro w hm
                        simp only [List.set, Gg.lay, List.drop, List.length, List.cons_append, List.nil_append] at hm
                        refine wpList_nil ?_
                        refine hK28 _ _ ?_
                        refine wp_seq_k ?_
                        intro K hK29
                        refine Gg.c_region ?_
                        refine Gg.sv (Gg.wN rfl) (Gg.y_fld Tryd.underlying40 rfl Tryd.sizeOf3 rfl rfl (hf.g rfl)) hf rfl rfl ?_
                        intro a hf
                        refine Gg.sv (Gg.wN rfl) (Gg.y_load1 Tryd.isAgg3 rfl (hf.g rfl) (Gg.blk_cell (hm.e 0 rfl) (j := 1) rfl)) hf rfl rfl ?_
                        intro a hf
                        obtain ⟨r1328_, hr1329_, h⟩ := Cin.bind_s h
                        refine Gg.sc (vs := [.int .i64 (b1293_.toNat : Int)]) (Gg.wN rfl) rfl Tryd.call20 ⟨(hf.g rfl), trivial⟩ (c_R_ByItself hm.ltM hr1329_ ) hf rfl rfl ?_
                        rintro _ w ⟨rfl, hv⟩
                        refine ⟨_, rfl, ?_⟩
                        intro a hf
                        have hm := hm.keep hv
                        clear hv
                        refine Gg.sv (Gg.wN rfl) (Gg.y_not rfl (hf.g rfl)) hf rfl rfl ?_
                        intro a hf
                        refine wpList_nil ?_
                        have hf := hf.sub (l' := [(0, Gg.Str s_), (3, .pointer (some ⟨g1_, 0, none⟩)), (4, .slice A1304_ l1306_.length c1305_), (5, .int .i64 n1069_), (6, .pointer (some ⟨g1295_, 0, none⟩)), (7, .int .i64 r1296_), (61, .bool (!r1328_))]) ⟨rfl, rfl, rfl, rfl, rfl, rfl, rfl, trivial⟩
                        refine hK29 _ _ ?_
                        refine Gg.c_cond (hf.g rfl) (fun hb1330_ => ?_) (fun hb1330_ => ?_)
                        · have h := Cin.cond_t hb1330_ h
                          refine wp_seq_k ?_
                          intro K hK30
                          refine Gg.c_region ?_
                          refine Gg.sv (Gg.wN rfl) (Gg.y_fld Tryd.underlying40 rfl Tryd.sizeOf3 rfl rfl (hf.g rfl)) hf rfl rfl ?_
                          intro a hf
                          refine Gg.sv (Gg.wN rfl) (Gg.y_load1 Tryd.isAgg3 rfl (hf.g rfl) (Gg.blk_cell (hm.e 0 rfl) (j := 2) rfl)) hf rfl rfl ?_
                          intro a hf
                          refine Gg.sv (Gg.wN rfl) (Gg.y_mul64 rfl (Gg.ec _ _) (hf.g rfl)) hf rfl rfl ?_
                          intro a hf
                          refine Gg.sv (Gg.wN rfl) (Gg.y_fld Tryd.underlying40 rfl Tryd.sizeOf3 rfl rfl (hf.g rfl)) hf rfl rfl ?_
                          intro a hf
                          refine Gg.sv (Gg.wN rfl) (Gg.y_load1 Tryd.isAgg3 rfl (hf.g rfl) (Gg.blk_cell (hm.e 0 rfl) (j := 3) rfl)) hf rfl rfl ?_
                          intro a hf
                          refine Gg.sv (Gg.wN rfl) (Gg.y_add64 rfl (hf.g rfl) (hf.g rfl)) hf rfl rfl ?_
                          intro a hf
                          refine Gg.sv (Gg.wN rfl) (Gg.y_fld Tryd.underlying40 rfl Tryd.sizeOf3 rfl rfl (hf.g rfl)) hf rfl rfl ?_
                          intro a hf
                          refine Gg.sst (vs := [.int .i64 (Cin.w64 ((Cin.w64 (256 * n1303_)) + (b1326_.toNat : Int)))]) 0 hm rfl (Gg.wN rfl) rfl Tryd.sizeOf3 rfl rfl rfl rfl (hf.g rfl) (hf.g rfl) rfl ?_
                          intro w hm
                          simp only [List.set, Gg.lay, List.drop, List.length, List.cons_append, List.nil_append] at hm
                          refine wpList_nil ?_
                          refine hK30 _ _ ?_
                          refine Gg.c_region ?_
                          refine Gg.sv (Gg.wN rfl) (Gg.y_fld Tryd.underlying40 rfl Tryd.sizeOf3 rfl rfl (hf.g rfl)) hf rfl rfl ?_
                          intro a hf
                          refine Gg.sst (vs := [.int .i64 0]) 0 hm rfl (Gg.wN rfl) rfl Tryd.sizeOf3 rfl rfl rfl rfl (hf.g rfl) (Gg.ec _ _) rfl ?_
                          intro w hm
                          simp only [List.set, Gg.lay, List.drop, List.length, List.cons_append, List.nil_append] at hm
                          refine wpList_nil ?_
                          have hf := hf.sub (l' := [(0, Gg.Str s_), (3, .pointer (some ⟨g1_, 0, none⟩)), (4, .slice A1304_ l1306_.length c1305_), (5, .int .i64 n1069_), (6, .pointer (some ⟨g1295_, 0, none⟩)), (7, .int .i64 r1296_)]) ⟨rfl, rfl, rfl, rfl, rfl, rfl, trivial⟩
                          exact hK26 _ _ ⟨Cin.w64 ((Cin.w64 (256 * n1303_)) + (b1326_.toNat : Int)), 0, A1304_, c1305_, l1306_, xs1307_, hf.sub ⟨rfl, rfl, rfl, rfl, rfl, rfl, trivial⟩, (hm).pick ⟨⟨0, rfl⟩, trivial⟩, h⟩
                        · have h := Cin.cond_f hb1330_ h
                          refine wp_skip ?_
                          exact hK26 _ _ ⟨n1303_, (b1326_.toNat : Int), A1304_, c1305_, l1306_, xs1307_, hf.sub ⟨rfl, rfl, rfl, rfl, rfl, rfl, trivial⟩, (hm).pick ⟨⟨0, rfl⟩, trivial⟩, h⟩
                      · have h := Cin.cond_f hb1325_ h
                        refine wp_skip ?_
                        exact hK26 _ _ ⟨n1303_, 0, A1304_, c1305_, l1306_, xs1307_, hf.sub ⟨rfl, rfl, rfl, rfl, rfl, rfl, trivial⟩, (hm).pick ⟨⟨0, rfl⟩, trivial⟩, h⟩
                    · rintro a w ⟨n1318_, n1319_, A1320_, c1321_, l1322_, xs1323_, hf, hm, h⟩
                      subst hj1324_
                      try dsimp only at h
                      obtain ⟨j1345_, hj1345_, h⟩ := Cin.join_s h
                      refine Gg.c_meet (fun a w => ∃ (n1340_ : Int) (A1341_ : Option Addr) (c1342_ : Nat) (l1343_ : List Cin.Ins) (xs1344_ : List Value), Gg.Fr 120 [(0, Gg.Str s_), (3, .pointer (some ⟨g1_, 0, none⟩)), (4, .slice A1341_ l1343_.length c1342_), (5, .int .i64 n1069_), (6, .pointer (some ⟨g1295_, 0, none⟩)), (7, .int .i64 r1296_)] a ∧ Gg.St W [] X w [Gg.Ent.blk g1295_ 40 [.int .i64 n1069_, .int .i64 (b1293_.toNat : Int), .int .i64 n1340_, .int .i64 n1319_], Gg.Ent.row 40 4 (.slice A1341_ l1343_.length c1342_) l1343_ xs1344_, Gg.Ent.blk g1_ 25 [.int .i64 0, .int .i64 0]] [Gg.Dt.rows Cin.ty_Ins xs1344_ l1343_] ∧ j1345_ n1340_ l1343_ = some r) (fun K hK31 => ?_) ?_
                      · clear hj1345_
                        obtain ⟨j1352_, hj1352_, h⟩ := Cin.join_s h
                        refine Gg.c_meet (fun a w => ∃ (A1347_ : Option Addr) (c1348_ : Nat) (l1349_ : List Cin.Ins) (xs1350_ : List Value) (b1351_ : Bool), Gg.Fr 120 [(0, Gg.Str s_), (3, .pointer (some ⟨g1_, 0, none⟩)), (4, .slice A1347_ l1349_.length c1348_), (5, .int .i64 n1069_), (6, .pointer (some ⟨g1295_, 0, none⟩)), (7, .int .i64 r1296_), (77, .bool b1351_)] a ∧ Gg.St W [] X w [Gg.Ent.blk g1295_ 40 [.int .i64 n1069_, .int .i64 (b1293_.toNat : Int), .int .i64 n1318_, .int .i64 n1319_], Gg.Ent.row 40 4 (.slice A1347_ l1349_.length c1348_) l1349_ xs1350_, Gg.Ent.blk g1_ 25 [.int .i64 0, .int .i64 0]] [Gg.Dt.rows Cin.ty_Ins xs1350_ l1349_] ∧ j1352_ l1349_ b1351_ = some r) (fun K hK32 => ?_) ?_
                        · clear hj1352_
                          refine Gg.c_region ?_
                          refine Gg.sv (Gg.wN rfl) (Gg.y_fld Tryd.underlying40 rfl Tryd.sizeOf3 rfl rfl (hf.g rfl)) hf rfl rfl ?_
                          intro a hf
                          refine Gg.sv (Gg.wN rfl) (Gg.y_load1 Tryd.isAgg3 rfl (hf.g rfl) (Gg.blk_cell (hm.e 0 rfl) (j := 1) rfl)) hf rfl rfl ?_
                          intro a hf
                          refine Gg.sv (Gg.wN rfl) (Gg.y_eqI Tryd.underlying3 rfl (hf.g rfl) (Gg.ec _ _)) hf rfl rfl ?_
                          intro a hf
                          refine Gg.sv (Gg.wN rfl) (Gg.y_move rfl (hf.g rfl)) hf rfl rfl ?_
                          intro a hf
                          rcases Bool.eq_false_or_eq_true (decide ((b1293_.toNat : Int) = 1)) with hb1353_ | hb1353_
                          · have h := Cin.cond_t hb1353_ h
                            refine Gg.sv (Gg.wantT' hf rfl rfl rfl hb1353_ rfl) (Gg.y_fld Tryd.underlying40 rfl Tryd.sizeOf3 rfl rfl (hf.g rfl)) hf rfl rfl ?_
                            intro a hf
                            refine Gg.sv (Gg.wantT' hf rfl rfl rfl hb1353_ rfl) (Gg.y_load1 Tryd.isAgg3 rfl (hf.g rfl) (Gg.blk_cell (hm.e 0 rfl) (j := 2) rfl)) hf rfl rfl ?_
                            intro a hf
                            refine Gg.sv (Gg.wantT' hf rfl rfl rfl hb1353_ rfl) (Gg.y_gtr rfl (hf.g rfl) (Gg.ec _ _)) hf rfl rfl ?_
                            intro a hf
                            refine Gg.sv (Gg.wN rfl) (Gg.y_pickT' rfl (hf.g rfl) hb1353_ (hf.g rfl)) hf rfl rfl ?_
                            intro a hf
                            refine wpList_nil ?_
                            exact hK32 _ _ ⟨A1320_, c1321_, l1322_, xs1323_, decide (32767 < n1318_), hf.sub ⟨rfl, rfl, rfl, rfl, rfl, rfl, rfl, trivial⟩, (hm).pick ⟨⟨0, rfl⟩, trivial⟩, h⟩
                          · have h := Cin.cond_f hb1353_ h
                            refine Gg.ss (Gg.wantF' hf rfl rfl rfl hb1353_ rfl rfl) hf rfl rfl ?_
                            intro a hf
                            refine Gg.ss (Gg.wantF' hf rfl rfl rfl hb1353_ rfl rfl) hf rfl rfl ?_
                            intro a hf
                            refine Gg.ss (Gg.wantF' hf rfl rfl rfl hb1353_ rfl rfl) hf rfl rfl ?_
                            intro a hf
                            refine Gg.sv (Gg.wN rfl) (Gg.y_pickF' rfl (hf.g rfl) hb1353_ (Gg.ec _ _)) hf rfl rfl ?_
                            intro a hf
                            refine wpList_nil ?_
                            exact hK32 _ _ ⟨A1320_, c1321_, l1322_, xs1323_, false, hf.sub ⟨rfl, rfl, rfl, rfl, rfl, rfl, rfl, trivial⟩, (hm).pick ⟨⟨0, rfl⟩, trivial⟩, h⟩
                        · rintro a w ⟨A1347_, c1348_, l1349_, xs1350_, b1351_, hf, hm, h⟩
                          subst hj1352_
                          try dsimp only at h
                          refine Gg.c_cond (hf.g rfl) (fun hb1354_ => ?_) (fun hb1354_ => ?_)
                          · have h := Cin.cond_t hb1354_ h
                            refine Gg.c_region ?_
                            refine Gg.sv (Gg.wN rfl) (Gg.y_fld Tryd.underlying40 rfl Tryd.sizeOf3 rfl rfl (hf.g rfl)) hf rfl rfl ?_
                            intro a hf
                            refine Gg.sv (Gg.wN rfl) (Gg.y_load1 Tryd.isAgg3 rfl (hf.g rfl) (Gg.blk_cell (hm.e 0 rfl) (j := 2) rfl)) hf rfl rfl ?_
                            intro a hf
                            refine Gg.sv (Gg.wN rfl) (Gg.y_sub64 rfl (hf.g rfl) (Gg.ec _ _)) hf rfl rfl ?_
                            intro a hf
                            refine Gg.sv (Gg.wN rfl) (Gg.y_fld Tryd.underlying40 rfl Tryd.sizeOf3 rfl rfl (hf.g rfl)) hf rfl rfl ?_
                            intro a hf
                            refine Gg.sst (vs := [.int .i64 (Cin.w64 (n1318_ - 65536))]) 0 hm rfl (Gg.wN rfl) rfl Tryd.sizeOf3 rfl rfl rfl rfl (hf.g rfl) (hf.g rfl) rfl ?_
                            intro w hm
                            simp only [List.set, Gg.lay, List.drop, List.length, List.cons_append, List.nil_append] at hm
                            refine wpList_nil ?_
                            exact hK31 _ _ ⟨Cin.w64 (n1318_ - 65536), A1347_, c1348_, l1349_, xs1350_, hf.sub ⟨rfl, rfl, rfl, rfl, rfl, rfl, trivial⟩, (hm).pick ⟨⟨0, rfl⟩, trivial⟩, h⟩
                          · have h := Cin.cond_f hb1354_ h
                            refine wp_skip ?_
                            exact hK31 _ _ ⟨n1318_, A1347_, c1348_, l1349_, xs1350_, hf.sub ⟨rfl, rfl, rfl, rfl, rfl, rfl, trivial⟩, (hm).pick ⟨⟨0, rfl⟩, trivial⟩, h⟩
                      · rintro a w ⟨n1340_, A1341_, c1342_, l1343_, xs1344_, hf, hm, h⟩
                        subst hj1345_
                        try dsimp only at h
                        refine wp_seq_k ?_
                        intro K hK33
                        refine Gg.c_region ?_
                        refine Gg.sv (Gg.wN rfl) (Gg.y_move rfl (hf.g rfl)) hf rfl rfl ?_
                        intro a hf
                        refine Gg.sv (Gg.wN rfl) (Gg.y_loadN (cs := [.int .i64 n1069_, .int .i64 (b1293_.toNat : Int), .int .i64 n1340_, .int .i64 n1319_]) Tryd.isAgg40 Tryd.sizeOf40 rfl rfl (hf.g rfl) (Gg.blk_cells (hm.e 0 rfl) 0 ⟨rfl, rfl, rfl, rfl, trivial⟩)) hf rfl rfl ?_
                        intro a hf
                        refine Gg.snewS (cs := [.int .i64 n1069_, .int .i64 (b1293_.toNat : Int), .int .i64 n1340_, .int .i64 n1319_]) (Gg.wN rfl) (Gg.y_buildSlice (vs := [(0, .agg #[.int .i64 n1069_, .int .i64 (b1293_.toNat : Int), .int .i64 n1340_, .int .i64 n1319_])]) Tryd.underlying22 Tryd.sizeOf40 Tryd.zeroValue40 rfl rfl rfl ⟨⟨(hf.g rfl), rfl⟩, trivial⟩ (by kernel_rfl)) hf hm rfl rfl ?_
                        intro a g1355_ w hf hm
                        obtain ⟨l1356_, hl1357_, h⟩ := Cin.bind_s h
                        refine Gg.sapp (ml := [(⟨n1069_, (b1293_.toNat : Int), n1340_, n1319_⟩ : Cin.Ins)]) 2 0 hm rfl rfl Tryd.underlying22 info40 rfl rfl hl1357_ rfl rfl rfl rfl (Gg.wN rfl) rfl (hf.g rfl) (hf.g rfl) hf rfl rfl ?_
                        intro a A1358_ c1359_ w hf hm
                        have hm := hm.more (y := Gg.Dt.rows Cin.ty_Ins (xs1344_ ++ [.int .i64 n1069_, .int .i64 (b1293_.toNat : Int), .int .i64 n1340_, .int .i64 n1319_]) l1356_) (Gg.rdAll_to (Cin.app_some hl1357_).2 (Gg.rdAll_snocs (hm.d 0 rfl) ⟨_, _, rfl, rfl, rfl⟩))
                        obtain ⟨xs1360_, hxs⟩ : ∃ z, z = xs1344_ ++ [.int .i64 n1069_, .int .i64 (b1293_.toNat : Int), .int .i64 n1340_, .int .i64 n1319_] := ⟨_, rfl⟩
                        rw [← hxs] at hm
                        clear hxs
                        simp only [List.set] at hm
                        have hm := hm.eraseE 0
                        simp only [List.eraseIdx] at hm
                        refine Gg.sv (Gg.wN rfl) (Gg.y_assign rfl (hf.g rfl)) hf rfl rfl ?_
                        intro a hf
                        refine wpList_nil ?_
                        refine hK33 _ _ ?_
                        refine Gg.c_region ?_
                        refine Gg.sv (Gg.wN rfl) (Gg.y_move rfl (hf.g rfl)) hf rfl rfl ?_
                        intro a hf
                        refine Gg.sv (Gg.wN rfl) (Gg.y_move rfl (hf.g rfl)) hf rfl rfl ?_
                        intro a hf
                        refine Gg.sv (Gg.wN rfl) (Gg.y_add64 rfl (Gg.ec _ _) (hf.g rfl)) hf rfl rfl ?_
                        intro a hf
                        refine Gg.sv (Gg.wN rfl) (Gg.y_add64 rfl (hf.g rfl) (hf.g rfl)) hf rfl rfl ?_
                        intro a hf
                        refine Gg.sv (Gg.wN rfl) (Gg.y_assign rfl (hf.g rfl)) hf rfl rfl ?_
                        intro a hf
                        refine wpList_nil ?_
                        exact hK15 _ _ ⟨A1358_, c1359_, l1356_, xs1360_, Cin.w64 (n1069_ + (Cin.w64 (1 + r1296_))), hf.sub ⟨rfl, rfl, rfl, rfl, trivial⟩, (hm.dropN 1).pick ⟨⟨0, rfl⟩, trivial⟩, h⟩
            · rintro a w ⟨A1287_, c1288_, l1289_, xs1290_, n1291_, hf, hm, h⟩
              subst hj1292_
              try dsimp only at h
              exact hK12 _ _ ⟨A1287_, c1288_, l1289_, xs1290_, n1291_, hf.sub ⟨rfl, rfl, rfl, rfl, trivial⟩, (hm).pick ⟨⟨0, rfl⟩, trivial⟩, h⟩
          · have h := Cin.cond_f hb1218_ h
            refine wp_exit ?_
            refine Gg.x_then ?_
            refine Gg.x_then ?_
            refine Gg.x_hit ?_
            exact hK11 _ _ ⟨A1065_, c1066_, l1067_, xs1068_, hf.sub ⟨rfl, rfl, trivial⟩, (hm).pick ⟨⟨0, rfl⟩, trivial⟩, h⟩
      · rintro a w ⟨A957_, c958_, l959_, xs960_, hf, hm, h⟩
        subst hj961_
        try dsimp only at h
        refine hK10 _ _ ?_
        refine wp_seq_k ?_
        intro K hK34
        refine wp_seq_k ?_
        intro K hK35
        refine Gg.c_region ?_
        refine Gg.sv (Gg.wN rfl) (Gg.y_assign rfl (Gg.ec _ _)) hf rfl rfl ?_
        intro a hf
        refine wpList_nil ?_
        refine hK35 _ _ ?_
        obtain ⟨j1649_, hj1649_, h⟩ := Cin.join_s h
        refine Gg.c_blockJ (fun a w => ∃ (A1645_ : Option Addr) (c1646_ : Nat) (l1647_ : List Cin.Ins) (xs1648_ : List Value), Gg.Fr 120 [(3, .pointer (some ⟨g1_, 0, none⟩)), (4, .slice A1645_ l1647_.length c1646_)] a ∧ Gg.St W [] X w [Gg.Ent.row 40 4 (.slice A1645_ l1647_.length c1646_) l1647_ xs1648_, Gg.Ent.blk g1_ 25 [.int .i64 0, .int .i64 0]] [Gg.Dt.rows Cin.ty_Ins xs1648_ l1647_] ∧ j1649_ l1647_ = some r) (fun K hK36 => ?_) ?_
        · clear hj1649_
          refine Gg.c_loop (fun (k2_ : Nat) a w => ∃ (A1744_ : Option Addr) (c1745_ : Nat) (l1746_ : List Cin.Ins) (xs1747_ : List Value) (n1748_ : Int), Gg.Fr 120 [(3, .pointer (some ⟨g1_, 0, none⟩)), (4, .slice A1744_ l1746_.length c1745_), (8, .int .i64 n1748_)] a ∧ Gg.St W [] X w [Gg.Ent.row 40 4 (.slice A1744_ l1746_.length c1745_) l1746_ xs1747_, Gg.Ent.blk g1_ 25 [.int .i64 0, .int .i64 0]] [Gg.Dt.rows Cin.ty_Ins xs1747_ l1746_] ∧ Cin.R_InsOf_L2 F j1649_ k2_ l1746_ n1748_ = some r) F ⟨A957_, c958_, l959_, xs960_, 0, hf.sub ⟨rfl, rfl, rfl, trivial⟩, (hm).pick ⟨⟨0, rfl⟩, trivial⟩, h⟩ ?_ ?_
          · rintro a w ⟨A1744_, c1745_, l1746_, xs1747_, n1748_, hf, hm, h⟩
            exact absurd h (by simp [Cin.R_InsOf_L2])
          · rintro k2_ a w ⟨A1744_, c1745_, l1746_, xs1747_, n1748_, hf, hm, h⟩ K hK37
            rw [Cin.R_InsOf_L2] at h
            refine wp_seq_k ?_
            intro K hK38
            refine wp_seq_k ?_
            intro K hK39
            refine Gg.c_region ?_
            refine Gg.sv (Gg.wN rfl) (Gg.y_move rfl (hf.g rfl)) hf rfl rfl ?_
            intro a hf
            refine Gg.sv (Gg.wN rfl) (Gg.y_move rfl (hf.g rfl)) hf rfl rfl ?_
            intro a hf
            refine Gg.sv (Gg.wN rfl) (Gg.y_len Tryd.underlying22 rfl (hf.g rfl)) hf rfl rfl ?_
            intro a hf
            refine Gg.sv (Gg.wN rfl) (Gg.y_lss rfl (hf.g rfl) (hf.g rfl)) hf rfl rfl ?_
            intro a hf
            refine wpList_nil ?_
            refine hK39 _ _ ?_
            refine Gg.c_cond (hf.g rfl) (fun hb1844_ => ?_) (fun hb1844_ => ?_)
            · have h := Cin.cond_t hb1844_ h
              refine wp_skip ?_
              refine hK38 _ _ ?_
              refine wp_seq_k ?_
              intro K hK40
              obtain ⟨j1891_, hj1891_, h⟩ := Cin.join_s h
              refine Gg.c_blockJ (fun a w => ∃ (A1887_ : Option Addr) (c1888_ : Nat) (l1889_ : List Cin.Ins) (xs1890_ : List Value), Gg.Fr 120 [(3, .pointer (some ⟨g1_, 0, none⟩)), (4, .slice A1887_ l1889_.length c1888_), (8, .int .i64 n1748_)] a ∧ Gg.St W [] X w [Gg.Ent.row 40 4 (.slice A1887_ l1889_.length c1888_) l1889_ xs1890_, Gg.Ent.blk g1_ 25 [.int .i64 0, .int .i64 0]] [Gg.Dt.rows Cin.ty_Ins xs1890_ l1889_] ∧ j1891_ l1889_ = some r) (fun K hK41 => ?_) ?_
              · clear hj1891_
                obtain ⟨j1912_, hj1912_, h⟩ := Cin.join_s h
                refine Gg.c_meet (fun a w => ∃ (A1907_ : Option Addr) (c1908_ : Nat) (l1909_ : List Cin.Ins) (xs1910_ : List Value) (b1911_ : Bool), Gg.Fr 120 [(3, .pointer (some ⟨g1_, 0, none⟩)), (4, .slice A1907_ l1909_.length c1908_), (8, .int .i64 n1748_), (111, .bool b1911_)] a ∧ Gg.St W [] X w [Gg.Ent.row 40 4 (.slice A1907_ l1909_.length c1908_) l1909_ xs1910_, Gg.Ent.blk g1_ 25 [.int .i64 0, .int .i64 0]] [Gg.Dt.rows Cin.ty_Ins xs1910_ l1909_] ∧ j1912_ l1909_ b1911_ = some r) (fun K hK42 => ?_) ?_
                · clear hj1912_
                  refine Gg.c_region ?_
                  refine Gg.sv (Gg.wN rfl) (Gg.y_move rfl (hf.g rfl)) hf rfl rfl ?_
                  intro a hf
                  refine Gg.sv (Gg.wN rfl) (Gg.y_move rfl (hf.g rfl)) hf rfl rfl ?_
                  intro a hf
                  obtain ⟨x1913_, hx1914_, h⟩ := Cin.bind_s h
                  obtain ⟨hA1915_, hi1916_, _, rfl, hc1917_⟩ := Gg.row_at (hm.e 0 rfl) (hm.d 0 rfl) hx1914_
                  refine Gg.sv (Gg.wN rfl) (Gg.y_idx Tryd.underlying22 Tryd.sizeOf40 rfl (hf.g rfl) (hf.g rfl) hA1915_ hi1916_) hf rfl rfl ?_
                  intro a hf
                  refine Gg.sv (Gg.wN rfl) (Gg.y_fld Tryd.underlying40 rfl Tryd.sizeOf3 rfl rfl (hf.g rfl)) hf rfl rfl ?_
                  intro a hf
                  refine Gg.sv (Gg.wN rfl) (Gg.y_load1 Tryd.isAgg3 rfl (hf.g rfl) (hc1917_ 1 _ rfl)) hf rfl rfl ?_
                  intro a hf
                  obtain ⟨r1918_, hr1919_, h⟩ := Cin.bind_s h
                  refine Gg.sc (vs := [.int .i64 x1913_.Op]) (Gg.wN rfl) rfl Tryd.call21 ⟨(hf.g rfl), trivial⟩ (c_R_GoesTo hm.ltM hr1919_ ) hf rfl rfl ?_
                  rintro _ w ⟨rfl, hv⟩
                  refine ⟨_, rfl, ?_⟩
                  intro a hf
                  have hm := hm.keep hv
                  clear hv
                  refine Gg.sv (Gg.wN rfl) (Gg.y_move rfl (hf.g rfl)) hf rfl rfl ?_
                  intro a hf
                  rcases Bool.eq_false_or_eq_true r1918_ with hb1920_ | hb1920_
                  · have h := Cin.cond_t hb1920_ h
                    refine Gg.sv (Gg.wantT' hf rfl rfl rfl hb1920_ rfl) (Gg.y_move rfl (hf.g rfl)) hf rfl rfl ?_
                    intro a hf
                    refine Gg.sv (Gg.wantT' hf rfl rfl rfl hb1920_ rfl) (Gg.y_move rfl (hf.g rfl)) hf rfl rfl ?_
                    intro a hf
                    refine Gg.sv (Gg.wantT' hf rfl rfl rfl hb1920_ rfl) (Gg.y_move rfl (hf.g rfl)) hf rfl rfl ?_
                    intro a hf
                    obtain ⟨x1921_, hx1922_, h⟩ := Cin.bind_s h
                    obtain ⟨hA1923_, hi1924_, _, rfl, hc1925_⟩ := Gg.row_at (hm.e 0 rfl) (hm.d 0 rfl) hx1922_
                    refine Gg.sv (Gg.wantT' hf rfl rfl rfl hb1920_ rfl) (Gg.y_idx Tryd.underlying22 Tryd.sizeOf40 rfl (hf.g rfl) (hf.g rfl) hA1923_ hi1924_) hf rfl rfl ?_
                    intro a hf
                    refine Gg.sv (Gg.wantT' hf rfl rfl rfl hb1920_ rfl) (Gg.y_fld Tryd.underlying40 rfl Tryd.sizeOf3 rfl rfl (hf.g rfl)) hf rfl rfl ?_
                    intro a hf
                    refine Gg.sv (Gg.wantT' hf rfl rfl rfl hb1920_ rfl) (Gg.y_load1 Tryd.isAgg3 rfl (hf.g rfl) (hc1925_ 2 _ rfl)) hf rfl rfl ?_
                    intro a hf
                    obtain ⟨r1926_, hr1927_, h⟩ := Cin.bind_s h
                    have hmr := hm.freeze 0 0 rfl rfl
                    simp only [List.eraseIdx] at hmr
                    refine Gg.sc (vs := [.slice A1744_ l1746_.length c1745_, .int .i64 x1921_.A]) (Gg.wantT' hf rfl rfl rfl hb1920_ rfl) rfl Tryd.call12 ⟨(hf.g rfl), (hf.g rfl), trivial⟩ (c_R_PlaceOf hmr.ltM hr1927_ (hmr.d 0 rfl)) hf rfl rfl ?_
                    rintro _ w ⟨rfl, hv⟩
                    refine ⟨_, rfl, ?_⟩
                    intro a hf
                    have hm := hm.keep hv
                    clear hv
                    clear hmr
                    refine Gg.sv (Gg.wantT' hf rfl rfl rfl hb1920_ rfl) (Gg.y_lss rfl (hf.g rfl) (Gg.ec _ _)) hf rfl rfl ?_
                    intro a hf
                    refine Gg.sv (Gg.wN rfl) (Gg.y_pickT' rfl (hf.g rfl) hb1920_ (hf.g rfl)) hf rfl rfl ?_
                    intro a hf
                    refine wpList_nil ?_
                    have hf := hf.sub (l' := [(3, .pointer (some ⟨g1_, 0, none⟩)), (4, .slice A1744_ l1746_.length c1745_), (8, .int .i64 n1748_), (111, .bool (decide (r1926_ < 0)))]) ⟨rfl, rfl, rfl, rfl, trivial⟩
                    exact hK42 _ _ ⟨A1744_, c1745_, l1746_, xs1747_, decide (r1926_ < 0), hf.sub ⟨rfl, rfl, rfl, rfl, trivial⟩, (hm).pick ⟨⟨0, rfl⟩, trivial⟩, h⟩
                  · have h := Cin.cond_f hb1920_ h
                    refine Gg.ss (Gg.wantF' hf rfl rfl rfl hb1920_ rfl rfl) hf rfl rfl ?_
                    intro a hf
                    refine Gg.ss (Gg.wantF' hf rfl rfl rfl hb1920_ rfl rfl) hf rfl rfl ?_
                    intro a hf
                    refine Gg.ss (Gg.wantF' hf rfl rfl rfl hb1920_ rfl rfl) hf rfl rfl ?_
                    intro a hf
                    refine Gg.ss (Gg.wantF' hf rfl rfl rfl hb1920_ rfl rfl) hf rfl rfl ?_
                    intro a hf
                    refine Gg.ss (Gg.wantF' hf rfl rfl rfl hb1920_ rfl rfl) hf rfl rfl ?_
                    intro a hf
                    refine Gg.ss (Gg.wantF' hf rfl rfl rfl hb1920_ rfl rfl) hf rfl rfl ?_
                    intro a hf
                    refine Gg.ss (Gg.wantF' hf rfl rfl rfl hb1920_ rfl rfl) hf rfl rfl ?_
                    intro a hf
                    refine Gg.ss (Gg.wantF' hf rfl rfl rfl hb1920_ rfl rfl) hf rfl rfl ?_
                    intro a hf
                    refine Gg.sv (Gg.wN rfl) (Gg.y_pickF' rfl (hf.g rfl) hb1920_ (Gg.ec _ _)) hf rfl rfl ?_
                    intro a hf
                    refine wpList_nil ?_
                    have hf := hf.sub (l' := [(3, .pointer (some ⟨g1_, 0, none⟩)), (4, .slice A1744_ l1746_.length c1745_), (8, .int .i64 n1748_), (111, .bool false)]) ⟨rfl, rfl, rfl, rfl, trivial⟩
                    exact hK42 _ _ ⟨A1744_, c1745_, l1746_, xs1747_, false, hf.sub ⟨rfl, rfl, rfl, rfl, trivial⟩, (hm).pick ⟨⟨0, rfl⟩, trivial⟩, h⟩
                · rintro a w ⟨A1907_, c1908_, l1909_, xs1910_, b1911_, hf, hm, h⟩
                  subst hj1912_
                  try dsimp only at h
                  refine Gg.c_cond (hf.g rfl) (fun hb1928_ => ?_) (fun hb1928_ => ?_)
                  · have h := Cin.cond_t hb1928_ h
                    refine wp_seq_k ?_
                    intro K hK43
                    refine Gg.c_any (m := 8) (by kernel_rfl) rfl ?_
                    intro w hv
                    have hm := hm.keep hv
                    clear hv
                    refine Gg.an_v 0 rfl (by kernel_rfl) (Gg.wN rfl) (fun w => Gg.y_move rfl (hf.g rfl)) hf rfl rfl ?_
                    intro a hf
                    refine Gg.an_v 1 rfl (by kernel_rfl) (Gg.wN rfl) (fun w => Gg.y_move rfl (hf.g rfl)) hf rfl rfl ?_
                    intro a hf
                    obtain ⟨x1929_, hx1930_, h⟩ := Cin.bind_s h
                    obtain ⟨hA1931_, hi1932_, _, rfl, hc1933_⟩ := Gg.row_at (hm.e 0 rfl) (hm.d 0 rfl) hx1930_
                    refine Gg.an_v 2 rfl (by kernel_rfl) (Gg.wN rfl) (fun w => Gg.y_idx Tryd.underlying22 Tryd.sizeOf40 rfl (hf.g rfl) (hf.g rfl) hA1931_ hi1932_) hf rfl rfl ?_
                    intro a hf
                    refine Gg.an_v 3 rfl (by kernel_rfl) (Gg.wN rfl) (fun w => Gg.y_fld Tryd.underlying40 rfl Tryd.sizeOf3 rfl rfl (hf.g rfl)) hf rfl rfl ?_
                    intro a hf
                    refine Gg.an_v 6 rfl (by kernel_rfl) (Gg.wN rfl) (fun w => Gg.y_assign rfl (Gg.ec _ _)) hf rfl rfl ?_
                    intro a hf
                    refine Gg.an_o 4 rfl (by kernel_rfl) ?_
                    refine Gg.sv (Gg.wN rfl) (Gg.y_load1 Tryd.isAgg3 rfl (hf.g rfl) (hc1933_ 0 _ rfl)) hf rfl rfl ?_
                    intro a hf
                    refine Gg.an_n ?_
                    refine Gg.an_v 5 rfl (by kernel_rfl) (Gg.wN rfl) (fun w => Gg.y_build (vs := [(0, .int .i64 3), (1, .int .i64 x1929_.At)]) (cs := [.int .i64 3, .int .i64 x1929_.At]) Tryd.zeroValue25 Tryd.underlying25 places25 rfl ⟨⟨(Gg.ec _ _), rfl⟩, ⟨(hf.g rfl), rfl⟩, trivial⟩ rfl) hf rfl rfl ?_
                    intro a hf
                    refine Gg.an_o 7 rfl (by kernel_rfl) ?_
                    refine Gg.sst (vs := [.int .i64 3, .int .i64 x1929_.At]) 1 hm rfl (Gg.wN rfl) rfl Tryd.sizeOf25 rfl rfl rfl rfl (hf.g rfl) (hf.g rfl) rfl ?_
                    intro w hm
                    simp only [List.set, Gg.lay, List.drop, List.length, List.cons_append, List.nil_append] at hm
                    refine Gg.an_n ?_
                    refine Gg.an_done (by kernel_rfl) ?_
                    refine hK43 _ _ ?_
                    refine wp_ret ?_
                    cases h
                    refine Gg.x_retB ?_
                    refine Gg.x_retT ?_
                    refine Gg.x_retT ?_
                    refine Gg.x_retT ?_
                    refine Gg.x_retB ?_
                    refine Gg.x_retT ?_
                    refine Gg.x_retT ?_
                    refine Gg.r_any (vs := [.slice none 0 0, .agg #[.int .i64 3, .int .i64 x1929_.At]]) Tryd.results8 hf ⟨hf.g rfl, ⟨_, _, hf.g rfl, .inl ⟨[.int .i64 3, .int .i64 x1929_.At], Tryd.isAgg25, Tryd.sizeOf25, Gg.blk_cells (hm.e 1 rfl) 0 ⟨rfl, rfl, trivial⟩, rfl⟩⟩, trivial⟩ ?_
                    exact ⟨none, 0, rfl, hm.ev, Gg.nil_ok _ _ _⟩
                  · have h := Cin.cond_f hb1928_ h
                    refine wp_skip ?_
                    exact hK41 _ _ ⟨A1907_, c1908_, l1909_, xs1910_, hf.sub ⟨rfl, rfl, rfl, trivial⟩, (hm).pick ⟨⟨0, rfl⟩, trivial⟩, h⟩
              · rintro a w ⟨A1887_, c1888_, l1889_, xs1890_, hf, hm, h⟩
                subst hj1891_
                try dsimp only at h
                refine hK40 _ _ ?_
                refine Gg.c_region ?_
                refine Gg.sv (Gg.wN rfl) (Gg.y_move rfl (hf.g rfl)) hf rfl rfl ?_
                intro a hf
                refine Gg.sv (Gg.wN rfl) (Gg.y_add64 rfl (hf.g rfl) (Gg.ec _ _)) hf rfl rfl ?_
                intro a hf
                refine Gg.sv (Gg.wN rfl) (Gg.y_assign rfl (hf.g rfl)) hf rfl rfl ?_
                intro a hf
                refine wpList_nil ?_
                exact hK37 _ _ ⟨A1887_, c1888_, l1889_, xs1890_, Cin.w64 (n1748_ + 1), hf.sub ⟨rfl, rfl, rfl, trivial⟩, (hm).pick ⟨⟨0, rfl⟩, trivial⟩, h⟩
            · have h := Cin.cond_f hb1844_ h
              refine wp_exit ?_
              refine Gg.x_then ?_
              refine Gg.x_then ?_
              refine Gg.x_hit ?_
              exact hK36 _ _ ⟨A1744_, c1745_, l1746_, xs1747_, hf.sub ⟨rfl, rfl, trivial⟩, (hm).pick ⟨⟨0, rfl⟩, trivial⟩, h⟩
        · rintro a w ⟨A1645_, c1646_, l1647_, xs1648_, hf, hm, h⟩
          subst hj1649_
          try dsimp only at h
          refine hK34 _ _ ?_
          refine wp_seq_k ?_
          intro K hK44
          refine Gg.c_region ?_
          refine Gg.sv (Gg.wN rfl) (Gg.y_move rfl (hf.g rfl)) hf rfl rfl ?_
          intro a hf
          refine Gg.sv (Gg.wN rfl) (Gg.y_build (vs := []) (cs := [.int .i64 0, .int .i64 0]) Tryd.zeroValue25 Tryd.underlying25 places25 rfl trivial rfl) hf rfl rfl ?_
          intro a hf
          refine Gg.sv (Gg.wN rfl) (Gg.y_assign rfl (hf.g rfl)) hf rfl rfl ?_
          intro a hf
          refine Gg.sst (vs := [.int .i64 0, .int .i64 0]) 1 hm rfl (Gg.wN rfl) rfl Tryd.sizeOf25 rfl rfl rfl rfl (hf.g rfl) (hf.g rfl) rfl ?_
          intro w hm
          simp only [List.set, Gg.lay, List.drop, List.length, List.cons_append, List.nil_append] at hm
          refine wpList_nil ?_
          refine hK44 _ _ ?_
          refine wp_ret ?_
          cases h
          have hm := hm.freeze 0 0 rfl rfl
          simp only [List.eraseIdx] at hm
          refine Gg.r_any (vs := [.slice A1645_ l1647_.length c1646_, .agg #[.int .i64 0, .int .i64 0]]) Tryd.results8 hf ⟨hf.g rfl, ⟨_, _, hf.g rfl, .inl ⟨[.int .i64 0, .int .i64 0], Tryd.isAgg25, Tryd.sizeOf25, Gg.blk_cells (hm.e 0 rfl) 0 ⟨rfl, rfl, trivial⟩, rfl⟩⟩, trivial⟩ ?_
          exact ⟨A1645_, c1646_, rfl, hm.ev, (hm.res 0 rfl)⟩

end Go.Proofs.YtcioldnpdkfeoaaDoor
