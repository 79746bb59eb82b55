/- The walks of this group, made by program. -/
import Derived.Test.YtcioldnpdkfeoaaDoorWalkC2
import Derived.Test.YtcioldnpdkfeoaaDoorPureC3
import Derived.Test.YtcioldnpdkfeoaaDoorChecked
namespace Go.Proofs.YtcioldnpdkfeoaaDoor
open Go Go.RowKit
theorem eq_eql_Ins {o : Oper} {a : Act} {w : World} {t' : TypeId} {x y : Operand} {X Y : Cin.Ins} (ho : o.op = .binOp .eql 40 x y t') (hx : a.eval x = .agg #[.int .i64 X.At, .int .i64 X.Op, .int .i64 X.A, .int .i64 X.B]) (hy : a.eval y = .agg #[.int .i64 Y.At, .int .i64 Y.Op, .int .i64 Y.A, .int .i64 Y.B]) : Gg.Yv Tryd.prog o a w (.bool (decide (X = Y))) w := by
  have hd : decide (X = Y) = decide (X.At = Y.At ∧ X.Op = Y.Op ∧ X.A = Y.A ∧ X.B = Y.B ∧ True) := by cases X; cases Y; simp
  rw [hd]
  exact Gg.y_eqF Tryd.underlying40 (by kernel_rfl) (by kernel_rfl) (Gg.eqF_int rfl Tryd.underlying3 Tryd.isAgg3 rfl rfl (Gg.eqF_int rfl Tryd.underlying3 Tryd.isAgg3 rfl rfl (Gg.eqF_int rfl Tryd.underlying3 Tryd.isAgg3 rfl rfl (Gg.eqF_int rfl Tryd.underlying3 Tryd.isAgg3 rfl rfl (by simp [Gg.eqF_nil]))))) ho hx hy
theorem eq_neq_Ins {o : Oper} {a : Act} {w : World} {t' : TypeId} {x y : Operand} {X Y : Cin.Ins} (ho : o.op = .binOp .neq 40 x y t') (hx : a.eval x = .agg #[.int .i64 X.At, .int .i64 X.Op, .int .i64 X.A, .int .i64 X.B]) (hy : a.eval y = .agg #[.int .i64 Y.At, .int .i64 Y.Op, .int .i64 Y.A, .int .i64 Y.B]) : Gg.Yv Tryd.prog o a w (.bool (!decide (X = Y))) w := by
  have hd : decide (X = Y) = decide (X.At = Y.At ∧ X.Op = Y.Op ∧ X.A = Y.A ∧ X.B = Y.B ∧ True) := by cases X; cases Y; simp
  rw [hd]
  exact Gg.y_neF Tryd.underlying40 (by kernel_rfl) (by kernel_rfl) (Gg.eqF_int rfl Tryd.underlying3 Tryd.isAgg3 rfl rfl (Gg.eqF_int rfl Tryd.underlying3 Tryd.isAgg3 rfl rfl (Gg.eqF_int rfl Tryd.underlying3 Tryd.isAgg3 rfl rfl (Gg.eqF_int rfl Tryd.underlying3 Tryd.isAgg3 rfl rfl (by simp [Gg.eqF_nil]))))) ho hx hy
set_option maxHeartbeats 4000000 in
set_option maxRecDepth 20000 in
theorem c_R_CodeOf {X : List Nat} {W : World} {F : Nat} {l_ : List Cin.Ins} {r : (List UInt8) × Int} {A1_ : Option Addr} {c2_ : Nat} (hX : ∀ k ∈ X, k < W.heap.size) (h : Cin.R_CodeOf F l_ = some r) (d1 : (Gg.Dt.of (Gg.tySlice Cin.ty_Ins) [.slice A1_ l_.length c2_] l_).ok X W) :
    Calls Tryd.prog 14 [.slice A1_ l_.length c2_].toArray W (fun e w' => e = .returned (.tuple #[Gg.Str r.1, .int .i64 r.2]) ∧ Gg.Ev [] W w') := by
  refine Gg.enter Tryd.func14 rfl Tryd.ntmps14 rfl ?_
  intro a hf
  have hm := Gg.St.start0 X W [Gg.Dt.of (Gg.tySlice Cin.ty_Ins) [.slice A1_ l_.length c2_] l_] hX ⟨d1, trivial⟩
  rw [Cin.R_CodeOf] at h
  refine wp_seq_k ?_
  intro K hK1
  refine Gg.c_region ?_
  refine Gg.sv (Gg.wN rfl) (Gg.y_assign rfl (Gg.ec _ _)) hf rfl rfl ?_
  intro a hf
  refine Gg.sv (Gg.wN rfl) (Gg.y_assign rfl (Gg.ec _ _)) hf rfl rfl ?_
  intro a hf
  refine wpList_nil ?_
  refine hK1 _ _ ?_
  refine wp_seq_k ?_
  intro K hK2
  refine Gg.c_region ?_
  refine Gg.sv (Gg.wN rfl) (Gg.y_assign rfl (Gg.ec _ _)) hf rfl rfl ?_
  intro a hf
  refine wpList_nil ?_
  refine hK2 _ _ ?_
  refine wp_seq_k ?_
  intro K hK3
  refine wp_seq_k ?_
  intro K hK4
  refine Gg.c_region ?_
  refine Gg.sv (Gg.wN rfl) (Gg.y_assign rfl (Gg.ec _ _)) hf rfl rfl ?_
  intro a hf
  refine wpList_nil ?_
  refine hK4 _ _ ?_
  obtain ⟨j797_, hj797_, h⟩ := Cin.join_s h
  refine Gg.c_blockJ (fun a w => ∃ (s796_ : List UInt8), Gg.Fr 102 [(4, Gg.Str s796_)] a ∧ Gg.St W [] X w [] [Gg.Dt.of (Gg.tySlice Cin.ty_Ins) [.slice A1_ l_.length c2_] l_] ∧ j797_ s796_ = some r) (fun K hK5 => ?_) ?_
  · clear hj797_
    refine Gg.c_loop (fun (k1_ : Nat) a w => ∃ (s1061_ : List UInt8) (n1062_ : Int), Gg.Fr 102 [(0, .slice A1_ l_.length c2_), (4, Gg.Str s1061_), (5, .int .i64 n1062_)] a ∧ Gg.St W [] X w [] [Gg.Dt.of (Gg.tySlice Cin.ty_Ins) [.slice A1_ l_.length c2_] l_] ∧ Cin.R_CodeOf_L1 l_ j797_ k1_ s1061_ n1062_ = some r) F ⟨[], 0, hf.sub ⟨rfl, rfl, rfl, trivial⟩, (hm).pick ⟨⟨0, rfl⟩, trivial⟩, h⟩ ?_ ?_
    · rintro a w ⟨s1061_, n1062_, hf, hm, h⟩
      exact absurd h (by simp [Cin.R_CodeOf_L1])
    · rintro k1_ a w ⟨s1061_, n1062_, hf, hm, h⟩ K hK6
      rw [Cin.R_CodeOf_L1] at h
      refine wp_seq_k ?_
      intro K hK7
      refine wp_seq_k ?_
      intro K hK8
      refine Gg.c_region ?_
      refine Gg.sv (Gg.wN rfl) (Gg.y_move rfl (hf.g rfl)) hf rfl rfl ?_
      intro a hf
      refine Gg.sv (Gg.wN rfl) (Gg.y_move rfl (hf.g rfl)) hf rfl rfl ?_
      intro a hf
      refine Gg.sv (Gg.wN rfl) (Gg.y_len Tryd.underlying22 rfl (hf.g rfl)) hf rfl rfl ?_
      intro a hf
      refine Gg.sv (Gg.wN rfl) (Gg.y_lss rfl (hf.g rfl) (hf.g rfl)) hf rfl rfl ?_
      intro a hf
      refine wpList_nil ?_
      refine hK8 _ _ ?_
      refine Gg.c_cond (hf.g rfl) (fun hb1328_ => ?_) (fun hb1328_ => ?_)
      · have h := Cin.cond_t hb1328_ h
        refine wp_skip ?_
        refine hK7 _ _ ?_
        refine wp_seq_k ?_
        intro K hK9
        obtain ⟨j1460_, hj1460_, h⟩ := Cin.join_s h
        refine Gg.c_blockJ (fun a w => ∃ (s1459_ : List UInt8), Gg.Fr 102 [(0, .slice A1_ l_.length c2_), (4, Gg.Str s1459_), (5, .int .i64 n1062_)] a ∧ Gg.St W [] X w [] [Gg.Dt.of (Gg.tySlice Cin.ty_Ins) [.slice A1_ l_.length c2_] l_] ∧ j1460_ s1459_ = some r) (fun K hK10 => ?_) ?_
        · clear hj1460_
          refine wp_seq_k ?_
          intro K hK11
          refine Gg.c_region ?_
          refine Gg.sv (Gg.wN rfl) (Gg.y_move rfl (hf.g rfl)) hf rfl rfl ?_
          intro a hf
          refine Gg.sv (Gg.wN rfl) (Gg.y_move rfl (hf.g rfl)) hf rfl rfl ?_
          intro a hf
          obtain ⟨x1461_, hx1462_, h⟩ := Cin.bind_s h
          obtain ⟨hA1463_, hi1464_, _, rfl, hc1465_⟩ := Gg.slice_at _ (hm.d 0 rfl) hx1462_
          refine Gg.sv (Gg.wN rfl) (Gg.y_idx Tryd.underlying22 Tryd.sizeOf40 rfl (hf.g rfl) (hf.g rfl) hA1463_ hi1464_) hf rfl rfl ?_
          intro a hf
          refine Gg.sv (Gg.wN rfl) (Gg.y_loadN (cs := [.int .i64 x1461_.At, .int .i64 x1461_.Op, .int .i64 x1461_.A, .int .i64 x1461_.B]) Tryd.isAgg40 Tryd.sizeOf40 rfl rfl (hf.g rfl) (hc1465_)) hf rfl rfl ?_
          intro a hf
          refine Gg.snew (cs := [.int .i64 0, .int .i64 0, .int .i64 0, .int .i64 0]) (Gg.wN rfl) (Gg.y_alloc Tryd.zeroValue40 rfl rfl) hf hm rfl rfl ?_
          intro a g1466_ w hf hm
          refine Gg.sst (vs := [.int .i64 x1461_.At, .int .i64 x1461_.Op, .int .i64 x1461_.A, .int .i64 x1461_.B]) 0 hm rfl (Gg.wN rfl) rfl Tryd.sizeOf40 rfl rfl rfl rfl (hf.g rfl) (hf.g rfl) rfl ?_
          intro w hm
          simp only [List.set, Gg.lay, List.drop, List.length, List.cons_append, List.nil_append] at hm
          refine wpList_nil ?_
          refine hK11 _ _ ?_
          refine wp_seq_k ?_
          intro K hK12
          refine Gg.c_region ?_
          refine Gg.sv (Gg.wN rfl) (Gg.y_fld Tryd.underlying40 rfl Tryd.sizeOf3 rfl rfl (hf.g rfl)) hf rfl rfl ?_
          intro a hf
          refine Gg.sv (Gg.wN rfl) (Gg.y_load1 Tryd.isAgg3 rfl (hf.g rfl) (Gg.blk_cell (hm.e 0 rfl) (j := 1) rfl)) hf rfl rfl ?_
          intro a hf
          obtain ⟨r1467_, hr1468_, h⟩ := Cin.bind_s h
          refine Gg.sc (vs := [.int .i64 x1461_.Op]) (Gg.wN rfl) rfl Tryd.call19 ⟨(hf.g rfl), trivial⟩ (c_R_Behind hm.ltM hr1468_ ) hf rfl rfl ?_
          rintro _ w ⟨rfl, hv⟩
          refine ⟨_, rfl, ?_⟩
          intro a hf
          have hm := hm.keep hv
          clear hv
          refine Gg.sv (Gg.wN rfl) (Gg.y_assign rfl (hf.g rfl)) hf rfl rfl ?_
          intro a hf
          refine wpList_nil ?_
          have hf := hf.sub (l' := [(0, .slice A1_ l_.length c2_), (4, Gg.Str s1061_), (5, .int .i64 n1062_), (6, .pointer (some ⟨g1466_, 0, none⟩)), (7, .int .i64 r1467_)]) ⟨rfl, rfl, rfl, rfl, rfl, trivial⟩
          refine hK12 _ _ ?_
          refine wp_seq_k ?_
          intro K hK13
          refine wp_seq_k ?_
          intro K hK14
          refine Gg.c_region ?_
          refine Gg.sv (Gg.wN rfl) (Gg.y_move rfl (hf.g rfl)) hf rfl rfl ?_
          intro a hf
          refine Gg.sv (Gg.wN rfl) (Gg.y_lss rfl (hf.g rfl) (Gg.ec _ _)) hf rfl rfl ?_
          intro a hf
          refine wpList_nil ?_
          refine hK14 _ _ ?_
          refine Gg.c_cond (hf.g rfl) (fun hb1469_ => ?_) (fun hb1469_ => ?_)
          · have h := Cin.cond_t hb1469_ h
            refine wp_seq_k ?_
            intro K hK15
            refine Gg.c_region ?_
            refine Gg.sv (Gg.wN rfl) (Gg.y_assign rfl (Gg.ec _ _)) hf rfl rfl ?_
            intro a hf
            refine Gg.sv (Gg.wN rfl) (Gg.y_assign rfl (Gg.ec _ _)) hf rfl rfl ?_
            intro a hf
            refine wpList_nil ?_
            refine hK15 _ _ ?_
            refine wp_ret ?_
            cases h
            refine Gg.x_retT ?_
            refine Gg.x_retB ?_
            refine Gg.x_retT ?_
            refine Gg.x_retT ?_
            refine Gg.x_retT ?_
            refine Gg.x_retB ?_
            refine Gg.x_retT ?_
            refine Gg.x_retT ?_
            refine Gg.r_two Tryd.results14 hf rfl rfl ?_
            exact ⟨rfl, hm.ev⟩
          · have h := Cin.cond_f hb1469_ h
            refine wp_skip ?_
            refine hK13 _ _ ?_
            refine wp_seq_k ?_
            intro K hK16
            refine Gg.c_region ?_
            refine Gg.sv (Gg.wN rfl) (Gg.y_assign rfl (Gg.ec _ _)) hf rfl rfl ?_
            intro a hf
            refine Gg.sv (Gg.wN rfl) (Gg.y_assign rfl (Gg.ec _ _)) hf rfl rfl ?_
            intro a hf
            refine Gg.sv (Gg.wN rfl) (Gg.y_assign rfl (Gg.ec _ _)) hf rfl rfl ?_
            intro a hf
            refine wpList_nil ?_
            refine hK16 _ _ ?_
            obtain ⟨j1480_, hj1480_, h⟩ := Cin.join_s h
            refine Gg.c_meet (fun a w => ∃ (n1479_ : Int), Gg.Fr 102 [(0, .slice A1_ l_.length c2_), (4, Gg.Str s1061_), (5, .int .i64 n1062_), (6, .pointer (some ⟨g1466_, 0, none⟩)), (7, .int .i64 r1467_), (8, .int .i64 0), (9, .int .i64 n1479_), (10, .int .i64 0)] a ∧ Gg.St W [] X w [Gg.Ent.blk g1466_ 40 [.int .i64 x1461_.At, .int .i64 x1461_.Op, .int .i64 x1461_.A, .int .i64 x1461_.B]] [Gg.Dt.of (Gg.tySlice Cin.ty_Ins) [.slice A1_ l_.length c2_] l_] ∧ j1480_ n1479_ = some r) (fun K hK17 => ?_) ?_
            · clear hj1480_
              obtain ⟨j1485_, hj1485_, h⟩ := Cin.join_s h
              refine Gg.c_meet (fun a w => ∃ (b1484_ : Bool), Gg.Fr 102 [(0, .slice A1_ l_.length c2_), (4, Gg.Str s1061_), (5, .int .i64 n1062_), (6, .pointer (some ⟨g1466_, 0, none⟩)), (7, .int .i64 r1467_), (8, .int .i64 0), (9, .int .i64 0), (10, .int .i64 0), (33, .bool b1484_)] a ∧ Gg.St W [] X w [Gg.Ent.blk g1466_ 40 [.int .i64 x1461_.At, .int .i64 x1461_.Op, .int .i64 x1461_.A, .int .i64 x1461_.B]] [Gg.Dt.of (Gg.tySlice Cin.ty_Ins) [.slice A1_ l_.length c2_] l_] ∧ j1485_ b1484_ = some r) (fun K hK18 => ?_) ?_
              · clear hj1485_
                refine Gg.c_region ?_
                refine Gg.sv (Gg.wN rfl) (Gg.y_move rfl (hf.g rfl)) hf rfl rfl ?_
                intro a hf
                refine Gg.sv (Gg.wN rfl) (Gg.y_eqI Tryd.underlying3 rfl (hf.g rfl) (Gg.ec _ _)) hf rfl rfl ?_
                intro a hf
                refine Gg.sv (Gg.wN rfl) (Gg.y_move rfl (hf.g rfl)) hf rfl rfl ?_
                intro a hf
                rcases Bool.eq_false_or_eq_true (decide (r1467_ = 1)) with hb1486_ | hb1486_
                · have h := Cin.cond_t hb1486_ h
                  refine Gg.ss (Gg.wantF' hf rfl rfl rfl hb1486_ rfl rfl) hf rfl rfl ?_
                  intro a hf
                  refine Gg.ss (Gg.wantF' hf rfl rfl rfl hb1486_ rfl rfl) hf rfl rfl ?_
                  intro a hf
                  refine Gg.ss (Gg.wantF' hf rfl rfl rfl hb1486_ rfl rfl) hf rfl rfl ?_
                  intro a hf
                  refine Gg.sv (Gg.wN rfl) (Gg.y_pickT' rfl (hf.g rfl) hb1486_ (Gg.ec _ _)) hf rfl rfl ?_
                  intro a hf
                  refine wpList_nil ?_
                  have hf := hf.sub (l' := [(0, .slice A1_ l_.length c2_), (4, Gg.Str s1061_), (5, .int .i64 n1062_), (6, .pointer (some ⟨g1466_, 0, none⟩)), (7, .int .i64 r1467_), (8, .int .i64 0), (9, .int .i64 0), (10, .int .i64 0), (33, .bool true)]) ⟨rfl, rfl, rfl, rfl, rfl, rfl, rfl, rfl, rfl, trivial⟩
                  exact hK18 _ _ ⟨true, hf.sub ⟨rfl, rfl, rfl, rfl, rfl, rfl, rfl, rfl, rfl, trivial⟩, (hm).pick ⟨⟨0, rfl⟩, trivial⟩, h⟩
                · have h := Cin.cond_f hb1486_ h
                  refine Gg.sv (Gg.wantT' hf rfl rfl rfl hb1486_ rfl) (Gg.y_fld Tryd.underlying40 rfl Tryd.sizeOf3 rfl rfl (hf.g rfl)) hf rfl rfl ?_
                  intro a hf
                  refine Gg.sv (Gg.wantT' hf rfl rfl rfl hb1486_ rfl) (Gg.y_load1 Tryd.isAgg3 rfl (hf.g rfl) (Gg.blk_cell (hm.e 0 rfl) (j := 1) rfl)) hf rfl rfl ?_
                  intro a hf
                  obtain ⟨r1487_, hr1488_, h⟩ := Cin.bind_s h
                  refine Gg.sc (vs := [.int .i64 x1461_.Op]) (Gg.wantT' hf rfl rfl rfl hb1486_ rfl) rfl Tryd.call20 ⟨(hf.g rfl), trivial⟩ (c_R_ByItself hm.ltM hr1488_ ) hf rfl rfl ?_
                  rintro _ w ⟨rfl, hv⟩
                  refine ⟨_, rfl, ?_⟩
                  intro a hf
                  have hm := hm.keep hv
                  clear hv
                  refine Gg.sv (Gg.wN rfl) (Gg.y_pickF' rfl (hf.g rfl) hb1486_ (hf.g rfl)) hf rfl rfl ?_
                  intro a hf
                  refine wpList_nil ?_
                  have hf := hf.sub (l' := [(0, .slice A1_ l_.length c2_), (4, Gg.Str s1061_), (5, .int .i64 n1062_), (6, .pointer (some ⟨g1466_, 0, none⟩)), (7, .int .i64 r1467_), (8, .int .i64 0), (9, .int .i64 0), (10, .int .i64 0), (33, .bool r1487_)]) ⟨rfl, rfl, rfl, rfl, rfl, rfl, rfl, rfl, rfl, trivial⟩
                  exact hK18 _ _ ⟨r1487_, hf.sub ⟨rfl, rfl, rfl, rfl, rfl, rfl, rfl, rfl, rfl, trivial⟩, (hm).pick ⟨⟨0, rfl⟩, trivial⟩, h⟩
              · rintro a w ⟨b1484_, hf, hm, h⟩
                subst hj1485_
                try dsimp only at h
                refine Gg.c_cond (hf.g rfl) (fun hb1489_ => ?_) (fun hb1489_ => ?_)
                · have h := Cin.cond_t hb1489_ h
                  refine Gg.c_region ?_
                  refine Gg.sv (Gg.wN rfl) (Gg.y_assign rfl (Gg.ec _ _)) hf rfl rfl ?_
                  intro a hf
                  refine wpList_nil ?_
                  exact hK17 _ _ ⟨255, hf.sub ⟨rfl, rfl, rfl, rfl, rfl, rfl, rfl, rfl, trivial⟩, (hm).pick ⟨⟨0, rfl⟩, trivial⟩, h⟩
                · have h := Cin.cond_f hb1489_ h
                  refine wp_skip ?_
                  exact hK17 _ _ ⟨0, hf.sub ⟨rfl, rfl, rfl, rfl, rfl, rfl, rfl, rfl, trivial⟩, (hm).pick ⟨⟨0, rfl⟩, trivial⟩, h⟩
            · rintro a w ⟨n1479_, hf, hm, h⟩
              subst hj1480_
              try dsimp only at h
              obtain ⟨j1494_, hj1494_, h⟩ := Cin.join_s h
              refine Gg.c_meet (fun a w => ∃ (n1493_ : Int), Gg.Fr 102 [(0, .slice A1_ l_.length c2_), (4, Gg.Str s1061_), (5, .int .i64 n1062_), (6, .pointer (some ⟨g1466_, 0, none⟩)), (7, .int .i64 r1467_), (8, .int .i64 0), (9, .int .i64 n1479_), (10, .int .i64 n1493_)] a ∧ Gg.St W [] X w [Gg.Ent.blk g1466_ 40 [.int .i64 x1461_.At, .int .i64 x1461_.Op, .int .i64 x1461_.A, .int .i64 x1461_.B]] [Gg.Dt.of (Gg.tySlice Cin.ty_Ins) [.slice A1_ l_.length c2_] l_] ∧ j1494_ n1493_ = some r) (fun K hK19 => ?_) ?_
              · clear hj1494_
                refine wp_seq_k ?_
                intro K hK20
                refine Gg.c_region ?_
                refine Gg.sv (Gg.wN rfl) (Gg.y_fld Tryd.underlying40 rfl Tryd.sizeOf3 rfl rfl (hf.g rfl)) hf rfl rfl ?_
                intro a hf
                refine Gg.sv (Gg.wN rfl) (Gg.y_load1 Tryd.isAgg3 rfl (hf.g rfl) (Gg.blk_cell (hm.e 0 rfl) (j := 1) rfl)) hf rfl rfl ?_
                intro a hf
                obtain ⟨r1495_, hr1496_, h⟩ := Cin.bind_s h
                refine Gg.sc (vs := [.int .i64 x1461_.Op]) (Gg.wN rfl) rfl Tryd.call20 ⟨(hf.g rfl), trivial⟩ (c_R_ByItself hm.ltM hr1496_ ) hf rfl rfl ?_
                rintro _ w ⟨rfl, hv⟩
                refine ⟨_, rfl, ?_⟩
                intro a hf
                have hm := hm.keep hv
                clear hv
                refine wpList_nil ?_
                refine hK20 _ _ ?_
                refine Gg.c_cond (hf.g rfl) (fun hb1497_ => ?_) (fun hb1497_ => ?_)
                · have h := Cin.cond_t hb1497_ h
                  refine Gg.c_region ?_
                  refine Gg.sv (Gg.wN rfl) (Gg.y_assign rfl (Gg.ec _ _)) hf rfl rfl ?_
                  intro a hf
                  refine wpList_nil ?_
                  exact hK19 _ _ ⟨255, hf.sub ⟨rfl, rfl, rfl, rfl, rfl, rfl, rfl, rfl, trivial⟩, (hm).pick ⟨⟨0, rfl⟩, trivial⟩, h⟩
                · have h := Cin.cond_f hb1497_ h
                  refine wp_skip ?_
                  exact hK19 _ _ ⟨0, hf.sub ⟨rfl, rfl, rfl, rfl, rfl, rfl, rfl, rfl, trivial⟩, (hm).pick ⟨⟨0, rfl⟩, trivial⟩, h⟩
              · rintro a w ⟨n1493_, hf, hm, h⟩
                subst hj1494_
                try dsimp only at h
                obtain ⟨j1502_, hj1502_, h⟩ := Cin.join_s h
                refine Gg.c_meet (fun a w => ∃ (n1501_ : Int), Gg.Fr 102 [(0, .slice A1_ l_.length c2_), (4, Gg.Str s1061_), (5, .int .i64 n1062_), (6, .pointer (some ⟨g1466_, 0, none⟩)), (7, .int .i64 r1467_), (8, .int .i64 0), (9, .int .i64 n1501_), (10, .int .i64 n1493_)] a ∧ Gg.St W [] X w [Gg.Ent.blk g1466_ 40 [.int .i64 x1461_.At, .int .i64 x1461_.Op, .int .i64 x1461_.A, .int .i64 x1461_.B]] [Gg.Dt.of (Gg.tySlice Cin.ty_Ins) [.slice A1_ l_.length c2_] l_] ∧ j1502_ n1501_ = some r) (fun K hK21 => ?_) ?_
                · clear hj1502_
                  refine wp_seq_k ?_
                  intro K hK22
                  refine Gg.c_region ?_
                  refine Gg.sv (Gg.wN rfl) (Gg.y_fld Tryd.underlying40 rfl Tryd.sizeOf3 rfl rfl (hf.g rfl)) hf rfl rfl ?_
                  intro a hf
                  refine Gg.sv (Gg.wN rfl) (Gg.y_load1 Tryd.isAgg3 rfl (hf.g rfl) (Gg.blk_cell (hm.e 0 rfl) (j := 1) rfl)) hf rfl rfl ?_
                  intro a hf
                  obtain ⟨r1503_, hr1504_, h⟩ := Cin.bind_s h
                  refine Gg.sc (vs := [.int .i64 x1461_.Op]) (Gg.wN rfl) rfl Tryd.call21 ⟨(hf.g rfl), trivial⟩ (c_R_GoesTo hm.ltM hr1504_ ) hf rfl rfl ?_
                  rintro _ w ⟨rfl, hv⟩
                  refine ⟨_, rfl, ?_⟩
                  intro a hf
                  have hm := hm.keep hv
                  clear hv
                  refine wpList_nil ?_
                  refine hK22 _ _ ?_
                  refine Gg.c_cond (hf.g rfl) (fun hb1505_ => ?_) (fun hb1505_ => ?_)
                  · have h := Cin.cond_t hb1505_ h
                    refine Gg.c_region ?_
                    refine Gg.sv (Gg.wN rfl) (Gg.y_assign rfl (Gg.ec _ _)) hf rfl rfl ?_
                    intro a hf
                    refine wpList_nil ?_
                    exact hK21 _ _ ⟨65535, hf.sub ⟨rfl, rfl, rfl, rfl, rfl, rfl, rfl, rfl, trivial⟩, (hm).pick ⟨⟨0, rfl⟩, trivial⟩, h⟩
                  · have h := Cin.cond_f hb1505_ h
                    refine wp_skip ?_
                    exact hK21 _ _ ⟨n1479_, hf.sub ⟨rfl, rfl, rfl, rfl, rfl, rfl, rfl, rfl, trivial⟩, (hm).pick ⟨⟨0, rfl⟩, trivial⟩, h⟩
                · rintro a w ⟨n1501_, hf, hm, h⟩
                  subst hj1502_
                  try dsimp only at h
                  obtain ⟨j1509_, hj1509_, h⟩ := Cin.join_s h
                  refine Gg.c_meet (fun a w => ∃ (n1507_ : Int) (n1508_ : Int), Gg.Fr 102 [(0, .slice A1_ l_.length c2_), (4, Gg.Str s1061_), (5, .int .i64 n1062_), (6, .pointer (some ⟨g1466_, 0, none⟩)), (7, .int .i64 r1467_), (8, .int .i64 n1507_), (9, .int .i64 n1508_), (10, .int .i64 n1493_)] a ∧ Gg.St W [] X w [Gg.Ent.blk g1466_ 40 [.int .i64 x1461_.At, .int .i64 x1461_.Op, .int .i64 x1461_.A, .int .i64 x1461_.B]] [Gg.Dt.of (Gg.tySlice Cin.ty_Ins) [.slice A1_ l_.length c2_] l_] ∧ j1509_ n1507_ n1508_ = some r) (fun K hK23 => ?_) ?_
                  · clear hj1509_
                    refine wp_seq_k ?_
                    intro K hK24
                    refine Gg.c_region ?_
                    refine Gg.sv (Gg.wN rfl) (Gg.y_fld Tryd.underlying40 rfl Tryd.sizeOf3 rfl rfl (hf.g rfl)) hf rfl rfl ?_
                    intro a hf
                    refine Gg.sv (Gg.wN rfl) (Gg.y_load1 Tryd.isAgg3 rfl (hf.g rfl) (Gg.blk_cell (hm.e 0 rfl) (j := 1) rfl)) hf rfl rfl ?_
                    intro a hf
                    refine Gg.sv (Gg.wN rfl) (Gg.y_eqI Tryd.underlying3 rfl (hf.g rfl) (Gg.ec _ _)) hf rfl rfl ?_
                    intro a hf
                    refine wpList_nil ?_
                    refine hK24 _ _ ?_
                    refine Gg.c_cond (hf.g rfl) (fun hb1510_ => ?_) (fun hb1510_ => ?_)
                    · have h := Cin.cond_t hb1510_ h
                      refine Gg.c_region ?_
                      refine Gg.sv (Gg.wN rfl) (Gg.y_assign rfl (Gg.ec _ _)) hf rfl rfl ?_
                      intro a hf
                      refine Gg.sv (Gg.wN rfl) (Gg.y_assign rfl (Gg.ec _ _)) hf rfl rfl ?_
                      intro a hf
                      refine wpList_nil ?_
                      exact hK23 _ _ ⟨(-32768), 32767, hf.sub ⟨rfl, rfl, rfl, rfl, rfl, rfl, rfl, rfl, trivial⟩, (hm).pick ⟨⟨0, rfl⟩, trivial⟩, h⟩
                    · have h := Cin.cond_f hb1510_ h
                      refine wp_skip ?_
                      exact hK23 _ _ ⟨0, n1501_, hf.sub ⟨rfl, rfl, rfl, rfl, rfl, rfl, rfl, rfl, trivial⟩, (hm).pick ⟨⟨0, rfl⟩, trivial⟩, h⟩
                  · rintro a w ⟨n1507_, n1508_, hf, hm, h⟩
                    subst hj1509_
                    try dsimp only at h
                    obtain ⟨j1524_, hj1524_, h⟩ := Cin.join_s h
                    refine Gg.c_meet (fun a w => Gg.Fr 102 [(0, .slice A1_ l_.length c2_), (4, Gg.Str s1061_), (5, .int .i64 n1062_), (6, .pointer (some ⟨g1466_, 0, none⟩)), (7, .int .i64 r1467_)] a ∧ Gg.St W [] X w [Gg.Ent.blk g1466_ 40 [.int .i64 x1461_.At, .int .i64 x1461_.Op, .int .i64 x1461_.A, .int .i64 x1461_.B]] [Gg.Dt.of (Gg.tySlice Cin.ty_Ins) [.slice A1_ l_.length c2_] l_] ∧ j1524_ () = some r) (fun K hK25 => ?_) ?_
                    · clear hj1524_
                      obtain ⟨j1531_, hj1531_, h⟩ := Cin.join_s h
                      refine Gg.c_meet (fun a w => ∃ (b1530_ : Bool), Gg.Fr 102 [(0, .slice A1_ l_.length c2_), (4, Gg.Str s1061_), (5, .int .i64 n1062_), (6, .pointer (some ⟨g1466_, 0, none⟩)), (7, .int .i64 r1467_), (55, .bool b1530_)] a ∧ Gg.St W [] X w [Gg.Ent.blk g1466_ 40 [.int .i64 x1461_.At, .int .i64 x1461_.Op, .int .i64 x1461_.A, .int .i64 x1461_.B]] [Gg.Dt.of (Gg.tySlice Cin.ty_Ins) [.slice A1_ l_.length c2_] l_] ∧ j1531_ b1530_ = some r) (fun K hK26 => ?_) ?_
                      · clear hj1531_
                        refine Gg.c_region ?_
                        refine Gg.sv (Gg.wN rfl) (Gg.y_fld Tryd.underlying40 rfl Tryd.sizeOf3 rfl rfl (hf.g rfl)) hf rfl rfl ?_
                        intro a hf
                        refine Gg.sv (Gg.wN rfl) (Gg.y_load1 Tryd.isAgg3 rfl (hf.g rfl) (Gg.blk_cell (hm.e 0 rfl) (j := 2) rfl)) hf rfl rfl ?_
                        intro a hf
                        refine Gg.sv (Gg.wN rfl) (Gg.y_move rfl (hf.g rfl)) hf rfl rfl ?_
                        intro a hf
                        refine Gg.sv (Gg.wN rfl) (Gg.y_move rfl (hf.g rfl)) hf rfl rfl ?_
                        intro a hf
                        obtain ⟨r1532_, hr1533_, h⟩ := Cin.bind_s h
                        refine Gg.sc (vs := [.int .i64 x1461_.A, .int .i64 n1507_, .int .i64 n1508_]) (Gg.wN rfl) rfl Tryd.call25 ⟨(hf.g rfl), (hf.g rfl), (hf.g rfl), trivial⟩ (c_R_between hm.ltM hr1533_ ) hf rfl rfl ?_
                        rintro _ w ⟨rfl, hv⟩
                        refine ⟨_, rfl, ?_⟩
                        intro a hf
                        have hm := hm.keep hv
                        clear hv
                        refine Gg.sv (Gg.wN rfl) (Gg.y_not rfl (hf.g rfl)) hf rfl rfl ?_
                        intro a hf
                        refine Gg.sv (Gg.wN rfl) (Gg.y_move rfl (hf.g rfl)) hf rfl rfl ?_
                        intro a hf
                        rcases Bool.eq_false_or_eq_true (!r1532_) with hb1534_ | hb1534_
                        · have h := Cin.cond_t hb1534_ h
                          refine Gg.ss (Gg.wantF' hf rfl rfl rfl hb1534_ rfl rfl) hf rfl rfl ?_
                          intro a hf
                          refine Gg.ss (Gg.wantF' hf rfl rfl rfl hb1534_ rfl rfl) hf rfl rfl ?_
                          intro a hf
                          refine Gg.ss (Gg.wantF' hf rfl rfl rfl hb1534_ rfl rfl) hf rfl rfl ?_
                          intro a hf
                          refine Gg.ss (Gg.wantF' hf rfl rfl rfl hb1534_ rfl rfl) hf rfl rfl ?_
                          intro a hf
                          refine Gg.ss (Gg.wantF' hf rfl rfl rfl hb1534_ rfl rfl) hf rfl rfl ?_
                          intro a hf
                          refine Gg.sv (Gg.wN rfl) (Gg.y_pickT' rfl (hf.g rfl) hb1534_ (Gg.ec _ _)) hf rfl rfl ?_
                          intro a hf
                          refine wpList_nil ?_
                          have hf := hf.sub (l' := [(0, .slice A1_ l_.length c2_), (4, Gg.Str s1061_), (5, .int .i64 n1062_), (6, .pointer (some ⟨g1466_, 0, none⟩)), (7, .int .i64 r1467_), (55, .bool true)]) ⟨rfl, rfl, rfl, rfl, rfl, rfl, trivial⟩
                          exact hK26 _ _ ⟨true, hf.sub ⟨rfl, rfl, rfl, rfl, rfl, rfl, trivial⟩, (hm).pick ⟨⟨0, rfl⟩, trivial⟩, h⟩
                        · have h := Cin.cond_f hb1534_ h
                          refine Gg.sv (Gg.wantT' hf rfl rfl rfl hb1534_ rfl) (Gg.y_fld Tryd.underlying40 rfl Tryd.sizeOf3 rfl rfl (hf.g rfl)) hf rfl rfl ?_
                          intro a hf
                          refine Gg.sv (Gg.wantT' hf rfl rfl rfl hb1534_ rfl) (Gg.y_load1 Tryd.isAgg3 rfl (hf.g rfl) (Gg.blk_cell (hm.e 0 rfl) (j := 3) rfl)) hf rfl rfl ?_
                          intro a hf
                          refine Gg.sv (Gg.wantT' hf rfl rfl rfl hb1534_ rfl) (Gg.y_move rfl (hf.g rfl)) hf rfl rfl ?_
                          intro a hf
                          obtain ⟨r1535_, hr1536_, h⟩ := Cin.bind_s h
                          refine Gg.sc (vs := [.int .i64 x1461_.B, .int .i64 0, .int .i64 n1493_]) (Gg.wantT' hf rfl rfl rfl hb1534_ rfl) rfl Tryd.call25 ⟨(hf.g rfl), (Gg.ec _ _), (hf.g rfl), trivial⟩ (c_R_between hm.ltM hr1536_ ) hf rfl rfl ?_
                          rintro _ w ⟨rfl, hv⟩
                          refine ⟨_, rfl, ?_⟩
                          intro a hf
                          have hm := hm.keep hv
                          clear hv
                          refine Gg.sv (Gg.wantT' hf rfl rfl rfl hb1534_ rfl) (Gg.y_not rfl (hf.g rfl)) hf rfl rfl ?_
                          intro a hf
                          refine Gg.sv (Gg.wN rfl) (Gg.y_pickF' rfl (hf.g rfl) hb1534_ (hf.g rfl)) hf rfl rfl ?_
                          intro a hf
                          refine wpList_nil ?_
                          have hf := hf.sub (l' := [(0, .slice A1_ l_.length c2_), (4, Gg.Str s1061_), (5, .int .i64 n1062_), (6, .pointer (some ⟨g1466_, 0, none⟩)), (7, .int .i64 r1467_), (55, .bool (!r1535_))]) ⟨rfl, rfl, rfl, rfl, rfl, rfl, trivial⟩
                          exact hK26 _ _ ⟨!r1535_, hf.sub ⟨rfl, rfl, rfl, rfl, rfl, rfl, trivial⟩, (hm).pick ⟨⟨0, rfl⟩, trivial⟩, h⟩
                      · rintro a w ⟨b1530_, hf, hm, h⟩
                        subst hj1531_
                        try dsimp only at h
                        refine Gg.c_cond (hf.g rfl) (fun hb1537_ => ?_) (fun hb1537_ => ?_)
                        · have h := Cin.cond_t hb1537_ h
                          refine wp_seq_k ?_
                          intro K hK27
                          refine Gg.c_region ?_
                          refine Gg.sv (Gg.wN rfl) (Gg.y_assign rfl (Gg.ec _ _)) hf rfl rfl ?_
                          intro a hf
                          refine Gg.sv (Gg.wN rfl) (Gg.y_assign rfl (Gg.ec _ _)) hf rfl rfl ?_
                          intro a hf
                          refine wpList_nil ?_
                          refine hK27 _ _ ?_
                          refine wp_ret ?_
                          cases h
                          refine Gg.x_retT ?_
                          refine Gg.x_retB ?_
                          refine Gg.x_retT ?_
                          refine Gg.x_retT ?_
                          refine Gg.x_retT ?_
                          refine Gg.x_retB ?_
                          refine Gg.x_retT ?_
                          refine Gg.x_retT ?_
                          refine Gg.r_two Tryd.results14 hf rfl rfl ?_
                          exact ⟨rfl, hm.ev⟩
                        · have h := Cin.cond_f hb1537_ h
                          refine wp_skip ?_
                          exact hK25 _ _ ⟨hf.sub ⟨rfl, rfl, rfl, rfl, rfl, trivial⟩, (hm).pick ⟨⟨0, rfl⟩, trivial⟩, h⟩
                    · rintro a w ⟨hf, hm, h⟩
                      subst hj1524_
                      try dsimp only at h
                      refine wp_seq_k ?_
                      intro K hK28
                      refine wp_seq_k ?_
                      intro K hK29
                      refine Gg.c_region ?_
                      refine Gg.sv (Gg.wN rfl) (Gg.y_fld Tryd.underlying40 rfl Tryd.sizeOf3 rfl rfl (hf.g rfl)) hf rfl rfl ?_
                      intro a hf
                      refine Gg.sv (Gg.wN rfl) (Gg.y_load1 Tryd.isAgg3 rfl (hf.g rfl) (Gg.blk_cell (hm.e 0 rfl) (j := 0) rfl)) hf rfl rfl ?_
                      intro a hf
                      refine Gg.sv (Gg.wN rfl) (Gg.y_move rfl (hf.g rfl)) hf rfl rfl ?_
                      intro a hf
                      refine Gg.sv (Gg.wN rfl) (Gg.y_lenS Tryd.underlying9 rfl (hf.g rfl)) hf rfl rfl ?_
                      intro a hf
                      refine Gg.sv (Gg.wN rfl) (Gg.y_neI Tryd.underlying3 rfl (hf.g rfl) (hf.g rfl)) hf rfl rfl ?_
                      intro a hf
                      refine wpList_nil ?_
                      refine hK29 _ _ ?_
                      refine Gg.c_cond (hf.g rfl) (fun hb1538_ => ?_) (fun hb1538_ => ?_)
                      · have h := Cin.cond_t hb1538_ h
                        refine wp_seq_k ?_
                        intro K hK30
                        refine Gg.c_region ?_
                        refine Gg.sv (Gg.wN rfl) (Gg.y_assign rfl (Gg.ec _ _)) hf rfl rfl ?_
                        intro a hf
                        refine Gg.sv (Gg.wN rfl) (Gg.y_assign rfl (Gg.ec _ _)) hf rfl rfl ?_
                        intro a hf
                        refine wpList_nil ?_
                        refine hK30 _ _ ?_
                        refine wp_ret ?_
                        cases h
                        refine Gg.x_retT ?_
                        refine Gg.x_retB ?_
                        refine Gg.x_retT ?_
                        refine Gg.x_retT ?_
                        refine Gg.x_retT ?_
                        refine Gg.x_retB ?_
                        refine Gg.x_retT ?_
                        refine Gg.x_retT ?_
                        refine Gg.r_two Tryd.results14 hf rfl rfl ?_
                        exact ⟨rfl, hm.ev⟩
                      · have h := Cin.cond_f hb1538_ h
                        refine wp_skip ?_
                        refine hK28 _ _ ?_
                        refine wp_seq_k ?_
                        intro K hK31
                        refine Gg.c_region ?_
                        refine Gg.sv (Gg.wN rfl) (Gg.y_move rfl (hf.g rfl)) hf rfl rfl ?_
                        intro a hf
                        refine Gg.sv (Gg.wN rfl) (Gg.y_fld Tryd.underlying40 rfl Tryd.sizeOf3 rfl rfl (hf.g rfl)) hf rfl rfl ?_
                        intro a hf
                        refine Gg.sv (Gg.wN rfl) (Gg.y_load1 Tryd.isAgg3 rfl (hf.g rfl) (Gg.blk_cell (hm.e 0 rfl) (j := 1) rfl)) hf rfl rfl ?_
                        intro a hf
                        obtain ⟨r1539_, hr1540_, h⟩ := Cin.bind_s h
                        refine Gg.sc (vs := [.int .i64 x1461_.Op]) (Gg.wN rfl) rfl Tryd.call26 ⟨(hf.g rfl), trivial⟩ (c_R_Count hm.ltM hr1540_ ) hf rfl rfl ?_
                        rintro _ w ⟨rfl, hv⟩
                        refine ⟨_, rfl, ?_⟩
                        intro a hf
                        have hm := hm.keep hv
                        clear hv
                        obtain ⟨s1541_, hs1542_, h⟩ := Cin.bind_s h
                        refine Gg.sv (Gg.wN rfl) (Gg.y_addS' hs1542_ rfl (hf.g rfl) (hf.g rfl)) hf rfl rfl ?_
                        intro a hf
                        refine Gg.sv (Gg.wN rfl) (Gg.y_assign rfl (hf.g rfl)) hf rfl rfl ?_
                        intro a hf
                        refine wpList_nil ?_
                        have hf := hf.sub (l' := [(0, .slice A1_ l_.length c2_), (4, Gg.Str s1541_), (5, .int .i64 n1062_), (6, .pointer (some ⟨g1466_, 0, none⟩)), (7, .int .i64 r1467_)]) ⟨rfl, rfl, rfl, rfl, rfl, trivial⟩
                        refine hK31 _ _ ?_
                        refine wp_seq_k ?_
                        intro K hK32
                        refine Gg.c_region ?_
                        refine Gg.sv (Gg.wN rfl) (Gg.y_fld Tryd.underlying40 rfl Tryd.sizeOf3 rfl rfl (hf.g rfl)) hf rfl rfl ?_
                        intro a hf
                        refine Gg.sv (Gg.wN rfl) (Gg.y_load1 Tryd.isAgg3 rfl (hf.g rfl) (Gg.blk_cell (hm.e 0 rfl) (j := 2) rfl)) hf rfl rfl ?_
                        intro a hf
                        refine Gg.sv (Gg.wN rfl) (Gg.y_assign rfl (hf.g rfl)) hf rfl rfl ?_
                        intro a hf
                        refine wpList_nil ?_
                        refine hK32 _ _ ?_
                        obtain ⟨j1545_, hj1545_, h⟩ := Cin.join_s h
                        refine Gg.c_meet (fun a w => ∃ (n1544_ : Int), Gg.Fr 102 [(0, .slice A1_ l_.length c2_), (4, Gg.Str s1541_), (5, .int .i64 n1062_), (6, .pointer (some ⟨g1466_, 0, none⟩)), (7, .int .i64 r1467_), (11, .int .i64 n1544_)] a ∧ Gg.St W [] X w [Gg.Ent.blk g1466_ 40 [.int .i64 x1461_.At, .int .i64 x1461_.Op, .int .i64 x1461_.A, .int .i64 x1461_.B]] [Gg.Dt.of (Gg.tySlice Cin.ty_Ins) [.slice A1_ l_.length c2_] l_] ∧ j1545_ n1544_ = some r) (fun K hK33 => ?_) ?_
                        · clear hj1545_
                          refine wp_seq_k ?_
                          intro K hK34
                          refine Gg.c_region ?_
                          refine Gg.sv (Gg.wN rfl) (Gg.y_move rfl (hf.g rfl)) hf rfl rfl ?_
                          intro a hf
                          refine Gg.sv (Gg.wN rfl) (Gg.y_lss rfl (hf.g rfl) (Gg.ec _ _)) hf rfl rfl ?_
                          intro a hf
                          refine wpList_nil ?_
                          refine hK34 _ _ ?_
                          refine Gg.c_cond (hf.g rfl) (fun hb1546_ => ?_) (fun hb1546_ => ?_)
                          · have h := Cin.cond_t hb1546_ h
                            refine Gg.c_region ?_
                            refine Gg.sv (Gg.wN rfl) (Gg.y_move rfl (hf.g rfl)) hf rfl rfl ?_
                            intro a hf
                            refine Gg.sv (Gg.wN rfl) (Gg.y_add64 rfl (hf.g rfl) (Gg.ec _ _)) hf rfl rfl ?_
                            intro a hf
                            refine Gg.sv (Gg.wN rfl) (Gg.y_assign rfl (hf.g rfl)) hf rfl rfl ?_
                            intro a hf
                            refine wpList_nil ?_
                            exact hK33 _ _ ⟨Cin.w64 (x1461_.A + 65536), hf.sub ⟨rfl, rfl, rfl, rfl, rfl, rfl, trivial⟩, (hm).pick ⟨⟨0, rfl⟩, trivial⟩, h⟩
                          · have h := Cin.cond_f hb1546_ h
                            refine wp_skip ?_
                            exact hK33 _ _ ⟨x1461_.A, hf.sub ⟨rfl, rfl, rfl, rfl, rfl, rfl, trivial⟩, (hm).pick ⟨⟨0, rfl⟩, trivial⟩, h⟩
                        · rintro a w ⟨n1544_, hf, hm, h⟩
                          subst hj1545_
                          try dsimp only at h
                          obtain ⟨j1569_, hj1569_, h⟩ := Cin.join_s h
                          refine Gg.c_blockJ (fun a w => ∃ (s1568_ : List UInt8), Gg.Fr 102 [(0, .slice A1_ l_.length c2_), (4, Gg.Str s1568_), (5, .int .i64 n1062_)] a ∧ Gg.St W [] X w [Gg.Ent.blk g1466_ 40 [.int .i64 x1461_.At, .int .i64 x1461_.Op, .int .i64 x1461_.A, .int .i64 x1461_.B]] [Gg.Dt.of (Gg.tySlice Cin.ty_Ins) [.slice A1_ l_.length c2_] l_] ∧ j1569_ s1568_ = some r) (fun K hK35 => ?_) ?_
                          · clear hj1569_
                            refine wp_seq_k ?_
                            intro K hK36
                            refine Gg.c_region ?_
                            refine Gg.sv (Gg.wN rfl) (Gg.y_move rfl (hf.g rfl)) hf rfl rfl ?_
                            intro a hf
                            refine Gg.sv (Gg.wN rfl) (Gg.y_eqI Tryd.underlying3 rfl (hf.g rfl) (Gg.ec _ _)) hf rfl rfl ?_
                            intro a hf
                            refine Gg.sv (Gg.wN rfl) (Gg.y_assign rfl (hf.g rfl)) hf rfl rfl ?_
                            intro a hf
                            refine wpList_nil ?_
                            refine hK36 _ _ ?_
                            refine Gg.c_cond (hf.g rfl) (fun hb1570_ => ?_) (fun hb1570_ => ?_)
                            · have h := Cin.cond_t hb1570_ h
                              refine Gg.c_region ?_
                              refine Gg.sv (Gg.wN rfl) (Gg.y_move rfl (hf.g rfl)) hf rfl rfl ?_
                              intro a hf
                              refine Gg.sv (Gg.wN rfl) (Gg.y_move rfl (hf.g rfl)) hf rfl rfl ?_
                              intro a hf
                              obtain ⟨r1571_, hr1572_, h⟩ := Cin.bind_s h
                              refine Gg.sc (vs := [.int .i64 n1544_]) (Gg.wN rfl) rfl Tryd.call26 ⟨(hf.g rfl), trivial⟩ (c_R_Count hm.ltM hr1572_ ) hf rfl rfl ?_
                              rintro _ w ⟨rfl, hv⟩
                              refine ⟨_, rfl, ?_⟩
                              intro a hf
                              have hm := hm.keep hv
                              clear hv
                              obtain ⟨s1573_, hs1574_, h⟩ := Cin.bind_s h
                              refine Gg.sv (Gg.wN rfl) (Gg.y_addS' hs1574_ rfl (hf.g rfl) (hf.g rfl)) hf rfl rfl ?_
                              intro a hf
                              refine Gg.sv (Gg.wN rfl) (Gg.y_assign rfl (hf.g rfl)) hf rfl rfl ?_
                              intro a hf
                              refine wpList_nil ?_
                              exact hK35 _ _ ⟨s1573_, hf.sub ⟨rfl, rfl, rfl, trivial⟩, (hm).pick ⟨⟨0, rfl⟩, trivial⟩, h⟩
                            · have h := Cin.cond_f hb1570_ h
                              refine wp_seq_k ?_
                              intro K hK37
                              refine Gg.c_region ?_
                              refine Gg.sv (Gg.wN rfl) (Gg.y_fld Tryd.underlying40 rfl Tryd.sizeOf3 rfl rfl (hf.g rfl)) hf rfl rfl ?_
                              intro a hf
                              refine Gg.sv (Gg.wN rfl) (Gg.y_load1 Tryd.isAgg3 rfl (hf.g rfl) (Gg.blk_cell (hm.e 0 rfl) (j := 1) rfl)) hf rfl rfl ?_
                              intro a hf
                              obtain ⟨r1575_, hr1576_, h⟩ := Cin.bind_s h
                              refine Gg.sc (vs := [.int .i64 x1461_.Op]) (Gg.wN rfl) rfl Tryd.call20 ⟨(hf.g rfl), trivial⟩ (c_R_ByItself hm.ltM hr1576_ ) hf rfl rfl ?_
                              rintro _ w ⟨rfl, hv⟩
                              refine ⟨_, rfl, ?_⟩
                              intro a hf
                              have hm := hm.keep hv
                              clear hv
                              refine Gg.sv (Gg.wN rfl) (Gg.y_assign rfl (hf.g rfl)) hf rfl rfl ?_
                              intro a hf
                              refine wpList_nil ?_
                              refine hK37 _ _ ?_
                              refine Gg.c_cond (hf.g rfl) (fun hb1577_ => ?_) (fun hb1577_ => ?_)
                              · have h := Cin.cond_t hb1577_ h
                                refine Gg.c_quiet (by kernel_rfl) (by kernel_rfl) ?_
                                refine Gg.qv (Gg.wN rfl) (fun w hv => Gg.y_move rfl (hf.g rfl)) hf rfl rfl ?_
                                intro a hf
                                refine Gg.qv (Gg.wN rfl) (fun w hv => Gg.y_move rfl (hf.g rfl)) hf rfl rfl ?_
                                intro a hf
                                obtain ⟨r1578_, hr1579_, h⟩ := Cin.bind_s h
                                refine Gg.qc (vs := [.int .i64 n1544_]) (v := Gg.Str r1578_) (Gg.wN rfl) rfl Tryd.call26 ⟨(hf.g rfl), trivial⟩ (fun w hv => (c_R_Count (hm.keep hv).ltM hr1579_ ).mono (fun e w2 ⟨he, hv2⟩ => ⟨he, hv.trans hv2 (by simp)⟩)) hf rfl rfl ?_
                                intro a hf
                                refine Gg.qv (Gg.wN rfl) (fun w hv => Gg.y_fld Tryd.underlying40 rfl Tryd.sizeOf3 rfl rfl (hf.g rfl)) hf rfl rfl ?_
                                intro a hf
                                refine Gg.qv (Gg.wN rfl) (fun w hv => Gg.y_load1 Tryd.isAgg3 rfl (hf.g rfl) (Gg.ev_cell hv (Gg.blk_cell (hm.e 0 rfl) (j := 3) rfl))) hf rfl rfl ?_
                                intro a hf
                                obtain ⟨r1580_, hr1581_, h⟩ := Cin.bind_s h
                                refine Gg.qc (vs := [.int .i64 x1461_.B]) (v := Gg.Str r1580_) (Gg.wN rfl) rfl Tryd.call26 ⟨(hf.g rfl), trivial⟩ (fun w hv => (c_R_Count (hm.keep hv).ltM hr1581_ ).mono (fun e w2 ⟨he, hv2⟩ => ⟨he, hv.trans hv2 (by simp)⟩)) hf rfl rfl ?_
                                intro a hf
                                obtain ⟨s1582_, hs1583_, h⟩ := Cin.bind_s h
                                refine Gg.qv (Gg.wN rfl) (fun w hv => Gg.y_addS' hs1583_ rfl (hf.g rfl) (hf.g rfl)) hf rfl rfl ?_
                                intro a hf
                                obtain ⟨s1584_, hs1585_, h⟩ := Cin.bind_s h
                                refine Gg.qv (Gg.wN rfl) (fun w hv => Gg.y_addS' hs1585_ rfl (hf.g rfl) (hf.g rfl)) hf rfl rfl ?_
                                intro a hf
                                refine Gg.qv (Gg.wN rfl) (fun w hv => Gg.y_assign rfl (hf.g rfl)) hf rfl rfl ?_
                                intro a hf
                                refine wpQuiet_nil ?_
                                intro w hv
                                have hm := hm.keep hv
                                clear hv
                                have hf := hf.sub (l' := [(0, .slice A1_ l_.length c2_), (4, Gg.Str s1584_), (5, .int .i64 n1062_)]) ⟨rfl, rfl, rfl, trivial⟩
                                exact hK35 _ _ ⟨s1584_, hf.sub ⟨rfl, rfl, rfl, trivial⟩, (hm).pick ⟨⟨0, rfl⟩, trivial⟩, h⟩
                              · have h := Cin.cond_f hb1577_ h
                                refine wp_seq_k ?_
                                intro K hK38
                                refine Gg.c_region ?_
                                refine Gg.sv (Gg.wN rfl) (Gg.y_move rfl (hf.g rfl)) hf rfl rfl ?_
                                intro a hf
                                refine Gg.sv (Gg.wN rfl) (Gg.y_eqI Tryd.underlying3 rfl (hf.g rfl) (Gg.ec _ _)) hf rfl rfl ?_
                                intro a hf
                                refine Gg.sv (Gg.wN rfl) (Gg.y_assign rfl (hf.g rfl)) hf rfl rfl ?_
                                intro a hf
                                refine wpList_nil ?_
                                have hf := hf.sub (l' := [(0, .slice A1_ l_.length c2_), (4, Gg.Str s1541_), (5, .int .i64 n1062_), (11, .int .i64 n1544_), (91, .bool (decide (r1467_ = 2)))]) ⟨rfl, rfl, rfl, rfl, rfl, trivial⟩
                                refine hK38 _ _ ?_
                                refine Gg.c_cond (hf.g rfl) (fun hb1586_ => ?_) (fun hb1586_ => ?_)
                                · have h := Cin.cond_t hb1586_ h
                                  refine Gg.c_region ?_
                                  refine Gg.sv (Gg.wN rfl) (Gg.y_move rfl (hf.g rfl)) hf rfl rfl ?_
                                  intro a hf
                                  refine Gg.sv (Gg.wN rfl) (Gg.y_move rfl (hf.g rfl)) hf rfl rfl ?_
                                  intro a hf
                                  obtain ⟨r1587_, hr1588_, h⟩ := Cin.bind_s h
                                  refine Gg.sc (vs := [.int .i64 n1544_]) (Gg.wN rfl) rfl Tryd.call27 ⟨(hf.g rfl), trivial⟩ (c_R_Two hm.ltM hr1588_ ) hf rfl rfl ?_
                                  rintro _ w ⟨rfl, hv⟩
                                  refine ⟨_, rfl, ?_⟩
                                  intro a hf
                                  have hm := hm.keep hv
                                  clear hv
                                  obtain ⟨s1589_, hs1590_, h⟩ := Cin.bind_s h
                                  refine Gg.sv (Gg.wN rfl) (Gg.y_addS' hs1590_ rfl (hf.g rfl) (hf.g rfl)) hf rfl rfl ?_
                                  intro a hf
                                  refine Gg.sv (Gg.wN rfl) (Gg.y_assign rfl (hf.g rfl)) hf rfl rfl ?_
                                  intro a hf
                                  refine wpList_nil ?_
                                  exact hK35 _ _ ⟨s1589_, hf.sub ⟨rfl, rfl, rfl, trivial⟩, (hm).pick ⟨⟨0, rfl⟩, trivial⟩, h⟩
                                · have h := Cin.cond_f hb1586_ h
                                  refine wp_skip ?_
                                  exact hK35 _ _ ⟨s1541_, hf.sub ⟨rfl, rfl, rfl, trivial⟩, (hm).pick ⟨⟨0, rfl⟩, trivial⟩, h⟩
                          · rintro a w ⟨s1568_, hf, hm, h⟩
                            subst hj1569_
                            try dsimp only at h
                            exact hK10 _ _ ⟨s1568_, hf.sub ⟨rfl, rfl, rfl, trivial⟩, (hm.dropN 1).pick ⟨⟨0, rfl⟩, trivial⟩, h⟩
        · rintro a w ⟨s1459_, hf, hm, h⟩
          subst hj1460_
          try dsimp only at h
          refine hK9 _ _ ?_
          refine Gg.c_region ?_
          refine Gg.sv (Gg.wN rfl) (Gg.y_move rfl (hf.g rfl)) hf rfl rfl ?_
          intro a hf
          refine Gg.sv (Gg.wN rfl) (Gg.y_add64 rfl (hf.g rfl) (Gg.ec _ _)) hf rfl rfl ?_
          intro a hf
          refine Gg.sv (Gg.wN rfl) (Gg.y_assign rfl (hf.g rfl)) hf rfl rfl ?_
          intro a hf
          refine wpList_nil ?_
          exact hK6 _ _ ⟨s1459_, Cin.w64 (n1062_ + 1), hf.sub ⟨rfl, rfl, rfl, trivial⟩, (hm).pick ⟨⟨0, rfl⟩, trivial⟩, h⟩
      · have h := Cin.cond_f hb1328_ h
        refine wp_exit ?_
        refine Gg.x_then ?_
        refine Gg.x_then ?_
        refine Gg.x_hit ?_
        exact hK5 _ _ ⟨s1061_, hf.sub ⟨rfl, trivial⟩, (hm).pick ⟨⟨0, rfl⟩, trivial⟩, h⟩
  · rintro a w ⟨s796_, hf, hm, h⟩
    subst hj797_
    try dsimp only at h
    refine hK3 _ _ ?_
    refine wp_seq_k ?_
    intro K hK39
    refine wp_seq_k ?_
    intro K hK40
    refine Gg.c_region ?_
    refine Gg.sv (Gg.wN rfl) (Gg.y_move rfl (hf.g rfl)) hf rfl rfl ?_
    intro a hf
    refine Gg.sv (Gg.wN rfl) (Gg.y_lenS Tryd.underlying9 rfl (hf.g rfl)) hf rfl rfl ?_
    intro a hf
    refine Gg.sv (Gg.wN rfl) (Gg.y_gtr rfl (hf.g rfl) (Gg.ec _ _)) hf rfl rfl ?_
    intro a hf
    refine wpList_nil ?_
    refine hK40 _ _ ?_
    refine Gg.c_cond (hf.g rfl) (fun hb1591_ => ?_) (fun hb1591_ => ?_)
    · have h := Cin.cond_t hb1591_ h
      refine wp_seq_k ?_
      intro K hK41
      refine Gg.c_region ?_
      refine Gg.sv (Gg.wN rfl) (Gg.y_assign rfl (Gg.ec _ _)) hf rfl rfl ?_
      intro a hf
      refine Gg.sv (Gg.wN rfl) (Gg.y_assign rfl (Gg.ec _ _)) hf rfl rfl ?_
      intro a hf
      refine wpList_nil ?_
      refine hK41 _ _ ?_
      refine wp_ret ?_
      cases h
      refine Gg.x_retT ?_
      refine Gg.r_two Tryd.results14 hf rfl rfl ?_
      exact ⟨rfl, hm.ev⟩
    · have h := Cin.cond_f hb1591_ h
      refine wp_skip ?_
      refine hK39 _ _ ?_
      refine wp_seq_k ?_
      intro K hK42
      refine Gg.c_region ?_
      refine Gg.sv (Gg.wN rfl) (Gg.y_move rfl (hf.g rfl)) hf rfl rfl ?_
      intro a hf
      refine Gg.sv (Gg.wN rfl) (Gg.y_assign rfl (hf.g rfl)) hf rfl rfl ?_
      intro a hf
      refine Gg.sv (Gg.wN rfl) (Gg.y_assign rfl (Gg.ec _ _)) hf rfl rfl ?_
      intro a hf
      refine wpList_nil ?_
      refine hK42 _ _ ?_
      refine wp_ret ?_
      cases h
      refine Gg.r_two Tryd.results14 hf rfl rfl ?_
      exact ⟨rfl, hm.ev⟩

set_option maxHeartbeats 4000000 in
set_option maxRecDepth 20000 in
theorem c_R_SameIns {X : List Nat} {W : World} {F : Nat} {a_ : List Cin.Ins} {b_ : List Cin.Ins} {r : Bool} {A1_ : Option Addr} {c2_ : Nat} {A3_ : Option Addr} {c4_ : Nat} (hX : ∀ k ∈ X, k < W.heap.size) (h : Cin.R_SameIns F a_ b_ = some r) (d1 : (Gg.Dt.of (Gg.tySlice Cin.ty_Ins) [.slice A1_ a_.length c2_] a_).ok X W) (d2 : (Gg.Dt.of (Gg.tySlice Cin.ty_Ins) [.slice A3_ b_.length c4_] b_).ok X W) :
    Calls Tryd.prog 10 [.slice A1_ a_.length c2_, .slice A3_ b_.length c4_].toArray W (fun e w' => e = .returned (.bool r) ∧ Gg.Ev [] W w') := by
  refine Gg.enter Tryd.func10 rfl Tryd.ntmps10 rfl ?_
  intro a hf
  have hm := Gg.St.start0 X W [Gg.Dt.of (Gg.tySlice Cin.ty_Ins) [.slice A1_ a_.length c2_] a_, Gg.Dt.of (Gg.tySlice Cin.ty_Ins) [.slice A3_ b_.length c4_] b_] hX ⟨d1, d2, trivial⟩
  rw [Cin.R_SameIns] at h
  refine wp_seq_k ?_
  intro K hK1
  refine Gg.c_region ?_
  refine Gg.sv (Gg.wN rfl) (Gg.y_assign rfl (Gg.ec _ _)) hf rfl rfl ?_
  intro a hf
  refine wpList_nil ?_
  refine hK1 _ _ ?_
  refine wp_seq_k ?_
  intro K hK2
  refine wp_seq_k ?_
  intro K hK3
  refine Gg.c_region ?_
  refine Gg.sv (Gg.wN rfl) (Gg.y_move rfl (hf.g rfl)) hf rfl rfl ?_
  intro a hf
  refine Gg.sv (Gg.wN rfl) (Gg.y_len Tryd.underlying22 rfl (hf.g rfl)) hf rfl rfl ?_
  intro a hf
  refine Gg.sv (Gg.wN rfl) (Gg.y_move rfl (hf.g rfl)) hf rfl rfl ?_
  intro a hf
  refine Gg.sv (Gg.wN rfl) (Gg.y_len Tryd.underlying22 rfl (hf.g rfl)) hf rfl rfl ?_
  intro a hf
  refine Gg.sv (Gg.wN rfl) (Gg.y_neI Tryd.underlying3 rfl (hf.g rfl) (hf.g rfl)) hf rfl rfl ?_
  intro a hf
  refine wpList_nil ?_
  refine hK3 _ _ ?_
  refine Gg.c_cond (hf.g rfl) (fun hb5_ => ?_) (fun hb5_ => ?_)
  · have h := Cin.cond_t hb5_ h
    refine wp_seq_k ?_
    intro K hK4
    refine Gg.c_region ?_
    refine Gg.sv (Gg.wN rfl) (Gg.y_assign rfl (Gg.ec _ _)) hf rfl rfl ?_
    intro a hf
    refine wpList_nil ?_
    refine hK4 _ _ ?_
    refine wp_ret ?_
    cases h
    refine Gg.x_retT ?_
    refine Gg.r_one Tryd.results10 hf rfl ?_
    exact ⟨rfl, hm.ev⟩
  · have h := Cin.cond_f hb5_ h
    refine wp_skip ?_
    refine hK2 _ _ ?_
    refine wp_seq_k ?_
    intro K hK5
    refine wp_seq_k ?_
    intro K hK6
    refine Gg.c_region ?_
    refine Gg.sv (Gg.wN rfl) (Gg.y_assign rfl (Gg.ec _ _)) hf rfl rfl ?_
    intro a hf
    refine wpList_nil ?_
    refine hK6 _ _ ?_
    obtain ⟨j44_, hj44_, h⟩ := Cin.join_s h
    refine Gg.c_blockJ (fun a w => Gg.Fr 26 [] a ∧ Gg.St W [] X w [] [Gg.Dt.of (Gg.tySlice Cin.ty_Ins) [.slice A1_ a_.length c2_] a_, Gg.Dt.of (Gg.tySlice Cin.ty_Ins) [.slice A3_ b_.length c4_] b_] ∧ j44_ () = some r) (fun K hK7 => ?_) ?_
    · clear hj44_
      refine Gg.c_loop (fun (k1_ : Nat) a w => ∃ (n57_ : Int), Gg.Fr 26 [(0, .slice A1_ a_.length c2_), (1, .slice A3_ b_.length c4_), (5, .int .i64 n57_)] a ∧ Gg.St W [] X w [] [Gg.Dt.of (Gg.tySlice Cin.ty_Ins) [.slice A1_ a_.length c2_] a_, Gg.Dt.of (Gg.tySlice Cin.ty_Ins) [.slice A3_ b_.length c4_] b_] ∧ Cin.R_SameIns_L1 a_ b_ j44_ k1_ n57_ = some r) F ⟨0, hf.sub ⟨rfl, rfl, rfl, trivial⟩, (hm).pick ⟨⟨0, rfl⟩, ⟨1, rfl⟩, trivial⟩, h⟩ ?_ ?_
      · rintro a w ⟨n57_, hf, hm, h⟩
        exact absurd h (by simp [Cin.R_SameIns_L1])
      · rintro k1_ a w ⟨n57_, hf, hm, h⟩ K hK8
        rw [Cin.R_SameIns_L1] at h
        refine wp_seq_k ?_
        intro K hK9
        refine wp_seq_k ?_
        intro K hK10
        refine Gg.c_region ?_
        refine Gg.sv (Gg.wN rfl) (Gg.y_move rfl (hf.g rfl)) hf rfl rfl ?_
        intro a hf
        refine Gg.sv (Gg.wN rfl) (Gg.y_move rfl (hf.g rfl)) hf rfl rfl ?_
        intro a hf
        refine Gg.sv (Gg.wN rfl) (Gg.y_len Tryd.underlying22 rfl (hf.g rfl)) hf rfl rfl ?_
        intro a hf
        refine Gg.sv (Gg.wN rfl) (Gg.y_lss rfl (hf.g rfl) (hf.g rfl)) hf rfl rfl ?_
        intro a hf
        refine wpList_nil ?_
        refine hK10 _ _ ?_
        refine Gg.c_cond (hf.g rfl) (fun hb71_ => ?_) (fun hb71_ => ?_)
        · have h := Cin.cond_t hb71_ h
          refine wp_skip ?_
          refine hK9 _ _ ?_
          refine wp_seq_k ?_
          intro K hK11
          refine wp_block ?_
          refine wp_seq_k ?_
          intro K hK12
          refine Gg.c_quiet (by kernel_rfl) (by kernel_rfl) ?_
          refine Gg.qv (Gg.wN rfl) (fun w hv => Gg.y_move rfl (hf.g rfl)) hf rfl rfl ?_
          intro a hf
          refine Gg.qv (Gg.wN rfl) (fun w hv => Gg.y_move rfl (hf.g rfl)) hf rfl rfl ?_
          intro a hf
          obtain ⟨x72_, hx73_, h⟩ := Cin.bind_s h
          obtain ⟨hA74_, hi75_, _, rfl, hc76_⟩ := Gg.slice_at _ (hm.d 0 rfl) hx73_
          refine Gg.qv (Gg.wN rfl) (fun w hv => Gg.y_idx Tryd.underlying22 Tryd.sizeOf40 rfl (hf.g rfl) (hf.g rfl) hA74_ hi75_) hf rfl rfl ?_
          intro a hf
          refine Gg.qv (Gg.wN rfl) (fun w hv => Gg.y_loadN (cs := [.int .i64 x72_.At, .int .i64 x72_.Op, .int .i64 x72_.A, .int .i64 x72_.B]) Tryd.isAgg40 Tryd.sizeOf40 rfl rfl (hf.g rfl) (Gg.ev_cells hv (hc76_))) hf rfl rfl ?_
          intro a hf
          refine Gg.qv (Gg.wN rfl) (fun w hv => Gg.y_move rfl (hf.g rfl)) hf rfl rfl ?_
          intro a hf
          refine Gg.qv (Gg.wN rfl) (fun w hv => Gg.y_move rfl (hf.g rfl)) hf rfl rfl ?_
          intro a hf
          obtain ⟨x77_, hx78_, h⟩ := Cin.bind_s h
          obtain ⟨hA79_, hi80_, _, rfl, hc81_⟩ := Gg.slice_at _ (hm.d 1 rfl) hx78_
          refine Gg.qv (Gg.wN rfl) (fun w hv => Gg.y_idx Tryd.underlying22 Tryd.sizeOf40 rfl (hf.g rfl) (hf.g rfl) hA79_ hi80_) hf rfl rfl ?_
          intro a hf
          refine Gg.qv (Gg.wN rfl) (fun w hv => Gg.y_loadN (cs := [.int .i64 x77_.At, .int .i64 x77_.Op, .int .i64 x77_.A, .int .i64 x77_.B]) Tryd.isAgg40 Tryd.sizeOf40 rfl rfl (hf.g rfl) (Gg.ev_cells hv (hc81_))) hf rfl rfl ?_
          intro a hf
          refine Gg.qv (Gg.wN rfl) (fun w hv => eq_neq_Ins rfl (hf.g rfl) (hf.g rfl)) hf rfl rfl ?_
          intro a hf
          refine wpQuiet_nil ?_
          intro w hv
          have hm := hm.keep hv
          clear hv
          have hf := hf.sub (l' := [(0, .slice A1_ a_.length c2_), (1, .slice A3_ b_.length c4_), (5, .int .i64 n57_), (25, .bool (!decide (x72_ = x77_)))]) ⟨rfl, rfl, rfl, rfl, trivial⟩
          refine hK12 _ _ ?_
          refine Gg.c_cond (hf.g rfl) (fun hb82_ => ?_) (fun hb82_ => ?_)
          · have h := Cin.cond_t hb82_ h
            refine wp_seq_k ?_
            intro K hK13
            refine Gg.c_region ?_
            refine Gg.sv (Gg.wN rfl) (Gg.y_assign rfl (Gg.ec _ _)) hf rfl rfl ?_
            intro a hf
            refine wpList_nil ?_
            refine hK13 _ _ ?_
            refine wp_ret ?_
            cases h
            refine Gg.x_retB ?_
            refine Gg.x_retT ?_
            refine Gg.x_retT ?_
            refine Gg.x_retB ?_
            refine Gg.x_retT ?_
            refine Gg.x_retT ?_
            refine Gg.r_one Tryd.results10 hf rfl ?_
            exact ⟨rfl, hm.ev⟩
          · have h := Cin.cond_f hb82_ h
            refine wp_skip ?_
            refine hK11 _ _ ?_
            refine Gg.c_region ?_
            refine Gg.sv (Gg.wN rfl) (Gg.y_move rfl (hf.g rfl)) hf rfl rfl ?_
            intro a hf
            refine Gg.sv (Gg.wN rfl) (Gg.y_add64 rfl (hf.g rfl) (Gg.ec _ _)) hf rfl rfl ?_
            intro a hf
            refine Gg.sv (Gg.wN rfl) (Gg.y_assign rfl (hf.g rfl)) hf rfl rfl ?_
            intro a hf
            refine wpList_nil ?_
            exact hK8 _ _ ⟨Cin.w64 (n57_ + 1), hf.sub ⟨rfl, rfl, rfl, trivial⟩, (hm).pick ⟨⟨0, rfl⟩, ⟨1, rfl⟩, trivial⟩, h⟩
        · have h := Cin.cond_f hb71_ h
          refine wp_exit ?_
          refine Gg.x_then ?_
          refine Gg.x_then ?_
          refine Gg.x_hit ?_
          exact hK7 _ _ ⟨hf.sub trivial, (hm).pick ⟨⟨0, rfl⟩, ⟨1, rfl⟩, trivial⟩, h⟩
    · rintro a w ⟨hf, hm, h⟩
      subst hj44_
      try dsimp only at h
      refine hK5 _ _ ?_
      refine wp_seq_k ?_
      intro K hK14
      refine Gg.c_region ?_
      refine Gg.sv (Gg.wN rfl) (Gg.y_assign rfl (Gg.ec _ _)) hf rfl rfl ?_
      intro a hf
      refine wpList_nil ?_
      refine hK14 _ _ ?_
      refine wp_ret ?_
      cases h
      refine Gg.r_one Tryd.results10 hf rfl ?_
      exact ⟨rfl, hm.ev⟩

end Go.Proofs.YtcioldnpdkfeoaaDoor
