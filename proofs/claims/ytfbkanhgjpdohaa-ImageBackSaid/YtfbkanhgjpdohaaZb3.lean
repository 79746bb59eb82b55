/- LAW: THE WALK AND THE PLAIN LAW, JOINED TO THE GIVEN STATEMENT: for every input that the row speaks of, the call returns true and what came in reads as it did. Made by program (liftgen2.py). -/
import Derived.Test.YtfbkanhgjpdohaaZb2
import Derived.KernelRfl
import Derived.Test.YtfbkanhgjpdohaaRows
import Derived.WalkKit
import Derived.ProofKit
import Derived.OpenShut
import Derived.Deep.DeepHandedRow
namespace Go.Proofs.Ytfbkanhgjpdohaa
open Go Go.RowKit Gg
set_option maxHeartbeats 4000000
set_option maxRecDepth 20000
theorem c_image_reader_take {W : World} {X : List Nat} {r_ : Cin.image_reader} {n_ : Int} {r : Cin.Pn ((List UInt8) × Cin.image_reader)} {g1_ : Nat} (hm : St W (foots [Ent.blk g1_ 104 [Str r_.s]]) X W [Ent.blk g1_ 104 [Str r_.s]] []) (h : Cin.image_reader_take r_ n_ = some r) :
    Calls Try.prog 123 [.po g1_, .i n_].toArray W (fun e w' => pnP r (fun r => e = .returned (Str r.1) ∧ St W (foots [Ent.blk g1_ 104 [Str r_.s]]) X w' [Ent.blk g1_ 104 [Str r.2.s]] []) (e = .panicked (pnE 100) ∧ St W (foots [Ent.blk g1_ 104 [Str r_.s]]) X w' [] [])) := by
  generalize hM0 : foots [Ent.blk g1_ 104 [Str r_.s]] = M0 at hm ⊢; clear hM0; refine enter Try.func123 rfl Try.ntmps123 rfl ?_; intro a hf; rw [Cin.image_reader_take] at h; refine sr0 [] [(0, .po g1_), (1, .i n_)] hf fun a hf => ?_; obtain ⟨j3_, h, hj3_⟩ := Cin.seqR_s h; refine c_meet (fun a w => Fr ⟨31, []⟩ [(0, .po g1_), (1, .i n_)] a ∧ St W M0 X w [Ent.blk g1_ 104 [Str r_.s]] [] ∧ j3_ = (.go ())) (fun K hK2 => ?_) ?_
  · refine wp_seq_k fun K hK3 => ?_; refine rg [0, 0] [(0, .po g1_), (1, .i n_), (12, .bool (decide ((r_.s.length : Int) < n_)))] [g1_, 0] (mc (blk_all (hm.e 0 rfl)) mn) hf fun a hf => hK3 _ _ ?_; refine cc (hf.g rfl) h (fun hb4_ h => ?_) (fun hb4_ h => ?_)
    · refine c_region ?_; refine sv (wN rfl) (y_build (vs := []) (cs := []) Try.zeroValue100 Try.underlying100 places100 rfl trivial (by kernel_rfl)) hf rfl rfl fun a hf => ?_; refine sv (wN rfl) (y_iface (by kernel_rfl) rfl (hf.g rfl)) hf rfl rfl fun a hf => ?_; refine pan_op (wN rfl) rfl (hf.g rfl) ?_; obtain rfl := Option.some.inj h; obtain rfl := Option.some.inj (show some (_) = some _ from hj3_); refine x_panT ?_; refine p_base hf ?_; refine pn_badI ?_; exact ⟨rfl, (hm.sel [] rfl rfl).pick trivial⟩
    refine wp_skip ?_; exact hK2 _ _ ⟨hf.sub ⟨rfl, rfl, trivial⟩, hm, (Option.some.inj h).symm⟩
  rintro a w ⟨hf, hm, hj⟩; subst j3_; have h := hj3_; clear hj3_; dsimp only [Cin.contR] at h; refine wp_seq_k fun K hK4 => ?_; refine c_region ?_; refine sp1 5 [0, 0] [(0, .po g1_), (1, .i n_), (18, Str r_.s), (19, .i n_)] [g1_, 0] (mc (blk_all (hm.e 0 rfl)) mn) hf fun a hf => ?_; obtain ⟨s5_, hs6_, h⟩ := Cin.bind_s h; refine sv (wN rfl) (y_cutS Try.underlying9 rfl (hf.g rfl) (.inl ⟨rfl, rfl⟩) (.inr ⟨_, rfl, (hf.g rfl)⟩) hs6_) hf rfl rfl fun a hf => ?_; refine sp0 1 [] [(0, .po g1_), (1, .i n_), (5, Str s5_)] hf fun a hf => wpList_nil (hK4 _ _ ?_); refine wp_seq_k fun K hK5 => ?_; refine c_region ?_
  refine sp1 6 [0, 0] [(5, Str s5_), (21, .po g1_), (25, Str r_.s), (26, .i n_)] [g1_, 0] (mc (blk_all (hm.e 0 rfl)) mn) hf fun a hf => ?_; obtain ⟨s7_, hs8_, h⟩ := Cin.bind_s h; refine sv (wN rfl) (y_cutS Try.underlying9 rfl (hf.g rfl) (.inr ⟨_, rfl, (hf.g rfl)⟩) (.inl ⟨rfl, rfl⟩) hs8_) hf rfl rfl fun a hf => ?_; refine sp0 2 [] [(5, Str s5_), (27, Str s7_), (29, .po g1_)] hf fun a hf => ?_; refine sst (vs := [Str s7_]) 0 hm rfl (wN rfl) rfl Try.sizeOf9 rfl rfl rfl rfl (hf.g rfl) (hf.g rfl) rfl ?_; intro w hm; simp only [List.set, lay, List.drop, List.length, List.cons_append, List.nil_append] at hm; refine wpList_nil ?_; refine hK5 _ _ ?_; refine sr0 [] [(4, Str s5_)] hf fun a hf => ?_; refine wp_ret ?_
  obtain rfl := Option.some.inj h; refine r_one Try.results123 hf rfl ?_; refine pn_okI ?_; exact ⟨rfl, (hm.sel [0] rfl rfl).pick trivial⟩
theorem c_image_reader_count {W : World} {X : List Nat} {r_ : Cin.image_reader} {r : Cin.Pn (Int × Cin.image_reader)} {g1_ : Nat} (hm : St W (foots [Ent.blk g1_ 104 [Str r_.s]]) X W [Ent.blk g1_ 104 [Str r_.s]] []) (h : Cin.image_reader_count r_ = some r) :
    Calls Try.prog 89 [.po g1_].toArray W (fun e w' => pnP r (fun r => e = .returned (.i r.1) ∧ St W (foots [Ent.blk g1_ 104 [Str r_.s]]) X w' [Ent.blk g1_ 104 [Str r.2.s]] []) (e = .panicked (pnE 100) ∧ St W (foots [Ent.blk g1_ 104 [Str r_.s]]) X w' [] [])) := by
  generalize hM0 : foots [Ent.blk g1_ 104 [Str r_.s]] = M0 at hm ⊢; clear hM0; refine enter Try.func89 rfl Try.ntmps89 rfl ?_; intro a hf; rw [Cin.image_reader_count] at h; refine sr0 [] [(0, .po g1_)] hf fun a hf => ?_; refine wp_seq_k fun K hK2 => ?_; refine c_region ?_; refine sp0 1 [] [(3, .po g1_)] hf fun a hf => ?_; obtain ⟨z4_, hr3_, h⟩ := Cin.bind_s h; rcases z4_ with _ | r2_
  · dsimp only [Cin.pnB] at h; have hc := hm; refine scp (vs := [.po g1_, .i 1]) (wN rfl) rfl Try.call123 ⟨(hf.g rfl), (ec _ _), trivial⟩ (c_image_reader_take ((hc.into 1).pick trivial) hr3_) ?_; rintro _ w hn0; obtain ⟨rfl, hn⟩ := pn_bad hn0; clear hn0; refine ⟨_, rfl, ?_⟩; have hm := hc.back 1 hn; dsimp only [List.drop, List.cons_append, List.nil_append, HAppend.hAppend, Append.append, List.append] at hm; clear hn hc; obtain rfl := Option.some.inj h; refine x_panT ?_; refine p_base hf ?_; refine pn_badI ?_; exact ⟨rfl, (hm.sel [] rfl rfl).pick trivial⟩
  dsimp only [Cin.pnB] at h; have hc := hm; refine sc (vs := [.po g1_, .i 1]) (wN rfl) rfl Try.call123 ⟨(hf.g rfl), (ec _ _), trivial⟩ (c_image_reader_take ((hc.into 1).pick trivial) hr3_) hf rfl rfl ?_; rintro _ w hn0; obtain ⟨rfl, hn⟩ := pn_ok hn0; clear hn0; refine ⟨_, rfl, ?_⟩; intro a hf; have hm := hc.back 1 hn; dsimp only [List.drop, List.cons_append, List.nil_append, HAppend.hAppend, Append.append, List.append] at hm; clear hn hc; obtain ⟨b5_, hx6_, h⟩ := Cin.bind_s h; refine sv (wN rfl) (y_indexS' Try.underlying9 rfl (hf.g rfl) (ec _ _) hx6_) hf rfl rfl fun a hf => ?_; refine sv (wN rfl) (y_cI64 Try.underlying5 Try.underlying3 rfl (hf.g rfl)) hf rfl rfl fun a hf => ?_; refine sp0 1 [] [(2, .i (b5_.toNat : Int))] hf fun a hf => wpList_nil (hK2 _ _ ?_); refine wp_ret ?_
  obtain rfl := Option.some.inj h; refine r_one Try.results89 hf rfl ?_; refine pn_okI ?_; exact ⟨rfl, (hm.sel [0] rfl rfl).pick trivial⟩
theorem c_image_reader_number {W : World} {X : List Nat} {r_ : Cin.image_reader} {r : Cin.Pn (Int × Cin.image_reader)} {g1_ : Nat} (hm : St W (foots [Ent.blk g1_ 104 [Str r_.s]]) X W [Ent.blk g1_ 104 [Str r_.s]] []) (h : Cin.image_reader_number r_ = some r) :
    Calls Try.prog 127 [.po g1_].toArray W (fun e w' => pnP r (fun r => e = .returned (.i r.1) ∧ St W (foots [Ent.blk g1_ 104 [Str r_.s]]) X w' [Ent.blk g1_ 104 [Str r.2.s]] []) (e = .panicked (pnE 100) ∧ St W (foots [Ent.blk g1_ 104 [Str r_.s]]) X w' [] [])) := by
  generalize hM0 : foots [Ent.blk g1_ 104 [Str r_.s]] = M0 at hm ⊢; clear hM0; refine enter Try.func127 rfl Try.ntmps127 rfl ?_; intro a hf; rw [Cin.image_reader_number] at h; refine sr0 [] [(0, .po g1_)] hf fun a hf => ?_; refine wp_seq_k fun K hK2 => ?_; refine c_region ?_; refine sp0 1 [] [(4, .po g1_)] hf fun a hf => ?_; obtain ⟨z4_, hr3_, h⟩ := Cin.bind_s h; rcases z4_ with _ | r2_
  · dsimp only [Cin.pnB] at h; have hc := hm; refine scp (vs := [.po g1_, .i 2]) (wN rfl) rfl Try.call123 ⟨(hf.g rfl), (ec _ _), trivial⟩ (c_image_reader_take ((hc.into 1).pick trivial) hr3_) ?_; rintro _ w hn0; obtain ⟨rfl, hn⟩ := pn_bad hn0; clear hn0; refine ⟨_, rfl, ?_⟩; have hm := hc.back 1 hn; dsimp only [List.drop, List.cons_append, List.nil_append, HAppend.hAppend, Append.append, List.append] at hm; clear hn hc; obtain rfl := Option.some.inj h; refine x_panT ?_; refine p_base hf ?_; refine pn_badI ?_; exact ⟨rfl, (hm.sel [] rfl rfl).pick trivial⟩
  dsimp only [Cin.pnB] at h; have hc := hm; refine sc (vs := [.po g1_, .i 2]) (wN rfl) rfl Try.call123 ⟨(hf.g rfl), (ec _ _), trivial⟩ (c_image_reader_take ((hc.into 1).pick trivial) hr3_) hf rfl rfl ?_; rintro _ w hn0; obtain ⟨rfl, hn⟩ := pn_ok hn0; clear hn0; refine ⟨_, rfl, ?_⟩; intro a hf; have hm := hc.back 1 hn; dsimp only [List.drop, List.cons_append, List.nil_append, HAppend.hAppend, Append.append, List.append] at hm; clear hn hc; refine sp0 1 [] [(3, Str r2_.1)] hf fun a hf => wpList_nil (hK2 _ _ ?_); refine wp_seq_k fun K hK3 => ?_; refine c_quiet (by kernel_rfl) (by kernel_rfl) ?_; refine qp1 1 [] [(3, Str r2_.1), (6, Str r2_.1)] [] (fun w1 hv => mn) hf fun a hf => ?_; obtain ⟨b5_, hx6_, h⟩ := Cin.bind_s h
  refine qv (wN rfl) (fun w1 hv => y_indexS' Try.underlying9 rfl (hf.g rfl) (ec _ _) hx6_) hf rfl rfl fun a hf => ?_; refine qv (wN rfl) (fun w1 hv => y_cI64 Try.underlying5 Try.underlying3 rfl (hf.g rfl)) hf rfl rfl fun a hf => ?_; refine qv (wN rfl) (fun w1 hv => y_shl64 (n := 8) rfl rfl (hf.g rfl) (ec _ _)) hf rfl rfl fun a hf => ?_; refine qp1 1 [] [(9, .i (Cin.shlI (b5_.toNat : Int) 8)), (10, Str r2_.1)] [] (fun w1 hv => mn) hf fun a hf => ?_; obtain ⟨b7_, hx8_, h⟩ := Cin.bind_s h; refine qv (wN rfl) (fun w1 hv => y_indexS' Try.underlying9 rfl (hf.g rfl) (ec _ _) hx8_) hf rfl rfl fun a hf => ?_; refine qv (wN rfl) (fun w1 hv => y_cI64 Try.underlying5 Try.underlying3 rfl (hf.g rfl)) hf rfl rfl fun a hf => ?_
  refine qp1 2 [] [(2, .i (Cin.orI (Cin.shlI (b5_.toNat : Int) 8) (b7_.toNat : Int)))] [] (fun w1 hv => mn) hf fun a hf => ?_; refine wpQuiet_nil ?_; intro w hv; have hm := hm.keep hv; clear hv; refine hK3 _ _ ?_; refine wp_ret ?_; obtain rfl := Option.some.inj h; refine r_one Try.results127 hf rfl ?_; refine pn_okI ?_; exact ⟨rfl, (hm.sel [0] rfl rfl).pick trivial⟩
theorem c_image_reader_text {W : World} {X : List Nat} {r_ : Cin.image_reader} {r : Cin.Pn ((List UInt8) × Cin.image_reader)} {g1_ : Nat} (hm : St W (foots [Ent.blk g1_ 104 [Str r_.s]]) X W [Ent.blk g1_ 104 [Str r_.s]] []) (h : Cin.image_reader_text r_ = some r) :
    Calls Try.prog 90 [.po g1_].toArray W (fun e w' => pnP r (fun r => e = .returned (Str r.1) ∧ St W (foots [Ent.blk g1_ 104 [Str r_.s]]) X w' [Ent.blk g1_ 104 [Str r.2.s]] []) (e = .panicked (pnE 100) ∧ St W (foots [Ent.blk g1_ 104 [Str r_.s]]) X w' [] [])) := by
  generalize hM0 : foots [Ent.blk g1_ 104 [Str r_.s]] = M0 at hm ⊢; clear hM0; refine enter Try.func90 rfl Try.ntmps90 rfl ?_; intro a hf; rw [Cin.image_reader_text] at h; refine sr0 [] [(0, .po g1_)] hf fun a hf => ?_; refine wp_seq_k fun K hK2 => ?_; refine c_region ?_; refine sp0 2 [] [(3, .po g1_), (4, .po g1_)] hf fun a hf => ?_; obtain ⟨z4_, hr3_, h⟩ := Cin.bind_s h; rcases z4_ with _ | r2_
  · dsimp only [Cin.pnB] at h; have hc := hm; refine scp (vs := [.po g1_]) (wN rfl) rfl Try.call89 ⟨(hf.g rfl), trivial⟩ (c_image_reader_count ((hc.into 1).pick trivial) hr3_) ?_; rintro _ w hn0; obtain ⟨rfl, hn⟩ := pn_bad hn0; clear hn0; refine ⟨_, rfl, ?_⟩; have hm := hc.back 1 hn; dsimp only [List.drop, List.cons_append, List.nil_append, HAppend.hAppend, Append.append, List.append] at hm; clear hn hc; obtain rfl := Option.some.inj h; refine x_panT ?_; refine p_base hf ?_; refine pn_badI ?_; exact ⟨rfl, (hm.sel [] rfl rfl).pick trivial⟩
  dsimp only [Cin.pnB] at h; have hc := hm; refine sc (vs := [.po g1_]) (wN rfl) rfl Try.call89 ⟨(hf.g rfl), trivial⟩ (c_image_reader_count ((hc.into 1).pick trivial) hr3_) hf rfl rfl ?_; rintro _ w hn0; obtain ⟨rfl, hn⟩ := pn_ok hn0; clear hn0; refine ⟨_, rfl, ?_⟩; intro a hf; have hm := hc.back 1 hn; dsimp only [List.drop, List.cons_append, List.nil_append, HAppend.hAppend, Append.append, List.append] at hm; clear hn hc; obtain ⟨z7_, hr6_, h⟩ := Cin.bind_s h; rcases z7_ with _ | r5_
  · dsimp only [Cin.pnB] at h; have hc := hm; refine scp (vs := [.po g1_, .i r2_.1]) (wN rfl) rfl Try.call123 ⟨(hf.g rfl), (hf.g rfl), trivial⟩ (c_image_reader_take (r_ := (⟨r2_.2.s⟩ : Cin.image_reader)) ((hc.into 1).pick trivial) hr6_) ?_; rintro _ w hn0; obtain ⟨rfl, hn⟩ := pn_bad hn0; clear hn0; refine ⟨_, rfl, ?_⟩; have hm := hc.back 1 hn; dsimp only [List.drop, List.cons_append, List.nil_append, HAppend.hAppend, Append.append, List.append] at hm; clear hn hc; obtain rfl := Option.some.inj h; refine x_panT ?_; refine p_base hf ?_; refine pn_badI ?_; exact ⟨rfl, (hm.sel [] rfl rfl).pick trivial⟩
  dsimp only [Cin.pnB] at h; have hc := hm; refine sc (vs := [.po g1_, .i r2_.1]) (wN rfl) rfl Try.call123 ⟨(hf.g rfl), (hf.g rfl), trivial⟩ (c_image_reader_take (r_ := (⟨r2_.2.s⟩ : Cin.image_reader)) ((hc.into 1).pick trivial) hr6_) hf rfl rfl ?_; rintro _ w hn0; obtain ⟨rfl, hn⟩ := pn_ok hn0; clear hn0; refine ⟨_, rfl, ?_⟩; intro a hf; have hm := hc.back 1 hn; dsimp only [List.drop, List.cons_append, List.nil_append, HAppend.hAppend, Append.append, List.append] at hm; clear hn hc; refine sp0 1 [] [(2, Str r5_.1)] hf fun a hf => wpList_nil (hK2 _ _ ?_); refine wp_ret ?_; obtain rfl := Option.some.inj h; refine r_one Try.results90 hf rfl ?_; refine pn_okI ?_; exact ⟨rfl, (hm.sel [0] rfl rfl).pick trivial⟩
theorem c_image_reader_yes {W : World} {X : List Nat} {r_ : Cin.image_reader} {r : Cin.Pn (Bool × Cin.image_reader)} {g1_ : Nat} (hm : St W (foots [Ent.blk g1_ 104 [Str r_.s]]) X W [Ent.blk g1_ 104 [Str r_.s]] []) (h : Cin.image_reader_yes r_ = some r) :
    Calls Try.prog 125 [.po g1_].toArray W (fun e w' => pnP r (fun r => e = .returned (.bool r.1) ∧ St W (foots [Ent.blk g1_ 104 [Str r_.s]]) X w' [Ent.blk g1_ 104 [Str r.2.s]] []) (e = .panicked (pnE 100) ∧ St W (foots [Ent.blk g1_ 104 [Str r_.s]]) X w' [] [])) := by
  generalize hM0 : foots [Ent.blk g1_ 104 [Str r_.s]] = M0 at hm ⊢; clear hM0; refine enter Try.func125 rfl Try.ntmps125 rfl ?_; intro a hf; rw [Cin.image_reader_yes] at h; refine sr0 [] [(0, .po g1_)] hf fun a hf => ?_; refine wp_seq_k fun K hK2 => ?_; refine c_region ?_; refine sp0 1 [] [(4, .po g1_)] hf fun a hf => ?_; obtain ⟨z4_, hr3_, h⟩ := Cin.bind_s h; rcases z4_ with _ | r2_
  · dsimp only [Cin.pnB] at h; have hc := hm; refine scp (vs := [.po g1_]) (wN rfl) rfl Try.call89 ⟨(hf.g rfl), trivial⟩ (c_image_reader_count ((hc.into 1).pick trivial) hr3_) ?_; rintro _ w hn0; obtain ⟨rfl, hn⟩ := pn_bad hn0; clear hn0; refine ⟨_, rfl, ?_⟩; have hm := hc.back 1 hn; dsimp only [List.drop, List.cons_append, List.nil_append, HAppend.hAppend, Append.append, List.append] at hm; clear hn hc; obtain rfl := Option.some.inj h; refine x_panT ?_; refine p_base hf ?_; refine pn_badI ?_; exact ⟨rfl, (hm.sel [] rfl rfl).pick trivial⟩
  dsimp only [Cin.pnB] at h; have hc := hm; refine sc (vs := [.po g1_]) (wN rfl) rfl Try.call89 ⟨(hf.g rfl), trivial⟩ (c_image_reader_count ((hc.into 1).pick trivial) hr3_) hf rfl rfl ?_; rintro _ w hn0; obtain ⟨rfl, hn⟩ := pn_ok hn0; clear hn0; refine ⟨_, rfl, ?_⟩; intro a hf; have hm := hc.back 1 hn; dsimp only [List.drop, List.cons_append, List.nil_append, HAppend.hAppend, Append.append, List.append] at hm; clear hn hc; refine sp0 1 [] [(3, .i r2_.1)] hf fun a hf => wpList_nil (hK2 _ _ ?_); refine wp_seq_k fun K hK3 => ?_; refine sr0 [] [(3, .i r2_.1), (7, .bool (decide (1 < r2_.1)))] hf fun a hf => ?_; refine cc (hf.g rfl) h (fun hb5_ h => ?_) (fun hb5_ h => ?_)
  · refine c_region ?_; refine sv (wN rfl) (y_build (vs := []) (cs := []) Try.zeroValue100 Try.underlying100 places100 rfl trivial (by kernel_rfl)) hf rfl rfl fun a hf => ?_; refine sv (wN rfl) (y_iface (by kernel_rfl) rfl (hf.g rfl)) hf rfl rfl fun a hf => ?_; refine pan_op (wN rfl) rfl (hf.g rfl) ?_; obtain rfl := Option.some.inj h; refine x_panT ?_; refine p_base hf ?_; refine pn_badI ?_; exact ⟨rfl, (hm.sel [] rfl rfl).pick trivial⟩
  refine wp_skip ?_; refine hK3 _ _ ?_; refine sr0 [] [(2, .bool (decide (r2_.1 = 1)))] hf fun a hf => ?_; refine wp_ret ?_; obtain rfl := Option.some.inj h; refine r_one Try.results125 hf rfl ?_; refine pn_okI ?_; exact ⟨rfl, (hm.sel [0] rfl rfl).pick trivial⟩
theorem c_image_reader_kind {W : World} {X : List Nat} {r_ : Cin.image_reader} {r : Cin.Pn (Cin.Kind × Cin.image_reader)} {g1_ : Nat} (hm : St W (foots [Ent.blk g1_ 104 [Str r_.s]]) X W [Ent.blk g1_ 104 [Str r_.s]] []) (h : Cin.image_reader_kind r_ = some r) :
    Calls Try.prog 124 [.po g1_].toArray W (fun e w' => pnP r (fun r => e = .returned (.agg #[.i r.1.Kind, Str r.1.Class]) ∧ St W (foots [Ent.blk g1_ 104 [Str r_.s]]) X w' [Ent.blk g1_ 104 [Str r.2.s]] []) (e = .panicked (pnE 100) ∧ St W (foots [Ent.blk g1_ 104 [Str r_.s]]) X w' [] [])) := by
  generalize hM0 : foots [Ent.blk g1_ 104 [Str r_.s]] = M0 at hm ⊢; clear hM0; refine enter Try.func124 rfl Try.ntmps124 rfl ?_; intro a hf; rw [Cin.image_reader_kind] at h; refine wp_seq_k fun K hK1 => ?_; refine c_region ?_; refine nnew (cs := [.i 0, Str []]) (wN rfl) (y_alloc Try.zeroValue71 rfl rfl) hf hm rfl rfl ?_; intro a g2_ w hv hf hm; clear hv; refine wpList_nil ?_; refine hK1 _ _ ?_; refine wp_seq_k fun K hK2 => ?_; refine c_region ?_; refine sp0 1 [] [(0, .po g1_), (2, .po g2_), (4, .po g1_)] hf fun a hf => ?_; obtain ⟨z5_, hr4_, h⟩ := Cin.bind_s h; rcases z5_ with _ | r3_
  · dsimp only [Cin.pnB] at h; have hc := hm.sel [1, 0] rfl rfl; refine scp (vs := [.po g1_]) (wN rfl) rfl Try.call89 ⟨(hf.g rfl), trivial⟩ (c_image_reader_count ((hc.into 1).pick trivial) hr4_) ?_; rintro _ w hn0; obtain ⟨rfl, hn⟩ := pn_bad hn0; clear hn0; refine ⟨_, rfl, ?_⟩; have hm := hc.back 1 hn; dsimp only [List.drop, List.cons_append, List.nil_append, HAppend.hAppend, Append.append, List.append] at hm; clear hn hc; obtain rfl := Option.some.inj h; refine x_panT ?_; refine p_base hf ?_; refine pn_badI ?_; exact ⟨rfl, (hm.sel [] rfl rfl).pick trivial⟩
  dsimp only [Cin.pnB] at h; have hc := hm.sel [1, 0] rfl rfl; refine sc (vs := [.po g1_]) (wN rfl) rfl Try.call89 ⟨(hf.g rfl), trivial⟩ (c_image_reader_count ((hc.into 1).pick trivial) hr4_) hf rfl rfl ?_; rintro _ w hn0; obtain ⟨rfl, hn⟩ := pn_ok hn0; clear hn0; refine ⟨_, rfl, ?_⟩; intro a hf; have hm := hc.back 1 hn; dsimp only [List.drop, List.cons_append, List.nil_append, HAppend.hAppend, Append.append, List.append] at hm; clear hn hc; refine sv (wN rfl) (y_build (vs := [(0, .i r3_.1)]) (cs := [.i r3_.1, Str []]) Try.zeroValue71 Try.underlying71 places71 rfl ⟨⟨(hf.g rfl), rfl⟩, trivial⟩ (by kernel_rfl)) hf rfl rfl fun a hf => ?_; refine nnew (cs := [.i 0, Str []]) (wN rfl) (y_alloc Try.zeroValue71 rfl rfl) hf hm rfl rfl ?_; intro a g6_ w hv hf hm; clear hv
  refine sst (vs := [.i r3_.1, Str []]) 0 hm rfl (wN rfl) rfl Try.sizeOf71 rfl rfl rfl rfl (hf.g rfl) (hf.g rfl) rfl ?_; intro w hm; simp only [List.set, lay, List.drop, List.length, List.cons_append, List.nil_append] at hm; refine wpList_nil ?_; have hf := hf.sub (l' := [(0, .po g1_), (2, .po g2_), (3, .po g6_)]) ⟨rfl, rfl, rfl, trivial⟩; refine hK2 _ _ ?_; refine wp_seq_k fun K hK3 => ?_; refine wp_seq_k fun K hK4 => ?_; refine c_region ?_; refine sp1 2 [0, 0] [(0, .po g1_), (2, .po g2_), (3, .po g6_), (8, .i r3_.1)] [g6_, 0] (mc (blk_all (hm.e 0 rfl)) mn) hf fun a hf => ?_; obtain ⟨r7_, hr8_, h⟩ := Cin.bind_s h; have hc := hm
  refine sc (vs := [.i r3_.1]) (wN rfl) rfl Try.call117 ⟨(hf.g rfl), trivial⟩ (c_image_named ((hc.into 0).pick trivial) hr8_) hf rfl rfl ?_; rintro _ w ⟨rfl, hn⟩; refine ⟨_, rfl, ?_⟩; intro a hf; have hv : Ev [] _ w := hn.ev; have hm := hc.back 0 hn; dsimp only [List.drop, List.cons_append, List.nil_append, HAppend.hAppend, Append.append, List.append] at hm; clear hn hc; clear hv; refine wpList_nil ?_; refine hK4 _ _ ?_; refine cc (hf.g rfl) h (fun hb9_ h => ?_) (fun hb9_ h => ?_)
  · refine c_region ?_; refine sp0 1 [] [(2, .po g2_), (3, .po g6_), (10, .po g1_)] hf fun a hf => ?_; obtain ⟨z12_, hr11_, h⟩ := Cin.bind_s h; rcases z12_ with _ | r10_
    · dsimp only [Cin.pnB] at h; have hc := hm.sel [1, 0, 2] rfl rfl; refine scp (vs := [.po g1_]) (wN rfl) rfl Try.call90 ⟨(hf.g rfl), trivial⟩ (c_image_reader_text (r_ := (⟨r3_.2.s⟩ : Cin.image_reader)) ((hc.into 1).pick trivial) hr11_) ?_; rintro _ w hn0; obtain ⟨rfl, hn⟩ := pn_bad hn0; clear hn0; refine ⟨_, rfl, ?_⟩; have hm := hc.back 1 hn; dsimp only [List.drop, List.cons_append, List.nil_append, HAppend.hAppend, Append.append, List.append] at hm; clear hn hc; obtain rfl := Option.some.inj h; refine x_panT ?_; refine p_base hf ?_; refine pn_badI ?_; exact ⟨rfl, (hm.sel [] rfl rfl).pick trivial⟩
    dsimp only [Cin.pnB] at h; have hc := hm.sel [1, 0, 2] rfl rfl; refine sc (vs := [.po g1_]) (wN rfl) rfl Try.call90 ⟨(hf.g rfl), trivial⟩ (c_image_reader_text (r_ := (⟨r3_.2.s⟩ : Cin.image_reader)) ((hc.into 1).pick trivial) hr11_) hf rfl rfl ?_; rintro _ w hn0; obtain ⟨rfl, hn⟩ := pn_ok hn0; clear hn0; refine ⟨_, rfl, ?_⟩; intro a hf; have hm := hc.back 1 hn; dsimp only [List.drop, List.cons_append, List.nil_append, HAppend.hAppend, Append.append, List.append] at hm; clear hn hc; refine sp0 1 [] [(2, .po g2_), (3, .po g6_), (11, Str r10_.1), (12, .pointer (some ⟨g6_, 1, none⟩))] hf fun a hf => ?_; refine sst (vs := [Str r10_.1]) 1 hm rfl (wN rfl) rfl Try.sizeOf9 rfl rfl rfl rfl (hf.g rfl) (hf.g rfl) rfl ?_; intro w hm
    simp only [List.set, lay, List.drop, List.length, List.cons_append, List.nil_append] at hm; refine wpList_nil ?_; refine hK3 _ _ ?_; refine wp_seq_k fun K hK5 => ?_; refine c_region ?_; refine sp1 1 [0, 0] [(2, .po g2_), (13, .agg #[.i r3_.1, Str r10_.1])] [g6_, 0] (mc (blk_all (hm.e 1 rfl)) mn) hf fun a hf => ?_; refine sst (vs := [.i r3_.1, Str r10_.1]) 2 hm rfl (wN rfl) rfl Try.sizeOf71 rfl rfl rfl rfl (hf.g rfl) (hf.g rfl) rfl ?_; intro w hm; simp only [List.set, lay, List.drop, List.length, List.cons_append, List.nil_append] at hm; refine wpList_nil ?_; refine hK5 _ _ ?_; refine wp_ret ?_; obtain rfl := Option.some.inj h
    refine r_any (vs := [.agg #[.i r3_.1, Str r10_.1]]) Try.results124 hf ⟨⟨_, _, hf.g rfl, .inl ⟨[.i r3_.1, Str r10_.1], Try.isAgg71, Try.sizeOf71, blk_cells (hm.e 2 rfl) 0 ⟨rfl, rfl, trivial⟩, rfl⟩⟩, trivial⟩ ?_; refine pn_okI ?_; exact ⟨rfl, (hm.sel [0] rfl rfl).pick trivial⟩
  refine wp_skip ?_; refine hK3 _ _ ?_; refine wp_seq_k fun K hK6 => ?_; refine c_region ?_; refine sp1 1 [0, 0] [(2, .po g2_), (13, .agg #[.i r3_.1, Str []])] [g6_, 0] (mc (blk_all (hm.e 0 rfl)) mn) hf fun a hf => ?_; refine sst (vs := [.i r3_.1, Str []]) 2 hm rfl (wN rfl) rfl Try.sizeOf71 rfl rfl rfl rfl (hf.g rfl) (hf.g rfl) rfl ?_; intro w hm; simp only [List.set, lay, List.drop, List.length, List.cons_append, List.nil_append] at hm; refine wpList_nil ?_; refine hK6 _ _ ?_; refine wp_ret ?_; obtain rfl := Option.some.inj h; refine r_any (vs := [.agg #[.i r3_.1, Str []]]) Try.results124 hf ⟨⟨_, _, hf.g rfl, .inl ⟨[.i r3_.1, Str []], Try.isAgg71, Try.sizeOf71, blk_cells (hm.e 2 rfl) 0 ⟨rfl, rfl, trivial⟩, rfl⟩⟩, trivial⟩ ?_; refine pn_okI ?_
  exact ⟨rfl, (hm.sel [1] rfl rfl).pick trivial⟩
theorem c_image_reader_field {W : World} {X : List Nat} {r_ : Cin.image_reader} {r : Cin.Pn (Cin.Field × Cin.image_reader)} {g1_ : Nat} (hm : St W (foots [Ent.blk g1_ 104 [Str r_.s]]) X W [Ent.blk g1_ 104 [Str r_.s]] []) (h : Cin.image_reader_field r_ = some r) :
    Calls Try.prog 92 [.po g1_].toArray W (fun e w' => pnP r (fun r => e = .returned (.agg #[Str r.1.Name, .i r.1.Kind.Kind, Str r.1.Kind.Class]) ∧ St W (foots [Ent.blk g1_ 104 [Str r_.s]]) X w' [Ent.blk g1_ 104 [Str r.2.s]] []) (e = .panicked (pnE 100) ∧ St W (foots [Ent.blk g1_ 104 [Str r_.s]]) X w' [] [])) := by
  generalize hM0 : foots [Ent.blk g1_ 104 [Str r_.s]] = M0 at hm ⊢; clear hM0; refine enter Try.func92 rfl Try.ntmps92 rfl ?_; intro a hf; rw [Cin.image_reader_field] at h; refine wp_seq_k fun K hK1 => ?_; refine c_region ?_; refine nnew (cs := [Str [], .i 0, Str []]) (wN rfl) (y_alloc Try.zeroValue89 rfl rfl) hf hm rfl rfl ?_; intro a g2_ w hv hf hm; clear hv; refine wpList_nil ?_; refine hK1 _ _ ?_; refine wp_seq_k fun K hK2 => ?_; refine c_region ?_; refine sp0 1 [] [(0, .po g1_), (2, .po g2_), (3, .po g1_)] hf fun a hf => ?_; obtain ⟨z5_, hr4_, h⟩ := Cin.bind_s h; rcases z5_ with _ | r3_
  · dsimp only [Cin.pnB] at h; have hc := hm.sel [1, 0] rfl rfl; refine scp (vs := [.po g1_]) (wN rfl) rfl Try.call90 ⟨(hf.g rfl), trivial⟩ (c_image_reader_text ((hc.into 1).pick trivial) hr4_) ?_; rintro _ w hn0; obtain ⟨rfl, hn⟩ := pn_bad hn0; clear hn0; refine ⟨_, rfl, ?_⟩; have hm := hc.back 1 hn; dsimp only [List.drop, List.cons_append, List.nil_append, HAppend.hAppend, Append.append, List.append] at hm; clear hn hc; obtain rfl := Option.some.inj h; refine x_panT ?_; refine p_base hf ?_; refine pn_badI ?_; exact ⟨rfl, (hm.sel [] rfl rfl).pick trivial⟩
  dsimp only [Cin.pnB] at h; have hc := hm.sel [1, 0] rfl rfl; refine sc (vs := [.po g1_]) (wN rfl) rfl Try.call90 ⟨(hf.g rfl), trivial⟩ (c_image_reader_text ((hc.into 1).pick trivial) hr4_) hf rfl rfl ?_; rintro _ w hn0; obtain ⟨rfl, hn⟩ := pn_ok hn0; clear hn0; refine ⟨_, rfl, ?_⟩; intro a hf; have hm := hc.back 1 hn; dsimp only [List.drop, List.cons_append, List.nil_append, HAppend.hAppend, Append.append, List.append] at hm; clear hn hc; refine sp0 1 [] [(2, .po g2_), (4, Str r3_.1), (5, .po g1_)] hf fun a hf => ?_; obtain ⟨z8_, hr7_, h⟩ := Cin.bind_s h; rcases z8_ with _ | r6_
  · dsimp only [Cin.pnB] at h; have hc := hm; refine scp (vs := [.po g1_]) (wN rfl) rfl Try.call124 ⟨(hf.g rfl), trivial⟩ (c_image_reader_kind (r_ := (⟨r3_.2.s⟩ : Cin.image_reader)) ((hc.into 1).pick trivial) hr7_) ?_; rintro _ w hn0; obtain ⟨rfl, hn⟩ := pn_bad hn0; clear hn0; refine ⟨_, rfl, ?_⟩; have hm := hc.back 1 hn; dsimp only [List.drop, List.cons_append, List.nil_append, HAppend.hAppend, Append.append, List.append] at hm; clear hn hc; obtain rfl := Option.some.inj h; refine x_panT ?_; refine p_base hf ?_; refine pn_badI ?_; exact ⟨rfl, (hm.sel [] rfl rfl).pick trivial⟩
  dsimp only [Cin.pnB] at h; have hc := hm; refine sc (vs := [.po g1_]) (wN rfl) rfl Try.call124 ⟨(hf.g rfl), trivial⟩ (c_image_reader_kind (r_ := (⟨r3_.2.s⟩ : Cin.image_reader)) ((hc.into 1).pick trivial) hr7_) hf rfl rfl ?_; rintro _ w hn0; obtain ⟨rfl, hn⟩ := pn_ok hn0; clear hn0; refine ⟨_, rfl, ?_⟩; intro a hf; have hm := hc.back 1 hn; dsimp only [List.drop, List.cons_append, List.nil_append, HAppend.hAppend, Append.append, List.append] at hm; clear hn hc; refine sv (wN rfl) (y_build (vs := [(0, Str r3_.1), (1, .agg #[.i r6_.1.Kind, Str r6_.1.Class])]) (cs := [Str r3_.1, .i r6_.1.Kind, Str r6_.1.Class]) Try.zeroValue89 Try.underlying89 places89 rfl ⟨⟨(hf.g rfl), rfl⟩, ⟨(hf.g rfl), rfl⟩, trivial⟩ (by kernel_rfl)) hf rfl rfl fun a hf => ?_
  refine sst (vs := [Str r3_.1, .i r6_.1.Kind, Str r6_.1.Class]) 1 hm rfl (wN rfl) rfl Try.sizeOf89 rfl rfl rfl rfl (hf.g rfl) (hf.g rfl) rfl ?_; intro w hm; simp only [List.set, lay, List.drop, List.length, List.cons_append, List.nil_append] at hm; refine wpList_nil ?_; have hf := hf.sub (l' := [(2, .po g2_)]) ⟨rfl, trivial⟩; refine hK2 _ _ ?_; refine wp_ret ?_; obtain rfl := Option.some.inj h; refine r_any (vs := [.agg #[Str r3_.1, .i r6_.1.Kind, Str r6_.1.Class]]) Try.results92 hf ⟨⟨_, _, hf.g rfl, .inl ⟨[Str r3_.1, .i r6_.1.Kind, Str r6_.1.Class], Try.isAgg89, Try.sizeOf89, blk_cells (hm.e 1 rfl) 0 ⟨rfl, rfl, rfl, trivial⟩, rfl⟩⟩, trivial⟩ ?_; refine pn_okI ?_; exact ⟨rfl, (hm.sel [0] rfl rfl).pick trivial⟩
theorem c_image_reader_handler {W : World} {X : List Nat} {r_ : Cin.image_reader} {r : Cin.Pn (Cin.Handler × Cin.image_reader)} {g1_ : Nat} (hm : St W (foots [Ent.blk g1_ 104 [Str r_.s]]) X W [Ent.blk g1_ 104 [Str r_.s]] []) (h : Cin.image_reader_handler r_ = some r) :
    Calls Try.prog 129 [.po g1_].toArray W (fun e w' => pnP r (fun r => e = .returned (.agg #[.i r.1.From, .i r.1.To, .i r.1.At, Str r.1.Class]) ∧ St W (foots [Ent.blk g1_ 104 [Str r_.s]]) X w' [Ent.blk g1_ 104 [Str r.2.s]] []) (e = .panicked (pnE 100) ∧ St W (foots [Ent.blk g1_ 104 [Str r_.s]]) X w' [] [])) := by
  generalize hM0 : foots [Ent.blk g1_ 104 [Str r_.s]] = M0 at hm ⊢; clear hM0; refine enter Try.func129 rfl Try.ntmps129 rfl ?_; intro a hf; rw [Cin.image_reader_handler] at h; refine wp_seq_k fun K hK1 => ?_; refine c_region ?_; refine nnew (cs := [.i 0, .i 0, .i 0, Str []]) (wN rfl) (y_alloc Try.zeroValue96 rfl rfl) hf hm rfl rfl ?_; intro a g2_ w hv hf hm; clear hv; refine wpList_nil ?_; refine hK1 _ _ ?_; refine wp_seq_k fun K hK2 => ?_; refine c_region ?_; refine sp0 1 [] [(0, .po g1_), (2, .po g2_), (3, .po g1_)] hf fun a hf => ?_; obtain ⟨z5_, hr4_, h⟩ := Cin.bind_s h; rcases z5_ with _ | r3_
  · dsimp only [Cin.pnB] at h; have hc := hm.sel [1, 0] rfl rfl; refine scp (vs := [.po g1_]) (wN rfl) rfl Try.call127 ⟨(hf.g rfl), trivial⟩ (c_image_reader_number ((hc.into 1).pick trivial) hr4_) ?_; rintro _ w hn0; obtain ⟨rfl, hn⟩ := pn_bad hn0; clear hn0; refine ⟨_, rfl, ?_⟩; have hm := hc.back 1 hn; dsimp only [List.drop, List.cons_append, List.nil_append, HAppend.hAppend, Append.append, List.append] at hm; clear hn hc; obtain rfl := Option.some.inj h; refine x_panT ?_; refine p_base hf ?_; refine pn_badI ?_; exact ⟨rfl, (hm.sel [] rfl rfl).pick trivial⟩
  dsimp only [Cin.pnB] at h; have hc := hm.sel [1, 0] rfl rfl; refine sc (vs := [.po g1_]) (wN rfl) rfl Try.call127 ⟨(hf.g rfl), trivial⟩ (c_image_reader_number ((hc.into 1).pick trivial) hr4_) hf rfl rfl ?_; rintro _ w hn0; obtain ⟨rfl, hn⟩ := pn_ok hn0; clear hn0; refine ⟨_, rfl, ?_⟩; intro a hf; have hm := hc.back 1 hn; dsimp only [List.drop, List.cons_append, List.nil_append, HAppend.hAppend, Append.append, List.append] at hm; clear hn hc; refine sp0 1 [] [(0, .po g1_), (2, .po g2_), (4, .i r3_.1), (5, .po g1_)] hf fun a hf => ?_; obtain ⟨z8_, hr7_, h⟩ := Cin.bind_s h; rcases z8_ with _ | r6_
  · dsimp only [Cin.pnB] at h; have hc := hm; refine scp (vs := [.po g1_]) (wN rfl) rfl Try.call127 ⟨(hf.g rfl), trivial⟩ (c_image_reader_number (r_ := (⟨r3_.2.s⟩ : Cin.image_reader)) ((hc.into 1).pick trivial) hr7_) ?_; rintro _ w hn0; obtain ⟨rfl, hn⟩ := pn_bad hn0; clear hn0; refine ⟨_, rfl, ?_⟩; have hm := hc.back 1 hn; dsimp only [List.drop, List.cons_append, List.nil_append, HAppend.hAppend, Append.append, List.append] at hm; clear hn hc; obtain rfl := Option.some.inj h; refine x_panT ?_; refine p_base hf ?_; refine pn_badI ?_; exact ⟨rfl, (hm.sel [] rfl rfl).pick trivial⟩
  dsimp only [Cin.pnB] at h; have hc := hm; refine sc (vs := [.po g1_]) (wN rfl) rfl Try.call127 ⟨(hf.g rfl), trivial⟩ (c_image_reader_number (r_ := (⟨r3_.2.s⟩ : Cin.image_reader)) ((hc.into 1).pick trivial) hr7_) hf rfl rfl ?_; rintro _ w hn0; obtain ⟨rfl, hn⟩ := pn_ok hn0; clear hn0; refine ⟨_, rfl, ?_⟩; intro a hf; have hm := hc.back 1 hn; dsimp only [List.drop, List.cons_append, List.nil_append, HAppend.hAppend, Append.append, List.append] at hm; clear hn hc; refine sp0 1 [] [(0, .po g1_), (2, .po g2_), (4, .i r3_.1), (6, .i r6_.1), (7, .po g1_)] hf fun a hf => ?_; obtain ⟨z11_, hr10_, h⟩ := Cin.bind_s h; rcases z11_ with _ | r9_
  · dsimp only [Cin.pnB] at h; have hc := hm; refine scp (vs := [.po g1_]) (wN rfl) rfl Try.call127 ⟨(hf.g rfl), trivial⟩ (c_image_reader_number (r_ := (⟨r6_.2.s⟩ : Cin.image_reader)) ((hc.into 1).pick trivial) hr10_) ?_; rintro _ w hn0; obtain ⟨rfl, hn⟩ := pn_bad hn0; clear hn0; refine ⟨_, rfl, ?_⟩; have hm := hc.back 1 hn; dsimp only [List.drop, List.cons_append, List.nil_append, HAppend.hAppend, Append.append, List.append] at hm; clear hn hc; obtain rfl := Option.some.inj h; refine x_panT ?_; refine p_base hf ?_; refine pn_badI ?_; exact ⟨rfl, (hm.sel [] rfl rfl).pick trivial⟩
  dsimp only [Cin.pnB] at h; have hc := hm; refine sc (vs := [.po g1_]) (wN rfl) rfl Try.call127 ⟨(hf.g rfl), trivial⟩ (c_image_reader_number (r_ := (⟨r6_.2.s⟩ : Cin.image_reader)) ((hc.into 1).pick trivial) hr10_) hf rfl rfl ?_; rintro _ w hn0; obtain ⟨rfl, hn⟩ := pn_ok hn0; clear hn0; refine ⟨_, rfl, ?_⟩; intro a hf; have hm := hc.back 1 hn; dsimp only [List.drop, List.cons_append, List.nil_append, HAppend.hAppend, Append.append, List.append] at hm; clear hn hc; refine sp0 1 [] [(2, .po g2_), (4, .i r3_.1), (6, .i r6_.1), (8, .i r9_.1), (9, .po g1_)] hf fun a hf => ?_; obtain ⟨z14_, hr13_, h⟩ := Cin.bind_s h; rcases z14_ with _ | r12_
  · dsimp only [Cin.pnB] at h; have hc := hm; refine scp (vs := [.po g1_]) (wN rfl) rfl Try.call90 ⟨(hf.g rfl), trivial⟩ (c_image_reader_text (r_ := (⟨r9_.2.s⟩ : Cin.image_reader)) ((hc.into 1).pick trivial) hr13_) ?_; rintro _ w hn0; obtain ⟨rfl, hn⟩ := pn_bad hn0; clear hn0; refine ⟨_, rfl, ?_⟩; have hm := hc.back 1 hn; dsimp only [List.drop, List.cons_append, List.nil_append, HAppend.hAppend, Append.append, List.append] at hm; clear hn hc; obtain rfl := Option.some.inj h; refine x_panT ?_; refine p_base hf ?_; refine pn_badI ?_; exact ⟨rfl, (hm.sel [] rfl rfl).pick trivial⟩
  dsimp only [Cin.pnB] at h; have hc := hm; refine sc (vs := [.po g1_]) (wN rfl) rfl Try.call90 ⟨(hf.g rfl), trivial⟩ (c_image_reader_text (r_ := (⟨r9_.2.s⟩ : Cin.image_reader)) ((hc.into 1).pick trivial) hr13_) hf rfl rfl ?_; rintro _ w hn0; obtain ⟨rfl, hn⟩ := pn_ok hn0; clear hn0; refine ⟨_, rfl, ?_⟩; intro a hf; have hm := hc.back 1 hn; dsimp only [List.drop, List.cons_append, List.nil_append, HAppend.hAppend, Append.append, List.append] at hm; clear hn hc; refine sv (wN rfl) (y_build (vs := [(0, .i r3_.1), (1, .i r6_.1), (2, .i r9_.1), (3, Str r12_.1)]) (cs := [.i r3_.1, .i r6_.1, .i r9_.1, Str r12_.1]) Try.zeroValue96 Try.underlying96 places96 rfl ⟨⟨(hf.g rfl), rfl⟩, ⟨(hf.g rfl), rfl⟩, ⟨(hf.g rfl), rfl⟩, ⟨(hf.g rfl), rfl⟩, trivial⟩ (by kernel_rfl)) hf rfl rfl fun a hf => ?_
  refine sst (vs := [.i r3_.1, .i r6_.1, .i r9_.1, Str r12_.1]) 1 hm rfl (wN rfl) rfl Try.sizeOf96 rfl rfl rfl rfl (hf.g rfl) (hf.g rfl) rfl ?_; intro w hm; simp only [List.set, lay, List.drop, List.length, List.cons_append, List.nil_append] at hm; refine wpList_nil ?_; have hf := hf.sub (l' := [(2, .po g2_)]) ⟨rfl, trivial⟩; refine hK2 _ _ ?_; refine wp_ret ?_; obtain rfl := Option.some.inj h; refine r_any (vs := [.agg #[.i r3_.1, .i r6_.1, .i r9_.1, Str r12_.1]]) Try.results129 hf ⟨⟨_, _, hf.g rfl, .inl ⟨[.i r3_.1, .i r6_.1, .i r9_.1, Str r12_.1], Try.isAgg96, Try.sizeOf96, blk_cells (hm.e 1 rfl) 0 ⟨rfl, rfl, rfl, rfl, trivial⟩, rfl⟩⟩, trivial⟩ ?_; refine pn_okI ?_; exact ⟨rfl, (hm.sel [0] rfl rfl).pick trivial⟩
theorem c_image_read_api_Kind__image_reader_kind {W : World} {X : List Nat} {F : Nat} {r_ : Cin.image_reader} {r : Cin.Pn ((List Cin.Kind) × Cin.image_reader)} {g1_ : Nat} (hm : St W (foots [Ent.blk g1_ 104 [Str r_.s]]) X W [Ent.blk g1_ 104 [Str r_.s]] []) (h : Cin.image_read_api_Kind__image_reader_kind F r_ = some r) :
    Calls Try.prog 126 [.po g1_, .func (.func 124) #[.po g1_] #[]].toArray W (fun e w' => pnP r (fun r => ∃ A150_ : Option Addr, ∃ c151_ : Nat, ∃ xs152_ : List Value, e = .returned (.slice A150_ r.1.length c151_) ∧ St W (foots [Ent.blk g1_ 104 [Str r_.s]]) X w' [Ent.blk g1_ 104 [Str r.2.s], Ent.row 71 2 (.slice A150_ r.1.length c151_) r.1 xs152_] [Dt.rows Cin.ty_Kind xs152_ r.1]) (e = .panicked (pnE 100) ∧ St W (foots [Ent.blk g1_ 104 [Str r_.s]]) X w' [] [])) := by
  generalize hM0 : foots [Ent.blk g1_ 104 [Str r_.s]] = M0 at hm ⊢; clear hM0; refine enter Try.func126 rfl Try.ntmps126 rfl ?_; intro a hf; rw [Cin.image_read_api_Kind__image_reader_kind] at h; refine sr0 [] [(0, .po g1_), (1, .func (.func 124) #[.po g1_] #[])] hf fun a hf => ?_; refine sr0 [] [(0, .po g1_), (1, .func (.func 124) #[.po g1_] #[]), (5, .slice none 0 0)] hf fun a hf => ?_; refine wp_seq_k fun K hK3 => ?_; refine wp_seq_k fun K hK4 => ?_; refine c_region ?_; refine sp0 1 [] [(1, .func (.func 124) #[.po g1_] #[]), (5, .slice none 0 0), (6, .po g1_)] hf fun a hf => ?_
  obtain ⟨z5_, hr4_, h⟩ := Cin.bind_s h; rcases z5_ with _ | r3_
  · dsimp only [Cin.pnB] at h; have hc := hm; refine scp (vs := [.po g1_]) (wN rfl) rfl Try.call89 ⟨(hf.g rfl), trivial⟩ (c_image_reader_count ((hc.into 1).pick trivial) hr4_) ?_; rintro _ w hn0; obtain ⟨rfl, hn⟩ := pn_bad hn0; clear hn0; refine ⟨_, rfl, ?_⟩; have hm := hc.back 1 hn; dsimp only [List.drop, List.cons_append, List.nil_append, HAppend.hAppend, Append.append, List.append] at hm; clear hn hc; obtain rfl := Option.some.inj h; refine x_panT ?_; refine x_panT ?_; refine p_base hf ?_; refine pn_badI ?_; exact ⟨rfl, (hm.sel [] rfl rfl).pick trivial⟩
  dsimp only [Cin.pnB] at h; have hc := hm; refine sc (vs := [.po g1_]) (wN rfl) rfl Try.call89 ⟨(hf.g rfl), trivial⟩ (c_image_reader_count ((hc.into 1).pick trivial) hr4_) hf rfl rfl ?_; rintro _ w hn0; obtain ⟨rfl, hn⟩ := pn_ok hn0; clear hn0; refine ⟨_, rfl, ?_⟩; intro a hf; have hm := hc.back 1 hn; dsimp only [List.drop, List.cons_append, List.nil_append, HAppend.hAppend, Append.append, List.append] at hm; clear hn hc; refine sp0 1 [] [(1, .func (.func 124) #[.po g1_] #[]), (5, .slice none 0 0), (7, .i r3_.1), (8, .i 0)] hf fun a hf => wpList_nil (hK4 _ _ ?_); have hm := hm.nilRow (α := Cin.Kind) 71 2; have hm := hm.more (y := Dt.rows Cin.ty_Kind [] []) rfl; obtain ⟨j107_, h, hj107_⟩ := Cin.seqR_s h
  refine c_blockJ (fun a w => ∃ (A102_ : Option Addr) (c103_ : Nat) (l104_ : List Cin.Kind) (xs105_ : List Value) (s106_ : List UInt8), Fr ⟨17, []⟩ [(5, .slice A102_ l104_.length c103_)] a ∧ St W M0 X w [Ent.row 71 2 (.slice A102_ l104_.length c103_) l104_ xs105_, Ent.blk g1_ 104 [Str s106_]] [Dt.rows Cin.ty_Kind xs105_ l104_] ∧ j107_ = (.go (l104_, s106_))) (fun K hK5 => ?_) ?_
  · refine c_loop (fun (k1_ : Nat) a w => ∃ (A118_ : Option Addr) (c119_ : Nat) (l120_ : List Cin.Kind) (xs121_ : List Value) (s122_ : List UInt8) (n123_ : Int), Fr ⟨17, []⟩ [(1, .func (.func 124) #[.po g1_] #[]), (5, .slice A118_ l120_.length c119_), (7, .i r3_.1), (8, .i n123_)] a ∧ St W M0 X w [Ent.row 71 2 (.slice A118_ l120_.length c119_) l120_ xs121_, Ent.blk g1_ 104 [Str s122_]] [Dt.rows Cin.ty_Kind xs121_ l120_] ∧ Cin.image_read_api_Kind__image_reader_kind_L1 r3_ k1_ l120_ s122_ n123_ = some j107_) F ⟨none, 0, [], [], r3_.2.s, 0, hf.sub ⟨rfl, rfl, rfl, rfl, trivial⟩, hm, h⟩ ?_ ?_
    · rintro a w ⟨A118_, c119_, l120_, xs121_, s122_, n123_, hf, hm, h⟩; exact absurd h (by simp [Cin.image_read_api_Kind__image_reader_kind_L1])
    rintro k1_ a w ⟨A118_, c119_, l120_, xs121_, s122_, n123_, hf, hm, h⟩ K hK6; rw [Cin.image_read_api_Kind__image_reader_kind_L1] at h; refine sr0 [] [(1, .func (.func 124) #[.po g1_] #[]), (5, .slice A118_ l120_.length c119_), (7, .i r3_.1), (8, .i n123_), (9, .bool (decide (n123_ < r3_.1)))] hf fun a hf => ?_; refine wp_seq_k fun K hK8 => ?_; refine cc (hf.g rfl) h (fun hb140_ h => ?_) (fun hb140_ h => ?_)
    · refine wp_skip ?_; refine hK8 _ _ ?_; refine wp_seq_k fun K hK9 => ?_; refine wp_block ?_; refine c_region ?_; refine sp0 2 [] [(1, .func (.func 124) #[.po g1_] #[]), (5, .slice A118_ l120_.length c119_), (7, .i r3_.1), (8, .i n123_), (10, .slice A118_ l120_.length c119_), (11, .func (.func 124) #[.po g1_] #[])] hf fun a hf => ?_; obtain ⟨z143_, hr142_, h⟩ := Cin.bind_s h; rcases z143_ with _ | r141_
      · dsimp only [Cin.pnB] at h; have hc := hm.sel [1, 0] rfl rfl; refine scBp (f := 124) (vs := []) (us := [.po g1_]) (cs := []) (wN rfl) rfl Try.call124 (hf.g rfl) trivial (c_image_reader_kind (r_ := (⟨s122_⟩ : Cin.image_reader)) ((hc.into 1).pick trivial) hr142_) ?_; rintro _ w hn0; obtain ⟨rfl, hn⟩ := pn_bad hn0; clear hn0; refine ⟨_, rfl, ?_⟩; have hm := hc.back 1 hn; dsimp only [List.drop, List.cons_append, List.nil_append, HAppend.hAppend, Append.append, List.append] at hm; clear hn hc; obtain rfl := Option.some.inj h; obtain rfl := Option.some.inj (show some (_) = some _ from hj107_); refine x_panB ?_; refine x_panT ?_; refine x_panT ?_; refine x_panB ?_; refine x_panT ?_; refine x_panT ?_; refine p_base hf ?_; refine pn_badI ?_; exact ⟨rfl, (hm.sel [] rfl rfl).pick trivial⟩
      dsimp only [Cin.pnB] at h; have hc := hm.sel [1, 0] rfl rfl; refine scB (f := 124) (vs := []) (us := [.po g1_]) (cs := []) (wN rfl) rfl Try.call124 (hf.g rfl) trivial (c_image_reader_kind (r_ := (⟨s122_⟩ : Cin.image_reader)) ((hc.into 1).pick trivial) hr142_) hf rfl rfl ?_; rintro _ w hn0; obtain ⟨rfl, hn⟩ := pn_ok hn0; clear hn0; refine ⟨_, rfl, ?_⟩; intro a hf; have hm := hc.back 1 hn; dsimp only [List.drop, List.cons_append, List.nil_append, HAppend.hAppend, Append.append, List.append] at hm; clear hn hc; refine nnewS (cs := [.i r141_.1.Kind, Str r141_.1.Class]) (wN rfl) (y_buildSlice (vs := [(0, .agg #[.i r141_.1.Kind, Str r141_.1.Class])]) Try.underlying69 Try.sizeOf71 Try.zeroValue71 rfl rfl rfl ⟨⟨(hf.g rfl), rfl⟩, trivial⟩ (by kernel_rfl)) hf hm rfl rfl ?_; intro a g144_ w hv hf hm; clear hv
      obtain ⟨l145_, hl146_, h⟩ := Cin.bind_s h; refine sappL (T := Cin.ty_Kind) (ml := [r141_.1]) 2 0 0 hm rfl rfl rfl Try.underlying69 info71 rfl rfl hl146_ rfl rfl ⟨_, _, rfl, rfl, rfl⟩ (wN rfl) rfl (hf.g rfl) (hf.g rfl) hf rfl rfl ?_; intro a A147_ c148_ xs149_ w hf hm; dsimp only [List.set, List.eraseIdx] at hm; refine sp0 1 [] [(1, .func (.func 124) #[.po g1_] #[]), (5, .slice A147_ l145_.length c148_), (7, .i r3_.1), (8, .i n123_)] hf fun a hf => wpList_nil (hK9 _ _ ?_); refine rg0 [] [(1, .func (.func 124) #[.po g1_] #[]), (5, .slice A147_ l145_.length c148_), (7, .i r3_.1), (8, .i (Cin.w64 (n123_ + 1)))] hf fun a hf => ?_
      exact hK6 _ _ ⟨A147_, c148_, l145_, xs149_, r141_.2.s, Cin.w64 (n123_ + 1), hf.sub ⟨rfl, rfl, rfl, rfl, trivial⟩, (hm.sel [1, 0] rfl rfl).pick ⟨⟨0, rfl⟩, trivial⟩, h⟩
    refine wp_exit ?_; refine x_then (x_then (x_hit ?_)); exact hK5 _ _ ⟨A118_, c119_, l120_, xs121_, s122_, hf.sub ⟨rfl, trivial⟩, hm, (Option.some.inj h).symm⟩
  rintro a w ⟨A102_, c103_, l104_, xs105_, s106_, hf, hm, hj⟩; subst j107_; have h := hj107_; clear hj107_; dsimp only [Cin.contR] at h; refine hK3 _ _ ?_; refine sr0 [] [(4, .slice A102_ l104_.length c103_)] hf fun a hf => ?_; refine wp_ret ?_; obtain rfl := Option.some.inj h; refine r_one Try.results126 hf rfl ?_; refine pn_okI ?_; exact ⟨A102_, c103_, xs105_, rfl, (hm.sel [1, 0] rfl rfl).pick ⟨⟨0, rfl⟩, trivial⟩⟩
theorem c_image_read_api_Handler__image_reader_handler {W : World} {X : List Nat} {F : Nat} {r_ : Cin.image_reader} {r : Cin.Pn ((List Cin.Handler) × Cin.image_reader)} {g1_ : Nat} (hm : St W (foots [Ent.blk g1_ 104 [Str r_.s]]) X W [Ent.blk g1_ 104 [Str r_.s]] []) (h : Cin.image_read_api_Handler__image_reader_handler F r_ = some r) :
    Calls Try.prog 128 [.po g1_, .func (.func 129) #[.po g1_] #[]].toArray W (fun e w' => pnP r (fun r => ∃ A150_ : Option Addr, ∃ c151_ : Nat, ∃ xs152_ : List Value, e = .returned (.slice A150_ r.1.length c151_) ∧ St W (foots [Ent.blk g1_ 104 [Str r_.s]]) X w' [Ent.blk g1_ 104 [Str r.2.s], Ent.row 96 4 (.slice A150_ r.1.length c151_) r.1 xs152_] [Dt.rows Cin.ty_Handler xs152_ r.1]) (e = .panicked (pnE 100) ∧ St W (foots [Ent.blk g1_ 104 [Str r_.s]]) X w' [] [])) := by
  generalize hM0 : foots [Ent.blk g1_ 104 [Str r_.s]] = M0 at hm ⊢; clear hM0; refine enter Try.func128 rfl Try.ntmps128 rfl ?_; intro a hf; rw [Cin.image_read_api_Handler__image_reader_handler] at h; refine sr0 [] [(0, .po g1_), (1, .func (.func 129) #[.po g1_] #[])] hf fun a hf => ?_; refine sr0 [] [(0, .po g1_), (1, .func (.func 129) #[.po g1_] #[]), (5, .slice none 0 0)] hf fun a hf => ?_; refine wp_seq_k fun K hK3 => ?_; refine wp_seq_k fun K hK4 => ?_; refine c_region ?_; refine sp0 1 [] [(1, .func (.func 129) #[.po g1_] #[]), (5, .slice none 0 0), (6, .po g1_)] hf fun a hf => ?_
  obtain ⟨z5_, hr4_, h⟩ := Cin.bind_s h; rcases z5_ with _ | r3_
  · dsimp only [Cin.pnB] at h; have hc := hm; refine scp (vs := [.po g1_]) (wN rfl) rfl Try.call89 ⟨(hf.g rfl), trivial⟩ (c_image_reader_count ((hc.into 1).pick trivial) hr4_) ?_; rintro _ w hn0; obtain ⟨rfl, hn⟩ := pn_bad hn0; clear hn0; refine ⟨_, rfl, ?_⟩; have hm := hc.back 1 hn; dsimp only [List.drop, List.cons_append, List.nil_append, HAppend.hAppend, Append.append, List.append] at hm; clear hn hc; obtain rfl := Option.some.inj h; refine x_panT ?_; refine x_panT ?_; refine p_base hf ?_; refine pn_badI ?_; exact ⟨rfl, (hm.sel [] rfl rfl).pick trivial⟩
  dsimp only [Cin.pnB] at h; have hc := hm; refine sc (vs := [.po g1_]) (wN rfl) rfl Try.call89 ⟨(hf.g rfl), trivial⟩ (c_image_reader_count ((hc.into 1).pick trivial) hr4_) hf rfl rfl ?_; rintro _ w hn0; obtain ⟨rfl, hn⟩ := pn_ok hn0; clear hn0; refine ⟨_, rfl, ?_⟩; intro a hf; have hm := hc.back 1 hn; dsimp only [List.drop, List.cons_append, List.nil_append, HAppend.hAppend, Append.append, List.append] at hm; clear hn hc; refine sp0 1 [] [(1, .func (.func 129) #[.po g1_] #[]), (5, .slice none 0 0), (7, .i r3_.1), (8, .i 0)] hf fun a hf => wpList_nil (hK4 _ _ ?_); have hm := hm.nilRow (α := Cin.Handler) 96 4; have hm := hm.more (y := Dt.rows Cin.ty_Handler [] []) rfl; obtain ⟨j107_, h, hj107_⟩ := Cin.seqR_s h
  refine c_blockJ (fun a w => ∃ (A102_ : Option Addr) (c103_ : Nat) (l104_ : List Cin.Handler) (xs105_ : List Value) (s106_ : List UInt8), Fr ⟨17, []⟩ [(5, .slice A102_ l104_.length c103_)] a ∧ St W M0 X w [Ent.row 96 4 (.slice A102_ l104_.length c103_) l104_ xs105_, Ent.blk g1_ 104 [Str s106_]] [Dt.rows Cin.ty_Handler xs105_ l104_] ∧ j107_ = (.go (l104_, s106_))) (fun K hK5 => ?_) ?_
  · refine c_loop (fun (k1_ : Nat) a w => ∃ (A118_ : Option Addr) (c119_ : Nat) (l120_ : List Cin.Handler) (xs121_ : List Value) (s122_ : List UInt8) (n123_ : Int), Fr ⟨17, []⟩ [(1, .func (.func 129) #[.po g1_] #[]), (5, .slice A118_ l120_.length c119_), (7, .i r3_.1), (8, .i n123_)] a ∧ St W M0 X w [Ent.row 96 4 (.slice A118_ l120_.length c119_) l120_ xs121_, Ent.blk g1_ 104 [Str s122_]] [Dt.rows Cin.ty_Handler xs121_ l120_] ∧ Cin.image_read_api_Handler__image_reader_handler_L1 r3_ k1_ l120_ s122_ n123_ = some j107_) F ⟨none, 0, [], [], r3_.2.s, 0, hf.sub ⟨rfl, rfl, rfl, rfl, trivial⟩, hm, h⟩ ?_ ?_
    · rintro a w ⟨A118_, c119_, l120_, xs121_, s122_, n123_, hf, hm, h⟩; exact absurd h (by simp [Cin.image_read_api_Handler__image_reader_handler_L1])
    rintro k1_ a w ⟨A118_, c119_, l120_, xs121_, s122_, n123_, hf, hm, h⟩ K hK6; rw [Cin.image_read_api_Handler__image_reader_handler_L1] at h; refine sr0 [] [(1, .func (.func 129) #[.po g1_] #[]), (5, .slice A118_ l120_.length c119_), (7, .i r3_.1), (8, .i n123_), (9, .bool (decide (n123_ < r3_.1)))] hf fun a hf => ?_; refine wp_seq_k fun K hK8 => ?_; refine cc (hf.g rfl) h (fun hb140_ h => ?_) (fun hb140_ h => ?_)
    · refine wp_skip ?_; refine hK8 _ _ ?_; refine wp_seq_k fun K hK9 => ?_; refine wp_block ?_; refine c_region ?_; refine sp0 2 [] [(1, .func (.func 129) #[.po g1_] #[]), (5, .slice A118_ l120_.length c119_), (7, .i r3_.1), (8, .i n123_), (10, .slice A118_ l120_.length c119_), (11, .func (.func 129) #[.po g1_] #[])] hf fun a hf => ?_; obtain ⟨z143_, hr142_, h⟩ := Cin.bind_s h; rcases z143_ with _ | r141_
      · dsimp only [Cin.pnB] at h; have hc := hm.sel [1, 0] rfl rfl; refine scBp (f := 129) (vs := []) (us := [.po g1_]) (cs := []) (wN rfl) rfl Try.call129 (hf.g rfl) trivial (c_image_reader_handler (r_ := (⟨s122_⟩ : Cin.image_reader)) ((hc.into 1).pick trivial) hr142_) ?_; rintro _ w hn0; obtain ⟨rfl, hn⟩ := pn_bad hn0; clear hn0; refine ⟨_, rfl, ?_⟩; have hm := hc.back 1 hn; dsimp only [List.drop, List.cons_append, List.nil_append, HAppend.hAppend, Append.append, List.append] at hm; clear hn hc; obtain rfl := Option.some.inj h; obtain rfl := Option.some.inj (show some (_) = some _ from hj107_); refine x_panB ?_; refine x_panT ?_; refine x_panT ?_; refine x_panB ?_; refine x_panT ?_; refine x_panT ?_; refine p_base hf ?_; refine pn_badI ?_; exact ⟨rfl, (hm.sel [] rfl rfl).pick trivial⟩
      dsimp only [Cin.pnB] at h; have hc := hm.sel [1, 0] rfl rfl; refine scB (f := 129) (vs := []) (us := [.po g1_]) (cs := []) (wN rfl) rfl Try.call129 (hf.g rfl) trivial (c_image_reader_handler (r_ := (⟨s122_⟩ : Cin.image_reader)) ((hc.into 1).pick trivial) hr142_) hf rfl rfl ?_; rintro _ w hn0; obtain ⟨rfl, hn⟩ := pn_ok hn0; clear hn0; refine ⟨_, rfl, ?_⟩; intro a hf; have hm := hc.back 1 hn; dsimp only [List.drop, List.cons_append, List.nil_append, HAppend.hAppend, Append.append, List.append] at hm; clear hn hc
      refine nnewS (cs := [.i r141_.1.From, .i r141_.1.To, .i r141_.1.At, Str r141_.1.Class]) (wN rfl) (y_buildSlice (vs := [(0, .agg #[.i r141_.1.From, .i r141_.1.To, .i r141_.1.At, Str r141_.1.Class])]) Try.underlying72 Try.sizeOf96 Try.zeroValue96 rfl rfl rfl ⟨⟨(hf.g rfl), rfl⟩, trivial⟩ (by kernel_rfl)) hf hm rfl rfl ?_; intro a g144_ w hv hf hm; clear hv; obtain ⟨l145_, hl146_, h⟩ := Cin.bind_s h; refine sappL (T := Cin.ty_Handler) (ml := [r141_.1]) 2 0 0 hm rfl rfl rfl Try.underlying72 info96 rfl rfl hl146_ rfl rfl ⟨_, _, rfl, rfl, rfl⟩ (wN rfl) rfl (hf.g rfl) (hf.g rfl) hf rfl rfl ?_; intro a A147_ c148_ xs149_ w hf hm; dsimp only [List.set, List.eraseIdx] at hm
      refine sp0 1 [] [(1, .func (.func 129) #[.po g1_] #[]), (5, .slice A147_ l145_.length c148_), (7, .i r3_.1), (8, .i n123_)] hf fun a hf => wpList_nil (hK9 _ _ ?_); refine rg0 [] [(1, .func (.func 129) #[.po g1_] #[]), (5, .slice A147_ l145_.length c148_), (7, .i r3_.1), (8, .i (Cin.w64 (n123_ + 1)))] hf fun a hf => ?_; exact hK6 _ _ ⟨A147_, c148_, l145_, xs149_, r141_.2.s, Cin.w64 (n123_ + 1), hf.sub ⟨rfl, rfl, rfl, rfl, trivial⟩, (hm.sel [1, 0] rfl rfl).pick ⟨⟨0, rfl⟩, trivial⟩, h⟩
    refine wp_exit ?_; refine x_then (x_then (x_hit ?_)); exact hK5 _ _ ⟨A118_, c119_, l120_, xs121_, s122_, hf.sub ⟨rfl, trivial⟩, hm, (Option.some.inj h).symm⟩
  rintro a w ⟨A102_, c103_, l104_, xs105_, s106_, hf, hm, hj⟩; subst j107_; have h := hj107_; clear hj107_; dsimp only [Cin.contR] at h; refine hK3 _ _ ?_; refine sr0 [] [(4, .slice A102_ l104_.length c103_)] hf fun a hf => ?_; refine wp_ret ?_; obtain rfl := Option.some.inj h; refine r_one Try.results128 hf rfl ?_; refine pn_okI ?_; exact ⟨A102_, c103_, xs105_, rfl, (hm.sel [1, 0] rfl rfl).pick ⟨⟨0, rfl⟩, trivial⟩⟩
theorem c_image_reader_method {W : World} {X : List Nat} {F : Nat} {r_ : Cin.image_reader} {r : Cin.Pn (Cin.Method × Cin.image_reader)} {g1_ : Nat} (hm : St W (foots [Ent.blk g1_ 104 [Str r_.s]]) X W [Ent.blk g1_ 104 [Str r_.s]] []) (h : Cin.image_reader_method F r_ = some r) :
    Calls Try.prog 94 [.po g1_].toArray W (fun e w' => pnP r (fun r => ∃ A37_ : Option Addr, ∃ c38_ : Nat, ∃ xs41_ : List Value, ∃ A39_ : Option Addr, ∃ c40_ : Nat, ∃ xs42_ : List Value, e = .returned (.agg #[Str r.1.Name, .bool r.1.Static, .slice A37_ r.1.Args.length c38_, .i r.1.Returns.Kind, Str r.1.Returns.Class, .i r.1.Stack, .i r.1.Locals, Str r.1.Code, .slice A39_ r.1.Handlers.length c40_]) ∧ St W (foots [Ent.blk g1_ 104 [Str r_.s]]) X w' [Ent.blk g1_ 104 [Str r.2.s], Ent.row 71 2 (.slice A37_ r.1.Args.length c38_) r.1.Args xs41_, Ent.row 96 4 (.slice A39_ r.1.Handlers.length c40_) r.1.Handlers xs42_] [Dt.rows Cin.ty_Kind xs41_ r.1.Args, Dt.rows Cin.ty_Handler xs42_ r.1.Handlers]) (e = .panicked (pnE 100) ∧ St W (foots [Ent.blk g1_ 104 [Str r_.s]]) X w' [] [])) := by
  generalize hM0 : foots [Ent.blk g1_ 104 [Str r_.s]] = M0 at hm ⊢; clear hM0; refine enter Try.func94 rfl Try.ntmps94 rfl ?_; intro a hf; rw [Cin.image_reader_method] at h; refine wp_seq_k fun K hK1 => ?_; refine c_region ?_; refine nnew (cs := [Str [], .bool false, .slice none 0 0, .i 0, Str [], .i 0, .i 0, Str [], .slice none 0 0]) (wN rfl) (y_alloc Try.zeroValue74 rfl rfl) hf hm rfl rfl ?_; intro a g2_ w hv hf hm; clear hv; refine wpList_nil ?_; refine hK1 _ _ ?_; refine wp_seq_k fun K hK2 => ?_; refine c_region ?_; refine sp0 1 [] [(0, .po g1_), (2, .po g2_), (4, .po g1_)] hf fun a hf => ?_; obtain ⟨z5_, hr4_, h⟩ := Cin.bind_s h; rcases z5_ with _ | r3_
  · dsimp only [Cin.pnB] at h; have hc := hm.sel [1, 0] rfl rfl; refine scp (vs := [.po g1_]) (wN rfl) rfl Try.call90 ⟨(hf.g rfl), trivial⟩ (c_image_reader_text ((hc.into 1).pick trivial) hr4_) ?_; rintro _ w hn0; obtain ⟨rfl, hn⟩ := pn_bad hn0; clear hn0; refine ⟨_, rfl, ?_⟩; have hm := hc.back 1 hn; dsimp only [List.drop, List.cons_append, List.nil_append, HAppend.hAppend, Append.append, List.append] at hm; clear hn hc; obtain rfl := Option.some.inj h; refine x_panT ?_; refine p_base hf ?_; refine pn_badI ?_; exact ⟨rfl, (hm.sel [] rfl rfl).pick trivial⟩
  dsimp only [Cin.pnB] at h; have hc := hm.sel [1, 0] rfl rfl; refine sc (vs := [.po g1_]) (wN rfl) rfl Try.call90 ⟨(hf.g rfl), trivial⟩ (c_image_reader_text ((hc.into 1).pick trivial) hr4_) hf rfl rfl ?_; rintro _ w hn0; obtain ⟨rfl, hn⟩ := pn_ok hn0; clear hn0; refine ⟨_, rfl, ?_⟩; intro a hf; have hm := hc.back 1 hn; dsimp only [List.drop, List.cons_append, List.nil_append, HAppend.hAppend, Append.append, List.append] at hm; clear hn hc; refine sp0 1 [] [(0, .po g1_), (2, .po g2_), (5, Str r3_.1), (6, .po g1_)] hf fun a hf => ?_; obtain ⟨z8_, hr7_, h⟩ := Cin.bind_s h; rcases z8_ with _ | r6_
  · dsimp only [Cin.pnB] at h; have hc := hm; refine scp (vs := [.po g1_]) (wN rfl) rfl Try.call125 ⟨(hf.g rfl), trivial⟩ (c_image_reader_yes (r_ := (⟨r3_.2.s⟩ : Cin.image_reader)) ((hc.into 1).pick trivial) hr7_) ?_; rintro _ w hn0; obtain ⟨rfl, hn⟩ := pn_bad hn0; clear hn0; refine ⟨_, rfl, ?_⟩; have hm := hc.back 1 hn; dsimp only [List.drop, List.cons_append, List.nil_append, HAppend.hAppend, Append.append, List.append] at hm; clear hn hc; obtain rfl := Option.some.inj h; refine x_panT ?_; refine p_base hf ?_; refine pn_badI ?_; exact ⟨rfl, (hm.sel [] rfl rfl).pick trivial⟩
  dsimp only [Cin.pnB] at h; have hc := hm; refine sc (vs := [.po g1_]) (wN rfl) rfl Try.call125 ⟨(hf.g rfl), trivial⟩ (c_image_reader_yes (r_ := (⟨r3_.2.s⟩ : Cin.image_reader)) ((hc.into 1).pick trivial) hr7_) hf rfl rfl ?_; rintro _ w hn0; obtain ⟨rfl, hn⟩ := pn_ok hn0; clear hn0; refine ⟨_, rfl, ?_⟩; intro a hf; have hm := hc.back 1 hn; dsimp only [List.drop, List.cons_append, List.nil_append, HAppend.hAppend, Append.append, List.append] at hm; clear hn hc; refine sp0 3 [] [(0, .po g1_), (2, .po g2_), (5, Str r3_.1), (7, .bool r6_.1), (8, .po g1_), (10, .func (.func 124) #[.po g1_] #[])] hf fun a hf => ?_; obtain ⟨z14_, hr10_, h⟩ := Cin.bind_s h; rcases z14_ with _ | r9_
  · dsimp only [Cin.pnB] at h; have hc := hm; refine scp (vs := [.po g1_, .func (.func 124) #[.po g1_] #[]]) (wN rfl) rfl Try.call126 ⟨(hf.g rfl), (hf.g rfl), trivial⟩ (c_image_read_api_Kind__image_reader_kind (r_ := (⟨r6_.2.s⟩ : Cin.image_reader)) ((hc.into 1).pick trivial) hr10_) ?_; rintro _ w hn0; obtain ⟨rfl, hn⟩ := pn_bad hn0; clear hn0; refine ⟨_, rfl, ?_⟩; have hm := hc.back 1 hn; dsimp only [List.drop, List.cons_append, List.nil_append, HAppend.hAppend, Append.append, List.append] at hm; clear hn hc; obtain rfl := Option.some.inj h; refine x_panT ?_; refine p_base hf ?_; refine pn_badI ?_; exact ⟨rfl, (hm.sel [] rfl rfl).pick trivial⟩
  dsimp only [Cin.pnB] at h; have hc := hm; refine sc (vs := [.po g1_, .func (.func 124) #[.po g1_] #[]]) (wN rfl) rfl Try.call126 ⟨(hf.g rfl), (hf.g rfl), trivial⟩ (c_image_read_api_Kind__image_reader_kind (r_ := (⟨r6_.2.s⟩ : Cin.image_reader)) ((hc.into 1).pick trivial) hr10_) hf rfl rfl ?_; rintro _ w hn0; obtain ⟨A11_, c12_, xs13_, rfl, hn⟩ := pn_ok hn0; clear hn0; refine ⟨_, rfl, ?_⟩; intro a hf; have hm := hc.back 1 hn; dsimp only [List.drop, List.cons_append, List.nil_append, HAppend.hAppend, Append.append, List.append] at hm; clear hn hc; refine sp0 1 [] [(0, .po g1_), (2, .po g2_), (5, Str r3_.1), (7, .bool r6_.1), (11, .slice A11_ r9_.1.length c12_), (12, .po g1_)] hf fun a hf => ?_; obtain ⟨z17_, hr16_, h⟩ := Cin.bind_s h
  rcases z17_ with _ | r15_
  · dsimp only [Cin.pnB] at h; have hc := hm; refine scp (vs := [.po g1_]) (wN rfl) rfl Try.call124 ⟨(hf.g rfl), trivial⟩ (c_image_reader_kind (r_ := (⟨r9_.2.s⟩ : Cin.image_reader)) ((hc.into 1).pick trivial) hr16_) ?_; rintro _ w hn0; obtain ⟨rfl, hn⟩ := pn_bad hn0; clear hn0; refine ⟨_, rfl, ?_⟩; have hm := hc.back 1 hn; dsimp only [List.drop, List.cons_append, List.nil_append, HAppend.hAppend, Append.append, List.append] at hm; clear hn hc; obtain rfl := Option.some.inj h; refine x_panT ?_; refine p_base hf ?_; refine pn_badI ?_; exact ⟨rfl, (hm.sel [] rfl rfl).pick trivial⟩
  dsimp only [Cin.pnB] at h; have hc := hm; refine sc (vs := [.po g1_]) (wN rfl) rfl Try.call124 ⟨(hf.g rfl), trivial⟩ (c_image_reader_kind (r_ := (⟨r9_.2.s⟩ : Cin.image_reader)) ((hc.into 1).pick trivial) hr16_) hf rfl rfl ?_; rintro _ w hn0; obtain ⟨rfl, hn⟩ := pn_ok hn0; clear hn0; refine ⟨_, rfl, ?_⟩; intro a hf; have hm := hc.back 1 hn; dsimp only [List.drop, List.cons_append, List.nil_append, HAppend.hAppend, Append.append, List.append] at hm; clear hn hc; refine sp0 1 [] [(0, .po g1_), (2, .po g2_), (5, Str r3_.1), (7, .bool r6_.1), (11, .slice A11_ r9_.1.length c12_), (13, .agg #[.i r15_.1.Kind, Str r15_.1.Class]), (14, .po g1_)] hf fun a hf => ?_; obtain ⟨z20_, hr19_, h⟩ := Cin.bind_s h; rcases z20_ with _ | r18_
  · dsimp only [Cin.pnB] at h; have hc := hm; refine scp (vs := [.po g1_]) (wN rfl) rfl Try.call89 ⟨(hf.g rfl), trivial⟩ (c_image_reader_count (r_ := (⟨r15_.2.s⟩ : Cin.image_reader)) ((hc.into 1).pick trivial) hr19_) ?_; rintro _ w hn0; obtain ⟨rfl, hn⟩ := pn_bad hn0; clear hn0; refine ⟨_, rfl, ?_⟩; have hm := hc.back 1 hn; dsimp only [List.drop, List.cons_append, List.nil_append, HAppend.hAppend, Append.append, List.append] at hm; clear hn hc; obtain rfl := Option.some.inj h; refine x_panT ?_; refine p_base hf ?_; refine pn_badI ?_; exact ⟨rfl, (hm.sel [] rfl rfl).pick trivial⟩
  dsimp only [Cin.pnB] at h; have hc := hm; refine sc (vs := [.po g1_]) (wN rfl) rfl Try.call89 ⟨(hf.g rfl), trivial⟩ (c_image_reader_count (r_ := (⟨r15_.2.s⟩ : Cin.image_reader)) ((hc.into 1).pick trivial) hr19_) hf rfl rfl ?_; rintro _ w hn0; obtain ⟨rfl, hn⟩ := pn_ok hn0; clear hn0; refine ⟨_, rfl, ?_⟩; intro a hf; have hm := hc.back 1 hn; dsimp only [List.drop, List.cons_append, List.nil_append, HAppend.hAppend, Append.append, List.append] at hm; clear hn hc; refine sp0 1 [] [(0, .po g1_), (2, .po g2_), (5, Str r3_.1), (7, .bool r6_.1), (11, .slice A11_ r9_.1.length c12_), (13, .agg #[.i r15_.1.Kind, Str r15_.1.Class]), (15, .i r18_.1), (16, .po g1_)] hf fun a hf => ?_; obtain ⟨z23_, hr22_, h⟩ := Cin.bind_s h; rcases z23_ with _ | r21_
  · dsimp only [Cin.pnB] at h; have hc := hm; refine scp (vs := [.po g1_]) (wN rfl) rfl Try.call89 ⟨(hf.g rfl), trivial⟩ (c_image_reader_count (r_ := (⟨r18_.2.s⟩ : Cin.image_reader)) ((hc.into 1).pick trivial) hr22_) ?_; rintro _ w hn0; obtain ⟨rfl, hn⟩ := pn_bad hn0; clear hn0; refine ⟨_, rfl, ?_⟩; have hm := hc.back 1 hn; dsimp only [List.drop, List.cons_append, List.nil_append, HAppend.hAppend, Append.append, List.append] at hm; clear hn hc; obtain rfl := Option.some.inj h; refine x_panT ?_; refine p_base hf ?_; refine pn_badI ?_; exact ⟨rfl, (hm.sel [] rfl rfl).pick trivial⟩
  dsimp only [Cin.pnB] at h; have hc := hm; refine sc (vs := [.po g1_]) (wN rfl) rfl Try.call89 ⟨(hf.g rfl), trivial⟩ (c_image_reader_count (r_ := (⟨r18_.2.s⟩ : Cin.image_reader)) ((hc.into 1).pick trivial) hr22_) hf rfl rfl ?_; rintro _ w hn0; obtain ⟨rfl, hn⟩ := pn_ok hn0; clear hn0; refine ⟨_, rfl, ?_⟩; intro a hf; have hm := hc.back 1 hn; dsimp only [List.drop, List.cons_append, List.nil_append, HAppend.hAppend, Append.append, List.append] at hm; clear hn hc
  refine sv (wN rfl) (y_build (vs := [(0, Str r3_.1), (1, .bool r6_.1), (2, .slice A11_ r9_.1.length c12_), (3, .agg #[.i r15_.1.Kind, Str r15_.1.Class]), (4, .i r18_.1), (5, .i r21_.1)]) (cs := [Str r3_.1, .bool r6_.1, .slice A11_ r9_.1.length c12_, .i r15_.1.Kind, Str r15_.1.Class, .i r18_.1, .i r21_.1, Str [], .slice none 0 0]) Try.zeroValue74 Try.underlying74 places74 rfl ⟨⟨(hf.g rfl), rfl⟩, ⟨(hf.g rfl), rfl⟩, ⟨(hf.g rfl), rfl⟩, ⟨(hf.g rfl), rfl⟩, ⟨(hf.g rfl), rfl⟩, ⟨(hf.g rfl), rfl⟩, trivial⟩ (by kernel_rfl)) hf rfl rfl fun a hf => ?_; refine nnew (cs := [Str [], .bool false, .slice none 0 0, .i 0, Str [], .i 0, .i 0, Str [], .slice none 0 0]) (wN rfl) (y_alloc Try.zeroValue74 rfl rfl) hf hm rfl rfl ?_; intro a g24_ w hv hf hm; clear hv
  refine sst (vs := [Str r3_.1, .bool r6_.1, .slice A11_ r9_.1.length c12_, .i r15_.1.Kind, Str r15_.1.Class, .i r18_.1, .i r21_.1, Str [], .slice none 0 0]) 0 hm rfl (wN rfl) rfl Try.sizeOf74 rfl rfl rfl rfl (hf.g rfl) (hf.g rfl) rfl ?_; intro w hm; simp only [List.set, lay, List.drop, List.length, List.cons_append, List.nil_append] at hm; refine wpList_nil ?_; have hf := hf.sub (l' := [(0, .po g1_), (2, .po g2_), (3, .po g24_)]) ⟨rfl, rfl, rfl, trivial⟩; refine hK2 _ _ ?_; refine wp_seq_k fun K hK3 => ?_; refine c_region ?_; refine sp0 2 [] [(0, .po g1_), (2, .po g2_), (3, .po g24_), (19, .po g1_), (20, .po g1_)] hf fun a hf => ?_
  obtain ⟨z27_, hr26_, h⟩ := Cin.bind_s h; rcases z27_ with _ | r25_
  · dsimp only [Cin.pnB] at h; have hc := hm.sel [1, 0, 2, 3] rfl rfl; refine scp (vs := [.po g1_]) (wN rfl) rfl Try.call127 ⟨(hf.g rfl), trivial⟩ (c_image_reader_number (r_ := (⟨r21_.2.s⟩ : Cin.image_reader)) ((hc.into 1).pick trivial) hr26_) ?_; rintro _ w hn0; obtain ⟨rfl, hn⟩ := pn_bad hn0; clear hn0; refine ⟨_, rfl, ?_⟩; have hm := hc.back 1 hn; dsimp only [List.drop, List.cons_append, List.nil_append, HAppend.hAppend, Append.append, List.append] at hm; clear hn hc; obtain rfl := Option.some.inj h; refine x_panT ?_; refine p_base hf ?_; refine pn_badI ?_; exact ⟨rfl, (hm.sel [] rfl rfl).pick trivial⟩
  dsimp only [Cin.pnB] at h; have hc := hm.sel [1, 0, 2, 3] rfl rfl; refine sc (vs := [.po g1_]) (wN rfl) rfl Try.call127 ⟨(hf.g rfl), trivial⟩ (c_image_reader_number (r_ := (⟨r21_.2.s⟩ : Cin.image_reader)) ((hc.into 1).pick trivial) hr26_) hf rfl rfl ?_; rintro _ w hn0; obtain ⟨rfl, hn⟩ := pn_ok hn0; clear hn0; refine ⟨_, rfl, ?_⟩; intro a hf; have hm := hc.back 1 hn; dsimp only [List.drop, List.cons_append, List.nil_append, HAppend.hAppend, Append.append, List.append] at hm; clear hn hc; obtain ⟨z30_, hr29_, h⟩ := Cin.bind_s h; rcases z30_ with _ | r28_
  · dsimp only [Cin.pnB] at h; have hc := hm; refine scp (vs := [.po g1_, .i r25_.1]) (wN rfl) rfl Try.call123 ⟨(hf.g rfl), (hf.g rfl), trivial⟩ (c_image_reader_take (r_ := (⟨r25_.2.s⟩ : Cin.image_reader)) ((hc.into 1).pick trivial) hr29_) ?_; rintro _ w hn0; obtain ⟨rfl, hn⟩ := pn_bad hn0; clear hn0; refine ⟨_, rfl, ?_⟩; have hm := hc.back 1 hn; dsimp only [List.drop, List.cons_append, List.nil_append, HAppend.hAppend, Append.append, List.append] at hm; clear hn hc; obtain rfl := Option.some.inj h; refine x_panT ?_; refine p_base hf ?_; refine pn_badI ?_; exact ⟨rfl, (hm.sel [] rfl rfl).pick trivial⟩
  dsimp only [Cin.pnB] at h; have hc := hm; refine sc (vs := [.po g1_, .i r25_.1]) (wN rfl) rfl Try.call123 ⟨(hf.g rfl), (hf.g rfl), trivial⟩ (c_image_reader_take (r_ := (⟨r25_.2.s⟩ : Cin.image_reader)) ((hc.into 1).pick trivial) hr29_) hf rfl rfl ?_; rintro _ w hn0; obtain ⟨rfl, hn⟩ := pn_ok hn0; clear hn0; refine ⟨_, rfl, ?_⟩; intro a hf; have hm := hc.back 1 hn; dsimp only [List.drop, List.cons_append, List.nil_append, HAppend.hAppend, Append.append, List.append] at hm; clear hn hc; refine sp0 1 [] [(0, .po g1_), (2, .po g2_), (3, .po g24_), (22, Str r28_.1), (23, .pointer (some ⟨g24_, 7, none⟩))] hf fun a hf => ?_; refine sst (vs := [Str r28_.1]) 1 hm rfl (wN rfl) rfl Try.sizeOf9 rfl rfl rfl rfl (hf.g rfl) (hf.g rfl) rfl ?_; intro w hm
  simp only [List.set, lay, List.drop, List.length, List.cons_append, List.nil_append] at hm; refine wpList_nil ?_; refine hK3 _ _ ?_; refine wp_seq_k fun K hK4 => ?_; refine c_region ?_; refine sp0 3 [] [(2, .po g2_), (3, .po g24_), (24, .po g1_), (26, .func (.func 129) #[.po g1_] #[])] hf fun a hf => ?_; obtain ⟨z36_, hr32_, h⟩ := Cin.bind_s h; rcases z36_ with _ | r31_
  · dsimp only [Cin.pnB] at h; have hc := hm; refine scp (vs := [.po g1_, .func (.func 129) #[.po g1_] #[]]) (wN rfl) rfl Try.call128 ⟨(hf.g rfl), (hf.g rfl), trivial⟩ (c_image_read_api_Handler__image_reader_handler (r_ := (⟨r28_.2.s⟩ : Cin.image_reader)) ((hc.into 1).pick trivial) hr32_) ?_; rintro _ w hn0; obtain ⟨rfl, hn⟩ := pn_bad hn0; clear hn0; refine ⟨_, rfl, ?_⟩; have hm := hc.back 1 hn; dsimp only [List.drop, List.cons_append, List.nil_append, HAppend.hAppend, Append.append, List.append] at hm; clear hn hc; obtain rfl := Option.some.inj h; refine x_panT ?_; refine p_base hf ?_; refine pn_badI ?_; exact ⟨rfl, (hm.sel [] rfl rfl).pick trivial⟩
  dsimp only [Cin.pnB] at h; have hc := hm; refine sc (vs := [.po g1_, .func (.func 129) #[.po g1_] #[]]) (wN rfl) rfl Try.call128 ⟨(hf.g rfl), (hf.g rfl), trivial⟩ (c_image_read_api_Handler__image_reader_handler (r_ := (⟨r28_.2.s⟩ : Cin.image_reader)) ((hc.into 1).pick trivial) hr32_) hf rfl rfl ?_; rintro _ w hn0; obtain ⟨A33_, c34_, xs35_, rfl, hn⟩ := pn_ok hn0; clear hn0; refine ⟨_, rfl, ?_⟩; intro a hf; have hm := hc.back 1 hn; dsimp only [List.drop, List.cons_append, List.nil_append, HAppend.hAppend, Append.append, List.append] at hm; clear hn hc; refine sp0 1 [] [(2, .po g2_), (3, .po g24_), (27, .slice A33_ r31_.1.length c34_), (28, .pointer (some ⟨g24_, 8, none⟩))] hf fun a hf => ?_
  refine sst (vs := [.slice A33_ r31_.1.length c34_]) 2 hm rfl (wN rfl) rfl Try.sizeOf72 rfl rfl rfl rfl (hf.g rfl) (hf.g rfl) rfl ?_; intro w hm; simp only [List.set, lay, List.drop, List.length, List.cons_append, List.nil_append] at hm; refine wpList_nil ?_; refine hK4 _ _ ?_; refine wp_seq_k fun K hK5 => ?_; refine c_region ?_; refine sp1 1 [0, 0] [(2, .po g2_), (29, .agg #[Str r3_.1, .bool r6_.1, .slice A11_ r9_.1.length c12_, .i r15_.1.Kind, Str r15_.1.Class, .i r18_.1, .i r21_.1, Str r28_.1, .slice A33_ r31_.1.length c34_])] [g24_, 0] (mc (blk_all (hm.e 2 rfl)) mn) hf fun a hf => ?_
  refine sst (vs := [Str r3_.1, .bool r6_.1, .slice A11_ r9_.1.length c12_, .i r15_.1.Kind, Str r15_.1.Class, .i r18_.1, .i r21_.1, Str r28_.1, .slice A33_ r31_.1.length c34_]) 4 hm rfl (wN rfl) rfl Try.sizeOf74 rfl rfl rfl rfl (hf.g rfl) (hf.g rfl) rfl ?_; intro w hm; simp only [List.set, lay, List.drop, List.length, List.cons_append, List.nil_append] at hm; refine wpList_nil ?_; refine hK5 _ _ ?_; refine wp_ret ?_; obtain rfl := Option.some.inj h
  refine r_any (vs := [.agg #[Str r3_.1, .bool r6_.1, .slice A11_ r9_.1.length c12_, .i r15_.1.Kind, Str r15_.1.Class, .i r18_.1, .i r21_.1, Str r28_.1, .slice A33_ r31_.1.length c34_]]) Try.results94 hf ⟨⟨_, _, hf.g rfl, .inl ⟨[Str r3_.1, .bool r6_.1, .slice A11_ r9_.1.length c12_, .i r15_.1.Kind, Str r15_.1.Class, .i r18_.1, .i r21_.1, Str r28_.1, .slice A33_ r31_.1.length c34_], Try.isAgg74, Try.sizeOf74, blk_cells (hm.e 4 rfl) 0 ⟨rfl, rfl, rfl, rfl, rfl, rfl, rfl, rfl, rfl, trivial⟩, rfl⟩⟩, trivial⟩ ?_; refine pn_okI ?_; exact ⟨A11_, c12_, xs13_, A33_, c34_, xs35_, rfl, (hm.sel [0, 3, 1] rfl rfl).pick ⟨⟨1, rfl⟩, ⟨0, rfl⟩, trivial⟩⟩
theorem c_image_read_api_Field__image_reader_field {W : World} {X : List Nat} {F : Nat} {r_ : Cin.image_reader} {r : Cin.Pn ((List Cin.Field) × Cin.image_reader)} {g1_ : Nat} (hm : St W (foots [Ent.blk g1_ 104 [Str r_.s]]) X W [Ent.blk g1_ 104 [Str r_.s]] []) (h : Cin.image_read_api_Field__image_reader_field F r_ = some r) :
    Calls Try.prog 91 [.po g1_, .func (.func 92) #[.po g1_] #[]].toArray W (fun e w' => pnP r (fun r => ∃ A150_ : Option Addr, ∃ c151_ : Nat, ∃ xs152_ : List Value, e = .returned (.slice A150_ r.1.length c151_) ∧ St W (foots [Ent.blk g1_ 104 [Str r_.s]]) X w' [Ent.blk g1_ 104 [Str r.2.s], Ent.row 89 3 (.slice A150_ r.1.length c151_) r.1 xs152_] [Dt.rows Cin.ty_Field xs152_ r.1]) (e = .panicked (pnE 100) ∧ St W (foots [Ent.blk g1_ 104 [Str r_.s]]) X w' [] [])) := by
  generalize hM0 : foots [Ent.blk g1_ 104 [Str r_.s]] = M0 at hm ⊢; clear hM0; refine enter Try.func91 rfl Try.ntmps91 rfl ?_; intro a hf; rw [Cin.image_read_api_Field__image_reader_field] at h; refine sr0 [] [(0, .po g1_), (1, .func (.func 92) #[.po g1_] #[])] hf fun a hf => ?_; refine sr0 [] [(0, .po g1_), (1, .func (.func 92) #[.po g1_] #[]), (5, .slice none 0 0)] hf fun a hf => ?_; refine wp_seq_k fun K hK3 => ?_; refine wp_seq_k fun K hK4 => ?_; refine c_region ?_; refine sp0 1 [] [(1, .func (.func 92) #[.po g1_] #[]), (5, .slice none 0 0), (6, .po g1_)] hf fun a hf => ?_
  obtain ⟨z5_, hr4_, h⟩ := Cin.bind_s h; rcases z5_ with _ | r3_
  · dsimp only [Cin.pnB] at h; have hc := hm; refine scp (vs := [.po g1_]) (wN rfl) rfl Try.call89 ⟨(hf.g rfl), trivial⟩ (c_image_reader_count ((hc.into 1).pick trivial) hr4_) ?_; rintro _ w hn0; obtain ⟨rfl, hn⟩ := pn_bad hn0; clear hn0; refine ⟨_, rfl, ?_⟩; have hm := hc.back 1 hn; dsimp only [List.drop, List.cons_append, List.nil_append, HAppend.hAppend, Append.append, List.append] at hm; clear hn hc; obtain rfl := Option.some.inj h; refine x_panT ?_; refine x_panT ?_; refine p_base hf ?_; refine pn_badI ?_; exact ⟨rfl, (hm.sel [] rfl rfl).pick trivial⟩
  dsimp only [Cin.pnB] at h; have hc := hm; refine sc (vs := [.po g1_]) (wN rfl) rfl Try.call89 ⟨(hf.g rfl), trivial⟩ (c_image_reader_count ((hc.into 1).pick trivial) hr4_) hf rfl rfl ?_; rintro _ w hn0; obtain ⟨rfl, hn⟩ := pn_ok hn0; clear hn0; refine ⟨_, rfl, ?_⟩; intro a hf; have hm := hc.back 1 hn; dsimp only [List.drop, List.cons_append, List.nil_append, HAppend.hAppend, Append.append, List.append] at hm; clear hn hc; refine sp0 1 [] [(1, .func (.func 92) #[.po g1_] #[]), (5, .slice none 0 0), (7, .i r3_.1), (8, .i 0)] hf fun a hf => wpList_nil (hK4 _ _ ?_); have hm := hm.nilRow (α := Cin.Field) 89 3; have hm := hm.more (y := Dt.rows Cin.ty_Field [] []) rfl; obtain ⟨j107_, h, hj107_⟩ := Cin.seqR_s h
  refine c_blockJ (fun a w => ∃ (A102_ : Option Addr) (c103_ : Nat) (l104_ : List Cin.Field) (xs105_ : List Value) (s106_ : List UInt8), Fr ⟨17, []⟩ [(5, .slice A102_ l104_.length c103_)] a ∧ St W M0 X w [Ent.row 89 3 (.slice A102_ l104_.length c103_) l104_ xs105_, Ent.blk g1_ 104 [Str s106_]] [Dt.rows Cin.ty_Field xs105_ l104_] ∧ j107_ = (.go (l104_, s106_))) (fun K hK5 => ?_) ?_
  · refine c_loop (fun (k1_ : Nat) a w => ∃ (A118_ : Option Addr) (c119_ : Nat) (l120_ : List Cin.Field) (xs121_ : List Value) (s122_ : List UInt8) (n123_ : Int), Fr ⟨17, []⟩ [(1, .func (.func 92) #[.po g1_] #[]), (5, .slice A118_ l120_.length c119_), (7, .i r3_.1), (8, .i n123_)] a ∧ St W M0 X w [Ent.row 89 3 (.slice A118_ l120_.length c119_) l120_ xs121_, Ent.blk g1_ 104 [Str s122_]] [Dt.rows Cin.ty_Field xs121_ l120_] ∧ Cin.image_read_api_Field__image_reader_field_L1 r3_ k1_ l120_ s122_ n123_ = some j107_) F ⟨none, 0, [], [], r3_.2.s, 0, hf.sub ⟨rfl, rfl, rfl, rfl, trivial⟩, hm, h⟩ ?_ ?_
    · rintro a w ⟨A118_, c119_, l120_, xs121_, s122_, n123_, hf, hm, h⟩; exact absurd h (by simp [Cin.image_read_api_Field__image_reader_field_L1])
    rintro k1_ a w ⟨A118_, c119_, l120_, xs121_, s122_, n123_, hf, hm, h⟩ K hK6; rw [Cin.image_read_api_Field__image_reader_field_L1] at h; refine sr0 [] [(1, .func (.func 92) #[.po g1_] #[]), (5, .slice A118_ l120_.length c119_), (7, .i r3_.1), (8, .i n123_), (9, .bool (decide (n123_ < r3_.1)))] hf fun a hf => ?_; refine wp_seq_k fun K hK8 => ?_; refine cc (hf.g rfl) h (fun hb140_ h => ?_) (fun hb140_ h => ?_)
    · refine wp_skip ?_; refine hK8 _ _ ?_; refine wp_seq_k fun K hK9 => ?_; refine wp_block ?_; refine c_region ?_; refine sp0 2 [] [(1, .func (.func 92) #[.po g1_] #[]), (5, .slice A118_ l120_.length c119_), (7, .i r3_.1), (8, .i n123_), (10, .slice A118_ l120_.length c119_), (11, .func (.func 92) #[.po g1_] #[])] hf fun a hf => ?_; obtain ⟨z143_, hr142_, h⟩ := Cin.bind_s h; rcases z143_ with _ | r141_
      · dsimp only [Cin.pnB] at h; have hc := hm.sel [1, 0] rfl rfl; refine scBp (f := 92) (vs := []) (us := [.po g1_]) (cs := []) (wN rfl) rfl Try.call92 (hf.g rfl) trivial (c_image_reader_field (r_ := (⟨s122_⟩ : Cin.image_reader)) ((hc.into 1).pick trivial) hr142_) ?_; rintro _ w hn0; obtain ⟨rfl, hn⟩ := pn_bad hn0; clear hn0; refine ⟨_, rfl, ?_⟩; have hm := hc.back 1 hn; dsimp only [List.drop, List.cons_append, List.nil_append, HAppend.hAppend, Append.append, List.append] at hm; clear hn hc; obtain rfl := Option.some.inj h; obtain rfl := Option.some.inj (show some (_) = some _ from hj107_); refine x_panB ?_; refine x_panT ?_; refine x_panT ?_; refine x_panB ?_; refine x_panT ?_; refine x_panT ?_; refine p_base hf ?_; refine pn_badI ?_; exact ⟨rfl, (hm.sel [] rfl rfl).pick trivial⟩
      dsimp only [Cin.pnB] at h; have hc := hm.sel [1, 0] rfl rfl; refine scB (f := 92) (vs := []) (us := [.po g1_]) (cs := []) (wN rfl) rfl Try.call92 (hf.g rfl) trivial (c_image_reader_field (r_ := (⟨s122_⟩ : Cin.image_reader)) ((hc.into 1).pick trivial) hr142_) hf rfl rfl ?_; rintro _ w hn0; obtain ⟨rfl, hn⟩ := pn_ok hn0; clear hn0; refine ⟨_, rfl, ?_⟩; intro a hf; have hm := hc.back 1 hn; dsimp only [List.drop, List.cons_append, List.nil_append, HAppend.hAppend, Append.append, List.append] at hm; clear hn hc; refine nnewS (cs := [Str r141_.1.Name, .i r141_.1.Kind.Kind, Str r141_.1.Kind.Class]) (wN rfl) (y_buildSlice (vs := [(0, .agg #[Str r141_.1.Name, .i r141_.1.Kind.Kind, Str r141_.1.Kind.Class])]) Try.underlying65 Try.sizeOf89 Try.zeroValue89 rfl rfl rfl ⟨⟨(hf.g rfl), rfl⟩, trivial⟩ (by kernel_rfl)) hf hm rfl rfl ?_
      intro a g144_ w hv hf hm; clear hv; obtain ⟨l145_, hl146_, h⟩ := Cin.bind_s h; refine sappL (T := Cin.ty_Field) (ml := [r141_.1]) 2 0 0 hm rfl rfl rfl Try.underlying65 info89 rfl rfl hl146_ rfl rfl ⟨_, _, rfl, rfl, rfl⟩ (wN rfl) rfl (hf.g rfl) (hf.g rfl) hf rfl rfl ?_; intro a A147_ c148_ xs149_ w hf hm; dsimp only [List.set, List.eraseIdx] at hm; refine sp0 1 [] [(1, .func (.func 92) #[.po g1_] #[]), (5, .slice A147_ l145_.length c148_), (7, .i r3_.1), (8, .i n123_)] hf fun a hf => wpList_nil (hK9 _ _ ?_); refine rg0 [] [(1, .func (.func 92) #[.po g1_] #[]), (5, .slice A147_ l145_.length c148_), (7, .i r3_.1), (8, .i (Cin.w64 (n123_ + 1)))] hf fun a hf => ?_
      exact hK6 _ _ ⟨A147_, c148_, l145_, xs149_, r141_.2.s, Cin.w64 (n123_ + 1), hf.sub ⟨rfl, rfl, rfl, rfl, trivial⟩, (hm.sel [1, 0] rfl rfl).pick ⟨⟨0, rfl⟩, trivial⟩, h⟩
    refine wp_exit ?_; refine x_then (x_then (x_hit ?_)); exact hK5 _ _ ⟨A118_, c119_, l120_, xs121_, s122_, hf.sub ⟨rfl, trivial⟩, hm, (Option.some.inj h).symm⟩
  rintro a w ⟨A102_, c103_, l104_, xs105_, s106_, hf, hm, hj⟩; subst j107_; have h := hj107_; clear hj107_; dsimp only [Cin.contR] at h; refine hK3 _ _ ?_; refine sr0 [] [(4, .slice A102_ l104_.length c103_)] hf fun a hf => ?_; refine wp_ret ?_; obtain rfl := Option.some.inj h; refine r_one Try.results91 hf rfl ?_; refine pn_okI ?_; exact ⟨A102_, c103_, xs105_, rfl, (hm.sel [1, 0] rfl rfl).pick ⟨⟨0, rfl⟩, trivial⟩⟩
theorem c_image_read_api_Method__image_reader_method {W : World} {X : List Nat} {F : Nat} {r_ : Cin.image_reader} {r : Cin.Pn ((List Cin.Method) × Cin.image_reader)} {g1_ : Nat} (hm : St W (foots [Ent.blk g1_ 104 [Str r_.s]]) X W [Ent.blk g1_ 104 [Str r_.s]] []) (h : Cin.image_read_api_Method__image_reader_method F r_ = some r) :
    Calls Try.prog 93 [.po g1_, .func (.func 94) #[.po g1_] #[]].toArray W (fun e w' => pnP r (fun r => ∃ A210_ : Option Addr, ∃ c211_ : Nat, ∃ xs212_ : List Value, e = .returned (.slice A210_ r.1.length c211_) ∧ St W (foots [Ent.blk g1_ 104 [Str r_.s]]) X w' [Ent.blk g1_ 104 [Str r.2.s], Ent.row 74 9 (.slice A210_ r.1.length c211_) r.1 xs212_] [Dt.rows Cin.ty_Method xs212_ r.1]) (e = .panicked (pnE 100) ∧ St W (foots [Ent.blk g1_ 104 [Str r_.s]]) X w' [] [])) := by
  generalize hM0 : foots [Ent.blk g1_ 104 [Str r_.s]] = M0 at hm ⊢; clear hM0; refine enter Try.func93 rfl Try.ntmps93 rfl ?_; intro a hf; rw [Cin.image_read_api_Method__image_reader_method] at h; refine sr0 [] [(0, .po g1_), (1, .func (.func 94) #[.po g1_] #[])] hf fun a hf => ?_; refine sr0 [] [(0, .po g1_), (1, .func (.func 94) #[.po g1_] #[]), (5, .slice none 0 0)] hf fun a hf => ?_; refine wp_seq_k fun K hK3 => ?_; refine wp_seq_k fun K hK4 => ?_; refine c_region ?_; refine sp0 1 [] [(1, .func (.func 94) #[.po g1_] #[]), (5, .slice none 0 0), (6, .po g1_)] hf fun a hf => ?_
  obtain ⟨z5_, hr4_, h⟩ := Cin.bind_s h; rcases z5_ with _ | r3_
  · dsimp only [Cin.pnB] at h; have hc := hm; refine scp (vs := [.po g1_]) (wN rfl) rfl Try.call89 ⟨(hf.g rfl), trivial⟩ (c_image_reader_count ((hc.into 1).pick trivial) hr4_) ?_; rintro _ w hn0; obtain ⟨rfl, hn⟩ := pn_bad hn0; clear hn0; refine ⟨_, rfl, ?_⟩; have hm := hc.back 1 hn; dsimp only [List.drop, List.cons_append, List.nil_append, HAppend.hAppend, Append.append, List.append] at hm; clear hn hc; obtain rfl := Option.some.inj h; refine x_panT ?_; refine x_panT ?_; refine p_base hf ?_; refine pn_badI ?_; exact ⟨rfl, (hm.sel [] rfl rfl).pick trivial⟩
  dsimp only [Cin.pnB] at h; have hc := hm; refine sc (vs := [.po g1_]) (wN rfl) rfl Try.call89 ⟨(hf.g rfl), trivial⟩ (c_image_reader_count ((hc.into 1).pick trivial) hr4_) hf rfl rfl ?_; rintro _ w hn0; obtain ⟨rfl, hn⟩ := pn_ok hn0; clear hn0; refine ⟨_, rfl, ?_⟩; intro a hf; have hm := hc.back 1 hn; dsimp only [List.drop, List.cons_append, List.nil_append, HAppend.hAppend, Append.append, List.append] at hm; clear hn hc; refine sp0 1 [] [(1, .func (.func 94) #[.po g1_] #[]), (5, .slice none 0 0), (7, .i r3_.1), (8, .i 0)] hf fun a hf => wpList_nil (hK4 _ _ ?_); have hm := hm.nilRow (α := Cin.Method) 74 9; have hm := hm.more (y := Dt.rows Cin.ty_Method [] []) rfl; obtain ⟨j149_, h, hj149_⟩ := Cin.seqR_s h
  refine c_blockJ (fun a w => ∃ (A144_ : Option Addr) (c145_ : Nat) (l146_ : List Cin.Method) (xs147_ : List Value) (s148_ : List UInt8), Fr ⟨17, []⟩ [(5, .slice A144_ l146_.length c145_)] a ∧ St W M0 X w [Ent.row 74 9 (.slice A144_ l146_.length c145_) l146_ xs147_, Ent.blk g1_ 104 [Str s148_]] [Dt.rows Cin.ty_Method xs147_ l146_] ∧ j149_ = (.go (l146_, s148_))) (fun K hK5 => ?_) ?_
  · refine c_loop (fun (k1_ : Nat) a w => ∃ (A166_ : Option Addr) (c167_ : Nat) (l168_ : List Cin.Method) (xs169_ : List Value) (s170_ : List UInt8) (n171_ : Int), Fr ⟨17, []⟩ [(1, .func (.func 94) #[.po g1_] #[]), (5, .slice A166_ l168_.length c167_), (7, .i r3_.1), (8, .i n171_)] a ∧ St W M0 X w [Ent.row 74 9 (.slice A166_ l168_.length c167_) l168_ xs169_, Ent.blk g1_ 104 [Str s170_]] [Dt.rows Cin.ty_Method xs169_ l168_] ∧ Cin.image_read_api_Method__image_reader_method_L1 F r3_ k1_ l168_ s170_ n171_ = some j149_) F ⟨none, 0, [], [], r3_.2.s, 0, hf.sub ⟨rfl, rfl, rfl, rfl, trivial⟩, hm, h⟩ ?_ ?_
    · rintro a w ⟨A166_, c167_, l168_, xs169_, s170_, n171_, hf, hm, h⟩; exact absurd h (by simp [Cin.image_read_api_Method__image_reader_method_L1])
    rintro k1_ a w ⟨A166_, c167_, l168_, xs169_, s170_, n171_, hf, hm, h⟩ K hK6; rw [Cin.image_read_api_Method__image_reader_method_L1] at h; refine sr0 [] [(1, .func (.func 94) #[.po g1_] #[]), (5, .slice A166_ l168_.length c167_), (7, .i r3_.1), (8, .i n171_), (9, .bool (decide (n171_ < r3_.1)))] hf fun a hf => ?_; refine wp_seq_k fun K hK8 => ?_; refine cc (hf.g rfl) h (fun hb194_ h => ?_) (fun hb194_ h => ?_)
    · refine wp_skip ?_; refine hK8 _ _ ?_; refine wp_seq_k fun K hK9 => ?_; refine wp_block ?_; refine c_region ?_; refine sp0 2 [] [(1, .func (.func 94) #[.po g1_] #[]), (5, .slice A166_ l168_.length c167_), (7, .i r3_.1), (8, .i n171_), (10, .slice A166_ l168_.length c167_), (11, .func (.func 94) #[.po g1_] #[])] hf fun a hf => ?_; obtain ⟨z203_, hr196_, h⟩ := Cin.bind_s h; rcases z203_ with _ | r195_
      · dsimp only [Cin.pnB] at h; have hc := hm.sel [1, 0] rfl rfl; refine scBp (f := 94) (vs := []) (us := [.po g1_]) (cs := []) (wN rfl) rfl Try.call94 (hf.g rfl) trivial (c_image_reader_method (r_ := (⟨s170_⟩ : Cin.image_reader)) ((hc.into 1).pick trivial) hr196_) ?_; rintro _ w hn0; obtain ⟨rfl, hn⟩ := pn_bad hn0; clear hn0; refine ⟨_, rfl, ?_⟩; have hm := hc.back 1 hn; dsimp only [List.drop, List.cons_append, List.nil_append, HAppend.hAppend, Append.append, List.append] at hm; clear hn hc; obtain rfl := Option.some.inj h; obtain rfl := Option.some.inj (show some (_) = some _ from hj149_); refine x_panB ?_; refine x_panT ?_; refine x_panT ?_; refine x_panB ?_; refine x_panT ?_; refine x_panT ?_; refine p_base hf ?_; refine pn_badI ?_; exact ⟨rfl, (hm.sel [] rfl rfl).pick trivial⟩
      dsimp only [Cin.pnB] at h; have hc := hm.sel [1, 0] rfl rfl; refine scB (f := 94) (vs := []) (us := [.po g1_]) (cs := []) (wN rfl) rfl Try.call94 (hf.g rfl) trivial (c_image_reader_method (r_ := (⟨s170_⟩ : Cin.image_reader)) ((hc.into 1).pick trivial) hr196_) hf rfl rfl ?_; rintro _ w hn0; obtain ⟨A197_, c198_, xs201_, A199_, c200_, xs202_, rfl, hn⟩ := pn_ok hn0; clear hn0; refine ⟨_, rfl, ?_⟩; intro a hf; have hm := hc.back 1 hn; dsimp only [List.drop, List.cons_append, List.nil_append, HAppend.hAppend, Append.append, List.append] at hm; clear hn hc; have hm := hm.freeze 1 0 rfl rfl; dsimp only [List.eraseIdx] at hm; have hm := hm.freeze 1 2 rfl rfl; dsimp only [List.eraseIdx] at hm
      refine nnewS (cs := [Str r195_.1.Name, .bool r195_.1.Static, .slice A197_ r195_.1.Args.length c198_, .i r195_.1.Returns.Kind, Str r195_.1.Returns.Class, .i r195_.1.Stack, .i r195_.1.Locals, Str r195_.1.Code, .slice A199_ r195_.1.Handlers.length c200_]) (wN rfl) (y_buildSlice (vs := [(0, .agg #[Str r195_.1.Name, .bool r195_.1.Static, .slice A197_ r195_.1.Args.length c198_, .i r195_.1.Returns.Kind, Str r195_.1.Returns.Class, .i r195_.1.Stack, .i r195_.1.Locals, Str r195_.1.Code, .slice A199_ r195_.1.Handlers.length c200_])]) Try.underlying66 Try.sizeOf74 Try.zeroValue74 rfl rfl rfl ⟨⟨(hf.g rfl), rfl⟩, trivial⟩ (by kernel_rfl)) hf hm rfl rfl ?_; intro a g204_ w hv hf hm; clear hv; obtain ⟨l205_, hl206_, h⟩ := Cin.bind_s h
      refine sappL (T := Cin.ty_Method) (ml := [(⟨r195_.1.Name, r195_.1.Static, r195_.1.Args, (⟨r195_.1.Returns.Kind, r195_.1.Returns.Class⟩ : Cin.Kind), r195_.1.Stack, r195_.1.Locals, r195_.1.Code, r195_.1.Handlers⟩ : Cin.Method)]) 2 0 4 hm rfl rfl rfl Try.underlying66 info74 rfl rfl hl206_ rfl rfl ⟨_, _, rfl, ⟨A197_, c198_, A199_, c200_, rfl, (hm.d 1 rfl), (hm.d 0 rfl)⟩, rfl⟩ (wN rfl) rfl (hf.g rfl) (hf.g rfl) hf rfl rfl ?_; intro a A207_ c208_ xs209_ w hf hm; dsimp only [List.set, List.eraseIdx] at hm; refine sp0 1 [] [(1, .func (.func 94) #[.po g1_] #[]), (5, .slice A207_ l205_.length c208_), (7, .i r3_.1), (8, .i n171_)] hf fun a hf => wpList_nil (hK9 _ _ ?_)
      refine rg0 [] [(1, .func (.func 94) #[.po g1_] #[]), (5, .slice A207_ l205_.length c208_), (7, .i r3_.1), (8, .i (Cin.w64 (n171_ + 1)))] hf fun a hf => ?_; exact hK6 _ _ ⟨A207_, c208_, l205_, xs209_, r195_.2.s, Cin.w64 (n171_ + 1), hf.sub ⟨rfl, rfl, rfl, rfl, trivial⟩, (hm.sel [1, 0] rfl rfl).pick ⟨⟨0, rfl⟩, trivial⟩, h⟩
    refine wp_exit ?_; refine x_then (x_then (x_hit ?_)); exact hK5 _ _ ⟨A166_, c167_, l168_, xs169_, s170_, hf.sub ⟨rfl, trivial⟩, hm, (Option.some.inj h).symm⟩
  rintro a w ⟨A144_, c145_, l146_, xs147_, s148_, hf, hm, hj⟩; subst j149_; have h := hj149_; clear hj149_; dsimp only [Cin.contR] at h; refine hK3 _ _ ?_; refine sr0 [] [(4, .slice A144_ l146_.length c145_)] hf fun a hf => ?_; refine wp_ret ?_; obtain rfl := Option.some.inj h; refine r_one Try.results93 hf rfl ?_; refine pn_okI ?_; exact ⟨A144_, c145_, xs147_, rfl, (hm.sel [1, 0] rfl rfl).pick ⟨⟨0, rfl⟩, trivial⟩⟩
theorem c_image_reader_class {W : World} {X : List Nat} {F : Nat} {r_ : Cin.image_reader} {r : Cin.Pn (Cin.Class × Cin.image_reader)} {g1_ : Nat} (hm : St W (foots [Ent.blk g1_ 104 [Str r_.s]]) X W [Ent.blk g1_ 104 [Str r_.s]] []) (h : Cin.image_reader_class F r_ = some r) :
    Calls Try.prog 52 [.po g1_].toArray W (fun e w' => pnP r (fun r => ∃ A21_ : Option Addr, ∃ c22_ : Nat, ∃ xs25_ : List Value, ∃ A23_ : Option Addr, ∃ c24_ : Nat, ∃ xs26_ : List Value, e = .returned (.agg #[Str r.1.Name, Str r.1.Super, .slice A21_ r.1.Fields.length c22_, .slice A23_ r.1.Methods.length c24_]) ∧ St W (foots [Ent.blk g1_ 104 [Str r_.s]]) X w' [Ent.blk g1_ 104 [Str r.2.s], Ent.row 89 3 (.slice A21_ r.1.Fields.length c22_) r.1.Fields xs25_, Ent.row 74 9 (.slice A23_ r.1.Methods.length c24_) r.1.Methods xs26_] [Dt.rows Cin.ty_Field xs25_ r.1.Fields, Dt.rows Cin.ty_Method xs26_ r.1.Methods]) (e = .panicked (pnE 100) ∧ St W (foots [Ent.blk g1_ 104 [Str r_.s]]) X w' [] [])) := by
  generalize hM0 : foots [Ent.blk g1_ 104 [Str r_.s]] = M0 at hm ⊢; clear hM0; refine enter Try.func52 rfl Try.ntmps52 rfl ?_; intro a hf; rw [Cin.image_reader_class] at h; refine wp_seq_k fun K hK1 => ?_; refine c_region ?_; refine nnew (cs := [Str [], Str [], .slice none 0 0, .slice none 0 0]) (wN rfl) (y_alloc Try.zeroValue68 rfl rfl) hf hm rfl rfl ?_; intro a g2_ w hv hf hm; clear hv; refine wpList_nil ?_; refine hK1 _ _ ?_; refine wp_seq_k fun K hK2 => ?_; refine c_region ?_; refine sp0 1 [] [(0, .po g1_), (2, .po g2_), (3, .po g1_)] hf fun a hf => ?_; obtain ⟨z5_, hr4_, h⟩ := Cin.bind_s h; rcases z5_ with _ | r3_
  · dsimp only [Cin.pnB] at h; have hc := hm.sel [1, 0] rfl rfl; refine scp (vs := [.po g1_]) (wN rfl) rfl Try.call90 ⟨(hf.g rfl), trivial⟩ (c_image_reader_text ((hc.into 1).pick trivial) hr4_) ?_; rintro _ w hn0; obtain ⟨rfl, hn⟩ := pn_bad hn0; clear hn0; refine ⟨_, rfl, ?_⟩; have hm := hc.back 1 hn; dsimp only [List.drop, List.cons_append, List.nil_append, HAppend.hAppend, Append.append, List.append] at hm; clear hn hc; obtain rfl := Option.some.inj h; refine x_panT ?_; refine p_base hf ?_; refine pn_badI ?_; exact ⟨rfl, (hm.sel [] rfl rfl).pick trivial⟩
  dsimp only [Cin.pnB] at h; have hc := hm.sel [1, 0] rfl rfl; refine sc (vs := [.po g1_]) (wN rfl) rfl Try.call90 ⟨(hf.g rfl), trivial⟩ (c_image_reader_text ((hc.into 1).pick trivial) hr4_) hf rfl rfl ?_; rintro _ w hn0; obtain ⟨rfl, hn⟩ := pn_ok hn0; clear hn0; refine ⟨_, rfl, ?_⟩; intro a hf; have hm := hc.back 1 hn; dsimp only [List.drop, List.cons_append, List.nil_append, HAppend.hAppend, Append.append, List.append] at hm; clear hn hc; refine sp0 1 [] [(0, .po g1_), (2, .po g2_), (4, Str r3_.1), (5, .po g1_)] hf fun a hf => ?_; obtain ⟨z8_, hr7_, h⟩ := Cin.bind_s h; rcases z8_ with _ | r6_
  · dsimp only [Cin.pnB] at h; have hc := hm; refine scp (vs := [.po g1_]) (wN rfl) rfl Try.call90 ⟨(hf.g rfl), trivial⟩ (c_image_reader_text (r_ := (⟨r3_.2.s⟩ : Cin.image_reader)) ((hc.into 1).pick trivial) hr7_) ?_; rintro _ w hn0; obtain ⟨rfl, hn⟩ := pn_bad hn0; clear hn0; refine ⟨_, rfl, ?_⟩; have hm := hc.back 1 hn; dsimp only [List.drop, List.cons_append, List.nil_append, HAppend.hAppend, Append.append, List.append] at hm; clear hn hc; obtain rfl := Option.some.inj h; refine x_panT ?_; refine p_base hf ?_; refine pn_badI ?_; exact ⟨rfl, (hm.sel [] rfl rfl).pick trivial⟩
  dsimp only [Cin.pnB] at h; have hc := hm; refine sc (vs := [.po g1_]) (wN rfl) rfl Try.call90 ⟨(hf.g rfl), trivial⟩ (c_image_reader_text (r_ := (⟨r3_.2.s⟩ : Cin.image_reader)) ((hc.into 1).pick trivial) hr7_) hf rfl rfl ?_; rintro _ w hn0; obtain ⟨rfl, hn⟩ := pn_ok hn0; clear hn0; refine ⟨_, rfl, ?_⟩; intro a hf; have hm := hc.back 1 hn; dsimp only [List.drop, List.cons_append, List.nil_append, HAppend.hAppend, Append.append, List.append] at hm; clear hn hc; refine sp0 3 [] [(0, .po g1_), (2, .po g2_), (4, Str r3_.1), (6, Str r6_.1), (7, .po g1_), (9, .func (.func 92) #[.po g1_] #[])] hf fun a hf => ?_; obtain ⟨z14_, hr10_, h⟩ := Cin.bind_s h; rcases z14_ with _ | r9_
  · dsimp only [Cin.pnB] at h; have hc := hm; refine scp (vs := [.po g1_, .func (.func 92) #[.po g1_] #[]]) (wN rfl) rfl Try.call91 ⟨(hf.g rfl), (hf.g rfl), trivial⟩ (c_image_read_api_Field__image_reader_field (r_ := (⟨r6_.2.s⟩ : Cin.image_reader)) ((hc.into 1).pick trivial) hr10_) ?_; rintro _ w hn0; obtain ⟨rfl, hn⟩ := pn_bad hn0; clear hn0; refine ⟨_, rfl, ?_⟩; have hm := hc.back 1 hn; dsimp only [List.drop, List.cons_append, List.nil_append, HAppend.hAppend, Append.append, List.append] at hm; clear hn hc; obtain rfl := Option.some.inj h; refine x_panT ?_; refine p_base hf ?_; refine pn_badI ?_; exact ⟨rfl, (hm.sel [] rfl rfl).pick trivial⟩
  dsimp only [Cin.pnB] at h; have hc := hm; refine sc (vs := [.po g1_, .func (.func 92) #[.po g1_] #[]]) (wN rfl) rfl Try.call91 ⟨(hf.g rfl), (hf.g rfl), trivial⟩ (c_image_read_api_Field__image_reader_field (r_ := (⟨r6_.2.s⟩ : Cin.image_reader)) ((hc.into 1).pick trivial) hr10_) hf rfl rfl ?_; rintro _ w hn0; obtain ⟨A11_, c12_, xs13_, rfl, hn⟩ := pn_ok hn0; clear hn0; refine ⟨_, rfl, ?_⟩; intro a hf; have hm := hc.back 1 hn; dsimp only [List.drop, List.cons_append, List.nil_append, HAppend.hAppend, Append.append, List.append] at hm; clear hn hc; refine sp0 3 [] [(2, .po g2_), (4, Str r3_.1), (6, Str r6_.1), (10, .slice A11_ r9_.1.length c12_), (11, .po g1_), (13, .func (.func 94) #[.po g1_] #[])] hf fun a hf => ?_
  obtain ⟨z20_, hr16_, h⟩ := Cin.bind_s h; rcases z20_ with _ | r15_
  · dsimp only [Cin.pnB] at h; have hc := hm; refine scp (vs := [.po g1_, .func (.func 94) #[.po g1_] #[]]) (wN rfl) rfl Try.call93 ⟨(hf.g rfl), (hf.g rfl), trivial⟩ (c_image_read_api_Method__image_reader_method (r_ := (⟨r9_.2.s⟩ : Cin.image_reader)) ((hc.into 1).pick trivial) hr16_) ?_; rintro _ w hn0; obtain ⟨rfl, hn⟩ := pn_bad hn0; clear hn0; refine ⟨_, rfl, ?_⟩; have hm := hc.back 1 hn; dsimp only [List.drop, List.cons_append, List.nil_append, HAppend.hAppend, Append.append, List.append] at hm; clear hn hc; obtain rfl := Option.some.inj h; refine x_panT ?_; refine p_base hf ?_; refine pn_badI ?_; exact ⟨rfl, (hm.sel [] rfl rfl).pick trivial⟩
  dsimp only [Cin.pnB] at h; have hc := hm; refine sc (vs := [.po g1_, .func (.func 94) #[.po g1_] #[]]) (wN rfl) rfl Try.call93 ⟨(hf.g rfl), (hf.g rfl), trivial⟩ (c_image_read_api_Method__image_reader_method (r_ := (⟨r9_.2.s⟩ : Cin.image_reader)) ((hc.into 1).pick trivial) hr16_) hf rfl rfl ?_; rintro _ w hn0; obtain ⟨A17_, c18_, xs19_, rfl, hn⟩ := pn_ok hn0; clear hn0; refine ⟨_, rfl, ?_⟩; intro a hf; have hm := hc.back 1 hn; dsimp only [List.drop, List.cons_append, List.nil_append, HAppend.hAppend, Append.append, List.append] at hm; clear hn hc
  refine sv (wN rfl) (y_build (vs := [(0, Str r3_.1), (1, Str r6_.1), (2, .slice A11_ r9_.1.length c12_), (3, .slice A17_ r15_.1.length c18_)]) (cs := [Str r3_.1, Str r6_.1, .slice A11_ r9_.1.length c12_, .slice A17_ r15_.1.length c18_]) Try.zeroValue68 Try.underlying68 places68 rfl ⟨⟨(hf.g rfl), rfl⟩, ⟨(hf.g rfl), rfl⟩, ⟨(hf.g rfl), rfl⟩, ⟨(hf.g rfl), rfl⟩, trivial⟩ (by kernel_rfl)) hf rfl rfl fun a hf => ?_; refine sst (vs := [Str r3_.1, Str r6_.1, .slice A11_ r9_.1.length c12_, .slice A17_ r15_.1.length c18_]) 3 hm rfl (wN rfl) rfl Try.sizeOf68 rfl rfl rfl rfl (hf.g rfl) (hf.g rfl) rfl ?_; intro w hm; simp only [List.set, lay, List.drop, List.length, List.cons_append, List.nil_append] at hm; refine wpList_nil ?_; have hf := hf.sub (l' := [(2, .po g2_)]) ⟨rfl, trivial⟩; refine hK2 _ _ ?_; refine wp_ret ?_
  obtain rfl := Option.some.inj h; refine r_any (vs := [.agg #[Str r3_.1, Str r6_.1, .slice A11_ r9_.1.length c12_, .slice A17_ r15_.1.length c18_]]) Try.results52 hf ⟨⟨_, _, hf.g rfl, .inl ⟨[Str r3_.1, Str r6_.1, .slice A11_ r9_.1.length c12_, .slice A17_ r15_.1.length c18_], Try.isAgg68, Try.sizeOf68, blk_cells (hm.e 3 rfl) 0 ⟨rfl, rfl, rfl, rfl, trivial⟩, rfl⟩⟩, trivial⟩ ?_; refine pn_okI ?_; exact ⟨A11_, c12_, xs13_, A17_, c18_, xs19_, rfl, (hm.sel [0, 2, 1] rfl rfl).pick ⟨⟨1, rfl⟩, ⟨0, rfl⟩, trivial⟩⟩
end Go.Proofs.Ytfbkanhgjpdohaa
namespace Cin
def image_read_api_Class__image_reader_class_L1 (F : Nat) (r3_ : Int × image_reader) : Nat → (List Class) → (List UInt8) → Int → Option (Way (Pn ((List Class) × image_reader)) ((List Class) × (List UInt8)))
  | 0, _, _, _ => none
  | k1_ + 1, l168_, s170_, n171_ =>
    cond (decide (n171_ < r3_.1)) ((image_reader_class F (⟨s170_⟩ : image_reader)).bind fun z203_ =>
    pnB z203_ (some (.out .bad)) fun r195_ =>
    (app 80 l168_ [(⟨r195_.1.Name, r195_.1.Super, r195_.1.Fields, r195_.1.Methods⟩ : Class)]).bind fun l205_ =>
    image_read_api_Class__image_reader_class_L1 F r3_ k1_ l205_ r195_.2.s (w64 (n171_ + 1))) (some (.go (l168_, s170_)))
def image_read_api_Class__image_reader_class (F : Nat) (r_ : image_reader) : Option (Pn ((List Class) × image_reader)) :=
  (image_reader_count (⟨r_.s⟩ : image_reader)).bind fun z5_ =>
  pnB z5_ (some .bad) fun r3_ =>
  seqR (α := (List Class) × (List UInt8)) (image_read_api_Class__image_reader_class_L1 F r3_ F [] r3_.2.s 0) fun ((l146_, s148_) : (List Class) × (List UInt8)) =>
  some (.ok (l146_, (⟨s148_⟩ : image_reader)))
def image_Read (F : Nat) (s_ : List UInt8) : Option ((List Class) × Int) :=
  cond (decide (20000 < (s_.length : Int))) (some ([], 2)) ((image_read_api_Class__image_reader_class F (⟨s_⟩ : image_reader)).bind fun z10_ =>
  pnB z10_ (some ([], 1)) fun r5_ =>
  cond (!decide (r5_.2.s = [])) (some ([], 1)) ((image_Check F r5_.1).bind fun r12_ =>
  cond (!decide (r12_ = 0)) (some ([], 1)) (some (r5_.1, 0))))
end Cin
namespace Go.Proofs.Ytfbkanhgjpdohaa
open Go Go.RowKit Gg
set_option maxHeartbeats 4000000
set_option maxRecDepth 20000
theorem cD50_ret {W : World} {gq0_ gq1_ : Nat} : CallsD Try.prog 50 [.po gq0_, .po gq1_].toArray .returning W (fun e u' w' => u' = .returning ∧ (e = .returned (.tuple #[]) ∧ Ev [] W w')) := by
  refine recS (v := .nilIface) (R := fun e w' => e = .returned (.tuple #[]) ∧ Ev [] W w') Try.func50 rfl Try.ntmps50 rfl rfl rfl rfl rfl (fun c₀ cs h => .inl ⟨rec_ret c₀ cs h, rfl, rfl⟩) (fun _ h => nomatch h.1) ?_; intro a hf; have hm := St.empty W; refine sv (wN rfl) (y_ta (r := .tuple #[.agg #[], .bool false]) (by intro w; kernel_rfl) rfl (hf.g rfl)) hf rfl rfl fun a hf => ?_; refine sp0 3 [] [(0, .po gq0_), (1, .po gq1_), (7, .agg #[]), (8, .bool false)] hf fun a hf => ?_; refine nnew (cs := []) (wN rfl) (y_alloc Try.zeroValue100 rfl rfl) hf hm rfl rfl ?_; intro a g1_ w hv hf hm; clear hv; refine sst (vs := []) 0 hm rfl (wN rfl) rfl Try.sizeOf100 rfl rfl rfl rfl (hf.g rfl) (hf.g rfl) rfl ?_; intro w hm
  simp only [List.set, lay, List.drop, List.length, List.cons_append, List.nil_append] at hm; refine sp0 1 [] [(0, .po gq0_), (1, .po gq1_), (3, .bool false)] hf fun a hf => wpList_nil ?_; refine ⟨rfl, ?_⟩; refine sr0 [] [(0, .po gq0_), (1, .po gq1_), (9, .bool false)] hf fun a hf => ?_; refine c_condF (hf.g rfl) rfl ?_; refine wp_skip ?_; refine b_norm ?_; refine r_none Try.results50 hf ?_; exact ⟨rfl, hm.ev⟩
theorem cD50_pan {W : World} {X : List Nat} {gq0_ gq1_ : Nat} {v0_0_ v1_0_ : Value} (hm : St W (foots [Ent.blk gq0_ 22 [v0_0_], Ent.blk gq1_ 23 [v1_0_]]) X W [Ent.blk gq0_ 22 [v0_0_], Ent.blk gq1_ 23 [v1_0_]] []) : CallsD Try.prog 50 [.po gq0_, .po gq1_].toArray (.panicking (pnE 100)) W (fun e u' w' => u' = .panicking [{ v := .iface 100 (.agg #[]), recovered := true }] ∧ (e = .returned (.tuple #[]) ∧ St W (foots [Ent.blk gq0_ 22 [v0_0_], Ent.blk gq1_ 23 [v1_0_]]) X w' [Ent.blk gq0_ 22 [.slice none 0 0], Ent.blk gq1_ 23 [.i 1]] [])) := by
  generalize hM0 : foots [Ent.blk gq0_ 22 [v0_0_], Ent.blk gq1_ 23 [v1_0_]] = M0 at hm ⊢; clear hM0; refine recS (R := fun e w' => e = .returned (.tuple #[]) ∧ St W M0 X w' [Ent.blk gq0_ 22 [.slice none 0 0], Ent.blk gq1_ 23 [.i 1]] []) Try.func50 rfl Try.ntmps50 rfl rfl rfl rfl rfl (fun c₀ cs h => .inr (rec_pan c₀ cs h)) (fun _ h => nomatch h.1) ?_; intro a hf; refine sv (wN rfl) (y_ta (r := .tuple #[.agg #[], .bool true]) (by intro w; kernel_rfl) rfl (hf.g rfl)) hf rfl rfl fun a hf => ?_; refine sp0 3 [] [(0, .po gq0_), (1, .po gq1_), (7, .agg #[]), (8, .bool true)] hf fun a hf => ?_; refine nnew (cs := []) (wN rfl) (y_alloc Try.zeroValue100 rfl rfl) hf hm rfl rfl ?_; intro a g1_ w hv hf hm; clear hv
  refine sst (vs := []) 0 hm rfl (wN rfl) rfl Try.sizeOf100 rfl rfl rfl rfl (hf.g rfl) (hf.g rfl) rfl ?_; intro w hm; simp only [List.set, lay, List.drop, List.length, List.cons_append, List.nil_append] at hm; refine sp0 1 [] [(0, .po gq0_), (1, .po gq1_), (3, .bool true)] hf fun a hf => wpList_nil ?_; refine ⟨rfl, ?_⟩; refine sr0 [] [(0, .po gq0_), (1, .po gq1_), (9, .bool true)] hf fun a hf => ?_; refine c_condT (hf.g rfl) rfl ?_; refine c_region ?_; refine sst (vs := [.slice none 0 0]) 1 hm rfl (wN rfl) rfl Try.sizeOf22 rfl rfl rfl rfl (hf.g rfl) (ec _ _) rfl ?_; intro w hm; simp only [List.set, lay, List.drop, List.length, List.cons_append, List.nil_append] at hm
  refine sst (vs := [.i 1]) 2 hm rfl (wN rfl) rfl Try.sizeOf23 rfl rfl rfl rfl (hf.g rfl) (ec _ _) rfl ?_; intro w hm; simp only [List.set, lay, List.drop, List.length, List.cons_append, List.nil_append] at hm; refine wpList_nil ?_; have hf := hf.sub (l' := []) trivial; refine b_norm ?_; refine r_none Try.results50 hf ?_; exact ⟨rfl, (hm.sel [1, 2] rfl rfl).pick trivial⟩
theorem c_image_read_api_Class__image_reader_class {W : World} {X : List Nat} {F : Nat} {r_ : Cin.image_reader} {r : Cin.Pn ((List Cin.Class) × Cin.image_reader)} {g1_ : Nat} (hm : St W (foots [Ent.blk g1_ 104 [Str r_.s]]) X W [Ent.blk g1_ 104 [Str r_.s]] []) (h : Cin.image_read_api_Class__image_reader_class F r_ = some r) :
    Calls Try.prog 51 [.po g1_, .func (.func 52) #[.po g1_] #[]].toArray W (fun e w' => pnP r (fun r => ∃ A210_ : Option Addr, ∃ c211_ : Nat, ∃ xs212_ : List Value, e = .returned (.slice A210_ r.1.length c211_) ∧ St W (foots [Ent.blk g1_ 104 [Str r_.s]]) X w' [Ent.blk g1_ 104 [Str r.2.s], Ent.row 68 4 (.slice A210_ r.1.length c211_) r.1 xs212_] [Dt.rows Cin.ty_Class xs212_ r.1]) (e = .panicked (pnE 100) ∧ St W (foots [Ent.blk g1_ 104 [Str r_.s]]) X w' [] [])) := by
  generalize hM0 : foots [Ent.blk g1_ 104 [Str r_.s]] = M0 at hm ⊢; clear hM0; refine enter Try.func51 rfl Try.ntmps51 rfl ?_; intro a hf; rw [Cin.image_read_api_Class__image_reader_class] at h; refine sr0 [] [(0, .po g1_), (1, .func (.func 52) #[.po g1_] #[])] hf fun a hf => ?_; refine sr0 [] [(0, .po g1_), (1, .func (.func 52) #[.po g1_] #[]), (5, .slice none 0 0)] hf fun a hf => ?_; refine wp_seq_k fun K hK3 => ?_; refine wp_seq_k fun K hK4 => ?_; refine c_region ?_; refine sp0 1 [] [(1, .func (.func 52) #[.po g1_] #[]), (5, .slice none 0 0), (6, .po g1_)] hf fun a hf => ?_
  obtain ⟨z5_, hr4_, h⟩ := Cin.bind_s h; rcases z5_ with _ | r3_
  · dsimp only [Cin.pnB] at h; have hc := hm; refine scp (vs := [.po g1_]) (wN rfl) rfl Try.call89 ⟨(hf.g rfl), trivial⟩ (c_image_reader_count ((hc.into 1).pick trivial) hr4_) ?_; rintro _ w hn0; obtain ⟨rfl, hn⟩ := pn_bad hn0; clear hn0; refine ⟨_, rfl, ?_⟩; have hm := hc.back 1 hn; dsimp only [List.drop, List.cons_append, List.nil_append, HAppend.hAppend, Append.append, List.append] at hm; clear hn hc; obtain rfl := Option.some.inj h; refine x_panT ?_; refine x_panT ?_; refine p_base hf ?_; refine pn_badI ?_; exact ⟨rfl, (hm.sel [] rfl rfl).pick trivial⟩
  dsimp only [Cin.pnB] at h; have hc := hm; refine sc (vs := [.po g1_]) (wN rfl) rfl Try.call89 ⟨(hf.g rfl), trivial⟩ (c_image_reader_count ((hc.into 1).pick trivial) hr4_) hf rfl rfl ?_; rintro _ w hn0; obtain ⟨rfl, hn⟩ := pn_ok hn0; clear hn0; refine ⟨_, rfl, ?_⟩; intro a hf; have hm := hc.back 1 hn; dsimp only [List.drop, List.cons_append, List.nil_append, HAppend.hAppend, Append.append, List.append] at hm; clear hn hc; refine sp0 1 [] [(1, .func (.func 52) #[.po g1_] #[]), (5, .slice none 0 0), (7, .i r3_.1), (8, .i 0)] hf fun a hf => wpList_nil (hK4 _ _ ?_); have hm := hm.nilRow (α := Cin.Class) 68 4; have hm := hm.more (y := Dt.rows Cin.ty_Class [] []) rfl; obtain ⟨j149_, h, hj149_⟩ := Cin.seqR_s h
  refine c_blockJ (fun a w => ∃ (A144_ : Option Addr) (c145_ : Nat) (l146_ : List Cin.Class) (xs147_ : List Value) (s148_ : List UInt8), Fr ⟨17, []⟩ [(5, .slice A144_ l146_.length c145_)] a ∧ St W M0 X w [Ent.row 68 4 (.slice A144_ l146_.length c145_) l146_ xs147_, Ent.blk g1_ 104 [Str s148_]] [Dt.rows Cin.ty_Class xs147_ l146_] ∧ j149_ = (.go (l146_, s148_))) (fun K hK5 => ?_) ?_
  · refine c_loop (fun (k1_ : Nat) a w => ∃ (A166_ : Option Addr) (c167_ : Nat) (l168_ : List Cin.Class) (xs169_ : List Value) (s170_ : List UInt8) (n171_ : Int), Fr ⟨17, []⟩ [(1, .func (.func 52) #[.po g1_] #[]), (5, .slice A166_ l168_.length c167_), (7, .i r3_.1), (8, .i n171_)] a ∧ St W M0 X w [Ent.row 68 4 (.slice A166_ l168_.length c167_) l168_ xs169_, Ent.blk g1_ 104 [Str s170_]] [Dt.rows Cin.ty_Class xs169_ l168_] ∧ Cin.image_read_api_Class__image_reader_class_L1 F r3_ k1_ l168_ s170_ n171_ = some j149_) F ⟨none, 0, [], [], r3_.2.s, 0, hf.sub ⟨rfl, rfl, rfl, rfl, trivial⟩, hm, h⟩ ?_ ?_
    · rintro a w ⟨A166_, c167_, l168_, xs169_, s170_, n171_, hf, hm, h⟩; exact absurd h (by simp [Cin.image_read_api_Class__image_reader_class_L1])
    rintro k1_ a w ⟨A166_, c167_, l168_, xs169_, s170_, n171_, hf, hm, h⟩ K hK6; rw [Cin.image_read_api_Class__image_reader_class_L1] at h; refine sr0 [] [(1, .func (.func 52) #[.po g1_] #[]), (5, .slice A166_ l168_.length c167_), (7, .i r3_.1), (8, .i n171_), (9, .bool (decide (n171_ < r3_.1)))] hf fun a hf => ?_; refine wp_seq_k fun K hK8 => ?_; refine cc (hf.g rfl) h (fun hb194_ h => ?_) (fun hb194_ h => ?_)
    · refine wp_skip ?_; refine hK8 _ _ ?_; refine wp_seq_k fun K hK9 => ?_; refine wp_block ?_; refine c_region ?_; refine sp0 2 [] [(1, .func (.func 52) #[.po g1_] #[]), (5, .slice A166_ l168_.length c167_), (7, .i r3_.1), (8, .i n171_), (10, .slice A166_ l168_.length c167_), (11, .func (.func 52) #[.po g1_] #[])] hf fun a hf => ?_; obtain ⟨z203_, hr196_, h⟩ := Cin.bind_s h; rcases z203_ with _ | r195_
      · dsimp only [Cin.pnB] at h; have hc := hm.sel [1, 0] rfl rfl; refine scBp (f := 52) (vs := []) (us := [.po g1_]) (cs := []) (wN rfl) rfl Try.call52 (hf.g rfl) trivial (c_image_reader_class (r_ := (⟨s170_⟩ : Cin.image_reader)) ((hc.into 1).pick trivial) hr196_) ?_; rintro _ w hn0; obtain ⟨rfl, hn⟩ := pn_bad hn0; clear hn0; refine ⟨_, rfl, ?_⟩; have hm := hc.back 1 hn; dsimp only [List.drop, List.cons_append, List.nil_append, HAppend.hAppend, Append.append, List.append] at hm; clear hn hc; obtain rfl := Option.some.inj h; obtain rfl := Option.some.inj (show some (_) = some _ from hj149_); refine x_panB ?_; refine x_panT ?_; refine x_panT ?_; refine x_panB ?_; refine x_panT ?_; refine x_panT ?_; refine p_base hf ?_; refine pn_badI ?_; exact ⟨rfl, (hm.sel [] rfl rfl).pick trivial⟩
      dsimp only [Cin.pnB] at h; have hc := hm.sel [1, 0] rfl rfl; refine scB (f := 52) (vs := []) (us := [.po g1_]) (cs := []) (wN rfl) rfl Try.call52 (hf.g rfl) trivial (c_image_reader_class (r_ := (⟨s170_⟩ : Cin.image_reader)) ((hc.into 1).pick trivial) hr196_) hf rfl rfl ?_; rintro _ w hn0; obtain ⟨A197_, c198_, xs201_, A199_, c200_, xs202_, rfl, hn⟩ := pn_ok hn0; clear hn0; refine ⟨_, rfl, ?_⟩; intro a hf; have hm := hc.back 1 hn; dsimp only [List.drop, List.cons_append, List.nil_append, HAppend.hAppend, Append.append, List.append] at hm; clear hn hc; have hm := hm.freeze 1 0 rfl rfl; dsimp only [List.eraseIdx] at hm; have hm := hm.freeze 1 2 rfl rfl; dsimp only [List.eraseIdx] at hm
      refine nnewS (cs := [Str r195_.1.Name, Str r195_.1.Super, .slice A197_ r195_.1.Fields.length c198_, .slice A199_ r195_.1.Methods.length c200_]) (wN rfl) (y_buildSlice (vs := [(0, .agg #[Str r195_.1.Name, Str r195_.1.Super, .slice A197_ r195_.1.Fields.length c198_, .slice A199_ r195_.1.Methods.length c200_])]) Try.underlying22 Try.sizeOf68 Try.zeroValue68 rfl rfl rfl ⟨⟨(hf.g rfl), rfl⟩, trivial⟩ (by kernel_rfl)) hf hm rfl rfl ?_; intro a g204_ w hv hf hm; clear hv; obtain ⟨l205_, hl206_, h⟩ := Cin.bind_s h; refine sappL (T := Cin.ty_Class) (ml := [(⟨r195_.1.Name, r195_.1.Super, r195_.1.Fields, r195_.1.Methods⟩ : Cin.Class)]) 2 0 4 hm rfl rfl rfl Try.underlying22 info68 rfl rfl hl206_ rfl rfl ⟨_, _, rfl, ⟨A197_, c198_, A199_, c200_, rfl, (hm.d 1 rfl), (hm.d 0 rfl)⟩, rfl⟩ (wN rfl) rfl (hf.g rfl) (hf.g rfl) hf rfl rfl ?_; intro a A207_ c208_ xs209_ w hf hm
      dsimp only [List.set, List.eraseIdx] at hm; refine sp0 1 [] [(1, .func (.func 52) #[.po g1_] #[]), (5, .slice A207_ l205_.length c208_), (7, .i r3_.1), (8, .i n171_)] hf fun a hf => wpList_nil (hK9 _ _ ?_); refine rg0 [] [(1, .func (.func 52) #[.po g1_] #[]), (5, .slice A207_ l205_.length c208_), (7, .i r3_.1), (8, .i (Cin.w64 (n171_ + 1)))] hf fun a hf => ?_; exact hK6 _ _ ⟨A207_, c208_, l205_, xs209_, r195_.2.s, Cin.w64 (n171_ + 1), hf.sub ⟨rfl, rfl, rfl, rfl, trivial⟩, (hm.sel [1, 0] rfl rfl).pick ⟨⟨0, rfl⟩, trivial⟩, h⟩
    refine wp_exit ?_; refine x_then (x_then (x_hit ?_)); exact hK5 _ _ ⟨A166_, c167_, l168_, xs169_, s170_, hf.sub ⟨rfl, trivial⟩, hm, (Option.some.inj h).symm⟩
  rintro a w ⟨A144_, c145_, l146_, xs147_, s148_, hf, hm, hj⟩; subst j149_; have h := hj149_; clear hj149_; dsimp only [Cin.contR] at h; refine hK3 _ _ ?_; refine sr0 [] [(4, .slice A144_ l146_.length c145_)] hf fun a hf => ?_; refine wp_ret ?_; obtain rfl := Option.some.inj h; refine r_one Try.results51 hf rfl ?_; refine pn_okI ?_; exact ⟨A144_, c145_, xs147_, rfl, (hm.sel [1, 0] rfl rfl).pick ⟨⟨0, rfl⟩, trivial⟩⟩
theorem c_image_Read {W : World} {X : List Nat} {F : Nat} {s_ : List UInt8} {r : (List Cin.Class) × Int} (hm : St W (foots []) X W [] []) (h : Cin.image_Read F s_ = some r) :
    Calls Try.prog 18 [Str s_].toArray W (fun e w' => ∃ A15_ : Option Addr, ∃ c16_ : Nat, ∃ xs17_ : List Value, e = .returned (.tuple #[.slice A15_ r.1.length c16_, .i r.2]) ∧ St W (foots []) X w' [Ent.row 68 4 (.slice A15_ r.1.length c16_) r.1 xs17_] [Dt.rows Cin.ty_Class xs17_ r.1]) := by
  generalize hM0 : foots [] = M0 at hm ⊢; clear hM0; refine enterD Try.func18 rfl Try.ntmps18 rfl ?_; intro a hf; rw [Cin.image_Read] at h; refine wp_seq_k fun K hK1 => ?_; refine c_region ?_; refine nnew (cs := [.slice none 0 0]) (wN rfl) (y_alloc Try.zeroValue22 rfl rfl) hf hm rfl rfl ?_; intro a g1_ w hv hf hm; clear hv; refine nnew (cs := [.i 0]) (wN rfl) (y_alloc Try.zeroValue23 rfl rfl) hf hm rfl rfl ?_; intro a g2_ w hv hf hm; clear hv; refine wpList_nil ?_; refine hK1 _ _ ?_; refine wp_seq_k fun K hK2 => ?_; refine sr0 [] [(0, Str s_), (2, .po g1_), (3, .po g2_), (7, .bool (decide (20000 < (s_.length : Int))))] hf fun a hf => ?_; refine cc (hf.g rfl) h (fun hb3_ h => ?_) (fun hb3_ h => ?_)
  · refine wp_seq_k fun K hK4 => ?_; refine c_region ?_; refine sst (vs := [.slice none 0 0]) 1 hm rfl (wN rfl) rfl Try.sizeOf22 rfl rfl rfl rfl (hf.g rfl) (ec _ _) rfl ?_; intro w hm; simp only [List.set, lay, List.drop, List.length, List.cons_append, List.nil_append] at hm; refine sst (vs := [.i 2]) 0 hm rfl (wN rfl) rfl Try.sizeOf23 rfl rfl rfl rfl (hf.g rfl) (ec _ _) rfl ?_; intro w hm; simp only [List.set, lay, List.drop, List.length, List.cons_append, List.nil_append] at hm; refine wpList_nil ?_; refine hK4 _ _ ?_; refine wp_ret ?_; obtain rfl := Option.some.inj h; refine x_retT ?_; refine d_of ?_; refine r_any (vs := [.slice none 0 0, .i 2]) Try.results18 hf ⟨⟨_, _, hf.g rfl, .inr ⟨Try.isAgg22, blk_cell (hm.e 1 rfl) (j := 0) rfl⟩⟩, ⟨_, _, hf.g rfl, .inr ⟨Try.isAgg23, blk_cell (hm.e 0 rfl) (j := 0) rfl⟩⟩, trivial⟩ ?_
    have hm := hm.nilRow (α := Cin.Class) 68 4; have hm := hm.more (y := Dt.rows Cin.ty_Class [] []) rfl; exact ⟨none, 0, [], rfl, (hm.sel [0] rfl rfl).pick ⟨⟨0, rfl⟩, trivial⟩⟩
  refine wp_skip ?_; refine hK2 _ _ ?_; refine wp_seq_k fun K hK5 => ?_; refine c_region ?_; refine sp0 1 [] [(0, Str s_), (2, .po g1_), (3, .po g2_), (8, .func (.func 50) #[] #[.po g1_, .po g2_])] hf fun a hf => ?_; refine sdef (wN rfl) rfl (hf.g rfl) hf rfl ?_; intro a hf; refine wpList_nil ?_; refine hK5 _ _ ?_; refine wp_seq_k fun K hK6 => ?_; refine c_region ?_; refine sp0 1 [] [(2, .po g1_), (3, .po g2_), (9, Str s_)] hf fun a hf => ?_; refine sv (wN rfl) (y_build (vs := [(0, Str s_)]) (cs := [Str s_]) Try.zeroValue104 Try.underlying104 places104 rfl ⟨⟨(hf.g rfl), rfl⟩, trivial⟩ (by kernel_rfl)) hf rfl rfl fun a hf => ?_
  refine nnew (cs := [Str s_]) (wN rfl) (y_box rfl rfl (hf.g rfl)) hf hm rfl rfl ?_; intro a g4_ w hv hf hm; clear hv; refine sp0 1 [] [(2, .po g1_), (3, .po g2_), (4, .po g4_)] hf fun a hf => wpList_nil (hK6 _ _ ?_); refine wp_seq_k fun K hK7 => ?_; refine c_region ?_; refine sp0 3 [] [(2, .po g1_), (3, .po g2_), (4, .po g4_), (12, .po g4_), (14, .func (.func 52) #[.po g4_] #[])] hf fun a hf => ?_; obtain ⟨z10_, hr6_, h⟩ := Cin.bind_s h; rcases z10_ with _ | r5_
  · dsimp only [Cin.pnB] at h; have hc := hm; refine scp (vs := [.po g4_, .func (.func 52) #[.po g4_] #[]]) (wN rfl) rfl Try.call51 ⟨(hf.g rfl), (hf.g rfl), trivial⟩ (c_image_read_api_Class__image_reader_class (r_ := (⟨s_⟩ : Cin.image_reader)) ((hc.into 1).pick trivial) hr6_) ?_; rintro _ w hn0; obtain ⟨rfl, hn⟩ := pn_bad hn0; clear hn0; refine ⟨_, rfl, ?_⟩; have hm := hc.back 1 hn; dsimp only [List.drop, List.cons_append, List.nil_append, HAppend.hAppend, Append.append, List.append] at hm; clear hn hc; refine x_panT ?_; have hc := hm.sel [1, 0] rfl rfl; refine d_ret (.panicking (pnE 100)) (.panic _) (.inr ⟨_, rfl, rfl⟩) rfl hf Try.call50 (cD50_pan (hc.into 2 |>.pick trivial)) ?_; intro w a hn hf; have hm := hc.back 2 hn; dsimp only [List.drop, List.cons_append, List.nil_append, HAppend.hAppend, Append.append, List.append] at hm
    clear hn hc; obtain rfl := Option.some.inj h; refine r_any (vs := [.slice none 0 0, .i 1]) Try.results18 hf ⟨⟨_, _, hf.g rfl, .inr ⟨Try.isAgg22, blk_cell (hm.e 0 rfl) (j := 0) rfl⟩⟩, ⟨_, _, hf.g rfl, .inr ⟨Try.isAgg23, blk_cell (hm.e 1 rfl) (j := 0) rfl⟩⟩, trivial⟩ ?_; have hm := hm.nilRow (α := Cin.Class) 68 4; have hm := hm.more (y := Dt.rows Cin.ty_Class [] []) rfl; exact ⟨none, 0, [], rfl, (hm.sel [0] rfl rfl).pick ⟨⟨0, rfl⟩, trivial⟩⟩
  dsimp only [Cin.pnB] at h; have hc := hm; refine sc (vs := [.po g4_, .func (.func 52) #[.po g4_] #[]]) (wN rfl) rfl Try.call51 ⟨(hf.g rfl), (hf.g rfl), trivial⟩ (c_image_read_api_Class__image_reader_class (r_ := (⟨s_⟩ : Cin.image_reader)) ((hc.into 1).pick trivial) hr6_) hf rfl rfl ?_; rintro _ w hn0; obtain ⟨A7_, c8_, xs9_, rfl, hn⟩ := pn_ok hn0; clear hn0; refine ⟨_, rfl, ?_⟩; intro a hf; have hm := hc.back 1 hn; dsimp only [List.drop, List.cons_append, List.nil_append, HAppend.hAppend, Append.append, List.append] at hm; clear hn hc; refine sst (vs := [.slice A7_ r5_.1.length c8_]) 3 hm rfl (wN rfl) rfl Try.sizeOf22 rfl rfl rfl rfl (hf.g rfl) (hf.g rfl) rfl ?_; intro w hm; simp only [List.set, lay, List.drop, List.length, List.cons_append, List.nil_append] at hm; refine wpList_nil ?_
  have hf := hf.sub (l' := [(2, .po g1_), (3, .po g2_), (4, .po g4_)]) ⟨rfl, rfl, rfl, trivial⟩; refine hK7 _ _ ?_; refine wp_seq_k fun K hK8 => ?_; refine wp_seq_k fun K hK9 => ?_; refine c_region ?_; refine sp1 6 [0, 0] [(2, .po g1_), (3, .po g2_), (21, .bool (!decide (r5_.2.s = [])))] [g4_, 0] (mc (blk_all (hm.e 0 rfl)) mn) hf fun a hf => ?_; rcases Bool.eq_false_or_eq_true (!decide (r5_.2.s = [])) with hb11_ | hb11_
  · have h := Cin.cond_t hb11_ h; have hf := hf.bt 21 rfl hb11_; refine sp0 4 [1, 1, 1, 1] [(2, .po g1_), (3, .po g2_), (25, .bool true)] hf fun a hf => wpList_nil (hK9 _ _ ?_); refine c_condT (hf.g rfl) rfl ?_; refine wp_seq_k fun K hK10 => ?_; refine c_region ?_; refine sst (vs := [.slice none 0 0]) 3 hm rfl (wN rfl) rfl Try.sizeOf22 rfl rfl rfl rfl (hf.g rfl) (ec _ _) rfl ?_; intro w hm; simp only [List.set, lay, List.drop, List.length, List.cons_append, List.nil_append] at hm; refine sst (vs := [.i 1]) 2 hm rfl (wN rfl) rfl Try.sizeOf23 rfl rfl rfl rfl (hf.g rfl) (ec _ _) rfl ?_; intro w hm; simp only [List.set, lay, List.drop, List.length, List.cons_append, List.nil_append] at hm; refine wpList_nil ?_; refine hK10 _ _ ?_; refine wp_ret ?_; obtain rfl := Option.some.inj h
    refine x_retT ?_; refine d_ret .returning .ret (.inl ⟨rfl, rfl⟩) rfl hf Try.call50 (cD50_ret) ?_; intro w a hv hf; have hm := hm.keep hv; clear hv; refine r_any (vs := [.slice none 0 0, .i 1]) Try.results18 hf ⟨⟨_, _, hf.g rfl, .inr ⟨Try.isAgg22, blk_cell (hm.e 3 rfl) (j := 0) rfl⟩⟩, ⟨_, _, hf.g rfl, .inr ⟨Try.isAgg23, blk_cell (hm.e 2 rfl) (j := 0) rfl⟩⟩, trivial⟩ ?_; have hm := hm.nilRow (α := Cin.Class) 68 4; have hm := hm.more (y := Dt.rows Cin.ty_Class [] []) rfl; exact ⟨none, 0, [], rfl, (hm.sel [0] rfl rfl).pick ⟨⟨0, rfl⟩, trivial⟩⟩
  have h := Cin.cond_f hb11_ h; have hf := hf.bt 21 rfl hb11_; refine sp1 1 [1, 0, 0] [(2, .po g1_), (3, .po g2_), (21, .bool false), (22, .slice A7_ r5_.1.length c8_)] [g1_, 0] (mc (blk_all (hm.e 3 rfl)) mn) hf fun a hf => ?_; obtain ⟨r12_, hr13_, h⟩ := Cin.bind_s h; have hc := hm; have hl := hc.freeze 1 0 rfl rfl; dsimp only [List.eraseIdx] at hl; refine sc (vs := [.slice A7_ r5_.1.length c8_]) (wantT hf rfl rfl rfl rfl) rfl Try.call16 ⟨(hf.g rfl), trivial⟩ (c_image_Check ((hl.into 0).pick ⟨⟨0, rfl⟩, trivial⟩) hr13_) hf rfl rfl ?_; rintro _ w ⟨rfl, hn⟩; refine ⟨_, rfl, ?_⟩; intro a hf; have hv : Ev [] _ w := hn.ev; have hm := hc.backL 0 (by exact trivial) hn; dsimp only [List.drop, List.cons_append, List.nil_append, HAppend.hAppend, Append.append, List.append] at hm; clear hn hc hl; clear hv
  refine sp0 2 [1, 1] [(2, .po g1_), (3, .po g2_), (25, .bool (!decide (r12_ = 0)))] hf fun a hf => wpList_nil (hK9 _ _ ?_); refine cc (hf.g rfl) h (fun hb14_ h => ?_) (fun hb14_ h => ?_)
  · refine wp_seq_k fun K hK11 => ?_; refine c_region ?_; refine sst (vs := [.slice none 0 0]) 3 hm rfl (wN rfl) rfl Try.sizeOf22 rfl rfl rfl rfl (hf.g rfl) (ec _ _) rfl ?_; intro w hm; simp only [List.set, lay, List.drop, List.length, List.cons_append, List.nil_append] at hm; refine sst (vs := [.i 1]) 2 hm rfl (wN rfl) rfl Try.sizeOf23 rfl rfl rfl rfl (hf.g rfl) (ec _ _) rfl ?_; intro w hm; simp only [List.set, lay, List.drop, List.length, List.cons_append, List.nil_append] at hm; refine wpList_nil ?_; refine hK11 _ _ ?_; refine wp_ret ?_; obtain rfl := Option.some.inj h; refine x_retT ?_; refine d_ret .returning .ret (.inl ⟨rfl, rfl⟩) rfl hf Try.call50 (cD50_ret) ?_; intro w a hv hf; have hm := hm.keep hv; clear hv
    refine r_any (vs := [.slice none 0 0, .i 1]) Try.results18 hf ⟨⟨_, _, hf.g rfl, .inr ⟨Try.isAgg22, blk_cell (hm.e 3 rfl) (j := 0) rfl⟩⟩, ⟨_, _, hf.g rfl, .inr ⟨Try.isAgg23, blk_cell (hm.e 2 rfl) (j := 0) rfl⟩⟩, trivial⟩ ?_; have hm := hm.nilRow (α := Cin.Class) 68 4; have hm := hm.more (y := Dt.rows Cin.ty_Class [] []) rfl; exact ⟨none, 0, [], rfl, (hm.sel [0] rfl rfl).pick ⟨⟨0, rfl⟩, trivial⟩⟩
  refine wp_skip ?_; refine hK8 _ _ ?_; refine wp_seq_k fun K hK12 => ?_; refine c_region ?_; refine sp1 1 [0, 0] [(2, .po g1_), (3, .po g2_), (26, .slice A7_ r5_.1.length c8_)] [g1_, 0] (mc (blk_all (hm.e 3 rfl)) mn) hf fun a hf => ?_; refine sst (vs := [.slice A7_ r5_.1.length c8_]) 3 hm rfl (wN rfl) rfl Try.sizeOf22 rfl rfl rfl rfl (hf.g rfl) (hf.g rfl) rfl ?_; intro w hm; simp only [List.set, lay, List.drop, List.length, List.cons_append, List.nil_append] at hm; refine sst (vs := [.i 0]) 2 hm rfl (wN rfl) rfl Try.sizeOf23 rfl rfl rfl rfl (hf.g rfl) (ec _ _) rfl ?_; intro w hm; simp only [List.set, lay, List.drop, List.length, List.cons_append, List.nil_append] at hm; refine wpList_nil ?_; refine hK12 _ _ ?_; refine wp_ret ?_; obtain rfl := Option.some.inj h
  refine d_ret .returning .ret (.inl ⟨rfl, rfl⟩) rfl hf Try.call50 (cD50_ret) ?_; intro w a hv hf; have hm := hm.keep hv; clear hv; refine r_any (vs := [.slice A7_ r5_.1.length c8_, .i 0]) Try.results18 hf ⟨⟨_, _, hf.g rfl, .inr ⟨Try.isAgg22, blk_cell (hm.e 3 rfl) (j := 0) rfl⟩⟩, ⟨_, _, hf.g rfl, .inr ⟨Try.isAgg23, blk_cell (hm.e 2 rfl) (j := 0) rfl⟩⟩, trivial⟩ ?_; exact ⟨A7_, c8_, xs9_, rfl, (hm.sel [1] rfl rfl).pick ⟨⟨0, rfl⟩, trivial⟩⟩
end Go.Proofs.Ytfbkanhgjpdohaa
namespace Cin
def L_base : Option (List Class) :=
  some [(⟨[79, 98, 106, 101, 99, 116], [], [], [(⟨[109, 97, 105, 110], true, [], (⟨0, []⟩ : Kind), 2, 0, [1, 0, 7, 31, 27], []⟩ : Method)]⟩ : Class), (⟨[69, 114, 114, 111, 114], [79, 98, 106, 101, 99, 116], [(⟨[99, 111, 100, 101], (⟨1, []⟩ : Kind)⟩ : Field)], []⟩ : Class)]
def L_imageBegun (F : Nat) : Option (Bool) :=
  (L_base).bind fun r1_ =>
  (image_Write F r1_).bind fun r6_ =>
  (image_Read F r6_.1).bind fun r8_ =>
  cond (((decide (r6_.2 = 0)) && (decide (r8_.2 = 0))) && (decide ((r8_.1.length : Int) = 2))) ((idx r8_.1 1).bind fun x14_ =>
  cond (decide (x14_.Super = [79, 98, 106, 101, 99, 116])) ((L_base).bind fun r27_ =>
  (image_Check F r27_).bind fun r32_ =>
  some (decide (r32_ = 0))) (some false)) (some false)
def L_ImageBack (F : Nat) (l_ : List Class) (s_ : List UInt8) : Option (Bool) :=
  (L_imageBegun F).bind fun r3_ =>
  cond (!r3_) (some false) (seqR (α := Unit) ((image_Write F l_).bind fun r19_ =>
  cond (decide (r19_.2 = 0)) ((image_Read F r19_.1).bind fun r22_ =>
  cond (!decide (r22_.2 = 0)) (some (.out false)) ((R_SameClasses F l_ r22_.1).bind fun r28_ =>
  cond (!r28_) (some (.out false)) (some (.go ())))) (some (.go ()))) fun (_ : Unit) =>
  (image_Read F s_).bind fun r31_ =>
  cond (!decide (r31_.2 = 0)) (some true) ((image_Write F r31_.1).bind fun r37_ =>
  some ((decide (r37_.2 = 0)) && (decide (r37_.1 = s_)))))
end Cin
namespace Go.Proofs.Ytfbkanhgjpdohaa
open Go Go.RowKit Gg
set_option maxHeartbeats 4000000
set_option maxRecDepth 20000
theorem c_L_base {W : World} {X : List Nat} {r : List Cin.Class} (hm : St W (foots []) X W [] []) (h : Cin.L_base = some r) :
    Calls Try.prog 48 [].toArray W (fun e w' => ∃ A4_ : Option Addr, ∃ c5_ : Nat, ∃ xs6_ : List Value, e = .returned (.slice A4_ r.length c5_) ∧ St W (foots []) X w' [Ent.row 68 4 (.slice A4_ r.length c5_) r xs6_] [Dt.rows Cin.ty_Class xs6_ r]) := by
  generalize hM0 : foots [] = M0 at hm ⊢; clear hM0; refine enter Try.func48 rfl Try.ntmps48 rfl ?_; intro a hf; rw [Cin.L_base] at h; refine sr0 [] [] hf fun a hf => ?_; refine wp_seq_k fun K hK2 => ?_; refine c_region ?_; refine sv (wN rfl) (y_build (vs := [(0, Str [109, 97, 105, 110]), (1, .bool true), (4, .i 2), (6, Str [1, 0, 7, 31, 27])]) (cs := [Str [109, 97, 105, 110], .bool true, .slice none 0 0, .i 0, Str [], .i 2, .i 0, Str [1, 0, 7, 31, 27], .slice none 0 0]) Try.zeroValue74 Try.underlying74 places74 rfl ⟨⟨(ec _ _), rfl⟩, ⟨(ec _ _), rfl⟩, ⟨(ec _ _), rfl⟩, ⟨(ec _ _), rfl⟩, trivial⟩ (by kernel_rfl)) hf rfl rfl fun a hf => ?_
  refine nnewS (cs := [Str [109, 97, 105, 110], .bool true, .slice none 0 0, .i 0, Str [], .i 2, .i 0, Str [1, 0, 7, 31, 27], .slice none 0 0]) (wN rfl) (y_buildSlice (vs := [(0, .agg #[Str [109, 97, 105, 110], .bool true, .slice none 0 0, .i 0, Str [], .i 2, .i 0, Str [1, 0, 7, 31, 27], .slice none 0 0])]) Try.underlying66 Try.sizeOf74 Try.zeroValue74 rfl rfl rfl ⟨⟨(hf.g rfl), rfl⟩, trivial⟩ (by kernel_rfl)) hf hm rfl rfl ?_; intro a g1_ w hv hf hm; clear hv
  refine sv (wN rfl) (y_build (vs := [(0, Str [79, 98, 106, 101, 99, 116]), (3, .slice (some ⟨g1_, 0, none⟩) 1 1)]) (cs := [Str [79, 98, 106, 101, 99, 116], Str [], .slice none 0 0, .slice (some ⟨g1_, 0, none⟩) 1 1]) Try.zeroValue68 Try.underlying68 places68 rfl ⟨⟨(ec _ _), rfl⟩, ⟨(hf.g rfl), rfl⟩, trivial⟩ (by kernel_rfl)) hf rfl rfl fun a hf => ?_; refine sv (wN rfl) (y_build (vs := [(0, .i 1)]) (cs := [.i 1, Str []]) Try.zeroValue71 Try.underlying71 places71 rfl ⟨⟨(ec _ _), rfl⟩, trivial⟩ (by kernel_rfl)) hf rfl rfl fun a hf => ?_
  refine sv (wN rfl) (y_build (vs := [(0, Str [99, 111, 100, 101]), (1, .agg #[.i 1, Str []])]) (cs := [Str [99, 111, 100, 101], .i 1, Str []]) Try.zeroValue89 Try.underlying89 places89 rfl ⟨⟨(ec _ _), rfl⟩, ⟨(hf.g rfl), rfl⟩, trivial⟩ (by kernel_rfl)) hf rfl rfl fun a hf => ?_; refine nnewS (cs := [Str [99, 111, 100, 101], .i 1, Str []]) (wN rfl) (y_buildSlice (vs := [(0, .agg #[Str [99, 111, 100, 101], .i 1, Str []])]) Try.underlying65 Try.sizeOf89 Try.zeroValue89 rfl rfl rfl ⟨⟨(hf.g rfl), rfl⟩, trivial⟩ (by kernel_rfl)) hf hm rfl rfl ?_; intro a g2_ w hv hf hm; clear hv
  refine sv (wN rfl) (y_build (vs := [(0, Str [69, 114, 114, 111, 114]), (1, Str [79, 98, 106, 101, 99, 116]), (2, .slice (some ⟨g2_, 0, none⟩) 1 1)]) (cs := [Str [69, 114, 114, 111, 114], Str [79, 98, 106, 101, 99, 116], .slice (some ⟨g2_, 0, none⟩) 1 1, .slice none 0 0]) Try.zeroValue68 Try.underlying68 places68 rfl ⟨⟨(ec _ _), rfl⟩, ⟨(ec _ _), rfl⟩, ⟨(hf.g rfl), rfl⟩, trivial⟩ (by kernel_rfl)) hf rfl rfl fun a hf => ?_; have hm := hm.litRow (sz := 9) 1 [(⟨[109, 97, 105, 110], true, [], (⟨0, []⟩ : Cin.Kind), 2, 0, [1, 0, 7, 31, 27], []⟩ : Cin.Method)] rfl rfl rfl rfl; dsimp only [List.set] at hm
  have hm := hm.more (y := Dt.rows Cin.ty_Method [Str [109, 97, 105, 110], .bool true, .slice none 0 0, .i 0, Str [], .i 2, .i 0, Str [1, 0, 7, 31, 27], .slice none 0 0] [(⟨[109, 97, 105, 110], true, [], (⟨0, []⟩ : Cin.Kind), 2, 0, [1, 0, 7, 31, 27], []⟩ : Cin.Method)]) ⟨_, _, rfl, ⟨none, 0, none, 0, rfl, (nil_ok _ _ _), (nil_ok _ _ _)⟩, rfl⟩; have hm := hm.freeze 1 0 rfl rfl; dsimp only [List.eraseIdx] at hm; have hm := hm.litRow (sz := 3) 0 [(⟨[99, 111, 100, 101], (⟨1, []⟩ : Cin.Kind)⟩ : Cin.Field)] rfl rfl rfl rfl; dsimp only [List.set] at hm; have hm := hm.more (y := Dt.rows Cin.ty_Field [Str [99, 111, 100, 101], .i 1, Str []] [(⟨[99, 111, 100, 101], (⟨1, []⟩ : Cin.Kind)⟩ : Cin.Field)]) ⟨_, _, rfl, rfl, rfl⟩; have hm := hm.freeze 0 0 rfl rfl; dsimp only [List.eraseIdx] at hm
  refine nnewS (cs := [Str [79, 98, 106, 101, 99, 116], Str [], .slice none 0 0, .slice (some ⟨g1_, 0, none⟩) [(⟨[109, 97, 105, 110], true, [], (⟨0, []⟩ : Cin.Kind), 2, 0, [1, 0, 7, 31, 27], []⟩ : Cin.Method)].length 1, Str [69, 114, 114, 111, 114], Str [79, 98, 106, 101, 99, 116], .slice (some ⟨g2_, 0, none⟩) [(⟨[99, 111, 100, 101], (⟨1, []⟩ : Cin.Kind)⟩ : Cin.Field)].length 1, .slice none 0 0]) (wN rfl) (y_buildSlice (vs := [(0, .agg #[Str [79, 98, 106, 101, 99, 116], Str [], .slice none 0 0, .slice (some ⟨g1_, 0, none⟩) [(⟨[109, 97, 105, 110], true, [], (⟨0, []⟩ : Cin.Kind), 2, 0, [1, 0, 7, 31, 27], []⟩ : Cin.Method)].length 1]), (1, .agg #[Str [69, 114, 114, 111, 114], Str [79, 98, 106, 101, 99, 116], .slice (some ⟨g2_, 0, none⟩) [(⟨[99, 111, 100, 101], (⟨1, []⟩ : Cin.Kind)⟩ : Cin.Field)].length 1, .slice none 0 0])]) Try.underlying22 Try.sizeOf68 Try.zeroValue68 rfl rfl rfl ⟨⟨(hf.g rfl), rfl⟩, ⟨(hf.g rfl), rfl⟩, trivial⟩ (by kernel_rfl)) hf hm rfl rfl ?_
  intro a g3_ w hv hf hm; clear hv; refine sp0 1 [] [(0, .slice (some ⟨g3_, 0, none⟩) 2 2)] hf fun a hf => wpList_nil (hK2 _ _ ?_); refine wp_ret ?_; obtain rfl := Option.some.inj h; refine r_one Try.results48 hf rfl ?_; have hm := hm.litRow (sz := 4) 0 [(⟨[79, 98, 106, 101, 99, 116], [], [], [(⟨[109, 97, 105, 110], true, [], (⟨0, []⟩ : Cin.Kind), 2, 0, [1, 0, 7, 31, 27], []⟩ : Cin.Method)]⟩ : Cin.Class), (⟨[69, 114, 114, 111, 114], [79, 98, 106, 101, 99, 116], [(⟨[99, 111, 100, 101], (⟨1, []⟩ : Cin.Kind)⟩ : Cin.Field)], []⟩ : Cin.Class)] rfl rfl rfl rfl; dsimp only [List.set] at hm
  have hm := hm.more (y := Dt.rows Cin.ty_Class [Str [79, 98, 106, 101, 99, 116], Str [], .slice none 0 0, .slice (some ⟨g1_, 0, none⟩) [(⟨[109, 97, 105, 110], true, [], (⟨0, []⟩ : Cin.Kind), 2, 0, [1, 0, 7, 31, 27], []⟩ : Cin.Method)].length 1, Str [69, 114, 114, 111, 114], Str [79, 98, 106, 101, 99, 116], .slice (some ⟨g2_, 0, none⟩) [(⟨[99, 111, 100, 101], (⟨1, []⟩ : Cin.Kind)⟩ : Cin.Field)].length 1, .slice none 0 0] [(⟨[79, 98, 106, 101, 99, 116], [], [], [(⟨[109, 97, 105, 110], true, [], (⟨0, []⟩ : Cin.Kind), 2, 0, [1, 0, 7, 31, 27], []⟩ : Cin.Method)]⟩ : Cin.Class), (⟨[69, 114, 114, 111, 114], [79, 98, 106, 101, 99, 116], [(⟨[99, 111, 100, 101], (⟨1, []⟩ : Cin.Kind)⟩ : Cin.Field)], []⟩ : Cin.Class)]) ⟨_, _, rfl, ⟨none, 0, (some ⟨g1_, 0, none⟩), 1, rfl, (nil_ok _ _ _), (hm.d 2 rfl)⟩, ⟨_, _, rfl, ⟨(some ⟨g2_, 0, none⟩), 1, none, 0, rfl, (hm.d 0 rfl), (nil_ok _ _ _)⟩, rfl⟩⟩
  exact ⟨(some ⟨g3_, 0, none⟩), 2, [Str [79, 98, 106, 101, 99, 116], Str [], .slice none 0 0, .slice (some ⟨g1_, 0, none⟩) [(⟨[109, 97, 105, 110], true, [], (⟨0, []⟩ : Cin.Kind), 2, 0, [1, 0, 7, 31, 27], []⟩ : Cin.Method)].length 1, Str [69, 114, 114, 111, 114], Str [79, 98, 106, 101, 99, 116], .slice (some ⟨g2_, 0, none⟩) [(⟨[99, 111, 100, 101], (⟨1, []⟩ : Cin.Kind)⟩ : Cin.Field)].length 1, .slice none 0 0], rfl, (hm.sel [0] rfl rfl).pick ⟨⟨0, rfl⟩, trivial⟩⟩
theorem c_L_imageBegun {W : World} {X : List Nat} {F : Nat} {r : Bool} (hm : St W (foots []) X W [] []) (h : Cin.L_imageBegun F = some r) :
    Calls Try.prog 15 [].toArray W (fun e w' => e = .returned (.bool r) ∧ St W (foots []) X w' [] []) := by
  generalize hM0 : foots [] = M0 at hm ⊢; clear hM0; refine enter Try.func15 rfl Try.ntmps15 rfl ?_; intro a hf; rw [Cin.L_imageBegun] at h; refine sr0 [] [] hf fun a hf => ?_; refine wp_seq_k fun K hK2 => ?_; refine c_region ?_; obtain ⟨r1_, hr2_, h⟩ := Cin.bind_s h; have hc := hm; refine sc (vs := []) (wN rfl) rfl Try.call48 trivial (c_L_base ((hc.into 0).pick trivial) hr2_) hf rfl rfl ?_; rintro _ w ⟨A3_, c4_, xs5_, rfl, hn⟩; refine ⟨_, rfl, ?_⟩; intro a hf; have hv : Ev [] _ w := hn.ev; have hm := hc.back 0 hn; dsimp only [List.drop, List.cons_append, List.nil_append, HAppend.hAppend, Append.append, List.append] at hm; clear hn hc; clear hv; obtain ⟨r6_, hr7_, h⟩ := Cin.bind_s h; have hc := hm; have hl := hc.freeze 0 0 rfl rfl; dsimp only [List.eraseIdx] at hl
  refine sc (vs := [.slice A3_ r1_.length c4_]) (wN rfl) rfl Try.call12 ⟨(hf.g rfl), trivial⟩ (c_image_Write ((hl.into 0).pick ⟨⟨0, rfl⟩, trivial⟩) hr7_) hf rfl rfl ?_; rintro _ w ⟨rfl, hn⟩; refine ⟨_, rfl, ?_⟩; intro a hf; have hv : Ev [] _ w := hn.ev; have hm := hc.backL 0 (by exact trivial) hn; dsimp only [List.drop, List.cons_append, List.nil_append, HAppend.hAppend, Append.append, List.append] at hm; clear hn hc hl; clear hv; refine sp0 5 [] [(1, Str r6_.1), (2, .i r6_.2)] hf fun a hf => wpList_nil (hK2 _ _ ?_); refine wp_seq_k fun K hK3 => ?_; refine c_region ?_; refine sp0 1 [] [(2, .i r6_.2), (11, Str r6_.1)] hf fun a hf => ?_; obtain ⟨r8_, hr9_, h⟩ := Cin.bind_s h; have hc := hm
  refine sc (vs := [Str r6_.1]) (wN rfl) rfl Try.call18 ⟨(hf.g rfl), trivial⟩ (c_image_Read ((hc.into 0).pick trivial) hr9_) hf rfl rfl ?_; rintro _ w ⟨A10_, c11_, xs12_, rfl, hn⟩; refine ⟨_, rfl, ?_⟩; intro a hf; have hv : Ev [] _ w := hn.ev; have hm := hc.back 0 hn; dsimp only [List.drop, List.cons_append, List.nil_append, HAppend.hAppend, Append.append, List.append] at hm; clear hn hc; clear hv; refine sp0 5 [] [(2, .i r6_.2), (3, .slice A10_ r8_.1.length c11_), (4, .i r8_.2)] hf fun a hf => wpList_nil (hK3 _ _ ?_); refine wp_seq_k fun K hK4 => ?_; refine c_region ?_; refine sp0 12 [0, 0, 0, 0, 0, 0, 0] [(3, .slice A10_ r8_.1.length c11_), (26, .bool (((decide (r6_.2 = 0)) && (decide (r8_.2 = 0))) && (decide ((r8_.1.length : Int) = 2))))] hf fun a hf => ?_
  rcases Bool.eq_false_or_eq_true (((decide (r6_.2 = 0)) && (decide (r8_.2 = 0))) && (decide ((r8_.1.length : Int) = 2))) with hb13_ | hb13_
  · have h := Cin.cond_t hb13_ h; have hf := hf.bt 26 rfl hb13_; refine sp0 1 [1] [(26, .bool true), (27, .slice A10_ r8_.1.length c11_)] hf fun a hf => ?_; obtain ⟨x14_, hx15_, h⟩ := Cin.bind_s h; obtain ⟨hA16_, hi17_, _, ⟨A19_, c20_, A21_, c22_, rfl, hd24_, hd25_⟩, hc18_⟩ := row_at (hm.e 0 rfl) (hm.d 0 rfl) hx15_; have hm := hm.more (y := sl Cin.ty_Field A19_ c20_ x14_.Fields) hd24_; have hm := hm.more (y := sl Cin.ty_Method A21_ c22_ x14_.Methods) hd25_; refine sv (wantT hf rfl rfl rfl rfl) (y_idx Try.underlying22 Try.sizeOf68 rfl (hf.g rfl) (ec _ _) hA16_ hi17_) hf rfl rfl fun a hf => ?_
    refine sp1 5 [1, 1, 0, 1, 1, 1] [(33, .bool (decide (x14_.Super = [79, 98, 106, 101, 99, 116])))] [bO A10_, oO A10_ + (1 : Int).toNat * 4 + 1] (mc hc18_ mn) hf fun a hf => ?_; rcases Bool.eq_false_or_eq_true (decide (x14_.Super = [79, 98, 106, 101, 99, 116])) with hb26_ | hb26_
    · have h := Cin.cond_t hb26_ h; have hf := hf.bt 33 rfl hb26_; obtain ⟨r27_, hr28_, h⟩ := Cin.bind_s h; have hc := hm; refine sc (vs := []) (wantT hf rfl rfl rfl rfl) rfl Try.call48 trivial (c_L_base ((hc.into 0).pick trivial) hr28_) hf rfl rfl ?_; rintro _ w ⟨A29_, c30_, xs31_, rfl, hn⟩; refine ⟨_, rfl, ?_⟩; intro a hf; have hv : Ev [] _ w := hn.ev; have hm := hc.back 0 hn; dsimp only [List.drop, List.cons_append, List.nil_append, HAppend.hAppend, Append.append, List.append] at hm; clear hn hc; clear hv; obtain ⟨r32_, hr33_, h⟩ := Cin.bind_s h; have hc := hm; have hl := hc.freeze 0 0 rfl rfl; dsimp only [List.eraseIdx] at hl; refine sc (vs := [.slice A29_ r27_.length c30_]) (wantT hf rfl rfl rfl rfl) rfl Try.call16 ⟨(hf.g rfl), trivial⟩ (c_image_Check ((hl.into 0).pick ⟨⟨0, rfl⟩, trivial⟩) hr33_) hf rfl rfl ?_; rintro _ w ⟨rfl, hn⟩; refine ⟨_, rfl, ?_⟩; intro a hf
      have hv : Ev [] _ w := hn.ev; have hm := hc.backL 0 (by exact trivial) hn; dsimp only [List.drop, List.cons_append, List.nil_append, HAppend.hAppend, Append.append, List.append] at hm; clear hn hc hl; clear hv; refine sp0 3 [1, 1] [(0, .bool (decide (r32_ = 0)))] hf fun a hf => wpList_nil (hK4 _ _ ?_); refine wp_ret ?_; obtain rfl := Option.some.inj h; refine r_one Try.results15 hf rfl ?_; exact ⟨rfl, (hm.sel [] rfl rfl).pick trivial⟩
    have h := Cin.cond_f hb26_ h; have hf := hf.bt 33 rfl hb26_; refine sp0 5 [1, 1, 1, 1] [(0, .bool false)] hf fun a hf => wpList_nil (hK4 _ _ ?_); refine wp_ret ?_; obtain rfl := Option.some.inj h; refine r_one Try.results15 hf rfl ?_; exact ⟨rfl, (hm.sel [] rfl rfl).pick trivial⟩
  have h := Cin.cond_f hb13_ h; have hf := hf.bt 26 rfl hb13_; refine sp0 12 [1, 1, 1, 1, 1, 1, 1, 1, 1, 1] [(0, .bool false)] hf fun a hf => wpList_nil (hK4 _ _ ?_); refine wp_ret ?_; obtain rfl := Option.some.inj h; refine r_one Try.results15 hf rfl ?_; exact ⟨rfl, (hm.sel [] rfl rfl).pick trivial⟩
theorem c_L_ImageBack {W : World} {X : List Nat} {F : Nat} {l_ : List Cin.Class} {s_ : List UInt8} {r : Bool} {A1_ : Option Addr} {c2_ : Nat} (hm : St W (foots []) X W [] [sl Cin.ty_Class A1_ c2_ l_]) (h : Cin.L_ImageBack F l_ s_ = some r) :
    Calls Try.prog 5 [.slice A1_ l_.length c2_, Str s_].toArray W (fun e w' => e = .returned (.bool r) ∧ St W (foots []) X w' [] []) := by
  generalize hM0 : foots [] = M0 at hm ⊢; clear hM0; refine enter Try.func5 rfl Try.ntmps5 rfl ?_; intro a hf; rw [Cin.L_ImageBack] at h; refine sr0 [] [(0, .slice A1_ l_.length c2_), (1, Str s_)] hf fun a hf => ?_; refine wp_seq_k fun K hK2 => ?_; refine wp_seq_k fun K hK3 => ?_; refine c_region ?_; obtain ⟨r3_, hr4_, h⟩ := Cin.bind_s h; have hc := hm; refine sc (vs := []) (wN rfl) rfl Try.call15 trivial (c_L_imageBegun ((hc.into 0).pick trivial) hr4_) hf rfl rfl ?_; rintro _ w ⟨rfl, hn⟩; refine ⟨_, rfl, ?_⟩; intro a hf; have hv : Ev [] _ w := hn.ev; have hm := hc.back 0 hn; dsimp only [List.drop, List.cons_append, List.nil_append, HAppend.hAppend, Append.append, List.append] at hm; clear hn hc; clear hv
  refine sp0 1 [] [(0, .slice A1_ l_.length c2_), (1, Str s_), (13, .bool (!r3_))] hf fun a hf => wpList_nil (hK3 _ _ ?_); refine cc (hf.g rfl) h (fun hb5_ h => ?_) (fun hb5_ h => ?_)
  · refine sr0 [] [(4, .bool false)] hf fun a hf => ?_; refine wp_ret ?_; obtain rfl := Option.some.inj h; refine x_retT ?_; refine r_one Try.results5 hf rfl ?_; exact ⟨rfl, (hm.sel [] rfl rfl).pick trivial⟩
  refine wp_skip ?_; refine hK2 _ _ ?_; obtain ⟨j18_, h, hj18_⟩ := Cin.seqR_s h; refine c_meet (fun a w => Fr ⟨53, []⟩ [(1, Str s_)] a ∧ St W M0 X w [] [sl Cin.ty_Class A1_ c2_ l_] ∧ j18_ = (.go ())) (fun K hK5 => ?_) ?_
  · refine wp_seq_k fun K hK6 => ?_; refine c_region ?_; refine sp0 1 [] [(0, .slice A1_ l_.length c2_), (1, Str s_), (15, .slice A1_ l_.length c2_)] hf fun a hf => ?_; obtain ⟨r19_, hr20_, h⟩ := Cin.bind_s h; have hc := hm; refine sc (vs := [.slice A1_ l_.length c2_]) (wN rfl) rfl Try.call12 ⟨(hf.g rfl), trivial⟩ (c_image_Write ((hc.into 0).pick ⟨⟨0, rfl⟩, trivial⟩) hr20_) hf rfl rfl ?_; rintro _ w ⟨rfl, hn⟩; refine ⟨_, rfl, ?_⟩; intro a hf; have hv : Ev [] _ w := hn.ev; have hm := hc.back 0 hn; dsimp only [List.drop, List.cons_append, List.nil_append, HAppend.hAppend, Append.append, List.append] at hm; clear hn hc; clear hv; refine sp0 5 [] [(0, .slice A1_ l_.length c2_), (1, Str s_), (5, Str r19_.1), (6, .i r19_.2)] hf fun a hf => wpList_nil (hK6 _ _ ?_); refine wp_seq_k fun K hK7 => ?_
    refine rg0 [] [(0, .slice A1_ l_.length c2_), (1, Str s_), (5, Str r19_.1), (20, .bool (decide (r19_.2 = 0)))] hf fun a hf => hK7 _ _ ?_; refine cc (hf.g rfl) h (fun hb21_ h => ?_) (fun hb21_ h => ?_)
    · refine wp_seq_k fun K hK8 => ?_; refine c_region ?_; refine sp0 1 [] [(0, .slice A1_ l_.length c2_), (1, Str s_), (22, Str r19_.1)] hf fun a hf => ?_; obtain ⟨r22_, hr23_, h⟩ := Cin.bind_s h; have hc := hm; refine sc (vs := [Str r19_.1]) (wN rfl) rfl Try.call18 ⟨(hf.g rfl), trivial⟩ (c_image_Read ((hc.into 0).pick trivial) hr23_) hf rfl rfl ?_; rintro _ w ⟨A24_, c25_, xs26_, rfl, hn⟩; refine ⟨_, rfl, ?_⟩; intro a hf; have hv : Ev [] _ w := hn.ev; have hm := hc.back 0 hn; dsimp only [List.drop, List.cons_append, List.nil_append, HAppend.hAppend, Append.append, List.append] at hm; clear hn hc; clear hv; refine sp0 5 [] [(0, .slice A1_ l_.length c2_), (1, Str s_), (7, .slice A24_ r22_.1.length c25_), (8, .i r22_.2)] hf fun a hf => wpList_nil (hK8 _ _ ?_); refine wp_seq_k fun K hK9 => ?_; refine c_region ?_
      refine sp0 3 [] [(0, .slice A1_ l_.length c2_), (1, Str s_), (7, .slice A24_ r22_.1.length c25_), (28, .bool (!decide (r22_.2 = 0)))] hf fun a hf => ?_; rcases Bool.eq_false_or_eq_true (!decide (r22_.2 = 0)) with hb27_ | hb27_
      · have h := Cin.cond_t hb27_ h; have hf := hf.bt 28 rfl hb27_; refine sp0 5 [1, 1, 1, 1, 1] [(1, Str s_), (33, .bool true)] hf fun a hf => wpList_nil (hK9 _ _ ?_); refine c_condT (hf.g rfl) rfl ?_; refine sr0 [] [(4, .bool false)] hf fun a hf => ?_; refine wp_ret ?_; obtain rfl := Option.some.inj h; obtain rfl := Option.some.inj (show some (_) = some _ from hj18_); refine x_retT ?_; refine r_one Try.results5 hf rfl ?_; exact ⟨rfl, (hm.sel [] rfl rfl).pick trivial⟩
      have h := Cin.cond_f hb27_ h; have hf := hf.bt 28 rfl hb27_; refine sp0 2 [1, 1] [(1, Str s_), (28, .bool false), (29, .slice A1_ l_.length c2_), (30, .slice A24_ r22_.1.length c25_)] hf fun a hf => ?_; obtain ⟨r28_, hr29_, h⟩ := Cin.bind_s h; have hc := hm; have hl := hc.freeze 0 0 rfl rfl; dsimp only [List.eraseIdx] at hl; refine sc (vs := [.slice A1_ l_.length c2_, .slice A24_ r22_.1.length c25_]) (wantT hf rfl rfl rfl rfl) rfl Try.call20 ⟨(hf.g rfl), (hf.g rfl), trivial⟩ (c_R_SameClasses ((hl.into 0).pick ⟨⟨2, rfl⟩, ⟨0, rfl⟩, trivial⟩) hr29_) hf rfl rfl ?_; rintro _ w ⟨rfl, hn⟩; refine ⟨_, rfl, ?_⟩; intro a hf; have hv : Ev [] _ w := hn.ev; have hm := hc.backL 0 (by exact trivial) hn; dsimp only [List.drop, List.cons_append, List.nil_append, HAppend.hAppend, Append.append, List.append] at hm; clear hn hc hl; clear hv
      refine sp0 2 [1, 1] [(1, Str s_), (33, .bool (!r28_))] hf fun a hf => wpList_nil (hK9 _ _ ?_); refine cc (hf.g rfl) h (fun hb30_ h => ?_) (fun hb30_ h => ?_)
      · refine sr0 [] [(4, .bool false)] hf fun a hf => ?_; refine wp_ret ?_; obtain rfl := Option.some.inj h; obtain rfl := Option.some.inj (show some (_) = some _ from hj18_); refine x_retT ?_; refine r_one Try.results5 hf rfl ?_; exact ⟨rfl, (hm.sel [] rfl rfl).pick trivial⟩
      refine wp_skip ?_; exact hK5 _ _ ⟨hf.sub ⟨rfl, trivial⟩, (hm.sel [] rfl rfl).pick ⟨⟨1, rfl⟩, trivial⟩, (Option.some.inj h).symm⟩
    refine wp_skip ?_; exact hK5 _ _ ⟨hf.sub ⟨rfl, trivial⟩, hm, (Option.some.inj h).symm⟩
  rintro a w ⟨hf, hm, hj⟩; subst j18_; have h := hj18_; clear hj18_; dsimp only [Cin.contR] at h; refine wp_seq_k fun K hK12 => ?_; refine c_region ?_; refine sp0 1 [] [(1, Str s_), (35, Str s_)] hf fun a hf => ?_; obtain ⟨r31_, hr32_, h⟩ := Cin.bind_s h; have hc := hm; refine sc (vs := [Str s_]) (wN rfl) rfl Try.call18 ⟨(hf.g rfl), trivial⟩ (c_image_Read ((hc.into 0).pick trivial) hr32_) hf rfl rfl ?_; rintro _ w ⟨A33_, c34_, xs35_, rfl, hn⟩; refine ⟨_, rfl, ?_⟩; intro a hf; have hv : Ev [] _ w := hn.ev; have hm := hc.back 0 hn; dsimp only [List.drop, List.cons_append, List.nil_append, HAppend.hAppend, Append.append, List.append] at hm; clear hn hc; clear hv; refine sp0 5 [] [(1, Str s_), (9, .slice A33_ r31_.1.length c34_), (10, .i r31_.2)] hf fun a hf => wpList_nil (hK12 _ _ ?_); refine wp_seq_k fun K hK13 => ?_
  refine sr0 [] [(1, Str s_), (9, .slice A33_ r31_.1.length c34_), (40, .bool (!decide (r31_.2 = 0)))] hf fun a hf => ?_; refine cc (hf.g rfl) h (fun hb36_ h => ?_) (fun hb36_ h => ?_)
  · refine sr0 [] [(4, .bool true)] hf fun a hf => ?_; refine wp_ret ?_; obtain rfl := Option.some.inj h; refine x_retT ?_; refine r_one Try.results5 hf rfl ?_; exact ⟨rfl, (hm.sel [] rfl rfl).pick trivial⟩
  refine wp_skip ?_; refine hK13 _ _ ?_; refine wp_seq_k fun K hK16 => ?_; refine c_region ?_; refine sp0 1 [] [(1, Str s_), (42, .slice A33_ r31_.1.length c34_)] hf fun a hf => ?_; obtain ⟨r37_, hr38_, h⟩ := Cin.bind_s h; have hc := hm; have hl := hc.freeze 0 0 rfl rfl; dsimp only [List.eraseIdx] at hl; refine sc (vs := [.slice A33_ r31_.1.length c34_]) (wN rfl) rfl Try.call12 ⟨(hf.g rfl), trivial⟩ (c_image_Write ((hl.into 0).pick ⟨⟨0, rfl⟩, trivial⟩) hr38_) hf rfl rfl ?_; rintro _ w ⟨rfl, hn⟩; refine ⟨_, rfl, ?_⟩; intro a hf; have hv : Ev [] _ w := hn.ev; have hm := hc.backL 0 (by exact trivial) hn; dsimp only [List.drop, List.cons_append, List.nil_append, HAppend.hAppend, Append.append, List.append] at hm; clear hn hc hl; clear hv
  refine sp0 5 [] [(1, Str s_), (10, .i r37_.2), (11, Str r37_.1)] hf fun a hf => wpList_nil (hK16 _ _ ?_); refine sr0 [0, 0, 0, 0] [(4, .bool ((decide (r37_.2 = 0)) && (decide (r37_.1 = s_))))] hf fun a hf => ?_; refine wp_ret ?_; obtain rfl := Option.some.inj h; refine r_one Try.results5 hf rfl ?_; exact ⟨rfl, (hm.sel [] rfl rfl).pick trivial⟩
end Go.Proofs.Ytfbkanhgjpdohaa
namespace Cin
theorem w64_id {n : Int} (h0 : -9223372036854775808 ≤ n) (h1 : n ≤ 9223372036854775807) : w64 n = n := by unfold w64; omega
theorem w64_up {i n : Nat} (hi : i < n) (hn : n ≤ 140737488355328) : w64 ((i : Int) + 1) = ((i + 1 : Nat) : Int) := by
  rw [w64_id (by omega) (by omega)]; omega
theorem idx_at {α : Type} {l : List α} {i : Nat} {x : α} (h : l[i]? = some x) : idx l (i : Int) = some x := by
  unfold idx; rw [if_pos (by omega)]; simpa using h
theorem lt_t {i n : Nat} (h : i < n) : decide ((i : Int) < (n : Int)) = true := decide_eq_true (by omega)
theorem lt_f (n : Nat) : decide ((n : Int) < (n : Int)) = false := decide_eq_false (by omega)
def wo {ρ : Type} : Option ρ → Way ρ Unit
  | some r => .out r
  | none => .go ()
def wm {ρ : Type} (o : Option ρ) (y : Option (Way ρ Unit)) : Option (Way ρ Unit) := match o with
  | some r => some (.out r)
  | none => y
theorem each {α ρ : Type} {l : List α} {L : Nat → Int → Option (Way ρ Unit)} (g : α → Option ρ) (hl : l.length ≤ 140737488355328)
    (hs : ∀ k (i : Nat) x, l[i]? = some x → L (k + 1) (i : Int) = wm (g x) (L k (w64 ((i : Int) + 1))))
    (he : ∀ k, L (k + 1) (l.length : Int) = some (.go ())) {F : Nat} (hF : l.length < F) : L F 0 = some (wo (l.findSome? g)) := by
  have key : ∀ (d i k : Nat), i + d = l.length → d < k → L k (i : Int) = some (wo ((l.drop i).findSome? g)) := by
    intro d
    induction d with
    | zero =>
      intro i k h hk
      obtain ⟨k, rfl⟩ : ∃ k', k = k' + 1 := ⟨k - 1, by omega⟩
      have hi : i = l.length := by omega
      subst hi
      rw [he]; simp [wo]
    | succ d ih =>
      intro i k h hk
      obtain ⟨k, rfl⟩ : ∃ k', k = k' + 1 := ⟨k - 1, by omega⟩
      have hi : i < l.length := by omega
      rw [hs k i l[i] (List.getElem?_eq_getElem hi), List.drop_eq_getElem_cons hi, List.findSome?_cons]
      cases hg : g l[i] with
      | some r => rfl
      | none =>
        simp only [wm]
        rw [w64_up hi hl]
        exact ih (i + 1) k (by omega) (by omega)
  have := key l.length 0 F (by omega) hF
  simpa using this
theorem eachN {ρ : Type} {n : Nat} {L : Nat → Int → Option (Way ρ Unit)} (g : Nat → Option ρ) (hl : n ≤ 140737488355328)
    (hs : ∀ k (i : Nat), i < n → L (k + 1) (i : Int) = wm (g i) (L k (w64 ((i : Int) + 1))))
    (he : ∀ k, L (k + 1) (n : Int) = some (.go ())) {F : Nat} (hF : n < F) : L F 0 = some (wo ((List.range n).findSome? g)) := by
  have h := each (l := List.range n) (L := L) g (by simpa using hl) (fun k i x hx => by
    have hi : i < n := by have := (List.getElem?_eq_some_iff.1 hx).1; simpa using this
    rw [List.getElem?_range hi] at hx
    simp only [Option.some.injEq] at hx
    subst hx
    exact hs k i hi) (fun k => by simpa using he k) (F := F) (by simpa using hF)
  exact h
abbrev Small (F n : Nat) : Prop := n ≤ 140737488355328 ∧ n < F
end Cin
namespace Cin
def chr (b : UInt8) : Bool := ((((decide (97 ≤ (b.toNat : Int))) && (decide ((b.toNat : Int) ≤ 122))) || ((decide (65 ≤ (b.toNat : Int))) && (decide ((b.toNat : Int) ≤ 90)))) || ((decide (48 ≤ (b.toNat : Int))) && (decide ((b.toNat : Int) ≤ 57)))) || (decide ((b.toNat : Int) = 95))
def isNm (s : List UInt8) : Bool := (s.findSome? fun b => if chr b then none else some ()).isNone && decide (s ≠ []) && decide (s.length ≤ 20)
theorem R_IsName_eq {F : Nat} {s : List UInt8} (h : Small F s.length) : R_IsName F s = some (isNm s) := by
  unfold R_IsName
  have l1 := each (l := s) (L := R_IsName_L1 s) (fun b => if chr b then none else some false) h.1 (fun k i x hx => by
    rw [R_IsName_L1, lt_t (List.getElem?_eq_some_iff.1 hx).1, cond_true, idx_at hx, Option.bind_some]
    show cond (!chr x) _ _ = _
    cases chr x <;> rfl) (fun k => by rw [R_IsName_L1, lt_f]; rfl) h.2
  rw [l1]
  unfold isNm
  have e : ∀ s : List UInt8, s.findSome? (fun b => if chr b then none else some false) = (s.findSome? (fun b => if chr b then none else some ())).map (fun _ => false) := by
    intro s
    induction s with
    | nil => rfl
    | cons b r ih => simp only [List.findSome?_cons]; cases chr b <;> simp [ih]
  rw [e]
  cases s.findSome? (fun b => if chr b then none else some ()) with
  | some _ => rfl
  | none =>
    simp only [Option.map_none, wo, seqR_go, Option.isNone_none, Bool.true_and]
    congr 1
    rw [Bool.eq_iff_iff]
    cases s <;> first | (simp; done) | (simp; omega)
theorem image_IsName_eq {F : Nat} {s : List UInt8} (h : Small F s.length) : image_IsName F s = some (isNm s) := by
  rw [← R_IsName_eq h]
  unfold image_IsName R_IsName bytesOf
  rw [if_pos h.1, Option.bind_some]
  have e : ∀ k n, image_IsName_L1 s k n = R_IsName_L1 s k n := by
    intro k
    induction k with
    | zero => intro n; rfl
    | succ k ih =>
      intro n
      rw [image_IsName_L1, R_IsName_L1]
      simp only [ih]
      congr 1
      congr 1
      funext b
      have hc : (((((decide ((b.toNat : Int) < 97)) || (decide (122 < (b.toNat : Int)))) && ((decide ((b.toNat : Int) < 65)) || (decide (90 < (b.toNat : Int))))) && ((decide ((b.toNat : Int) < 48)) || (decide (57 < (b.toNat : Int))))) && (!decide ((b.toNat : Int) = 95))) = !chr b := by
        unfold chr
        rw [Bool.eq_iff_iff]
        first | (simp; done) | (simp; omega)
      rw [hc]; rfl
  rw [e]
  cases R_IsName_L1 s F 0 with
  | none => rfl
  | some w =>
    cases w with
    | out r => rfl
    | go u =>
      simp only [seqR_go]
      congr 1
      rw [Bool.eq_iff_iff]
      cases s <;> first | (simp; done) | (simp; omega)
def kindOk (k : Kind) : Bool := if k.Kind = 3 ∨ k.Kind = 4 then isNm k.Class else (decide (k.Kind = 1) || decide (k.Kind = 2)) && decide (k.Class = [])
theorem image_isKind_eq {F : Nat} {k : Kind} (h : Small F k.Class.length) : image_isKind F k = some (kindOk k) := by
  unfold image_isKind image_named kindOk
  simp only [Option.bind_some, image_IsName_eq h]
  by_cases h3 : k.Kind = 3 ∨ k.Kind = 4
  · rw [if_pos h3]
    rcases h3 with e | e <;> simp [e]
  · rw [if_neg h3]
    have e3 : ¬ k.Kind = 3 := fun e => h3 (.inl e)
    have e4 : ¬ k.Kind = 4 := fun e => h3 (.inr e)
    simp [e3, e4]
def wi (n a b : Int) : Bool := decide (a ≤ n) && decide (n ≤ b)
def hErr (h : Handler) : Option Int := if isNm h.Class then (if wi h.From 0 200 && wi h.To 0 200 && wi h.At 0 200 then none else some 3) else some 1
def kErr (k : Kind) : Option Int := if kindOk k then none else some 7
def mErr (m : Method) : Int :=
  if isNm m.Name then
    if 4 < m.Args.length ∨ 200 < m.Code.length ∨ 4 < m.Handlers.length then 2
    else if wi m.Stack 0 10 && wi m.Locals 0 10 then
      match m.Args.findSome? kErr with
      | some e => e
      | none => if m.Returns = ⟨0, []⟩ ∨ kindOk m.Returns = true then (m.Handlers.findSome? hErr).getD 0 else 7
    else 3
  else 1
structure Method.Fits (F : Nat) (m : Method) : Prop where
  name : Small F m.Name.length
  args : Small F m.Args.length
  arg : ∀ k ∈ m.Args, Small F k.Class.length
  ret : Small F m.Returns.Class.length
  hands : Small F m.Handlers.length
  hand : ∀ h ∈ m.Handlers, Small F h.Class.length
structure Class.Fits (F : Nat) (c : Class) : Prop where
  name : Small F c.Name.length
  super : Small F c.Super.length
  fields : Small F c.Fields.length
  field : ∀ f ∈ c.Fields, Small F f.Name.length ∧ Small F f.Kind.Class.length
  methods : Small F c.Methods.length
  method : ∀ m ∈ c.Methods, m.Fits F
def Fits (F : Nat) (l : List Class) : Prop := Small F l.length ∧ ∀ c ∈ l, c.Fits F
theorem way_getD {F : Nat} (o : Option Int) (d : Int) : seqR (α := Unit) (some (wo o)) (fun _ => some d) = some (o.getD d) := by cases o <;> rfl
theorem way_seq {o : Option Int} {k : Option Int} : seqR (α := Unit) (some (wo o)) (fun _ => k) = (match o with | some e => some e | none => k) := by cases o <;> rfl
theorem image_method_eq {F : Nat} {m : Method} (h : m.Fits F) : image_method F m = some (mErr m) := by
  have l1 : image_method_L1 F m F 0 = some (wo (m.Args.findSome? kErr)) := each kErr h.args.1 (fun k i x hx => by
    rw [image_method_L1, lt_t (List.getElem?_eq_some_iff.1 hx).1, cond_true, idx_at hx, Option.bind_some, image_isKind_eq (h.arg x (List.mem_of_getElem? hx)), Option.bind_some]
    unfold kErr
    show cond (!kindOk x) _ _ = _
    cases kindOk x <;> rfl) (fun k => by rw [image_method_L1, lt_f]; rfl) h.args.2
  have hl : ∀ {x : Handler} (_ : x ∈ m.Handlers) (Y : Option (Way Int Unit)), ((image_IsName F x.Class).bind fun r204_ =>
    cond (!r204_) (some (.out 1)) ((image_within x.From 0 200).bind fun r207_ =>
    cond (!r207_) (some (.out 3)) ((image_within x.To 0 200).bind fun r210_ =>
    cond (!r210_) (some (.out 3)) ((image_within x.At 0 200).bind fun r213_ =>
    cond (!r213_) (some (.out 3)) Y)))) = wm (hErr x) Y := by
    intro x hx Y
    rw [image_IsName_eq (h.hand x hx)]
    unfold hErr image_within
    simp only [Option.bind_some]
    show cond (!isNm x.Class) _ (cond (!wi x.From 0 200) _ (cond (!wi x.To 0 200) _ (cond (!wi x.At 0 200) _ _))) = _
    cases isNm x.Class <;> cases wi x.From 0 200 <;> cases wi x.To 0 200 <;> cases wi x.At 0 200 <;> rfl
  have l2 : image_method_L2 F m F 0 = some (wo (m.Handlers.findSome? hErr)) := each hErr h.hands.1 (fun k i x hx => by
    rw [image_method_L2, lt_t (List.getElem?_eq_some_iff.1 hx).1, cond_true, idx_at hx, Option.bind_some]
    exact hl (List.mem_of_getElem? hx) _) (fun k => by rw [image_method_L2, lt_f]; rfl) h.hands.2
  have l3 : image_method_L3 F m F 0 = some (wo (m.Handlers.findSome? hErr)) := each hErr h.hands.1 (fun k i x hx => by
    rw [image_method_L3, lt_t (List.getElem?_eq_some_iff.1 hx).1, cond_true, idx_at hx, Option.bind_some]
    exact hl (List.mem_of_getElem? hx) _) (fun k => by rw [image_method_L3, lt_f]; rfl) h.hands.2
  unfold image_method image_within mErr
  rw [image_IsName_eq h.name, l1, l2, l3]
  have hk := image_isKind_eq (F := F) (k := (⟨m.Returns.Kind, m.Returns.Class⟩ : Kind)) h.ret
  simp only [Option.bind_some, hk, way_getD (F := F), way_seq]
  cases isNm m.Name with
  | false => rfl
  | true =>
    simp only [Bool.not_true, cond_false, if_true]
    by_cases hm : 4 < m.Args.length ∨ 200 < m.Code.length ∨ 4 < m.Handlers.length
    · rw [if_pos hm]
      have : ((decide (4 < (m.Args.length : Int))) || (decide (200 < (m.Code.length : Int))) || (decide (4 < (m.Handlers.length : Int)))) = true := by
        simp; omega
      rw [this]; rfl
    · rw [if_neg hm]
      have : ((decide (4 < (m.Args.length : Int))) || (decide (200 < (m.Code.length : Int))) || (decide (4 < (m.Handlers.length : Int)))) = false := by
        simp; omega
      rw [this]
      show cond (!wi m.Stack 0 10) _ (cond (!wi m.Locals 0 10) _ _) = _
      cases wi m.Stack 0 10 <;> cases wi m.Locals 0 10 <;> try rfl
      simp only [Bool.not_true, cond_false, Bool.and_self, if_true]
      cases m.Args.findSome? kErr with
      | some e => rfl
      | none =>
        simp only
        by_cases hr : m.Returns = ⟨0, []⟩
        · rw [if_pos (.inl hr), show (decide ((⟨m.Returns.Kind, m.Returns.Class⟩ : Kind) = ⟨0, []⟩)) = true from decide_eq_true hr]
          rfl
        · rw [show (decide ((⟨m.Returns.Kind, m.Returns.Class⟩ : Kind) = ⟨0, []⟩)) = false from decide_eq_false hr]
          simp only [Bool.not_false, cond_true]
          show cond (!kindOk m.Returns) _ _ = _
          cases hkk : kindOk m.Returns with
          | true => rw [if_pos (.inr rfl)]; rfl
          | false => rw [if_neg (by simp [hr])]; rfl
end Cin
namespace Cin
def fErr (f : Field) : Option Int := if isNm f.Name then (if kindOk f.Kind then none else some 7) else some 1
def nz (e : Int) : Option Int := if e = 0 then none else some e
def mE (m : Method) : Option Int := nz (mErr m)
def cErr (c : Class) : Int :=
  if isNm c.Name && (decide (c.Super = []) || isNm c.Super) then
    if 6 < c.Fields.length ∨ 8 < c.Methods.length then 2
    else (c.Fields.findSome? fErr).getD ((c.Methods.findSome? mE).getD 0)
  else 1
def cE (c : Class) : Option Int := nz (cErr c)
def chk (l : List Class) : Int := if 10 < l.length then 2 else (l.findSome? cE).getD 0
def om {ρ : Type} (o : Option ρ) (y : Option ρ) : Option ρ := match o with
  | some e => some e
  | none => y
theorem nz_wm {e : Int} {Y : Option (Way Int Unit)} : cond (!decide (e = 0)) (some (.out e)) Y = wm (nz e) Y := by
  unfold nz wm
  by_cases h : e = 0
  · rw [if_pos h, decide_eq_true h]; rfl
  · rw [if_neg h, decide_eq_false h]; rfl
theorem dec2 {a b : Nat} (x y : Nat) : ((decide ((x : Int) < (a : Int))) || (decide ((y : Int) < (b : Int)))) = decide (x < a ∨ y < b) := by
  rw [Bool.eq_iff_iff]; simp
theorem sr_wo {ρ : Type} {o : Option ρ} {k : Unit → Option ρ} : seqR (α := Unit) (some (wo o)) k = om o (k ()) := by cases o <;> rfl
section
variable {F : Nat}
theorem image_class_eq {c : Class} (h : c.Fits F) : image_class F c = some (cErr c) := by
  have hf : ∀ {x : Field} (_ : x ∈ c.Fields) (Y : Option (Way Int Unit)), ((image_IsName F x.Name).bind fun r97_ =>
    cond (!r97_) (some (.out 1)) ((image_isKind F (⟨x.Kind.Kind, x.Kind.Class⟩ : Kind)).bind fun r100_ =>
    cond (!r100_) (some (.out 7)) Y)) = wm (fErr x) Y := by
    intro x hx Y
    rw [image_IsName_eq (h.field x hx).1, image_isKind_eq (k := (⟨x.Kind.Kind, x.Kind.Class⟩ : Kind)) (h.field x hx).2]
    unfold fErr
    simp only [Option.bind_some]
    show cond (!isNm x.Name) _ (cond (!kindOk x.Kind) _ _) = _
    cases isNm x.Name <;> cases kindOk x.Kind <;> rfl
  have hm : ∀ {x : Method} (_ : x ∈ c.Methods) (Y : Option (Way Int Unit)), ((image_method F (⟨x.Name, x.Static, x.Args, (⟨x.Returns.Kind, x.Returns.Class⟩ : Kind), x.Stack, x.Locals, x.Code, x.Handlers⟩ : Method)).bind fun r207_ =>
    cond (!decide (r207_ = 0)) (some (.out r207_)) Y) = wm (mE x) Y := by
    intro x hx Y
    have := image_method_eq (F := F) (m := (⟨x.Name, x.Static, x.Args, (⟨x.Returns.Kind, x.Returns.Class⟩ : Kind), x.Stack, x.Locals, x.Code, x.Handlers⟩ : Method)) (h.method x hx)
    rw [this, Option.bind_some]
    exact nz_wm
  have l1 : image_class_L1 F c F 0 = some (wo (c.Fields.findSome? fErr)) := each fErr h.fields.1 (fun k i x hx => by
    rw [image_class_L1, lt_t (List.getElem?_eq_some_iff.1 hx).1, cond_true, idx_at hx, Option.bind_some]; exact hf (List.mem_of_getElem? hx) _) (fun k => by rw [image_class_L1, lt_f]; rfl) h.fields.2
  have l3 : image_class_L3 F c F 0 = some (wo (c.Fields.findSome? fErr)) := each fErr h.fields.1 (fun k i x hx => by
    rw [image_class_L3, lt_t (List.getElem?_eq_some_iff.1 hx).1, cond_true, idx_at hx, Option.bind_some]; exact hf (List.mem_of_getElem? hx) _) (fun k => by rw [image_class_L3, lt_f]; rfl) h.fields.2
  have l2 : image_class_L2 F c F 0 = some (wo (c.Methods.findSome? mE)) := each mE h.methods.1 (fun k i x hx => by
    rw [image_class_L2, lt_t (List.getElem?_eq_some_iff.1 hx).1, cond_true, idx_at hx, Option.bind_some]; exact hm (List.mem_of_getElem? hx) _) (fun k => by rw [image_class_L2, lt_f]; rfl) h.methods.2
  have l4 : image_class_L4 F c F 0 = some (wo (c.Methods.findSome? mE)) := each mE h.methods.1 (fun k i x hx => by
    rw [image_class_L4, lt_t (List.getElem?_eq_some_iff.1 hx).1, cond_true, idx_at hx, Option.bind_some]; exact hm (List.mem_of_getElem? hx) _) (fun k => by rw [image_class_L4, lt_f]; rfl) h.methods.2
  unfold image_class cErr
  rw [image_IsName_eq h.name, image_IsName_eq h.super, l1, l2, l3, l4]
  simp only [Option.bind_some, sr_wo, show (6 : Int) = ((6 : Nat) : Int) from rfl, show (8 : Int) = ((8 : Nat) : Int) from rfl, dec2]
  cases isNm c.Name with
  | false => rfl
  | true =>
    simp only [Bool.not_true, cond_false, Bool.true_and]
    have hrest : ∀ p : Bool, p = decide (6 < c.Fields.length ∨ 8 < c.Methods.length) → cond p (some (2 : Int)) (om (c.Fields.findSome? fErr) (om (c.Methods.findSome? mE) (some 0))) =
        some (if 6 < c.Fields.length ∨ 8 < c.Methods.length then 2 else (c.Fields.findSome? fErr).getD ((c.Methods.findSome? mE).getD 0)) := by
      intro p hp
      subst hp
      by_cases hh : 6 < c.Fields.length ∨ 8 < c.Methods.length
      · rw [if_pos hh, decide_eq_true hh]; rfl
      · rw [if_neg hh, decide_eq_false hh]
        cases c.Fields.findSome? fErr with
        | some e => rfl
        | none => cases c.Methods.findSome? mE <;> rfl
    by_cases hs : c.Super = []
    · rw [decide_eq_true hs]
      simp only [Bool.not_true, cond_false, Bool.true_or, if_true]
      exact hrest _ rfl
    · rw [decide_eq_false hs]
      simp only [Bool.not_false, cond_true, Bool.false_or]
      cases isNm c.Super with
      | false => rfl
      | true =>
        simp only [Bool.not_true, cond_false, if_true]
        exact hrest _ rfl
theorem image_Check_eq {l : List Class} (h : Fits F l) : image_Check F l = some (chk l) := by
  have l1 : image_Check_L1 F l F 0 = some (wo (l.findSome? cE)) := each cE h.1.1 (fun k i x hx => by
    rw [image_Check_L1, lt_t (List.getElem?_eq_some_iff.1 hx).1, cond_true, idx_at hx, Option.bind_some, image_class_eq (c := (⟨x.Name, x.Super, x.Fields, x.Methods⟩ : Class)) (h.2 x (List.mem_of_getElem? hx)), Option.bind_some]
    exact nz_wm) (fun k => by rw [image_Check_L1, lt_f]; rfl) h.1.2
  unfold image_Check chk
  rw [l1, sr_wo]
  by_cases hl : 10 < l.length
  · rw [if_pos hl, decide_eq_true (show (10 : Int) < (l.length : Int) by omega)]; rfl
  · rw [if_neg hl, decide_eq_false (show ¬ (10 : Int) < (l.length : Int) by omega)]
    cases l.findSome? cE <;> rfl
end
theorem nz_none {e : Int} (h : nz e = none) : e = 0 := by
  unfold nz at h
  split at h
  · assumption
  · cases h
theorem nz_some {e x : Int} (h : nz e = some x) : x ≠ 0 := by
  unfold nz at h
  split at h
  · cases h
  · rename_i hz; injection h with h; subst h; exact hz
end Cin
namespace Cin
def nmd (k : Kind) : Bool := (decide (k.Kind = 3)) || (decide (k.Kind = 4))
def bTwo (n : Int) : List UInt8 := [b8 (shrI n 8), b8 n]
def bTxt (s : List UInt8) : List UInt8 := b8 s.length :: s
def bKind (k : Kind) : List UInt8 := b8 k.Kind :: (if nmd k then bTxt k.Class else [])
def bField (f : Field) : List UInt8 := bTxt f.Name ++ bKind f.Kind
def bHand (h : Handler) : List UInt8 := bTwo h.From ++ (bTwo h.To ++ (bTwo h.At ++ bTxt h.Class))
def bLst {α : Type} (g : α → List UInt8) (l : List α) : List UInt8 := b8 l.length :: l.flatMap g
def bMeth (m : Method) : List UInt8 :=
  bTxt m.Name ++ (b8 (cond m.Static 1 0) :: (bLst bKind m.Args ++ (bKind m.Returns ++ (b8 m.Stack :: b8 m.Locals :: (bTwo m.Code.length ++ (m.Code ++ bLst bHand m.Handlers))))))
def bClass (c : Class) : List UInt8 := bTxt c.Name ++ (bTxt c.Super ++ (bLst bField c.Fields ++ bLst bMeth c.Methods))
def bImg (l : List Class) : List UInt8 := bLst bClass l
abbrev M47 : Nat := 140737488355328
def mkw (a : Bool) (b : List UInt8) : image_writer := ⟨⟨a, b⟩⟩
def Wr (f : image_writer → Option image_writer) (bs : List UInt8) : Prop := ∀ a b, b.length + bs.length ≤ M47 → f (mkw a b) = some (mkw true (b ++ bs))
theorem app_ok {b bs : List UInt8} (h : b.length + bs.length ≤ M47) : app 1 b bs = some (b ++ bs) := by
  unfold app
  rw [if_pos (by simpa using h)]
theorem wByte (a : Bool) {b : List UInt8} (c : UInt8) (h : b.length + 1 ≤ M47) : strings_Builder_WriteByte (mkw a b) c = some ((), mkw true (b ++ [c])) := by
  unfold strings_Builder_WriteByte strings_Builder_copyCheck mkw
  rw [app_ok (by simpa using h)]
  cases a <;> rfl
theorem wStr (a : Bool) {b : List UInt8} (s : List UInt8) (h : b.length + s.length ≤ M47) : strings_Builder_WriteString (mkw a b) s = some ((s.length : Int), (), mkw true (b ++ s)) := by
  unfold strings_Builder_WriteString strings_Builder_copyCheck mkw
  rw [app_ok h]
  cases a <;> rfl
theorem wCnt1 {F : Nat} (n : Int) : Wr (fun w => image_writer_counts (F + 3) w [n]) [b8 n] := by
  intro a b h
  have h1 : b.length + 1 ≤ M47 := by simpa using h
  have e := wByte a (b8 n) h1
  unfold mkw at e
  show image_writer_counts (F + 3) (mkw a b) [n] = _
  unfold image_writer_counts mkw
  rw [image_writer_counts_L1]
  have i0 : idx [n] 0 = some n := rfl
  have w0 : w64 (0 + 1) = 1 := by decide
  rw [i0, Option.bind_some, e, Option.bind_some, w0]
  rfl
theorem wCnt2 {F : Nat} (n m : Int) : Wr (fun w => image_writer_counts (F + 4) w [n, m]) [b8 n, b8 m] := by
  intro a b h
  have h1 : b.length + 2 ≤ M47 := by simpa using h
  have e := wByte a (b := b) (b8 n) (by omega)
  have e2 := wByte true (b := b ++ [b8 n]) (b8 m) (by simp; omega)
  unfold mkw at e e2
  show image_writer_counts (F + 4) (mkw a b) [n, m] = _
  unfold image_writer_counts mkw
  rw [image_writer_counts_L1]
  have i0 : idx [n, m] 0 = some n := rfl
  have i1 : idx [n, m] 1 = some m := rfl
  have w0 : w64 (0 + 1) = 1 := by decide
  rw [i0, Option.bind_some, e, Option.bind_some, w0]
  show Option.bind (image_writer_counts_L1 [n, m] (F + 3) (b ++ [b8 n]) true 1) _ = _
  rw [image_writer_counts_L1, i1, Option.bind_some, e2]
  have w1 : w64 (1 + 1) = 2 := by decide
  rw [Option.bind_some, w1]
  show Option.bind (image_writer_counts_L1 [n, m] (F + 2) (b ++ [b8 n] ++ [b8 m]) true 2) _ = _
  rw [image_writer_counts_L1, List.append_assoc]
  rfl
theorem Wr.seq {f g : image_writer → Option image_writer} {x y : List UInt8} (hf : Wr f x) (hg : Wr g y) : Wr (fun w => (f w).bind fun r => g r) (x ++ y) := by
  intro a b h
  rw [List.length_append] at h
  show (f (mkw a b)).bind _ = _
  rw [hf a b (by omega), Option.bind_some, hg true (b ++ x) (by rw [List.length_append]; omega), List.append_assoc]
theorem Wr.ret {f : image_writer → Option image_writer} {x : List UInt8} (h : Wr f x) : Wr (fun w => (f w).bind fun r => some r) x := by
  intro a b hb
  show (f (mkw a b)).bind _ = _
  rw [h a b hb]
  rfl
theorem Wr.to {f g : image_writer → Option image_writer} {x y : List UInt8} (hf : Wr f x) (h : ∀ w, g w = f w) (e : y = x) : Wr g y := by
  intro a b hb
  rw [h, e]
  exact hf a b (by rw [← e]; exact hb)
theorem wText {F : Nat} (s : List UInt8) : Wr (fun w => image_writer_text (F + 4) w s) (bTxt s) := by
  intro a b h
  have h1 : b.length + (s.length + 1) ≤ M47 := by simpa [bTxt] using h
  show image_writer_text (F + 4) (mkw a b) s = _
  unfold image_writer_text
  have e := wCnt1 (F := F + 1) (s.length : Int) a b (by simp; omega)
  have e' : image_writer_counts (F + 4) (⟨(⟨(mkw a b).Builder.addr, (mkw a b).Builder.buf⟩ : strings_Builder)⟩ : image_writer) [(s.length : Int)] = some (mkw true (b ++ [b8 (s.length : Int)])) := e
  have e2 := wStr true (b := b ++ [b8 (s.length : Int)]) s (by simp; omega)
  rw [e', Option.bind_some]
  have e2' : strings_Builder_WriteString (⟨(⟨(mkw true (b ++ [b8 (s.length : Int)])).Builder.addr, (mkw true (b ++ [b8 (s.length : Int)])).Builder.buf⟩ : strings_Builder)⟩ : image_writer) s = some ((s.length : Int), (), mkw true (b ++ [b8 (s.length : Int)] ++ s)) := e2
  rw [e2', Option.bind_some, List.append_assoc]
  rfl
theorem wKind {F : Nat} (k : Kind) : Wr (fun w => image_writer_kind (F + 4) w k) (bKind k) := by
  have e : bKind k = [b8 k.Kind] ++ (if nmd k then bTxt k.Class else []) := rfl
  intro a b h
  rw [e, List.length_append] at h
  have e1 := wCnt1 (F := F + 1) k.Kind a b (by omega)
  show image_writer_kind (F + 4) (mkw a b) k = _
  unfold image_writer_kind
  have e1' : image_writer_counts (F + 4) (⟨(⟨(mkw a b).Builder.addr, (mkw a b).Builder.buf⟩ : strings_Builder)⟩ : image_writer) [k.Kind] = some (mkw true (b ++ [b8 k.Kind])) := e1
  rw [e1', Option.bind_some, show image_named k.Kind = some (nmd k) from rfl, Option.bind_some, e]
  cases hk : nmd k with
  | false => rw [cond_false, if_neg (by simp), List.append_nil]
  | true =>
    rw [hk, if_pos rfl] at h
    have e2 := wText (F := F) k.Class true (b ++ [b8 k.Kind]) (by rw [List.length_append]; omega)
    have e2' : image_writer_text (F + 4) (⟨(⟨(mkw true (b ++ [b8 k.Kind])).Builder.addr, (mkw true (b ++ [b8 k.Kind])).Builder.buf⟩ : strings_Builder)⟩ : image_writer) k.Class = some (mkw true (b ++ [b8 k.Kind] ++ bTxt k.Class)) := e2
    rw [cond_true, e2', Option.bind_some, if_pos rfl, List.append_assoc]
theorem wNum {F : Nat} (n : Int) : Wr (fun w => image_writer_number (F + 4) w n) (bTwo n) := by
  intro a b h
  have e1 : image_writer_counts (F + 4) (⟨(⟨(mkw a b).Builder.addr, (mkw a b).Builder.buf⟩ : strings_Builder)⟩ : image_writer) [shrI n 8, n] = some (mkw true (b ++ bTwo n)) := wCnt2 (F := F) (shrI n 8) n a b h
  show image_writer_number (F + 4) (mkw a b) n = _
  unfold image_writer_number
  rw [e1]
  rfl
theorem wlist {α : Type} {l : List α} {L : Nat → List UInt8 → Bool → Int → Option (List UInt8 × Bool)} (g : α → List UInt8) (hl : l.length ≤ M47)
    (hs : ∀ k b (i : Nat) x, l[i]? = some x → b.length + (g x).length ≤ M47 → L (k + 1) b true (i : Int) = L k (b ++ g x) true (w64 ((i : Int) + 1)))
    (he : ∀ k b, L (k + 1) b true (l.length : Int) = some (b, true)) {F : Nat} (hF : l.length < F) (b : List UInt8) (hb : b.length + (l.flatMap g).length ≤ M47) : L F b true 0 = some (b ++ l.flatMap g, true) := by
  have key : ∀ (d i k : Nat) (b : List UInt8), i + d = l.length → d < k → b.length + ((l.drop i).flatMap g).length ≤ M47 → L k b true (i : Int) = some (b ++ (l.drop i).flatMap g, true) := by
    intro d
    induction d with
    | zero =>
      intro i k b h hk _
      obtain ⟨k, rfl⟩ : ∃ k', k = k' + 1 := ⟨k - 1, by omega⟩
      have hi : i = l.length := by omega
      subst hi
      rw [he]; simp
    | succ d ih =>
      intro i k b h hk hb
      obtain ⟨k, rfl⟩ : ∃ k', k = k' + 1 := ⟨k - 1, by omega⟩
      have hi : i < l.length := by omega
      rw [List.drop_eq_getElem_cons hi, List.flatMap_cons, List.length_append] at hb
      rw [hs k b i l[i] (List.getElem?_eq_getElem hi) (by omega), w64_up hi hl, ih (i + 1) k _ (by omega) (by omega) (by rw [List.length_append]; omega), List.drop_eq_getElem_cons hi, List.flatMap_cons, List.append_assoc]
  have := key l.length 0 F b (by omega) hF (by simpa using hb)
  simpa using this
theorem wField {F : Nat} (f : Field) : Wr (fun w => image_writer_class_1 (F + 4) f w) (bField f) := by
  refine (Wr.seq (wText (F := F) f.Name) (wKind (F := F) f.Kind).ret).to (fun w => ?_) rfl
  unfold image_writer_class_1
  rfl
theorem wHand {F : Nat} (h : Handler) : Wr (fun w => image_writer_method_1 (F + 4) h w) (bHand h) := by
  refine (Wr.seq (wNum (F := F) h.From) (Wr.seq (wNum (F := F) h.To) (Wr.seq (wNum (F := F) h.At) (wText (F := F) h.Class).ret))).to (fun w => ?_) rfl
  unfold image_writer_method_1
  rfl
theorem bind_wlist {α : Type} {l : List α} {g : α → List UInt8} {F : Nat} {f : image_writer → Option image_writer} {L : Nat → List UInt8 → Bool → Int → Option (List UInt8 × Bool)} (hl : l.length ≤ M47) (hF : l.length < F + 4)
    (hs : ∀ k b (i : Nat) x, l[i]? = some x → b.length + (g x).length ≤ M47 → L (k + 1) b true (i : Int) = L k (b ++ g x) true (w64 ((i : Int) + 1)))
    (he : ∀ k b, L (k + 1) b true (l.length : Int) = some (b, true))
    (hf : ∀ w, f w = (image_writer_counts (F + 4) w [(l.length : Int)]).bind fun r => (L (F + 4) r.Builder.buf r.Builder.addr 0).bind fun q => some (mkw q.2 q.1)) : Wr f (bLst g l) := by
  intro a b h
  have h1 : b.length + ((l.flatMap g).length + 1) ≤ M47 := by simpa [bLst] using h
  have e1 := wCnt1 (F := F + 1) (l.length : Int) a b (by simp; omega)
  rw [hf]
  have e1' : image_writer_counts (F + 4) (mkw a b) [(l.length : Int)] = some (mkw true (b ++ [b8 (l.length : Int)])) := e1
  rw [e1', Option.bind_some]
  have e2 := wlist g hl hs he hF (b ++ [b8 (l.length : Int)]) (by simp only [List.length_append, List.length_cons, List.length_nil]; omega)
  show (L (F + 4) (b ++ [b8 (l.length : Int)]) true 0).bind _ = _
  rw [e2, Option.bind_some, List.append_assoc]
  rfl
theorem wFields {F : Nat} {l : List Field} (hl : l.length ≤ M47) (hF : l.length < F + 4) : Wr (fun w => image_list_api_Field__image_writer_class_1 (F + 4) w l) (bLst bField l) := by
  refine bind_wlist hl hF (L := image_list_api_Field__image_writer_class_1_L1 (F + 4) l) (fun k b i x hx hb => ?_) (fun k b => ?_) (fun w => rfl)
  · rw [image_list_api_Field__image_writer_class_1_L1, lt_t (List.getElem?_eq_some_iff.1 hx).1, cond_true, idx_at hx, Option.bind_some]
    have e := wField (F := F) x true b hb
    have e' : image_writer_class_1 (F + 4) (⟨x.Name, (⟨x.Kind.Kind, x.Kind.Class⟩ : Kind)⟩ : Field) (⟨(⟨true, b⟩ : strings_Builder)⟩ : image_writer) = some (mkw true (b ++ bField x)) := e
    rw [e']
    rfl
  · rw [image_list_api_Field__image_writer_class_1_L1, lt_f]; rfl
theorem wKinds {F : Nat} {l : List Kind} (hl : l.length ≤ M47) (hF : l.length < F + 4) : Wr (fun w => image_list_api_Kind__image_writer_kind (F + 4) w l) (bLst bKind l) := by
  refine bind_wlist hl hF (L := image_list_api_Kind__image_writer_kind_L1 (F + 4) l) (fun k b i x hx hb => ?_) (fun k b => ?_) (fun w => rfl)
  · rw [image_list_api_Kind__image_writer_kind_L1, lt_t (List.getElem?_eq_some_iff.1 hx).1, cond_true, idx_at hx, Option.bind_some]
    have e := wKind (F := F) x true b hb
    have e' : image_writer_kind (F + 4) (⟨(⟨true, b⟩ : strings_Builder)⟩ : image_writer) (⟨x.Kind, x.Class⟩ : Kind) = some (mkw true (b ++ bKind x)) := e
    rw [e']
    rfl
  · rw [image_list_api_Kind__image_writer_kind_L1, lt_f]; rfl
theorem wHands {F : Nat} {l : List Handler} (hl : l.length ≤ M47) (hF : l.length < F + 4) : Wr (fun w => image_list_api_Handler__image_writer_method_1 (F + 4) w l) (bLst bHand l) := by
  refine bind_wlist hl hF (L := image_list_api_Handler__image_writer_method_1_L1 (F + 4) l) (fun k b i x hx hb => ?_) (fun k b => ?_) (fun w => rfl)
  · rw [image_list_api_Handler__image_writer_method_1_L1, lt_t (List.getElem?_eq_some_iff.1 hx).1, cond_true, idx_at hx, Option.bind_some]
    have e := wHand (F := F) x true b hb
    have e' : image_writer_method_1 (F + 4) (⟨x.From, x.To, x.At, x.Class⟩ : Handler) (⟨(⟨true, b⟩ : strings_Builder)⟩ : image_writer) = some (mkw true (b ++ bHand x)) := e
    rw [e']
    rfl
  · rw [image_list_api_Handler__image_writer_method_1_L1, lt_f]; rfl
theorem wMeth {F : Nat} {m : Method} (h1 : m.Args.length ≤ M47) (h1' : m.Args.length < F + 4) (h2 : m.Handlers.length ≤ M47) (h2' : m.Handlers.length < F + 4) : Wr (fun w => image_writer_method (F + 4) w m) (bMeth m) := by
  have hst : Wr (fun w => (strings_Builder_WriteString w m.Code).bind fun r => (fun w => image_list_api_Handler__image_writer_method_1 (F + 4) w m.Handlers) r.2.2) (m.Code ++ bLst bHand m.Handlers) := by
    intro a b h
    rw [List.length_append] at h
    show (strings_Builder_WriteString (mkw a b) m.Code).bind _ = _
    rw [wStr a m.Code (by omega), Option.bind_some]
    have := wHands (F := F) h2 h2' true (b ++ m.Code) (by rw [List.length_append]; omega)
    rw [List.append_assoc] at this
    exact this
  have key := Wr.seq (wText (F := F) m.Name) (Wr.seq (wCnt1 (F := F + 1) (cond m.Static 1 0)) (Wr.seq (wKinds (F := F) h1 h1') (Wr.seq (wKind (F := F) m.Returns) (Wr.seq (wCnt2 (F := F) m.Stack m.Locals) (Wr.seq (wNum (F := F) m.Code.length) hst.ret)))))
  refine key.to (fun w => ?_) rfl
  unfold image_writer_method
  cases m.Static <;> simp only [cond_true, cond_false, Option.bind_some, Option.bind_assoc]
theorem wMeths {F : Nat} {l : List Method} (hl : l.length ≤ M47) (hF : l.length < F + 4) (h : ∀ m ∈ l, (m.Args.length ≤ M47 ∧ m.Args.length < F + 4) ∧ (m.Handlers.length ≤ M47 ∧ m.Handlers.length < F + 4)) : Wr (fun w => image_list_api_Method__image_writer_method (F + 4) w l) (bLst bMeth l) := by
  refine bind_wlist hl hF (L := image_list_api_Method__image_writer_method_L1 (F + 4) l) (fun k b i x hx hb => ?_) (fun k b => ?_) (fun w => rfl)
  · rw [image_list_api_Method__image_writer_method_L1, lt_t (List.getElem?_eq_some_iff.1 hx).1, cond_true, idx_at hx, Option.bind_some]
    have hm := h x (List.mem_of_getElem? hx)
    have e := wMeth (F := F) (m := x) hm.1.1 hm.1.2 hm.2.1 hm.2.2 true b hb
    have e' : image_writer_method (F + 4) (⟨(⟨true, b⟩ : strings_Builder)⟩ : image_writer) (⟨x.Name, x.Static, x.Args, (⟨x.Returns.Kind, x.Returns.Class⟩ : Kind), x.Stack, x.Locals, x.Code, x.Handlers⟩ : Method) = some (mkw true (b ++ bMeth x)) := e
    rw [e']
    rfl
  · rw [image_list_api_Method__image_writer_method_L1, lt_f]; rfl
theorem wClass {F : Nat} {c : Class} (hc : c.Fits (F + 4)) : Wr (fun w => image_writer_class (F + 4) w c) (bClass c) := by
  have key := Wr.seq (wText (F := F) c.Name) (Wr.seq (wText (F := F) c.Super) (Wr.seq (wFields (F := F) hc.fields.1 hc.fields.2) (wMeths (F := F) hc.methods.1 hc.methods.2 (fun m hm => ⟨(hc.method m hm).args, (hc.method m hm).hands⟩)).ret))
  refine key.to (fun w => ?_) rfl
  unfold image_writer_class
  rfl
theorem wImg {F : Nat} {l : List Class} (h : Fits (F + 4) l) : Wr (fun w => image_list_api_Class__image_writer_class (F + 4) w l) (bImg l) := by
  refine bind_wlist h.1.1 h.1.2 (L := image_list_api_Class__image_writer_class_L1 (F + 4) l) (fun k b i x hx hb => ?_) (fun k b => ?_) (fun w => rfl)
  · rw [image_list_api_Class__image_writer_class_L1, lt_t (List.getElem?_eq_some_iff.1 hx).1, cond_true, idx_at hx, Option.bind_some]
    have e := wClass (F := F) (h.2 x (List.mem_of_getElem? hx)) true b hb
    have e' : image_writer_class (F + 4) (⟨(⟨true, b⟩ : strings_Builder)⟩ : image_writer) (⟨x.Name, x.Super, x.Fields, x.Methods⟩ : Class) = some (mkw true (b ++ bClass x)) := e
    rw [e']
    rfl
  · rw [image_list_api_Class__image_writer_class_L1, lt_f]; rfl
theorem image_Write_eq {F : Nat} {l : List Class} (h : Fits (F + 4) l) (hb : chk l = 0 → (bImg l).length ≤ M47) : image_Write (F + 4) l = some (if chk l = 0 then (if 20000 < (bImg l).length then ([], 2) else (bImg l, 0)) else ([], chk l)) := by
  unfold image_Write
  rw [image_Check_eq h, Option.bind_some]
  by_cases h0 : chk l = 0
  · rw [if_pos h0, decide_eq_true h0]
    have e := wImg (F := F) h false [] (by simpa using hb h0)
    have e' : image_list_api_Class__image_writer_class (F + 4) (⟨(⟨false, []⟩ : strings_Builder)⟩ : image_writer) l = some (mkw true (bImg l)) := e
    rw [Bool.not_true, cond_false, e', Option.bind_some]
    show cond (decide (20000 < ((bImg l).length : Int))) _ _ = _
    by_cases h1 : 20000 < (bImg l).length
    · rw [if_pos h1, decide_eq_true (show (20000 : Int) < ((bImg l).length : Int) by omega)]; rfl
    · rw [if_neg h1, decide_eq_false (show ¬ (20000 : Int) < ((bImg l).length : Int) by omega)]; rfl
  · rw [if_neg h0, decide_eq_false h0]; rfl
end Cin
namespace Cin
structure OkM (m : Method) : Prop where
  name : isNm m.Name = true
  args : m.Args.length ≤ 4
  code : m.Code.length ≤ 200
  hands : m.Handlers.length ≤ 4
  stack : wi m.Stack 0 10 = true
  locals : wi m.Locals 0 10 = true
  arg : ∀ k ∈ m.Args, kindOk k = true
  ret : m.Returns = ⟨0, []⟩ ∨ kindOk m.Returns = true
  hand : ∀ h ∈ m.Handlers, isNm h.Class = true ∧ wi h.From 0 200 = true ∧ wi h.To 0 200 = true ∧ wi h.At 0 200 = true
structure OkC (c : Class) : Prop where
  name : isNm c.Name = true
  super : c.Super = [] ∨ isNm c.Super = true
  fields : c.Fields.length ≤ 6
  methods : c.Methods.length ≤ 8
  field : ∀ f ∈ c.Fields, isNm f.Name = true ∧ kindOk f.Kind = true
  method : ∀ m ∈ c.Methods, OkM m
theorem getD0 {α : Type} {l : List α} {g : α → Option Int} (hg : ∀ x e, g x = some e → e ≠ 0) (h : (l.findSome? g).getD 0 = 0) : ∀ x ∈ l, g x = none := by
  cases hf : l.findSome? g with
  | none => exact List.findSome?_eq_none_iff.1 hf
  | some e =>
    rw [hf] at h
    obtain ⟨x, _, hx⟩ := List.exists_of_findSome?_eq_some hf
    exact absurd h (hg x e hx)
theorem okM {m : Method} (h : mErr m = 0) : OkM m := by
  unfold mErr at h
  split at h
  · rename_i h1
    split at h
    · exact absurd h (by decide)
    · rename_i h2
      split at h
      · rename_i h3
        simp only [Bool.and_eq_true] at h3
        split at h
        · rename_i e he
          subst h
          obtain ⟨x, _, hx⟩ := List.exists_of_findSome?_eq_some he
          unfold kErr at hx
          split at hx <;> simp at hx
        · rename_i he
          split at h
          · rename_i h4
            have hh := getD0 (fun x e hx => by
              unfold hErr at hx
              split at hx
              · split at hx
                · cases hx
                · injection hx with hx; omega
              · injection hx with hx; omega) h
            refine ⟨h1, by omega, by omega, by omega, h3.1, h3.2, fun k hk => ?_, h4, fun x hx => ?_⟩
            · have := List.findSome?_eq_none_iff.1 he k hk
              unfold kErr at this
              split at this
              · assumption
              · cases this
            · have := hh x hx
              unfold hErr at this
              split at this
              · rename_i q1
                split at this
                · rename_i q2
                  simp only [Bool.and_eq_true] at q2
                  exact ⟨q1, q2.1.1, q2.1.2, q2.2⟩
                · cases this
              · cases this
          · exact absurd h (by decide)
      · exact absurd h (by decide)
  · exact absurd h (by decide)
theorem okC {c : Class} (h : cErr c = 0) : OkC c := by
  unfold cErr at h
  split at h
  · rename_i h1
    simp only [Bool.and_eq_true, Bool.or_eq_true, decide_eq_true_eq] at h1
    split at h
    · exact absurd h (by decide)
    · rename_i h2
      cases hf : c.Fields.findSome? fErr with
      | some e =>
        rw [hf] at h
        simp only [Option.getD_some] at h
        subst h
        obtain ⟨x, _, hx⟩ := List.exists_of_findSome?_eq_some hf
        unfold fErr at hx
        split at hx
        · split at hx <;> simp at hx
        · simp at hx
      | none =>
        rw [hf] at h
        simp only [Option.getD_none] at h
        have hm := getD0 (fun x e hx => nz_some hx) h
        refine ⟨h1.1, h1.2, by omega, by omega, fun f hff => ?_, fun m hmm => okM (nz_none (hm m hmm))⟩
        have := List.findSome?_eq_none_iff.1 hf f hff
        unfold fErr at this
        split at this
        · rename_i q1
          split at this
          · rename_i q2; exact ⟨q1, q2⟩
          · cases this
        · cases this
  · exact absurd h (by decide)
theorem okL {l : List Class} (h : chk l = 0) : l.length ≤ 10 ∧ ∀ c ∈ l, OkC c := by
  unfold chk at h
  split at h
  · exact absurd h (by decide)
  · rename_i hl
    have hm := getD0 (fun x e hx => nz_some hx) h
    exact ⟨by omega, fun c hc => okC (nz_none (hm c hc))⟩
theorem isNm_len {s : List UInt8} (h : isNm s = true) : s.length ≤ 20 := by
  unfold isNm at h
  simp only [Bool.and_eq_true, decide_eq_true_eq] at h
  exact h.2
theorem kindOk_len {k : Kind} (h : kindOk k = true) : k.Class.length ≤ 20 := by
  unfold kindOk at h
  split at h
  · exact isNm_len h
  · simp only [Bool.and_eq_true, decide_eq_true_eq] at h
    rw [h.2]; simp
theorem flat_len {α : Type} {g : α → List UInt8} {B : Nat} : ∀ {l : List α}, (∀ x ∈ l, (g x).length ≤ B) → (l.flatMap g).length ≤ l.length * B
  | [], _ => by simp
  | x :: r, h => by
    have h1 := h x (by simp)
    have h2 := flat_len (l := r) (g := g) (B := B) fun y hy => h y (by simp [hy])
    simp only [List.flatMap_cons, List.length_append, List.length_cons, Nat.add_mul]
    omega
theorem bKind_len {k : Kind} (h : k.Class.length ≤ 20) : (bKind k).length ≤ 22 := by
  unfold bKind bTxt
  split <;> simp; omega
theorem ret_len {m : Method} (h : OkM m) : m.Returns.Class.length ≤ 20 := by
  rcases h.ret with e | e
  · rw [e]; simp
  · exact kindOk_len e
theorem bMeth_len {m : Method} (h : OkM m) : (bMeth m).length ≤ 446 := by
  have a1 := isNm_len h.name
  have a2 := flat_len (g := bKind) (B := 22) (l := m.Args) fun k hk => bKind_len (kindOk_len (h.arg k hk))
  have a3 := bKind_len (ret_len h)
  have a4 := flat_len (g := bHand) (B := 27) (l := m.Handlers) fun x hx => by
    have := isNm_len (h.hand x hx).1
    simp only [bHand, bTwo, bTxt, List.length_append, List.length_cons, List.length_nil]; omega
  have a5 := h.args
  have a6 := h.hands
  have a7 := h.code
  simp only [bMeth, bLst, bTwo, bTxt, List.length_append, List.length_cons, List.length_nil]
  omega
theorem bClass_len {c : Class} (h : OkC c) : (bClass c).length ≤ 3870 := by
  have a1 := isNm_len h.name
  have a2 : c.Super.length ≤ 20 := by
    rcases h.super with e | e
    · rw [e]; simp
    · exact isNm_len e
  have a3 := flat_len (g := bField) (B := 43) (l := c.Fields) fun f hf => by
    have q1 := isNm_len (h.field f hf).1
    have q2 := bKind_len (kindOk_len (h.field f hf).2)
    simp only [bField, bTxt, List.length_append, List.length_cons]; omega
  have a4 := flat_len (g := bMeth) (B := 446) (l := c.Methods) fun m hm => bMeth_len (h.method m hm)
  have a5 := h.fields
  have a6 := h.methods
  simp only [bClass, bLst, bTxt, List.length_append, List.length_cons]
  omega
theorem bImg_len {l : List Class} (h : chk l = 0) : (bImg l).length ≤ 38701 := by
  obtain ⟨h1, h2⟩ := okL h
  have a := flat_len (g := bClass) (B := 3870) (l := l) fun c hc => bClass_len (h2 c hc)
  simp only [bImg, bLst, List.length_cons]
  omega
theorem wi_i {n a b : Int} (h : wi n a b = true) : a ≤ n ∧ n ≤ b := by
  unfold wi at h
  simpa using h
end Cin
namespace Cin
open Go Go.Proofs.Ytfbkanhgjpdohaa
theorem sm_reach {n : Nat} (h : n ≤ reachBytes) : Small 140737488356000 n := by
  have : reachBytes = 140737488351232 := rfl
  unfold Small
  omega
theorem sm_mul {n : Nat} (k : Nat) (h : n * (k + 1) ≤ reachBytes) : Small 140737488356000 n :=
  sm_reach (Nat.le_trans (Nat.le_mul_of_pos_right n (Nat.succ_pos k)) h)
theorem fits_method {m : Method} (h : Ok_Method reachBytes m) : m.Fits 140737488356000 :=
  ⟨sm_reach h.1, sm_mul 23 h.2.2.1.1, fun k hk => sm_reach (h.2.2.1.2 k hk).2, sm_reach h.2.2.2.1.2, sm_mul 39 h.2.2.2.2.2.2.2.1, fun x hx => sm_reach (h.2.2.2.2.2.2.2.2 x hx).2.2.2⟩
theorem fits_class {c : Class} (h : Ok_Class reachBytes c) : c.Fits 140737488356000 :=
  ⟨sm_reach h.1, sm_reach h.2.1, sm_mul 39 h.2.2.1.1, fun f hf => ⟨sm_reach (h.2.2.1.2 f hf).1, sm_reach (h.2.2.1.2 f hf).2.2⟩, sm_mul 127 h.2.2.2.1, fun m hm => fits_method (h.2.2.2.2 m hm)⟩
theorem fits_of {l : List Class} (h : l.length * 80 ≤ reachBytes ∧ ∀ x ∈ l, Ok_Class reachBytes x) : Fits 140737488356000 l :=
  ⟨sm_mul 79 h.1, fun c hc => fits_class (h.2 c hc)⟩
end Cin
namespace Cin
set_option maxRecDepth 100000 in
theorem image_begun (F : Nat) : L_imageBegun (F + 60) = some true := by kernel_rfl
end Cin
namespace Cin
abbrev Ps (α : Type) := List UInt8 → Option (α × List UInt8)
def pR {α : Type} (x : α) : Ps α := fun s => some (x, s)
def pB {α β : Type} (p : Ps α) (f : α → Ps β) : Ps β := fun s => match p s with
  | none => none
  | some (x, r) => f x r
def pTake (n : Int) : Ps (List UInt8) := fun s => if n ≤ s.length then some (s.take n.toNat, s.drop n.toNat) else none
def pCnt : Ps Int := fun s => match s with
  | [] => none
  | b :: r => some ((b.toNat : Int), r)
def pTwo : Ps Int := fun s => match s with
  | a :: b :: r => some (256 * (a.toNat : Int) + (b.toNat : Int), r)
  | _ => none
def pTxt : Ps (List UInt8) := pB pCnt pTake
def pYes : Ps Bool := pB pCnt fun n => if 1 < n then fun _ => none else pR (decide (n = 1))
def nmI (n : Int) : Bool := (decide (n = 3)) || (decide (n = 4))
def pKind : Ps Kind := pB pCnt fun n => if nmI n then pB pTxt fun t => pR ⟨n, t⟩ else pR ⟨n, []⟩
def pField : Ps Field := pB pTxt fun t => pB pKind fun k => pR ⟨t, k⟩
def pHand : Ps Handler := pB pTwo fun a => pB pTwo fun b => pB pTwo fun c => pB pTxt fun t => pR ⟨a, b, c, t⟩
def pRep {α : Type} (p : Ps α) : Nat → Ps (List α)
  | 0 => pR []
  | n + 1 => pB p fun x => pB (pRep p n) fun l => pR (x :: l)
def pLst {α : Type} (p : Ps α) : Ps (List α) := pB pCnt fun n => pRep p n.toNat
def pMeth : Ps Method := pB pTxt fun nm => pB pYes fun st => pB (pLst pKind) fun ar => pB pKind fun rt => pB pCnt fun sk => pB pCnt fun lo => pB pTwo fun n => pB (pTake n) fun co => pB (pLst pHand) fun ha => pR ⟨nm, st, ar, rt, sk, lo, co, ha⟩
def pClass : Ps Class := pB pTxt fun nm => pB pTxt fun su => pB (pLst pField) fun fs => pB (pLst pMeth) fun ms => pR ⟨nm, su, fs, ms⟩
def pImg : Ps (List Class) := pLst pClass
def R3 {α γ : Type} (o : Option γ) (bad : γ) (emb : α → List UInt8 → γ) (p : Ps α) (s : List UInt8) : Prop := o = some (match p s with
  | none => bad
  | some (x, r) => emb x r)
def ro {α : Type} (x : α) (r : List UInt8) : Pn (α × image_reader) := .ok (x, ⟨r⟩)
theorem R3.bind {α β γ : Type} {o : Option (Pn (α × image_reader))} {p : Ps α} {q : α → Ps β} {s : List UInt8} {bad2 : γ} {emb2 : β → List UInt8 → γ} {k : α × image_reader → Option γ} (h : R3 o .bad ro p s)
    (hk : ∀ x r, p s = some (x, r) → R3 (k (x, ⟨r⟩)) bad2 emb2 (q x) r) : R3 (o.bind fun z => pnB z (some bad2) k) bad2 emb2 (pB p q) s := by
  unfold R3 at h ⊢
  rw [h]
  unfold pB
  cases hp : p s with
  | none => rfl
  | some xr => exact hk xr.1 xr.2 hp
theorem R3.ret {α γ : Type} {bad : γ} {emb : α → List UInt8 → γ} (x : α) (s : List UInt8) : R3 (some (emb x s)) bad emb (pR x) s := rfl
theorem r_take {n : Int} (h0 : 0 ≤ n) (s : List UInt8) : R3 (image_reader_take ⟨s⟩ n) .bad ro (pTake n) s := by
  unfold R3 image_reader_take pTake
  by_cases h : n ≤ s.length
  · rw [if_pos h, decide_eq_false (show ¬ (s.length : Int) < n by omega), cond_false, seqR_go]
    have c1 : cut s 0 n = some (s.take n.toNat) := by unfold cut; rw [if_pos ⟨by omega, h0, h⟩]; simp
    have c2 : cut s n (s.length : Int) = some (s.drop n.toNat) := by unfold cut; rw [if_pos ⟨h0, h, by omega⟩]; simp
    show Option.bind (cut s 0 n) _ = _
    rw [c1, Option.bind_some]
    show Option.bind (cut s n (s.length : Int)) _ = _
    rw [c2]
    rfl
  · rw [if_neg h, decide_eq_true (show (s.length : Int) < n by omega)]
    rfl
theorem r_cnt (s : List UInt8) : R3 (image_reader_count ⟨s⟩) .bad ro pCnt s := by
  have h := r_take (n := 1) (by decide) s
  unfold R3 at h ⊢
  unfold image_reader_count
  have h' : image_reader_take (⟨(⟨s⟩ : image_reader).s⟩ : image_reader) 1 = _ := h
  rw [h']
  cases s with
  | nil => rfl
  | cons b r =>
    have h1 : (1 : Int) ≤ ((b :: r).length : Int) := by simp; omega
    have e : pTake 1 (b :: r) = some ([b], r) := by unfold pTake; rw [if_pos h1]; rfl
    rw [e]
    rfl
theorem or_two (a b : UInt8) : orI (shlI (a.toNat : Int) 8) (b.toNat : Int) = 256 * (a.toNat : Int) + (b.toNat : Int) := by
  have ha := a.toNat_lt
  have hb := b.toNat_lt
  have h1 : shlI (a.toNat : Int) 8 = ((a.toNat * 256 : Nat) : Int) := by unfold shlI w64; omega
  rw [h1]
  unfold orI
  have h3 : (BitVec.ofInt 64 ((a.toNat * 256 : Nat) : Int) ||| BitVec.ofInt 64 (b.toNat : Int)).toNat = a.toNat * 256 + b.toNat := by
    rw [BitVec.toNat_or]
    simp only [BitVec.ofInt_natCast, BitVec.toNat_ofNat]
    rw [Nat.mod_eq_of_lt (by omega), Nat.mod_eq_of_lt (by omega)]
    have := Nat.shiftLeft_add_eq_or_of_lt (i := 8) (b := b.toNat) (by omega) a.toNat
    rw [Nat.shiftLeft_eq] at this
    exact this.symm
  rw [h3]
  unfold w64
  omega
theorem r_num (s : List UInt8) : R3 (image_reader_number ⟨s⟩) .bad ro pTwo s := by
  have h := r_take (n := 2) (by decide) s
  unfold R3 at h ⊢
  unfold image_reader_number
  have h' : image_reader_take (⟨(⟨s⟩ : image_reader).s⟩ : image_reader) 2 = _ := h
  rw [h']
  match s with
  | [] => rfl
  | [a] => rfl
  | a :: b :: r =>
    have : (2 : Int) ≤ ((a :: b :: r).length : Int) := by simp; omega
    have e : pTake 2 (a :: b :: r) = some ([a, b], r) := by unfold pTake; rw [if_pos this]; rfl
    rw [e]
    show some (Pn.ok (orI (shlI (a.toNat : Int) 8) (b.toNat : Int), (⟨r⟩ : image_reader))) = _
    rw [or_two]
    rfl
theorem r_txt (s : List UInt8) : R3 (image_reader_text ⟨s⟩) .bad ro pTxt s := by
  unfold image_reader_text
  refine R3.bind (r_cnt s) fun n r hn => ?_
  have h0 : 0 ≤ n := by
    unfold pCnt at hn
    split at hn
    · cases hn
    · simp only [Option.some.injEq, Prod.mk.injEq] at hn; omega
  have h := r_take h0 r
  unfold R3 at h ⊢
  have h' : image_reader_take (⟨(⟨r⟩ : image_reader).s⟩ : image_reader) n = _ := h
  show Option.bind (image_reader_take (⟨r⟩ : image_reader) n) _ = _
  rw [h]
  cases pTake n r <;> rfl
theorem r_yes (s : List UInt8) : R3 (image_reader_yes ⟨s⟩) .bad ro pYes s := by
  unfold image_reader_yes
  refine R3.bind (r_cnt s) fun n r hn => ?_
  show R3 (cond (decide (1 < n)) _ _) _ _ _ _
  by_cases h : 1 < n
  · rw [decide_eq_true h, if_pos h]; rfl
  · rw [decide_eq_false h, if_neg h]; rfl
theorem r_kind (s : List UInt8) : R3 (image_reader_kind ⟨s⟩) .bad ro pKind s := by
  unfold image_reader_kind
  refine R3.bind (r_cnt s) fun n r hn => ?_
  show R3 (Option.bind (image_named n) _) _ _ _ _
  rw [show image_named n = some (nmI n) from rfl, Option.bind_some]
  cases h : nmI n with
  | true =>
    rw [cond_true, if_pos rfl]
    exact R3.bind (r_txt r) fun t r2 ht => rfl
  | false =>
    rw [cond_false, if_neg (by simp)]
    exact rfl
theorem r_field (s : List UInt8) : R3 (image_reader_field ⟨s⟩) .bad ro pField s := by
  unfold image_reader_field
  exact R3.bind (r_txt s) fun t r _ => R3.bind (r_kind r) fun k r2 _ => rfl
theorem r_hand (s : List UInt8) : R3 (image_reader_handler ⟨s⟩) .bad ro pHand s := by
  unfold image_reader_handler
  exact R3.bind (r_num s) fun a r _ => R3.bind (r_num r) fun b r2 _ => R3.bind (r_num r2) fun c r3 _ => R3.bind (r_txt r3) fun t r4 _ => rfl
theorem r_rep {α : Type} {p : Ps α} {bytes : Nat} {f : image_reader → Option (Pn (α × image_reader))} {L : Nat → List α → List UInt8 → Int → Option (Way (Pn (List α × image_reader)) (List α × List UInt8))} {n : Int} (h0 : 0 ≤ n) (hn : n ≤ 255) (hby : bytes ≤ 1000) (hf : ∀ s, R3 (f ⟨s⟩) .bad ro p s)
    (hL : ∀ k l s i, L (k + 1) l s i = cond (decide (i < n)) ((f ⟨s⟩).bind fun z => pnB z (some (.out .bad)) fun r => (app bytes l [r.1]).bind fun l' => L k l' r.2.s (w64 (i + 1))) (some (.go (l, s)))) {F : Nat} (hF : 300 < F) (s : List UInt8) :
    R3 (L F [] s 0) (.out .bad) (fun x r => .go (x, r)) (pRep p n.toNat) s := by
  have key : ∀ (d : Nat) (i : Nat) (k : Nat) (l : List α) (s : List UInt8), i + d = n.toNat → d < k → l.length = i → R3 (L k l s (i : Int)) (.out .bad) (fun x r => .go (l ++ x, r)) (pRep p d) s := by
    intro d
    induction d with
    | zero =>
      intro i k l s h hk hl
      obtain ⟨k, rfl⟩ : ∃ k', k = k' + 1 := ⟨k - 1, by omega⟩
      rw [hL, decide_eq_false (show ¬ (i : Int) < n by omega), cond_false]
      show some _ = some _
      simp [pRep, pR]
    | succ d ih =>
      intro i k l s h hk hl
      obtain ⟨k, rfl⟩ : ∃ k', k = k' + 1 := ⟨k - 1, by omega⟩
      rw [hL, decide_eq_true (show (i : Int) < n by omega), cond_true]
      refine R3.bind (hf s) fun x r hx => ?_
      have ha : app bytes l [x] = some (l ++ [x]) := by
        unfold app
        have : (l.length + 1) * bytes ≤ 256 * 1000 := Nat.mul_le_mul (by omega) hby
        rw [if_pos (by simpa using Nat.le_trans this (by decide))]
      show R3 ((app bytes l [x]).bind fun l' => L k l' r (w64 ((i : Int) + 1))) _ _ _ _
      rw [ha, Option.bind_some, w64_up (n := 256) (by omega) (by decide)]
      have hh := ih (i + 1) k (l ++ [x]) r (by omega) (by omega) (by simp [hl])
      unfold R3 at hh ⊢
      rw [hh]
      unfold pB
      cases pRep p d r with
      | none => rfl
      | some q => simp [pR]
  have := key n.toNat 0 F [] s (by omega) (by omega) rfl
  simpa using this
theorem cnt_range {s : List UInt8} {n : Int} {r : List UInt8} (h : pCnt s = some (n, r)) : 0 ≤ n ∧ n ≤ 255 := by
  unfold pCnt at h
  split at h
  · cases h
  · rename_i b r'
    have := b.toNat_lt
    simp only [Option.some.injEq, Prod.mk.injEq] at h; omega
theorem r_lst {α : Type} {p : Ps α} {bytes : Nat} {f : image_reader → Option (Pn (α × image_reader))} {L : (Int × image_reader) → Nat → List α → List UInt8 → Int → Option (Way (Pn (List α × image_reader)) (List α × List UInt8))} {g : image_reader → Option (Pn (List α × image_reader))} (hby : bytes ≤ 1000) (hf : ∀ s, R3 (f ⟨s⟩) .bad ro p s)
    (hL : ∀ q k l s i, L q (k + 1) l s i = cond (decide (i < q.1)) ((f ⟨s⟩).bind fun z => pnB z (some (.out .bad)) fun r => (app bytes l [r.1]).bind fun l' => L q k l' r.2.s (w64 (i + 1))) (some (.go (l, s)))) {F : Nat} (hF : 300 < F)
    (hg : ∀ s, g ⟨s⟩ = (image_reader_count ⟨s⟩).bind fun z => pnB z (some .bad) fun q => seqR (L q F [] q.2.s 0) fun x => some (.ok (x.1, ⟨x.2⟩))) (s : List UInt8) : R3 (g ⟨s⟩) .bad ro (pLst p) s := by
  rw [hg]
  refine R3.bind (r_cnt s) fun n r hn => ?_
  obtain ⟨h0, h1⟩ := cnt_range hn
  have h := r_rep (n := n) h0 h1 hby hf (fun k l s i => hL (n, ⟨r⟩) k l s i) hF r
  unfold R3 at h ⊢
  show seqR (L (n, ⟨r⟩) F [] r 0) _ = _
  rw [h]
  cases pRep p n.toNat r <;> rfl
section
variable {F : Nat} (hF : 300 < F)
include hF
theorem r_kinds (s : List UInt8) : R3 (image_read_api_Kind__image_reader_kind F ⟨s⟩) .bad ro (pLst pKind) s :=
  r_lst (bytes := 24) (L := image_read_api_Kind__image_reader_kind_L1) (by decide) r_kind (fun q k l s i => by rw [image_read_api_Kind__image_reader_kind_L1]) hF (fun s => rfl) s
theorem r_hands (s : List UInt8) : R3 (image_read_api_Handler__image_reader_handler F ⟨s⟩) .bad ro (pLst pHand) s :=
  r_lst (bytes := 40) (L := image_read_api_Handler__image_reader_handler_L1) (by decide) r_hand (fun q k l s i => by rw [image_read_api_Handler__image_reader_handler_L1]) hF (fun s => rfl) s
theorem r_fields (s : List UInt8) : R3 (image_read_api_Field__image_reader_field F ⟨s⟩) .bad ro (pLst pField) s :=
  r_lst (bytes := 40) (L := image_read_api_Field__image_reader_field_L1) (by decide) r_field (fun q k l s i => by rw [image_read_api_Field__image_reader_field_L1]) hF (fun s => rfl) s
omit hF in
theorem two_range {s : List UInt8} {n : Int} {r : List UInt8} (h : pTwo s = some (n, r)) : 0 ≤ n := by
  unfold pTwo at h
  split at h
  · simp only [Option.some.injEq, Prod.mk.injEq] at h; omega
  · cases h
theorem r_meth (s : List UInt8) : R3 (image_reader_method F ⟨s⟩) .bad ro pMeth s := by
  unfold image_reader_method
  exact R3.bind (r_txt s) fun _ r1 _ => R3.bind (r_yes r1) fun _ r2 _ => R3.bind (r_kinds hF r2) fun _ r3 _ => R3.bind (r_kind r3) fun _ r4 _ => R3.bind (r_cnt r4) fun _ r5 _ => R3.bind (r_cnt r5) fun _ r6 _ =>
    R3.bind (r_num r6) fun _ r7 h7 => R3.bind (r_take (two_range h7) r7) fun _ r8 _ => R3.bind (r_hands hF r8) fun _ r9 _ => rfl
theorem r_meths (s : List UInt8) : R3 (image_read_api_Method__image_reader_method F ⟨s⟩) .bad ro (pLst pMeth) s :=
  r_lst (bytes := 128) (L := image_read_api_Method__image_reader_method_L1 F) (by decide) (r_meth hF) (fun q k l s i => by rw [image_read_api_Method__image_reader_method_L1]) hF (fun s => rfl) s
theorem r_class (s : List UInt8) : R3 (image_reader_class F ⟨s⟩) .bad ro pClass s := by
  unfold image_reader_class
  exact R3.bind (r_txt s) fun _ r1 _ => R3.bind (r_txt r1) fun _ r2 _ => R3.bind (r_fields hF r2) fun _ r3 _ => R3.bind (r_meths hF r3) fun _ r4 _ => rfl
theorem r_img (s : List UInt8) : R3 (image_read_api_Class__image_reader_class F ⟨s⟩) .bad ro pImg s :=
  r_lst (bytes := 80) (L := image_read_api_Class__image_reader_class_L1 F) (by decide) (r_class hF) (fun q k l s i => by rw [image_read_api_Class__image_reader_class_L1]) hF (fun s => rfl) s
end
end Cin
namespace Cin
def QP {α : Type} (p : Ps α) (Q : α → Prop) : Prop := ∀ s x r, s.length ≤ 20000 → p s = some (x, r) → Q x ∧ r.length ≤ s.length
theorem pB_some {α β : Type} {p : Ps α} {f : α → Ps β} {s : List UInt8} {y : β} {r : List UInt8} (h : pB p f s = some (y, r)) : ∃ x r1, p s = some (x, r1) ∧ f x r1 = some (y, r) := by
  unfold pB at h
  cases hp : p s with
  | none => rw [hp] at h; cases h
  | some xr => rw [hp] at h; exact ⟨xr.1, xr.2, rfl, h⟩
theorem QP.bind {α β : Type} {p : Ps α} {f : α → Ps β} {Q : α → Prop} {Q2 : β → Prop} (h : QP p Q) (hf : ∀ x, Q x → QP (f x) Q2) : QP (pB p f) Q2 := by
  intro s y r hs e
  obtain ⟨x, r1, h1, h2⟩ := pB_some e
  obtain ⟨q1, l1⟩ := h s x r1 hs h1
  obtain ⟨q2, l2⟩ := hf x q1 r1 y r (by omega) h2
  exact ⟨q2, by omega⟩
theorem QP.ret {α : Type} {Q : α → Prop} {x : α} (h : Q x) : QP (pR x) Q := by
  intro s y r _ e
  simp only [pR, Option.some.injEq, Prod.mk.injEq] at e
  obtain ⟨rfl, rfl⟩ := e
  exact ⟨h, Nat.le_refl _⟩
theorem qTake (n : Int) : QP (pTake n) fun t => t.length ≤ 20000 := by
  intro s x r hs e
  unfold pTake at e
  split at e
  · simp only [Option.some.injEq, Prod.mk.injEq] at e
    obtain ⟨rfl, rfl⟩ := e
    exact ⟨by show (s.take n.toNat).length ≤ 20000; rw [List.length_take]; omega, by rw [List.length_drop]; omega⟩
  · cases e
theorem qCnt : QP pCnt fun n => 0 ≤ n ∧ n ≤ 255 := by
  intro s x r hs e
  refine ⟨cnt_range e, ?_⟩
  unfold pCnt at e
  split at e
  · cases e
  · simp only [Option.some.injEq, Prod.mk.injEq] at e
    rw [← e.2]; simp
theorem qTwo : QP pTwo fun _ => True := by
  intro s x r hs e
  refine ⟨trivial, ?_⟩
  unfold pTwo at e
  split at e
  · simp only [Option.some.injEq, Prod.mk.injEq] at e
    rw [← e.2]; simp; omega
  · cases e
theorem qTxt : QP pTxt fun t => t.length ≤ 20000 := qCnt.bind fun n _ => qTake n
theorem qYes : QP pYes fun _ => True := qCnt.bind fun n _ => by
  split
  · intro s x r _ e; cases e
  · exact QP.ret trivial
theorem qKind : QP pKind fun k => k.Class.length ≤ 20000 := qCnt.bind fun n _ => by
  split
  · exact qTxt.bind fun t ht => QP.ret ht
  · exact QP.ret (by simp)
theorem qField : QP pField fun f => f.Name.length ≤ 20000 ∧ f.Kind.Class.length ≤ 20000 := qTxt.bind fun t ht => qKind.bind fun k hk => QP.ret ⟨ht, hk⟩
theorem qHand : QP pHand fun h => h.Class.length ≤ 20000 := qTwo.bind fun _ _ => qTwo.bind fun _ _ => qTwo.bind fun _ _ => qTxt.bind fun t ht => QP.ret ht
theorem qRep {α : Type} {p : Ps α} {Q : α → Prop} (h : QP p Q) : ∀ n, QP (pRep p n) fun l => l.length = n ∧ ∀ x ∈ l, Q x
  | 0 => QP.ret ⟨rfl, fun x hx => by cases hx⟩
  | n + 1 => h.bind fun x hx => (qRep h n).bind fun l hl => QP.ret ⟨by simp [hl.1], fun y hy => by
      rcases List.mem_cons.1 hy with rfl | e
      · exact hx
      · exact hl.2 y e⟩
theorem qLst {α : Type} {p : Ps α} {Q : α → Prop} (h : QP p Q) : QP (pLst p) fun l => l.length ≤ 255 ∧ ∀ x ∈ l, Q x := qCnt.bind fun n hn => fun s x r hs e => by
  obtain ⟨⟨h1, h2⟩, h3⟩ := qRep h n.toNat s x r hs e
  exact ⟨⟨by omega, h2⟩, h3⟩
def rdAns (s : List UInt8) : List Class × Int := if 20000 < s.length then ([], 2) else match pImg s with
    | some (l, []) => if chk l = 0 then (l, 0) else ([], 1)
    | _ => ([], 1)
section
variable {F : Nat} (hF : 20000 < F)
include hF
theorem sm20 {n : Nat} (h : n ≤ 20000) : Small F n := ⟨by omega, by omega⟩
theorem qMeth : QP pMeth fun m => m.Fits F :=
  qTxt.bind fun nm h1 => qYes.bind fun st _ => (qLst qKind).bind fun ar h3 => qKind.bind fun rt h4 => qCnt.bind fun _ _ => qCnt.bind fun _ _ => qTwo.bind fun n _ => (qTake n).bind fun co _ => (qLst qHand).bind fun ha h9 =>
    QP.ret ⟨sm20 hF h1, sm20 hF (Nat.le_trans h3.1 (by decide)), fun k hk => sm20 hF (h3.2 k hk), sm20 hF h4, sm20 hF (Nat.le_trans h9.1 (by decide)), fun h hh => sm20 hF (h9.2 h hh)⟩
theorem qClass : QP pClass fun c => c.Fits F :=
  qTxt.bind fun nm h1 => qTxt.bind fun su h2 => (qLst qField).bind fun fs h3 => (qLst (qMeth hF)).bind fun ms h4 =>
    QP.ret ⟨sm20 hF h1, sm20 hF h2, sm20 hF (Nat.le_trans h3.1 (by decide)), fun f hf => ⟨sm20 hF (h3.2 f hf).1, sm20 hF (h3.2 f hf).2⟩, sm20 hF (Nat.le_trans h4.1 (by decide)), h4.2⟩
theorem qImg : QP pImg fun l => Fits F l := fun s x r hs e => by
  obtain ⟨⟨h1, h2⟩, h3⟩ := qLst (qClass hF) s x r hs e
  exact ⟨⟨sm20 hF (by omega), h2⟩, h3⟩
theorem image_Read_eq (s : List UInt8) : image_Read F s = some (rdAns s) := by
  unfold rdAns
  unfold image_Read
  by_cases h : 20000 < s.length
  · rw [if_pos h, decide_eq_true (show (20000 : Int) < (s.length : Int) by omega)]; rfl
  · rw [if_neg h, decide_eq_false (show ¬ (20000 : Int) < (s.length : Int) by omega), cond_false]
    have hr := r_img (F := F) (by omega) s
    unfold R3 at hr
    rw [hr, Option.bind_some]
    cases hp : pImg s with
    | none => rfl
    | some lr =>
      obtain ⟨l, r⟩ := lr
      have hfit := (qImg hF s l r (by omega) hp).1
      show cond (!decide (r = [])) _ (Option.bind (image_Check F l) _) = _
      cases r with
      | nil =>
        rw [decide_eq_true rfl, Bool.not_true, cond_false, image_Check_eq hfit, Option.bind_some]
        by_cases h0 : chk l = 0
        · simp [h0]
        · simp [h0]
      | cons b r => rfl
end
def DE {α : Type} (p : Ps α) (g : α → List UInt8) : Prop := ∀ s x r, p s = some (x, r) → s = g x ++ r
theorem b8_byte (b : UInt8) : b8 (b.toNat : Int) = b := by
  have := b.toNat_lt
  apply UInt8.toNat.inj
  have h := b8_toNat (b.toNat : Int)
  omega
theorem deCnt : DE pCnt fun n => [b8 n] := by
  intro s x r e
  unfold pCnt at e
  split at e
  · cases e
  · simp only [Option.some.injEq, Prod.mk.injEq] at e
    obtain ⟨rfl, rfl⟩ := e
    show _ = [b8 _] ++ _
    rw [b8_byte]; rfl
theorem deTwo : DE pTwo bTwo := by
  intro s x r e
  unfold pTwo at e
  split at e
  · rename_i a b r'
    simp only [Option.some.injEq, Prod.mk.injEq] at e
    obtain ⟨rfl, rfl⟩ := e
    have ha := a.toNat_lt
    have hb := b.toNat_lt
    have h1 : shrI (256 * (a.toNat : Int) + (b.toNat : Int)) 8 = (a.toNat : Int) := by unfold shrI; omega
    have h2 : b8 (256 * (a.toNat : Int) + (b.toNat : Int)) = b := by
      apply UInt8.toNat.inj
      have h := b8_toNat (256 * (a.toNat : Int) + (b.toNat : Int))
      omega
    unfold bTwo
    rw [h1, h2, b8_byte]
    rfl
  · cases e
theorem take_some {n : Int} {s t r : List UInt8} (h0 : 0 ≤ n) (h : pTake n s = some (t, r)) : s = t ++ r ∧ (t.length : Int) = n := by
  unfold pTake at h
  split at h
  · simp only [Option.some.injEq, Prod.mk.injEq] at h
    obtain ⟨rfl, rfl⟩ := h
    exact ⟨(List.take_append_drop _ _).symm, by rw [List.length_take]; omega⟩
  · cases h
theorem deTxt : DE pTxt bTxt := by
  intro s x r e
  obtain ⟨n, r1, h1, h2⟩ := pB_some e
  obtain ⟨q1, q2⟩ := take_some (cnt_range h1).1 h2
  rw [deCnt s n r1 h1, q1, bTxt, q2]
  rfl
theorem deKind : DE pKind bKind := by
  intro s x r e
  obtain ⟨n, r1, h1, h2⟩ := pB_some e
  rw [deCnt s n r1 h1]
  cases hn : nmI n with
  | true =>
    rw [hn, if_pos rfl] at h2
    obtain ⟨t, r2, h3, h4⟩ := pB_some h2
    simp only [pR, Option.some.injEq, Prod.mk.injEq] at h4
    obtain ⟨rfl, rfl⟩ := h4
    rw [deTxt r1 t r2 h3]
    have : nmd (⟨n, t⟩ : Kind) = true := hn
    simp [bKind, this]
  | false =>
    rw [hn, if_neg (by simp)] at h2
    simp only [pR, Option.some.injEq, Prod.mk.injEq] at h2
    obtain ⟨rfl, rfl⟩ := h2
    have : nmd (⟨n, []⟩ : Kind) = false := hn
    simp [bKind, this]
theorem deField : DE pField bField := by
  intro s x r e
  obtain ⟨t, r1, h1, e⟩ := pB_some e
  obtain ⟨k, r2, h2, e⟩ := pB_some e
  simp only [pR, Option.some.injEq, Prod.mk.injEq] at e
  obtain ⟨rfl, rfl⟩ := e
  rw [deTxt s t r1 h1, deKind r1 k r2 h2]
  simp [bField]
theorem deHand : DE pHand bHand := by
  intro s x r e
  obtain ⟨a, r1, h1, e⟩ := pB_some e
  obtain ⟨b, r2, h2, e⟩ := pB_some e
  obtain ⟨c, r3, h3, e⟩ := pB_some e
  obtain ⟨t, r4, h4, e⟩ := pB_some e
  simp only [pR, Option.some.injEq, Prod.mk.injEq] at e
  obtain ⟨rfl, rfl⟩ := e
  rw [deTwo s a r1 h1, deTwo r1 b r2 h2, deTwo r2 c r3 h3, deTxt r3 t r4 h4]
  simp [bHand]
theorem deRep {α : Type} {p : Ps α} {g : α → List UInt8} (h : DE p g) : ∀ (n : Nat) s x r, pRep p n s = some (x, r) → s = x.flatMap g ++ r ∧ x.length = n
  | 0, s, x, r, e => by
    simp only [pRep, pR, Option.some.injEq, Prod.mk.injEq] at e
    obtain ⟨rfl, rfl⟩ := e
    simp
  | n + 1, s, x, r, e => by
    obtain ⟨y, r1, h1, e⟩ := pB_some e
    obtain ⟨l, r2, h2, e⟩ := pB_some e
    simp only [pR, Option.some.injEq, Prod.mk.injEq] at e
    obtain ⟨rfl, rfl⟩ := e
    obtain ⟨q1, q2⟩ := deRep h n r1 l r2 h2
    rw [h s y r1 h1, q1]
    simp [q2]
theorem deLst {α : Type} {p : Ps α} {g : α → List UInt8} (h : DE p g) : DE (pLst p) (bLst g) := by
  intro s x r e
  obtain ⟨n, r1, h1, h2⟩ := pB_some e
  obtain ⟨q1, q2⟩ := deRep h n.toNat r1 x r h2
  have h0 := (cnt_range h1).1
  rw [deCnt s n r1 h1, q1]
  have : (x.length : Int) = n := by omega
  simp [bLst, this]
theorem deMeth : DE pMeth bMeth := by
  intro s x r e
  obtain ⟨nm, r1, h1, e⟩ := pB_some e
  obtain ⟨st, r2, h2, e⟩ := pB_some e
  obtain ⟨ar, r3, h3, e⟩ := pB_some e
  obtain ⟨rt, r4, h4, e⟩ := pB_some e
  obtain ⟨sk, r5, h5, e⟩ := pB_some e
  obtain ⟨lo, r6, h6, e⟩ := pB_some e
  obtain ⟨n, r7, h7, e⟩ := pB_some e
  obtain ⟨co, r8, h8, e⟩ := pB_some e
  obtain ⟨ha, r9, h9, e⟩ := pB_some e
  simp only [pR, Option.some.injEq, Prod.mk.injEq] at e
  obtain ⟨rfl, rfl⟩ := e
  have hst : r1 = b8 (cond st 1 0) :: r2 := by
    obtain ⟨q, r0, g1, g2⟩ := pB_some h2
    have hq := cnt_range g1
    rw [deCnt r1 q r0 g1]
    split at g2
    · cases g2
    · rename_i hle
      simp only [pR, Option.some.injEq, Prod.mk.injEq] at g2
      obtain ⟨rfl, rfl⟩ := g2
      by_cases h : q = 1
      · subst h; rfl
      · have : q = 0 := by omega
        subst this; rfl
  obtain ⟨q1, q2⟩ := take_some (two_range h7) h8
  rw [deTxt s nm r1 h1, hst, deLst deKind r2 ar r3 h3, deKind r3 rt r4 h4, deCnt r4 sk r5 h5, deCnt r5 lo r6 h6, deTwo r6 n r7 h7, q1, deLst deHand r8 ha r9 h9]
  simp [bMeth, q2]
theorem deClass : DE pClass bClass := by
  intro s x r e
  obtain ⟨nm, r1, h1, e⟩ := pB_some e
  obtain ⟨su, r2, h2, e⟩ := pB_some e
  obtain ⟨fs, r3, h3, e⟩ := pB_some e
  obtain ⟨ms, r4, h4, e⟩ := pB_some e
  simp only [pR, Option.some.injEq, Prod.mk.injEq] at e
  obtain ⟨rfl, rfl⟩ := e
  rw [deTxt s nm r1 h1, deTxt r1 su r2 h2, deLst deField r2 fs r3 h3, deLst deMeth r3 ms r4 h4]
  simp [bClass]
theorem deImg : DE pImg bImg := deLst deClass
theorem pB_of {α β : Type} {p : Ps α} {f : α → Ps β} {s r : List UInt8} {x : α} (h : p s = some (x, r)) : pB p f s = f x r := by unfold pB; rw [h]
theorem edCnt {n : Int} (h0 : 0 ≤ n) (h1 : n ≤ 255) (r : List UInt8) : pCnt (b8 n :: r) = some (n, r) := by
  have h := b8_toNat n
  have : ((b8 n).toNat : Int) = n := by omega
  simp [pCnt, this]
theorem edTwo {n : Int} (h0 : 0 ≤ n) (h1 : n ≤ 65535) (r : List UInt8) : pTwo (bTwo n ++ r) = some (n, r) := by
  have h := b8_toNat n
  have h2 := b8_toNat (shrI n 8)
  have h3 : shrI n 8 = n / 256 := by unfold shrI; rfl
  have : 256 * ((b8 (shrI n 8)).toNat : Int) + ((b8 n).toNat : Int) = n := by omega
  simp [pTwo, bTwo, this]
theorem edTake {t r : List UInt8} : pTake (t.length : Int) (t ++ r) = some (t, r) := by
  unfold pTake
  rw [if_pos (by rw [List.length_append]; omega)]
  simp
theorem edTxt {t : List UInt8} (h : t.length ≤ 255) (r : List UInt8) : pTxt (bTxt t ++ r) = some (t, r) := by
  unfold pTxt bTxt
  rw [List.cons_append, pB_of (edCnt (by omega) (by omega) _)]
  exact edTake
def VK (k : Kind) : Prop := 0 ≤ k.Kind ∧ k.Kind ≤ 255 ∧ k.Class.length ≤ 255 ∧ (nmd k = false → k.Class = [])
theorem edKind {k : Kind} (h : VK k) (r : List UInt8) : pKind (bKind k ++ r) = some (k, r) := by
  unfold pKind bKind
  rw [List.cons_append, pB_of (edCnt h.1 h.2.1 _)]
  cases hn : nmd k with
  | true =>
    have : nmI k.Kind = true := hn
    rw [if_pos rfl, this, if_pos rfl, pB_of (edTxt h.2.2.1 r)]
    rfl
  | false =>
    have : nmI k.Kind = false := hn
    have hn' : ¬ (false = true) := by simp
    rw [this, if_neg hn', if_neg hn']
    have hc := h.2.2.2 hn
    obtain ⟨a, b⟩ := k
    simp only at hc
    subst hc
    rfl
theorem edRep {α : Type} {p : Ps α} {g : α → List UInt8} : ∀ {l : List α}, (∀ x ∈ l, ∀ r, p (g x ++ r) = some (x, r)) → ∀ r, pRep p l.length (l.flatMap g ++ r) = some (l, r)
  | [], _, r => rfl
  | x :: l, h, r => by
    rw [List.flatMap_cons, List.append_assoc, List.length_cons, pRep, pB_of (h x (by simp) _), pB_of (edRep (l := l) (fun y hy => h y (by simp [hy])) r)]
    rfl
theorem edLst {α : Type} {p : Ps α} {g : α → List UInt8} {l : List α} (hl : l.length ≤ 255) (h : ∀ x ∈ l, ∀ r, p (g x ++ r) = some (x, r)) (r : List UInt8) : pLst p (bLst g l ++ r) = some (l, r) := by
  unfold pLst bLst
  rw [List.cons_append, pB_of (edCnt (by omega) (by omega) _), Int.toNat_natCast]
  exact edRep h r
theorem vkind {k : Kind} (h : kindOk k = true) : VK k := by
  have hl := kindOk_len h
  unfold kindOk at h
  by_cases hk : k.Kind = 3 ∨ k.Kind = 4
  · refine ⟨by omega, by omega, by omega, fun hn => ?_⟩
    unfold nmd at hn
    simp only [Bool.or_eq_false_iff, decide_eq_false_iff_not] at hn
    omega
  · rw [if_neg hk] at h
    simp only [Bool.and_eq_true, Bool.or_eq_true, decide_eq_true_eq] at h
    exact ⟨by omega, by omega, by omega, fun _ => h.2⟩
theorem edHand {x : Handler} (h : isNm x.Class = true ∧ wi x.From 0 200 = true ∧ wi x.To 0 200 = true ∧ wi x.At 0 200 = true) (r : List UInt8) : pHand (bHand x ++ r) = some (x, r) := by
  have h1 := isNm_len h.1
  have h2 := wi_i h.2.1
  have h3 := wi_i h.2.2.1
  have h4 := wi_i h.2.2.2
  unfold pHand bHand
  simp only [List.append_assoc]
  rw [pB_of (edTwo h2.1 (by omega) _), pB_of (edTwo h3.1 (by omega) _), pB_of (edTwo h4.1 (by omega) _), pB_of (edTxt (by omega) _)]
  rfl
theorem edMeth {m : Method} (h : OkM m) (r : List UInt8) : pMeth (bMeth m ++ r) = some (m, r) := by
  have h1 := isNm_len h.name
  have h2 := wi_i h.stack
  have h3 := wi_i h.locals
  have h4 := h.args
  have h5 := h.code
  have h6 := h.hands
  have hrt : VK m.Returns := by
    rcases h.ret with e | e
    · rw [e]; exact ⟨by decide, by decide, by decide, fun _ => rfl⟩
    · exact vkind e
  have hst : ∀ r, pYes (b8 (cond m.Static 1 0) :: r) = some (m.Static, r) := by
    intro r
    unfold pYes
    cases m.Static
    · rw [cond_false, pB_of (edCnt (by decide) (by decide) _)]; rfl
    · rw [cond_true, pB_of (edCnt (by decide) (by decide) _)]; rfl
  unfold pMeth bMeth
  simp only [List.append_assoc, List.cons_append]
  rw [pB_of (edTxt (by omega) _), pB_of (hst _), pB_of (edLst (by omega) (fun k hk r => edKind (vkind (h.arg k hk)) r) _), pB_of (edKind hrt _), pB_of (edCnt h2.1 (by omega) _), pB_of (edCnt h3.1 (by omega) _),
    pB_of (edTwo (by omega) (by omega) _), pB_of edTake, pB_of (edLst (by omega) (fun x hx r => edHand (h.hand x hx) r) _)]
  rfl
theorem edField {f : Field} (h : isNm f.Name = true ∧ kindOk f.Kind = true) (r : List UInt8) : pField (bField f ++ r) = some (f, r) := by
  have h1 := isNm_len h.1
  unfold pField bField
  rw [List.append_assoc, pB_of (edTxt (by omega) _), pB_of (edKind (vkind h.2) _)]
  rfl
theorem edClass {c : Class} (h : OkC c) (r : List UInt8) : pClass (bClass c ++ r) = some (c, r) := by
  have h1 := isNm_len h.name
  have h2 : c.Super.length ≤ 20 := by
    rcases h.super with e | e
    · rw [e]; simp
    · exact isNm_len e
  have h3 := h.fields
  have h4 := h.methods
  unfold pClass bClass
  simp only [List.append_assoc]
  rw [pB_of (edTxt (by omega) _), pB_of (edTxt (by omega) _), pB_of (edLst (by omega) (fun f hf r => edField (h.field f hf) r) _), pB_of (edLst (by omega) (fun m hm r => edMeth (h.method m hm) r) _)]
  rfl
theorem edImg {l : List Class} (h : chk l = 0) : pImg (bImg l) = some (l, []) := by
  obtain ⟨h1, h2⟩ := okL h
  have := edLst (p := pClass) (g := bClass) (l := l) (by omega) (fun c hc r => edClass (h2 c hc) r) []
  rw [List.append_nil] at this
  exact this
end Cin
namespace Cin
theorem cmpL {α : Type} [DecidableEq α] {F : Nat} {a b : List α} (hl : a.length = b.length) {L : Nat → Int → Option (Way Bool Unit)} (hn : a.length ≤ 140737488355328)
    (hs : ∀ k (i : Nat) x y, a[i]? = some x → b[i]? = some y → L (k + 1) (i : Int) = cond (!decide (x = y)) (some (.out false)) (L k (w64 ((i : Int) + 1)))) (he : ∀ k, L (k + 1) (a.length : Int) = some (.go ())) (hF : a.length < F) :
    L F 0 = some (if a = b then .go () else .out false) := by
  have l1 : L F 0 = some (wo ((List.range a.length).findSome? fun i => if a[i]? = b[i]? then none else some false)) := eachN _ hn (fun k i hi => by
    rw [hs k i a[i] (b[i]'(by omega)) (List.getElem?_eq_getElem hi) (List.getElem?_eq_getElem (show i < b.length by omega)), List.getElem?_eq_getElem hi, List.getElem?_eq_getElem (show i < b.length by omega)]
    simp only [Option.some.injEq]
    by_cases e : a[i] = b[i]'(by omega)
    · rw [decide_eq_true e, if_pos e]; rfl
    · rw [decide_eq_false e, if_neg e]; rfl) he hF
  rw [l1]
  cases hf : (List.range a.length).findSome? fun i => if a[i]? = b[i]? then none else some false with
  | some e =>
    obtain ⟨i, hi, h1⟩ := List.exists_of_findSome?_eq_some hf
    split at h1
    · cases h1
    · rename_i hne
      injection h1 with h1
      subst h1
      rw [if_neg (fun e => hne (by rw [e]))]; rfl
  | none =>
    rw [if_pos]; rfl
    apply List.ext_getElem?
    intro i
    by_cases hi : i < a.length
    · have := List.findSome?_eq_none_iff.1 hf i (by simpa using hi)
      split at this
      · assumption
      · cases this
    · rw [List.getElem?_eq_none (by omega), List.getElem?_eq_none (by omega)]
theorem fs_none {α β : Type} (l : List α) : l.findSome? (fun _ => (none : Option β)) = none := by rw [List.findSome?_eq_none_iff]; intro _ _; rfl
theorem cmpR {p : Prop} [Decidable p] {Y : Option Bool} : seqR (α := Unit) (some (if p then (.go () : Way Bool Unit) else .out false)) (fun _ => Y) = if p then Y else some false := by by_cases h : p <;> simp [h]
theorem len_dec {α : Type} {a b : List α} : decide ((a.length : Int) = (b.length : Int)) = decide (a.length = b.length) := by
  rw [Bool.eq_iff_iff]; simp; omega
theorem eq_len {α : Type} [DecidableEq α] {a b : List α} (h : a.length ≠ b.length) : decide (a = b) = false := decide_eq_false (fun e => h (by rw [e]))
section
variable {F : Nat}
theorem sameFields {a b : List Field} (ha : Small F a.length) : R_SameFields F a b = some (decide (a = b)) := by
  unfold R_SameFields
  rw [len_dec]
  by_cases hl : a.length = b.length
  · rw [decide_eq_true hl]
    simp only [Bool.not_true, cond_false]
    rw [cmpL hl ha.1 (L := R_SameFields_L1 a b) (fun k i x y hx hy => by rw [R_SameFields_L1, lt_t (List.getElem?_eq_some_iff.1 hx).1, cond_true, idx_at hx, Option.bind_some, idx_at hy, Option.bind_some]) (fun k => by rw [R_SameFields_L1, lt_f]; rfl) ha.2, cmpR]
    by_cases h : a = b <;> simp [h]
  · rw [decide_eq_false hl, eq_len hl]; rfl
theorem sameKinds' {a b : List Kind} (ha : Small F a.length) : R_SameKinds F a b = some (decide (a = b)) := by
  unfold R_SameKinds
  rw [len_dec]
  by_cases hl : a.length = b.length
  · rw [decide_eq_true hl]
    simp only [Bool.not_true, cond_false]
    rw [cmpL hl ha.1 (L := R_SameKinds_L1 a b) (fun k i x y hx hy => by rw [R_SameKinds_L1, lt_t (List.getElem?_eq_some_iff.1 hx).1, cond_true, idx_at hx, Option.bind_some, idx_at hy, Option.bind_some]) (fun k => by rw [R_SameKinds_L1, lt_f]; rfl) ha.2, cmpR]
    by_cases h : a = b <;> simp [h]
  · rw [decide_eq_false hl, eq_len hl]; rfl
theorem same_self {l : List Class} (h : Fits F l) : R_SameClasses F l l = some true := by
  unfold R_SameClasses
  rw [decide_eq_true rfl]
  simp only [Bool.not_true, cond_false]
  have l1 : R_SameClasses_L1 F l l F 0 = some (wo (l.findSome? fun _ => (none : Option Bool))) := each (fun _ => none) h.1.1 (fun k i c hx => by
    have hc := h.2 c (List.mem_of_getElem? hx)
    have l2 : R_SameClasses_L2 F c c F 0 = some (wo (c.Methods.findSome? fun _ => (none : Option Bool))) := each (fun _ => none) hc.methods.1 (fun k i m hy => by
      have hm := hc.method m (List.mem_of_getElem? hy)
      have l3 : R_SameClasses_L3 m m F 0 = some (wo (m.Handlers.findSome? fun _ => (none : Option Bool))) := each (fun _ => none) hm.hands.1 (fun k i x hz => by
        rw [R_SameClasses_L3, lt_t (List.getElem?_eq_some_iff.1 hz).1, cond_true, idx_at hz, Option.bind_some, Option.bind_some, decide_eq_true rfl]; rfl) (fun k => by rw [R_SameClasses_L3, lt_f]; rfl) hm.hands.2
      rw [R_SameClasses_L2, lt_t (List.getElem?_eq_some_iff.1 hy).1, cond_true, idx_at hy, Option.bind_some, Option.bind_some, sameKinds' hm.args, Option.bind_some, l3, fs_none]
      simp
      rfl) (fun k => by rw [R_SameClasses_L2, lt_f]; rfl) hc.methods.2
    rw [R_SameClasses_L1, lt_t (List.getElem?_eq_some_iff.1 hx).1, cond_true, idx_at hx, Option.bind_some, Option.bind_some, sameFields hc.fields, Option.bind_some, l2, fs_none]
    simp
    rfl) (fun k => by rw [R_SameClasses_L1, lt_f]; rfl) h.1.2
  rw [l1, fs_none]; rfl
end
end Cin
namespace Cin
theorem plain_ImageBack (l : List Class) (h0 : l.length * 80 ≤ Go.reachBytes ∧ ∀ x ∈ l, Go.Proofs.Ytfbkanhgjpdohaa.Ok_Class Go.reachBytes x) (s : List UInt8) (_ : s.length ≤ Go.reachBytes) : ∃ F, L_ImageBack F l s = some true := by
  refine ⟨140737488355940 + 60, ?_⟩
  have hf : Fits (140737488355940 + 60) l := fits_of h0
  have hF : 20000 < 140737488355940 + 60 := by omega
  have w : ∀ {m : List Class}, Fits (140737488355940 + 60) m → image_Write (140737488355940 + 60) m = some (if chk m = 0 then (if 20000 < (bImg m).length then ([], 2) else (bImg m, 0)) else ([], chk m)) :=
    fun {m} hm => image_Write_eq (F := 140737488355940 + 56) hm (fun h => Nat.le_trans (bImg_len h) (by decide))
  have second : ((image_Read (140737488355940 + 60) s).bind fun r31_ => cond (!decide (r31_.2 = 0)) (some true) ((image_Write (140737488355940 + 60) r31_.1).bind fun r37_ => some ((decide (r37_.2 = 0)) && (decide (r37_.1 = s))))) = some true := by
    rw [image_Read_eq hF, Option.bind_some]
    unfold rdAns
    by_cases hs : 20000 < s.length
    · rw [if_pos hs]; rfl
    · rw [if_neg hs]
      cases hp : pImg s with
      | none => rfl
      | some mr =>
        obtain ⟨m, r⟩ := mr
        have hm := (qImg hF s m r (by omega) hp).1
        have hd := deImg s m r hp
        cases r with
        | cons b r => rfl
        | nil =>
          rw [List.append_nil] at hd
          by_cases hc : chk m = 0
          · have hlen : ¬ 20000 < (bImg m).length := by rw [← hd]; exact hs
            simp only [hc, if_true]
            rw [w hm, if_pos hc, if_neg hlen, Option.bind_some, ← hd]
            simp
          · simp only [hc, if_false]; rfl
  unfold L_ImageBack
  rw [image_begun, Option.bind_some, Bool.not_true, cond_false, second, w hf, Option.bind_some]
  by_cases hc : chk l = 0
  · rw [if_pos hc]
    by_cases hl : 20000 < (bImg l).length
    · rw [if_pos hl]; rfl
    · rw [if_neg hl, image_Read_eq hF]
      have hr : rdAns (bImg l) = (l, 0) := by
        unfold rdAns
        rw [if_neg hl, edImg hc]
        simp [hc]
      rw [hr]
      simp only [decide_true, cond_true, Option.bind_some, Bool.not_true, cond_false]
      rw [same_self hf]
      rfl
  · rw [if_neg hc]
    simp [hc]
end Cin
namespace Go.Proofs.Ytfbkanhgjpdohaa.imageBack
open Go Go.ChangeShapes Go.WideShapes Go.ChangeAt Go.RowKit
theorem own : ownKnob Try.prog.godebug = none := by kernel_rfl
set_option maxRecDepth 100000 in
theorem contract (H : Type) (enc : TypeId × Value → H) (W : World) (base : Nat) (args : Array Value) (ds gs : List (DataW H)) (before : List MemPlace)
    (hval : ∀ (j : Nat) t v, Try.f5.params[j]? = some t → args[j]? = some v → Value.okWide Try.prog W .any base t v)
    (hW : DataW.Whole enc Try.prog Try.f5.params.toList Rows.imageBackSpec.vars false W args.toList ds gs before) (hsz0 : ∀ n ∈ DataW.weightsEach Try.prog Try.f5.params.toList ds, n ≤ reachBytes) :
    Calls Try.prog 5 args W fun e W' => ∃ v, e = .returned v ∧ Rows.imageBackSpec.post enc Try.prog Try.f5 false true false false W args v W' := by
  have hW' := hW
  have hlt := hW.lt
  obtain ⟨p, q, hA0, hV, hpq, hfz, hnd⟩ := hW
  have hA : DataW.TrodAll enc Try.prog W 0 (fun _ => true) true Try.f5.params.toList args.toList ds p := hA0
  have hsz := hsz0
  rw [Try.params5] at hA hval hsz
  obtain ⟨v0, vs0, d0, ds0, p0, q0, hargs, rfl, rfl, h0, tr0⟩ := trodAll_cons hA
  obtain ⟨v1, vs1, d1, ds1, p1, q1, rfl, rfl, rfl, h1, tr1⟩ := trodAll_cons tr0
  obtain ⟨rfl, rfl, rfl⟩ := trodAll_nil tr1
  obtain rfl : args = #[v0, v1] := by cases args; simp_all
  obtain ⟨rfl, rfl⟩ := trodVars_none hV
  have rr0 := rds_sl22 (enc := enc) (N := reachBytes)
  have rq0 := Gg.arg_rds rr0 h0 (fun x hx => hlt x (by subst hpq; simp [hx]))
  have rs0 := rq0 (fun m hm => hsz m (by simp only [DataW.weightsEach, List.mem_append]; simp [hm]))
  obtain ⟨d0, r0, k0⟩ := rs0
  obtain ⟨a0, n0, c0, rfl⟩ := okWide_slice Try.underlying22 (hval 0 22 v0 rfl rfl)
  obtain ⟨A0, C0, e0⟩ := Gg.slice_cs r0
  obtain ⟨rfl, rfl, rfl⟩ := Value.slice.inj (List.cons.inj e0).1
  obtain ⟨s1, rfl, _⟩ := Gg.arg_str Try.underlying9 (hval 1 9 v1 rfl rfl) h1
  have k1 := Gg.arg_str_wt (N := reachBytes) Try.underlying9 (hval 1 9 _ rfl rfl) h1 (fun m hm => hsz m (by simp only [DataW.weightsEach, List.mem_append]; simp [hm]))
  obtain ⟨F, hF⟩ := Cin.plain_ImageBack d0 k0 s1 k1
  refine (c_L_ImageBack (X := []) (W := W) ⟨Gg.Ev.refl _ _, fun _ hk => absurd hk (List.not_mem_nil), fun _ hk => absurd hk (List.not_mem_nil), fun _ hx => absurd hx (List.not_mem_nil), List.nodup_nil, fun y hy => by cases List.mem_singleton.1 hy; exact r0⟩ hF).mono fun e W' ⟨he, hv⟩ => ?_
  exact ⟨_, he, Gg.post_true hW' (by kernel_rfl) (by kernel_rfl) rfl rfl Try.underlying4 rfl hv.ev⟩
theorem laid_met (os : Os) : laidMet Try.prog Rows.imageBackRow.laid ((World.holding Try.prog os ⟨#[], #[], []⟩).forCall (fun _ _ => 0) ⟨#[], #[.slice none 0 0, .string ⟨#[]⟩], []⟩).memory :=
  laidMet_of_run' 8 (by kernel_rfl) (by kernel_rfl)
theorem reads (os : Os) {H : Type} (enc : TypeId × Value → H) : ∃ places, DataW.whole enc Try.prog ((World.holding Try.prog os ⟨#[], #[], []⟩).forCall (fun _ _ => 0) ⟨#[], #[.slice none 0 0, .string ⟨#[]⟩], []⟩).memory Try.f5.params.toList Rows.imageBackSpec.vars false (#[.slice none 0 0, .string ⟨#[]⟩] : Array Value).toList 8 = some ([.nil, .lit (.string [])], [], places) :=
  ⟨[], by kernel_rfl⟩
set_option maxRecDepth 100000 in
theorem lifted (os : Os) (started : os.Started) (H : Type) (enc : TypeId × Value → H) (F : Stop.Interp) :
    ReturnsInHanded {} Try.checked os 5 .any ((OpenSpec.ofChange Rows.imageBackSpec).preRow enc Try.prog Try.f5 Rows.imageBackRow.domain false Rows.imageBackRow.laid) (((OpenSpec.ofChange Rows.imageBackSpec).at F).post enc Try.prog Try.f5 false true false false) := by
  obtain ⟨places, hx⟩ := reads os enc
  refine returnsInHanded_of_row (C := Try.checked) (s := OpenSpec.ofChange Rows.imageBackSpec) own started (by kernel_rfl) Try.func5
    (witness_row_at (enc := enc) (C := Try.checked) false (World.holding Try.prog os ⟨#[], #[], []⟩) #[.slice none 0 0, .string ⟨#[]⟩] rfl (by kernel_rfl) (by kernel_rfl) (by kernel_rfl)
      (OpenSpec.preRow_of_cond 8 hx (by kernel_rfl) (fun k hk => by cases hk) (by kernel_rfl) (laid_met os))) ?_
  intro W base args ds gs before hval hW _ hcond hwts _ _ _
  exact contract H enc W base args ds gs before hval hW (fun n hn => by obtain ⟨_, _, _, hV, _, _, _⟩ := hW; obtain ⟨rfl, _⟩ := trodVars_none hV; have hw2 : (DataW.weightsEach Try.prog (Try.f5.params.toList ++ []) (ds ++ [])).all (· ≤ reachBytes) = true := hwts; rw [List.append_nil, List.append_nil] at hw2; exact of_decide_eq_true (List.all_eq_true.1 hw2 n hn))
theorem said : Rows.ImageBackSaid :=
  OpenClaim.holds_of_cond 5 Try.f5 rfl rfl rfl rfl rfl rfl rfl ⟨rfl, rfl, rfl, rfl, rfl⟩ rfl rfl rfl rfl rfl (by kernel_rfl) Try.func5 (by kernel_rfl)
    (of_decide_eq_true (by kernel_rfl)) (by unfold Func.isWrapper; first | (rw [if_pos (by decide +kernel)]; kernel_rfl) | (rw [if_neg (by decide +kernel)]; exact ⟨rfl, rfl⟩))
    (fun os started H enc _ F => by rw [OpenClaim.pre_eq_preRow]; exact lifted os started H enc F)
end Go.Proofs.Ytfbkanhgjpdohaa.imageBack
