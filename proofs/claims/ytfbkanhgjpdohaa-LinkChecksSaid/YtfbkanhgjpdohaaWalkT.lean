/- The walks, made by program: how the types read, what a run must know of them. -/
import Derived.Test.YtfbkanhgjpdohaaGvRound
import Derived.Test.YtfbkanhgjpdohaaPureT
import Derived.Test.YtfbkanhgjpdohaaChecked
namespace Cin
open Go
def ty_Kind : Gg.Ty Kind where
  size := 2
  rd _ _ cs d := cs = [.int .i64 d.Kind, Gg.Str d.Class]
  len h := by subst h; rfl
  one h v hv := by subst h; simp only [List.mem_cons, List.not_mem_nil, or_false] at hv; rcases hv with rfl | rfl <;> rfl
  law _ h := h

def ty_Handler : Gg.Ty Handler where
  size := 4
  rd _ _ cs d := cs = [.int .i64 d.From, .int .i64 d.To, .int .i64 d.At, Gg.Str d.Class]
  len h := by subst h; rfl
  one h v hv := by subst h; simp only [List.mem_cons, List.not_mem_nil, or_false] at hv; rcases hv with rfl | rfl | rfl | rfl <;> rfl
  law _ h := h

def ty_Method : Gg.Ty Method where
  size := 9
  rd F w cs d := ∃ A1 c1 A2 c2, cs = [Gg.Str d.Name, .bool d.Static, .slice A1 d.Args.length c1, .int .i64 d.Returns.Kind, Gg.Str d.Returns.Class, .int .i64 d.Stack, .int .i64 d.Locals, Gg.Str d.Code, .slice A2 d.Handlers.length c2] ∧ (Gg.tySlice Cin.ty_Kind).rd F w [.slice A1 d.Args.length c1] d.Args ∧ (Gg.tySlice Cin.ty_Handler).rd F w [.slice A2 d.Handlers.length c2] d.Handlers
  len h := by obtain ⟨A1, c1, A2, c2, h0, _⟩ := h; subst h0; rfl
  one h v hv := by obtain ⟨A1, c1, A2, c2, h0, _⟩ := h; subst h0; simp only [List.mem_cons, List.not_mem_nil, or_false] at hv; rcases hv with rfl | rfl | rfl | rfl | rfl | rfl | rfl | rfl | rfl <;> rfl
  law hF h := by obtain ⟨A1, c1, A2, c2, h0, h1, h2⟩ := h; exact ⟨A1, c1, A2, c2, h0, (Gg.tySlice Cin.ty_Kind).law hF h1, (Gg.tySlice Cin.ty_Handler).law hF h2⟩

def ty_Field : Gg.Ty Field where
  size := 3
  rd _ _ cs d := cs = [Gg.Str d.Name, .int .i64 d.Kind.Kind, Gg.Str d.Kind.Class]
  len h := by subst h; rfl
  one h v hv := by subst h; simp only [List.mem_cons, List.not_mem_nil, or_false] at hv; rcases hv with rfl | rfl | rfl <;> rfl
  law _ h := h

def ty_Class : Gg.Ty Class where
  size := 4
  rd F w cs d := ∃ A1 c1 A2 c2, cs = [Gg.Str d.Name, Gg.Str d.Super, .slice A1 d.Fields.length c1, .slice A2 d.Methods.length c2] ∧ (Gg.tySlice Cin.ty_Field).rd F w [.slice A1 d.Fields.length c1] d.Fields ∧ (Gg.tySlice Cin.ty_Method).rd F w [.slice A2 d.Methods.length c2] d.Methods
  len h := by obtain ⟨A1, c1, A2, c2, h0, _⟩ := h; subst h0; rfl
  one h v hv := by obtain ⟨A1, c1, A2, c2, h0, _⟩ := h; subst h0; simp only [List.mem_cons, List.not_mem_nil, or_false] at hv; rcases hv with rfl | rfl | rfl | rfl <;> rfl
  law hF h := by obtain ⟨A1, c1, A2, c2, h0, h1, h2⟩ := h; exact ⟨A1, c1, A2, c2, h0, (Gg.tySlice Cin.ty_Field).law hF h1, (Gg.tySlice Cin.ty_Method).law hF h2⟩

def ty_Target : Gg.Ty Target where
  size := 2
  rd _ _ cs d := cs = [.int .i64 d.Class, .int .i64 d.Method]
  len h := by subst h; rfl
  one h v hv := by subst h; simp only [List.mem_cons, List.not_mem_nil, or_false] at hv; rcases hv with rfl | rfl <;> rfl
  law _ h := h

def ty_Linked : Gg.Ty Linked where
  size := 5
  rd F w cs d := ∃ A1 c1 A2 c2 A3 c3 A4 c4 A5 c5, cs = [.slice A1 d.Classes.length c1, .slice A2 d.Supers.length c2, .slice A3 d.Fields.length c3, .slice A4 d.Names.length c4, .slice A5 d.Targets.length c5] ∧ (Gg.tySlice Cin.ty_Class).rd F w [.slice A1 d.Classes.length c1] d.Classes ∧ (Gg.tySlice (Gg.tyInt .i64)).rd F w [.slice A2 d.Supers.length c2] d.Supers ∧ (Gg.tySlice (Gg.tySlice Cin.ty_Field)).rd F w [.slice A3 d.Fields.length c3] d.Fields ∧ (Gg.tySlice (Gg.tySlice Gg.tyStr)).rd F w [.slice A4 d.Names.length c4] d.Names ∧ (Gg.tySlice (Gg.tySlice Cin.ty_Target)).rd F w [.slice A5 d.Targets.length c5] d.Targets
  len h := by obtain ⟨A1, c1, A2, c2, A3, c3, A4, c4, A5, c5, h0, _⟩ := h; subst h0; rfl
  one h v hv := by obtain ⟨A1, c1, A2, c2, A3, c3, A4, c4, A5, c5, h0, _⟩ := h; subst h0; simp only [List.mem_cons, List.not_mem_nil, or_false] at hv; rcases hv with rfl | rfl | rfl | rfl | rfl <;> rfl
  law hF h := by obtain ⟨A1, c1, A2, c2, A3, c3, A4, c4, A5, c5, h0, h1, h2, h3, h4, h5⟩ := h; exact ⟨A1, c1, A2, c2, A3, c3, A4, c4, A5, c5, h0, (Gg.tySlice Cin.ty_Class).law hF h1, (Gg.tySlice (Gg.tyInt .i64)).law hF h2, (Gg.tySlice (Gg.tySlice Cin.ty_Field)).law hF h3, (Gg.tySlice (Gg.tySlice Gg.tyStr)).law hF h4, (Gg.tySlice (Gg.tySlice Cin.ty_Target)).law hF h5⟩

end Cin
namespace Go.Value
abbrev po (g : Nat) : Value := .pointer (some ⟨g, 0, none⟩)
abbrev i (n : Int) : Value := .int .i64 n
end Go.Value
namespace Go.Proofs.Ytfbkanhgjpdohaa
open Go Go.RowKit
abbrev sl {α : Type} (T : Gg.Ty α) (A : Option Addr) (c : Nat) (l : List α) : Gg.Dt := Gg.Dt.of (Gg.tySlice T) [.slice A l.length c] l
def gam : Gg.Gam := ⟨[(3, .i .i64), (4, .b), (5, .i .u8), (9, .s), (22, .sl), (23, .i .i64), (36, .sl), (37, .sl), (38, .sl), (39, .sl), (64, .sl), (65, .sl), (66, .sl), (69, .sl), (72, .sl), (79, .sl), (118, .sl), (119, .sl)], [(41, 0, 0), (41, 1, 1), (41, 2, 2), (41, 3, 3), (41, 4, 4), (57, 0, 0), (57, 1, 1), (68, 0, 0), (68, 1, 1), (68, 2, 2), (68, 3, 3), (71, 0, 0), (71, 1, 1), (74, 0, 0), (74, 1, 1), (74, 2, 2), (74, 3, 3), (74, 4, 5), (74, 5, 6), (74, 6, 7), (74, 7, 8), (89, 0, 0), (89, 1, 1), (96, 0, 0), (96, 1, 1), (96, 2, 2), (96, 3, 3), (116, 0, 0), (116, 1, 1), (116, 2, 2)], [(3, none), (4, none), (5, none), (9, none), (22, none), (36, none), (37, none), (38, none), (39, none), (41, some 5), (57, some 2), (64, none), (65, none), (66, none), (68, some 4), (69, none), (71, some 2), (72, none), (74, some 9), (89, some 3), (96, some 4), (112, none), (114, none), (117, none), (119, none)]⟩
theorem gam_ok : Gg.GOK Try.prog gam := ⟨⟨Try.underlying3, Try.underlying4, Try.underlying5, Try.underlying9, ⟨_, Try.underlying22⟩, Try.underlying23, ⟨_, Try.underlying36⟩, ⟨_, Try.underlying37⟩, ⟨_, Try.underlying38⟩, ⟨_, Try.underlying39⟩, ⟨_, Try.underlying64⟩, ⟨_, Try.underlying65⟩, ⟨_, Try.underlying66⟩, ⟨_, Try.underlying69⟩, ⟨_, Try.underlying72⟩, ⟨_, Try.underlying79⟩, ⟨_, Try.underlying118⟩, ⟨_, Try.underlying119⟩, trivial⟩, ⟨Gg.fld_mk Try.underlying41 rfl rfl Try.sizeOf22 rfl, Gg.fld_mk Try.underlying41 rfl rfl Try.sizeOf36 rfl, Gg.fld_mk Try.underlying41 rfl rfl Try.sizeOf37 rfl, Gg.fld_mk Try.underlying41 rfl rfl Try.sizeOf38 rfl, Gg.fld_mk Try.underlying41 rfl rfl Try.sizeOf39 rfl, Gg.fld_mk Try.underlying57 rfl rfl Try.sizeOf3 rfl, Gg.fld_mk Try.underlying57 rfl rfl Try.sizeOf3 rfl, Gg.fld_mk Try.underlying68 rfl rfl Try.sizeOf9 rfl, Gg.fld_mk Try.underlying68 rfl rfl Try.sizeOf9 rfl, Gg.fld_mk Try.underlying68 rfl rfl Try.sizeOf65 rfl, Gg.fld_mk Try.underlying68 rfl rfl Try.sizeOf66 rfl, Gg.fld_mk Try.underlying71 rfl rfl Try.sizeOf3 rfl, Gg.fld_mk Try.underlying71 rfl rfl Try.sizeOf9 rfl, Gg.fld_mk Try.underlying74 rfl rfl Try.sizeOf9 rfl, Gg.fld_mk Try.underlying74 rfl rfl Try.sizeOf4 rfl, Gg.fld_mk Try.underlying74 rfl rfl Try.sizeOf69 rfl, Gg.fld_mk Try.underlying74 rfl rfl Try.sizeOf71 rfl, Gg.fld_mk Try.underlying74 rfl rfl Try.sizeOf3 rfl, Gg.fld_mk Try.underlying74 rfl rfl Try.sizeOf3 rfl, Gg.fld_mk Try.underlying74 rfl rfl Try.sizeOf9 rfl, Gg.fld_mk Try.underlying74 rfl rfl Try.sizeOf72 rfl, Gg.fld_mk Try.underlying89 rfl rfl Try.sizeOf9 rfl, Gg.fld_mk Try.underlying89 rfl rfl Try.sizeOf71 rfl, Gg.fld_mk Try.underlying96 rfl rfl Try.sizeOf3 rfl, Gg.fld_mk Try.underlying96 rfl rfl Try.sizeOf3 rfl, Gg.fld_mk Try.underlying96 rfl rfl Try.sizeOf3 rfl, Gg.fld_mk Try.underlying96 rfl rfl Try.sizeOf9 rfl, Gg.fld_mk Try.underlying116 rfl rfl Try.sizeOf22 rfl, Gg.fld_mk Try.underlying116 rfl rfl Try.sizeOf114 rfl, Gg.fld_mk Try.underlying116 rfl rfl Try.sizeOf36 rfl, trivial⟩, ⟨Try.isAgg3, Try.isAgg4, Try.isAgg5, Try.isAgg9, Try.isAgg22, Try.isAgg36, Try.isAgg37, Try.isAgg38, Try.isAgg39, ⟨Try.isAgg41, Try.sizeOf41⟩, ⟨Try.isAgg57, Try.sizeOf57⟩, Try.isAgg64, Try.isAgg65, Try.isAgg66, ⟨Try.isAgg68, Try.sizeOf68⟩, Try.isAgg69, ⟨Try.isAgg71, Try.sizeOf71⟩, Try.isAgg72, ⟨Try.isAgg74, Try.sizeOf74⟩, ⟨Try.isAgg89, Try.sizeOf89⟩, ⟨Try.isAgg96, Try.sizeOf96⟩, Try.isAgg112, Try.isAgg114, Try.isAgg117, Try.isAgg119, trivial⟩⟩
theorem info3 : (Try.prog.info? 3).map (fun i => (i.zero, i.size, i.bytes)) = some (some (.int .i64 0), 1, 8) := by kernel_rfl
theorem info9 : (Try.prog.info? 9).map (fun i => (i.zero, i.size, i.bytes)) = some (some (Gg.Str []), 1, 16) := by kernel_rfl
theorem info57 : (Try.prog.info? 57).map (fun i => (i.zero, i.size, i.bytes)) = some (some (.agg #[.int .i64 0, .int .i64 0]), 2, 16) := by kernel_rfl
theorem info64 : (Try.prog.info? 64).map (fun i => (i.zero, i.size, i.bytes)) = some (some (.slice none 0 0), 1, 24) := by kernel_rfl
theorem info65 : (Try.prog.info? 65).map (fun i => (i.zero, i.size, i.bytes)) = some (some (.slice none 0 0), 1, 24) := by kernel_rfl
theorem info68 : (Try.prog.info? 68).map (fun i => (i.zero, i.size, i.bytes)) = some (some (.agg #[Gg.Str [], Gg.Str [], .slice none 0 0, .slice none 0 0]), 4, 80) := by kernel_rfl
theorem info71 : (Try.prog.info? 71).map (fun i => (i.zero, i.size, i.bytes)) = some (some (.agg #[.int .i64 0, Gg.Str []]), 2, 24) := by kernel_rfl
theorem info74 : (Try.prog.info? 74).map (fun i => (i.zero, i.size, i.bytes)) = some (some (.agg #[Gg.Str [], .bool false, .slice none 0 0, .int .i64 0, Gg.Str [], .int .i64 0, .int .i64 0, Gg.Str [], .slice none 0 0]), 9, 128) := by kernel_rfl
theorem info89 : (Try.prog.info? 89).map (fun i => (i.zero, i.size, i.bytes)) = some (some (.agg #[Gg.Str [], .int .i64 0, Gg.Str []]), 3, 40) := by kernel_rfl
theorem info96 : (Try.prog.info? 96).map (fun i => (i.zero, i.size, i.bytes)) = some (some (.agg #[.int .i64 0, .int .i64 0, .int .i64 0, Gg.Str []]), 4, 40) := by kernel_rfl
theorem info119 : (Try.prog.info? 119).map (fun i => (i.zero, i.size, i.bytes)) = some (some (.slice none 0 0), 1, 24) := by kernel_rfl
theorem places41 : ∀ w, (Gg.placesOf Try.prog 41).run Try.prog w = .ok #[(0, 1), (1, 1), (2, 1), (3, 1), (4, 1)] w := fun w => by kernel_rfl
theorem places57 : ∀ w, (Gg.placesOf Try.prog 57).run Try.prog w = .ok #[(0, 1), (1, 1)] w := fun w => by kernel_rfl
theorem places68 : ∀ w, (Gg.placesOf Try.prog 68).run Try.prog w = .ok #[(0, 1), (1, 1), (2, 1), (3, 1)] w := fun w => by kernel_rfl
theorem places71 : ∀ w, (Gg.placesOf Try.prog 71).run Try.prog w = .ok #[(0, 1), (1, 1)] w := fun w => by kernel_rfl
theorem places74 : ∀ w, (Gg.placesOf Try.prog 74).run Try.prog w = .ok #[(0, 1), (1, 1), (2, 1), (3, 2), (5, 1), (6, 1), (7, 1), (8, 1)] w := fun w => by kernel_rfl
theorem places89 : ∀ w, (Gg.placesOf Try.prog 89).run Try.prog w = .ok #[(0, 1), (1, 2)] w := fun w => by kernel_rfl
theorem places116 : ∀ w, (Gg.placesOf Try.prog 116).run Try.prog w = .ok #[(0, 1), (1, 1), (2, 1)] w := fun w => by kernel_rfl
theorem eq_eql_Target {o : Oper} {a : Act} {w : World} {t' : TypeId} {x y : Operand} {X Y : Cin.Target} (ho : o.op = .binOp .eql 57 x y t') (hx : a.eval x = .agg #[.int .i64 X.Class, .int .i64 X.Method]) (hy : a.eval y = .agg #[.int .i64 Y.Class, .int .i64 Y.Method]) : Gg.Yv Try.prog o a w (.bool (decide (X = Y))) w := by
  have hd : decide (X = Y) = decide (X.Class = Y.Class ∧ X.Method = Y.Method ∧ True) := by rcases X with ⟨_, _⟩; rcases Y with ⟨_, _⟩; simp
  rw [hd]
  exact Gg.y_eqF Try.underlying57 (by kernel_rfl) (by kernel_rfl) (Gg.eqF_int rfl Try.underlying3 Try.isAgg3 rfl rfl (Gg.eqF_int rfl Try.underlying3 Try.isAgg3 rfl rfl (by simp [Gg.eqF_nil]))) ho hx hy
theorem eq_neq_Target {o : Oper} {a : Act} {w : World} {t' : TypeId} {x y : Operand} {X Y : Cin.Target} (ho : o.op = .binOp .neq 57 x y t') (hx : a.eval x = .agg #[.int .i64 X.Class, .int .i64 X.Method]) (hy : a.eval y = .agg #[.int .i64 Y.Class, .int .i64 Y.Method]) : Gg.Yv Try.prog o a w (.bool (!decide (X = Y))) w := by
  have hd : decide (X = Y) = decide (X.Class = Y.Class ∧ X.Method = Y.Method ∧ True) := by rcases X with ⟨_, _⟩; rcases Y with ⟨_, _⟩; simp
  rw [hd]
  exact Gg.y_neF Try.underlying57 (by kernel_rfl) (by kernel_rfl) (Gg.eqF_int rfl Try.underlying3 Try.isAgg3 rfl rfl (Gg.eqF_int rfl Try.underlying3 Try.isAgg3 rfl rfl (by simp [Gg.eqF_nil]))) ho hx hy
theorem eq_eql_Kind {o : Oper} {a : Act} {w : World} {t' : TypeId} {x y : Operand} {X Y : Cin.Kind} (ho : o.op = .binOp .eql 71 x y t') (hx : a.eval x = .agg #[.int .i64 X.Kind, Gg.Str X.Class]) (hy : a.eval y = .agg #[.int .i64 Y.Kind, Gg.Str Y.Class]) : Gg.Yv Try.prog o a w (.bool (decide (X = Y))) w := by
  have hd : decide (X = Y) = decide (X.Kind = Y.Kind ∧ X.Class = Y.Class ∧ True) := by rcases X with ⟨_, _⟩; rcases Y with ⟨_, _⟩; simp
  rw [hd]
  exact Gg.y_eqF Try.underlying71 (by kernel_rfl) (by kernel_rfl) (Gg.eqF_int rfl Try.underlying3 Try.isAgg3 rfl rfl (Gg.eqF_str rfl Try.underlying9 Try.isAgg9 rfl rfl (by simp [Gg.eqF_nil]))) ho hx hy
theorem eq_neq_Kind {o : Oper} {a : Act} {w : World} {t' : TypeId} {x y : Operand} {X Y : Cin.Kind} (ho : o.op = .binOp .neq 71 x y t') (hx : a.eval x = .agg #[.int .i64 X.Kind, Gg.Str X.Class]) (hy : a.eval y = .agg #[.int .i64 Y.Kind, Gg.Str Y.Class]) : Gg.Yv Try.prog o a w (.bool (!decide (X = Y))) w := by
  have hd : decide (X = Y) = decide (X.Kind = Y.Kind ∧ X.Class = Y.Class ∧ True) := by rcases X with ⟨_, _⟩; rcases Y with ⟨_, _⟩; simp
  rw [hd]
  exact Gg.y_neF Try.underlying71 (by kernel_rfl) (by kernel_rfl) (Gg.eqF_int rfl Try.underlying3 Try.isAgg3 rfl rfl (Gg.eqF_str rfl Try.underlying9 Try.isAgg9 rfl rfl (by simp [Gg.eqF_nil]))) ho hx hy
theorem eq_eql_Field {o : Oper} {a : Act} {w : World} {t' : TypeId} {x y : Operand} {X Y : Cin.Field} (ho : o.op = .binOp .eql 89 x y t') (hx : a.eval x = .agg #[Gg.Str X.Name, .int .i64 X.Kind.Kind, Gg.Str X.Kind.Class]) (hy : a.eval y = .agg #[Gg.Str Y.Name, .int .i64 Y.Kind.Kind, Gg.Str Y.Kind.Class]) : Gg.Yv Try.prog o a w (.bool (decide (X = Y))) w := by
  have hd : decide (X = Y) = decide (X.Name = Y.Name ∧ (X.Kind.Kind = Y.Kind.Kind ∧ X.Kind.Class = Y.Kind.Class ∧ True) ∧ True) := by rcases X with ⟨_, ⟨_, _⟩⟩; rcases Y with ⟨_, ⟨_, _⟩⟩; simp
  rw [hd]
  exact Gg.y_eqF Try.underlying89 (by kernel_rfl) (by kernel_rfl) (Gg.eqF_str rfl Try.underlying9 Try.isAgg9 rfl rfl (Gg.eqF_sub (us := [.int .i64 X.Kind.Kind, Gg.Str X.Kind.Class]) (vs := [.int .i64 Y.Kind.Kind, Gg.Str Y.Kind.Class]) (q := X.Kind.Kind = Y.Kind.Kind ∧ X.Kind.Class = Y.Kind.Class ∧ True) rfl Try.isAgg71 Try.sizeOf71 rfl rfl (Gg.eq_sub Try.underlying71 (by kernel_rfl) (Gg.eqF_int rfl Try.underlying3 Try.isAgg3 rfl rfl (Gg.eqF_str rfl Try.underlying9 Try.isAgg9 rfl rfl (by simp [Gg.eqF_nil])))) (by simp [Gg.eqF_nil]))) ho hx hy
theorem eq_neq_Field {o : Oper} {a : Act} {w : World} {t' : TypeId} {x y : Operand} {X Y : Cin.Field} (ho : o.op = .binOp .neq 89 x y t') (hx : a.eval x = .agg #[Gg.Str X.Name, .int .i64 X.Kind.Kind, Gg.Str X.Kind.Class]) (hy : a.eval y = .agg #[Gg.Str Y.Name, .int .i64 Y.Kind.Kind, Gg.Str Y.Kind.Class]) : Gg.Yv Try.prog o a w (.bool (!decide (X = Y))) w := by
  have hd : decide (X = Y) = decide (X.Name = Y.Name ∧ (X.Kind.Kind = Y.Kind.Kind ∧ X.Kind.Class = Y.Kind.Class ∧ True) ∧ True) := by rcases X with ⟨_, ⟨_, _⟩⟩; rcases Y with ⟨_, ⟨_, _⟩⟩; simp
  rw [hd]
  exact Gg.y_neF Try.underlying89 (by kernel_rfl) (by kernel_rfl) (Gg.eqF_str rfl Try.underlying9 Try.isAgg9 rfl rfl (Gg.eqF_sub (us := [.int .i64 X.Kind.Kind, Gg.Str X.Kind.Class]) (vs := [.int .i64 Y.Kind.Kind, Gg.Str Y.Kind.Class]) (q := X.Kind.Kind = Y.Kind.Kind ∧ X.Kind.Class = Y.Kind.Class ∧ True) rfl Try.isAgg71 Try.sizeOf71 rfl rfl (Gg.eq_sub Try.underlying71 (by kernel_rfl) (Gg.eqF_int rfl Try.underlying3 Try.isAgg3 rfl rfl (Gg.eqF_str rfl Try.underlying9 Try.isAgg9 rfl rfl (by simp [Gg.eqF_nil])))) (by simp [Gg.eqF_nil]))) ho hx hy
theorem eq_eql_Handler {o : Oper} {a : Act} {w : World} {t' : TypeId} {x y : Operand} {X Y : Cin.Handler} (ho : o.op = .binOp .eql 96 x y t') (hx : a.eval x = .agg #[.int .i64 X.From, .int .i64 X.To, .int .i64 X.At, Gg.Str X.Class]) (hy : a.eval y = .agg #[.int .i64 Y.From, .int .i64 Y.To, .int .i64 Y.At, Gg.Str Y.Class]) : Gg.Yv Try.prog o a w (.bool (decide (X = Y))) w := by
  have hd : decide (X = Y) = decide (X.From = Y.From ∧ X.To = Y.To ∧ X.At = Y.At ∧ X.Class = Y.Class ∧ True) := by rcases X with ⟨_, _, _, _⟩; rcases Y with ⟨_, _, _, _⟩; simp
  rw [hd]
  exact Gg.y_eqF Try.underlying96 (by kernel_rfl) (by kernel_rfl) (Gg.eqF_int rfl Try.underlying3 Try.isAgg3 rfl rfl (Gg.eqF_int rfl Try.underlying3 Try.isAgg3 rfl rfl (Gg.eqF_int rfl Try.underlying3 Try.isAgg3 rfl rfl (Gg.eqF_str rfl Try.underlying9 Try.isAgg9 rfl rfl (by simp [Gg.eqF_nil]))))) ho hx hy
theorem eq_neq_Handler {o : Oper} {a : Act} {w : World} {t' : TypeId} {x y : Operand} {X Y : Cin.Handler} (ho : o.op = .binOp .neq 96 x y t') (hx : a.eval x = .agg #[.int .i64 X.From, .int .i64 X.To, .int .i64 X.At, Gg.Str X.Class]) (hy : a.eval y = .agg #[.int .i64 Y.From, .int .i64 Y.To, .int .i64 Y.At, Gg.Str Y.Class]) : Gg.Yv Try.prog o a w (.bool (!decide (X = Y))) w := by
  have hd : decide (X = Y) = decide (X.From = Y.From ∧ X.To = Y.To ∧ X.At = Y.At ∧ X.Class = Y.Class ∧ True) := by rcases X with ⟨_, _, _, _⟩; rcases Y with ⟨_, _, _, _⟩; simp
  rw [hd]
  exact Gg.y_neF Try.underlying96 (by kernel_rfl) (by kernel_rfl) (Gg.eqF_int rfl Try.underlying3 Try.isAgg3 rfl rfl (Gg.eqF_int rfl Try.underlying3 Try.isAgg3 rfl rfl (Gg.eqF_int rfl Try.underlying3 Try.isAgg3 rfl rfl (Gg.eqF_str rfl Try.underlying9 Try.isAgg9 rfl rfl (by simp [Gg.eqF_nil]))))) ho hx hy
section
open Gg
variable {n : FrN} {fr : List (Nat × Value)} {w : World} {a : Act}
theorem sp0 (k : Nat) (hs : List Nat) {ops : Array Oper} {Q : Exit → Act → World → Prop} {rest : List Oper} (fr' : List (Nat × Value)) (hf : Fr n fr a)
    (next : ∀ a', Fr n fr' a' → wpList Try.prog ops Q (rest.drop k) a' w) (he : evc gam ops n [] (rest.take k) hs fr (fr'.map (·.1)) = some (fr', dup []) := by kernel_rfl) : wpList Try.prog ops Q rest a w := sp k _ hs gam_ok mn hf he next
theorem sp1 (k : Nat) (hs : List Nat) {ops : Array Oper} {Q : Exit → Act → World → Prop} {rest : List Oper} {M : List (Nat × Nat × List Value)} (fr' : List (Nat × Value)) (L : List Nat) (hM : memOK w M) (hf : Fr n fr a)
    (next : ∀ a', Fr n fr' a' → wpList Try.prog ops Q (rest.drop k) a' w) (he : evc gam ops n M (rest.take k) hs fr (fr'.map (·.1)) = some (fr', dup L) := by kernel_rfl) : wpList Try.prog ops Q rest a w := sp k _ hs gam_ok hM hf he next
theorem qp1 (k : Nat) (hs : List Nat) {ops : Array Oper} {C : World → Prop} {Qq : Act → Prop} {rest : List Oper} {M : List (Nat × Nat × List Value)} (fr' : List (Nat × Value)) (L : List Nat) (hM : ∀ w, C w → memOK w M) (hf : Fr n fr a)
    (next : ∀ a', Fr n fr' a' → wpQuiet Try.prog ops C Qq (rest.drop k) a') (he : evc gam ops n M (rest.take k) hs fr (fr'.map (·.1)) = some (fr', dup L) := by kernel_rfl) : wpQuiet Try.prog ops C Qq rest a := qp k _ hs gam_ok hM hf he next
theorem rg (hs : List Nat) {id : Nat} {lo : List Oper} {Q : Exit → Act → World → Prop} {M : List (Nat × Nat × List Value)} (fr' : List (Nat × Value)) (L : List Nat) (hM : memOK w M) (hf : Fr n fr a)
    (next : ∀ a', Fr n fr' a' → Q .normal a' w) (he : evc gam lo.toArray n M lo hs fr (fr'.map (·.1)) = some (fr', dup L) := by kernel_rfl) : (Code.region id lo.toArray false).wp Try.prog Q a w := by
  refine c_region (sp lo.length _ hs gam_ok hM hf (by rw [List.take_length]; exact he) fun a' hf' => ?_)
  rw [List.drop_length]
  exact next a' hf'
theorem rg0 (hs : List Nat) {id : Nat} {lo : List Oper} {Q : Exit → Act → World → Prop} (fr' : List (Nat × Value)) (hf : Fr n fr a)
    (next : ∀ a', Fr n fr' a' → Q .normal a' w) (he : evc gam lo.toArray n [] lo hs fr (fr'.map (·.1)) = some (fr', dup []) := by kernel_rfl) : (Code.region id lo.toArray false).wp Try.prog Q a w := rg hs fr' [] mn hf next he
theorem sr0 (hs : List Nat) {id : Nat} {lo : List Oper} {c : Code} {Q : Exit → Act → World → Prop} (fr' : List (Nat × Value)) (hf : Fr n fr a)
    (next : ∀ a', Fr n fr' a' → c.wp Try.prog Q a' w) (he : evc gam lo.toArray n [] lo hs fr (fr'.map (·.1)) = some (fr', dup []) := by kernel_rfl) : (Code.seq (.region id lo.toArray false) c).wp Try.prog Q a w := wp_seq_k fun _ hK => rg hs fr' [] mn hf (fun a' hf' => hK _ _ (next a' hf')) he
end
end Go.Proofs.Ytfbkanhgjpdohaa
