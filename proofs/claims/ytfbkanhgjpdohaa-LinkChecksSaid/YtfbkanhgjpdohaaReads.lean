/- Made by program (liftgen2.py): how the arguments of the laws read. -/
import Derived.Test.YtfbkanhgjpdohaaGvArg
import Derived.Test.YtfbkanhgjpdohaaWalkT
import Derived.KernelRfl
namespace Go.Proofs.Ytfbkanhgjpdohaa
open Go Go.RowKit
theorem cs3 : Try.prog.cellsOf 3 = 1 := by kernel_rfl
theorem cs4 : Try.prog.cellsOf 4 = 1 := by kernel_rfl
theorem cs9 : Try.prog.cellsOf 9 = 1 := by kernel_rfl
theorem cs22 : Try.prog.cellsOf 22 = 1 := by kernel_rfl
theorem cs36 : Try.prog.cellsOf 36 = 1 := by kernel_rfl
theorem cs37 : Try.prog.cellsOf 37 = 1 := by kernel_rfl
theorem cs38 : Try.prog.cellsOf 38 = 1 := by kernel_rfl
theorem cs39 : Try.prog.cellsOf 39 = 1 := by kernel_rfl
theorem cs41 : Try.prog.cellsOf 41 = 5 := by kernel_rfl
theorem cs57 : Try.prog.cellsOf 57 = 2 := by kernel_rfl
theorem cs64 : Try.prog.cellsOf 64 = 1 := by kernel_rfl
theorem cs65 : Try.prog.cellsOf 65 = 1 := by kernel_rfl
theorem cs66 : Try.prog.cellsOf 66 = 1 := by kernel_rfl
theorem cs68 : Try.prog.cellsOf 68 = 4 := by kernel_rfl
theorem cs69 : Try.prog.cellsOf 69 = 1 := by kernel_rfl
theorem cs71 : Try.prog.cellsOf 71 = 2 := by kernel_rfl
theorem cs72 : Try.prog.cellsOf 72 = 1 := by kernel_rfl
theorem cs74 : Try.prog.cellsOf 74 = 9 := by kernel_rfl
theorem cs89 : Try.prog.cellsOf 89 = 3 := by kernel_rfl
theorem cs96 : Try.prog.cellsOf 96 = 4 := by kernel_rfl
theorem cs119 : Try.prog.cellsOf 119 = 1 := by kernel_rfl
theorem by3 : Try.prog.bytesOf 3 = 8 := by kernel_rfl
theorem by9 : Try.prog.bytesOf 9 = 16 := by kernel_rfl
theorem by57 : Try.prog.bytesOf 57 = 16 := by kernel_rfl
theorem by64 : Try.prog.bytesOf 64 = 24 := by kernel_rfl
theorem by65 : Try.prog.bytesOf 65 = 24 := by kernel_rfl
theorem by68 : Try.prog.bytesOf 68 = 80 := by kernel_rfl
theorem by71 : Try.prog.bytesOf 71 = 24 := by kernel_rfl
theorem by74 : Try.prog.bytesOf 74 = 128 := by kernel_rfl
theorem by89 : Try.prog.bytesOf 89 = 40 := by kernel_rfl
theorem by96 : Try.prog.bytesOf 96 = 40 := by kernel_rfl
theorem by119 : Try.prog.bytesOf 119 = 24 := by kernel_rfl
theorem len_2 {l : List Value} (h : l.length = 2) : ∃ a0 a1, l = [a0, a1] := match l, h with | [a0, a1], _ => ⟨a0, a1, rfl⟩
theorem len_3 {l : List Value} (h : l.length = 3) : ∃ a0 a1 a2, l = [a0, a1, a2] := match l, h with | [a0, a1, a2], _ => ⟨a0, a1, a2, rfl⟩
theorem len_4 {l : List Value} (h : l.length = 4) : ∃ a0 a1 a2 a3, l = [a0, a1, a2, a3] := match l, h with | [a0, a1, a2, a3], _ => ⟨a0, a1, a2, a3, rfl⟩
theorem len_5 {l : List Value} (h : l.length = 5) : ∃ a0 a1 a2 a3 a4, l = [a0, a1, a2, a3, a4] := match l, h with | [a0, a1, a2, a3, a4], _ => ⟨a0, a1, a2, a3, a4, rfl⟩
theorem len_9 {l : List Value} (h : l.length = 9) : ∃ a0 a1 a2 a3 a4 a5 a6 a7 a8, l = [a0, a1, a2, a3, a4, a5, a6, a7, a8] := match l, h with | [a0, a1, a2, a3, a4, a5, a6, a7, a8], _ => ⟨a0, a1, a2, a3, a4, a5, a6, a7, a8, rfl⟩
section
variable {H : Type} {enc : TypeId × Value → H} {N : Nat}
def Ok_Kind (N : Nat) (d : Cin.Kind) : Prop := Gg.I64 d.Kind ∧ d.Class.length ≤ N
theorem rds_Kind : Gg.Rds Try.prog enc N 71 Cin.ty_Kind (Ok_Kind N) := by
  intro W n cs x h hp hw
  obtain ⟨n', hl, hf⟩ := Gg.fld Try.underlying71 h hp hw
  replace hl := hl.trans cs71
  obtain ⟨a0, a1, rfl⟩ := len_2 hl
  obtain ⟨y0, h0, p0, w0⟩ := Gg.fld1 hf 0 rfl rfl rfl cs3 (r := [a0]) rfl
  obtain ⟨d0, r0, k0⟩ := (Gg.rds_i64 Try.underlying3) W _ _ _ h0 p0 w0
  have e0 : [a0] = _ := r0
  obtain rfl : a0 = _ := (List.cons.inj e0).1
  obtain ⟨y1, h1, p1, w1⟩ := Gg.fld1 hf 1 rfl rfl rfl cs9 (r := [a1]) rfl
  obtain ⟨d1, r1, k1⟩ := (Gg.rds_str Try.underlying9) W _ _ _ h1 p1 w1
  have e1 : [a1] = _ := r1
  obtain rfl : a1 = _ := (List.cons.inj e1).1
  exact ⟨⟨d0, d1⟩, rfl, ⟨k0, k1⟩⟩
def Ok_Field (N : Nat) (d : Cin.Field) : Prop := d.Name.length ≤ N ∧ Ok_Kind N d.Kind
theorem rds_Field : Gg.Rds Try.prog enc N 89 Cin.ty_Field (Ok_Field N) := by
  intro W n cs x h hp hw
  obtain ⟨n', hl, hf⟩ := Gg.fld Try.underlying89 h hp hw
  replace hl := hl.trans cs89
  obtain ⟨a0, a1, a2, rfl⟩ := len_3 hl
  obtain ⟨y0, h0, p0, w0⟩ := Gg.fld1 hf 0 rfl rfl rfl cs9 (r := [a0]) rfl
  obtain ⟨d0, r0, k0⟩ := (Gg.rds_str Try.underlying9) W _ _ _ h0 p0 w0
  have e0 : [a0] = _ := r0
  obtain rfl : a0 = _ := (List.cons.inj e0).1
  obtain ⟨y1, h1, p1, w1⟩ := Gg.fld1 hf 1 rfl rfl rfl cs71 (r := [a1, a2]) rfl
  obtain ⟨d1, r1, k1⟩ := rds_Kind W _ _ _ h1 p1 w1
  have e1 : [a1, a2] = _ := r1
  simp only [List.cons.injEq, and_true] at e1
  obtain ⟨rfl, rfl⟩ := e1
  exact ⟨⟨d0, d1⟩, rfl, ⟨k0, k1⟩⟩
theorem rds_sl65 : Gg.Rds Try.prog enc N 65 (Gg.tySlice Cin.ty_Field) (fun l => l.length * 40 ≤ N ∧ ∀ x0 ∈ l, Ok_Field N x0) := by
  have h := Gg.rds_slice (enc := enc) (N := N) Try.underlying65 cs89 (by decide) rds_Field
  rw [by89] at h
  exact h
theorem rds_sl69 : Gg.Rds Try.prog enc N 69 (Gg.tySlice Cin.ty_Kind) (fun l => l.length * 24 ≤ N ∧ ∀ x0 ∈ l, Ok_Kind N x0) := by
  have h := Gg.rds_slice (enc := enc) (N := N) Try.underlying69 cs71 (by decide) rds_Kind
  rw [by71] at h
  exact h
def Ok_Handler (N : Nat) (d : Cin.Handler) : Prop := Gg.I64 d.From ∧ Gg.I64 d.To ∧ Gg.I64 d.At ∧ d.Class.length ≤ N
theorem rds_Handler : Gg.Rds Try.prog enc N 96 Cin.ty_Handler (Ok_Handler N) := by
  intro W n cs x h hp hw
  obtain ⟨n', hl, hf⟩ := Gg.fld Try.underlying96 h hp hw
  replace hl := hl.trans cs96
  obtain ⟨a0, a1, a2, a3, rfl⟩ := len_4 hl
  obtain ⟨y0, h0, p0, w0⟩ := Gg.fld1 hf 0 rfl rfl rfl cs3 (r := [a0]) rfl
  obtain ⟨d0, r0, k0⟩ := (Gg.rds_i64 Try.underlying3) W _ _ _ h0 p0 w0
  have e0 : [a0] = _ := r0
  obtain rfl : a0 = _ := (List.cons.inj e0).1
  obtain ⟨y1, h1, p1, w1⟩ := Gg.fld1 hf 1 rfl rfl rfl cs3 (r := [a1]) rfl
  obtain ⟨d1, r1, k1⟩ := (Gg.rds_i64 Try.underlying3) W _ _ _ h1 p1 w1
  have e1 : [a1] = _ := r1
  obtain rfl : a1 = _ := (List.cons.inj e1).1
  obtain ⟨y2, h2, p2, w2⟩ := Gg.fld1 hf 2 rfl rfl rfl cs3 (r := [a2]) rfl
  obtain ⟨d2, r2, k2⟩ := (Gg.rds_i64 Try.underlying3) W _ _ _ h2 p2 w2
  have e2 : [a2] = _ := r2
  obtain rfl : a2 = _ := (List.cons.inj e2).1
  obtain ⟨y3, h3, p3, w3⟩ := Gg.fld1 hf 3 rfl rfl rfl cs9 (r := [a3]) rfl
  obtain ⟨d3, r3, k3⟩ := (Gg.rds_str Try.underlying9) W _ _ _ h3 p3 w3
  have e3 : [a3] = _ := r3
  obtain rfl : a3 = _ := (List.cons.inj e3).1
  exact ⟨⟨d0, d1, d2, d3⟩, rfl, ⟨k0, k1, k2, k3⟩⟩
theorem rds_sl72 : Gg.Rds Try.prog enc N 72 (Gg.tySlice Cin.ty_Handler) (fun l => l.length * 40 ≤ N ∧ ∀ x0 ∈ l, Ok_Handler N x0) := by
  have h := Gg.rds_slice (enc := enc) (N := N) Try.underlying72 cs96 (by decide) rds_Handler
  rw [by96] at h
  exact h
def Ok_Method (N : Nat) (d : Cin.Method) : Prop := d.Name.length ≤ N ∧ True ∧ (d.Args.length * 24 ≤ N ∧ ∀ x0 ∈ d.Args, Ok_Kind N x0) ∧ Ok_Kind N d.Returns ∧ Gg.I64 d.Stack ∧ Gg.I64 d.Locals ∧ d.Code.length ≤ N ∧ (d.Handlers.length * 40 ≤ N ∧ ∀ x0 ∈ d.Handlers, Ok_Handler N x0)
theorem rds_Method : Gg.Rds Try.prog enc N 74 Cin.ty_Method (Ok_Method N) := by
  intro W n cs x h hp hw
  obtain ⟨n', hl, hf⟩ := Gg.fld Try.underlying74 h hp hw
  replace hl := hl.trans cs74
  obtain ⟨a0, a1, a2, a3, a4, a5, a6, a7, a8, rfl⟩ := len_9 hl
  obtain ⟨y0, h0, p0, w0⟩ := Gg.fld1 hf 0 rfl rfl rfl cs9 (r := [a0]) rfl
  obtain ⟨d0, r0, k0⟩ := (Gg.rds_str Try.underlying9) W _ _ _ h0 p0 w0
  have e0 : [a0] = _ := r0
  obtain rfl : a0 = _ := (List.cons.inj e0).1
  obtain ⟨y1, h1, p1, w1⟩ := Gg.fld1 hf 1 rfl rfl rfl cs4 (r := [a1]) rfl
  obtain ⟨d1, r1, k1⟩ := (Gg.rds_bool Try.underlying4) W _ _ _ h1 p1 w1
  have e1 : [a1] = _ := r1
  obtain rfl : a1 = _ := (List.cons.inj e1).1
  obtain ⟨y2, h2, p2, w2⟩ := Gg.fld1 hf 2 rfl rfl rfl cs69 (r := [a2]) rfl
  obtain ⟨d2, r2, k2⟩ := (rds_sl69) W _ _ _ h2 p2 w2
  obtain ⟨A2, c2, e2⟩ := Gg.slice_cs r2
  obtain rfl : a2 = _ := (List.cons.inj e2).1
  obtain ⟨y3, h3, p3, w3⟩ := Gg.fld1 hf 3 rfl rfl rfl cs71 (r := [a3, a4]) rfl
  obtain ⟨d3, r3, k3⟩ := rds_Kind W _ _ _ h3 p3 w3
  have e3 : [a3, a4] = _ := r3
  simp only [List.cons.injEq, and_true] at e3
  obtain ⟨rfl, rfl⟩ := e3
  obtain ⟨y4, h4, p4, w4⟩ := Gg.fld1 hf 4 rfl rfl rfl cs3 (r := [a5]) rfl
  obtain ⟨d4, r4, k4⟩ := (Gg.rds_i64 Try.underlying3) W _ _ _ h4 p4 w4
  have e4 : [a5] = _ := r4
  obtain rfl : a5 = _ := (List.cons.inj e4).1
  obtain ⟨y5, h5, p5, w5⟩ := Gg.fld1 hf 5 rfl rfl rfl cs3 (r := [a6]) rfl
  obtain ⟨d5, r5, k5⟩ := (Gg.rds_i64 Try.underlying3) W _ _ _ h5 p5 w5
  have e5 : [a6] = _ := r5
  obtain rfl : a6 = _ := (List.cons.inj e5).1
  obtain ⟨y6, h6, p6, w6⟩ := Gg.fld1 hf 6 rfl rfl rfl cs9 (r := [a7]) rfl
  obtain ⟨d6, r6, k6⟩ := (Gg.rds_str Try.underlying9) W _ _ _ h6 p6 w6
  have e6 : [a7] = _ := r6
  obtain rfl : a7 = _ := (List.cons.inj e6).1
  obtain ⟨y7, h7, p7, w7⟩ := Gg.fld1 hf 7 rfl rfl rfl cs72 (r := [a8]) rfl
  obtain ⟨d7, r7, k7⟩ := (rds_sl72) W _ _ _ h7 p7 w7
  obtain ⟨A7, c7, e7⟩ := Gg.slice_cs r7
  obtain rfl : a8 = _ := (List.cons.inj e7).1
  exact ⟨⟨d0, d1, d2, d3, d4, d5, d6, d7⟩, ⟨A2, c2, A7, c7, rfl, r2, r7⟩, ⟨k0, k1, k2, k3, k4, k5, k6, k7⟩⟩
theorem rds_sl66 : Gg.Rds Try.prog enc N 66 (Gg.tySlice Cin.ty_Method) (fun l => l.length * 128 ≤ N ∧ ∀ x0 ∈ l, Ok_Method N x0) := by
  have h := Gg.rds_slice (enc := enc) (N := N) Try.underlying66 cs74 (by decide) rds_Method
  rw [by74] at h
  exact h
def Ok_Class (N : Nat) (d : Cin.Class) : Prop := d.Name.length ≤ N ∧ d.Super.length ≤ N ∧ (d.Fields.length * 40 ≤ N ∧ ∀ x0 ∈ d.Fields, Ok_Field N x0) ∧ (d.Methods.length * 128 ≤ N ∧ ∀ x0 ∈ d.Methods, Ok_Method N x0)
theorem rds_Class : Gg.Rds Try.prog enc N 68 Cin.ty_Class (Ok_Class N) := by
  intro W n cs x h hp hw
  obtain ⟨n', hl, hf⟩ := Gg.fld Try.underlying68 h hp hw
  replace hl := hl.trans cs68
  obtain ⟨a0, a1, a2, a3, rfl⟩ := len_4 hl
  obtain ⟨y0, h0, p0, w0⟩ := Gg.fld1 hf 0 rfl rfl rfl cs9 (r := [a0]) rfl
  obtain ⟨d0, r0, k0⟩ := (Gg.rds_str Try.underlying9) W _ _ _ h0 p0 w0
  have e0 : [a0] = _ := r0
  obtain rfl : a0 = _ := (List.cons.inj e0).1
  obtain ⟨y1, h1, p1, w1⟩ := Gg.fld1 hf 1 rfl rfl rfl cs9 (r := [a1]) rfl
  obtain ⟨d1, r1, k1⟩ := (Gg.rds_str Try.underlying9) W _ _ _ h1 p1 w1
  have e1 : [a1] = _ := r1
  obtain rfl : a1 = _ := (List.cons.inj e1).1
  obtain ⟨y2, h2, p2, w2⟩ := Gg.fld1 hf 2 rfl rfl rfl cs65 (r := [a2]) rfl
  obtain ⟨d2, r2, k2⟩ := (rds_sl65) W _ _ _ h2 p2 w2
  obtain ⟨A2, c2, e2⟩ := Gg.slice_cs r2
  obtain rfl : a2 = _ := (List.cons.inj e2).1
  obtain ⟨y3, h3, p3, w3⟩ := Gg.fld1 hf 3 rfl rfl rfl cs66 (r := [a3]) rfl
  obtain ⟨d3, r3, k3⟩ := (rds_sl66) W _ _ _ h3 p3 w3
  obtain ⟨A3, c3, e3⟩ := Gg.slice_cs r3
  obtain rfl : a3 = _ := (List.cons.inj e3).1
  exact ⟨⟨d0, d1, d2, d3⟩, ⟨A2, c2, A3, c3, rfl, r2, r3⟩, ⟨k0, k1, k2, k3⟩⟩
theorem rds_sl22 : Gg.Rds Try.prog enc N 22 (Gg.tySlice Cin.ty_Class) (fun l => l.length * 80 ≤ N ∧ ∀ x0 ∈ l, Ok_Class N x0) := by
  have h := Gg.rds_slice (enc := enc) (N := N) Try.underlying22 cs68 (by decide) rds_Class
  rw [by68] at h
  exact h
theorem rds_sl36 : Gg.Rds Try.prog enc N 36 (Gg.tySlice (Gg.tyInt .i64)) (fun l => l.length * 8 ≤ N ∧ ∀ x0 ∈ l, Gg.I64 x0) := by
  have h := Gg.rds_slice (enc := enc) (N := N) Try.underlying36 cs3 (by decide) (Gg.rds_i64 Try.underlying3)
  rw [by3] at h
  exact h
theorem rds_sl37 : Gg.Rds Try.prog enc N 37 (Gg.tySlice (Gg.tySlice Cin.ty_Field)) (fun l => l.length * 24 ≤ N ∧ ∀ x0 ∈ l, (x0.length * 40 ≤ N ∧ ∀ x1 ∈ x0, Ok_Field N x1)) := by
  have h := Gg.rds_slice (enc := enc) (N := N) Try.underlying37 cs65 (by decide) (rds_sl65)
  rw [by65] at h
  exact h
theorem rds_sl64 : Gg.Rds Try.prog enc N 64 (Gg.tySlice Gg.tyStr) (fun l => l.length * 16 ≤ N ∧ ∀ x0 ∈ l, x0.length ≤ N) := by
  have h := Gg.rds_slice (enc := enc) (N := N) Try.underlying64 cs9 (by decide) (Gg.rds_str Try.underlying9)
  rw [by9] at h
  exact h
theorem rds_sl38 : Gg.Rds Try.prog enc N 38 (Gg.tySlice (Gg.tySlice Gg.tyStr)) (fun l => l.length * 24 ≤ N ∧ ∀ x0 ∈ l, (x0.length * 16 ≤ N ∧ ∀ x1 ∈ x0, x1.length ≤ N)) := by
  have h := Gg.rds_slice (enc := enc) (N := N) Try.underlying38 cs64 (by decide) (rds_sl64)
  rw [by64] at h
  exact h
def Ok_Target (N : Nat) (d : Cin.Target) : Prop := Gg.I64 d.Class ∧ Gg.I64 d.Method
theorem rds_Target : Gg.Rds Try.prog enc N 57 Cin.ty_Target (Ok_Target N) := by
  intro W n cs x h hp hw
  obtain ⟨n', hl, hf⟩ := Gg.fld Try.underlying57 h hp hw
  replace hl := hl.trans cs57
  obtain ⟨a0, a1, rfl⟩ := len_2 hl
  obtain ⟨y0, h0, p0, w0⟩ := Gg.fld1 hf 0 rfl rfl rfl cs3 (r := [a0]) rfl
  obtain ⟨d0, r0, k0⟩ := (Gg.rds_i64 Try.underlying3) W _ _ _ h0 p0 w0
  have e0 : [a0] = _ := r0
  obtain rfl : a0 = _ := (List.cons.inj e0).1
  obtain ⟨y1, h1, p1, w1⟩ := Gg.fld1 hf 1 rfl rfl rfl cs3 (r := [a1]) rfl
  obtain ⟨d1, r1, k1⟩ := (Gg.rds_i64 Try.underlying3) W _ _ _ h1 p1 w1
  have e1 : [a1] = _ := r1
  obtain rfl : a1 = _ := (List.cons.inj e1).1
  exact ⟨⟨d0, d1⟩, rfl, ⟨k0, k1⟩⟩
theorem rds_sl119 : Gg.Rds Try.prog enc N 119 (Gg.tySlice Cin.ty_Target) (fun l => l.length * 16 ≤ N ∧ ∀ x0 ∈ l, Ok_Target N x0) := by
  have h := Gg.rds_slice (enc := enc) (N := N) Try.underlying119 cs57 (by decide) rds_Target
  rw [by57] at h
  exact h
theorem rds_sl39 : Gg.Rds Try.prog enc N 39 (Gg.tySlice (Gg.tySlice Cin.ty_Target)) (fun l => l.length * 24 ≤ N ∧ ∀ x0 ∈ l, (x0.length * 16 ≤ N ∧ ∀ x1 ∈ x0, Ok_Target N x1)) := by
  have h := Gg.rds_slice (enc := enc) (N := N) Try.underlying39 cs119 (by decide) (rds_sl119)
  rw [by119] at h
  exact h
def Ok_Linked (N : Nat) (d : Cin.Linked) : Prop := (d.Classes.length * 80 ≤ N ∧ ∀ x0 ∈ d.Classes, Ok_Class N x0) ∧ (d.Supers.length * 8 ≤ N ∧ ∀ x0 ∈ d.Supers, Gg.I64 x0) ∧ (d.Fields.length * 24 ≤ N ∧ ∀ x0 ∈ d.Fields, (x0.length * 40 ≤ N ∧ ∀ x1 ∈ x0, Ok_Field N x1)) ∧ (d.Names.length * 24 ≤ N ∧ ∀ x0 ∈ d.Names, (x0.length * 16 ≤ N ∧ ∀ x1 ∈ x0, x1.length ≤ N)) ∧ (d.Targets.length * 24 ≤ N ∧ ∀ x0 ∈ d.Targets, (x0.length * 16 ≤ N ∧ ∀ x1 ∈ x0, Ok_Target N x1))
theorem rds_Linked : Gg.Rds Try.prog enc N 41 Cin.ty_Linked (Ok_Linked N) := by
  intro W n cs x h hp hw
  obtain ⟨n', hl, hf⟩ := Gg.fld Try.underlying41 h hp hw
  replace hl := hl.trans cs41
  obtain ⟨a0, a1, a2, a3, a4, rfl⟩ := len_5 hl
  obtain ⟨y0, h0, p0, w0⟩ := Gg.fld1 hf 0 rfl rfl rfl cs22 (r := [a0]) rfl
  obtain ⟨d0, r0, k0⟩ := (rds_sl22) W _ _ _ h0 p0 w0
  obtain ⟨A0, c0, e0⟩ := Gg.slice_cs r0
  obtain rfl : a0 = _ := (List.cons.inj e0).1
  obtain ⟨y1, h1, p1, w1⟩ := Gg.fld1 hf 1 rfl rfl rfl cs36 (r := [a1]) rfl
  obtain ⟨d1, r1, k1⟩ := (rds_sl36) W _ _ _ h1 p1 w1
  obtain ⟨A1, c1, e1⟩ := Gg.slice_cs r1
  obtain rfl : a1 = _ := (List.cons.inj e1).1
  obtain ⟨y2, h2, p2, w2⟩ := Gg.fld1 hf 2 rfl rfl rfl cs37 (r := [a2]) rfl
  obtain ⟨d2, r2, k2⟩ := (rds_sl37) W _ _ _ h2 p2 w2
  obtain ⟨A2, c2, e2⟩ := Gg.slice_cs r2
  obtain rfl : a2 = _ := (List.cons.inj e2).1
  obtain ⟨y3, h3, p3, w3⟩ := Gg.fld1 hf 3 rfl rfl rfl cs38 (r := [a3]) rfl
  obtain ⟨d3, r3, k3⟩ := (rds_sl38) W _ _ _ h3 p3 w3
  obtain ⟨A3, c3, e3⟩ := Gg.slice_cs r3
  obtain rfl : a3 = _ := (List.cons.inj e3).1
  obtain ⟨y4, h4, p4, w4⟩ := Gg.fld1 hf 4 rfl rfl rfl cs39 (r := [a4]) rfl
  obtain ⟨d4, r4, k4⟩ := (rds_sl39) W _ _ _ h4 p4 w4
  obtain ⟨A4, c4, e4⟩ := Gg.slice_cs r4
  obtain rfl : a4 = _ := (List.cons.inj e4).1
  exact ⟨⟨d0, d1, d2, d3, d4⟩, ⟨A0, c0, A1, c1, A2, c2, A3, c3, A4, c4, rfl, r0, r1, r2, r3, r4⟩, ⟨k0, k1, k2, k3, k4⟩⟩
end
end Go.Proofs.Ytfbkanhgjpdohaa
