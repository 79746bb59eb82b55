/- Part 2 of the proof that is ended in the last text: small logic, what the functions compute, walks, plain laws. -/
import Derived.Test.YtfbkanhgjpdohaaZu1
namespace Cin
def image_method_L1 (F : Nat) (m_ : Method) : Nat → Int → Option (Way (Int) (Unit))
  | 0, _ => none
  | k1_ + 1, n63_ =>
    cond (decide (n63_ < (m_.Args.length : Int))) ((idx m_.Args n63_).bind fun x77_ =>
    (image_isKind F (⟨x77_.Kind, x77_.Class⟩ : Kind)).bind fun r84_ =>
    cond (!r84_) (some (.out 7)) (image_method_L1 F m_ k1_ (w64 (n63_ + 1)))) (some (.go ()))
def image_method_L2 (F : Nat) (m_ : Method) : Nat → Int → Option (Way (Int) (Unit))
  | 0, _ => none
  | k2_ + 1, n174_ =>
    cond (decide (n174_ < (m_.Handlers.length : Int))) ((idx m_.Handlers n174_).bind fun x197_ =>
    (image_IsName F x197_.Class).bind fun r204_ =>
    cond (!r204_) (some (.out 1)) ((image_within x197_.From 0 200).bind fun r207_ =>
    cond (!r207_) (some (.out 3)) ((image_within x197_.To 0 200).bind fun r210_ =>
    cond (!r210_) (some (.out 3)) ((image_within x197_.At 0 200).bind fun r213_ =>
    cond (!r213_) (some (.out 3)) (image_method_L2 F m_ k2_ (w64 (n174_ + 1))))))) (some (.go ()))
def image_method_L3 (F : Nat) (m_ : Method) : Nat → Int → Option (Way (Int) (Unit))
  | 0, _ => none
  | k3_ + 1, n299_ =>
    cond (decide (n299_ < (m_.Handlers.length : Int))) ((idx m_.Handlers n299_).bind fun x322_ =>
    (image_IsName F x322_.Class).bind fun r329_ =>
    cond (!r329_) (some (.out 1)) ((image_within x322_.From 0 200).bind fun r332_ =>
    cond (!r332_) (some (.out 3)) ((image_within x322_.To 0 200).bind fun r335_ =>
    cond (!r335_) (some (.out 3)) ((image_within x322_.At 0 200).bind fun r338_ =>
    cond (!r338_) (some (.out 3)) (image_method_L3 F m_ k3_ (w64 (n299_ + 1))))))) (some (.go ()))
def image_method (F : Nat) (m_ : Method) : Option (Int) :=
  (image_IsName F m_.Name).bind fun r6_ =>
  cond (!r6_) (some 1) (cond (((decide (4 < (m_.Args.length : Int))) || (decide (200 < (m_.Code.length : Int)))) || (decide (4 < (m_.Handlers.length : Int)))) (some 2) ((image_within m_.Stack 0 10).bind fun r10_ =>
  cond (!r10_) (some 3) ((image_within m_.Locals 0 10).bind fun r13_ =>
  cond (!r13_) (some 3) (seqR (α := Unit) (image_method_L1 F m_ F 0) fun (_ : Unit) =>
  cond (!decide ((⟨m_.Returns.Kind, m_.Returns.Class⟩ : Kind) = (⟨0, []⟩ : Kind))) ((image_isKind F (⟨m_.Returns.Kind, m_.Returns.Class⟩ : Kind)).bind fun r88_ =>
  cond (!r88_) (some 7) (seqR (α := Unit) (image_method_L2 F m_ F 0) fun (_ : Unit) =>
  some 0)) (seqR (α := Unit) (image_method_L3 F m_ F 0) fun (_ : Unit) =>
  some 0)))))
def image_class_L1 (F : Nat) (c_ : Class) : Nat → Int → Option (Way (Int) (Unit))
  | 0, _ => none
  | k1_ + 1, n73_ =>
    cond (decide (n73_ < (c_.Fields.length : Int))) ((idx c_.Fields n73_).bind fun x90_ =>
    (image_IsName F x90_.Name).bind fun r97_ =>
    cond (!r97_) (some (.out 1)) ((image_isKind F (⟨x90_.Kind.Kind, x90_.Kind.Class⟩ : Kind)).bind fun r100_ =>
    cond (!r100_) (some (.out 7)) (image_class_L1 F c_ k1_ (w64 (n73_ + 1))))) (some (.go ()))
def image_class_L2 (F : Nat) (c_ : Class) : Nat → Int → Option (Way (Int) (Unit))
  | 0, _ => none
  | k2_ + 1, n174_ =>
    cond (decide (n174_ < (c_.Methods.length : Int))) ((idx c_.Methods n174_).bind fun x194_ =>
    (image_method F (⟨x194_.Name, x194_.Static, x194_.Args, (⟨x194_.Returns.Kind, x194_.Returns.Class⟩ : Kind), x194_.Stack, x194_.Locals, x194_.Code, x194_.Handlers⟩ : Method)).bind fun r207_ =>
    cond (!decide (r207_ = 0)) (some (.out r207_)) (image_class_L2 F c_ k2_ (w64 (n174_ + 1)))) (some (.go ()))
def image_class_L3 (F : Nat) (c_ : Class) : Nat → Int → Option (Way (Int) (Unit))
  | 0, _ => none
  | k3_ + 1, n270_ =>
    cond (decide (n270_ < (c_.Fields.length : Int))) ((idx c_.Fields n270_).bind fun x287_ =>
    (image_IsName F x287_.Name).bind fun r294_ =>
    cond (!r294_) (some (.out 1)) ((image_isKind F (⟨x287_.Kind.Kind, x287_.Kind.Class⟩ : Kind)).bind fun r297_ =>
    cond (!r297_) (some (.out 7)) (image_class_L3 F c_ k3_ (w64 (n270_ + 1))))) (some (.go ()))
def image_class_L4 (F : Nat) (c_ : Class) : Nat → Int → Option (Way (Int) (Unit))
  | 0, _ => none
  | k4_ + 1, n371_ =>
    cond (decide (n371_ < (c_.Methods.length : Int))) ((idx c_.Methods n371_).bind fun x391_ =>
    (image_method F (⟨x391_.Name, x391_.Static, x391_.Args, (⟨x391_.Returns.Kind, x391_.Returns.Class⟩ : Kind), x391_.Stack, x391_.Locals, x391_.Code, x391_.Handlers⟩ : Method)).bind fun r404_ =>
    cond (!decide (r404_ = 0)) (some (.out r404_)) (image_class_L4 F c_ k4_ (w64 (n371_ + 1)))) (some (.go ()))
def image_class (F : Nat) (c_ : Class) : Option (Int) :=
  (image_IsName F c_.Name).bind fun r6_ =>
  cond (!r6_) (some 1) (cond (!decide (c_.Super = [])) ((image_IsName F c_.Super).bind fun r10_ =>
  cond (!r10_) (some 1) (cond ((decide (6 < (c_.Fields.length : Int))) || (decide (8 < (c_.Methods.length : Int)))) (some 2) (seqR (α := Unit) (image_class_L1 F c_ F 0) fun (_ : Unit) =>
  seqR (α := Unit) (image_class_L2 F c_ F 0) fun (_ : Unit) =>
  some 0))) (cond ((decide (6 < (c_.Fields.length : Int))) || (decide (8 < (c_.Methods.length : Int)))) (some 2) (seqR (α := Unit) (image_class_L3 F c_ F 0) fun (_ : Unit) =>
  seqR (α := Unit) (image_class_L4 F c_ F 0) fun (_ : Unit) =>
  some 0)))
def image_Check_L1 (F : Nat) (l_ : List Class) : Nat → Int → Option (Way (Int) (Unit))
  | 0, _ => none
  | k1_ + 1, n75_ =>
    cond (decide (n75_ < (l_.length : Int))) ((idx l_ n75_).bind fun x95_ =>
    (image_class F (⟨x95_.Name, x95_.Super, x95_.Fields, x95_.Methods⟩ : Class)).bind fun r108_ =>
    cond (!decide (r108_ = 0)) (some (.out r108_)) (image_Check_L1 F l_ k1_ (w64 (n75_ + 1)))) (some (.go ()))
def image_Check (F : Nat) (l_ : List Class) : Option (Int) :=
  cond (decide (10 < (l_.length : Int))) (some 2) (seqR (α := Unit) (image_Check_L1 F l_ F 0) fun (_ : Unit) =>
  some 0)
def R_CheckMethod_L1 (F : Nat) (m_ : Method) : Nat → Int → Option (Way (Int) (Unit))
  | 0, _ => none
  | k1_ + 1, n59_ =>
    cond (decide (n59_ < (m_.Args.length : Int))) ((idx m_.Args n59_).bind fun x72_ =>
    (R_RightKind F x72_).bind fun r78_ =>
    cond (!r78_) (some (.out 7)) (R_CheckMethod_L1 F m_ k1_ (w64 (n59_ + 1)))) (some (.go ()))
def R_CheckMethod_L2 (F : Nat) (m_ : Method) : Nat → Int → Option (Way (Int) (Unit))
  | 0, _ => none
  | k2_ + 1, n167_ =>
    cond (decide (n167_ < (m_.Handlers.length : Int))) ((idx m_.Handlers n167_).bind fun x190_ =>
    (R_IsName F x190_.Class).bind fun r197_ =>
    cond (!r197_) (some (.out 1)) ((R_between x190_.From 0 200).bind fun r200_ =>
    cond (!r200_) (some (.out 3)) ((R_between x190_.To 0 200).bind fun r203_ =>
    cond (!r203_) (some (.out 3)) ((R_between x190_.At 0 200).bind fun r206_ =>
    cond (!r206_) (some (.out 3)) (R_CheckMethod_L2 F m_ k2_ (w64 (n167_ + 1))))))) (some (.go ()))
def R_CheckMethod (F : Nat) (m_ : Method) : Option (Int) :=
  (R_IsName F m_.Name).bind fun r6_ =>
  cond (!r6_) (some 1) (cond (((decide (4 < (m_.Args.length : Int))) || (decide (200 < (m_.Code.length : Int)))) || (decide (4 < (m_.Handlers.length : Int)))) (some 2) ((R_between m_.Stack 0 10).bind fun r10_ =>
  cond (!r10_) (some 3) ((R_between m_.Locals 0 10).bind fun r13_ =>
  cond (!r13_) (some 3) (seqR (α := Unit) (R_CheckMethod_L1 F m_ F 0) fun (_ : Unit) =>
  (R_RightKind F (⟨m_.Returns.Kind, m_.Returns.Class⟩ : Kind)).bind fun r81_ =>
  cond ((!r81_) && ((!decide (m_.Returns.Kind = 0)) || (!decide (m_.Returns.Class = [])))) (some 7) (seqR (α := Unit) (R_CheckMethod_L2 F m_ F 0) fun (_ : Unit) =>
  some 0)))))
def R_CheckClasses_L2 (F : Nat) (x5103_ : Class) : Nat → Int → Option (Way (Int) (Unit))
  | 0, _ => none
  | k2_ + 1, n5203_ =>
    cond (decide (n5203_ < (x5103_.Fields.length : Int))) ((idx x5103_.Fields n5203_).bind fun x5225_ =>
    (R_IsName F x5225_.Name).bind fun r5231_ =>
    cond (!r5231_) (some (.out 1)) ((idx x5103_.Fields n5203_).bind fun x5234_ =>
    (R_RightKind F (⟨x5234_.Kind.Kind, x5234_.Kind.Class⟩ : Kind)).bind fun r5240_ =>
    cond (!r5240_) (some (.out 7)) (R_CheckClasses_L2 F x5103_ k2_ (w64 (n5203_ + 1))))) (some (.go ()))
def R_CheckClasses_L3 (F : Nat) (x5103_ : Class) : Nat → Int → Option (Way (Int) (Unit))
  | 0, _ => none
  | k3_ + 1, n5310_ =>
    cond (decide (n5310_ < (x5103_.Methods.length : Int))) ((idx x5103_.Methods n5310_).bind fun x5329_ =>
    (R_CheckMethod F x5329_).bind fun r5341_ =>
    cond (!decide (r5341_ = 0)) (some (.out r5341_)) (R_CheckClasses_L3 F x5103_ k3_ (w64 (n5310_ + 1)))) (some (.go ()))
def R_CheckClasses_L4 (F : Nat) (x5103_ : Class) : Nat → Int → Option (Way (Int) (Unit))
  | 0, _ => none
  | k4_ + 1, n5424_ =>
    cond (decide (n5424_ < (x5103_.Fields.length : Int))) ((idx x5103_.Fields n5424_).bind fun x5446_ =>
    (R_IsName F x5446_.Name).bind fun r5452_ =>
    cond (!r5452_) (some (.out 1)) ((idx x5103_.Fields n5424_).bind fun x5455_ =>
    (R_RightKind F (⟨x5455_.Kind.Kind, x5455_.Kind.Class⟩ : Kind)).bind fun r5461_ =>
    cond (!r5461_) (some (.out 7)) (R_CheckClasses_L4 F x5103_ k4_ (w64 (n5424_ + 1))))) (some (.go ()))
def R_CheckClasses_L5 (F : Nat) (x5103_ : Class) : Nat → Int → Option (Way (Int) (Unit))
  | 0, _ => none
  | k5_ + 1, n5531_ =>
    cond (decide (n5531_ < (x5103_.Methods.length : Int))) ((idx x5103_.Methods n5531_).bind fun x5550_ =>
    (R_CheckMethod F x5550_).bind fun r5562_ =>
    cond (!decide (r5562_ = 0)) (some (.out r5562_)) (R_CheckClasses_L5 F x5103_ k5_ (w64 (n5531_ + 1)))) (some (.go ()))
def R_CheckClasses_L1 (F : Nat) (l_ : List Class) : Nat → Int → Option (Way (Int) (Unit))
  | 0, _ => none
  | k1_ + 1, n3711_ =>
    cond (decide (n3711_ < (l_.length : Int))) (seqO (α := Unit) ((idx l_ n3711_).bind fun x5103_ =>
    (R_IsName F x5103_.Name).bind fun r5116_ =>
    cond (!r5116_) (some (.out 1)) (cond (!decide (x5103_.Super = [])) ((R_IsName F x5103_.Super).bind fun r5120_ =>
    cond (!r5120_) (some (.out 1)) (cond ((decide (6 < (x5103_.Fields.length : Int))) || (decide (8 < (x5103_.Methods.length : Int)))) (some (.out 2)) (seqO (α := Unit) (R_CheckClasses_L2 F x5103_ F 0) fun (_ : Unit) =>
    seqO (α := Unit) (R_CheckClasses_L3 F x5103_ F 0) fun (_ : Unit) =>
    some (.go ())))) (cond ((decide (6 < (x5103_.Fields.length : Int))) || (decide (8 < (x5103_.Methods.length : Int)))) (some (.out 2)) (seqO (α := Unit) (R_CheckClasses_L4 F x5103_ F 0) fun (_ : Unit) =>
    seqO (α := Unit) (R_CheckClasses_L5 F x5103_ F 0) fun (_ : Unit) =>
    some (.go ()))))) fun (_ : Unit) =>
    R_CheckClasses_L1 F l_ k1_ (w64 (n3711_ + 1))) (some (.go ()))
def R_CheckClasses (F : Nat) (l_ : List Class) : Option (Int) :=
  cond (decide (10 < (l_.length : Int))) (some 2) (seqR (α := Unit) (R_CheckClasses_L1 F l_ F 0) fun (_ : Unit) =>
  some 0)
end Cin
namespace Go.Proofs.Ytfbkanhgjpdohaa
open Go Go.RowKit Gg
set_option maxHeartbeats 4000000
set_option maxRecDepth 20000
theorem c_image_method {W : World} {X : List Nat} {F : Nat} {m_ : Cin.Method} {r : Int} {A1_ : Option Addr} {c2_ : Nat} {A3_ : Option Addr} {c4_ : Nat} (hm : St W (foots []) X W [] [sl Cin.ty_Kind A1_ c2_ m_.Args, sl Cin.ty_Handler A3_ c4_ m_.Handlers]) (h : Cin.image_method F m_ = some r) :
    Calls Try.prog 88 [.agg #[Str m_.Name, .bool m_.Static, .slice A1_ m_.Args.length c2_, .i m_.Returns.Kind, Str m_.Returns.Class, .i m_.Stack, .i m_.Locals, Str m_.Code, .slice A3_ m_.Handlers.length c4_]].toArray W (fun e w' => e = .returned (.i r) ∧ St W (foots []) X w' [] []) := by
  generalize hM0 : foots [] = M0 at hm ⊢; clear hM0; refine enter Try.func88 rfl Try.ntmps88 rfl ?_; intro a hf; rw [Cin.image_method] at h; refine wp_seq_k fun K hK1 => ?_; refine c_region ?_; refine nnew (cs := [Str m_.Name, .bool m_.Static, .slice A1_ m_.Args.length c2_, .i m_.Returns.Kind, Str m_.Returns.Class, .i m_.Stack, .i m_.Locals, Str m_.Code, .slice A3_ m_.Handlers.length c4_]) (wN rfl) (y_box rfl rfl (hf.g rfl)) hf hm rfl rfl ?_; intro a g5_ w hv hf hm; clear hv; refine sp0 1 [] [(1, .po g5_)] hf fun a hf => wpList_nil (hK1 _ _ ?_); refine wp_seq_k fun K hK2 => ?_; refine wp_block ?_; refine wp_seq_k fun K hK3 => ?_; refine c_region ?_
  refine sp1 2 [0, 0] [(1, .po g5_), (9, Str m_.Name)] [g5_, 0] (mc (blk_all (hm.e 0 rfl)) mn) hf fun a hf => ?_; obtain ⟨r6_, hr7_, h⟩ := Cin.bind_s h; have hc := hm; refine sc (vs := [Str m_.Name]) (wN rfl) rfl Try.call86 ⟨(hf.g rfl), trivial⟩ (c_image_IsName ((hc.into 0).pick trivial) hr7_) hf rfl rfl ?_; rintro _ w ⟨rfl, hn⟩; refine ⟨_, rfl, ?_⟩; intro a hf; have hv : Ev [] _ w := hn.ev; have hm := hc.back 0 hn; dsimp only [List.drop, List.cons_append, List.nil_append, HAppend.hAppend, Append.append, List.append] at hm; clear hn hc; clear hv; refine sp0 2 [] [(1, .po g5_), (7, .bool (!r6_))] hf fun a hf => wpList_nil (hK3 _ _ ?_); refine cc (hf.g rfl) h (fun hb8_ h => ?_) (fun hb8_ h => ?_)
  · refine sr0 [] [(2, .i 1)] hf fun a hf => ?_; refine wp_ret ?_; obtain rfl := Option.some.inj h; refine x_retB (x_retT ?_); refine r_one Try.results88 hf rfl ?_; exact ⟨rfl, (hm.sel [] rfl rfl).pick trivial⟩
  refine wp_seq_k fun K hK5 => ?_; refine rg [0, 2, 0, 0, 0, 7, 0, 0, 0, 0, 0, 0, 8, 0, 0, 0] [(1, .po g5_), (12, .bool (((decide (4 < (m_.Args.length : Int))) || (decide (200 < (m_.Code.length : Int)))) || (decide (4 < (m_.Handlers.length : Int)))))] [g5_, 8, g5_, 7, g5_, 2] (mc (blk_all (hm.e 0 rfl)) mn) hf fun a hf => hK5 _ _ ?_; refine cc (hf.g rfl) h (fun hb9_ h => ?_) (fun hb9_ h => ?_)
  · refine sr0 [] [(2, .i 2)] hf fun a hf => ?_; refine wp_ret ?_; obtain rfl := Option.some.inj h; refine x_retB (x_retT ?_); refine r_one Try.results88 hf rfl ?_; exact ⟨rfl, (hm.sel [] rfl rfl).pick trivial⟩
  refine wp_seq_k fun K hK7 => ?_; refine c_region ?_; refine sp1 2 [0, 5] [(1, .po g5_), (31, .i m_.Stack)] [g5_, 5] (mc (blk_all (hm.e 0 rfl)) mn) hf fun a hf => ?_; obtain ⟨r10_, hr11_, h⟩ := Cin.bind_s h; have hc := hm; refine sc (vs := [.i m_.Stack, .i 0, .i 10]) (wN rfl) rfl Try.call122 ⟨(hf.g rfl), (ec _ _), (ec _ _), trivial⟩ (c_image_within ((hc.into 0).pick trivial) hr11_) hf rfl rfl ?_; rintro _ w ⟨rfl, hn⟩; refine ⟨_, rfl, ?_⟩; intro a hf; have hv : Ev [] _ w := hn.ev; have hm := hc.back 0 hn; dsimp only [List.drop, List.cons_append, List.nil_append, HAppend.hAppend, Append.append, List.append] at hm; clear hn hc; clear hv; refine sp0 2 [] [(1, .po g5_), (34, .bool (!r10_))] hf fun a hf => ?_
  rcases Bool.eq_false_or_eq_true (!r10_) with hb12_ | hb12_
  · have h := Cin.cond_t hb12_ h; have hf := hf.bt 34 rfl hb12_; refine sp0 6 [1, 1, 1, 1, 1] [(1, .po g5_), (29, .bool true)] hf fun a hf => wpList_nil (hK7 _ _ ?_); refine c_condT (hf.g rfl) rfl ?_; refine sr0 [] [(2, .i 3)] hf fun a hf => ?_; refine wp_ret ?_; obtain rfl := Option.some.inj h; refine x_retB (x_retT ?_); refine r_one Try.results88 hf rfl ?_; exact ⟨rfl, (hm.sel [] rfl rfl).pick trivial⟩
  have h := Cin.cond_f hb12_ h; have hf := hf.bt 34 rfl hb12_; refine sp1 2 [1, 1, 0, 6] [(1, .po g5_), (34, .bool false), (36, .i m_.Locals)] [g5_, 6] (mc (blk_all (hm.e 0 rfl)) mn) hf fun a hf => ?_; obtain ⟨r13_, hr14_, h⟩ := Cin.bind_s h; have hc := hm; refine sc (vs := [.i m_.Locals, .i 0, .i 10]) (wantT hf rfl rfl rfl rfl) rfl Try.call122 ⟨(hf.g rfl), (ec _ _), (ec _ _), trivial⟩ (c_image_within ((hc.into 0).pick trivial) hr14_) hf rfl rfl ?_; rintro _ w ⟨rfl, hn⟩; refine ⟨_, rfl, ?_⟩; intro a hf; have hv : Ev [] _ w := hn.ev; have hm := hc.back 0 hn; dsimp only [List.drop, List.cons_append, List.nil_append, HAppend.hAppend, Append.append, List.append] at hm; clear hn hc; clear hv
  refine sp0 3 [1, 1] [(1, .po g5_), (29, .bool (!r13_))] hf fun a hf => wpList_nil (hK7 _ _ ?_); refine cc (hf.g rfl) h (fun hb15_ h => ?_) (fun hb15_ h => ?_)
  · refine sr0 [] [(2, .i 3)] hf fun a hf => ?_; refine wp_ret ?_; obtain rfl := Option.some.inj h; refine x_retB (x_retT ?_); refine r_one Try.results88 hf rfl ?_; exact ⟨rfl, (hm.sel [] rfl rfl).pick trivial⟩
  refine wp_skip ?_; refine hK2 _ _ ?_; refine wp_seq_k fun K hK10 => ?_; refine wp_seq_k fun K hK11 => ?_; refine rg [0, 2] [(1, .po g5_), (41, .slice A1_ m_.Args.length c2_), (42, .i (m_.Args.length : Int)), (43, .i 0)] [g5_, 2] (mc (blk_all (hm.e 0 rfl)) mn) hf fun a hf => hK11 _ _ ?_; obtain ⟨j51_, h, hj51_⟩ := Cin.seqR_s h
  refine c_blockJ (fun a w => Fr ⟨91, []⟩ [(1, .po g5_)] a ∧ St W M0 X w [Ent.blk g5_ 74 [Str m_.Name, .bool m_.Static, .slice A1_ m_.Args.length c2_, .i m_.Returns.Kind, Str m_.Returns.Class, .i m_.Stack, .i m_.Locals, Str m_.Code, .slice A3_ m_.Handlers.length c4_]] [sl Cin.ty_Kind A1_ c2_ m_.Args, sl Cin.ty_Handler A3_ c4_ m_.Handlers] ∧ j51_ = (.go ())) (fun K hK12 => ?_) ?_
  · refine c_loop (fun (k1_ : Nat) a w => ∃ (n63_ : Int), Fr ⟨91, []⟩ [(1, .po g5_), (41, .slice A1_ m_.Args.length c2_), (42, .i (m_.Args.length : Int)), (43, .i n63_)] a ∧ St W M0 X w [Ent.blk g5_ 74 [Str m_.Name, .bool m_.Static, .slice A1_ m_.Args.length c2_, .i m_.Returns.Kind, Str m_.Returns.Class, .i m_.Stack, .i m_.Locals, Str m_.Code, .slice A3_ m_.Handlers.length c4_]] [sl Cin.ty_Kind A1_ c2_ m_.Args, sl Cin.ty_Handler A3_ c4_ m_.Handlers] ∧ Cin.image_method_L1 F m_ k1_ n63_ = some j51_) F ⟨0, hf.sub ⟨rfl, rfl, rfl, rfl, trivial⟩, hm, h⟩ ?_ ?_
    · rintro a w ⟨n63_, hf, hm, h⟩; exact absurd h (by simp [Cin.image_method_L1])
    rintro k1_ a w ⟨n63_, hf, hm, h⟩ K hK13; rw [Cin.image_method_L1] at h; refine sr0 [] [(1, .po g5_), (41, .slice A1_ m_.Args.length c2_), (42, .i (m_.Args.length : Int)), (43, .i n63_), (44, .bool (decide (n63_ < (m_.Args.length : Int))))] hf fun a hf => ?_; refine wp_seq_k fun K hK15 => ?_; refine cc (hf.g rfl) h (fun hb76_ h => ?_) (fun hb76_ h => ?_)
    · refine wp_skip ?_; refine hK15 _ _ ?_; refine wp_seq_k fun K hK16 => ?_; refine wp_block ?_; refine wp_seq_k fun K hK17 => ?_; refine c_region ?_; obtain ⟨x77_, hx78_, h⟩ := Cin.bind_s h; obtain ⟨hA79_, hi80_, _, rfl, hc81_⟩ := slice_at _ (hm.d 0 rfl) hx78_; refine sv (wN rfl) (y_idx Try.underlying69 Try.sizeOf71 rfl (hf.g rfl) (hf.g rfl) hA79_ hi80_) hf rfl rfl fun a hf => ?_; refine sp1 1 [0, 0] [(1, .po g5_), (41, .slice A1_ m_.Args.length c2_), (42, .i (m_.Args.length : Int)), (43, .i n63_), (46, .agg #[.i x77_.Kind, Str x77_.Class])] [bO A1_, oO A1_ + (n63_).toNat * 2] (mc hc81_ mn) hf fun a hf => ?_; refine nnew (cs := [.i 0, Str []]) (wN rfl) (y_alloc Try.zeroValue71 rfl rfl) hf hm rfl rfl ?_; intro a g83_ w hv hf hm; clear hv
      refine sst (vs := [.i x77_.Kind, Str x77_.Class]) 0 hm rfl (wN rfl) rfl Try.sizeOf71 rfl rfl rfl rfl (hf.g rfl) (hf.g rfl) rfl ?_; intro w hm; simp only [List.set, lay, List.drop, List.length, List.cons_append, List.nil_append] at hm; refine wpList_nil ?_; refine hK17 _ _ ?_; refine wp_seq_k fun K hK18 => ?_; refine c_region ?_; refine sp1 1 [0, 0] [(1, .po g5_), (41, .slice A1_ m_.Args.length c2_), (42, .i (m_.Args.length : Int)), (43, .i n63_), (47, .agg #[.i x77_.Kind, Str x77_.Class])] [g83_, 0] (mc (blk_all (hm.e 0 rfl)) mn) hf fun a hf => ?_; obtain ⟨r84_, hr85_, h⟩ := Cin.bind_s h; have hc := hm; refine sc (vs := [.agg #[.i x77_.Kind, Str x77_.Class]]) (wN rfl) rfl Try.call87 ⟨(hf.g rfl), trivial⟩ (c_image_isKind ((hc.into 0).pick trivial) hr85_) hf rfl rfl ?_
      rintro _ w ⟨rfl, hn⟩; refine ⟨_, rfl, ?_⟩; intro a hf; have hv : Ev [] _ w := hn.ev; have hm := hc.back 0 hn; dsimp only [List.drop, List.cons_append, List.nil_append, HAppend.hAppend, Append.append, List.append] at hm; clear hn hc; clear hv; refine sp0 1 [] [(1, .po g5_), (41, .slice A1_ m_.Args.length c2_), (42, .i (m_.Args.length : Int)), (43, .i n63_), (49, .bool (!r84_))] hf fun a hf => wpList_nil (hK18 _ _ ?_); refine cc (hf.g rfl) h (fun hb86_ h => ?_) (fun hb86_ h => ?_)
      · refine sr0 [] [(2, .i 7)] hf fun a hf => ?_; refine wp_ret ?_; obtain rfl := Option.some.inj h; obtain rfl := Option.some.inj (show some (_) = some _ from hj51_); refine x_retB (x_retT (x_retT (x_retB (x_retT (x_retT ?_))))); refine r_one Try.results88 hf rfl ?_; exact ⟨rfl, (hm.sel [] rfl rfl).pick trivial⟩
      refine wp_skip ?_; refine hK16 _ _ ?_; refine rg0 [] [(1, .po g5_), (41, .slice A1_ m_.Args.length c2_), (42, .i (m_.Args.length : Int)), (43, .i (Cin.w64 (n63_ + 1)))] hf fun a hf => ?_; exact hK13 _ _ ⟨Cin.w64 (n63_ + 1), hf.sub ⟨rfl, rfl, rfl, rfl, trivial⟩, (hm.sel [1] rfl rfl), h⟩
    refine wp_exit ?_; refine x_then (x_then (x_hit ?_)); exact hK12 _ _ ⟨hf.sub ⟨rfl, trivial⟩, hm, (Option.some.inj h).symm⟩
  rintro a w ⟨hf, hm, hj⟩; subst j51_; have h := hj51_; clear hj51_; dsimp only [Cin.contR] at h; refine hK10 _ _ ?_; refine wp_seq_k fun K hK20 => ?_; refine wp_seq_k fun K hK21 => ?_; refine c_region ?_; refine sp1 2 [0, 3] [(1, .po g5_), (52, .agg #[.i m_.Returns.Kind, Str m_.Returns.Class])] [g5_, 3] (mc (blk_all (hm.e 0 rfl)) mn) hf fun a hf => ?_; refine sv (wN rfl) (y_build (vs := []) (cs := [.i 0, Str []]) Try.zeroValue71 Try.underlying71 places71 rfl trivial rfl) hf rfl rfl fun a hf => ?_; refine sv (wN rfl) (eq_neq_Kind (X := (⟨m_.Returns.Kind, m_.Returns.Class⟩ : Cin.Kind)) (Y := (⟨0, []⟩ : Cin.Kind)) rfl (hf.g rfl) (hf.g rfl)) hf rfl rfl fun a hf => ?_
  refine sp0 1 [] [(1, .po g5_), (55, .bool (!decide ((⟨m_.Returns.Kind, m_.Returns.Class⟩ : Cin.Kind) = (⟨0, []⟩ : Cin.Kind))))] hf fun a hf => ?_; rcases Bool.eq_false_or_eq_true (!decide ((⟨m_.Returns.Kind, m_.Returns.Class⟩ : Cin.Kind) = (⟨0, []⟩ : Cin.Kind))) with hb87_ | hb87_
  · have h := Cin.cond_t hb87_ h; have hf := hf.bt 55 rfl hb87_; refine sp1 2 [1, 1, 0, 3] [(1, .po g5_), (55, .bool true), (57, .agg #[.i m_.Returns.Kind, Str m_.Returns.Class])] [g5_, 3] (mc (blk_all (hm.e 0 rfl)) mn) hf fun a hf => ?_; obtain ⟨r88_, hr89_, h⟩ := Cin.bind_s h; have hc := hm; refine sc (vs := [.agg #[.i m_.Returns.Kind, Str m_.Returns.Class]]) (wantT hf rfl rfl rfl rfl) rfl Try.call87 ⟨(hf.g rfl), trivial⟩ (c_image_isKind ((hc.into 0).pick trivial) hr89_) hf rfl rfl ?_; rintro _ w ⟨rfl, hn⟩; refine ⟨_, rfl, ?_⟩; intro a hf; have hv : Ev [] _ w := hn.ev; have hm := hc.back 0 hn; dsimp only [List.drop, List.cons_append, List.nil_append, HAppend.hAppend, Append.append, List.append] at hm; clear hn hc; clear hv
    refine sp0 2 [1, 1] [(1, .po g5_), (60, .bool (!r88_))] hf fun a hf => wpList_nil (hK21 _ _ ?_); refine cc (hf.g rfl) h (fun hb90_ h => ?_) (fun hb90_ h => ?_)
    · refine sr0 [] [(2, .i 7)] hf fun a hf => ?_; refine wp_ret ?_; obtain rfl := Option.some.inj h; refine x_retT ?_; refine r_one Try.results88 hf rfl ?_; exact ⟨rfl, (hm.sel [] rfl rfl).pick trivial⟩
    refine wp_skip ?_; refine hK20 _ _ ?_; refine wp_seq_k fun K hK23 => ?_; refine wp_seq_k fun K hK24 => ?_; refine rg [0, 8] [(62, .slice A3_ m_.Handlers.length c4_), (63, .i (m_.Handlers.length : Int)), (64, .i 0)] [g5_, 8] (mc (blk_all (hm.e 0 rfl)) mn) hf fun a hf => hK24 _ _ ?_; obtain ⟨j153_, h, hj153_⟩ := Cin.seqR_s h; refine c_blockJ (fun a w => Fr ⟨91, []⟩ [] a ∧ St W M0 X w [Ent.blk g5_ 74 [Str m_.Name, .bool m_.Static, .slice A1_ m_.Args.length c2_, .i m_.Returns.Kind, Str m_.Returns.Class, .i m_.Stack, .i m_.Locals, Str m_.Code, .slice A3_ m_.Handlers.length c4_]] [sl Cin.ty_Kind A1_ c2_ m_.Args, sl Cin.ty_Handler A3_ c4_ m_.Handlers] ∧ j153_ = (.go ())) (fun K hK25 => ?_) ?_
    · refine c_loop (fun (k2_ : Nat) a w => ∃ (n174_ : Int), Fr ⟨91, []⟩ [(62, .slice A3_ m_.Handlers.length c4_), (63, .i (m_.Handlers.length : Int)), (64, .i n174_)] a ∧ St W M0 X w [Ent.blk g5_ 74 [Str m_.Name, .bool m_.Static, .slice A1_ m_.Args.length c2_, .i m_.Returns.Kind, Str m_.Returns.Class, .i m_.Stack, .i m_.Locals, Str m_.Code, .slice A3_ m_.Handlers.length c4_]] [sl Cin.ty_Kind A1_ c2_ m_.Args, sl Cin.ty_Handler A3_ c4_ m_.Handlers] ∧ Cin.image_method_L2 F m_ k2_ n174_ = some j153_) F ⟨0, hf.sub ⟨rfl, rfl, rfl, trivial⟩, hm, h⟩ ?_ ?_
      · rintro a w ⟨n174_, hf, hm, h⟩; exact absurd h (by simp [Cin.image_method_L2])
      rintro k2_ a w ⟨n174_, hf, hm, h⟩ K hK26; rw [Cin.image_method_L2] at h; refine sr0 [] [(62, .slice A3_ m_.Handlers.length c4_), (63, .i (m_.Handlers.length : Int)), (64, .i n174_), (65, .bool (decide (n174_ < (m_.Handlers.length : Int))))] hf fun a hf => ?_; refine wp_seq_k fun K hK28 => ?_; refine cc (hf.g rfl) h (fun hb196_ h => ?_) (fun hb196_ h => ?_)
      · refine wp_skip ?_; refine hK28 _ _ ?_; refine wp_seq_k fun K hK29 => ?_; refine wp_block ?_; refine wp_seq_k fun K hK30 => ?_; refine c_region ?_; obtain ⟨x197_, hx198_, h⟩ := Cin.bind_s h; obtain ⟨hA199_, hi200_, _, rfl, hc201_⟩ := slice_at _ (hm.d 1 rfl) hx198_; refine sv (wN rfl) (y_idx Try.underlying72 Try.sizeOf96 rfl (hf.g rfl) (hf.g rfl) hA199_ hi200_) hf rfl rfl fun a hf => ?_; refine sp1 1 [0, 0] [(62, .slice A3_ m_.Handlers.length c4_), (63, .i (m_.Handlers.length : Int)), (64, .i n174_), (67, .agg #[.i x197_.From, .i x197_.To, .i x197_.At, Str x197_.Class])] [bO A3_, oO A3_ + (n174_).toNat * 4] (mc hc201_ mn) hf fun a hf => ?_; refine nnew (cs := [.i 0, .i 0, .i 0, Str []]) (wN rfl) (y_alloc Try.zeroValue96 rfl rfl) hf hm rfl rfl ?_; intro a g203_ w hv hf hm
        clear hv; refine sst (vs := [.i x197_.From, .i x197_.To, .i x197_.At, Str x197_.Class]) 0 hm rfl (wN rfl) rfl Try.sizeOf96 rfl rfl rfl rfl (hf.g rfl) (hf.g rfl) rfl ?_; intro w hm; simp only [List.set, lay, List.drop, List.length, List.cons_append, List.nil_append] at hm; refine wpList_nil ?_; refine hK30 _ _ ?_; refine wp_block ?_; refine wp_seq_k fun K hK31 => ?_; refine c_region ?_; refine sp1 2 [0, 3] [(6, .po g203_), (62, .slice A3_ m_.Handlers.length c4_), (63, .i (m_.Handlers.length : Int)), (64, .i n174_), (70, Str x197_.Class)] [g203_, 3] (mc (blk_all (hm.e 0 rfl)) mn) hf fun a hf => ?_; obtain ⟨r204_, hr205_, h⟩ := Cin.bind_s h; have hc := hm
        refine sc (vs := [Str x197_.Class]) (wN rfl) rfl Try.call86 ⟨(hf.g rfl), trivial⟩ (c_image_IsName ((hc.into 0).pick trivial) hr205_) hf rfl rfl ?_; rintro _ w ⟨rfl, hn⟩; refine ⟨_, rfl, ?_⟩; intro a hf; have hv : Ev [] _ w := hn.ev; have hm := hc.back 0 hn; dsimp only [List.drop, List.cons_append, List.nil_append, HAppend.hAppend, Append.append, List.append] at hm; clear hn hc; clear hv; refine sp0 2 [] [(6, .po g203_), (62, .slice A3_ m_.Handlers.length c4_), (63, .i (m_.Handlers.length : Int)), (64, .i n174_), (68, .bool (!r204_))] hf fun a hf => wpList_nil (hK31 _ _ ?_); refine cc (hf.g rfl) h (fun hb206_ h => ?_) (fun hb206_ h => ?_)
        · refine sr0 [] [(2, .i 1)] hf fun a hf => ?_; refine wp_ret ?_; obtain rfl := Option.some.inj h; obtain rfl := Option.some.inj (show some (_) = some _ from hj153_); refine x_retB (x_retB (x_retT (x_retT (x_retB (x_retT (x_retT ?_)))))); refine r_one Try.results88 hf rfl ?_; exact ⟨rfl, (hm.sel [] rfl rfl).pick trivial⟩
        refine wp_seq_k fun K hK33 => ?_; refine c_region ?_; refine sp1 2 [0, 0] [(6, .po g203_), (62, .slice A3_ m_.Handlers.length c4_), (63, .i (m_.Handlers.length : Int)), (64, .i n174_), (75, .i x197_.From)] [g203_, 0] (mc (blk_all (hm.e 0 rfl)) mn) hf fun a hf => ?_; obtain ⟨r207_, hr208_, h⟩ := Cin.bind_s h; have hc := hm; refine sc (vs := [.i x197_.From, .i 0, .i 200]) (wN rfl) rfl Try.call122 ⟨(hf.g rfl), (ec _ _), (ec _ _), trivial⟩ (c_image_within ((hc.into 0).pick trivial) hr208_) hf rfl rfl ?_; rintro _ w ⟨rfl, hn⟩; refine ⟨_, rfl, ?_⟩; intro a hf; have hv : Ev [] _ w := hn.ev; have hm := hc.back 0 hn; dsimp only [List.drop, List.cons_append, List.nil_append, HAppend.hAppend, Append.append, List.append] at hm; clear hn hc; clear hv
        refine sp0 2 [] [(6, .po g203_), (62, .slice A3_ m_.Handlers.length c4_), (63, .i (m_.Handlers.length : Int)), (64, .i n174_), (78, .bool (!r207_))] hf fun a hf => ?_; rcases Bool.eq_false_or_eq_true (!r207_) with hb209_ | hb209_
        · have h := Cin.cond_t hb209_ h; have hf := hf.bt 78 rfl hb209_; refine sp0 12 [1, 1, 1, 1, 1, 1, 1, 1, 1, 1] [(62, .slice A3_ m_.Handlers.length c4_), (63, .i (m_.Handlers.length : Int)), (64, .i n174_), (73, .bool true)] hf fun a hf => wpList_nil (hK33 _ _ ?_); refine c_condT (hf.g rfl) rfl ?_; refine sr0 [] [(2, .i 3)] hf fun a hf => ?_; refine wp_ret ?_; obtain rfl := Option.some.inj h; obtain rfl := Option.some.inj (show some (_) = some _ from hj153_); refine x_retB (x_retB (x_retT (x_retT (x_retB (x_retT (x_retT ?_)))))); refine r_one Try.results88 hf rfl ?_; exact ⟨rfl, (hm.sel [] rfl rfl).pick trivial⟩
        have h := Cin.cond_f hb209_ h; have hf := hf.bt 78 rfl hb209_; refine sp1 2 [1, 1, 0, 1] [(6, .po g203_), (62, .slice A3_ m_.Handlers.length c4_), (63, .i (m_.Handlers.length : Int)), (64, .i n174_), (78, .bool false), (80, .i x197_.To)] [g203_, 1] (mc (blk_all (hm.e 0 rfl)) mn) hf fun a hf => ?_; obtain ⟨r210_, hr211_, h⟩ := Cin.bind_s h; have hc := hm; refine sc (vs := [.i x197_.To, .i 0, .i 200]) (wantT hf rfl rfl rfl rfl) rfl Try.call122 ⟨(hf.g rfl), (ec _ _), (ec _ _), trivial⟩ (c_image_within ((hc.into 0).pick trivial) hr211_) hf rfl rfl ?_; rintro _ w ⟨rfl, hn⟩; refine ⟨_, rfl, ?_⟩; intro a hf; have hv : Ev [] _ w := hn.ev; have hm := hc.back 0 hn; dsimp only [List.drop, List.cons_append, List.nil_append, HAppend.hAppend, Append.append, List.append] at hm; clear hn hc; clear hv
        refine sp0 3 [1, 1] [(6, .po g203_), (62, .slice A3_ m_.Handlers.length c4_), (63, .i (m_.Handlers.length : Int)), (64, .i n174_), (84, .bool (!r210_))] hf fun a hf => ?_; rcases Bool.eq_false_or_eq_true (!r210_) with hb212_ | hb212_
        · have h := Cin.cond_t hb212_ h; have hf := hf.bt 84 rfl hb212_; refine sp0 6 [1, 1, 1, 1, 1] [(62, .slice A3_ m_.Handlers.length c4_), (63, .i (m_.Handlers.length : Int)), (64, .i n174_), (73, .bool true)] hf fun a hf => wpList_nil (hK33 _ _ ?_); refine c_condT (hf.g rfl) rfl ?_; refine sr0 [] [(2, .i 3)] hf fun a hf => ?_; refine wp_ret ?_; obtain rfl := Option.some.inj h; obtain rfl := Option.some.inj (show some (_) = some _ from hj153_); refine x_retB (x_retB (x_retT (x_retT (x_retB (x_retT (x_retT ?_)))))); refine r_one Try.results88 hf rfl ?_; exact ⟨rfl, (hm.sel [] rfl rfl).pick trivial⟩
        have h := Cin.cond_f hb212_ h; have hf := hf.bt 84 rfl hb212_; refine sp1 2 [1, 1, 0, 2] [(62, .slice A3_ m_.Handlers.length c4_), (63, .i (m_.Handlers.length : Int)), (64, .i n174_), (84, .bool false), (86, .i x197_.At)] [g203_, 2] (mc (blk_all (hm.e 0 rfl)) mn) hf fun a hf => ?_; obtain ⟨r213_, hr214_, h⟩ := Cin.bind_s h; have hc := hm; refine sc (vs := [.i x197_.At, .i 0, .i 200]) (wantT hf rfl rfl rfl rfl) rfl Try.call122 ⟨(hf.g rfl), (ec _ _), (ec _ _), trivial⟩ (c_image_within ((hc.into 0).pick trivial) hr214_) hf rfl rfl ?_; rintro _ w ⟨rfl, hn⟩; refine ⟨_, rfl, ?_⟩; intro a hf; have hv : Ev [] _ w := hn.ev; have hm := hc.back 0 hn; dsimp only [List.drop, List.cons_append, List.nil_append, HAppend.hAppend, Append.append, List.append] at hm; clear hn hc; clear hv
        refine sp0 3 [1, 1] [(62, .slice A3_ m_.Handlers.length c4_), (63, .i (m_.Handlers.length : Int)), (64, .i n174_), (73, .bool (!r213_))] hf fun a hf => wpList_nil (hK33 _ _ ?_); refine cc (hf.g rfl) h (fun hb215_ h => ?_) (fun hb215_ h => ?_)
        · refine sr0 [] [(2, .i 3)] hf fun a hf => ?_; refine wp_ret ?_; obtain rfl := Option.some.inj h; obtain rfl := Option.some.inj (show some (_) = some _ from hj153_); refine x_retB (x_retB (x_retT (x_retT (x_retB (x_retT (x_retT ?_)))))); refine r_one Try.results88 hf rfl ?_; exact ⟨rfl, (hm.sel [] rfl rfl).pick trivial⟩
        refine wp_skip ?_; refine hK29 _ _ ?_; refine rg0 [] [(62, .slice A3_ m_.Handlers.length c4_), (63, .i (m_.Handlers.length : Int)), (64, .i (Cin.w64 (n174_ + 1)))] hf fun a hf => ?_; exact hK26 _ _ ⟨Cin.w64 (n174_ + 1), hf.sub ⟨rfl, rfl, rfl, trivial⟩, (hm.sel [1] rfl rfl), h⟩
      refine wp_exit ?_; refine x_then (x_then (x_hit ?_)); exact hK25 _ _ ⟨hf.sub trivial, hm, (Option.some.inj h).symm⟩
    rintro a w ⟨hf, hm, hj⟩; subst j153_; have h := hj153_; clear hj153_; dsimp only [Cin.contR] at h; refine hK23 _ _ ?_; refine sr0 [] [(2, .i 0)] hf fun a hf => ?_; refine wp_ret ?_; obtain rfl := Option.some.inj h; refine r_one Try.results88 hf rfl ?_; exact ⟨rfl, (hm.sel [] rfl rfl).pick trivial⟩
  have h := Cin.cond_f hb87_ h; have hf := hf.bt 55 rfl hb87_; refine sp0 5 [1, 1, 1, 1, 1] [(1, .po g5_), (60, .bool false)] hf fun a hf => wpList_nil (hK21 _ _ ?_); refine c_condF (hf.g rfl) rfl ?_; refine wp_skip ?_; refine hK20 _ _ ?_; refine wp_seq_k fun K hK38 => ?_; refine wp_seq_k fun K hK39 => ?_; refine rg [0, 8] [(62, .slice A3_ m_.Handlers.length c4_), (63, .i (m_.Handlers.length : Int)), (64, .i 0)] [g5_, 8] (mc (blk_all (hm.e 0 rfl)) mn) hf fun a hf => hK39 _ _ ?_; obtain ⟨j278_, h, hj278_⟩ := Cin.seqR_s h
  refine c_blockJ (fun a w => Fr ⟨91, []⟩ [] a ∧ St W M0 X w [Ent.blk g5_ 74 [Str m_.Name, .bool m_.Static, .slice A1_ m_.Args.length c2_, .i m_.Returns.Kind, Str m_.Returns.Class, .i m_.Stack, .i m_.Locals, Str m_.Code, .slice A3_ m_.Handlers.length c4_]] [sl Cin.ty_Kind A1_ c2_ m_.Args, sl Cin.ty_Handler A3_ c4_ m_.Handlers] ∧ j278_ = (.go ())) (fun K hK40 => ?_) ?_
  · refine c_loop (fun (k3_ : Nat) a w => ∃ (n299_ : Int), Fr ⟨91, []⟩ [(62, .slice A3_ m_.Handlers.length c4_), (63, .i (m_.Handlers.length : Int)), (64, .i n299_)] a ∧ St W M0 X w [Ent.blk g5_ 74 [Str m_.Name, .bool m_.Static, .slice A1_ m_.Args.length c2_, .i m_.Returns.Kind, Str m_.Returns.Class, .i m_.Stack, .i m_.Locals, Str m_.Code, .slice A3_ m_.Handlers.length c4_]] [sl Cin.ty_Kind A1_ c2_ m_.Args, sl Cin.ty_Handler A3_ c4_ m_.Handlers] ∧ Cin.image_method_L3 F m_ k3_ n299_ = some j278_) F ⟨0, hf.sub ⟨rfl, rfl, rfl, trivial⟩, hm, h⟩ ?_ ?_
    · rintro a w ⟨n299_, hf, hm, h⟩; exact absurd h (by simp [Cin.image_method_L3])
    rintro k3_ a w ⟨n299_, hf, hm, h⟩ K hK41; rw [Cin.image_method_L3] at h; refine sr0 [] [(62, .slice A3_ m_.Handlers.length c4_), (63, .i (m_.Handlers.length : Int)), (64, .i n299_), (65, .bool (decide (n299_ < (m_.Handlers.length : Int))))] hf fun a hf => ?_; refine wp_seq_k fun K hK43 => ?_; refine cc (hf.g rfl) h (fun hb321_ h => ?_) (fun hb321_ h => ?_)
    · refine wp_skip ?_; refine hK43 _ _ ?_; refine wp_seq_k fun K hK44 => ?_; refine wp_block ?_; refine wp_seq_k fun K hK45 => ?_; refine c_region ?_; obtain ⟨x322_, hx323_, h⟩ := Cin.bind_s h; obtain ⟨hA324_, hi325_, _, rfl, hc326_⟩ := slice_at _ (hm.d 1 rfl) hx323_; refine sv (wN rfl) (y_idx Try.underlying72 Try.sizeOf96 rfl (hf.g rfl) (hf.g rfl) hA324_ hi325_) hf rfl rfl fun a hf => ?_; refine sp1 1 [0, 0] [(62, .slice A3_ m_.Handlers.length c4_), (63, .i (m_.Handlers.length : Int)), (64, .i n299_), (67, .agg #[.i x322_.From, .i x322_.To, .i x322_.At, Str x322_.Class])] [bO A3_, oO A3_ + (n299_).toNat * 4] (mc hc326_ mn) hf fun a hf => ?_; refine nnew (cs := [.i 0, .i 0, .i 0, Str []]) (wN rfl) (y_alloc Try.zeroValue96 rfl rfl) hf hm rfl rfl ?_; intro a g328_ w hv hf hm
      clear hv; refine sst (vs := [.i x322_.From, .i x322_.To, .i x322_.At, Str x322_.Class]) 0 hm rfl (wN rfl) rfl Try.sizeOf96 rfl rfl rfl rfl (hf.g rfl) (hf.g rfl) rfl ?_; intro w hm; simp only [List.set, lay, List.drop, List.length, List.cons_append, List.nil_append] at hm; refine wpList_nil ?_; refine hK45 _ _ ?_; refine wp_block ?_; refine wp_seq_k fun K hK46 => ?_; refine c_region ?_; refine sp1 2 [0, 3] [(6, .po g328_), (62, .slice A3_ m_.Handlers.length c4_), (63, .i (m_.Handlers.length : Int)), (64, .i n299_), (70, Str x322_.Class)] [g328_, 3] (mc (blk_all (hm.e 0 rfl)) mn) hf fun a hf => ?_; obtain ⟨r329_, hr330_, h⟩ := Cin.bind_s h; have hc := hm
      refine sc (vs := [Str x322_.Class]) (wN rfl) rfl Try.call86 ⟨(hf.g rfl), trivial⟩ (c_image_IsName ((hc.into 0).pick trivial) hr330_) hf rfl rfl ?_; rintro _ w ⟨rfl, hn⟩; refine ⟨_, rfl, ?_⟩; intro a hf; have hv : Ev [] _ w := hn.ev; have hm := hc.back 0 hn; dsimp only [List.drop, List.cons_append, List.nil_append, HAppend.hAppend, Append.append, List.append] at hm; clear hn hc; clear hv; refine sp0 2 [] [(6, .po g328_), (62, .slice A3_ m_.Handlers.length c4_), (63, .i (m_.Handlers.length : Int)), (64, .i n299_), (68, .bool (!r329_))] hf fun a hf => wpList_nil (hK46 _ _ ?_); refine cc (hf.g rfl) h (fun hb331_ h => ?_) (fun hb331_ h => ?_)
      · refine sr0 [] [(2, .i 1)] hf fun a hf => ?_; refine wp_ret ?_; obtain rfl := Option.some.inj h; obtain rfl := Option.some.inj (show some (_) = some _ from hj278_); refine x_retB (x_retB (x_retT (x_retT (x_retB (x_retT (x_retT ?_)))))); refine r_one Try.results88 hf rfl ?_; exact ⟨rfl, (hm.sel [] rfl rfl).pick trivial⟩
      refine wp_seq_k fun K hK48 => ?_; refine c_region ?_; refine sp1 2 [0, 0] [(6, .po g328_), (62, .slice A3_ m_.Handlers.length c4_), (63, .i (m_.Handlers.length : Int)), (64, .i n299_), (75, .i x322_.From)] [g328_, 0] (mc (blk_all (hm.e 0 rfl)) mn) hf fun a hf => ?_; obtain ⟨r332_, hr333_, h⟩ := Cin.bind_s h; have hc := hm; refine sc (vs := [.i x322_.From, .i 0, .i 200]) (wN rfl) rfl Try.call122 ⟨(hf.g rfl), (ec _ _), (ec _ _), trivial⟩ (c_image_within ((hc.into 0).pick trivial) hr333_) hf rfl rfl ?_; rintro _ w ⟨rfl, hn⟩; refine ⟨_, rfl, ?_⟩; intro a hf; have hv : Ev [] _ w := hn.ev; have hm := hc.back 0 hn; dsimp only [List.drop, List.cons_append, List.nil_append, HAppend.hAppend, Append.append, List.append] at hm; clear hn hc; clear hv
      refine sp0 2 [] [(6, .po g328_), (62, .slice A3_ m_.Handlers.length c4_), (63, .i (m_.Handlers.length : Int)), (64, .i n299_), (78, .bool (!r332_))] hf fun a hf => ?_; rcases Bool.eq_false_or_eq_true (!r332_) with hb334_ | hb334_
      · have h := Cin.cond_t hb334_ h; have hf := hf.bt 78 rfl hb334_; refine sp0 12 [1, 1, 1, 1, 1, 1, 1, 1, 1, 1] [(62, .slice A3_ m_.Handlers.length c4_), (63, .i (m_.Handlers.length : Int)), (64, .i n299_), (73, .bool true)] hf fun a hf => wpList_nil (hK48 _ _ ?_); refine c_condT (hf.g rfl) rfl ?_; refine sr0 [] [(2, .i 3)] hf fun a hf => ?_; refine wp_ret ?_; obtain rfl := Option.some.inj h; obtain rfl := Option.some.inj (show some (_) = some _ from hj278_); refine x_retB (x_retB (x_retT (x_retT (x_retB (x_retT (x_retT ?_)))))); refine r_one Try.results88 hf rfl ?_; exact ⟨rfl, (hm.sel [] rfl rfl).pick trivial⟩
      have h := Cin.cond_f hb334_ h; have hf := hf.bt 78 rfl hb334_; refine sp1 2 [1, 1, 0, 1] [(6, .po g328_), (62, .slice A3_ m_.Handlers.length c4_), (63, .i (m_.Handlers.length : Int)), (64, .i n299_), (78, .bool false), (80, .i x322_.To)] [g328_, 1] (mc (blk_all (hm.e 0 rfl)) mn) hf fun a hf => ?_; obtain ⟨r335_, hr336_, h⟩ := Cin.bind_s h; have hc := hm; refine sc (vs := [.i x322_.To, .i 0, .i 200]) (wantT hf rfl rfl rfl rfl) rfl Try.call122 ⟨(hf.g rfl), (ec _ _), (ec _ _), trivial⟩ (c_image_within ((hc.into 0).pick trivial) hr336_) hf rfl rfl ?_; rintro _ w ⟨rfl, hn⟩; refine ⟨_, rfl, ?_⟩; intro a hf; have hv : Ev [] _ w := hn.ev; have hm := hc.back 0 hn; dsimp only [List.drop, List.cons_append, List.nil_append, HAppend.hAppend, Append.append, List.append] at hm; clear hn hc; clear hv
      refine sp0 3 [1, 1] [(6, .po g328_), (62, .slice A3_ m_.Handlers.length c4_), (63, .i (m_.Handlers.length : Int)), (64, .i n299_), (84, .bool (!r335_))] hf fun a hf => ?_; rcases Bool.eq_false_or_eq_true (!r335_) with hb337_ | hb337_
      · have h := Cin.cond_t hb337_ h; have hf := hf.bt 84 rfl hb337_; refine sp0 6 [1, 1, 1, 1, 1] [(62, .slice A3_ m_.Handlers.length c4_), (63, .i (m_.Handlers.length : Int)), (64, .i n299_), (73, .bool true)] hf fun a hf => wpList_nil (hK48 _ _ ?_); refine c_condT (hf.g rfl) rfl ?_; refine sr0 [] [(2, .i 3)] hf fun a hf => ?_; refine wp_ret ?_; obtain rfl := Option.some.inj h; obtain rfl := Option.some.inj (show some (_) = some _ from hj278_); refine x_retB (x_retB (x_retT (x_retT (x_retB (x_retT (x_retT ?_)))))); refine r_one Try.results88 hf rfl ?_; exact ⟨rfl, (hm.sel [] rfl rfl).pick trivial⟩
      have h := Cin.cond_f hb337_ h; have hf := hf.bt 84 rfl hb337_; refine sp1 2 [1, 1, 0, 2] [(62, .slice A3_ m_.Handlers.length c4_), (63, .i (m_.Handlers.length : Int)), (64, .i n299_), (84, .bool false), (86, .i x322_.At)] [g328_, 2] (mc (blk_all (hm.e 0 rfl)) mn) hf fun a hf => ?_; obtain ⟨r338_, hr339_, h⟩ := Cin.bind_s h; have hc := hm; refine sc (vs := [.i x322_.At, .i 0, .i 200]) (wantT hf rfl rfl rfl rfl) rfl Try.call122 ⟨(hf.g rfl), (ec _ _), (ec _ _), trivial⟩ (c_image_within ((hc.into 0).pick trivial) hr339_) hf rfl rfl ?_; rintro _ w ⟨rfl, hn⟩; refine ⟨_, rfl, ?_⟩; intro a hf; have hv : Ev [] _ w := hn.ev; have hm := hc.back 0 hn; dsimp only [List.drop, List.cons_append, List.nil_append, HAppend.hAppend, Append.append, List.append] at hm; clear hn hc; clear hv
      refine sp0 3 [1, 1] [(62, .slice A3_ m_.Handlers.length c4_), (63, .i (m_.Handlers.length : Int)), (64, .i n299_), (73, .bool (!r338_))] hf fun a hf => wpList_nil (hK48 _ _ ?_); refine cc (hf.g rfl) h (fun hb340_ h => ?_) (fun hb340_ h => ?_)
      · refine sr0 [] [(2, .i 3)] hf fun a hf => ?_; refine wp_ret ?_; obtain rfl := Option.some.inj h; obtain rfl := Option.some.inj (show some (_) = some _ from hj278_); refine x_retB (x_retB (x_retT (x_retT (x_retB (x_retT (x_retT ?_)))))); refine r_one Try.results88 hf rfl ?_; exact ⟨rfl, (hm.sel [] rfl rfl).pick trivial⟩
      refine wp_skip ?_; refine hK44 _ _ ?_; refine rg0 [] [(62, .slice A3_ m_.Handlers.length c4_), (63, .i (m_.Handlers.length : Int)), (64, .i (Cin.w64 (n299_ + 1)))] hf fun a hf => ?_; exact hK41 _ _ ⟨Cin.w64 (n299_ + 1), hf.sub ⟨rfl, rfl, rfl, trivial⟩, (hm.sel [1] rfl rfl), h⟩
    refine wp_exit ?_; refine x_then (x_then (x_hit ?_)); exact hK40 _ _ ⟨hf.sub trivial, hm, (Option.some.inj h).symm⟩
  rintro a w ⟨hf, hm, hj⟩; subst j278_; have h := hj278_; clear hj278_; dsimp only [Cin.contR] at h; refine hK38 _ _ ?_; refine sr0 [] [(2, .i 0)] hf fun a hf => ?_; refine wp_ret ?_; obtain rfl := Option.some.inj h; refine r_one Try.results88 hf rfl ?_; exact ⟨rfl, (hm.sel [] rfl rfl).pick trivial⟩
theorem c_image_class {W : World} {X : List Nat} {F : Nat} {c_ : Cin.Class} {r : Int} {A1_ : Option Addr} {c2_ : Nat} {A3_ : Option Addr} {c4_ : Nat} (hm : St W (foots []) X W [] [sl Cin.ty_Field A1_ c2_ c_.Fields, sl Cin.ty_Method A3_ c4_ c_.Methods]) (h : Cin.image_class F c_ = some r) :
    Calls Try.prog 49 [.agg #[Str c_.Name, Str c_.Super, .slice A1_ c_.Fields.length c2_, .slice A3_ c_.Methods.length c4_]].toArray W (fun e w' => e = .returned (.i r) ∧ St W (foots []) X w' [] []) := by
  generalize hM0 : foots [] = M0 at hm ⊢; clear hM0; refine enter Try.func49 rfl Try.ntmps49 rfl ?_; intro a hf; rw [Cin.image_class] at h; refine wp_seq_k fun K hK1 => ?_; refine c_region ?_; refine nnew (cs := [Str c_.Name, Str c_.Super, .slice A1_ c_.Fields.length c2_, .slice A3_ c_.Methods.length c4_]) (wN rfl) (y_box rfl rfl (hf.g rfl)) hf hm rfl rfl ?_; intro a g5_ w hv hf hm; clear hv; refine sp0 1 [] [(1, .po g5_)] hf fun a hf => wpList_nil (hK1 _ _ ?_); refine wp_seq_k fun K hK2 => ?_; refine wp_block ?_; refine wp_seq_k fun K hK3 => ?_; refine c_region ?_; refine sp1 2 [0, 0] [(1, .po g5_), (10, Str c_.Name)] [g5_, 0] (mc (blk_all (hm.e 0 rfl)) mn) hf fun a hf => ?_; obtain ⟨r6_, hr7_, h⟩ := Cin.bind_s h; have hc := hm
  refine sc (vs := [Str c_.Name]) (wN rfl) rfl Try.call86 ⟨(hf.g rfl), trivial⟩ (c_image_IsName ((hc.into 0).pick trivial) hr7_) hf rfl rfl ?_; rintro _ w ⟨rfl, hn⟩; refine ⟨_, rfl, ?_⟩; intro a hf; have hv : Ev [] _ w := hn.ev; have hm := hc.back 0 hn; dsimp only [List.drop, List.cons_append, List.nil_append, HAppend.hAppend, Append.append, List.append] at hm; clear hn hc; clear hv; refine sp0 2 [] [(1, .po g5_), (13, .bool (!r6_))] hf fun a hf => ?_; rcases Bool.eq_false_or_eq_true (!r6_) with hb8_ | hb8_
  · have h := Cin.cond_t hb8_ h; have hf := hf.bt 13 rfl hb8_; refine sp0 11 [1, 1, 1, 1, 1, 1, 1, 1, 1, 1] [(1, .po g5_), (8, .bool true)] hf fun a hf => wpList_nil (hK3 _ _ ?_); refine c_condT (hf.g rfl) rfl ?_; refine sr0 [] [(2, .i 1)] hf fun a hf => ?_; refine wp_ret ?_; obtain rfl := Option.some.inj h; refine x_retB (x_retT ?_); refine r_one Try.results49 hf rfl ?_; exact ⟨rfl, (hm.sel [] rfl rfl).pick trivial⟩
  have h := Cin.cond_f hb8_ h; have hf := hf.bt 13 rfl hb8_; refine sp1 4 [1, 1, 0, 1, 1, 1] [(1, .po g5_), (13, .bool false), (17, .bool (!decide (c_.Super = [])))] [g5_, 1] (mc (blk_all (hm.e 0 rfl)) mn) hf fun a hf => ?_; rcases Bool.eq_false_or_eq_true (!decide (c_.Super = [])) with hb9_ | hb9_
  · have h := Cin.cond_t hb9_ h; have hf := hf.bt 17 rfl hb9_; refine sp1 2 [1, 1, 0, 1] [(1, .po g5_), (13, .bool false), (17, .bool true), (19, Str c_.Super)] [g5_, 1] (mc (blk_all (hm.e 0 rfl)) mn) hf fun a hf => ?_; obtain ⟨r10_, hr11_, h⟩ := Cin.bind_s h; have hc := hm; refine sc (vs := [Str c_.Super]) (wantT hf rfl rfl rfl rfl) rfl Try.call86 ⟨(hf.g rfl), trivial⟩ (c_image_IsName ((hc.into 0).pick trivial) hr11_) hf rfl rfl ?_; rintro _ w ⟨rfl, hn⟩; refine ⟨_, rfl, ?_⟩; intro a hf; have hv : Ev [] _ w := hn.ev; have hm := hc.back 0 hn; dsimp only [List.drop, List.cons_append, List.nil_append, HAppend.hAppend, Append.append, List.append] at hm; clear hn hc; clear hv; refine sp0 4 [1, 1, 1, 1] [(1, .po g5_), (8, .bool (!r10_))] hf fun a hf => wpList_nil (hK3 _ _ ?_)
    refine cc (hf.g rfl) h (fun hb12_ h => ?_) (fun hb12_ h => ?_)
    · refine sr0 [] [(2, .i 1)] hf fun a hf => ?_; refine wp_ret ?_; obtain rfl := Option.some.inj h; refine x_retB (x_retT ?_); refine r_one Try.results49 hf rfl ?_; exact ⟨rfl, (hm.sel [] rfl rfl).pick trivial⟩
    refine wp_seq_k fun K hK6 => ?_; refine rg [0, 2, 0, 0, 0, 3, 0, 0, 0] [(1, .po g5_), (24, .bool ((decide (6 < (c_.Fields.length : Int))) || (decide (8 < (c_.Methods.length : Int)))))] [g5_, 3, g5_, 2] (mc (blk_all (hm.e 0 rfl)) mn) hf fun a hf => hK6 _ _ ?_; refine cc (hf.g rfl) h (fun hb13_ h => ?_) (fun hb13_ h => ?_)
    · refine sr0 [] [(2, .i 2)] hf fun a hf => ?_; refine wp_ret ?_; obtain rfl := Option.some.inj h; refine x_retB (x_retT ?_); refine r_one Try.results49 hf rfl ?_; exact ⟨rfl, (hm.sel [] rfl rfl).pick trivial⟩
    refine wp_skip ?_; refine hK2 _ _ ?_; refine wp_seq_k fun K hK8 => ?_; refine wp_seq_k fun K hK9 => ?_; refine rg [0, 2] [(1, .po g5_), (36, .slice A1_ c_.Fields.length c2_), (37, .i (c_.Fields.length : Int)), (38, .i 0)] [g5_, 2] (mc (blk_all (hm.e 0 rfl)) mn) hf fun a hf => hK9 _ _ ?_; obtain ⟨j58_, h, hj58_⟩ := Cin.seqR_s h; refine c_blockJ (fun a w => Fr ⟨66, []⟩ [(1, .po g5_)] a ∧ St W M0 X w [Ent.blk g5_ 68 [Str c_.Name, Str c_.Super, .slice A1_ c_.Fields.length c2_, .slice A3_ c_.Methods.length c4_]] [sl Cin.ty_Field A1_ c2_ c_.Fields, sl Cin.ty_Method A3_ c4_ c_.Methods] ∧ j58_ = (.go ())) (fun K hK10 => ?_) ?_
    · refine c_loop (fun (k1_ : Nat) a w => ∃ (n73_ : Int), Fr ⟨66, []⟩ [(1, .po g5_), (36, .slice A1_ c_.Fields.length c2_), (37, .i (c_.Fields.length : Int)), (38, .i n73_)] a ∧ St W M0 X w [Ent.blk g5_ 68 [Str c_.Name, Str c_.Super, .slice A1_ c_.Fields.length c2_, .slice A3_ c_.Methods.length c4_]] [sl Cin.ty_Field A1_ c2_ c_.Fields, sl Cin.ty_Method A3_ c4_ c_.Methods] ∧ Cin.image_class_L1 F c_ k1_ n73_ = some j58_) F ⟨0, hf.sub ⟨rfl, rfl, rfl, rfl, trivial⟩, hm, h⟩ ?_ ?_
      · rintro a w ⟨n73_, hf, hm, h⟩; exact absurd h (by simp [Cin.image_class_L1])
      rintro k1_ a w ⟨n73_, hf, hm, h⟩ K hK11; rw [Cin.image_class_L1] at h; refine sr0 [] [(1, .po g5_), (36, .slice A1_ c_.Fields.length c2_), (37, .i (c_.Fields.length : Int)), (38, .i n73_), (39, .bool (decide (n73_ < (c_.Fields.length : Int))))] hf fun a hf => ?_; refine wp_seq_k fun K hK13 => ?_; refine cc (hf.g rfl) h (fun hb89_ h => ?_) (fun hb89_ h => ?_)
      · refine wp_skip ?_; refine hK13 _ _ ?_; refine wp_seq_k fun K hK14 => ?_; refine wp_block ?_; refine wp_seq_k fun K hK15 => ?_; refine c_region ?_; obtain ⟨x90_, hx91_, h⟩ := Cin.bind_s h; obtain ⟨hA92_, hi93_, _, rfl, hc94_⟩ := slice_at _ (hm.d 0 rfl) hx91_; refine sv (wN rfl) (y_idx Try.underlying65 Try.sizeOf89 rfl (hf.g rfl) (hf.g rfl) hA92_ hi93_) hf rfl rfl fun a hf => ?_; refine sp1 1 [0, 0] [(1, .po g5_), (36, .slice A1_ c_.Fields.length c2_), (37, .i (c_.Fields.length : Int)), (38, .i n73_), (41, .agg #[Str x90_.Name, .i x90_.Kind.Kind, Str x90_.Kind.Class])] [bO A1_, oO A1_ + (n73_).toNat * 3] (mc hc94_ mn) hf fun a hf => ?_; refine nnew (cs := [Str [], .i 0, Str []]) (wN rfl) (y_alloc Try.zeroValue89 rfl rfl) hf hm rfl rfl ?_; intro a g96_ w hv hf hm; clear hv
        refine sst (vs := [Str x90_.Name, .i x90_.Kind.Kind, Str x90_.Kind.Class]) 0 hm rfl (wN rfl) rfl Try.sizeOf89 rfl rfl rfl rfl (hf.g rfl) (hf.g rfl) rfl ?_; intro w hm; simp only [List.set, lay, List.drop, List.length, List.cons_append, List.nil_append] at hm; refine wpList_nil ?_; refine hK15 _ _ ?_; refine wp_block ?_; refine wp_seq_k fun K hK16 => ?_; refine c_region ?_; refine sp1 2 [0, 0] [(1, .po g5_), (4, .po g96_), (36, .slice A1_ c_.Fields.length c2_), (37, .i (c_.Fields.length : Int)), (38, .i n73_), (44, Str x90_.Name)] [g96_, 0] (mc (blk_all (hm.e 0 rfl)) mn) hf fun a hf => ?_; obtain ⟨r97_, hr98_, h⟩ := Cin.bind_s h; have hc := hm
        refine sc (vs := [Str x90_.Name]) (wN rfl) rfl Try.call86 ⟨(hf.g rfl), trivial⟩ (c_image_IsName ((hc.into 0).pick trivial) hr98_) hf rfl rfl ?_; rintro _ w ⟨rfl, hn⟩; refine ⟨_, rfl, ?_⟩; intro a hf; have hv : Ev [] _ w := hn.ev; have hm := hc.back 0 hn; dsimp only [List.drop, List.cons_append, List.nil_append, HAppend.hAppend, Append.append, List.append] at hm; clear hn hc; clear hv; refine sp0 2 [] [(1, .po g5_), (4, .po g96_), (36, .slice A1_ c_.Fields.length c2_), (37, .i (c_.Fields.length : Int)), (38, .i n73_), (42, .bool (!r97_))] hf fun a hf => wpList_nil (hK16 _ _ ?_); refine cc (hf.g rfl) h (fun hb99_ h => ?_) (fun hb99_ h => ?_)
        · refine sr0 [] [(2, .i 1)] hf fun a hf => ?_; refine wp_ret ?_; obtain rfl := Option.some.inj h; obtain rfl := Option.some.inj (show some (_) = some _ from hj58_); refine x_retB (x_retB (x_retT (x_retT (x_retB (x_retT (x_retT ?_)))))); refine r_one Try.results49 hf rfl ?_; exact ⟨rfl, (hm.sel [] rfl rfl).pick trivial⟩
        refine wp_seq_k fun K hK18 => ?_; refine c_region ?_; refine sp1 2 [0, 1] [(1, .po g5_), (36, .slice A1_ c_.Fields.length c2_), (37, .i (c_.Fields.length : Int)), (38, .i n73_), (49, .agg #[.i x90_.Kind.Kind, Str x90_.Kind.Class])] [g96_, 1] (mc (blk_all (hm.e 0 rfl)) mn) hf fun a hf => ?_; obtain ⟨r100_, hr101_, h⟩ := Cin.bind_s h; have hc := hm; refine sc (vs := [.agg #[.i x90_.Kind.Kind, Str x90_.Kind.Class]]) (wN rfl) rfl Try.call87 ⟨(hf.g rfl), trivial⟩ (c_image_isKind ((hc.into 0).pick trivial) hr101_) hf rfl rfl ?_; rintro _ w ⟨rfl, hn⟩; refine ⟨_, rfl, ?_⟩; intro a hf; have hv : Ev [] _ w := hn.ev; have hm := hc.back 0 hn; dsimp only [List.drop, List.cons_append, List.nil_append, HAppend.hAppend, Append.append, List.append] at hm; clear hn hc; clear hv
        refine sp0 2 [] [(1, .po g5_), (36, .slice A1_ c_.Fields.length c2_), (37, .i (c_.Fields.length : Int)), (38, .i n73_), (47, .bool (!r100_))] hf fun a hf => wpList_nil (hK18 _ _ ?_); refine cc (hf.g rfl) h (fun hb102_ h => ?_) (fun hb102_ h => ?_)
        · refine sr0 [] [(2, .i 7)] hf fun a hf => ?_; refine wp_ret ?_; obtain rfl := Option.some.inj h; obtain rfl := Option.some.inj (show some (_) = some _ from hj58_); refine x_retB (x_retB (x_retT (x_retT (x_retB (x_retT (x_retT ?_)))))); refine r_one Try.results49 hf rfl ?_; exact ⟨rfl, (hm.sel [] rfl rfl).pick trivial⟩
        refine wp_skip ?_; refine hK14 _ _ ?_; refine rg0 [] [(1, .po g5_), (36, .slice A1_ c_.Fields.length c2_), (37, .i (c_.Fields.length : Int)), (38, .i (Cin.w64 (n73_ + 1)))] hf fun a hf => ?_; exact hK11 _ _ ⟨Cin.w64 (n73_ + 1), hf.sub ⟨rfl, rfl, rfl, rfl, trivial⟩, (hm.sel [1] rfl rfl), h⟩
      refine wp_exit ?_; refine x_then (x_then (x_hit ?_)); exact hK10 _ _ ⟨hf.sub ⟨rfl, trivial⟩, hm, (Option.some.inj h).symm⟩
    rintro a w ⟨hf, hm, hj⟩; subst j58_; have h := hj58_; clear hj58_; dsimp only [Cin.contR] at h; refine hK8 _ _ ?_; refine wp_seq_k fun K hK20 => ?_; refine wp_seq_k fun K hK21 => ?_; refine rg [0, 3] [(54, .slice A3_ c_.Methods.length c4_), (55, .i (c_.Methods.length : Int)), (56, .i 0)] [g5_, 3] (mc (blk_all (hm.e 0 rfl)) mn) hf fun a hf => hK21 _ _ ?_; obtain ⟨j156_, h, hj156_⟩ := Cin.seqR_s h; refine c_blockJ (fun a w => Fr ⟨66, []⟩ [] a ∧ St W M0 X w [Ent.blk g5_ 68 [Str c_.Name, Str c_.Super, .slice A1_ c_.Fields.length c2_, .slice A3_ c_.Methods.length c4_]] [sl Cin.ty_Field A1_ c2_ c_.Fields, sl Cin.ty_Method A3_ c4_ c_.Methods] ∧ j156_ = (.go ())) (fun K hK22 => ?_) ?_
    · refine c_loop (fun (k2_ : Nat) a w => ∃ (n174_ : Int), Fr ⟨66, []⟩ [(54, .slice A3_ c_.Methods.length c4_), (55, .i (c_.Methods.length : Int)), (56, .i n174_)] a ∧ St W M0 X w [Ent.blk g5_ 68 [Str c_.Name, Str c_.Super, .slice A1_ c_.Fields.length c2_, .slice A3_ c_.Methods.length c4_]] [sl Cin.ty_Field A1_ c2_ c_.Fields, sl Cin.ty_Method A3_ c4_ c_.Methods] ∧ Cin.image_class_L2 F c_ k2_ n174_ = some j156_) F ⟨0, hf.sub ⟨rfl, rfl, rfl, trivial⟩, hm, h⟩ ?_ ?_
      · rintro a w ⟨n174_, hf, hm, h⟩; exact absurd h (by simp [Cin.image_class_L2])
      rintro k2_ a w ⟨n174_, hf, hm, h⟩ K hK23; rw [Cin.image_class_L2] at h; refine sr0 [] [(54, .slice A3_ c_.Methods.length c4_), (55, .i (c_.Methods.length : Int)), (56, .i n174_), (57, .bool (decide (n174_ < (c_.Methods.length : Int))))] hf fun a hf => ?_; refine wp_seq_k fun K hK25 => ?_; refine cc (hf.g rfl) h (fun hb193_ h => ?_) (fun hb193_ h => ?_)
      · refine wp_skip ?_; refine hK25 _ _ ?_; refine wp_seq_k fun K hK26 => ?_; refine wp_block ?_; refine wp_seq_k fun K hK27 => ?_; refine c_region ?_; obtain ⟨x194_, hx195_, h⟩ := Cin.bind_s h; obtain ⟨hA196_, hi197_, _, ⟨A199_, c200_, A201_, c202_, rfl, hd204_, hd205_⟩, hc198_⟩ := slice_at _ (hm.d 1 rfl) hx195_; have hm := hm.more (y := sl Cin.ty_Kind A199_ c200_ x194_.Args) hd204_; have hm := hm.more (y := sl Cin.ty_Handler A201_ c202_ x194_.Handlers) hd205_; refine sv (wN rfl) (y_idx Try.underlying66 Try.sizeOf74 rfl (hf.g rfl) (hf.g rfl) hA196_ hi197_) hf rfl rfl fun a hf => ?_
        refine sp1 1 [0, 0] [(54, .slice A3_ c_.Methods.length c4_), (55, .i (c_.Methods.length : Int)), (56, .i n174_), (59, .agg #[Str x194_.Name, .bool x194_.Static, .slice A199_ x194_.Args.length c200_, .i x194_.Returns.Kind, Str x194_.Returns.Class, .i x194_.Stack, .i x194_.Locals, Str x194_.Code, .slice A201_ x194_.Handlers.length c202_])] [bO A3_, oO A3_ + (n174_).toNat * 9] (mc hc198_ mn) hf fun a hf => ?_; refine nnew (cs := [Str [], .bool false, .slice none 0 0, .i 0, Str [], .i 0, .i 0, Str [], .slice none 0 0]) (wN rfl) (y_alloc Try.zeroValue74 rfl rfl) hf hm rfl rfl ?_; intro a g206_ w hv hf hm; clear hv
        refine sst (vs := [Str x194_.Name, .bool x194_.Static, .slice A199_ x194_.Args.length c200_, .i x194_.Returns.Kind, Str x194_.Returns.Class, .i x194_.Stack, .i x194_.Locals, Str x194_.Code, .slice A201_ x194_.Handlers.length c202_]) 0 hm rfl (wN rfl) rfl Try.sizeOf74 rfl rfl rfl rfl (hf.g rfl) (hf.g rfl) rfl ?_; intro w hm; simp only [List.set, lay, List.drop, List.length, List.cons_append, List.nil_append] at hm; refine wpList_nil ?_; refine hK27 _ _ ?_; refine wp_seq_k fun K hK28 => ?_; refine c_region ?_
        refine sp1 1 [0, 0] [(54, .slice A3_ c_.Methods.length c4_), (55, .i (c_.Methods.length : Int)), (56, .i n174_), (60, .agg #[Str x194_.Name, .bool x194_.Static, .slice A199_ x194_.Args.length c200_, .i x194_.Returns.Kind, Str x194_.Returns.Class, .i x194_.Stack, .i x194_.Locals, Str x194_.Code, .slice A201_ x194_.Handlers.length c202_])] [g206_, 0] (mc (blk_all (hm.e 0 rfl)) mn) hf fun a hf => ?_; obtain ⟨r207_, hr208_, h⟩ := Cin.bind_s h; have hc := hm
        refine sc (vs := [.agg #[Str x194_.Name, .bool x194_.Static, .slice A199_ x194_.Args.length c200_, .i x194_.Returns.Kind, Str x194_.Returns.Class, .i x194_.Stack, .i x194_.Locals, Str x194_.Code, .slice A201_ x194_.Handlers.length c202_]]) (wN rfl) rfl Try.call88 ⟨(hf.g rfl), trivial⟩ (c_image_method ((hc.into 0).pick ⟨⟨1, rfl⟩, ⟨0, rfl⟩, trivial⟩) hr208_) hf rfl rfl ?_; rintro _ w ⟨rfl, hn⟩; refine ⟨_, rfl, ?_⟩; intro a hf; have hv : Ev [] _ w := hn.ev; have hm := hc.back 0 hn; dsimp only [List.drop, List.cons_append, List.nil_append, HAppend.hAppend, Append.append, List.append] at hm; clear hn hc; clear hv; refine sp0 1 [] [(7, .i r207_), (54, .slice A3_ c_.Methods.length c4_), (55, .i (c_.Methods.length : Int)), (56, .i n174_)] hf fun a hf => wpList_nil (hK28 _ _ ?_); refine wp_seq_k fun K hK29 => ?_
        refine rg0 [] [(7, .i r207_), (54, .slice A3_ c_.Methods.length c4_), (55, .i (c_.Methods.length : Int)), (56, .i n174_), (63, .bool (!decide (r207_ = 0)))] hf fun a hf => hK29 _ _ ?_; refine cc (hf.g rfl) h (fun hb209_ h => ?_) (fun hb209_ h => ?_)
        · refine sr0 [] [(2, .i r207_)] hf fun a hf => ?_; refine wp_ret ?_; obtain rfl := Option.some.inj h; obtain rfl := Option.some.inj (show some (_) = some _ from hj156_); refine x_retB (x_retT (x_retT (x_retB (x_retT (x_retT ?_))))); refine r_one Try.results49 hf rfl ?_; exact ⟨rfl, (hm.sel [] rfl rfl).pick trivial⟩
        refine wp_skip ?_; refine hK26 _ _ ?_; refine rg0 [] [(54, .slice A3_ c_.Methods.length c4_), (55, .i (c_.Methods.length : Int)), (56, .i (Cin.w64 (n174_ + 1)))] hf fun a hf => ?_; exact hK23 _ _ ⟨Cin.w64 (n174_ + 1), hf.sub ⟨rfl, rfl, rfl, trivial⟩, (hm.sel [1] rfl rfl).pick ⟨⟨2, rfl⟩, ⟨3, rfl⟩, trivial⟩, h⟩
      refine wp_exit ?_; refine x_then (x_then (x_hit ?_)); exact hK22 _ _ ⟨hf.sub trivial, hm, (Option.some.inj h).symm⟩
    rintro a w ⟨hf, hm, hj⟩; subst j156_; have h := hj156_; clear hj156_; dsimp only [Cin.contR] at h; refine hK20 _ _ ?_; refine sr0 [] [(2, .i 0)] hf fun a hf => ?_; refine wp_ret ?_; obtain rfl := Option.some.inj h; refine r_one Try.results49 hf rfl ?_; exact ⟨rfl, (hm.sel [] rfl rfl).pick trivial⟩
  have h := Cin.cond_f hb9_ h; have hf := hf.bt 17 rfl hb9_; refine sp0 7 [1, 1, 1, 1, 1, 1, 1] [(1, .po g5_), (8, .bool false)] hf fun a hf => wpList_nil (hK3 _ _ ?_); refine c_condF (hf.g rfl) rfl ?_; refine wp_seq_k fun K hK32 => ?_; refine rg [0, 2, 0, 0, 0, 3, 0, 0, 0] [(1, .po g5_), (24, .bool ((decide (6 < (c_.Fields.length : Int))) || (decide (8 < (c_.Methods.length : Int)))))] [g5_, 3, g5_, 2] (mc (blk_all (hm.e 0 rfl)) mn) hf fun a hf => hK32 _ _ ?_; refine cc (hf.g rfl) h (fun hb210_ h => ?_) (fun hb210_ h => ?_)
  · refine sr0 [] [(2, .i 2)] hf fun a hf => ?_; refine wp_ret ?_; obtain rfl := Option.some.inj h; refine x_retB (x_retT ?_); refine r_one Try.results49 hf rfl ?_; exact ⟨rfl, (hm.sel [] rfl rfl).pick trivial⟩
  refine wp_skip ?_; refine hK2 _ _ ?_; refine wp_seq_k fun K hK34 => ?_; refine wp_seq_k fun K hK35 => ?_; refine rg [0, 2] [(1, .po g5_), (36, .slice A1_ c_.Fields.length c2_), (37, .i (c_.Fields.length : Int)), (38, .i 0)] [g5_, 2] (mc (blk_all (hm.e 0 rfl)) mn) hf fun a hf => hK35 _ _ ?_; obtain ⟨j255_, h, hj255_⟩ := Cin.seqR_s h; refine c_blockJ (fun a w => Fr ⟨66, []⟩ [(1, .po g5_)] a ∧ St W M0 X w [Ent.blk g5_ 68 [Str c_.Name, Str c_.Super, .slice A1_ c_.Fields.length c2_, .slice A3_ c_.Methods.length c4_]] [sl Cin.ty_Field A1_ c2_ c_.Fields, sl Cin.ty_Method A3_ c4_ c_.Methods] ∧ j255_ = (.go ())) (fun K hK36 => ?_) ?_
  · refine c_loop (fun (k3_ : Nat) a w => ∃ (n270_ : Int), Fr ⟨66, []⟩ [(1, .po g5_), (36, .slice A1_ c_.Fields.length c2_), (37, .i (c_.Fields.length : Int)), (38, .i n270_)] a ∧ St W M0 X w [Ent.blk g5_ 68 [Str c_.Name, Str c_.Super, .slice A1_ c_.Fields.length c2_, .slice A3_ c_.Methods.length c4_]] [sl Cin.ty_Field A1_ c2_ c_.Fields, sl Cin.ty_Method A3_ c4_ c_.Methods] ∧ Cin.image_class_L3 F c_ k3_ n270_ = some j255_) F ⟨0, hf.sub ⟨rfl, rfl, rfl, rfl, trivial⟩, hm, h⟩ ?_ ?_
    · rintro a w ⟨n270_, hf, hm, h⟩; exact absurd h (by simp [Cin.image_class_L3])
    rintro k3_ a w ⟨n270_, hf, hm, h⟩ K hK37; rw [Cin.image_class_L3] at h; refine sr0 [] [(1, .po g5_), (36, .slice A1_ c_.Fields.length c2_), (37, .i (c_.Fields.length : Int)), (38, .i n270_), (39, .bool (decide (n270_ < (c_.Fields.length : Int))))] hf fun a hf => ?_; refine wp_seq_k fun K hK39 => ?_; refine cc (hf.g rfl) h (fun hb286_ h => ?_) (fun hb286_ h => ?_)
    · refine wp_skip ?_; refine hK39 _ _ ?_; refine wp_seq_k fun K hK40 => ?_; refine wp_block ?_; refine wp_seq_k fun K hK41 => ?_; refine c_region ?_; obtain ⟨x287_, hx288_, h⟩ := Cin.bind_s h; obtain ⟨hA289_, hi290_, _, rfl, hc291_⟩ := slice_at _ (hm.d 0 rfl) hx288_; refine sv (wN rfl) (y_idx Try.underlying65 Try.sizeOf89 rfl (hf.g rfl) (hf.g rfl) hA289_ hi290_) hf rfl rfl fun a hf => ?_; refine sp1 1 [0, 0] [(1, .po g5_), (36, .slice A1_ c_.Fields.length c2_), (37, .i (c_.Fields.length : Int)), (38, .i n270_), (41, .agg #[Str x287_.Name, .i x287_.Kind.Kind, Str x287_.Kind.Class])] [bO A1_, oO A1_ + (n270_).toNat * 3] (mc hc291_ mn) hf fun a hf => ?_; refine nnew (cs := [Str [], .i 0, Str []]) (wN rfl) (y_alloc Try.zeroValue89 rfl rfl) hf hm rfl rfl ?_; intro a g293_ w hv hf hm
      clear hv; refine sst (vs := [Str x287_.Name, .i x287_.Kind.Kind, Str x287_.Kind.Class]) 0 hm rfl (wN rfl) rfl Try.sizeOf89 rfl rfl rfl rfl (hf.g rfl) (hf.g rfl) rfl ?_; intro w hm; simp only [List.set, lay, List.drop, List.length, List.cons_append, List.nil_append] at hm; refine wpList_nil ?_; refine hK41 _ _ ?_; refine wp_block ?_; refine wp_seq_k fun K hK42 => ?_; refine c_region ?_; refine sp1 2 [0, 0] [(1, .po g5_), (4, .po g293_), (36, .slice A1_ c_.Fields.length c2_), (37, .i (c_.Fields.length : Int)), (38, .i n270_), (44, Str x287_.Name)] [g293_, 0] (mc (blk_all (hm.e 0 rfl)) mn) hf fun a hf => ?_; obtain ⟨r294_, hr295_, h⟩ := Cin.bind_s h; have hc := hm
      refine sc (vs := [Str x287_.Name]) (wN rfl) rfl Try.call86 ⟨(hf.g rfl), trivial⟩ (c_image_IsName ((hc.into 0).pick trivial) hr295_) hf rfl rfl ?_; rintro _ w ⟨rfl, hn⟩; refine ⟨_, rfl, ?_⟩; intro a hf; have hv : Ev [] _ w := hn.ev; have hm := hc.back 0 hn; dsimp only [List.drop, List.cons_append, List.nil_append, HAppend.hAppend, Append.append, List.append] at hm; clear hn hc; clear hv; refine sp0 2 [] [(1, .po g5_), (4, .po g293_), (36, .slice A1_ c_.Fields.length c2_), (37, .i (c_.Fields.length : Int)), (38, .i n270_), (42, .bool (!r294_))] hf fun a hf => wpList_nil (hK42 _ _ ?_); refine cc (hf.g rfl) h (fun hb296_ h => ?_) (fun hb296_ h => ?_)
      · refine sr0 [] [(2, .i 1)] hf fun a hf => ?_; refine wp_ret ?_; obtain rfl := Option.some.inj h; obtain rfl := Option.some.inj (show some (_) = some _ from hj255_); refine x_retB (x_retB (x_retT (x_retT (x_retB (x_retT (x_retT ?_)))))); refine r_one Try.results49 hf rfl ?_; exact ⟨rfl, (hm.sel [] rfl rfl).pick trivial⟩
      refine wp_seq_k fun K hK44 => ?_; refine c_region ?_; refine sp1 2 [0, 1] [(1, .po g5_), (36, .slice A1_ c_.Fields.length c2_), (37, .i (c_.Fields.length : Int)), (38, .i n270_), (49, .agg #[.i x287_.Kind.Kind, Str x287_.Kind.Class])] [g293_, 1] (mc (blk_all (hm.e 0 rfl)) mn) hf fun a hf => ?_; obtain ⟨r297_, hr298_, h⟩ := Cin.bind_s h; have hc := hm; refine sc (vs := [.agg #[.i x287_.Kind.Kind, Str x287_.Kind.Class]]) (wN rfl) rfl Try.call87 ⟨(hf.g rfl), trivial⟩ (c_image_isKind ((hc.into 0).pick trivial) hr298_) hf rfl rfl ?_; rintro _ w ⟨rfl, hn⟩; refine ⟨_, rfl, ?_⟩; intro a hf; have hv : Ev [] _ w := hn.ev; have hm := hc.back 0 hn; dsimp only [List.drop, List.cons_append, List.nil_append, HAppend.hAppend, Append.append, List.append] at hm; clear hn hc; clear hv
      refine sp0 2 [] [(1, .po g5_), (36, .slice A1_ c_.Fields.length c2_), (37, .i (c_.Fields.length : Int)), (38, .i n270_), (47, .bool (!r297_))] hf fun a hf => wpList_nil (hK44 _ _ ?_); refine cc (hf.g rfl) h (fun hb299_ h => ?_) (fun hb299_ h => ?_)
      · refine sr0 [] [(2, .i 7)] hf fun a hf => ?_; refine wp_ret ?_; obtain rfl := Option.some.inj h; obtain rfl := Option.some.inj (show some (_) = some _ from hj255_); refine x_retB (x_retB (x_retT (x_retT (x_retB (x_retT (x_retT ?_)))))); refine r_one Try.results49 hf rfl ?_; exact ⟨rfl, (hm.sel [] rfl rfl).pick trivial⟩
      refine wp_skip ?_; refine hK40 _ _ ?_; refine rg0 [] [(1, .po g5_), (36, .slice A1_ c_.Fields.length c2_), (37, .i (c_.Fields.length : Int)), (38, .i (Cin.w64 (n270_ + 1)))] hf fun a hf => ?_; exact hK37 _ _ ⟨Cin.w64 (n270_ + 1), hf.sub ⟨rfl, rfl, rfl, rfl, trivial⟩, (hm.sel [1] rfl rfl), h⟩
    refine wp_exit ?_; refine x_then (x_then (x_hit ?_)); exact hK36 _ _ ⟨hf.sub ⟨rfl, trivial⟩, hm, (Option.some.inj h).symm⟩
  rintro a w ⟨hf, hm, hj⟩; subst j255_; have h := hj255_; clear hj255_; dsimp only [Cin.contR] at h; refine hK34 _ _ ?_; refine wp_seq_k fun K hK46 => ?_; refine wp_seq_k fun K hK47 => ?_; refine rg [0, 3] [(54, .slice A3_ c_.Methods.length c4_), (55, .i (c_.Methods.length : Int)), (56, .i 0)] [g5_, 3] (mc (blk_all (hm.e 0 rfl)) mn) hf fun a hf => hK47 _ _ ?_; obtain ⟨j353_, h, hj353_⟩ := Cin.seqR_s h; refine c_blockJ (fun a w => Fr ⟨66, []⟩ [] a ∧ St W M0 X w [Ent.blk g5_ 68 [Str c_.Name, Str c_.Super, .slice A1_ c_.Fields.length c2_, .slice A3_ c_.Methods.length c4_]] [sl Cin.ty_Field A1_ c2_ c_.Fields, sl Cin.ty_Method A3_ c4_ c_.Methods] ∧ j353_ = (.go ())) (fun K hK48 => ?_) ?_
  · refine c_loop (fun (k4_ : Nat) a w => ∃ (n371_ : Int), Fr ⟨66, []⟩ [(54, .slice A3_ c_.Methods.length c4_), (55, .i (c_.Methods.length : Int)), (56, .i n371_)] a ∧ St W M0 X w [Ent.blk g5_ 68 [Str c_.Name, Str c_.Super, .slice A1_ c_.Fields.length c2_, .slice A3_ c_.Methods.length c4_]] [sl Cin.ty_Field A1_ c2_ c_.Fields, sl Cin.ty_Method A3_ c4_ c_.Methods] ∧ Cin.image_class_L4 F c_ k4_ n371_ = some j353_) F ⟨0, hf.sub ⟨rfl, rfl, rfl, trivial⟩, hm, h⟩ ?_ ?_
    · rintro a w ⟨n371_, hf, hm, h⟩; exact absurd h (by simp [Cin.image_class_L4])
    rintro k4_ a w ⟨n371_, hf, hm, h⟩ K hK49; rw [Cin.image_class_L4] at h; refine sr0 [] [(54, .slice A3_ c_.Methods.length c4_), (55, .i (c_.Methods.length : Int)), (56, .i n371_), (57, .bool (decide (n371_ < (c_.Methods.length : Int))))] hf fun a hf => ?_; refine wp_seq_k fun K hK51 => ?_; refine cc (hf.g rfl) h (fun hb390_ h => ?_) (fun hb390_ h => ?_)
    · refine wp_skip ?_; refine hK51 _ _ ?_; refine wp_seq_k fun K hK52 => ?_; refine wp_block ?_; refine wp_seq_k fun K hK53 => ?_; refine c_region ?_; obtain ⟨x391_, hx392_, h⟩ := Cin.bind_s h; obtain ⟨hA393_, hi394_, _, ⟨A396_, c397_, A398_, c399_, rfl, hd401_, hd402_⟩, hc395_⟩ := slice_at _ (hm.d 1 rfl) hx392_; have hm := hm.more (y := sl Cin.ty_Kind A396_ c397_ x391_.Args) hd401_; have hm := hm.more (y := sl Cin.ty_Handler A398_ c399_ x391_.Handlers) hd402_; refine sv (wN rfl) (y_idx Try.underlying66 Try.sizeOf74 rfl (hf.g rfl) (hf.g rfl) hA393_ hi394_) hf rfl rfl fun a hf => ?_
      refine sp1 1 [0, 0] [(54, .slice A3_ c_.Methods.length c4_), (55, .i (c_.Methods.length : Int)), (56, .i n371_), (59, .agg #[Str x391_.Name, .bool x391_.Static, .slice A396_ x391_.Args.length c397_, .i x391_.Returns.Kind, Str x391_.Returns.Class, .i x391_.Stack, .i x391_.Locals, Str x391_.Code, .slice A398_ x391_.Handlers.length c399_])] [bO A3_, oO A3_ + (n371_).toNat * 9] (mc hc395_ mn) hf fun a hf => ?_; refine nnew (cs := [Str [], .bool false, .slice none 0 0, .i 0, Str [], .i 0, .i 0, Str [], .slice none 0 0]) (wN rfl) (y_alloc Try.zeroValue74 rfl rfl) hf hm rfl rfl ?_; intro a g403_ w hv hf hm; clear hv
      refine sst (vs := [Str x391_.Name, .bool x391_.Static, .slice A396_ x391_.Args.length c397_, .i x391_.Returns.Kind, Str x391_.Returns.Class, .i x391_.Stack, .i x391_.Locals, Str x391_.Code, .slice A398_ x391_.Handlers.length c399_]) 0 hm rfl (wN rfl) rfl Try.sizeOf74 rfl rfl rfl rfl (hf.g rfl) (hf.g rfl) rfl ?_; intro w hm; simp only [List.set, lay, List.drop, List.length, List.cons_append, List.nil_append] at hm; refine wpList_nil ?_; refine hK53 _ _ ?_; refine wp_seq_k fun K hK54 => ?_; refine c_region ?_
      refine sp1 1 [0, 0] [(54, .slice A3_ c_.Methods.length c4_), (55, .i (c_.Methods.length : Int)), (56, .i n371_), (60, .agg #[Str x391_.Name, .bool x391_.Static, .slice A396_ x391_.Args.length c397_, .i x391_.Returns.Kind, Str x391_.Returns.Class, .i x391_.Stack, .i x391_.Locals, Str x391_.Code, .slice A398_ x391_.Handlers.length c399_])] [g403_, 0] (mc (blk_all (hm.e 0 rfl)) mn) hf fun a hf => ?_; obtain ⟨r404_, hr405_, h⟩ := Cin.bind_s h; have hc := hm
      refine sc (vs := [.agg #[Str x391_.Name, .bool x391_.Static, .slice A396_ x391_.Args.length c397_, .i x391_.Returns.Kind, Str x391_.Returns.Class, .i x391_.Stack, .i x391_.Locals, Str x391_.Code, .slice A398_ x391_.Handlers.length c399_]]) (wN rfl) rfl Try.call88 ⟨(hf.g rfl), trivial⟩ (c_image_method ((hc.into 0).pick ⟨⟨1, rfl⟩, ⟨0, rfl⟩, trivial⟩) hr405_) hf rfl rfl ?_; rintro _ w ⟨rfl, hn⟩; refine ⟨_, rfl, ?_⟩; intro a hf; have hv : Ev [] _ w := hn.ev; have hm := hc.back 0 hn; dsimp only [List.drop, List.cons_append, List.nil_append, HAppend.hAppend, Append.append, List.append] at hm; clear hn hc; clear hv; refine sp0 1 [] [(7, .i r404_), (54, .slice A3_ c_.Methods.length c4_), (55, .i (c_.Methods.length : Int)), (56, .i n371_)] hf fun a hf => wpList_nil (hK54 _ _ ?_); refine wp_seq_k fun K hK55 => ?_
      refine rg0 [] [(7, .i r404_), (54, .slice A3_ c_.Methods.length c4_), (55, .i (c_.Methods.length : Int)), (56, .i n371_), (63, .bool (!decide (r404_ = 0)))] hf fun a hf => hK55 _ _ ?_; refine cc (hf.g rfl) h (fun hb406_ h => ?_) (fun hb406_ h => ?_)
      · refine sr0 [] [(2, .i r404_)] hf fun a hf => ?_; refine wp_ret ?_; obtain rfl := Option.some.inj h; obtain rfl := Option.some.inj (show some (_) = some _ from hj353_); refine x_retB (x_retT (x_retT (x_retB (x_retT (x_retT ?_))))); refine r_one Try.results49 hf rfl ?_; exact ⟨rfl, (hm.sel [] rfl rfl).pick trivial⟩
      refine wp_skip ?_; refine hK52 _ _ ?_; refine rg0 [] [(54, .slice A3_ c_.Methods.length c4_), (55, .i (c_.Methods.length : Int)), (56, .i (Cin.w64 (n371_ + 1)))] hf fun a hf => ?_; exact hK49 _ _ ⟨Cin.w64 (n371_ + 1), hf.sub ⟨rfl, rfl, rfl, trivial⟩, (hm.sel [1] rfl rfl).pick ⟨⟨2, rfl⟩, ⟨3, rfl⟩, trivial⟩, h⟩
    refine wp_exit ?_; refine x_then (x_then (x_hit ?_)); exact hK48 _ _ ⟨hf.sub trivial, hm, (Option.some.inj h).symm⟩
  rintro a w ⟨hf, hm, hj⟩; subst j353_; have h := hj353_; clear hj353_; dsimp only [Cin.contR] at h; refine hK46 _ _ ?_; refine sr0 [] [(2, .i 0)] hf fun a hf => ?_; refine wp_ret ?_; obtain rfl := Option.some.inj h; refine r_one Try.results49 hf rfl ?_; exact ⟨rfl, (hm.sel [] rfl rfl).pick trivial⟩
theorem c_image_Check {W : World} {X : List Nat} {F : Nat} {l_ : List Cin.Class} {r : Int} {A1_ : Option Addr} {c2_ : Nat} (hm : St W (foots []) X W [] [sl Cin.ty_Class A1_ c2_ l_]) (h : Cin.image_Check F l_ = some r) :
    Calls Try.prog 16 [.slice A1_ l_.length c2_].toArray W (fun e w' => e = .returned (.i r) ∧ St W (foots []) X w' [] []) := by
  generalize hM0 : foots [] = M0 at hm ⊢; clear hM0; refine enter Try.func16 rfl Try.ntmps16 rfl ?_; intro a hf; rw [Cin.image_Check] at h; refine sr0 [] [(0, .slice A1_ l_.length c2_)] hf fun a hf => ?_; refine wp_seq_k fun K hK2 => ?_; refine sr0 [] [(0, .slice A1_ l_.length c2_), (8, .bool (decide (10 < (l_.length : Int))))] hf fun a hf => ?_; refine cc (hf.g rfl) h (fun hb3_ h => ?_) (fun hb3_ h => ?_)
  · refine sr0 [] [(2, .i 2)] hf fun a hf => ?_; refine wp_ret ?_; obtain rfl := Option.some.inj h; refine x_retT ?_; refine r_one Try.results16 hf rfl ?_; exact ⟨rfl, (hm.sel [] rfl rfl).pick trivial⟩
  refine wp_skip ?_; refine hK2 _ _ ?_; refine wp_seq_k fun K hK5 => ?_; refine sr0 [] [(9, .slice A1_ l_.length c2_), (10, .i (l_.length : Int)), (11, .i 0)] hf fun a hf => ?_; obtain ⟨j57_, h, hj57_⟩ := Cin.seqR_s h; refine c_blockJ (fun a w => Fr ⟨21, []⟩ [] a ∧ St W M0 X w [] [sl Cin.ty_Class A1_ c2_ l_] ∧ j57_ = (.go ())) (fun K hK7 => ?_) ?_
  · refine c_loop (fun (k1_ : Nat) a w => ∃ (n75_ : Int), Fr ⟨21, []⟩ [(9, .slice A1_ l_.length c2_), (10, .i (l_.length : Int)), (11, .i n75_)] a ∧ St W M0 X w [] [sl Cin.ty_Class A1_ c2_ l_] ∧ Cin.image_Check_L1 F l_ k1_ n75_ = some j57_) F ⟨0, hf.sub ⟨rfl, rfl, rfl, trivial⟩, hm, h⟩ ?_ ?_
    · rintro a w ⟨n75_, hf, hm, h⟩; exact absurd h (by simp [Cin.image_Check_L1])
    rintro k1_ a w ⟨n75_, hf, hm, h⟩ K hK8; rw [Cin.image_Check_L1] at h; refine sr0 [] [(9, .slice A1_ l_.length c2_), (10, .i (l_.length : Int)), (11, .i n75_), (12, .bool (decide (n75_ < (l_.length : Int))))] hf fun a hf => ?_; refine wp_seq_k fun K hK10 => ?_; refine cc (hf.g rfl) h (fun hb94_ h => ?_) (fun hb94_ h => ?_)
    · refine wp_skip ?_; refine hK10 _ _ ?_; refine wp_seq_k fun K hK11 => ?_; refine wp_block ?_; refine wp_seq_k fun K hK12 => ?_; refine c_region ?_; obtain ⟨x95_, hx96_, h⟩ := Cin.bind_s h; obtain ⟨hA97_, hi98_, _, ⟨A100_, c101_, A102_, c103_, rfl, hd105_, hd106_⟩, hc99_⟩ := slice_at _ (hm.d 0 rfl) hx96_; have hm := hm.more (y := sl Cin.ty_Field A100_ c101_ x95_.Fields) hd105_; have hm := hm.more (y := sl Cin.ty_Method A102_ c103_ x95_.Methods) hd106_; refine sv (wN rfl) (y_idx Try.underlying22 Try.sizeOf68 rfl (hf.g rfl) (hf.g rfl) hA97_ hi98_) hf rfl rfl fun a hf => ?_
      refine sp1 1 [0, 0] [(9, .slice A1_ l_.length c2_), (10, .i (l_.length : Int)), (11, .i n75_), (14, .agg #[Str x95_.Name, Str x95_.Super, .slice A100_ x95_.Fields.length c101_, .slice A102_ x95_.Methods.length c103_])] [bO A1_, oO A1_ + (n75_).toNat * 4] (mc hc99_ mn) hf fun a hf => ?_; refine nnew (cs := [Str [], Str [], .slice none 0 0, .slice none 0 0]) (wN rfl) (y_alloc Try.zeroValue68 rfl rfl) hf hm rfl rfl ?_; intro a g107_ w hv hf hm; clear hv; refine sst (vs := [Str x95_.Name, Str x95_.Super, .slice A100_ x95_.Fields.length c101_, .slice A102_ x95_.Methods.length c103_]) 0 hm rfl (wN rfl) rfl Try.sizeOf68 rfl rfl rfl rfl (hf.g rfl) (hf.g rfl) rfl ?_; intro w hm; simp only [List.set, lay, List.drop, List.length, List.cons_append, List.nil_append] at hm; refine wpList_nil ?_; refine hK12 _ _ ?_
      refine wp_seq_k fun K hK13 => ?_; refine c_region ?_; refine sp1 1 [0, 0] [(9, .slice A1_ l_.length c2_), (10, .i (l_.length : Int)), (11, .i n75_), (15, .agg #[Str x95_.Name, Str x95_.Super, .slice A100_ x95_.Fields.length c101_, .slice A102_ x95_.Methods.length c103_])] [g107_, 0] (mc (blk_all (hm.e 0 rfl)) mn) hf fun a hf => ?_; obtain ⟨r108_, hr109_, h⟩ := Cin.bind_s h; have hc := hm; refine sc (vs := [.agg #[Str x95_.Name, Str x95_.Super, .slice A100_ x95_.Fields.length c101_, .slice A102_ x95_.Methods.length c103_]]) (wN rfl) rfl Try.call49 ⟨(hf.g rfl), trivial⟩ (c_image_class ((hc.into 0).pick ⟨⟨1, rfl⟩, ⟨0, rfl⟩, trivial⟩) hr109_) hf rfl rfl ?_; rintro _ w ⟨rfl, hn⟩; refine ⟨_, rfl, ?_⟩; intro a hf; have hv : Ev [] _ w := hn.ev; have hm := hc.back 0 hn
      dsimp only [List.drop, List.cons_append, List.nil_append, HAppend.hAppend, Append.append, List.append] at hm; clear hn hc; clear hv; refine sp0 1 [] [(5, .i r108_), (9, .slice A1_ l_.length c2_), (10, .i (l_.length : Int)), (11, .i n75_)] hf fun a hf => wpList_nil (hK13 _ _ ?_); refine sr0 [] [(5, .i r108_), (9, .slice A1_ l_.length c2_), (10, .i (l_.length : Int)), (11, .i n75_), (18, .bool (!decide (r108_ = 0)))] hf fun a hf => ?_; refine cc (hf.g rfl) h (fun hb110_ h => ?_) (fun hb110_ h => ?_)
      · refine sr0 [] [(2, .i r108_)] hf fun a hf => ?_; refine wp_ret ?_; obtain rfl := Option.some.inj h; obtain rfl := Option.some.inj (show some (_) = some _ from hj57_); refine x_retB (x_retT (x_retT (x_retB (x_retT (x_retT ?_))))); refine r_one Try.results16 hf rfl ?_; exact ⟨rfl, (hm.sel [] rfl rfl).pick trivial⟩
      refine wp_skip ?_; refine hK11 _ _ ?_; refine rg0 [] [(9, .slice A1_ l_.length c2_), (10, .i (l_.length : Int)), (11, .i (Cin.w64 (n75_ + 1)))] hf fun a hf => ?_; exact hK8 _ _ ⟨Cin.w64 (n75_ + 1), hf.sub ⟨rfl, rfl, rfl, trivial⟩, (hm.sel [] rfl rfl).pick ⟨⟨2, rfl⟩, trivial⟩, h⟩
    refine wp_exit ?_; refine x_then (x_then (x_hit ?_)); exact hK7 _ _ ⟨hf.sub trivial, hm, (Option.some.inj h).symm⟩
  rintro a w ⟨hf, hm, hj⟩; subst j57_; have h := hj57_; clear hj57_; dsimp only [Cin.contR] at h; refine hK5 _ _ ?_; refine sr0 [] [(2, .i 0)] hf fun a hf => ?_; refine wp_ret ?_; obtain rfl := Option.some.inj h; refine r_one Try.results16 hf rfl ?_; exact ⟨rfl, (hm.sel [] rfl rfl).pick trivial⟩
end Go.Proofs.Ytfbkanhgjpdohaa
namespace Cin
def R_SameKinds_L1 (a_ : List Kind) (b_ : List Kind) : Nat → Int → Option (Way (Bool) (Unit))
  | 0, _ => none
  | k1_ + 1, n65_ =>
    cond (decide (n65_ < (a_.length : Int))) ((idx a_ n65_).bind fun x82_ =>
    (idx b_ n65_).bind fun x88_ =>
    cond (!decide (x82_ = x88_)) (some (.out false)) (R_SameKinds_L1 a_ b_ k1_ (w64 (n65_ + 1)))) (some (.go ()))
def R_SameKinds (F : Nat) (a_ : List Kind) (b_ : List Kind) : Option (Bool) :=
  cond (!decide ((a_.length : Int) = (b_.length : Int))) (some false) (seqR (α := Unit) (R_SameKinds_L1 a_ b_ F 0) fun (_ : Unit) =>
  some true)
def R_SameFields_L1 (a_ : List Field) (b_ : List Field) : Nat → Int → Option (Way (Bool) (Unit))
  | 0, _ => none
  | k1_ + 1, n65_ =>
    cond (decide (n65_ < (a_.length : Int))) ((idx a_ n65_).bind fun x82_ =>
    (idx b_ n65_).bind fun x88_ =>
    cond (!decide (x82_ = x88_)) (some (.out false)) (R_SameFields_L1 a_ b_ k1_ (w64 (n65_ + 1)))) (some (.go ()))
def R_SameFields (F : Nat) (a_ : List Field) (b_ : List Field) : Option (Bool) :=
  cond (!decide ((a_.length : Int) = (b_.length : Int))) (some false) (seqR (α := Unit) (R_SameFields_L1 a_ b_ F 0) fun (_ : Unit) =>
  some true)
def R_ClassAt_L1 (l_ : List Class) (name_ : List UInt8) : Nat → Int → Option (Way (Int) (Unit))
  | 0, _ => none
  | k1_ + 1, n62_ =>
    cond (decide (n62_ < (l_.length : Int))) ((idx l_ n62_).bind fun x79_ =>
    cond (decide (x79_.Name = name_)) (some (.out n62_)) (R_ClassAt_L1 l_ name_ k1_ (w64 (n62_ + 1)))) (some (.go ()))
def R_ClassAt (F : Nat) (l_ : List Class) (name_ : List UInt8) : Option (Int) :=
  seqR (α := Unit) (R_ClassAt_L1 l_ name_ F 0) fun (_ : Unit) =>
  some (-1)
def R_UpFrom_L1 (F : Nat) (l_ : List Class) : Nat → Int → (List Int) → Option (Way (List Int) (List Int))
  | 0, _, _ => none
  | k1_ + 1, n149_, l152_ =>
    cond (decide (0 ≤ n149_)) (cond (decide ((l_.length : Int) < (l152_.length : Int))) (some (.out [])) ((app 8 [n149_] l152_).bind fun l182_ =>
    (idx l_ n149_).bind fun x187_ =>
    (R_ClassAt F l_ x187_.Super).bind fun r199_ =>
    R_UpFrom_L1 F l_ k1_ r199_ l182_)) (some (.go l152_))
def R_UpFrom (F : Nat) (l_ : List Class) (n_ : Int) : Option (List Int) :=
  seqR (α := List Int) (R_UpFrom_L1 F l_ F n_ []) fun (l102_ : List Int) =>
  some l102_
def R_Told_L1 (F : Nat) (kinds_ : List Kind) (l_ : List Class) : Nat → Int → Option (Way (Bool) (Unit))
  | 0, _ => none
  | k1_ + 1, n76_ =>
    cond (decide (n76_ < (kinds_.length : Int))) ((idx kinds_ n76_).bind fun x96_ =>
    cond (!decide (x96_.Class = [])) ((idx kinds_ n76_).bind fun x103_ =>
    (R_ClassAt F l_ x103_.Class).bind fun r109_ =>
    cond (decide (r109_ < 0)) (some (.out false)) (R_Told_L1 F kinds_ l_ k1_ (w64 (n76_ + 1)))) (R_Told_L1 F kinds_ l_ k1_ (w64 (n76_ + 1)))) (some (.go ()))
def R_Told (F : Nat) (l_ : List Class) (kinds_ : List Kind) : Option (Bool) :=
  seqR (α := Unit) (R_Told_L1 F kinds_ l_ F 0) fun (_ : Unit) =>
  some true
def R_AllFields_L1 (l_ : List Class) (r3_ : List Int) : Nat → (List Field) → Int → Option (List Field)
  | 0, _, _ => none
  | k1_ + 1, l226_, n228_ =>
    cond (decide (n228_ < (r3_.length : Int))) ((idx r3_ n228_).bind fun x259_ =>
    (idx l_ x259_).bind fun x265_ =>
    (app 40 l226_ x265_.Fields).bind fun l277_ =>
    R_AllFields_L1 l_ r3_ k1_ l277_ (w64 (n228_ + 1))) (some l226_)
def R_AllFields (F : Nat) (l_ : List Class) (n_ : Int) : Option (List Field) :=
  (R_UpFrom F l_ n_).bind fun r3_ =>
  Option.bind (α := List Field) (R_AllFields_L1 l_ r3_ F [] 0) fun (l197_ : List Field) =>
  some l197_
def R_TableOf_L3 (l63445_ : List (List UInt8)) (x63933_ : Method) : Nat → Int → Option (Int)
  | 0, _ => none
  | k3_ + 1, n63981_ =>
    cond (decide (n63981_ < (l63445_.length : Int))) ((idx l63445_ n63981_).bind fun x63992_ =>
    cond (!decide (x63992_ = x63933_.Name)) (R_TableOf_L3 l63445_ x63933_ k3_ (w64 (n63981_ + 1))) (some n63981_)) (some n63981_)
def R_TableOf_L2 (F : Nat) (l_ : List Class) (r3_ : List Int) (n56735_ : Int) : Nat → (List Target) → (List (List UInt8)) → Int → Option ((List Target) × (List (List UInt8)))
  | 0, _, _, _ => none
  | k2_ + 1, l63441_, l63445_, n63447_ =>
    (idx r3_ n56735_).bind fun x63753_ =>
    (idx l_ x63753_).bind fun x63759_ =>
    cond (decide (n63447_ < (x63759_.Methods.length : Int))) (Option.bind (α := (List Target) × (List (List UInt8))) ((idx r3_ n56735_).bind fun x63915_ =>
    (idx l_ x63915_).bind fun x63921_ =>
    (idx x63921_.Methods n63447_).bind fun x63933_ =>
    Option.bind (α := Int) (R_TableOf_L3 l63445_ x63933_ F 0) fun (n63971_ : Int) =>
    Option.bind (α := (List Target) × (List (List UInt8))) (cond (decide (n63971_ = (l63445_.length : Int))) ((app 16 l63445_ [x63933_.Name]).bind fun l64023_ =>
    (app 16 l63441_ [(⟨0, 0⟩ : Target)]).bind fun l64029_ =>
    some (l64029_, l64023_)) (some (l63441_, l63445_))) fun ((l64014_, l64018_) : (List Target) × (List (List UInt8))) =>
    (idx r3_ n56735_).bind fun x64034_ =>
    (idx l64014_ n63971_).bind fun x64040_ =>
    (some (l64014_.set (n63971_).toNat (⟨x64034_, n63447_⟩ : Target))).bind fun l64046_ =>
    some (l64046_, l64018_)) fun ((l63908_, l63912_) : (List Target) × (List (List UInt8))) =>
    R_TableOf_L2 F l_ r3_ n56735_ k2_ l63908_ l63912_ (w64 (n63447_ + 1))) (some (l63441_, l63445_))
def R_TableOf_L1 (F : Nat) (l_ : List Class) (r3_ : List Int) : Nat → (List Target) → (List (List UInt8)) → Int → Option ((List Target) × (List (List UInt8)))
  | 0, _, _, _ => none
  | k1_ + 1, l56729_, l56733_, n56735_ =>
    cond (decide (n56735_ < (r3_.length : Int))) (Option.bind (α := (List Target) × (List (List UInt8))) (Option.bind (α := (List Target) × (List (List UInt8))) (R_TableOf_L2 F l_ r3_ n56735_ F l56729_ l56733_ 0) fun ((l63136_, l63140_) : (List Target) × (List (List UInt8))) =>
    some (l63136_, l63140_)) fun ((l62221_, l62225_) : (List Target) × (List (List UInt8))) =>
    R_TableOf_L1 F l_ r3_ k1_ l62221_ l62225_ (w64 (n56735_ + 1))) (some (l56729_, l56733_))
def R_TableOf (F : Nat) (l_ : List Class) (n_ : Int) : Option ((List (List UInt8)) × (List Target)) :=
  (R_UpFrom F l_ n_).bind fun r3_ =>
  Option.bind (α := (List Target) × (List (List UInt8))) (R_TableOf_L1 F l_ r3_ F [] [] 0) fun ((l53508_, l53512_) : (List Target) × (List (List UInt8))) =>
  some (l53512_, l53508_)
end Cin
namespace Go.Proofs.Ytfbkanhgjpdohaa
open Go Go.RowKit Gg
set_option maxHeartbeats 4000000
set_option maxRecDepth 20000
theorem c_R_SameFields {W : World} {X : List Nat} {F : Nat} {a_ : List Cin.Field} {b_ : List Cin.Field} {r : Bool} {A1_ : Option Addr} {c2_ : Nat} {A3_ : Option Addr} {c4_ : Nat} (hm : St W (foots []) X W [] [sl Cin.ty_Field A1_ c2_ a_, sl Cin.ty_Field A3_ c4_ b_]) (h : Cin.R_SameFields F a_ b_ = some r) :
    Calls Try.prog 36 [.slice A1_ a_.length c2_, .slice A3_ b_.length c4_].toArray W (fun e w' => e = .returned (.bool r) ∧ St W (foots []) X w' [] []) := by
  generalize hM0 : foots [] = M0 at hm ⊢; clear hM0; refine enter Try.func36 rfl Try.ntmps36 rfl ?_; intro a hf; rw [Cin.R_SameFields] at h; refine sr0 [] [(0, .slice A1_ a_.length c2_), (1, .slice A3_ b_.length c4_)] hf fun a hf => ?_; refine wp_seq_k fun K hK2 => ?_; refine sr0 [] [(0, .slice A1_ a_.length c2_), (1, .slice A3_ b_.length c4_), (10, .bool (!decide ((a_.length : Int) = (b_.length : Int))))] hf fun a hf => ?_; refine cc (hf.g rfl) h (fun hb5_ h => ?_) (fun hb5_ h => ?_)
  · refine sr0 [] [(4, .bool false)] hf fun a hf => ?_; refine wp_ret ?_; obtain rfl := Option.some.inj h; refine x_retT ?_; refine r_one Try.results36 hf rfl ?_; exact ⟨rfl, (hm.sel [] rfl rfl).pick trivial⟩
  refine wp_skip ?_; refine hK2 _ _ ?_; refine wp_seq_k fun K hK5 => ?_; refine sr0 [] [(0, .slice A1_ a_.length c2_), (1, .slice A3_ b_.length c4_), (5, .i 0)] hf fun a hf => ?_; obtain ⟨j50_, h, hj50_⟩ := Cin.seqR_s h; refine c_blockJ (fun a w => Fr ⟨26, []⟩ [] a ∧ St W M0 X w [] [sl Cin.ty_Field A1_ c2_ a_, sl Cin.ty_Field A3_ c4_ b_] ∧ j50_ = (.go ())) (fun K hK7 => ?_) ?_
  · refine c_loop (fun (k1_ : Nat) a w => ∃ (n65_ : Int), Fr ⟨26, []⟩ [(0, .slice A1_ a_.length c2_), (1, .slice A3_ b_.length c4_), (5, .i n65_)] a ∧ St W M0 X w [] [sl Cin.ty_Field A1_ c2_ a_, sl Cin.ty_Field A3_ c4_ b_] ∧ Cin.R_SameFields_L1 a_ b_ k1_ n65_ = some j50_) F ⟨0, hf.sub ⟨rfl, rfl, rfl, trivial⟩, hm, h⟩ ?_ ?_
    · rintro a w ⟨n65_, hf, hm, h⟩; exact absurd h (by simp [Cin.R_SameFields_L1])
    rintro k1_ a w ⟨n65_, hf, hm, h⟩ K hK8; rw [Cin.R_SameFields_L1] at h; refine wp_seq_k fun K hK9 => ?_; refine sr0 [] [(0, .slice A1_ a_.length c2_), (1, .slice A3_ b_.length c4_), (5, .i n65_), (14, .bool (decide (n65_ < (a_.length : Int))))] hf fun a hf => ?_; refine cc (hf.g rfl) h (fun hb81_ h => ?_) (fun hb81_ h => ?_)
    · refine wp_skip ?_; refine hK9 _ _ ?_; refine wp_seq_k fun K hK11 => ?_; refine wp_block ?_; refine wp_seq_k fun K hK12 => ?_; refine c_quiet (by kernel_rfl) (by kernel_rfl) ?_; refine qp1 2 [] [(0, .slice A1_ a_.length c2_), (1, .slice A3_ b_.length c4_), (5, .i n65_), (17, .slice A1_ a_.length c2_), (18, .i n65_)] [] (fun w1 hv => mn) hf fun a hf => ?_; obtain ⟨x82_, hx83_, h⟩ := Cin.bind_s h; obtain ⟨hA84_, hi85_, _, rfl, hc86_⟩ := slice_at _ (hm.d 0 rfl) hx83_; refine qv (wN rfl) (fun w1 hv => y_idx Try.underlying65 Try.sizeOf89 rfl (hf.g rfl) (hf.g rfl) hA84_ hi85_) hf rfl rfl fun a hf => ?_
      refine qp1 3 [0, 0] [(0, .slice A1_ a_.length c2_), (1, .slice A3_ b_.length c4_), (5, .i n65_), (20, .agg #[Str x82_.Name, .i x82_.Kind.Kind, Str x82_.Kind.Class]), (21, .slice A3_ b_.length c4_), (22, .i n65_)] [bO A1_, oO A1_ + (n65_).toNat * 3] (fun w1 hv => (mc (ev_cells hv hc86_) mn)) hf fun a hf => ?_; obtain ⟨x88_, hx89_, h⟩ := Cin.bind_s h; obtain ⟨hA90_, hi91_, _, rfl, hc92_⟩ := slice_at _ (hm.d 1 rfl) hx89_; refine qv (wN rfl) (fun w1 hv => y_idx Try.underlying65 Try.sizeOf89 rfl (hf.g rfl) (hf.g rfl) hA90_ hi91_) hf rfl rfl fun a hf => ?_
      refine qp1 1 [0, 0] [(0, .slice A1_ a_.length c2_), (1, .slice A3_ b_.length c4_), (5, .i n65_), (20, .agg #[Str x82_.Name, .i x82_.Kind.Kind, Str x82_.Kind.Class]), (24, .agg #[Str x88_.Name, .i x88_.Kind.Kind, Str x88_.Kind.Class])] [bO A3_, oO A3_ + (n65_).toNat * 3] (fun w1 hv => (mc (ev_cells hv hc92_) mn)) hf fun a hf => ?_; refine qv (wN rfl) (fun w1 hv => eq_neq_Field (X := x82_) (Y := x88_) rfl (hf.g rfl) (hf.g rfl)) hf rfl rfl fun a hf => ?_; refine wpQuiet_nil ?_; intro w hv; have hm := hm.keep hv; clear hv; refine hK12 _ _ ?_; refine cc (hf.g rfl) h (fun hb94_ h => ?_) (fun hb94_ h => ?_)
      · refine sr0 [] [(4, .bool false)] hf fun a hf => ?_; refine wp_ret ?_; obtain rfl := Option.some.inj h; obtain rfl := Option.some.inj (show some (_) = some _ from hj50_); refine x_retB (x_retT (x_retT (x_retB (x_retT (x_retT ?_))))); refine r_one Try.results36 hf rfl ?_; exact ⟨rfl, (hm.sel [] rfl rfl).pick trivial⟩
      refine wp_skip ?_; refine hK11 _ _ ?_; refine rg0 [] [(0, .slice A1_ a_.length c2_), (1, .slice A3_ b_.length c4_), (5, .i (Cin.w64 (n65_ + 1)))] hf fun a hf => ?_; exact hK8 _ _ ⟨Cin.w64 (n65_ + 1), hf.sub ⟨rfl, rfl, rfl, trivial⟩, hm, h⟩
    refine wp_exit ?_; refine x_then (x_then (x_hit ?_)); exact hK7 _ _ ⟨hf.sub trivial, hm, (Option.some.inj h).symm⟩
  rintro a w ⟨hf, hm, hj⟩; subst j50_; have h := hj50_; clear hj50_; dsimp only [Cin.contR] at h; refine hK5 _ _ ?_; refine sr0 [] [(4, .bool true)] hf fun a hf => ?_; refine wp_ret ?_; obtain rfl := Option.some.inj h; refine r_one Try.results36 hf rfl ?_; exact ⟨rfl, (hm.sel [] rfl rfl).pick trivial⟩
end Go.Proofs.Ytfbkanhgjpdohaa
namespace Cin
def R_CheckLink_L1 (F : Nat) (l_ : List Class) : Nat → Int → Option (Way (Int) (Unit))
  | 0, _ => none
  | k1_ + 1, n73_ =>
    cond (decide (n73_ < (l_.length : Int))) ((idx l_ n73_).bind fun x92_ =>
    (R_ClassAt F l_ x92_.Name).bind fun r104_ =>
    cond (!decide (r104_ = n73_)) (some (.out 6)) (R_CheckLink_L1 F l_ k1_ (w64 (n73_ + 1)))) (some (.go ()))
def R_CheckLink_L2 (l_ : List Class) : Nat → Int → Option (Way (Int) (Unit))
  | 0, _ => none
  | k2_ + 1, n220_ =>
    cond (decide (n220_ < (l_.length : Int))) ((idx l_ n220_).bind fun x249_ =>
    (idx l_ n220_).bind fun x261_ =>
    cond (!((decide (x249_.Name = [79, 98, 106, 101, 99, 116])) == (decide (x261_.Super = [])))) (some (.out 4)) (R_CheckLink_L2 l_ k2_ (w64 (n220_ + 1)))) (some (.go ()))
def R_CheckLink_L3 (F : Nat) (l_ : List Class) : Nat → Int → Option (Way (Int) (Unit))
  | 0, _ => none
  | k3_ + 1, n393_ =>
    cond (decide (n393_ < (l_.length : Int))) ((idx l_ n393_).bind fun x425_ =>
    cond (!decide (x425_.Super = [])) ((idx l_ n393_).bind fun x438_ =>
    (R_ClassAt F l_ x438_.Super).bind fun r450_ =>
    cond (decide (r450_ < 0)) (some (.out 5)) (R_CheckLink_L3 F l_ k3_ (w64 (n393_ + 1)))) (R_CheckLink_L3 F l_ k3_ (w64 (n393_ + 1)))) (some (.go ()))
def R_CheckLink_L4 (F : Nat) (l_ : List Class) : Nat → Int → Option (Way (Int) (Unit))
  | 0, _ => none
  | k4_ + 1, n480_ =>
    cond (decide (n480_ < (l_.length : Int))) ((R_UpFrom F l_ n480_).bind fun r489_ =>
    cond (decide ((r489_.length : Int) = 0)) (some (.out 4)) (R_CheckLink_L4 F l_ k4_ (w64 (n480_ + 1)))) (some (.go ()))
def R_CheckLink_L6 (F : Nat) (l_ : List Class) (n12276_ : Int) : Nat → Int → Option (Way (Int) (Unit))
  | 0, _ => none
  | k6_ + 1, n16829_ =>
    (idx l_ n12276_).bind fun x16866_ =>
    cond (decide (n16829_ < (x16866_.Fields.length : Int))) ((idx l_ n12276_).bind fun x16879_ =>
    (idx x16879_.Fields n16829_).bind fun x16891_ =>
    (R_Told F l_ [(⟨x16891_.Kind.Kind, x16891_.Kind.Class⟩ : Kind)]).bind fun r16898_ =>
    cond (!r16898_) (some (.out 5)) (R_CheckLink_L6 F l_ n12276_ k6_ (w64 (n16829_ + 1)))) (some (.go ()))
def R_CheckLink_L8 (F : Nat) (l_ : List Class) (x18069_ : Method) : Nat → Int → Option (Way (Int) (Unit))
  | 0, _ => none
  | k8_ + 1, n18132_ =>
    cond (decide (n18132_ < (x18069_.Handlers.length : Int))) ((idx x18069_.Handlers n18132_).bind fun x18145_ =>
    (R_ClassAt F l_ x18145_.Class).bind fun r18151_ =>
    cond (decide (r18151_ < 0)) (some (.out 5)) (R_CheckLink_L8 F l_ x18069_ k8_ (w64 (n18132_ + 1)))) (some (.go ()))
def R_CheckLink_L7 (F : Nat) (l_ : List Class) (n12276_ : Int) : Nat → Int → Option (Way (Int) (Unit))
  | 0, _ => none
  | k7_ + 1, n17736_ =>
    (idx l_ n12276_).bind fun x17946_ =>
    cond (decide (n17736_ < (x17946_.Methods.length : Int))) (seqO (α := Unit) ((idx l_ n12276_).bind fun x18057_ =>
    (idx x18057_.Methods n17736_).bind fun x18069_ =>
    (R_Told F l_ x18069_.Args).bind fun r18082_ =>
    cond (!r18082_) (some (.out 5)) ((R_Told F l_ [(⟨x18069_.Returns.Kind, x18069_.Returns.Class⟩ : Kind)]).bind fun r18086_ =>
    cond (!r18086_) (some (.out 5)) (seqO (α := Unit) (R_CheckLink_L8 F l_ x18069_ F 0) fun (_ : Unit) =>
    some (.go ())))) fun (_ : Unit) =>
    R_CheckLink_L7 F l_ n12276_ k7_ (w64 (n17736_ + 1))) (some (.go ()))
def R_CheckLink_L5 (F : Nat) (l_ : List Class) : Nat → Int → Option (Way (Int) (Unit))
  | 0, _ => none
  | k5_ + 1, n12276_ =>
    cond (decide (n12276_ < (l_.length : Int))) (seqO (α := Unit) (seqO (α := Unit) (R_CheckLink_L6 F l_ n12276_ F 0) fun (_ : Unit) =>
    seqO (α := Unit) (R_CheckLink_L7 F l_ n12276_ F 0) fun (_ : Unit) =>
    some (.go ())) fun (_ : Unit) =>
    R_CheckLink_L5 F l_ k5_ (w64 (n12276_ + 1))) (some (.go ()))
def R_CheckLink_L11 (r40820_ : List Field) (n41196_ : Int) : Nat → Int → Option (Way (Int) (Unit))
  | 0, _ => none
  | k11_ + 1, n41528_ =>
    cond (decide (n41528_ < n41196_)) ((idx r40820_ n41528_).bind fun x41545_ =>
    (idx r40820_ n41196_).bind fun x41551_ =>
    cond (decide (x41545_.Name = x41551_.Name)) (some (.out 6)) (R_CheckLink_L11 r40820_ n41196_ k11_ (w64 (n41528_ + 1)))) (some (.go ()))
def R_CheckLink_L10 (F : Nat) (r40820_ : List Field) : Nat → Int → Option (Way (Int) (Unit))
  | 0, _ => none
  | k10_ + 1, n41196_ =>
    cond (decide (n41196_ < (r40820_.length : Int))) (seqO (α := Unit) (seqO (α := Unit) (R_CheckLink_L11 r40820_ n41196_ F 0) fun (_ : Unit) =>
    some (.go ())) fun (_ : Unit) =>
    R_CheckLink_L10 F r40820_ k10_ (w64 (n41196_ + 1))) (some (.go ()))
def R_CheckLink_L13 (x41558_ : Class) (n42229_ : Int) : Nat → Int → Option (Way (Int) (Unit))
  | 0, _ => none
  | k13_ + 1, n42825_ =>
    cond (decide (n42825_ < n42229_)) ((idx x41558_.Methods n42825_).bind fun x42854_ =>
    (idx x41558_.Methods n42229_).bind fun x42866_ =>
    cond (decide (x42854_.Name = x42866_.Name)) (some (.out 6)) (R_CheckLink_L13 x41558_ n42229_ k13_ (w64 (n42825_ + 1)))) (some (.go ()))
def R_CheckLink_L12 (F : Nat) (x41558_ : Class) : Nat → Int → Option (Way (Int) (Unit))
  | 0, _ => none
  | k12_ + 1, n42229_ =>
    cond (decide (n42229_ < (x41558_.Methods.length : Int))) (seqO (α := Unit) (seqO (α := Unit) (R_CheckLink_L13 x41558_ n42229_ F 0) fun (_ : Unit) =>
    some (.go ())) fun (_ : Unit) =>
    R_CheckLink_L12 F x41558_ k12_ (w64 (n42229_ + 1))) (some (.go ()))
def R_CheckLink_L9 (F : Nat) (l_ : List Class) : Nat → Int → Option (Way (Int) (Unit))
  | 0, _ => none
  | k9_ + 1, n34637_ =>
    cond (decide (n34637_ < (l_.length : Int))) (seqO (α := Unit) ((R_AllFields F l_ n34637_).bind fun r40820_ =>
    seqO (α := Unit) (R_CheckLink_L10 F r40820_ F 0) fun (_ : Unit) =>
    (idx l_ n34637_).bind fun x41558_ =>
    seqO (α := Unit) (R_CheckLink_L12 F x41558_ F 0) fun (_ : Unit) =>
    some (.go ())) fun (_ : Unit) =>
    R_CheckLink_L9 F l_ k9_ (w64 (n34637_ + 1))) (some (.go ()))
def R_CheckLink_L17 (F : Nat) (l_ : List Class) (n617234_ : Int) (r832619_ : List Int) (n880482_ : Int) (n902418_ : Int) : Nat → Int → Option (Way (Int) (Unit))
  | 0, _ => none
  | k17_ + 1, n904248_ =>
    (idx r832619_ n880482_).bind fun x904331_ =>
    (idx l_ x904331_).bind fun x904337_ =>
    cond (decide (n904248_ < (x904337_.Methods.length : Int))) ((idx l_ n617234_).bind fun x904350_ =>
    (idx x904350_.Methods n902418_).bind fun x904362_ =>
    (idx r832619_ n880482_).bind fun x904374_ =>
    (idx l_ x904374_).bind fun x904380_ =>
    (idx x904380_.Methods n904248_).bind fun x904392_ =>
    cond (decide (x904362_.Name = x904392_.Name)) (cond (x904362_.Static || x904392_.Static) (some (.out 4)) ((R_SameKinds F x904362_.Args x904392_.Args).bind fun r904408_ =>
    cond (!r904408_) (some (.out 4)) (cond (!decide ((⟨x904362_.Returns.Kind, x904362_.Returns.Class⟩ : Kind) = (⟨x904392_.Returns.Kind, x904392_.Returns.Class⟩ : Kind))) (some (.out 4)) (R_CheckLink_L17 F l_ n617234_ r832619_ n880482_ n902418_ k17_ (w64 (n904248_ + 1)))))) (R_CheckLink_L17 F l_ n617234_ r832619_ n880482_ n902418_ k17_ (w64 (n904248_ + 1)))) (some (.go ()))
def R_CheckLink_L16 (F : Nat) (l_ : List Class) (n617234_ : Int) (r832619_ : List Int) (n880482_ : Int) : Nat → Int → Option (Way (Int) (Unit))
  | 0, _ => none
  | k16_ + 1, n902418_ =>
    (idx l_ n617234_).bind fun x903416_ =>
    cond (decide (n902418_ < (x903416_.Methods.length : Int))) (seqO (α := Unit) (seqO (α := Unit) (R_CheckLink_L17 F l_ n617234_ r832619_ n880482_ n902418_ F 0) fun (_ : Unit) =>
    some (.go ())) fun (_ : Unit) =>
    R_CheckLink_L16 F l_ n617234_ r832619_ n880482_ k16_ (w64 (n902418_ + 1))) (some (.go ()))
def R_CheckLink_L15 (F : Nat) (l_ : List Class) (n617234_ : Int) (r832619_ : List Int) : Nat → Int → Option (Way (Int) (Unit))
  | 0, _ => none
  | k15_ + 1, n880482_ =>
    cond (decide (n880482_ < (w64 ((r832619_.length : Int) - 1)))) (seqO (α := Unit) (seqO (α := Unit) (R_CheckLink_L16 F l_ n617234_ r832619_ n880482_ F 0) fun (_ : Unit) =>
    some (.go ())) fun (_ : Unit) =>
    R_CheckLink_L15 F l_ n617234_ r832619_ k15_ (w64 (n880482_ + 1))) (some (.go ()))
def R_CheckLink_L14 (F : Nat) (l_ : List Class) : Nat → Int → Option (Way (Int) (Unit))
  | 0, _ => none
  | k14_ + 1, n617234_ =>
    cond (decide (n617234_ < (l_.length : Int))) (seqO (α := Unit) ((R_UpFrom F l_ n617234_).bind fun r832619_ =>
    seqO (α := Unit) (R_CheckLink_L15 F l_ n617234_ r832619_ F 0) fun (_ : Unit) =>
    some (.go ())) fun (_ : Unit) =>
    R_CheckLink_L14 F l_ k14_ (w64 (n617234_ + 1))) (some (.go ()))
def R_CheckLink (F : Nat) (l_ : List Class) : Option (Int) :=
  (R_CheckClasses F l_).bind fun r3_ =>
  cond (!decide (r3_ = 0)) (some r3_) (seqR (α := Unit) (R_CheckLink_L1 F l_ F 0) fun (_ : Unit) =>
  (R_ClassAt F l_ [79, 98, 106, 101, 99, 116]).bind fun r107_ =>
  cond (decide (r107_ < 0)) (some 5) ((R_ClassAt F l_ [69, 114, 114, 111, 114]).bind fun r110_ =>
  cond (decide (r110_ < 0)) (some 5) (seqR (α := Unit) (R_CheckLink_L2 l_ F 0) fun (_ : Unit) =>
  seqR (α := Unit) (R_CheckLink_L3 F l_ F 0) fun (_ : Unit) =>
  seqR (α := Unit) (R_CheckLink_L4 F l_ F 0) fun (_ : Unit) =>
  (R_ClassAt F l_ [69, 114, 114, 111, 114]).bind fun r494_ =>
  (R_AllFields F l_ r494_).bind fun r496_ =>
  (idx l_ r494_).bind fun x501_ =>
  cond ((!decide (x501_.Super = [79, 98, 106, 101, 99, 116])) || (decide ((r496_.length : Int) = 0))) (some 4) ((idx r496_ 0).bind fun x514_ =>
  cond (!decide (x514_.Kind.Kind = 1)) (some 4) (seqR (α := Unit) (R_CheckLink_L5 F l_ F 0) fun (_ : Unit) =>
  seqR (α := Unit) (R_CheckLink_L9 F l_ F 0) fun (_ : Unit) =>
  seqR (α := Unit) (R_CheckLink_L14 F l_ F 0) fun (_ : Unit) =>
  some 0)))))
def R_LinkOf_L1 (F : Nat) (l_ : List Class) : Nat → (List (List Target)) → (List (List (List UInt8))) → (List (List Field)) → (List Int) → Int → Option (Way (Linked × Int) ((List (List Target)) × (List (List (List UInt8))) × (List (List Field)) × (List Int)))
  | 0, _, _, _, _, _ => none
  | k1_ + 1, l1679_, l1683_, l1687_, l1691_, n1693_ =>
    cond (decide (n1693_ < (l_.length : Int))) ((R_AllFields F l_ n1693_).bind fun r1765_ =>
    (R_TableOf F l_ n1693_).bind fun r1770_ =>
    cond ((decide (12 < (r1765_.length : Int))) || (decide (16 < (r1770_.1.length : Int)))) (some (.out ((⟨[], [], [], [], []⟩ : Linked), 2))) ((idx l_ n1693_).bind fun x1779_ =>
    (R_ClassAt F l_ x1779_.Super).bind fun r1791_ =>
    (app 8 l1691_ [r1791_]).bind fun l1794_ =>
    (app 24 l1687_ [r1765_]).bind fun l1800_ =>
    (app 24 l1683_ [r1770_.1]).bind fun l1806_ =>
    (app 24 l1679_ [r1770_.2]).bind fun l1812_ =>
    R_LinkOf_L1 F l_ k1_ l1812_ l1806_ l1800_ l1794_ (w64 (n1693_ + 1)))) (some (.go (l1679_, l1683_, l1687_, l1691_)))
def R_LinkOf (F : Nat) (l_ : List Class) : Option (Linked × Int) :=
  (R_CheckLink F l_).bind fun r4_ =>
  cond (!decide (r4_ = 0)) (some ((⟨[], [], [], [], []⟩ : Linked), r4_)) (seqR (α := (List (List Target)) × (List (List (List UInt8))) × (List (List Field)) × (List Int)) (R_LinkOf_L1 F l_ F [] [] [] [] 0) fun ((l1609_, l1613_, l1617_, l1621_) : (List (List Target)) × (List (List (List UInt8))) × (List (List Field)) × (List Int)) =>
  some ((⟨l_, l1621_, l1617_, l1613_, l1609_⟩ : Linked), 0))
end Cin
namespace Cin
def link_linker_names_L1 (x_ : link_linker) : Nat → (List ((List UInt8) × Int)) → Int → Option (Way (Int × link_linker) (List ((List UInt8) × Int)))
  | 0, _, _ => none
  | k1_ + 1, m73_, n74_ =>
    cond (decide (n74_ < (x_.l.length : Int))) ((idx x_.l n74_).bind fun x93_ =>
    cond ((mget m73_ x93_.Name).isSome) (some (.out (6, (⟨x_.l, m73_, x_.supers⟩ : link_linker)))) (link_linker_names_L1 x_ k1_ (mput m73_ x93_.Name n74_) (w64 (n74_ + 1)))) (some (.go m73_))
def link_linker_names (F : Nat) (x_ : link_linker) : Option (Int × link_linker) :=
  seqR (α := List ((List UInt8) × Int)) (link_linker_names_L1 x_ F x_.by_ 0) fun (m56_ : List ((List UInt8) × Int)) =>
  cond ((!((mget m56_ [79, 98, 106, 101, 99, 116]).isSome)) || (!((mget m56_ [69, 114, 114, 111, 114]).isSome))) (some (5, (⟨x_.l, m56_, x_.supers⟩ : link_linker))) (some (0, (⟨x_.l, m56_, x_.supers⟩ : link_linker)))
def link_linker_above_L1 (x_ : link_linker) : Nat → Int → Option (Way (Int × link_linker) (Unit))
  | 0, _ => none
  | k1_ + 1, n71_ =>
    cond (decide (n71_ < (x_.l.length : Int))) ((idx x_.l n71_).bind fun x89_ =>
    cond (!((decide (x89_.Name = [79, 98, 106, 101, 99, 116])) == (decide (x89_.Super = [])))) (some (.out (4, (⟨x_.l, x_.by_, x_.supers⟩ : link_linker)))) (link_linker_above_L1 x_ k1_ (w64 (n71_ + 1)))) (some (.go ()))
def link_linker_above_L2 (x_ : link_linker) : Nat → (List Int) → Int → Option (Way (Int × link_linker) (List Int))
  | 0, _, _ => none
  | k2_ + 1, l408_, n410_ =>
    cond (decide (n410_ < (x_.l.length : Int))) (seqO (α := List Int) ((idx x_.l n410_).bind fun x527_ =>
    seqO (α := Int) (seqO (α := Int) (cond (decide (x527_.Super = [])) (some (.go (-1))) (cond (!((mget x_.by_ x527_.Super).isSome)) (some (.out (5, (⟨x_.l, x_.by_, l408_⟩ : link_linker)))) (some (.go ((mget x_.by_ x527_.Super).getD 0))))) fun (n550_ : Int) =>
    some (.go n550_)) fun (n546_ : Int) =>
    (app 8 l408_ [n546_]).bind fun l555_ =>
    some (.go l555_)) fun (l524_ : List Int) =>
    link_linker_above_L2 x_ k2_ l524_ (w64 (n410_ + 1))) (some (.go l408_))
def link_linker_above_L4 (x_ : link_linker) (l331_ : List Int) : Nat → Int → Int → Option (Int)
  | 0, _, _ => none
  | k4_ + 1, n1968_, n1969_ =>
    cond (decide (n1969_ < (x_.l.length : Int))) ((idx l331_ n1968_).bind fun x1981_ =>
    cond (decide (x1981_ < 0)) (some x1981_) (link_linker_above_L4 x_ l331_ k4_ x1981_ (w64 (n1969_ + 1)))) (some n1968_)
def link_linker_above_L3 (F : Nat) (x_ : link_linker) (l331_ : List Int) : Nat → Int → Option (Way (Int × link_linker) (Unit))
  | 0, _ => none
  | k3_ + 1, n1507_ =>
    cond (decide (n1507_ < (x_.l.length : Int))) (seqO (α := Unit) (Option.bind (α := Int) (Option.bind (α := Int) (link_linker_above_L4 x_ l331_ F n1507_ 0) fun (n1958_ : Int) =>
    some n1958_) fun (n1928_ : Int) =>
    cond (decide (0 ≤ n1928_)) (some (.out (4, (⟨x_.l, x_.by_, l331_⟩ : link_linker)))) (some (.go ()))) fun (_ : Unit) =>
    link_linker_above_L3 F x_ l331_ k3_ (w64 (n1507_ + 1))) (some (.go ()))
def link_linker_above (F : Nat) (x_ : link_linker) : Option (Int × link_linker) :=
  seqR (α := Unit) (link_linker_above_L1 x_ F 0) fun (_ : Unit) =>
  seqR (α := List Int) (link_linker_above_L2 x_ F x_.supers 0) fun (l331_ : List Int) =>
  seqR (α := Unit) (link_linker_above_L3 F x_ l331_ F 0) fun (_ : Unit) =>
  some (0, (⟨x_.l, x_.by_, l331_⟩ : link_linker))
def link_linker_chain_L1 (x_ : link_linker) : Nat → (List Int) → Int → Option (List Int)
  | 0, _, _ => none
  | k1_ + 1, l139_, n141_ =>
    cond (decide (0 ≤ n141_)) ((app 8 l139_ [n141_]).bind fun l162_ =>
    (idx x_.supers n141_).bind fun x167_ =>
    link_linker_chain_L1 x_ k1_ l162_ x167_) (some l139_)
def link_linker_chain (F : Nat) (x_ : link_linker) (n_ : Int) : Option (List Int) :=
  Option.bind (α := List Int) (link_linker_chain_L1 x_ F [] n_) fun (l121_ : List Int) =>
  some l121_
def slices_Backward_int_int (_ : List Int) : Option Unit := some ()
def link_linker_fields_L1 (x_ : link_linker) : List Int → (List Field) → Option (List Field)
  | [], l56_ => some l56_
  | x17_ :: rem19_, l56_ =>
    (idx x_.l x17_).bind fun x80_ =>
    (app 40 l56_ x80_.Fields).bind fun l92_ =>
    link_linker_fields_L1 x_ rem19_ l92_
def link_linker_fields (F : Nat) (x_ : link_linker) (n_ : Int) : Option (List Field) :=
  (link_linker_chain F (⟨x_.l, x_.by_, x_.supers⟩ : link_linker) n_).bind fun r9_ =>
  (slices_Backward_int_int r9_).bind fun r14_ =>
  Option.bind (α := List Field) (link_linker_fields_L1 x_ r9_.reverse []) fun (l56_ : List Field) =>
  some l56_
def link_linker_errors (F : Nat) (x_ : link_linker) : Option (Int) :=
  (link_linker_fields F (⟨x_.l, x_.by_, x_.supers⟩ : link_linker) ((mget x_.by_ [69, 114, 114, 111, 114]).getD 0)).bind fun r7_ =>
  (idx x_.l ((mget x_.by_ [69, 114, 114, 111, 114]).getD 0)).bind fun x12_ =>
  cond ((!decide (x12_.Super = [79, 98, 106, 101, 99, 116])) || (decide ((r7_.length : Int) = 0))) (some 4) ((idx r7_ 0).bind fun x25_ =>
  cond (!decide (x25_.Kind.Kind = 1)) (some 4) (some 0))
def link_linker_told_1 (k_ : Kind) (q1_ : List (List UInt8)) : Option (List (List UInt8)) :=
  cond (!decide (k_.Class = [])) ((app 16 q1_ [k_.Class]).bind fun l9_ =>
  some l9_) (some q1_)
def link_linker_told_L2 (x58905_ : Class) : Nat → (List (List UInt8)) → Int → Option (List (List UInt8))
  | 0, _, _ => none
  | k2_ + 1, l58987_, n58989_ =>
    cond (decide (n58989_ < (x58905_.Fields.length : Int))) ((idx x58905_.Fields n58989_).bind fun x59009_ =>
    (link_linker_told_1 (⟨x59009_.Kind.Kind, x59009_.Kind.Class⟩ : Kind) l58987_).bind fun r59016_ =>
    link_linker_told_L2 x58905_ k2_ r59016_ (w64 (n58989_ + 1))) (some l58987_)
def link_linker_told_L4 (x61612_ : Method) : Nat → (List (List UInt8)) → Int → Option (List (List UInt8))
  | 0, _, _ => none
  | k4_ + 1, l61694_, n61696_ =>
    cond (decide (n61696_ < (x61612_.Args.length : Int))) ((idx x61612_.Args n61696_).bind fun x61716_ =>
    (link_linker_told_1 (⟨x61716_.Kind, x61716_.Class⟩ : Kind) l61694_).bind fun r61723_ =>
    link_linker_told_L4 x61612_ k4_ r61723_ (w64 (n61696_ + 1))) (some l61694_)
def link_linker_told_L5 (x61612_ : Method) : Nat → (List (List UInt8)) → Int → Option (List (List UInt8))
  | 0, _, _ => none
  | k5_ + 1, l61806_, n61808_ =>
    cond (decide (n61808_ < (x61612_.Handlers.length : Int))) ((idx x61612_.Handlers n61808_).bind fun x61829_ =>
    (app 16 l61806_ [x61829_.Class]).bind fun l61837_ =>
    link_linker_told_L5 x61612_ k5_ l61837_ (w64 (n61808_ + 1))) (some l61806_)
def link_linker_told_L3 (F : Nat) (x58905_ : Class) : Nat → (List (List UInt8)) → Int → Option (List (List UInt8))
  | 0, _, _ => none
  | k3_ + 1, l60902_, n60904_ =>
    cond (decide (n60904_ < (x58905_.Methods.length : Int))) (Option.bind (α := List (List UInt8)) ((idx x58905_.Methods n60904_).bind fun x61612_ =>
    Option.bind (α := List (List UInt8)) (link_linker_told_L4 x61612_ F l60902_ 0) fun (l61676_ : List (List UInt8)) =>
    (link_linker_told_1 (⟨x61612_.Returns.Kind, x61612_.Returns.Class⟩ : Kind) l61676_).bind fun r61728_ =>
    Option.bind (α := List (List UInt8)) (link_linker_told_L5 x61612_ F r61728_ 0) fun (l61787_ : List (List UInt8)) =>
    some l61787_) fun (l61609_ : List (List UInt8)) =>
    link_linker_told_L3 F x58905_ k3_ l61609_ (w64 (n60904_ + 1))) (some l60902_)
def link_linker_told_L1 (F : Nat) (x_ : link_linker) : Nat → (List (List UInt8)) → Int → Option (List (List UInt8))
  | 0, _, _ => none
  | k1_ + 1, l50074_, n50076_ =>
    cond (decide (n50076_ < (x_.l.length : Int))) (Option.bind (α := List (List UInt8)) ((idx x_.l n50076_).bind fun x58905_ =>
    Option.bind (α := List (List UInt8)) (link_linker_told_L2 x58905_ F l50074_ 0) fun (l58969_ : List (List UInt8)) =>
    Option.bind (α := List (List UInt8)) (link_linker_told_L3 F x58905_ F l58969_ 0) fun (l60431_ : List (List UInt8)) =>
    some l60431_) fun (l58902_ : List (List UInt8)) =>
    link_linker_told_L1 F x_ k1_ l58902_ (w64 (n50076_ + 1))) (some l50074_)
def link_linker_told_L6 (x_ : link_linker) (l44189_ : List (List UInt8)) : Nat → Int → Option (Way (Int) (Unit))
  | 0, _ => none
  | k6_ + 1, n61877_ =>
    cond (decide (n61877_ < (l44189_.length : Int))) ((idx l44189_ n61877_).bind fun x61888_ =>
    cond (!((mget x_.by_ x61888_).isSome)) (some (.out 5)) (link_linker_told_L6 x_ l44189_ k6_ (w64 (n61877_ + 1)))) (some (.go ()))
def link_linker_told (F : Nat) (x_ : link_linker) : Option (Int) :=
  Option.bind (α := List (List UInt8)) (link_linker_told_L1 F x_ F [] 0) fun (l44189_ : List (List UInt8)) =>
  seqR (α := Unit) (link_linker_told_L6 x_ l44189_ F 0) fun (_ : Unit) =>
  some 0
def link_twice_L1 (l_ : List (List UInt8)) : Nat → (List ((List UInt8) × Bool)) → Int → Option (List ((List UInt8) × Bool))
  | 0, _, _ => none
  | k1_ + 1, m38_, n39_ =>
    cond (decide (n39_ < (l_.length : Int))) ((idx l_ n39_).bind fun x50_ =>
    link_twice_L1 l_ k1_ (mput m38_ x50_ true) (w64 (n39_ + 1))) (some m38_)
def link_twice (F : Nat) (l_ : List (List UInt8)) : Option (Bool) :=
  Option.bind (α := List ((List UInt8) × Bool)) (link_twice_L1 l_ F [] 0) fun (m29_ : List ((List UInt8) × Bool)) =>
  some (decide ((m29_.length : Int) < (l_.length : Int)))
def link_linker_once_L2 (r4811_ : List Field) : Nat → (List (List UInt8)) → Int → Option (List (List UInt8))
  | 0, _, _ => none
  | k2_ + 1, l4955_, n4957_ =>
    cond (decide (n4957_ < (r4811_.length : Int))) ((idx r4811_ n4957_).bind fun x4978_ =>
    (app 16 l4955_ [x4978_.Name]).bind fun l4986_ =>
    link_linker_once_L2 r4811_ k2_ l4986_ (w64 (n4957_ + 1))) (some l4955_)
def link_linker_once_L3 (x4798_ : Class) : Nat → (List (List UInt8)) → Int → Option (List (List UInt8))
  | 0, _, _ => none
  | k3_ + 1, l5178_, n5180_ =>
    cond (decide (n5180_ < (x4798_.Methods.length : Int))) ((idx x4798_.Methods n5180_).bind fun x5207_ =>
    (app 16 l5178_ [x5207_.Name]).bind fun l5221_ =>
    link_linker_once_L3 x4798_ k3_ l5221_ (w64 (n5180_ + 1))) (some l5178_)
def link_linker_once_L1 (F : Nat) (x_ : link_linker) : Nat → Int → Option (Way (Int) (Unit))
  | 0, _ => none
  | k1_ + 1, n3490_ =>
    cond (decide (n3490_ < (x_.l.length : Int))) (seqO (α := Unit) ((idx x_.l n3490_).bind fun x4798_ =>
    (link_linker_fields F (⟨x_.l, x_.by_, x_.supers⟩ : link_linker) n3490_).bind fun r4811_ =>
    Option.bind (α := List (List UInt8)) (link_linker_once_L2 r4811_ F [] 0) fun (l4936_ : List (List UInt8)) =>
    Option.bind (α := List (List UInt8)) (link_linker_once_L3 x4798_ F [] 0) fun (l5153_ : List (List UInt8)) =>
    (link_twice F l4936_).bind fun r5226_ =>
    cond (r5226_) (some (.out 6)) ((link_twice F l5153_).bind fun r5229_ =>
    cond (r5229_) (some (.out 6)) (some (.go ())))) fun (_ : Unit) =>
    link_linker_once_L1 F x_ k1_ (w64 (n3490_ + 1))) (some (.go ()))
def link_linker_once (F : Nat) (x_ : link_linker) : Option (Int) :=
  seqR (α := Unit) (link_linker_once_L1 F x_ F 0) fun (_ : Unit) =>
  some 0
def slices_Equal_api_Kind_api_Kind_L1 (s1_ : List Kind) (s2_ : List Kind) : Nat → Int → Option (Way (Bool) (Unit))
  | 0, _ => none
  | k1_ + 1, n65_ =>
    cond (decide (n65_ < (s1_.length : Int))) ((idx s1_ n65_).bind fun x82_ =>
    (idx s2_ n65_).bind fun x88_ =>
    cond (!decide (x82_ = x88_)) (some (.out false)) (slices_Equal_api_Kind_api_Kind_L1 s1_ s2_ k1_ (w64 (n65_ + 1)))) (some (.go ()))
def slices_Equal_api_Kind_api_Kind (F : Nat) (s1_ : List Kind) (s2_ : List Kind) : Option (Bool) :=
  cond (!decide ((s1_.length : Int) = (s2_.length : Int))) (some false) (seqR (α := Unit) (slices_Equal_api_Kind_api_Kind_L1 s1_ s2_ F 0) fun (_ : Unit) =>
  some true)
def link_alike (F : Nat) (a_ : Method) (b_ : Method) : Option (Bool) :=
  cond ((!a_.Static) && (!b_.Static)) ((slices_Equal_api_Kind_api_Kind F a_.Args b_.Args).bind fun r12_ =>
  cond (r12_) (some (decide ((⟨a_.Returns.Kind, a_.Returns.Class⟩ : Kind) = (⟨b_.Returns.Kind, b_.Returns.Class⟩ : Kind)))) (some false)) (some false)
def link_linker_methods_L4 (F : Nat) (x242130_ : Method) (x242143_ : Class) : Nat → Int → Option (Way (Int) (Unit))
  | 0, _ => none
  | k4_ + 1, n242230_ =>
    cond (decide (n242230_ < (x242143_.Methods.length : Int))) ((idx x242143_.Methods n242230_).bind fun x242251_ =>
    cond (decide (x242130_.Name = x242251_.Name)) ((link_alike F (⟨x242130_.Name, x242130_.Static, x242130_.Args, (⟨x242130_.Returns.Kind, x242130_.Returns.Class⟩ : Kind), x242130_.Stack, x242130_.Locals, x242130_.Code, x242130_.Handlers⟩ : Method) (⟨x242251_.Name, x242251_.Static, x242251_.Args, (⟨x242251_.Returns.Kind, x242251_.Returns.Class⟩ : Kind), x242251_.Stack, x242251_.Locals, x242251_.Code, x242251_.Handlers⟩ : Method)).bind fun r242265_ =>
    cond (!r242265_) (some (.out 4)) (link_linker_methods_L4 F x242130_ x242143_ k4_ (w64 (n242230_ + 1)))) (link_linker_methods_L4 F x242130_ x242143_ k4_ (w64 (n242230_ + 1)))) (some (.go ()))
def link_linker_methods_L3 (F : Nat) (x_ : link_linker) (x222081_ : Class) (x240589_ : Int) : Nat → Int → Option (Way (Int) (Unit))
  | 0, _ => none
  | k3_ + 1, n241710_ =>
    cond (decide (n241710_ < (x222081_.Methods.length : Int))) (seqO (α := Unit) ((idx x222081_.Methods n241710_).bind fun x242130_ =>
    (idx x_.l x240589_).bind fun x242143_ =>
    seqO (α := Unit) (link_linker_methods_L4 F x242130_ x242143_ F 0) fun (_ : Unit) =>
    some (.go ())) fun (_ : Unit) =>
    link_linker_methods_L3 F x_ x222081_ x240589_ k3_ (w64 (n241710_ + 1))) (some (.go ()))
def link_linker_methods_L2 (F : Nat) (x_ : link_linker) (x222081_ : Class) (l222099_ : List Int) : Nat → Int → Option (Way (Int) (Unit))
  | 0, _ => none
  | k2_ + 1, n235546_ =>
    cond (decide (n235546_ < (l222099_.length : Int))) (seqO (α := Unit) ((idx l222099_ n235546_).bind fun x240589_ =>
    seqO (α := Unit) (link_linker_methods_L3 F x_ x222081_ x240589_ F 0) fun (_ : Unit) =>
    some (.go ())) fun (_ : Unit) =>
    link_linker_methods_L2 F x_ x222081_ l222099_ k2_ (w64 (n235546_ + 1))) (some (.go ()))
def link_linker_methods_L1 (F : Nat) (x_ : link_linker) : Nat → Int → Option (Way (Int) (Unit))
  | 0, _ => none
  | k1_ + 1, n161514_ =>
    cond (decide (n161514_ < (x_.l.length : Int))) (seqO (α := Unit) ((idx x_.l n161514_).bind fun x222081_ =>
    (link_linker_chain F (⟨x_.l, x_.by_, x_.supers⟩ : link_linker) n161514_).bind fun r222094_ =>
    (cut r222094_ 1 (r222094_.length : Int)).bind fun l222099_ =>
    seqO (α := Unit) (link_linker_methods_L2 F x_ x222081_ l222099_ F 0) fun (_ : Unit) =>
    some (.go ())) fun (_ : Unit) =>
    link_linker_methods_L1 F x_ k1_ (w64 (n161514_ + 1))) (some (.go ()))
def link_linker_methods (F : Nat) (x_ : link_linker) : Option (Int) :=
  seqR (α := Unit) (link_linker_methods_L1 F x_ F 0) fun (_ : Unit) =>
  some 0
end Cin
