/- NumField: the printed functions it reaches, with their walks. Laid by wip/claimpack.py out of what wip/hprint.py printed. -/
import Derived.Test.YtakcdoahpbeckaaKNumField3
namespace Go.Proofs.Ytakcdoahpbeckaa.H
open Go.RowKit Go.Proofs.YtakcdoahpbeckaaW.PrintWords Go.Proofs.YtakcdoahpbeckaaW.PrintLast Go.Proofs.YtakcdoahpbeckaaW.PrintMore
attribute [local go_sem] max2_int min2_int max_two min_two max_three min_three max_four min_four   -- for this text's walks alone
set_option linter.unusedVariables false
set_option linter.unusedSimpArgs false

attribute [local go_sem high] eqA23
/-! ### withylaw01_NumField: function 3 -/
mutual
def withylaw01_NumField.j0 : Nat → Int → Int → Bool → Int → Int → Int → Int → Int → Int → Int → Int → Int → Int → Option (Bool)
  | 0, _, _, _, _, _, _, _, _, _, _, _, _, _ => none
  | k + 1, x8, x12, x70, x324000, x324001, x325000, x325001, x326000, x326001, x332000, x332001, x340000, x340001 => if x70 = true then (some false) else (if x8 = 0 then ((num_Sub.f k x332000 x332001 x325000 x325001).bind fun bt344 => (if bt344.2.2 = 0 then (if (!(bt344.1 == x324000) || (!(bt344.2.1 == x324001))) = true then (some false) else (withylaw01_NumField.j1 k x12 x324000 x324001 x325000 x325001 x326000 x326001 x340000 x340001)) else (some false))) else (withylaw01_NumField.j1 k x12 x324000 x324001 x325000 x325001 x326000 x326001 x340000 x340001))
def withylaw01_NumField.j1 : Nat → Int → Int → Int → Int → Int → Int → Int → Int → Int → Option (Bool)
  | 0, _, _, _, _, _, _, _, _, _ => none
  | k + 1, x12, x324000, x324001, x325000, x325001, x326000, x326001, x340000, x340001 => if x12 = 0 then (withylaw01_NumField.j2 k (x325000 != 0) x324000 x324001 x325000 x325001 x326000 x326001 x340000 x340001) else (withylaw01_NumField.j2 k false x324000 x324001 x325000 x325001 x326000 x326001 x340000 x340001)
def withylaw01_NumField.j2 : Nat → Bool → Int → Int → Int → Int → Int → Int → Int → Int → Option (Bool)
  | 0, _, _, _, _, _, _, _, _, _ => none
  | k + 1, x92, x324000, x324001, x325000, x325001, x326000, x326001, x340000, x340001 => if x92 = true then ((num_Div.f k x340000 x340001 x325000 x325001).bind fun bt348 => (if bt348.2.2 = 0 then (if (!(bt348.1 == x324000) || (!(bt348.2.1 == x324001))) = true then (some false) else (withylaw01_NumField.j3 k x324000 x324001 x325000 x325001 x326000 x326001)) else (some false))) else (withylaw01_NumField.j3 k x324000 x324001 x325000 x325001 x326000 x326001)
def withylaw01_NumField.j3 : Nat → Int → Int → Int → Int → Int → Int → Option (Bool)
  | 0, _, _, _, _, _, _ => none
  | k + 1, x324000, x324001, x325000, x325001, x326000, x326001 => (withylaw01_zero.f).bind fun bt352 => ((num_Add.f k x324000 x324001 bt352.1 bt352.2).bind fun bt354 => ((withylaw01_one.f).bind fun bt358 => ((num_Mul.f k x324000 x324001 bt358.1 bt358.2).bind fun bt360 => (if bt354.2.2 = 0 then (if bt360.2.2 = 0 then (if (bt354.1 == x324000 && (bt354.2.1 == x324001)) = true then (if (bt360.1 == x324000 && (bt360.2.1 == x324001)) = true then ((withylaw01_joined.f k x324000 x324001 x325000 x325001 x326000 x326001).bind fun t364 => (if t364 = true then ((withylaw01_summed.f k).bind fun t365 => (some t365)) else (some false))) else (some false)) else (some false)) else (some false)) else (some false)))))
end
def withylaw01_NumField.f (k : Nat) (a0_0 : Int) (a0_1 : Int) (a1_0 : Int) (a1_1 : Int) (a2_0 : Int) (a2_1 : Int) : Option (Bool) := (withylaw01_fit.f k a0_0 a0_1 a1_0 a1_1 a2_0 a2_1).bind fun t326 => (if t326 = true then ((num_Add.f k a0_0 a0_1 a1_0 a1_1).bind fun bt328 => ((num_Add.f k a1_0 a1_1 a0_0 a0_1).bind fun bt332 => ((num_Mul.f k a0_0 a0_1 a1_0 a1_1).bind fun bt336 => ((num_Mul.f k a1_0 a1_1 a0_0 a0_1).bind fun bt340 => (if bt328.2.2 = bt332.2.2 then (if (!(bt328.1 == bt332.1) || (!(bt328.2.1 == bt332.2.1))) = true then (withylaw01_NumField.j0 k bt328.2.2 bt336.2.2 true a0_0 a0_1 a1_0 a1_1 a2_0 a2_1 bt328.1 bt328.2.1 bt336.1 bt336.2.1) else (if bt336.2.2 = bt340.2.2 then (withylaw01_NumField.j0 k bt328.2.2 bt336.2.2 (!(bt336.1 == bt340.1) || (!(bt336.2.1 == bt340.2.1))) a0_0 a0_1 a1_0 a1_1 a2_0 a2_1 bt328.1 bt328.2.1 bt336.1 bt336.2.1) else (withylaw01_NumField.j0 k bt328.2.2 bt336.2.2 true a0_0 a0_1 a1_0 a1_1 a2_0 a2_1 bt328.1 bt328.2.1 bt336.1 bt336.2.1))) else (withylaw01_NumField.j0 k bt328.2.2 bt336.2.2 true a0_0 a0_1 a1_0 a1_1 a2_0 a2_1 bt328.1 bt328.2.1 bt336.1 bt336.2.1)))))) else ((withylaw01_summed.f k).bind fun t327 => (some t327)))
theorem withylaw01_NumField.mono_l : ∀ k, (∀ y0 y1 y2 y3 y4 y5 y6 y7 y8 y9 y10 y11 y12, LeO (withylaw01_NumField.j0 k y0 y1 y2 y3 y4 y5 y6 y7 y8 y9 y10 y11 y12) (withylaw01_NumField.j0 (k + 1) y0 y1 y2 y3 y4 y5 y6 y7 y8 y9 y10 y11 y12)) ∧ (∀ y0 y1 y2 y3 y4 y5 y6 y7 y8, LeO (withylaw01_NumField.j1 k y0 y1 y2 y3 y4 y5 y6 y7 y8) (withylaw01_NumField.j1 (k + 1) y0 y1 y2 y3 y4 y5 y6 y7 y8)) ∧ (∀ y0 y1 y2 y3 y4 y5 y6 y7 y8, LeO (withylaw01_NumField.j2 k y0 y1 y2 y3 y4 y5 y6 y7 y8) (withylaw01_NumField.j2 (k + 1) y0 y1 y2 y3 y4 y5 y6 y7 y8)) ∧ (∀ y0 y1 y2 y3 y4 y5, LeO (withylaw01_NumField.j3 k y0 y1 y2 y3 y4 y5) (withylaw01_NumField.j3 (k + 1) y0 y1 y2 y3 y4 y5))
  | 0 => ⟨fun _ _ _ _ _ _ _ _ _ _ _ _ _ r h => by simp [withylaw01_NumField.j0] at h, fun _ _ _ _ _ _ _ _ _ r h => by simp [withylaw01_NumField.j1] at h, fun _ _ _ _ _ _ _ _ _ r h => by simp [withylaw01_NumField.j2] at h, fun _ _ _ _ _ _ r h => by simp [withylaw01_NumField.j3] at h⟩
  | k + 1 => by
    obtain ⟨ih0, ih1, ih2, ih3⟩ := withylaw01_NumField.mono_l k
    refine ⟨?_, ?_, ?_, ?_⟩
    · intro y0 y1 y2 y3 y4 y5 y6 y7 y8 y9 y10 y11 y12
      unfold withylaw01_NumField.j0
      repeat' first
      | (with_reducible exact ih0 _ _ _ _ _ _ _ _ _ _ _ _ _)
      | (with_reducible exact ih1 _ _ _ _ _ _ _ _ _)
      | (with_reducible exact ih2 _ _ _ _ _ _ _ _ _)
      | (with_reducible exact ih3 _ _ _ _ _ _)
      | (with_reducible exact num_Add.mono _ _ _ _ _)
      | (with_reducible exact num_Div.mono _ _ _ _ _)
      | (with_reducible exact num_Mul.mono _ _ _ _ _)
      | (with_reducible exact num_Sub.mono _ _ _ _ _)
      | (with_reducible exact withylaw01_fit.mono _ _ _ _ _ _ _)
      | (with_reducible exact withylaw01_joined.mono _ _ _ _ _ _ _)
      | (with_reducible exact withylaw01_summed.mono _)
      | (with_reducible exact LeO.refl _)
      | (with_reducible exact LeO.none _)
      | (with_reducible refine LeO.ite ?_ ?_)
      | (with_reducible refine LeO.bind ?_ (fun _ => ?_))
      | (with_reducible refine LeO.exc (fun _ => ?_) (fun _ => ?_))
      | exact ih0 _ _ _ _ _ _ _ _ _ _ _ _ _
      | exact ih1 _ _ _ _ _ _ _ _ _
      | exact ih2 _ _ _ _ _ _ _ _ _
      | exact ih3 _ _ _ _ _ _
      | exact num_Add.mono _ _ _ _ _
      | exact num_Div.mono _ _ _ _ _
      | exact num_Mul.mono _ _ _ _ _
      | exact num_Sub.mono _ _ _ _ _
      | exact withylaw01_fit.mono _ _ _ _ _ _ _
      | exact withylaw01_joined.mono _ _ _ _ _ _ _
      | exact withylaw01_summed.mono _
      | exact LeO.none _
      | refine LeO.ite ?_ ?_
      | refine LeO.bind ?_ (fun _ => ?_)
    · intro y0 y1 y2 y3 y4 y5 y6 y7 y8
      unfold withylaw01_NumField.j1
      repeat' first
      | (with_reducible exact ih0 _ _ _ _ _ _ _ _ _ _ _ _ _)
      | (with_reducible exact ih1 _ _ _ _ _ _ _ _ _)
      | (with_reducible exact ih2 _ _ _ _ _ _ _ _ _)
      | (with_reducible exact ih3 _ _ _ _ _ _)
      | (with_reducible exact num_Add.mono _ _ _ _ _)
      | (with_reducible exact num_Div.mono _ _ _ _ _)
      | (with_reducible exact num_Mul.mono _ _ _ _ _)
      | (with_reducible exact num_Sub.mono _ _ _ _ _)
      | (with_reducible exact withylaw01_fit.mono _ _ _ _ _ _ _)
      | (with_reducible exact withylaw01_joined.mono _ _ _ _ _ _ _)
      | (with_reducible exact withylaw01_summed.mono _)
      | (with_reducible exact LeO.refl _)
      | (with_reducible exact LeO.none _)
      | (with_reducible refine LeO.ite ?_ ?_)
      | (with_reducible refine LeO.bind ?_ (fun _ => ?_))
      | (with_reducible refine LeO.exc (fun _ => ?_) (fun _ => ?_))
      | exact ih0 _ _ _ _ _ _ _ _ _ _ _ _ _
      | exact ih1 _ _ _ _ _ _ _ _ _
      | exact ih2 _ _ _ _ _ _ _ _ _
      | exact ih3 _ _ _ _ _ _
      | exact num_Add.mono _ _ _ _ _
      | exact num_Div.mono _ _ _ _ _
      | exact num_Mul.mono _ _ _ _ _
      | exact num_Sub.mono _ _ _ _ _
      | exact withylaw01_fit.mono _ _ _ _ _ _ _
      | exact withylaw01_joined.mono _ _ _ _ _ _ _
      | exact withylaw01_summed.mono _
      | exact LeO.none _
      | refine LeO.ite ?_ ?_
      | refine LeO.bind ?_ (fun _ => ?_)
    · intro y0 y1 y2 y3 y4 y5 y6 y7 y8
      unfold withylaw01_NumField.j2
      repeat' first
      | (with_reducible exact ih0 _ _ _ _ _ _ _ _ _ _ _ _ _)
      | (with_reducible exact ih1 _ _ _ _ _ _ _ _ _)
      | (with_reducible exact ih2 _ _ _ _ _ _ _ _ _)
      | (with_reducible exact ih3 _ _ _ _ _ _)
      | (with_reducible exact num_Add.mono _ _ _ _ _)
      | (with_reducible exact num_Div.mono _ _ _ _ _)
      | (with_reducible exact num_Mul.mono _ _ _ _ _)
      | (with_reducible exact num_Sub.mono _ _ _ _ _)
      | (with_reducible exact withylaw01_fit.mono _ _ _ _ _ _ _)
      | (with_reducible exact withylaw01_joined.mono _ _ _ _ _ _ _)
      | (with_reducible exact withylaw01_summed.mono _)
      | (with_reducible exact LeO.refl _)
      | (with_reducible exact LeO.none _)
      | (with_reducible refine LeO.ite ?_ ?_)
      | (with_reducible refine LeO.bind ?_ (fun _ => ?_))
      | (with_reducible refine LeO.exc (fun _ => ?_) (fun _ => ?_))
      | exact ih0 _ _ _ _ _ _ _ _ _ _ _ _ _
      | exact ih1 _ _ _ _ _ _ _ _ _
      | exact ih2 _ _ _ _ _ _ _ _ _
      | exact ih3 _ _ _ _ _ _
      | exact num_Add.mono _ _ _ _ _
      | exact num_Div.mono _ _ _ _ _
      | exact num_Mul.mono _ _ _ _ _
      | exact num_Sub.mono _ _ _ _ _
      | exact withylaw01_fit.mono _ _ _ _ _ _ _
      | exact withylaw01_joined.mono _ _ _ _ _ _ _
      | exact withylaw01_summed.mono _
      | exact LeO.none _
      | refine LeO.ite ?_ ?_
      | refine LeO.bind ?_ (fun _ => ?_)
    · intro y0 y1 y2 y3 y4 y5
      unfold withylaw01_NumField.j3
      repeat' first
      | (with_reducible exact ih0 _ _ _ _ _ _ _ _ _ _ _ _ _)
      | (with_reducible exact ih1 _ _ _ _ _ _ _ _ _)
      | (with_reducible exact ih2 _ _ _ _ _ _ _ _ _)
      | (with_reducible exact ih3 _ _ _ _ _ _)
      | (with_reducible exact num_Add.mono _ _ _ _ _)
      | (with_reducible exact num_Div.mono _ _ _ _ _)
      | (with_reducible exact num_Mul.mono _ _ _ _ _)
      | (with_reducible exact num_Sub.mono _ _ _ _ _)
      | (with_reducible exact withylaw01_fit.mono _ _ _ _ _ _ _)
      | (with_reducible exact withylaw01_joined.mono _ _ _ _ _ _ _)
      | (with_reducible exact withylaw01_summed.mono _)
      | (with_reducible exact LeO.refl _)
      | (with_reducible exact LeO.none _)
      | (with_reducible refine LeO.ite ?_ ?_)
      | (with_reducible refine LeO.bind ?_ (fun _ => ?_))
      | (with_reducible refine LeO.exc (fun _ => ?_) (fun _ => ?_))
      | exact ih0 _ _ _ _ _ _ _ _ _ _ _ _ _
      | exact ih1 _ _ _ _ _ _ _ _ _
      | exact ih2 _ _ _ _ _ _ _ _ _
      | exact ih3 _ _ _ _ _ _
      | exact num_Add.mono _ _ _ _ _
      | exact num_Div.mono _ _ _ _ _
      | exact num_Mul.mono _ _ _ _ _
      | exact num_Sub.mono _ _ _ _ _
      | exact withylaw01_fit.mono _ _ _ _ _ _ _
      | exact withylaw01_joined.mono _ _ _ _ _ _ _
      | exact withylaw01_summed.mono _
      | exact LeO.none _
      | refine LeO.ite ?_ ?_
      | refine LeO.bind ?_ (fun _ => ?_)
theorem withylaw01_NumField.mono : ∀ a0 a1 a2 a3 a4 a5 k, LeO (withylaw01_NumField.f k a0 a1 a2 a3 a4 a5) (withylaw01_NumField.f (k + 1) a0 a1 a2 a3 a4 a5) := by
  intro a0 a1 a2 a3 a4 a5 k
  obtain ⟨ih0, ih1, ih2, ih3⟩ := withylaw01_NumField.mono_l k
  unfold withylaw01_NumField.f
  repeat' first
      | (with_reducible exact ih0 _ _ _ _ _ _ _ _ _ _ _ _ _)
      | (with_reducible exact ih1 _ _ _ _ _ _ _ _ _)
      | (with_reducible exact ih2 _ _ _ _ _ _ _ _ _)
      | (with_reducible exact ih3 _ _ _ _ _ _)
      | (with_reducible exact num_Add.mono _ _ _ _ _)
      | (with_reducible exact num_Div.mono _ _ _ _ _)
      | (with_reducible exact num_Mul.mono _ _ _ _ _)
      | (with_reducible exact num_Sub.mono _ _ _ _ _)
      | (with_reducible exact withylaw01_fit.mono _ _ _ _ _ _ _)
      | (with_reducible exact withylaw01_joined.mono _ _ _ _ _ _ _)
      | (with_reducible exact withylaw01_summed.mono _)
      | (with_reducible exact LeO.refl _)
      | (with_reducible exact LeO.none _)
      | (with_reducible refine LeO.ite ?_ ?_)
      | (with_reducible refine LeO.bind ?_ (fun _ => ?_))
      | (with_reducible refine LeO.exc (fun _ => ?_) (fun _ => ?_))
      | exact ih0 _ _ _ _ _ _ _ _ _ _ _ _ _
      | exact ih1 _ _ _ _ _ _ _ _ _
      | exact ih2 _ _ _ _ _ _ _ _ _
      | exact ih3 _ _ _ _ _ _
      | exact num_Add.mono _ _ _ _ _
      | exact num_Div.mono _ _ _ _ _
      | exact num_Mul.mono _ _ _ _ _
      | exact num_Sub.mono _ _ _ _ _
      | exact withylaw01_fit.mono _ _ _ _ _ _ _
      | exact withylaw01_joined.mono _ _ _ _ _ _ _
      | exact withylaw01_summed.mono _
      | exact LeO.none _
      | refine LeO.ite ?_ ?_
      | refine LeO.bind ?_ (fun _ => ?_)
def withylaw01_NumField.T17 : Bool × List (List Nat × List Nat) := (true, [([], []), ([], []), ([0, 1, 1], [0, 1]), ([2], [2]), ([3], [3]), ([3], [3]), ([], []), ([6, 4, 2, 0, 1, 2, 3, 4, 6], [4, 6]), ([5, 7, 0, 1, 2, 3, 4, 5, 6, 7], [5])])
def withylaw01_NumField.B17 : List Nat := [0, 0, 3, 7, 15, 15, 0, 95, 255]
theorem withylaw01_NumField.tab17 : rtab .any (opsOf Try.f3 17) = withylaw01_NumField.T17 := by kernel_rfl
theorem withylaw01_NumField.bits17 : waitsOk withylaw01_NumField.T17.2 withylaw01_NumField.B17 = true := by kernel_rfl
def withylaw01_NumField.T18 : Bool × List (List Nat × List Nat) := (true, [([], []), ([], []), ([0, 1, 1], [0, 1]), ([2], [2]), ([3], [3]), ([3], [3]), ([], []), ([6, 4, 2, 0, 1, 2, 3, 4, 6], [4, 6]), ([5, 7, 0, 1, 2, 3, 4, 5, 6, 7], [5])])
def withylaw01_NumField.B18 : List Nat := [0, 0, 3, 7, 15, 15, 0, 95, 255]
theorem withylaw01_NumField.tab18 : rtab .any (opsOf Try.f3 18) = withylaw01_NumField.T18 := by kernel_rfl
theorem withylaw01_NumField.bits18 : waitsOk withylaw01_NumField.T18.2 withylaw01_NumField.B18 = true := by kernel_rfl
set_option maxHeartbeats 8000000 in
set_option maxRecDepth 100000 in
theorem withylaw01_NumField.calls (k : Nat) (a0_0 : Int) (a0_1 : Int) (a1_0 : Int) (a1_1 : Int) (a2_0 : Int) (a2_1 : Int) (r : Bool) (w : World) (h : withylaw01_NumField.f k a0_0 a0_1 a1_0 a1_1 a2_0 a2_1 = some r) :
    Calls Try.prog 3 #[.agg #[.int .i64 a0_0, .int .i64 a0_1], .agg #[.int .i64 a1_0, .int .i64 a1_1], .agg #[.int .i64 a2_0, .int .i64 a2_1]] w fun e w' => e = .returned (.bool r) ∧ Below w.heap.size w w' := by
 have hu23 := Try.underlying23
 have HB := Aside0.mk (Below.refl w.heap.size w)
 have H : ((withylaw01_fit.f k a0_0 a0_1 a1_0 a1_1 a2_0 a2_1).bind fun t326 => (if t326 = true then ((num_Add.f k a0_0 a0_1 a1_0 a1_1).bind fun bt328 => ((num_Add.f k a1_0 a1_1 a0_0 a0_1).bind fun bt332 => ((num_Mul.f k a0_0 a0_1 a1_0 a1_1).bind fun bt336 => ((num_Mul.f k a1_0 a1_1 a0_0 a0_1).bind fun bt340 => (if bt328.2.2 = bt332.2.2 then (if (!(bt328.1 == bt332.1) || (!(bt328.2.1 == bt332.2.1))) = true then (withylaw01_NumField.j0 k bt328.2.2 bt336.2.2 true a0_0 a0_1 a1_0 a1_1 a2_0 a2_1 bt328.1 bt328.2.1 bt336.1 bt336.2.1) else (if bt336.2.2 = bt340.2.2 then (withylaw01_NumField.j0 k bt328.2.2 bt336.2.2 (!(bt336.1 == bt340.1) || (!(bt336.2.1 == bt340.2.1))) a0_0 a0_1 a1_0 a1_1 a2_0 a2_1 bt328.1 bt328.2.1 bt336.1 bt336.2.1) else (withylaw01_NumField.j0 k bt328.2.2 bt336.2.2 true a0_0 a0_1 a1_0 a1_1 a2_0 a2_1 bt328.1 bt328.2.1 bt336.1 bt336.2.1))) else (withylaw01_NumField.j0 k bt328.2.2 bt336.2.2 true a0_0 a0_1 a1_0 a1_1 a2_0 a2_1 bt328.1 bt328.2.1 bt336.1 bt336.2.1)))))) else ((withylaw01_summed.f k).bind fun t327 => (some t327)))) = some r := h
 clear h
 replace H := Option.bind_eq_some_iff.mp H
 obtain ⟨t326, A40, H⟩ := H
 replace H : (if t326 = true then ((num_Add.f k a0_0 a0_1 a1_0 a1_1).bind fun bt328 => ((num_Add.f k a1_0 a1_1 a0_0 a0_1).bind fun bt332 => ((num_Mul.f k a0_0 a0_1 a1_0 a1_1).bind fun bt336 => ((num_Mul.f k a1_0 a1_1 a0_0 a0_1).bind fun bt340 => (if bt328.2.2 = bt332.2.2 then (if (!(bt328.1 == bt332.1) || (!(bt328.2.1 == bt332.2.1))) = true then (withylaw01_NumField.j0 k bt328.2.2 bt336.2.2 true a0_0 a0_1 a1_0 a1_1 a2_0 a2_1 bt328.1 bt328.2.1 bt336.1 bt336.2.1) else (if bt336.2.2 = bt340.2.2 then (withylaw01_NumField.j0 k bt328.2.2 bt336.2.2 (!(bt336.1 == bt340.1) || (!(bt336.2.1 == bt340.2.1))) a0_0 a0_1 a1_0 a1_1 a2_0 a2_1 bt328.1 bt328.2.1 bt336.1 bt336.2.1) else (withylaw01_NumField.j0 k bt328.2.2 bt336.2.2 true a0_0 a0_1 a1_0 a1_1 a2_0 a2_1 bt328.1 bt328.2.1 bt336.1 bt336.2.1))) else (withylaw01_NumField.j0 k bt328.2.2 bt336.2.2 true a0_0 a0_1 a1_0 a1_1 a2_0 a2_1 bt328.1 bt328.2.1 bt336.1 bt336.2.1)))))) else ((withylaw01_summed.f k).bind fun t327 => (some t327))) = some r := H
 have A4 := Aside0.mk A40
 clear A40
 by_cases c5 : t326 = true
 case neg =>
  replace c5 := Bool.eq_false_iff.mpr c5
  subst c5
  have H1 : ((withylaw01_summed.f k).bind fun t327 => (some t327)) = some r := by rw [if_neg (show ¬ (false = true) by decide)] at H; exact H
  clear H
  have H := H1
  clear H1
  replace H := Option.bind_eq_some_iff.mp H
  obtain ⟨t327, A5030, H⟩ := H
  replace H : (some t327) = some r := H
  have A503 := Aside0.mk A5030
  clear A5030
  obtain rfl := Option.some.inj H
  as_aux_lemma =>
   go_enter Try.func3, Try.ntmps3
   go_wp2_with (first | ((with_reducible refine gate_dst (N := 3) rfl ?_); refine box_event ?hg (N := 3) ?hd (cs := #[.int .i64 a0_0, .int .i64 a0_1]) (t := 23) ?hr ?_; (case hd => rfl); (case hg => rfl); (case hr => first | (go_simp; done) | (go_simp; rfl)); intro gb323 hg w504 hbox hb; have BK323 := Aside0.mk hbox; have GW323 := bwg_ HB hg; have GE323 := bwg_ HB hg; replace HB := bws_ HB hb; clear hb hbox hg) | ((with_reducible refine gate_dst (N := 4) rfl ?_); refine box_event ?hg (N := 4) ?hd (cs := #[.int .i64 a1_0, .int .i64 a1_1]) (t := 23) ?hr ?_; (case hd => rfl); (case hg => rfl); (case hr => first | (go_simp; done) | (go_simp; rfl)); intro gb324 hg w505 hbox hb; have BK324 := Aside0.mk hbox; have GW324 := bwg_ HB hg; have GE324 := bwg_ HB hg; replace HB := bws_ HB hb; have NB323_324 := bkl_ BK323 hg; have NB324_323 := bkr_ BK323 hg; replace BK323 := bkb_ BK323 hb; clear hb hbox hg) | ((with_reducible refine gate_dst (N := 5) rfl ?_); refine box_event ?hg (N := 5) ?hd (cs := #[.int .i64 a2_0, .int .i64 a2_1]) (t := 23) ?hr ?_; (case hd => rfl); (case hg => rfl); (case hr => first | (go_simp; done) | (go_simp; rfl)); intro gb325 hg w506 hbox hb; have BK325 := Aside0.mk hbox; have GW325 := bwg_ HB hg; have GE325 := bwg_ HB hg; replace HB := bws_ HB hb; have NB323_325 := bkl_ BK323 hg; have NB325_323 := bkr_ BK323 hg; replace BK323 := bkb_ BK323 hb; have NB324_325 := bkl_ BK324 hg; have NB325_324 := bkr_ BK324 hg; replace BK324 := bkb_ BK324 hb; clear hb hbox hg; have hnb507 := NB323_324.out; have hnc507 := NB324_323.out; have hnb508 := NB323_325.out; have hnc508 := NB325_323.out; obtain ⟨hcz509_0, hcz509_1, hfz509_0, hfz509_1⟩ := bc2_ BK323; have hnb510 := NB324_325.out; have hnc510 := NB325_324.out; obtain ⟨hcz511_0, hcz511_1, hfz511_0, hfz511_1⟩ := bc2_ BK324; obtain ⟨hcz512_0, hcz512_1, hfz512_0, hfz512_1⟩ := bc2_ BK325) | ((with_reducible refine gate_callee (f := 16) rfl ?_); refine gla_ (some 26) Try.func16 #[.agg #[.int .i64 a0_0, .int .i64 a0_1], .agg #[.int .i64 a1_0, .int .i64 a1_1], .agg #[.int .i64 a2_0, .int .i64 a2_1]] ?_; (with_reducible refine (withylaw01_fit.calls k a0_0 a0_1 a1_0 a1_1 a2_0 a2_1 false _ A4.out).mono ?_); rintro e w513 ⟨rfl, hb⟩; refine ⟨_, rfl, ?_⟩; replace BK323 := bkb_ BK323 hb; replace BK324 := bkb_ BK324 hb; replace BK325 := bkb_ BK325 hb; replace HB := bws_ HB hb; (try clear hb); (try clear hb2); (try clear hk); (try clear hi)) | ((with_reducible refine gate_callee (f := 17) rfl ?_); refine gla_ (some 28) Try.func17 #[] ?_; (with_reducible refine (withylaw01_summed.calls k  t327 _ A503.out).mono ?_); rintro e w514 ⟨rfl, hb⟩; refine ⟨_, rfl, ?_⟩; replace BK323 := bkb_ BK323 hb; replace BK324 := bkb_ BK324 hb; replace BK325 := bkb_ BK325 hb; replace HB := bws_ HB hb; (try clear hb); (try clear hb2); (try clear hk); (try clear hi)))
   go_ret
   exact ⟨by first | rfl | (simp [*] <;> rfl), bw_ HB⟩
 subst c5
 have H1 : ((num_Add.f k a0_0 a0_1 a1_0 a1_1).bind fun bt328 => ((num_Add.f k a1_0 a1_1 a0_0 a0_1).bind fun bt332 => ((num_Mul.f k a0_0 a0_1 a1_0 a1_1).bind fun bt336 => ((num_Mul.f k a1_0 a1_1 a0_0 a0_1).bind fun bt340 => (if bt328.2.2 = bt332.2.2 then (if (!(bt328.1 == bt332.1) || (!(bt328.2.1 == bt332.2.1))) = true then (withylaw01_NumField.j0 k bt328.2.2 bt336.2.2 true a0_0 a0_1 a1_0 a1_1 a2_0 a2_1 bt328.1 bt328.2.1 bt336.1 bt336.2.1) else (if bt336.2.2 = bt340.2.2 then (withylaw01_NumField.j0 k bt328.2.2 bt336.2.2 (!(bt336.1 == bt340.1) || (!(bt336.2.1 == bt340.2.1))) a0_0 a0_1 a1_0 a1_1 a2_0 a2_1 bt328.1 bt328.2.1 bt336.1 bt336.2.1) else (withylaw01_NumField.j0 k bt328.2.2 bt336.2.2 true a0_0 a0_1 a1_0 a1_1 a2_0 a2_1 bt328.1 bt328.2.1 bt336.1 bt336.2.1))) else (withylaw01_NumField.j0 k bt328.2.2 bt336.2.2 true a0_0 a0_1 a1_0 a1_1 a2_0 a2_1 bt328.1 bt328.2.1 bt336.1 bt336.2.1)))))) = some r := by rw [if_pos rfl] at H; exact H
 clear H
 have H := H1
 clear H1
 replace H := Option.bind_eq_some_iff.mp H
 obtain ⟨⟨t328, t329, t330⟩, A60, H⟩ := H
 replace H : ((num_Add.f k a1_0 a1_1 a0_0 a0_1).bind fun bt332 => ((num_Mul.f k a0_0 a0_1 a1_0 a1_1).bind fun bt336 => ((num_Mul.f k a1_0 a1_1 a0_0 a0_1).bind fun bt340 => (if t330 = bt332.2.2 then (if (!(t328 == bt332.1) || (!(t329 == bt332.2.1))) = true then (withylaw01_NumField.j0 k t330 bt336.2.2 true a0_0 a0_1 a1_0 a1_1 a2_0 a2_1 t328 t329 bt336.1 bt336.2.1) else (if bt336.2.2 = bt340.2.2 then (withylaw01_NumField.j0 k t330 bt336.2.2 (!(bt336.1 == bt340.1) || (!(bt336.2.1 == bt340.2.1))) a0_0 a0_1 a1_0 a1_1 a2_0 a2_1 t328 t329 bt336.1 bt336.2.1) else (withylaw01_NumField.j0 k t330 bt336.2.2 true a0_0 a0_1 a1_0 a1_1 a2_0 a2_1 t328 t329 bt336.1 bt336.2.1))) else (withylaw01_NumField.j0 k t330 bt336.2.2 true a0_0 a0_1 a1_0 a1_1 a2_0 a2_1 t328 t329 bt336.1 bt336.2.1))))) = some r := H
 have A6 := Aside0.mk A60
 clear A60
 replace H := Option.bind_eq_some_iff.mp H
 obtain ⟨⟨t332, t333, t334⟩, A70, H⟩ := H
 replace H : ((num_Mul.f k a0_0 a0_1 a1_0 a1_1).bind fun bt336 => ((num_Mul.f k a1_0 a1_1 a0_0 a0_1).bind fun bt340 => (if t330 = t334 then (if (!(t328 == t332) || (!(t329 == t333))) = true then (withylaw01_NumField.j0 k t330 bt336.2.2 true a0_0 a0_1 a1_0 a1_1 a2_0 a2_1 t328 t329 bt336.1 bt336.2.1) else (if bt336.2.2 = bt340.2.2 then (withylaw01_NumField.j0 k t330 bt336.2.2 (!(bt336.1 == bt340.1) || (!(bt336.2.1 == bt340.2.1))) a0_0 a0_1 a1_0 a1_1 a2_0 a2_1 t328 t329 bt336.1 bt336.2.1) else (withylaw01_NumField.j0 k t330 bt336.2.2 true a0_0 a0_1 a1_0 a1_1 a2_0 a2_1 t328 t329 bt336.1 bt336.2.1))) else (withylaw01_NumField.j0 k t330 bt336.2.2 true a0_0 a0_1 a1_0 a1_1 a2_0 a2_1 t328 t329 bt336.1 bt336.2.1)))) = some r := H
 have A7 := Aside0.mk A70
 clear A70
 replace H := Option.bind_eq_some_iff.mp H
 obtain ⟨⟨t336, t337, t338⟩, A80, H⟩ := H
 replace H : ((num_Mul.f k a1_0 a1_1 a0_0 a0_1).bind fun bt340 => (if t330 = t334 then (if (!(t328 == t332) || (!(t329 == t333))) = true then (withylaw01_NumField.j0 k t330 t338 true a0_0 a0_1 a1_0 a1_1 a2_0 a2_1 t328 t329 t336 t337) else (if t338 = bt340.2.2 then (withylaw01_NumField.j0 k t330 t338 (!(t336 == bt340.1) || (!(t337 == bt340.2.1))) a0_0 a0_1 a1_0 a1_1 a2_0 a2_1 t328 t329 t336 t337) else (withylaw01_NumField.j0 k t330 t338 true a0_0 a0_1 a1_0 a1_1 a2_0 a2_1 t328 t329 t336 t337))) else (withylaw01_NumField.j0 k t330 t338 true a0_0 a0_1 a1_0 a1_1 a2_0 a2_1 t328 t329 t336 t337))) = some r := H
 have A8 := Aside0.mk A80
 clear A80
 replace H := Option.bind_eq_some_iff.mp H
 obtain ⟨⟨t340, t341, t342⟩, A90, H⟩ := H
 replace H : (if t330 = t334 then (if (!(t328 == t332) || (!(t329 == t333))) = true then (withylaw01_NumField.j0 k t330 t338 true a0_0 a0_1 a1_0 a1_1 a2_0 a2_1 t328 t329 t336 t337) else (if t338 = t342 then (withylaw01_NumField.j0 k t330 t338 (!(t336 == t340) || (!(t337 == t341))) a0_0 a0_1 a1_0 a1_1 a2_0 a2_1 t328 t329 t336 t337) else (withylaw01_NumField.j0 k t330 t338 true a0_0 a0_1 a1_0 a1_1 a2_0 a2_1 t328 t329 t336 t337))) else (withylaw01_NumField.j0 k t330 t338 true a0_0 a0_1 a1_0 a1_1 a2_0 a2_1 t328 t329 t336 t337)) = some r := H
 have A9 := Aside0.mk A90
 clear A90
 have HC10 := Aside0.mk H
 clear H
 as_aux_lemma =>
  go_enter Try.func3, Try.ntmps3
  go_upto_region 7 with (first | ((with_reducible refine gate_dst (N := 3) rfl ?_); refine box_event ?hg (N := 3) ?hd (cs := #[.int .i64 a0_0, .int .i64 a0_1]) (t := 23) ?hr ?_; (case hd => rfl); (case hg => rfl); (case hr => first | (go_simp; done) | (go_simp; rfl)); intro gb323 hg w11 hbox hb; have BK323 := Aside0.mk hbox; have GW323 := bwg_ HB hg; have GE323 := bwg_ HB hg; replace HB := bws_ HB hb; clear hb hbox hg) | ((with_reducible refine gate_dst (N := 4) rfl ?_); refine box_event ?hg (N := 4) ?hd (cs := #[.int .i64 a1_0, .int .i64 a1_1]) (t := 23) ?hr ?_; (case hd => rfl); (case hg => rfl); (case hr => first | (go_simp; done) | (go_simp; rfl)); intro gb324 hg w12 hbox hb; have BK324 := Aside0.mk hbox; have GW324 := bwg_ HB hg; have GE324 := bwg_ HB hg; replace HB := bws_ HB hb; have NB323_324 := bkl_ BK323 hg; have NB324_323 := bkr_ BK323 hg; replace BK323 := bkb_ BK323 hb; clear hb hbox hg) | ((with_reducible refine gate_dst (N := 5) rfl ?_); refine box_event ?hg (N := 5) ?hd (cs := #[.int .i64 a2_0, .int .i64 a2_1]) (t := 23) ?hr ?_; (case hd => rfl); (case hg => rfl); (case hr => first | (go_simp; done) | (go_simp; rfl)); intro gb325 hg w13 hbox hb; have BK325 := Aside0.mk hbox; have GW325 := bwg_ HB hg; have GE325 := bwg_ HB hg; replace HB := bws_ HB hb; have NB323_325 := bkl_ BK323 hg; have NB325_323 := bkr_ BK323 hg; replace BK323 := bkb_ BK323 hb; have NB324_325 := bkl_ BK324 hg; have NB325_324 := bkr_ BK324 hg; replace BK324 := bkb_ BK324 hb; clear hb hbox hg; have hnb14 := NB323_324.out; have hnc14 := NB324_323.out; have hnb15 := NB323_325.out; have hnc15 := NB325_323.out; obtain ⟨hcz16_0, hcz16_1, hfz16_0, hfz16_1⟩ := bc2_ BK323; have hnb17 := NB324_325.out; have hnc17 := NB325_324.out; obtain ⟨hcz18_0, hcz18_1, hfz18_0, hfz18_1⟩ := bc2_ BK324; obtain ⟨hcz19_0, hcz19_1, hfz19_0, hfz19_1⟩ := bc2_ BK325) | ((with_reducible refine gate_callee (f := 16) rfl ?_); refine gla_ (some 26) Try.func16 #[.agg #[.int .i64 a0_0, .int .i64 a0_1], .agg #[.int .i64 a1_0, .int .i64 a1_1], .agg #[.int .i64 a2_0, .int .i64 a2_1]] ?_; (with_reducible refine (withylaw01_fit.calls k a0_0 a0_1 a1_0 a1_1 a2_0 a2_1 true _ A4.out).mono ?_); rintro e w20 ⟨rfl, hb⟩; refine ⟨_, rfl, ?_⟩; replace BK323 := bkb_ BK323 hb; replace BK324 := bkb_ BK324 hb; replace BK325 := bkb_ BK325 hb; replace HB := bws_ HB hb; (try clear hb); (try clear hb2); (try clear hk); (try clear hi); obtain ⟨hcz21_0, hcz21_1, hfz21_0, hfz21_1⟩ := bc2_ BK323; obtain ⟨hcz22_0, hcz22_1, hfz22_0, hfz22_1⟩ := bc2_ BK324) | ((with_reducible refine gate_callee (f := 18) rfl ?_); refine gla_ (some 32) Try.func18 #[.agg #[.int .i64 a0_0, .int .i64 a0_1], .agg #[.int .i64 a1_0, .int .i64 a1_1]] ?_; (with_reducible refine (num_Add.calls k a0_0 a0_1 a1_0 a1_1 t328 t329 t330 _ A6.out).mono ?_); rintro e w23 ⟨rfl, hb⟩; refine ⟨_, rfl, ?_⟩; replace BK323 := bkb_ BK323 hb; replace BK324 := bkb_ BK324 hb; replace BK325 := bkb_ BK325 hb; replace HB := bws_ HB hb; (try clear hb); (try clear hb2); (try clear hk); (try clear hi)) | ((with_reducible refine gate_dst (N := 7) rfl ?_); refine box_event ?hg (N := 7) ?hd (cs := #[.int .i64 0, .int .i64 0]) (t := 23) ?hr ?_; (case hd => rfl); (case hg => rfl); (case hr => first | (go_simp; done) | (go_simp; rfl)); intro gb331 hg w24 hbox hb; have BK331 := Aside0.mk hbox; have GW331 := bwg_ HB hg; have GE331 := bwg_ HB hg; replace HB := bws_ HB hb; have NB323_331 := bkl_ BK323 hg; have NB331_323 := bkr_ BK323 hg; replace BK323 := bkb_ BK323 hb; have NB324_331 := bkl_ BK324 hg; have NB331_324 := bkr_ BK324 hg; replace BK324 := bkb_ BK324 hb; have NB325_331 := bkl_ BK325 hg; have NB331_325 := bkr_ BK325 hg; replace BK325 := bkb_ BK325 hb; clear hb hbox hg; have hnb25 := NB331_323.out; have hnc25 := NB323_331.out; have hnb26 := NB331_324.out; have hnc26 := NB324_331.out; have hnb27 := NB331_325.out; have hnc27 := NB325_331.out; obtain ⟨hcz28_0, hcz28_1, hfz28_0, hfz28_1⟩ := bc2_ BK331; obtain ⟨hcz29_0, hcz29_1, hfz29_0, hfz29_1⟩ := bc2_ BK324; obtain ⟨hcz30_0, hcz30_1, hfz30_0, hfz30_1⟩ := bc2_ BK323) | ((with_reducible refine gate_callee (f := 18) rfl ?_); refine gla_ (some 38) Try.func18 #[.agg #[.int .i64 a1_0, .int .i64 a1_1], .agg #[.int .i64 a0_0, .int .i64 a0_1]] ?_; (with_reducible refine (num_Add.calls k a1_0 a1_1 a0_0 a0_1 t332 t333 t334 _ A7.out).mono ?_); rintro e w31 ⟨rfl, hb⟩; refine ⟨_, rfl, ?_⟩; replace BK323 := Aside0.mk (blk_below (g := gb323) (o := .cells #[.int .i64 a0_0, .int .i64 a0_1] 23 (0, 0)) (by refine bf_ ?_ NB323_331; refine bf_ ?_ NB323_331; exact bk_ BK323) hb); replace BK324 := Aside0.mk (blk_below (g := gb324) (o := .cells #[.int .i64 a1_0, .int .i64 a1_1] 23 (0, 0)) (by refine bf_ ?_ NB324_331; refine bf_ ?_ NB324_331; exact bk_ BK324) hb); replace BK325 := Aside0.mk (blk_below (g := gb325) (o := .cells #[.int .i64 a2_0, .int .i64 a2_1] 23 (0, 0)) (by refine bf_ ?_ NB325_331; refine bf_ ?_ NB325_331; exact bk_ BK325) hb); replace BK331 := Aside0.mk (blk_below (g := gb331) (o := .cells #[.int .i64 t328, .int .i64 t329] 23 (0, 0)) (by refine bp_ (cs := #[.int .i64 t328, .int .i64 0]) ?_ 1; refine bp_ (cs := #[.int .i64 0, .int .i64 0]) ?_ 0; exact bk_ BK331) hb); replace HB := bws_ HB hb; (try clear hb); (try clear hb2); (try clear hk); (try clear hi)) | ((with_reducible refine gate_dst (N := 9) rfl ?_); refine box_event ?hg (N := 9) ?hd (cs := #[.int .i64 0, .int .i64 0]) (t := 23) ?hr ?_; (case hd => rfl); (case hg => rfl); (case hr => first | (go_simp; done) | (go_simp; rfl)); intro gb335 hg w32 hbox hb; have BK335 := Aside0.mk hbox; have GW335 := bwg_ HB hg; have GE335 := bwg_ HB hg; replace HB := bws_ HB hb; have NB323_335 := bkl_ BK323 hg; have NB335_323 := bkr_ BK323 hg; replace BK323 := bkb_ BK323 hb; have NB324_335 := bkl_ BK324 hg; have NB335_324 := bkr_ BK324 hg; replace BK324 := bkb_ BK324 hb; have NB325_335 := bkl_ BK325 hg; have NB335_325 := bkr_ BK325 hg; replace BK325 := bkb_ BK325 hb; have NB331_335 := bkl_ BK331 hg; have NB335_331 := bkr_ BK331 hg; replace BK331 := bkb_ BK331 hb; clear hb hbox hg; have hnb33 := NB335_323.out; have hnc33 := NB323_335.out; have hnb34 := NB335_324.out; have hnc34 := NB324_335.out; have hnb35 := NB335_325.out; have hnc35 := NB325_335.out; have hnb36 := NB335_331.out; have hnc36 := NB331_335.out; obtain ⟨hcz37_0, hcz37_1, hfz37_0, hfz37_1⟩ := bc2_ BK335; obtain ⟨hcz38_0, hcz38_1, hfz38_0, hfz38_1⟩ := bc2_ BK323; obtain ⟨hcz39_0, hcz39_1, hfz39_0, hfz39_1⟩ := bc2_ BK324) | ((with_reducible refine gate_callee (f := 19) rfl ?_); refine gla_ (some 44) Try.func19 #[.agg #[.int .i64 a0_0, .int .i64 a0_1], .agg #[.int .i64 a1_0, .int .i64 a1_1]] ?_; (with_reducible refine (num_Mul.calls k a0_0 a0_1 a1_0 a1_1 t336 t337 t338 _ A8.out).mono ?_); rintro e w40 ⟨rfl, hb⟩; refine ⟨_, rfl, ?_⟩; replace BK323 := Aside0.mk (blk_below (g := gb323) (o := .cells #[.int .i64 a0_0, .int .i64 a0_1] 23 (0, 0)) (by refine bf_ ?_ NB323_335; refine bf_ ?_ NB323_335; exact bk_ BK323) hb); replace BK324 := Aside0.mk (blk_below (g := gb324) (o := .cells #[.int .i64 a1_0, .int .i64 a1_1] 23 (0, 0)) (by refine bf_ ?_ NB324_335; refine bf_ ?_ NB324_335; exact bk_ BK324) hb); replace BK325 := Aside0.mk (blk_below (g := gb325) (o := .cells #[.int .i64 a2_0, .int .i64 a2_1] 23 (0, 0)) (by refine bf_ ?_ NB325_335; refine bf_ ?_ NB325_335; exact bk_ BK325) hb); replace BK331 := Aside0.mk (blk_below (g := gb331) (o := .cells #[.int .i64 t328, .int .i64 t329] 23 (0, 0)) (by refine bf_ ?_ NB331_335; refine bf_ ?_ NB331_335; exact bk_ BK331) hb); replace BK335 := Aside0.mk (blk_below (g := gb335) (o := .cells #[.int .i64 t332, .int .i64 t333] 23 (0, 0)) (by refine bp_ (cs := #[.int .i64 t332, .int .i64 0]) ?_ 1; refine bp_ (cs := #[.int .i64 0, .int .i64 0]) ?_ 0; exact bk_ BK335) hb); replace HB := bws_ HB hb; (try clear hb); (try clear hb2); (try clear hk); (try clear hi)) | ((with_reducible refine gate_dst (N := 11) rfl ?_); refine box_event ?hg (N := 11) ?hd (cs := #[.int .i64 0, .int .i64 0]) (t := 23) ?hr ?_; (case hd => rfl); (case hg => rfl); (case hr => first | (go_simp; done) | (go_simp; rfl)); intro gb339 hg w41 hbox hb; have BK339 := Aside0.mk hbox; have GW339 := bwg_ HB hg; have GE339 := bwg_ HB hg; replace HB := bws_ HB hb; have NB323_339 := bkl_ BK323 hg; have NB339_323 := bkr_ BK323 hg; replace BK323 := bkb_ BK323 hb; have NB324_339 := bkl_ BK324 hg; have NB339_324 := bkr_ BK324 hg; replace BK324 := bkb_ BK324 hb; have NB325_339 := bkl_ BK325 hg; have NB339_325 := bkr_ BK325 hg; replace BK325 := bkb_ BK325 hb; have NB331_339 := bkl_ BK331 hg; have NB339_331 := bkr_ BK331 hg; replace BK331 := bkb_ BK331 hb; have NB335_339 := bkl_ BK335 hg; have NB339_335 := bkr_ BK335 hg; replace BK335 := bkb_ BK335 hb; clear hb hbox hg; have hnb42 := NB339_323.out; have hnc42 := NB323_339.out; have hnb43 := NB339_324.out; have hnc43 := NB324_339.out; have hnb44 := NB339_325.out; have hnc44 := NB325_339.out; have hnb45 := NB339_331.out; have hnc45 := NB331_339.out; have hnb46 := NB339_335.out; have hnc46 := NB335_339.out; obtain ⟨hcz47_0, hcz47_1, hfz47_0, hfz47_1⟩ := bc2_ BK339; obtain ⟨hcz48_0, hcz48_1, hfz48_0, hfz48_1⟩ := bc2_ BK324; obtain ⟨hcz49_0, hcz49_1, hfz49_0, hfz49_1⟩ := bc2_ BK323) | ((with_reducible refine gate_callee (f := 19) rfl ?_); refine gla_ (some 50) Try.func19 #[.agg #[.int .i64 a1_0, .int .i64 a1_1], .agg #[.int .i64 a0_0, .int .i64 a0_1]] ?_; (with_reducible refine (num_Mul.calls k a1_0 a1_1 a0_0 a0_1 t340 t341 t342 _ A9.out).mono ?_); rintro e w50 ⟨rfl, hb⟩; refine ⟨_, rfl, ?_⟩; replace BK323 := Aside0.mk (blk_below (g := gb323) (o := .cells #[.int .i64 a0_0, .int .i64 a0_1] 23 (0, 0)) (by refine bf_ ?_ NB323_339; refine bf_ ?_ NB323_339; exact bk_ BK323) hb); replace BK324 := Aside0.mk (blk_below (g := gb324) (o := .cells #[.int .i64 a1_0, .int .i64 a1_1] 23 (0, 0)) (by refine bf_ ?_ NB324_339; refine bf_ ?_ NB324_339; exact bk_ BK324) hb); replace BK325 := Aside0.mk (blk_below (g := gb325) (o := .cells #[.int .i64 a2_0, .int .i64 a2_1] 23 (0, 0)) (by refine bf_ ?_ NB325_339; refine bf_ ?_ NB325_339; exact bk_ BK325) hb); replace BK331 := Aside0.mk (blk_below (g := gb331) (o := .cells #[.int .i64 t328, .int .i64 t329] 23 (0, 0)) (by refine bf_ ?_ NB331_339; refine bf_ ?_ NB331_339; exact bk_ BK331) hb); replace BK335 := Aside0.mk (blk_below (g := gb335) (o := .cells #[.int .i64 t332, .int .i64 t333] 23 (0, 0)) (by refine bf_ ?_ NB335_339; refine bf_ ?_ NB335_339; exact bk_ BK335) hb); replace BK339 := Aside0.mk (blk_below (g := gb339) (o := .cells #[.int .i64 t336, .int .i64 t337] 23 (0, 0)) (by refine bp_ (cs := #[.int .i64 t336, .int .i64 0]) ?_ 1; refine bp_ (cs := #[.int .i64 0, .int .i64 0]) ?_ 0; exact bk_ BK339) hb); replace HB := bws_ HB hb; (try clear hb); (try clear hb2); (try clear hk); (try clear hi)) | ((with_reducible refine gate_dst (N := 13) rfl ?_); refine box_event ?hg (N := 13) ?hd (cs := #[.int .i64 0, .int .i64 0]) (t := 23) ?hr ?_; (case hd => rfl); (case hg => rfl); (case hr => first | (go_simp; done) | (go_simp; rfl)); intro gb343 hg w51 hbox hb; have BK343 := Aside0.mk hbox; have GW343 := bwg_ HB hg; have GE343 := bwg_ HB hg; replace HB := bws_ HB hb; have NB323_343 := bkl_ BK323 hg; have NB343_323 := bkr_ BK323 hg; replace BK323 := bkb_ BK323 hb; have NB324_343 := bkl_ BK324 hg; have NB343_324 := bkr_ BK324 hg; replace BK324 := bkb_ BK324 hb; have NB325_343 := bkl_ BK325 hg; have NB343_325 := bkr_ BK325 hg; replace BK325 := bkb_ BK325 hb; have NB331_343 := bkl_ BK331 hg; have NB343_331 := bkr_ BK331 hg; replace BK331 := bkb_ BK331 hb; have NB335_343 := bkl_ BK335 hg; have NB343_335 := bkr_ BK335 hg; replace BK335 := bkb_ BK335 hb; have NB339_343 := bkl_ BK339 hg; have NB343_339 := bkr_ BK339 hg; replace BK339 := bkb_ BK339 hb; clear hb hbox hg; have hnb52 := NB343_323.out; have hnc52 := NB323_343.out; have hnb53 := NB343_324.out; have hnc53 := NB324_343.out; have hnb54 := NB343_325.out; have hnc54 := NB325_343.out; have hnb55 := NB343_331.out; have hnc55 := NB331_343.out; have hnb56 := NB343_335.out; have hnc56 := NB335_343.out; have hnb57 := NB343_339.out; have hnc57 := NB339_343.out; obtain ⟨hcz58_0, hcz58_1, hfz58_0, hfz58_1⟩ := bc2_ BK343))
  (try simp only [Act.put, List.setIfInBounds_toArray, List.set_cons_zero, List.set_cons_succ])
  go_cut [70] (fun v70 wc => ∃ (kq : Nat) (x70_9 : Bool), v70 = .bool x70_9 ∧ Aside0 (withylaw01_NumField.j0 kq t330 t338 x70_9 a0_0 a0_1 a1_0 a1_1 a2_0 a2_1 t328 t329 t336 t337 = some r) ∧ Aside0 (kq ≤ k) ∧ Aside0 (wc.heap[gb323]? = some (.cells #[.int .i64 a0_0, .int .i64 a0_1] 23 (0, 0))) ∧ Aside0 (wc.heap[gb324]? = some (.cells #[.int .i64 a1_0, .int .i64 a1_1] 23 (0, 0))) ∧ Aside0 (wc.heap[gb325]? = some (.cells #[.int .i64 a2_0, .int .i64 a2_1] 23 (0, 0))) ∧ Aside0 (wc.heap[gb331]? = some (.cells #[.int .i64 t328, .int .i64 t329] 23 (0, 0))) ∧ Aside0 (wc.heap[gb335]? = some (.cells #[.int .i64 t332, .int .i64 t333] 23 (0, 0))) ∧ Aside0 (wc.heap[gb339]? = some (.cells #[.int .i64 t336, .int .i64 t337] 23 (0, 0))) ∧ Aside0 (wc.heap[gb343]? = some (.cells #[.int .i64 t340, .int .i64 t341] 23 (0, 0))) ∧ Aside0 (Below w.heap.size w wc))
  case first =>
   as_aux_lemma =>
    have H := HC10.out
    clear HC10
    by_cases c59 : t330 = t334
    case neg =>
     rw [if_neg c59] at H
     have c59b0 : (t330 == t334) = false := beq_eq_false_iff_ne.mpr c59
     have c59b1 : (t330 != t334) = true := bne_iff_ne.mpr c59
     (first | rw [c59b0] | (simp only [i64_w, i32_w]; rw [c59b0]) | skip)
     have H' := Aside0.mk H
     clear H
     go_wp2
     go_meet
     case rel => exact ⟨_, (true), (by first | rfl | (simp; done) | (simp [*]; done)), H', ⟨by first | omega | exact Nat.le_refl _⟩, ⟨by refine bf_ ?_ NB323_343; refine bf_ ?_ NB323_343; exact bk_ BK323⟩, ⟨by refine bf_ ?_ NB324_343; refine bf_ ?_ NB324_343; exact bk_ BK324⟩, ⟨by refine bf_ ?_ NB325_343; refine bf_ ?_ NB325_343; exact bk_ BK325⟩, ⟨by refine bf_ ?_ NB331_343; refine bf_ ?_ NB331_343; exact bk_ BK331⟩, ⟨by refine bf_ ?_ NB335_343; refine bf_ ?_ NB335_343; exact bk_ BK335⟩, ⟨by refine bf_ ?_ NB339_343; refine bf_ ?_ NB339_343; exact bk_ BK339⟩, ⟨by refine bp_ (cs := #[.int .i64 t340, .int .i64 0]) ?_ 1; refine bp_ (cs := #[.int .i64 0, .int .i64 0]) ?_ 0; exact bk_ BK343⟩, ⟨bw_ HB⟩⟩
    rw [if_pos c59] at H
    have c59b0 : (t330 == t334) = true := beq_iff_eq.mpr c59
    have c59b1 : (t330 != t334) = false := bne_eq_false_iff_eq.mpr c59
    clear c59
    (first | rw [c59b0] | (simp only [i64_w, i32_w]; rw [c59b0]) | skip)
    by_cases c60 : (!(t328 == t332) || (!(t329 == t333))) = true
    case pos =>
     rw [if_pos c60] at H
     have c60b0 : (!(t328 == t332) || (!(t329 == t333))) = true := c60
     clear c60
     have H' := Aside0.mk H
     clear H
     have hnb61 := NB331_323.out
     have hnc61 := NB323_331.out
     have hnb62 := NB331_324.out
     have hnc62 := NB324_331.out
     have hnb63 := NB331_325.out
     have hnc63 := NB325_331.out
     have hnb64 := NB331_335.out
     have hnc64 := NB335_331.out
     have hnb65 := NB331_339.out
     have hnc65 := NB339_331.out
     have hnb66 := NB331_343.out
     have hnc66 := NB343_331.out
     obtain ⟨hcz67_0, hcz67_1, hfz67_0, hfz67_1⟩ := bc2_ BK331
     have hnb68 := NB335_323.out
     have hnc68 := NB323_335.out
     have hnb69 := NB335_324.out
     have hnc69 := NB324_335.out
     have hnb70 := NB335_325.out
     have hnc70 := NB325_335.out
     have hnb71 := NB335_339.out
     have hnc71 := NB339_335.out
     have hnb72 := NB335_343.out
     have hnc72 := NB343_335.out
     obtain ⟨hcz73_0, hcz73_1, hfz73_0, hfz73_1⟩ := bc2_ BK335
     go_wp2
     go_meet
     case rel => exact ⟨_, (true), (by first | rfl | (simp; done) | (simp [*]; done)), H', ⟨by first | omega | exact Nat.le_refl _⟩, ⟨by refine bf_ ?_ NB323_343; refine bf_ ?_ NB323_343; exact bk_ BK323⟩, ⟨by refine bf_ ?_ NB324_343; refine bf_ ?_ NB324_343; exact bk_ BK324⟩, ⟨by refine bf_ ?_ NB325_343; refine bf_ ?_ NB325_343; exact bk_ BK325⟩, ⟨by refine bf_ ?_ NB331_343; refine bf_ ?_ NB331_343; exact bk_ BK331⟩, ⟨by refine bf_ ?_ NB335_343; refine bf_ ?_ NB335_343; exact bk_ BK335⟩, ⟨by refine bf_ ?_ NB339_343; refine bf_ ?_ NB339_343; exact bk_ BK339⟩, ⟨by refine bp_ (cs := #[.int .i64 t340, .int .i64 0]) ?_ 1; refine bp_ (cs := #[.int .i64 0, .int .i64 0]) ?_ 0; exact bk_ BK343⟩, ⟨bw_ HB⟩⟩
    rw [if_neg c60] at H
    have c60b0 : (!(t328 == t332) || (!(t329 == t333))) = false := by simpa using c60
    clear c60
    by_cases c74 : t338 = t342
    case pos =>
     rw [if_pos c74] at H
     have c74b0 : (t338 == t342) = true := beq_iff_eq.mpr c74
     have c74b1 : (t338 != t342) = false := bne_eq_false_iff_eq.mpr c74
     clear c74
     have H' := Aside0.mk H
     clear H
     have hnb80 := NB331_343.out
     have hnc80 := NB343_331.out
     obtain ⟨hcz81_0, hcz81_1, hfz81_0, hfz81_1⟩ := bc2_ BK331
     have hnb86 := NB335_343.out
     have hnc86 := NB343_335.out
     obtain ⟨hcz87_0, hcz87_1, hfz87_0, hfz87_1⟩ := bc2_ BK335
     have hnb91 := NB339_343.out
     have hnc91 := NB343_339.out
     obtain ⟨hcz92_0, hcz92_1, hfz92_0, hfz92_1⟩ := bc2_ BK339
     have hnb93 := NB343_323.out
     have hnc93 := NB323_343.out
     have hnb94 := NB343_324.out
     have hnc94 := NB324_343.out
     have hnb95 := NB343_325.out
     have hnc95 := NB325_343.out
     obtain ⟨hcz96_0, hcz96_1, hfz96_0, hfz96_1⟩ := bc2_ BK343
     go_wp2
     go_meet
     case rel => exact ⟨_, ((!(t336 == t340) || (!(t337 == t341)))), (by first | rfl | (simp; done) | (simp [*]; done)), H', ⟨by first | omega | exact Nat.le_refl _⟩, ⟨by refine bf_ ?_ NB323_343; refine bf_ ?_ NB323_343; exact bk_ BK323⟩, ⟨by refine bf_ ?_ NB324_343; refine bf_ ?_ NB324_343; exact bk_ BK324⟩, ⟨by refine bf_ ?_ NB325_343; refine bf_ ?_ NB325_343; exact bk_ BK325⟩, ⟨by refine bf_ ?_ NB331_343; refine bf_ ?_ NB331_343; exact bk_ BK331⟩, ⟨by refine bf_ ?_ NB335_343; refine bf_ ?_ NB335_343; exact bk_ BK335⟩, ⟨by refine bf_ ?_ NB339_343; refine bf_ ?_ NB339_343; exact bk_ BK339⟩, ⟨by refine bp_ (cs := #[.int .i64 t340, .int .i64 0]) ?_ 1; refine bp_ (cs := #[.int .i64 0, .int .i64 0]) ?_ 0; exact bk_ BK343⟩, ⟨bw_ HB⟩⟩
    rw [if_neg c74] at H
    have c74b0 : (t338 == t342) = false := beq_eq_false_iff_ne.mpr c74
    have c74b1 : (t338 != t342) = true := bne_iff_ne.mpr c74
    have H' := Aside0.mk H
    clear H
    have hnb97 := NB331_323.out
    have hnc97 := NB323_331.out
    have hnb98 := NB331_324.out
    have hnc98 := NB324_331.out
    have hnb99 := NB331_325.out
    have hnc99 := NB325_331.out
    have hnb100 := NB331_335.out
    have hnc100 := NB335_331.out
    have hnb101 := NB331_339.out
    have hnc101 := NB339_331.out
    have hnb102 := NB331_343.out
    have hnc102 := NB343_331.out
    obtain ⟨hcz103_0, hcz103_1, hfz103_0, hfz103_1⟩ := bc2_ BK331
    have hnb104 := NB335_323.out
    have hnc104 := NB323_335.out
    have hnb105 := NB335_324.out
    have hnc105 := NB324_335.out
    have hnb106 := NB335_325.out
    have hnc106 := NB325_335.out
    have hnb107 := NB335_339.out
    have hnc107 := NB339_335.out
    have hnb108 := NB335_343.out
    have hnc108 := NB343_335.out
    obtain ⟨hcz109_0, hcz109_1, hfz109_0, hfz109_1⟩ := bc2_ BK335
    go_wp2
    go_meet
    case rel => exact ⟨_, (true), (by first | rfl | (simp; done) | (simp [*]; done)), H', ⟨by first | omega | exact Nat.le_refl _⟩, ⟨by refine bf_ ?_ NB323_343; refine bf_ ?_ NB323_343; exact bk_ BK323⟩, ⟨by refine bf_ ?_ NB324_343; refine bf_ ?_ NB324_343; exact bk_ BK324⟩, ⟨by refine bf_ ?_ NB325_343; refine bf_ ?_ NB325_343; exact bk_ BK325⟩, ⟨by refine bf_ ?_ NB331_343; refine bf_ ?_ NB331_343; exact bk_ BK331⟩, ⟨by refine bf_ ?_ NB335_343; refine bf_ ?_ NB335_343; exact bk_ BK335⟩, ⟨by refine bf_ ?_ NB339_343; refine bf_ ?_ NB339_343; exact bk_ BK339⟩, ⟨by refine bp_ (cs := #[.int .i64 t340, .int .i64 0]) ?_ 1; refine bp_ (cs := #[.int .i64 0, .int .i64 0]) ?_ 0; exact bk_ BK343⟩, ⟨bw_ HB⟩⟩
  as_aux_lemma =>
   clear HC10
   try clear c1
   try clear c2
   try clear p2
   try clear c3
   try clear c4
   try clear c5
   try clear c6
   try clear c7
   try clear c8
   try clear c9
   try clear c10
   try clear c14
   try clear c15
   try clear c16
   try clear c17
   try clear c18
   try clear c19
   try clear c25
   try clear c26
   try clear c27
   try clear c33
   try clear c34
   try clear c35
   try clear c36
   try clear c42
   try clear c43
   try clear c44
   try clear c45
   try clear c46
   try clear c52
   try clear c53
   try clear c54
   try clear c55
   try clear c56
   try clear c57
   try clear c59
   try clear c59b0
   try clear c59b1
   try clear c60
   try clear c60b0
   try clear c61
   try clear c62
   try clear c63
   try clear c64
   try clear c65
   try clear c66
   try clear c68
   try clear c69
   try clear c70
   try clear c71
   try clear c72
   try clear c74
   try clear c74b0
   try clear c74b1
   try clear c75
   try clear c76
   try clear c77
   try clear c78
   try clear c79
   try clear c80
   try clear c82
   try clear c83
   try clear c84
   try clear c85
   try clear c86
   try clear c88
   try clear c89
   try clear c90
   try clear c91
   try clear c93
   try clear c94
   try clear c95
   try clear c97
   try clear c98
   try clear c99
   try clear c100
   try clear c101
   try clear c102
   try clear c104
   try clear c105
   try clear c106
   try clear c107
   try clear c108
   try clear hcz103_0
   try clear hcz103_1
   try clear hcz109_0
   try clear hcz109_1
   try clear hcz16_0
   try clear hcz16_1
   try clear hcz18_0
   try clear hcz18_1
   try clear hcz19_0
   try clear hcz19_1
   try clear hcz21_0
   try clear hcz21_1
   try clear hcz22_0
   try clear hcz22_1
   try clear hcz28_0
   try clear hcz28_1
   try clear hcz29_0
   try clear hcz29_1
   try clear hcz30_0
   try clear hcz30_1
   try clear hcz37_0
   try clear hcz37_1
   try clear hcz38_0
   try clear hcz38_1
   try clear hcz39_0
   try clear hcz39_1
   try clear hcz47_0
   try clear hcz47_1
   try clear hcz48_0
   try clear hcz48_1
   try clear hcz49_0
   try clear hcz49_1
   try clear hcz58_0
   try clear hcz58_1
   try clear hcz67_0
   try clear hcz67_1
   try clear hcz73_0
   try clear hcz73_1
   try clear hcz81_0
   try clear hcz81_1
   try clear hcz87_0
   try clear hcz87_1
   try clear hcz92_0
   try clear hcz92_1
   try clear hcz96_0
   try clear hcz96_1
   try clear hfz103_0
   try clear hfz103_1
   try clear hfz109_0
   try clear hfz109_1
   try clear hfz16_0
   try clear hfz16_1
   try clear hfz18_0
   try clear hfz18_1
   try clear hfz19_0
   try clear hfz19_1
   try clear hfz21_0
   try clear hfz21_1
   try clear hfz22_0
   try clear hfz22_1
   try clear hfz28_0
   try clear hfz28_1
   try clear hfz29_0
   try clear hfz29_1
   try clear hfz30_0
   try clear hfz30_1
   try clear hfz37_0
   try clear hfz37_1
   try clear hfz38_0
   try clear hfz38_1
   try clear hfz39_0
   try clear hfz39_1
   try clear hfz47_0
   try clear hfz47_1
   try clear hfz48_0
   try clear hfz48_1
   try clear hfz49_0
   try clear hfz49_1
   try clear hfz58_0
   try clear hfz58_1
   try clear hfz67_0
   try clear hfz67_1
   try clear hfz73_0
   try clear hfz73_1
   try clear hfz81_0
   try clear hfz81_1
   try clear hfz87_0
   try clear hfz87_1
   try clear hfz92_0
   try clear hfz92_1
   try clear hfz96_0
   try clear hfz96_1
   try clear hnb14; try clear hnc14; try clear hnb15; try clear hnc15; try clear hnb17; try clear hnc17; try clear hnb25; try clear hnc25; try clear hnb26; try clear hnc26; try clear hnb27; try clear hnc27; try clear hnb33; try clear hnc33; try clear hnb34; try clear hnc34; try clear hnb35; try clear hnc35; try clear hnb36; try clear hnc36; try clear hnb42; try clear hnc42; try clear hnb43; try clear hnc43; try clear hnb44; try clear hnc44; try clear hnb45; try clear hnc45; try clear hnb46; try clear hnc46; try clear hnb52; try clear hnc52; try clear hnb53; try clear hnc53; try clear hnb54; try clear hnc54; try clear hnb55; try clear hnc55; try clear hnb56; try clear hnc56; try clear hnb57; try clear hnc57; try clear hcz16_0; try clear hcz16_1; try clear hfz16_0; try clear hfz16_1; try clear hcz18_0; try clear hcz18_1; try clear hfz18_0; try clear hfz18_1; try clear hcz19_0; try clear hcz19_1; try clear hfz19_0; try clear hfz19_1; try clear hcz21_0; try clear hcz21_1; try clear hfz21_0; try clear hfz21_1; try clear hcz22_0; try clear hcz22_1; try clear hfz22_0; try clear hfz22_1; try clear hcz28_0; try clear hcz28_1; try clear hfz28_0; try clear hfz28_1; try clear hcz29_0; try clear hcz29_1; try clear hfz29_0; try clear hfz29_1; try clear hcz30_0; try clear hcz30_1; try clear hfz30_0; try clear hfz30_1; try clear hcz37_0; try clear hcz37_1; try clear hfz37_0; try clear hfz37_1; try clear hcz38_0; try clear hcz38_1; try clear hfz38_0; try clear hfz38_1; try clear hcz39_0; try clear hcz39_1; try clear hfz39_0; try clear hfz39_1; try clear hcz47_0; try clear hcz47_1; try clear hfz47_0; try clear hfz47_1; try clear hcz48_0; try clear hcz48_1; try clear hfz48_0; try clear hfz48_1; try clear hcz49_0; try clear hcz49_1; try clear hfz49_0; try clear hfz49_1; try clear hcz58_0; try clear hcz58_1; try clear hfz58_0; try clear hfz58_1; try clear BK323; try clear BK324; try clear BK325; try clear BK331; try clear BK335; try clear BK339; try clear BK343; try clear HB
   obtain ⟨kq, x70_9, rfl, HA, HJ9, BK323, BK324, BK325, BK331, BK335, BK339, BK343, HB⟩ := hcut
   cases kq with
   | zero => exact absurd HA.out (by simp [withylaw01_NumField.j0])
   | succ kj9 =>
    have H := HA.out
    clear HA
    simp only [withylaw01_NumField.j0] at H
    by_cases c110 : x70_9 = true
    case pos =>
     subst c110
     have H1 : (some false) = some r := by rw [if_pos rfl] at H; exact H
     clear H
     have H := H1
     clear H1
     obtain rfl := Option.some.inj H
     go_wp2
     go_ret
     exact ⟨by first | rfl | (simp [*] <;> rfl), bw_ HB⟩
    replace c110 := Bool.eq_false_iff.mpr c110
    subst c110
    have H1 : (if t330 = 0 then ((num_Sub.f kj9 t328 t329 a1_0 a1_1).bind fun bt344 => (if bt344.2.2 = 0 then (if (!(bt344.1 == a0_0) || (!(bt344.2.1 == a0_1))) = true then (some false) else (withylaw01_NumField.j1 kj9 t338 a0_0 a0_1 a1_0 a1_1 a2_0 a2_1 t336 t337)) else (some false))) else (withylaw01_NumField.j1 kj9 t338 a0_0 a0_1 a1_0 a1_1 a2_0 a2_1 t336 t337)) = some r := by rw [if_neg (show ¬ (false = true) by decide)] at H; exact H
    clear H
    have H := H1
    clear H1
    have HC111 := Aside0.mk H
    clear H
    go_upto_if 72 with (fail)
    go_cut [] (fun wc => ∃ (kq : Nat), Aside0 (withylaw01_NumField.j1 kq t338 a0_0 a0_1 a1_0 a1_1 a2_0 a2_1 t336 t337 = some r) ∧ Aside0 (kq ≤ kj9) ∧ Aside0 (wc.heap[gb323]? = some (.cells #[.int .i64 a0_0, .int .i64 a0_1] 23 (0, 0))) ∧ Aside0 (wc.heap[gb324]? = some (.cells #[.int .i64 a1_0, .int .i64 a1_1] 23 (0, 0))) ∧ Aside0 (wc.heap[gb325]? = some (.cells #[.int .i64 a2_0, .int .i64 a2_1] 23 (0, 0))) ∧ Aside0 (wc.heap[gb331]? = some (.cells #[.int .i64 t328, .int .i64 t329] 23 (0, 0))) ∧ Aside0 (wc.heap[gb335]? = some (.cells #[.int .i64 t332, .int .i64 t333] 23 (0, 0))) ∧ Aside0 (wc.heap[gb339]? = some (.cells #[.int .i64 t336, .int .i64 t337] 23 (0, 0))) ∧ Aside0 (wc.heap[gb343]? = some (.cells #[.int .i64 t340, .int .i64 t341] 23 (0, 0))) ∧ Aside0 (Below w.heap.size w wc))
    case first =>
     as_aux_lemma =>
      have H := HC111.out
      clear HC111
      by_cases c112 : t330 = 0
      case neg =>
       rw [if_neg c112] at H
       have c112b0 : (t330 == 0) = false := beq_eq_false_iff_ne.mpr c112
       have c112b1 : (t330 != 0) = true := bne_iff_ne.mpr c112
       (first | rw [c112b0] | (simp only [i64_w, i32_w]; rw [c112b0]) | skip)
       have H' := Aside0.mk H
       clear H
       go_wp2
       go_meet
       case rel => exact ⟨_, H', ⟨by have := HJ9.out; first | omega | exact Nat.le_refl _⟩, ⟨by exact bk_ BK323⟩, ⟨by exact bk_ BK324⟩, ⟨by exact bk_ BK325⟩, ⟨by exact bk_ BK331⟩, ⟨by exact bk_ BK335⟩, ⟨by exact bk_ BK339⟩, ⟨by exact bk_ BK343⟩, ⟨bw_ HB⟩⟩
      rw [if_pos c112] at H
      have c112b0 : (t330 == 0) = true := beq_iff_eq.mpr c112
      have c112b1 : (t330 != 0) = false := bne_eq_false_iff_eq.mpr c112
      clear c112
      (first | rw [c112b0] | (simp only [i64_w, i32_w]; rw [c112b0]) | skip)
      replace H := Option.bind_eq_some_iff.mp H
      obtain ⟨⟨t344, t345, t346⟩, A1130, H⟩ := H
      replace H : (if t346 = 0 then (if (!(t344 == a0_0) || (!(t345 == a0_1))) = true then (some false) else (withylaw01_NumField.j1 kj9 t338 a0_0 a0_1 a1_0 a1_1 a2_0 a2_1 t336 t337)) else (some false)) = some r := H
      have A113 := Aside0.mk A1130
      clear A1130
      by_cases c114 : t346 = 0
      case neg =>
       rw [if_neg c114] at H
       have c114b0 : (t346 == 0) = false := beq_eq_false_iff_ne.mpr c114
       have c114b1 : (t346 != 0) = true := bne_iff_ne.mpr c114
       obtain rfl := Option.some.inj H
       have hnb172 := NB331_323.out
       have hnc172 := NB323_331.out
       have hnb173 := NB331_324.out
       have hnc173 := NB324_331.out
       have hnb174 := NB331_325.out
       have hnc174 := NB325_331.out
       have hnb175 := NB331_335.out
       have hnc175 := NB335_331.out
       have hnb176 := NB331_339.out
       have hnc176 := NB339_331.out
       have hnb177 := NB331_343.out
       have hnc177 := NB343_331.out
       obtain ⟨hcz178_0, hcz178_1, hfz178_0, hfz178_1⟩ := bc2_ BK331
       have hnb179 := NB324_323.out
       have hnc179 := NB323_324.out
       have hnb180 := NB324_325.out
       have hnc180 := NB325_324.out
       have hnb181 := NB324_335.out
       have hnc181 := NB335_324.out
       have hnb182 := NB324_339.out
       have hnc182 := NB339_324.out
       have hnb183 := NB324_343.out
       have hnc183 := NB343_324.out
       obtain ⟨hcz184_0, hcz184_1, hfz184_0, hfz184_1⟩ := bc2_ BK324
       go_wp2_with (first | ((with_reducible refine gate_callee (f := 20) rfl ?_); refine gla_ (some 76) Try.func20 #[.agg #[.int .i64 t328, .int .i64 t329], .agg #[.int .i64 a1_0, .int .i64 a1_1]] ?_; (with_reducible refine (num_Sub.calls kj9 t328 t329 a1_0 a1_1 t344 t345 t346 _ A113.out).mono ?_); rintro e w185 ⟨rfl, hb⟩; refine ⟨_, rfl, ?_⟩; replace BK323 := bkb_ BK323 hb; replace BK324 := bkb_ BK324 hb; replace BK325 := bkb_ BK325 hb; replace BK331 := bkb_ BK331 hb; replace BK335 := bkb_ BK335 hb; replace BK339 := bkb_ BK339 hb; replace BK343 := bkb_ BK343 hb; replace HB := bws_ HB hb; (try clear hb); (try clear hb2); (try clear hk); (try clear hi)) | ((with_reducible refine gate_dst (N := 15) rfl ?_); refine box_event ?hg (N := 15) ?hd (cs := #[.int .i64 0, .int .i64 0]) (t := 23) ?hr ?_; (case hd => rfl); (case hg => rfl); (case hr => first | (go_simp; done) | (go_simp; rfl)); intro gb347 hg w186 hbox hb; have BK347 := Aside0.mk hbox; have GW347 := bwg_ HB hg; have GE347 := bwg_ HB hg; replace HB := bws_ HB hb; have NB323_347 := bkl_ BK323 hg; have NB347_323 := bkr_ BK323 hg; replace BK323 := bkb_ BK323 hb; have NB324_347 := bkl_ BK324 hg; have NB347_324 := bkr_ BK324 hg; replace BK324 := bkb_ BK324 hb; have NB325_347 := bkl_ BK325 hg; have NB347_325 := bkr_ BK325 hg; replace BK325 := bkb_ BK325 hb; have NB331_347 := bkl_ BK331 hg; have NB347_331 := bkr_ BK331 hg; replace BK331 := bkb_ BK331 hb; have NB335_347 := bkl_ BK335 hg; have NB347_335 := bkr_ BK335 hg; replace BK335 := bkb_ BK335 hb; have NB339_347 := bkl_ BK339 hg; have NB347_339 := bkr_ BK339 hg; replace BK339 := bkb_ BK339 hb; have NB343_347 := bkl_ BK343 hg; have NB347_343 := bkr_ BK343 hg; replace BK343 := bkb_ BK343 hb; clear hb hbox hg; have hnb187 := NB347_323.out; have hnc187 := NB323_347.out; have hnb188 := NB347_324.out; have hnc188 := NB324_347.out; have hnb189 := NB347_325.out; have hnc189 := NB325_347.out; have hnb190 := NB347_331.out; have hnc190 := NB331_347.out; have hnb191 := NB347_335.out; have hnc191 := NB335_347.out; have hnb192 := NB347_339.out; have hnc192 := NB339_347.out; have hnb193 := NB347_343.out; have hnc193 := NB343_347.out; obtain ⟨hcz194_0, hcz194_1, hfz194_0, hfz194_1⟩ := bc2_ BK347))
       go_ret
       exact ⟨by first | rfl | (simp [*] <;> rfl), bw_ HB⟩
      rw [if_pos c114] at H
      have c114b0 : (t346 == 0) = true := beq_iff_eq.mpr c114
      have c114b1 : (t346 != 0) = false := bne_eq_false_iff_eq.mpr c114
      clear c114
      by_cases c115 : (!(t344 == a0_0) || (!(t345 == a0_1))) = true
      case pos =>
       rw [if_pos c115] at H
       have c115b0 : (!(t344 == a0_0) || (!(t345 == a0_1))) = true := c115
       clear c115
       obtain rfl := Option.some.inj H
       have hnb116 := NB331_323.out
       have hnc116 := NB323_331.out
       have hnb117 := NB331_324.out
       have hnc117 := NB324_331.out
       have hnb118 := NB331_325.out
       have hnc118 := NB325_331.out
       have hnb119 := NB331_335.out
       have hnc119 := NB335_331.out
       have hnb120 := NB331_339.out
       have hnc120 := NB339_331.out
       have hnb121 := NB331_343.out
       have hnc121 := NB343_331.out
       obtain ⟨hcz122_0, hcz122_1, hfz122_0, hfz122_1⟩ := bc2_ BK331
       have hnb123 := NB324_323.out
       have hnc123 := NB323_324.out
       have hnb124 := NB324_325.out
       have hnc124 := NB325_324.out
       have hnb125 := NB324_335.out
       have hnc125 := NB335_324.out
       have hnb126 := NB324_339.out
       have hnc126 := NB339_324.out
       have hnb127 := NB324_343.out
       have hnc127 := NB343_324.out
       obtain ⟨hcz128_0, hcz128_1, hfz128_0, hfz128_1⟩ := bc2_ BK324
       go_wp2_with (first | ((with_reducible refine gate_callee (f := 20) rfl ?_); refine gla_ (some 76) Try.func20 #[.agg #[.int .i64 t328, .int .i64 t329], .agg #[.int .i64 a1_0, .int .i64 a1_1]] ?_; (with_reducible refine (num_Sub.calls kj9 t328 t329 a1_0 a1_1 t344 t345 t346 _ A113.out).mono ?_); rintro e w129 ⟨rfl, hb⟩; refine ⟨_, rfl, ?_⟩; replace BK323 := bkb_ BK323 hb; replace BK324 := bkb_ BK324 hb; replace BK325 := bkb_ BK325 hb; replace BK331 := bkb_ BK331 hb; replace BK335 := bkb_ BK335 hb; replace BK339 := bkb_ BK339 hb; replace BK343 := bkb_ BK343 hb; replace HB := bws_ HB hb; (try clear hb); (try clear hb2); (try clear hk); (try clear hi)) | ((with_reducible refine gate_dst (N := 15) rfl ?_); refine box_event ?hg (N := 15) ?hd (cs := #[.int .i64 0, .int .i64 0]) (t := 23) ?hr ?_; (case hd => rfl); (case hg => rfl); (case hr => first | (go_simp; done) | (go_simp; rfl)); intro gb347 hg w130 hbox hb; have BK347 := Aside0.mk hbox; have GW347 := bwg_ HB hg; have GE347 := bwg_ HB hg; replace HB := bws_ HB hb; have NB323_347 := bkl_ BK323 hg; have NB347_323 := bkr_ BK323 hg; replace BK323 := bkb_ BK323 hb; have NB324_347 := bkl_ BK324 hg; have NB347_324 := bkr_ BK324 hg; replace BK324 := bkb_ BK324 hb; have NB325_347 := bkl_ BK325 hg; have NB347_325 := bkr_ BK325 hg; replace BK325 := bkb_ BK325 hb; have NB331_347 := bkl_ BK331 hg; have NB347_331 := bkr_ BK331 hg; replace BK331 := bkb_ BK331 hb; have NB335_347 := bkl_ BK335 hg; have NB347_335 := bkr_ BK335 hg; replace BK335 := bkb_ BK335 hb; have NB339_347 := bkl_ BK339 hg; have NB347_339 := bkr_ BK339 hg; replace BK339 := bkb_ BK339 hb; have NB343_347 := bkl_ BK343 hg; have NB347_343 := bkr_ BK343 hg; replace BK343 := bkb_ BK343 hb; clear hb hbox hg; have hnb131 := NB347_323.out; have hnc131 := NB323_347.out; have hnb132 := NB347_324.out; have hnc132 := NB324_347.out; have hnb133 := NB347_325.out; have hnc133 := NB325_347.out; have hnb134 := NB347_331.out; have hnc134 := NB331_347.out; have hnb135 := NB347_335.out; have hnc135 := NB335_347.out; have hnb136 := NB347_339.out; have hnc136 := NB339_347.out; have hnb137 := NB347_343.out; have hnc137 := NB343_347.out; obtain ⟨hcz138_0, hcz138_1, hfz138_0, hfz138_1⟩ := bc2_ BK347; have hnb139 := NB323_325.out; have hnc139 := NB325_323.out; have hnb140 := NB323_335.out; have hnc140 := NB335_323.out; have hnb141 := NB323_339.out; have hnc141 := NB339_323.out; have hnb142 := NB323_343.out; have hnc142 := NB343_323.out; obtain ⟨hcz143_0, hcz143_1, hfz143_0, hfz143_1⟩ := bc2_ BK323))
       go_ret
       exact ⟨by first | rfl | (simp [*] <;> rfl), bw_ HB⟩
      rw [if_neg c115] at H
      have c115b0 : (!(t344 == a0_0) || (!(t345 == a0_1))) = false := by simpa using c115
      clear c115
      have H' := Aside0.mk H
      clear H
      have hnb144 := NB331_323.out
      have hnc144 := NB323_331.out
      have hnb145 := NB331_324.out
      have hnc145 := NB324_331.out
      have hnb146 := NB331_325.out
      have hnc146 := NB325_331.out
      have hnb147 := NB331_335.out
      have hnc147 := NB335_331.out
      have hnb148 := NB331_339.out
      have hnc148 := NB339_331.out
      have hnb149 := NB331_343.out
      have hnc149 := NB343_331.out
      obtain ⟨hcz150_0, hcz150_1, hfz150_0, hfz150_1⟩ := bc2_ BK331
      have hnb151 := NB324_323.out
      have hnc151 := NB323_324.out
      have hnb152 := NB324_325.out
      have hnc152 := NB325_324.out
      have hnb153 := NB324_335.out
      have hnc153 := NB335_324.out
      have hnb154 := NB324_339.out
      have hnc154 := NB339_324.out
      have hnb155 := NB324_343.out
      have hnc155 := NB343_324.out
      obtain ⟨hcz156_0, hcz156_1, hfz156_0, hfz156_1⟩ := bc2_ BK324
      go_wp2_with (first | ((with_reducible refine gate_callee (f := 20) rfl ?_); refine gla_ (some 76) Try.func20 #[.agg #[.int .i64 t328, .int .i64 t329], .agg #[.int .i64 a1_0, .int .i64 a1_1]] ?_; (with_reducible refine (num_Sub.calls kj9 t328 t329 a1_0 a1_1 t344 t345 t346 _ A113.out).mono ?_); rintro e w157 ⟨rfl, hb⟩; refine ⟨_, rfl, ?_⟩; replace BK323 := bkb_ BK323 hb; replace BK324 := bkb_ BK324 hb; replace BK325 := bkb_ BK325 hb; replace BK331 := bkb_ BK331 hb; replace BK335 := bkb_ BK335 hb; replace BK339 := bkb_ BK339 hb; replace BK343 := bkb_ BK343 hb; replace HB := bws_ HB hb; (try clear hb); (try clear hb2); (try clear hk); (try clear hi)) | ((with_reducible refine gate_dst (N := 15) rfl ?_); refine box_event ?hg (N := 15) ?hd (cs := #[.int .i64 0, .int .i64 0]) (t := 23) ?hr ?_; (case hd => rfl); (case hg => rfl); (case hr => first | (go_simp; done) | (go_simp; rfl)); intro gb347 hg w158 hbox hb; have BK347 := Aside0.mk hbox; have GW347 := bwg_ HB hg; have GE347 := bwg_ HB hg; replace HB := bws_ HB hb; have NB323_347 := bkl_ BK323 hg; have NB347_323 := bkr_ BK323 hg; replace BK323 := bkb_ BK323 hb; have NB324_347 := bkl_ BK324 hg; have NB347_324 := bkr_ BK324 hg; replace BK324 := bkb_ BK324 hb; have NB325_347 := bkl_ BK325 hg; have NB347_325 := bkr_ BK325 hg; replace BK325 := bkb_ BK325 hb; have NB331_347 := bkl_ BK331 hg; have NB347_331 := bkr_ BK331 hg; replace BK331 := bkb_ BK331 hb; have NB335_347 := bkl_ BK335 hg; have NB347_335 := bkr_ BK335 hg; replace BK335 := bkb_ BK335 hb; have NB339_347 := bkl_ BK339 hg; have NB347_339 := bkr_ BK339 hg; replace BK339 := bkb_ BK339 hb; have NB343_347 := bkl_ BK343 hg; have NB347_343 := bkr_ BK343 hg; replace BK343 := bkb_ BK343 hb; clear hb hbox hg; have hnb159 := NB347_323.out; have hnc159 := NB323_347.out; have hnb160 := NB347_324.out; have hnc160 := NB324_347.out; have hnb161 := NB347_325.out; have hnc161 := NB325_347.out; have hnb162 := NB347_331.out; have hnc162 := NB331_347.out; have hnb163 := NB347_335.out; have hnc163 := NB335_347.out; have hnb164 := NB347_339.out; have hnc164 := NB339_347.out; have hnb165 := NB347_343.out; have hnc165 := NB343_347.out; obtain ⟨hcz166_0, hcz166_1, hfz166_0, hfz166_1⟩ := bc2_ BK347; have hnb167 := NB323_325.out; have hnc167 := NB325_323.out; have hnb168 := NB323_335.out; have hnc168 := NB335_323.out; have hnb169 := NB323_339.out; have hnc169 := NB339_323.out; have hnb170 := NB323_343.out; have hnc170 := NB343_323.out; obtain ⟨hcz171_0, hcz171_1, hfz171_0, hfz171_1⟩ := bc2_ BK323))
      go_meet
      case rel => exact ⟨_, H', ⟨by have := HJ9.out; first | omega | exact Nat.le_refl _⟩, ⟨by refine bf_ ?_ NB323_347; refine bf_ ?_ NB323_347; exact bk_ BK323⟩, ⟨by refine bf_ ?_ NB324_347; refine bf_ ?_ NB324_347; exact bk_ BK324⟩, ⟨by refine bf_ ?_ NB325_347; refine bf_ ?_ NB325_347; exact bk_ BK325⟩, ⟨by refine bf_ ?_ NB331_347; refine bf_ ?_ NB331_347; exact bk_ BK331⟩, ⟨by refine bf_ ?_ NB335_347; refine bf_ ?_ NB335_347; exact bk_ BK335⟩, ⟨by refine bf_ ?_ NB339_347; refine bf_ ?_ NB339_347; exact bk_ BK339⟩, ⟨by refine bf_ ?_ NB343_347; refine bf_ ?_ NB343_347; exact bk_ BK343⟩, ⟨bw_ HB⟩⟩
    as_aux_lemma =>
     clear HC111
     try clear c1
     try clear c2
     try clear p2
     try clear c3
     try clear c4
     try clear c5
     try clear c6
     try clear c7
     try clear c8
     try clear c9
     try clear c10
     try clear c11
     try clear c12
     try clear c13
     try clear c14
     try clear c15
     try clear c16
     try clear c17
     try clear c18
     try clear c19
     try clear c20
     try clear c25
     try clear c26
     try clear c27
     try clear c33
     try clear c34
     try clear c35
     try clear c36
     try clear c42
     try clear c43
     try clear c44
     try clear c45
     try clear c46
     try clear c52
     try clear c53
     try clear c54
     try clear c55
     try clear c56
     try clear c57
     try clear c59
     try clear c59b0
     try clear c59b1
     try clear c60
     try clear c60b0
     try clear c61
     try clear c62
     try clear c63
     try clear c64
     try clear c65
     try clear c66
     try clear c68
     try clear c69
     try clear c70
     try clear c71
     try clear c72
     try clear c74
     try clear c74b0
     try clear c74b1
     try clear c75
     try clear c76
     try clear c77
     try clear c78
     try clear c79
     try clear c80
     try clear c82
     try clear c83
     try clear c84
     try clear c85
     try clear c86
     try clear c88
     try clear c89
     try clear c90
     try clear c91
     try clear c93
     try clear c94
     try clear c95
     try clear c97
     try clear c98
     try clear c99
     try clear c100
     try clear c101
     try clear c102
     try clear c104
     try clear c105
     try clear c106
     try clear c107
     try clear c108
     try clear c110
     try clear c112
     try clear c112b0
     try clear c112b1
     try clear c114
     try clear c114b0
     try clear c114b1
     try clear c115
     try clear c115b0
     try clear c116
     try clear c117
     try clear c118
     try clear c119
     try clear c120
     try clear c121
     try clear c123
     try clear c124
     try clear c125
     try clear c126
     try clear c127
     try clear c131
     try clear c132
     try clear c133
     try clear c134
     try clear c135
     try clear c136
     try clear c137
     try clear c139
     try clear c140
     try clear c141
     try clear c142
     try clear c144
     try clear c145
     try clear c146
     try clear c147
     try clear c148
     try clear c149
     try clear c151
     try clear c152
     try clear c153
     try clear c154
     try clear c155
     try clear c159
     try clear c160
     try clear c161
     try clear c162
     try clear c163
     try clear c164
     try clear c165
     try clear c167
     try clear c168
     try clear c169
     try clear c170
     try clear c172
     try clear c173
     try clear c174
     try clear c175
     try clear c176
     try clear c177
     try clear c179
     try clear c180
     try clear c181
     try clear c182
     try clear c183
     try clear c187
     try clear c188
     try clear c189
     try clear c190
     try clear c191
     try clear c192
     try clear c193
     try clear hcz103_0
     try clear hcz103_1
     try clear hcz109_0
     try clear hcz109_1
     try clear hcz122_0
     try clear hcz122_1
     try clear hcz128_0
     try clear hcz128_1
     try clear hcz138_0
     try clear hcz138_1
     try clear hcz143_0
     try clear hcz143_1
     try clear hcz150_0
     try clear hcz150_1
     try clear hcz156_0
     try clear hcz156_1
     try clear hcz166_0
     try clear hcz166_1
     try clear hcz16_0
     try clear hcz16_1
     try clear hcz171_0
     try clear hcz171_1
     try clear hcz178_0
     try clear hcz178_1
     try clear hcz184_0
     try clear hcz184_1
     try clear hcz18_0
     try clear hcz18_1
     try clear hcz194_0
     try clear hcz194_1
     try clear hcz19_0
     try clear hcz19_1
     try clear hcz21_0
     try clear hcz21_1
     try clear hcz22_0
     try clear hcz22_1
     try clear hcz28_0
     try clear hcz28_1
     try clear hcz29_0
     try clear hcz29_1
     try clear hcz30_0
     try clear hcz30_1
     try clear hcz37_0
     try clear hcz37_1
     try clear hcz38_0
     try clear hcz38_1
     try clear hcz39_0
     try clear hcz39_1
     try clear hcz47_0
     try clear hcz47_1
     try clear hcz48_0
     try clear hcz48_1
     try clear hcz49_0
     try clear hcz49_1
     try clear hcz58_0
     try clear hcz58_1
     try clear hcz67_0
     try clear hcz67_1
     try clear hcz73_0
     try clear hcz73_1
     try clear hcz81_0
     try clear hcz81_1
     try clear hcz87_0
     try clear hcz87_1
     try clear hcz92_0
     try clear hcz92_1
     try clear hcz96_0
     try clear hcz96_1
     try clear hfz103_0
     try clear hfz103_1
     try clear hfz109_0
     try clear hfz109_1
     try clear hfz122_0
     try clear hfz122_1
     try clear hfz128_0
     try clear hfz128_1
     try clear hfz138_0
     try clear hfz138_1
     try clear hfz143_0
     try clear hfz143_1
     try clear hfz150_0
     try clear hfz150_1
     try clear hfz156_0
     try clear hfz156_1
     try clear hfz166_0
     try clear hfz166_1
     try clear hfz16_0
     try clear hfz16_1
     try clear hfz171_0
     try clear hfz171_1
     try clear hfz178_0
     try clear hfz178_1
     try clear hfz184_0
     try clear hfz184_1
     try clear hfz18_0
     try clear hfz18_1
     try clear hfz194_0
     try clear hfz194_1
     try clear hfz19_0
     try clear hfz19_1
     try clear hfz21_0
     try clear hfz21_1
     try clear hfz22_0
     try clear hfz22_1
     try clear hfz28_0
     try clear hfz28_1
     try clear hfz29_0
     try clear hfz29_1
     try clear hfz30_0
     try clear hfz30_1
     try clear hfz37_0
     try clear hfz37_1
     try clear hfz38_0
     try clear hfz38_1
     try clear hfz39_0
     try clear hfz39_1
     try clear hfz47_0
     try clear hfz47_1
     try clear hfz48_0
     try clear hfz48_1
     try clear hfz49_0
     try clear hfz49_1
     try clear hfz58_0
     try clear hfz58_1
     try clear hfz67_0
     try clear hfz67_1
     try clear hfz73_0
     try clear hfz73_1
     try clear hfz81_0
     try clear hfz81_1
     try clear hfz87_0
     try clear hfz87_1
     try clear hfz92_0
     try clear hfz92_1
     try clear hfz96_0
     try clear hfz96_1
     try clear p2
     try clear BK323; try clear BK324; try clear BK325; try clear BK331; try clear BK335; try clear BK339; try clear BK343; try clear HB
     obtain ⟨kq, HA, HJ110, BK323, BK324, BK325, BK331, BK335, BK339, BK343, HB⟩ := hcut
     cases kq with
     | zero => exact absurd HA.out (by simp [withylaw01_NumField.j1])
     | succ kj110 =>
      have H := HA.out
      clear HA
      simp only [withylaw01_NumField.j1] at H
      have HC195 := Aside0.mk H
      clear H
      go_upto_region 13 with (fail)
      go_cut [92] (fun v92 wc => ∃ (kq : Nat) (x92_194 : Bool), v92 = .bool x92_194 ∧ Aside0 (withylaw01_NumField.j2 kq x92_194 a0_0 a0_1 a1_0 a1_1 a2_0 a2_1 t336 t337 = some r) ∧ Aside0 (kq ≤ kj110) ∧ Aside0 (wc.heap[gb323]? = some (.cells #[.int .i64 a0_0, .int .i64 a0_1] 23 (0, 0))) ∧ Aside0 (wc.heap[gb324]? = some (.cells #[.int .i64 a1_0, .int .i64 a1_1] 23 (0, 0))) ∧ Aside0 (wc.heap[gb325]? = some (.cells #[.int .i64 a2_0, .int .i64 a2_1] 23 (0, 0))) ∧ Aside0 (wc.heap[gb331]? = some (.cells #[.int .i64 t328, .int .i64 t329] 23 (0, 0))) ∧ Aside0 (wc.heap[gb335]? = some (.cells #[.int .i64 t332, .int .i64 t333] 23 (0, 0))) ∧ Aside0 (wc.heap[gb339]? = some (.cells #[.int .i64 t336, .int .i64 t337] 23 (0, 0))) ∧ Aside0 (wc.heap[gb343]? = some (.cells #[.int .i64 t340, .int .i64 t341] 23 (0, 0))) ∧ Aside0 (Below w.heap.size w wc))
      case first =>
       as_aux_lemma =>
        have H := HC195.out
        clear HC195
        by_cases c196 : t338 = 0
        case neg =>
         rw [if_neg c196] at H
         have c196b0 : (t338 == 0) = false := beq_eq_false_iff_ne.mpr c196
         have c196b1 : (t338 != 0) = true := bne_iff_ne.mpr c196
         (first | rw [c196b0] | (simp only [i64_w, i32_w]; rw [c196b0]) | skip)
         have H' := Aside0.mk H
         clear H
         go_wp2
         go_meet
         case rel => exact ⟨_, (false), (by first | rfl | (simp; done) | (simp [*]; done)), H', ⟨by have := HJ9.out; have := HJ110.out; first | omega | exact Nat.le_refl _⟩, ⟨by exact bk_ BK323⟩, ⟨by exact bk_ BK324⟩, ⟨by exact bk_ BK325⟩, ⟨by exact bk_ BK331⟩, ⟨by exact bk_ BK335⟩, ⟨by exact bk_ BK339⟩, ⟨by exact bk_ BK343⟩, ⟨bw_ HB⟩⟩
        rw [if_pos c196] at H
        have c196b0 : (t338 == 0) = true := beq_iff_eq.mpr c196
        have c196b1 : (t338 != 0) = false := bne_eq_false_iff_eq.mpr c196
        clear c196
        (first | rw [c196b0] | (simp only [i64_w, i32_w]; rw [c196b0]) | skip)
        have H' := Aside0.mk H
        clear H
        have hnb197 := NB324_323.out
        have hnc197 := NB323_324.out
        have hnb198 := NB324_325.out
        have hnc198 := NB325_324.out
        have hnb199 := NB324_331.out
        have hnc199 := NB331_324.out
        have hnb200 := NB324_335.out
        have hnc200 := NB335_324.out
        have hnb201 := NB324_339.out
        have hnc201 := NB339_324.out
        have hnb202 := NB324_343.out
        have hnc202 := NB343_324.out
        obtain ⟨hcz203_0, hcz203_1, hfz203_0, hfz203_1⟩ := bc2_ BK324
        go_wp2
        go_meet
        case rel => exact ⟨_, ((a1_0 != 0)), (by first | rfl | (simp; done) | (simp [*]; done)), H', ⟨by have := HJ9.out; have := HJ110.out; first | omega | exact Nat.le_refl _⟩, ⟨by exact bk_ BK323⟩, ⟨by exact bk_ BK324⟩, ⟨by exact bk_ BK325⟩, ⟨by exact bk_ BK331⟩, ⟨by exact bk_ BK335⟩, ⟨by exact bk_ BK339⟩, ⟨by exact bk_ BK343⟩, ⟨bw_ HB⟩⟩
      as_aux_lemma =>
       clear HC195
       try clear c1
       try clear c2
       try clear p2
       try clear c3
       try clear c4
       try clear c5
       try clear c6
       try clear c7
       try clear c8
       try clear c9
       try clear c10
       try clear c11
       try clear c12
       try clear c13
       try clear c14
       try clear c15
       try clear c16
       try clear c17
       try clear c18
       try clear c19
       try clear c20
       try clear c25
       try clear c26
       try clear c27
       try clear c33
       try clear c34
       try clear c35
       try clear c36
       try clear c42
       try clear c43
       try clear c44
       try clear c45
       try clear c46
       try clear c52
       try clear c53
       try clear c54
       try clear c55
       try clear c56
       try clear c57
       try clear c59
       try clear c59b0
       try clear c59b1
       try clear c60
       try clear c60b0
       try clear c61
       try clear c62
       try clear c63
       try clear c64
       try clear c65
       try clear c66
       try clear c68
       try clear c69
       try clear c70
       try clear c71
       try clear c72
       try clear c74
       try clear c74b0
       try clear c74b1
       try clear c75
       try clear c76
       try clear c77
       try clear c78
       try clear c79
       try clear c80
       try clear c82
       try clear c83
       try clear c84
       try clear c85
       try clear c86
       try clear c88
       try clear c89
       try clear c90
       try clear c91
       try clear c93
       try clear c94
       try clear c95
       try clear c97
       try clear c98
       try clear c99
       try clear c100
       try clear c101
       try clear c102
       try clear c104
       try clear c105
       try clear c106
       try clear c107
       try clear c108
       try clear c110
       try clear c112
       try clear c112b0
       try clear c112b1
       try clear c114
       try clear c114b0
       try clear c114b1
       try clear c115
       try clear c115b0
       try clear c116
       try clear c117
       try clear c118
       try clear c119
       try clear c120
       try clear c121
       try clear c123
       try clear c124
       try clear c125
       try clear c126
       try clear c127
       try clear c131
       try clear c132
       try clear c133
       try clear c134
       try clear c135
       try clear c136
       try clear c137
       try clear c139
       try clear c140
       try clear c141
       try clear c142
       try clear c144
       try clear c145
       try clear c146
       try clear c147
       try clear c148
       try clear c149
       try clear c151
       try clear c152
       try clear c153
       try clear c154
       try clear c155
       try clear c159
       try clear c160
       try clear c161
       try clear c162
       try clear c163
       try clear c164
       try clear c165
       try clear c167
       try clear c168
       try clear c169
       try clear c170
       try clear c172
       try clear c173
       try clear c174
       try clear c175
       try clear c176
       try clear c177
       try clear c179
       try clear c180
       try clear c181
       try clear c182
       try clear c183
       try clear c187
       try clear c188
       try clear c189
       try clear c190
       try clear c191
       try clear c192
       try clear c193
       try clear c196
       try clear c196b0
       try clear c196b1
       try clear c197
       try clear c198
       try clear c199
       try clear c200
       try clear c201
       try clear c202
       try clear hcz103_0
       try clear hcz103_1
       try clear hcz109_0
       try clear hcz109_1
       try clear hcz122_0
       try clear hcz122_1
       try clear hcz128_0
       try clear hcz128_1
       try clear hcz138_0
       try clear hcz138_1
       try clear hcz143_0
       try clear hcz143_1
       try clear hcz150_0
       try clear hcz150_1
       try clear hcz156_0
       try clear hcz156_1
       try clear hcz166_0
       try clear hcz166_1
       try clear hcz16_0
       try clear hcz16_1
       try clear hcz171_0
       try clear hcz171_1
       try clear hcz178_0
       try clear hcz178_1
       try clear hcz184_0
       try clear hcz184_1
       try clear hcz18_0
       try clear hcz18_1
       try clear hcz194_0
       try clear hcz194_1
       try clear hcz19_0
       try clear hcz19_1
       try clear hcz203_0
       try clear hcz203_1
       try clear hcz21_0
       try clear hcz21_1
       try clear hcz22_0
       try clear hcz22_1
       try clear hcz28_0
       try clear hcz28_1
       try clear hcz29_0
       try clear hcz29_1
       try clear hcz30_0
       try clear hcz30_1
       try clear hcz37_0
       try clear hcz37_1
       try clear hcz38_0
       try clear hcz38_1
       try clear hcz39_0
       try clear hcz39_1
       try clear hcz47_0
       try clear hcz47_1
       try clear hcz48_0
       try clear hcz48_1
       try clear hcz49_0
       try clear hcz49_1
       try clear hcz58_0
       try clear hcz58_1
       try clear hcz67_0
       try clear hcz67_1
       try clear hcz73_0
       try clear hcz73_1
       try clear hcz81_0
       try clear hcz81_1
       try clear hcz87_0
       try clear hcz87_1
       try clear hcz92_0
       try clear hcz92_1
       try clear hcz96_0
       try clear hcz96_1
       try clear hfz103_0
       try clear hfz103_1
       try clear hfz109_0
       try clear hfz109_1
       try clear hfz122_0
       try clear hfz122_1
       try clear hfz128_0
       try clear hfz128_1
       try clear hfz138_0
       try clear hfz138_1
       try clear hfz143_0
       try clear hfz143_1
       try clear hfz150_0
       try clear hfz150_1
       try clear hfz156_0
       try clear hfz156_1
       try clear hfz166_0
       try clear hfz166_1
       try clear hfz16_0
       try clear hfz16_1
       try clear hfz171_0
       try clear hfz171_1
       try clear hfz178_0
       try clear hfz178_1
       try clear hfz184_0
       try clear hfz184_1
       try clear hfz18_0
       try clear hfz18_1
       try clear hfz194_0
       try clear hfz194_1
       try clear hfz19_0
       try clear hfz19_1
       try clear hfz203_0
       try clear hfz203_1
       try clear hfz21_0
       try clear hfz21_1
       try clear hfz22_0
       try clear hfz22_1
       try clear hfz28_0
       try clear hfz28_1
       try clear hfz29_0
       try clear hfz29_1
       try clear hfz30_0
       try clear hfz30_1
       try clear hfz37_0
       try clear hfz37_1
       try clear hfz38_0
       try clear hfz38_1
       try clear hfz39_0
       try clear hfz39_1
       try clear hfz47_0
       try clear hfz47_1
       try clear hfz48_0
       try clear hfz48_1
       try clear hfz49_0
       try clear hfz49_1
       try clear hfz58_0
       try clear hfz58_1
       try clear hfz67_0
       try clear hfz67_1
       try clear hfz73_0
       try clear hfz73_1
       try clear hfz81_0
       try clear hfz81_1
       try clear hfz87_0
       try clear hfz87_1
       try clear hfz92_0
       try clear hfz92_1
       try clear hfz96_0
       try clear hfz96_1
       try clear p2
       try clear BK323; try clear BK324; try clear BK325; try clear BK331; try clear BK335; try clear BK339; try clear BK343; try clear HB
       obtain ⟨kq, x92_194, rfl, HA, HJ194, BK323, BK324, BK325, BK331, BK335, BK339, BK343, HB⟩ := hcut
       cases kq with
       | zero => exact absurd HA.out (by simp [withylaw01_NumField.j2])
       | succ kj194 =>
        have H := HA.out
        clear HA
        simp only [withylaw01_NumField.j2] at H
        have HC204 := Aside0.mk H
        clear H
        go_upto_if 92 with (fail)
        go_cut [] (fun wc => ∃ (kq : Nat), Aside0 (withylaw01_NumField.j3 kq a0_0 a0_1 a1_0 a1_1 a2_0 a2_1 = some r) ∧ Aside0 (kq ≤ kj194) ∧ Aside0 (wc.heap[gb323]? = some (.cells #[.int .i64 a0_0, .int .i64 a0_1] 23 (0, 0))) ∧ Aside0 (wc.heap[gb324]? = some (.cells #[.int .i64 a1_0, .int .i64 a1_1] 23 (0, 0))) ∧ Aside0 (wc.heap[gb325]? = some (.cells #[.int .i64 a2_0, .int .i64 a2_1] 23 (0, 0))) ∧ Aside0 (wc.heap[gb331]? = some (.cells #[.int .i64 t328, .int .i64 t329] 23 (0, 0))) ∧ Aside0 (wc.heap[gb335]? = some (.cells #[.int .i64 t332, .int .i64 t333] 23 (0, 0))) ∧ Aside0 (wc.heap[gb339]? = some (.cells #[.int .i64 t336, .int .i64 t337] 23 (0, 0))) ∧ Aside0 (wc.heap[gb343]? = some (.cells #[.int .i64 t340, .int .i64 t341] 23 (0, 0))) ∧ Aside0 (Below w.heap.size w wc))
        case first =>
         as_aux_lemma =>
          have H := HC204.out
          clear HC204
          by_cases c205 : x92_194 = true
          case neg =>
           replace c205 := Bool.eq_false_iff.mpr c205
           subst c205
           have H1 : (withylaw01_NumField.j3 kj194 a0_0 a0_1 a1_0 a1_1 a2_0 a2_1) = some r := by rw [if_neg (show ¬ (false = true) by decide)] at H; exact H
           clear H
           have H := H1
           clear H1
           have H' := Aside0.mk H
           clear H
           go_wp2
           go_meet
           case rel => exact ⟨_, H', ⟨by have := HJ9.out; have := HJ110.out; have := HJ194.out; first | omega | exact Nat.le_refl _⟩, ⟨by exact bk_ BK323⟩, ⟨by exact bk_ BK324⟩, ⟨by exact bk_ BK325⟩, ⟨by exact bk_ BK331⟩, ⟨by exact bk_ BK335⟩, ⟨by exact bk_ BK339⟩, ⟨by exact bk_ BK343⟩, ⟨bw_ HB⟩⟩
          subst c205
          have H1 : ((num_Div.f kj194 t336 t337 a1_0 a1_1).bind fun bt348 => (if bt348.2.2 = 0 then (if (!(bt348.1 == a0_0) || (!(bt348.2.1 == a0_1))) = true then (some false) else (withylaw01_NumField.j3 kj194 a0_0 a0_1 a1_0 a1_1 a2_0 a2_1)) else (some false))) = some r := by rw [if_pos rfl] at H; exact H
          clear H
          have H := H1
          clear H1
          replace H := Option.bind_eq_some_iff.mp H
          obtain ⟨⟨t348, t349, t350⟩, A2060, H⟩ := H
          replace H : (if t350 = 0 then (if (!(t348 == a0_0) || (!(t349 == a0_1))) = true then (some false) else (withylaw01_NumField.j3 kj194 a0_0 a0_1 a1_0 a1_1 a2_0 a2_1)) else (some false)) = some r := H
          have A206 := Aside0.mk A2060
          clear A2060
          by_cases c207 : t350 = 0
          case neg =>
           rw [if_neg c207] at H
           have c207b0 : (t350 == 0) = false := beq_eq_false_iff_ne.mpr c207
           have c207b1 : (t350 != 0) = true := bne_iff_ne.mpr c207
           (first | rw [c207b0] | (simp only [i64_w, i32_w]; rw [c207b0]) | skip)
           obtain rfl := Option.some.inj H
           have hnb265 := NB339_323.out
           have hnc265 := NB323_339.out
           have hnb266 := NB339_324.out
           have hnc266 := NB324_339.out
           have hnb267 := NB339_325.out
           have hnc267 := NB325_339.out
           have hnb268 := NB339_331.out
           have hnc268 := NB331_339.out
           have hnb269 := NB339_335.out
           have hnc269 := NB335_339.out
           have hnb270 := NB339_343.out
           have hnc270 := NB343_339.out
           obtain ⟨hcz271_0, hcz271_1, hfz271_0, hfz271_1⟩ := bc2_ BK339
           have hnb272 := NB324_323.out
           have hnc272 := NB323_324.out
           have hnb273 := NB324_325.out
           have hnc273 := NB325_324.out
           have hnb274 := NB324_331.out
           have hnc274 := NB331_324.out
           have hnb275 := NB324_335.out
           have hnc275 := NB335_324.out
           have hnb276 := NB324_343.out
           have hnc276 := NB343_324.out
           obtain ⟨hcz277_0, hcz277_1, hfz277_0, hfz277_1⟩ := bc2_ BK324
           go_wp2_with (first | ((with_reducible refine gate_callee (f := 21) rfl ?_); refine gla_ (some 96) Try.func21 #[.agg #[.int .i64 t336, .int .i64 t337], .agg #[.int .i64 a1_0, .int .i64 a1_1]] ?_; (with_reducible refine (num_Div.calls kj194 t336 t337 a1_0 a1_1 t348 t349 t350 _ A206.out).mono ?_); rintro e w278 ⟨rfl, hb⟩; refine ⟨_, rfl, ?_⟩; replace BK323 := bkb_ BK323 hb; replace BK324 := bkb_ BK324 hb; replace BK325 := bkb_ BK325 hb; replace BK331 := bkb_ BK331 hb; replace BK335 := bkb_ BK335 hb; replace BK339 := bkb_ BK339 hb; replace BK343 := bkb_ BK343 hb; replace HB := bws_ HB hb; (try clear hb); (try clear hb2); (try clear hk); (try clear hi)) | ((with_reducible refine gate_dst (N := 17) rfl ?_); refine box_event ?hg (N := 17) ?hd (cs := #[.int .i64 0, .int .i64 0]) (t := 23) ?hr ?_; (case hd => rfl); (case hg => rfl); (case hr => first | (go_simp; done) | (go_simp; rfl)); intro gb351 hg w279 hbox hb; have BK351 := Aside0.mk hbox; have GW351 := bwg_ HB hg; have GE351 := bwg_ HB hg; replace HB := bws_ HB hb; have NB323_351 := bkl_ BK323 hg; have NB351_323 := bkr_ BK323 hg; replace BK323 := bkb_ BK323 hb; have NB324_351 := bkl_ BK324 hg; have NB351_324 := bkr_ BK324 hg; replace BK324 := bkb_ BK324 hb; have NB325_351 := bkl_ BK325 hg; have NB351_325 := bkr_ BK325 hg; replace BK325 := bkb_ BK325 hb; have NB331_351 := bkl_ BK331 hg; have NB351_331 := bkr_ BK331 hg; replace BK331 := bkb_ BK331 hb; have NB335_351 := bkl_ BK335 hg; have NB351_335 := bkr_ BK335 hg; replace BK335 := bkb_ BK335 hb; have NB339_351 := bkl_ BK339 hg; have NB351_339 := bkr_ BK339 hg; replace BK339 := bkb_ BK339 hb; have NB343_351 := bkl_ BK343 hg; have NB351_343 := bkr_ BK343 hg; replace BK343 := bkb_ BK343 hb; clear hb hbox hg; have hnb280 := NB351_323.out; have hnc280 := NB323_351.out; have hnb281 := NB351_324.out; have hnc281 := NB324_351.out; have hnb282 := NB351_325.out; have hnc282 := NB325_351.out; have hnb283 := NB351_331.out; have hnc283 := NB331_351.out; have hnb284 := NB351_335.out; have hnc284 := NB335_351.out; have hnb285 := NB351_339.out; have hnc285 := NB339_351.out; have hnb286 := NB351_343.out; have hnc286 := NB343_351.out; obtain ⟨hcz287_0, hcz287_1, hfz287_0, hfz287_1⟩ := bc2_ BK351))
           go_ret
           exact ⟨by first | rfl | (simp [*] <;> rfl), bw_ HB⟩
          rw [if_pos c207] at H
          have c207b0 : (t350 == 0) = true := beq_iff_eq.mpr c207
          have c207b1 : (t350 != 0) = false := bne_eq_false_iff_eq.mpr c207
          clear c207
          (first | rw [c207b0] | (simp only [i64_w, i32_w]; rw [c207b0]) | skip)
          by_cases c208 : (!(t348 == a0_0) || (!(t349 == a0_1))) = true
          case pos =>
           rw [if_pos c208] at H
           have c208b0 : (!(t348 == a0_0) || (!(t349 == a0_1))) = true := c208
           clear c208
           obtain rfl := Option.some.inj H
           have hnb209 := NB339_323.out
           have hnc209 := NB323_339.out
           have hnb210 := NB339_324.out
           have hnc210 := NB324_339.out
           have hnb211 := NB339_325.out
           have hnc211 := NB325_339.out
           have hnb212 := NB339_331.out
           have hnc212 := NB331_339.out
           have hnb213 := NB339_335.out
           have hnc213 := NB335_339.out
           have hnb214 := NB339_343.out
           have hnc214 := NB343_339.out
           obtain ⟨hcz215_0, hcz215_1, hfz215_0, hfz215_1⟩ := bc2_ BK339
           have hnb216 := NB324_323.out
           have hnc216 := NB323_324.out
           have hnb217 := NB324_325.out
           have hnc217 := NB325_324.out
           have hnb218 := NB324_331.out
           have hnc218 := NB331_324.out
           have hnb219 := NB324_335.out
           have hnc219 := NB335_324.out
           have hnb220 := NB324_343.out
           have hnc220 := NB343_324.out
           obtain ⟨hcz221_0, hcz221_1, hfz221_0, hfz221_1⟩ := bc2_ BK324
           go_wp2_with (first | ((with_reducible refine gate_callee (f := 21) rfl ?_); refine gla_ (some 96) Try.func21 #[.agg #[.int .i64 t336, .int .i64 t337], .agg #[.int .i64 a1_0, .int .i64 a1_1]] ?_; (with_reducible refine (num_Div.calls kj194 t336 t337 a1_0 a1_1 t348 t349 t350 _ A206.out).mono ?_); rintro e w222 ⟨rfl, hb⟩; refine ⟨_, rfl, ?_⟩; replace BK323 := bkb_ BK323 hb; replace BK324 := bkb_ BK324 hb; replace BK325 := bkb_ BK325 hb; replace BK331 := bkb_ BK331 hb; replace BK335 := bkb_ BK335 hb; replace BK339 := bkb_ BK339 hb; replace BK343 := bkb_ BK343 hb; replace HB := bws_ HB hb; (try clear hb); (try clear hb2); (try clear hk); (try clear hi)) | ((with_reducible refine gate_dst (N := 17) rfl ?_); refine box_event ?hg (N := 17) ?hd (cs := #[.int .i64 0, .int .i64 0]) (t := 23) ?hr ?_; (case hd => rfl); (case hg => rfl); (case hr => first | (go_simp; done) | (go_simp; rfl)); intro gb351 hg w223 hbox hb; have BK351 := Aside0.mk hbox; have GW351 := bwg_ HB hg; have GE351 := bwg_ HB hg; replace HB := bws_ HB hb; have NB323_351 := bkl_ BK323 hg; have NB351_323 := bkr_ BK323 hg; replace BK323 := bkb_ BK323 hb; have NB324_351 := bkl_ BK324 hg; have NB351_324 := bkr_ BK324 hg; replace BK324 := bkb_ BK324 hb; have NB325_351 := bkl_ BK325 hg; have NB351_325 := bkr_ BK325 hg; replace BK325 := bkb_ BK325 hb; have NB331_351 := bkl_ BK331 hg; have NB351_331 := bkr_ BK331 hg; replace BK331 := bkb_ BK331 hb; have NB335_351 := bkl_ BK335 hg; have NB351_335 := bkr_ BK335 hg; replace BK335 := bkb_ BK335 hb; have NB339_351 := bkl_ BK339 hg; have NB351_339 := bkr_ BK339 hg; replace BK339 := bkb_ BK339 hb; have NB343_351 := bkl_ BK343 hg; have NB351_343 := bkr_ BK343 hg; replace BK343 := bkb_ BK343 hb; clear hb hbox hg; have hnb224 := NB351_323.out; have hnc224 := NB323_351.out; have hnb225 := NB351_324.out; have hnc225 := NB324_351.out; have hnb226 := NB351_325.out; have hnc226 := NB325_351.out; have hnb227 := NB351_331.out; have hnc227 := NB331_351.out; have hnb228 := NB351_335.out; have hnc228 := NB335_351.out; have hnb229 := NB351_339.out; have hnc229 := NB339_351.out; have hnb230 := NB351_343.out; have hnc230 := NB343_351.out; obtain ⟨hcz231_0, hcz231_1, hfz231_0, hfz231_1⟩ := bc2_ BK351; have hnb232 := NB323_325.out; have hnc232 := NB325_323.out; have hnb233 := NB323_331.out; have hnc233 := NB331_323.out; have hnb234 := NB323_335.out; have hnc234 := NB335_323.out; have hnb235 := NB323_343.out; have hnc235 := NB343_323.out; obtain ⟨hcz236_0, hcz236_1, hfz236_0, hfz236_1⟩ := bc2_ BK323))
           go_ret
           exact ⟨by first | rfl | (simp [*] <;> rfl), bw_ HB⟩
          rw [if_neg c208] at H
          have c208b0 : (!(t348 == a0_0) || (!(t349 == a0_1))) = false := by simpa using c208
          clear c208
          have H' := Aside0.mk H
          clear H
          have hnb237 := NB339_323.out
          have hnc237 := NB323_339.out
          have hnb238 := NB339_324.out
          have hnc238 := NB324_339.out
          have hnb239 := NB339_325.out
          have hnc239 := NB325_339.out
          have hnb240 := NB339_331.out
          have hnc240 := NB331_339.out
          have hnb241 := NB339_335.out
          have hnc241 := NB335_339.out
          have hnb242 := NB339_343.out
          have hnc242 := NB343_339.out
          obtain ⟨hcz243_0, hcz243_1, hfz243_0, hfz243_1⟩ := bc2_ BK339
          have hnb244 := NB324_323.out
          have hnc244 := NB323_324.out
          have hnb245 := NB324_325.out
          have hnc245 := NB325_324.out
          have hnb246 := NB324_331.out
          have hnc246 := NB331_324.out
          have hnb247 := NB324_335.out
          have hnc247 := NB335_324.out
          have hnb248 := NB324_343.out
          have hnc248 := NB343_324.out
          obtain ⟨hcz249_0, hcz249_1, hfz249_0, hfz249_1⟩ := bc2_ BK324
          go_wp2_with (first | ((with_reducible refine gate_callee (f := 21) rfl ?_); refine gla_ (some 96) Try.func21 #[.agg #[.int .i64 t336, .int .i64 t337], .agg #[.int .i64 a1_0, .int .i64 a1_1]] ?_; (with_reducible refine (num_Div.calls kj194 t336 t337 a1_0 a1_1 t348 t349 t350 _ A206.out).mono ?_); rintro e w250 ⟨rfl, hb⟩; refine ⟨_, rfl, ?_⟩; replace BK323 := bkb_ BK323 hb; replace BK324 := bkb_ BK324 hb; replace BK325 := bkb_ BK325 hb; replace BK331 := bkb_ BK331 hb; replace BK335 := bkb_ BK335 hb; replace BK339 := bkb_ BK339 hb; replace BK343 := bkb_ BK343 hb; replace HB := bws_ HB hb; (try clear hb); (try clear hb2); (try clear hk); (try clear hi)) | ((with_reducible refine gate_dst (N := 17) rfl ?_); refine box_event ?hg (N := 17) ?hd (cs := #[.int .i64 0, .int .i64 0]) (t := 23) ?hr ?_; (case hd => rfl); (case hg => rfl); (case hr => first | (go_simp; done) | (go_simp; rfl)); intro gb351 hg w251 hbox hb; have BK351 := Aside0.mk hbox; have GW351 := bwg_ HB hg; have GE351 := bwg_ HB hg; replace HB := bws_ HB hb; have NB323_351 := bkl_ BK323 hg; have NB351_323 := bkr_ BK323 hg; replace BK323 := bkb_ BK323 hb; have NB324_351 := bkl_ BK324 hg; have NB351_324 := bkr_ BK324 hg; replace BK324 := bkb_ BK324 hb; have NB325_351 := bkl_ BK325 hg; have NB351_325 := bkr_ BK325 hg; replace BK325 := bkb_ BK325 hb; have NB331_351 := bkl_ BK331 hg; have NB351_331 := bkr_ BK331 hg; replace BK331 := bkb_ BK331 hb; have NB335_351 := bkl_ BK335 hg; have NB351_335 := bkr_ BK335 hg; replace BK335 := bkb_ BK335 hb; have NB339_351 := bkl_ BK339 hg; have NB351_339 := bkr_ BK339 hg; replace BK339 := bkb_ BK339 hb; have NB343_351 := bkl_ BK343 hg; have NB351_343 := bkr_ BK343 hg; replace BK343 := bkb_ BK343 hb; clear hb hbox hg; have hnb252 := NB351_323.out; have hnc252 := NB323_351.out; have hnb253 := NB351_324.out; have hnc253 := NB324_351.out; have hnb254 := NB351_325.out; have hnc254 := NB325_351.out; have hnb255 := NB351_331.out; have hnc255 := NB331_351.out; have hnb256 := NB351_335.out; have hnc256 := NB335_351.out; have hnb257 := NB351_339.out; have hnc257 := NB339_351.out; have hnb258 := NB351_343.out; have hnc258 := NB343_351.out; obtain ⟨hcz259_0, hcz259_1, hfz259_0, hfz259_1⟩ := bc2_ BK351; have hnb260 := NB323_325.out; have hnc260 := NB325_323.out; have hnb261 := NB323_331.out; have hnc261 := NB331_323.out; have hnb262 := NB323_335.out; have hnc262 := NB335_323.out; have hnb263 := NB323_343.out; have hnc263 := NB343_323.out; obtain ⟨hcz264_0, hcz264_1, hfz264_0, hfz264_1⟩ := bc2_ BK323))
          go_meet
          case rel => exact ⟨_, H', ⟨by have := HJ9.out; have := HJ110.out; have := HJ194.out; first | omega | exact Nat.le_refl _⟩, ⟨by refine bf_ ?_ NB323_351; refine bf_ ?_ NB323_351; exact bk_ BK323⟩, ⟨by refine bf_ ?_ NB324_351; refine bf_ ?_ NB324_351; exact bk_ BK324⟩, ⟨by refine bf_ ?_ NB325_351; refine bf_ ?_ NB325_351; exact bk_ BK325⟩, ⟨by refine bf_ ?_ NB331_351; refine bf_ ?_ NB331_351; exact bk_ BK331⟩, ⟨by refine bf_ ?_ NB335_351; refine bf_ ?_ NB335_351; exact bk_ BK335⟩, ⟨by refine bf_ ?_ NB339_351; refine bf_ ?_ NB339_351; exact bk_ BK339⟩, ⟨by refine bf_ ?_ NB343_351; refine bf_ ?_ NB343_351; exact bk_ BK343⟩, ⟨bw_ HB⟩⟩
        as_aux_lemma =>
         clear HC204
         try clear c1
         try clear c2
         try clear p2
         try clear c3
         try clear c4
         try clear c5
         try clear c6
         try clear c7
         try clear c8
         try clear c9
         try clear c10
         try clear c11
         try clear c12
         try clear c13
         try clear c14
         try clear c15
         try clear c16
         try clear c17
         try clear c18
         try clear c19
         try clear c20
         try clear c21
         try clear c22
         try clear c23
         try clear c24
         try clear c25
         try clear c26
         try clear c27
         try clear c28
         try clear c33
         try clear c34
         try clear c35
         try clear c36
         try clear c42
         try clear c43
         try clear c44
         try clear c45
         try clear c46
         try clear c52
         try clear c53
         try clear c54
         try clear c55
         try clear c56
         try clear c57
         try clear c59
         try clear c59b0
         try clear c59b1
         try clear c60
         try clear c60b0
         try clear c61
         try clear c62
         try clear c63
         try clear c64
         try clear c65
         try clear c66
         try clear c68
         try clear c69
         try clear c70
         try clear c71
         try clear c72
         try clear c74
         try clear c74b0
         try clear c74b1
         try clear c75
         try clear c76
         try clear c77
         try clear c78
         try clear c79
         try clear c80
         try clear c82
         try clear c83
         try clear c84
         try clear c85
         try clear c86
         try clear c88
         try clear c89
         try clear c90
         try clear c91
         try clear c93
         try clear c94
         try clear c95
         try clear c97
         try clear c98
         try clear c99
         try clear c100
         try clear c101
         try clear c102
         try clear c104
         try clear c105
         try clear c106
         try clear c107
         try clear c108
         try clear c110
         try clear c112
         try clear c112b0
         try clear c112b1
         try clear c114
         try clear c114b0
         try clear c114b1
         try clear c115
         try clear c115b0
         try clear c116
         try clear c117
         try clear c118
         try clear c119
         try clear c120
         try clear c121
         try clear c123
         try clear c124
         try clear c125
         try clear c126
         try clear c127
         try clear c131
         try clear c132
         try clear c133
         try clear c134
         try clear c135
         try clear c136
         try clear c137
         try clear c139
         try clear c140
         try clear c141
         try clear c142
         try clear c144
         try clear c145
         try clear c146
         try clear c147
         try clear c148
         try clear c149
         try clear c151
         try clear c152
         try clear c153
         try clear c154
         try clear c155
         try clear c159
         try clear c160
         try clear c161
         try clear c162
         try clear c163
         try clear c164
         try clear c165
         try clear c167
         try clear c168
         try clear c169
         try clear c170
         try clear c172
         try clear c173
         try clear c174
         try clear c175
         try clear c176
         try clear c177
         try clear c179
         try clear c180
         try clear c181
         try clear c182
         try clear c183
         try clear c187
         try clear c188
         try clear c189
         try clear c190
         try clear c191
         try clear c192
         try clear c193
         try clear c196
         try clear c196b0
         try clear c196b1
         try clear c197
         try clear c198
         try clear c199
         try clear c200
         try clear c201
         try clear c202
         try clear c205
         try clear c207
         try clear c207b0
         try clear c207b1
         try clear c208
         try clear c208b0
         try clear c209
         try clear c210
         try clear c211
         try clear c212
         try clear c213
         try clear c214
         try clear c216
         try clear c217
         try clear c218
         try clear c219
         try clear c220
         try clear c224
         try clear c225
         try clear c226
         try clear c227
         try clear c228
         try clear c229
         try clear c230
         try clear c232
         try clear c233
         try clear c234
         try clear c235
         try clear c237
         try clear c238
         try clear c239
         try clear c240
         try clear c241
         try clear c242
         try clear c244
         try clear c245
         try clear c246
         try clear c247
         try clear c248
         try clear c252
         try clear c253
         try clear c254
         try clear c255
         try clear c256
         try clear c257
         try clear c258
         try clear c260
         try clear c261
         try clear c262
         try clear c263
         try clear c265
         try clear c266
         try clear c267
         try clear c268
         try clear c269
         try clear c270
         try clear c272
         try clear c273
         try clear c274
         try clear c275
         try clear c276
         try clear c280
         try clear c281
         try clear c282
         try clear c283
         try clear c284
         try clear c285
         try clear c286
         try clear hcz103_0
         try clear hcz103_1
         try clear hcz109_0
         try clear hcz109_1
         try clear hcz122_0
         try clear hcz122_1
         try clear hcz128_0
         try clear hcz128_1
         try clear hcz138_0
         try clear hcz138_1
         try clear hcz143_0
         try clear hcz143_1
         try clear hcz150_0
         try clear hcz150_1
         try clear hcz156_0
         try clear hcz156_1
         try clear hcz166_0
         try clear hcz166_1
         try clear hcz16_0
         try clear hcz16_1
         try clear hcz171_0
         try clear hcz171_1
         try clear hcz178_0
         try clear hcz178_1
         try clear hcz184_0
         try clear hcz184_1
         try clear hcz18_0
         try clear hcz18_1
         try clear hcz194_0
         try clear hcz194_1
         try clear hcz19_0
         try clear hcz19_1
         try clear hcz203_0
         try clear hcz203_1
         try clear hcz215_0
         try clear hcz215_1
         try clear hcz21_0
         try clear hcz21_1
         try clear hcz221_0
         try clear hcz221_1
         try clear hcz22_0
         try clear hcz22_1
         try clear hcz231_0
         try clear hcz231_1
         try clear hcz236_0
         try clear hcz236_1
         try clear hcz243_0
         try clear hcz243_1
         try clear hcz249_0
         try clear hcz249_1
         try clear hcz259_0
         try clear hcz259_1
         try clear hcz264_0
         try clear hcz264_1
         try clear hcz271_0
         try clear hcz271_1
         try clear hcz277_0
         try clear hcz277_1
         try clear hcz287_0
         try clear hcz287_1
         try clear hcz28_0
         try clear hcz28_1
         try clear hcz29_0
         try clear hcz29_1
         try clear hcz30_0
         try clear hcz30_1
         try clear hcz37_0
         try clear hcz37_1
         try clear hcz38_0
         try clear hcz38_1
         try clear hcz39_0
         try clear hcz39_1
         try clear hcz47_0
         try clear hcz47_1
         try clear hcz48_0
         try clear hcz48_1
         try clear hcz49_0
         try clear hcz49_1
         try clear hcz58_0
         try clear hcz58_1
         try clear hcz67_0
         try clear hcz67_1
         try clear hcz73_0
         try clear hcz73_1
         try clear hcz81_0
         try clear hcz81_1
         try clear hcz87_0
         try clear hcz87_1
         try clear hcz92_0
         try clear hcz92_1
         try clear hcz96_0
         try clear hcz96_1
         try clear hfz103_0
         try clear hfz103_1
         try clear hfz109_0
         try clear hfz109_1
         try clear hfz122_0
         try clear hfz122_1
         try clear hfz128_0
         try clear hfz128_1
         try clear hfz138_0
         try clear hfz138_1
         try clear hfz143_0
         try clear hfz143_1
         try clear hfz150_0
         try clear hfz150_1
         try clear hfz156_0
         try clear hfz156_1
         try clear hfz166_0
         try clear hfz166_1
         try clear hfz16_0
         try clear hfz16_1
         try clear hfz171_0
         try clear hfz171_1
         try clear hfz178_0
         try clear hfz178_1
         try clear hfz184_0
         try clear hfz184_1
         try clear hfz18_0
         try clear hfz18_1
         try clear hfz194_0
         try clear hfz194_1
         try clear hfz19_0
         try clear hfz19_1
         try clear hfz203_0
         try clear hfz203_1
         try clear hfz215_0
         try clear hfz215_1
         try clear hfz21_0
         try clear hfz21_1
         try clear hfz221_0
         try clear hfz221_1
         try clear hfz22_0
         try clear hfz22_1
         try clear hfz231_0
         try clear hfz231_1
         try clear hfz236_0
         try clear hfz236_1
         try clear hfz243_0
         try clear hfz243_1
         try clear hfz249_0
         try clear hfz249_1
         try clear hfz259_0
         try clear hfz259_1
         try clear hfz264_0
         try clear hfz264_1
         try clear hfz271_0
         try clear hfz271_1
         try clear hfz277_0
         try clear hfz277_1
         try clear hfz287_0
         try clear hfz287_1
         try clear hfz28_0
         try clear hfz28_1
         try clear hfz29_0
         try clear hfz29_1
         try clear hfz30_0
         try clear hfz30_1
         try clear hfz37_0
         try clear hfz37_1
         try clear hfz38_0
         try clear hfz38_1
         try clear hfz39_0
         try clear hfz39_1
         try clear hfz47_0
         try clear hfz47_1
         try clear hfz48_0
         try clear hfz48_1
         try clear hfz49_0
         try clear hfz49_1
         try clear hfz58_0
         try clear hfz58_1
         try clear hfz67_0
         try clear hfz67_1
         try clear hfz73_0
         try clear hfz73_1
         try clear hfz81_0
         try clear hfz81_1
         try clear hfz87_0
         try clear hfz87_1
         try clear hfz92_0
         try clear hfz92_1
         try clear hfz96_0
         try clear hfz96_1
         try clear p2
         try clear BK323; try clear BK324; try clear BK325; try clear BK331; try clear BK335; try clear BK339; try clear BK343; try clear HB
         obtain ⟨kq, HA, HJ203, BK323, BK324, BK325, BK331, BK335, BK339, BK343, HB⟩ := hcut
         cases kq with
         | zero => exact absurd HA.out (by simp [withylaw01_NumField.j3])
         | succ kj203 =>
          have H := HA.out
          clear HA
          simp only [withylaw01_NumField.j3] at H
          replace H := Option.bind_eq_some_iff.mp H
          obtain ⟨⟨t352, t353⟩, A2880, H⟩ := H
          replace H : ((num_Add.f kj203 a0_0 a0_1 t352 t353).bind fun bt354 => ((withylaw01_one.f).bind fun bt358 => ((num_Mul.f kj203 a0_0 a0_1 bt358.1 bt358.2).bind fun bt360 => (if bt354.2.2 = 0 then (if bt360.2.2 = 0 then (if (bt354.1 == a0_0 && (bt354.2.1 == a0_1)) = true then (if (bt360.1 == a0_0 && (bt360.2.1 == a0_1)) = true then ((withylaw01_joined.f kj203 a0_0 a0_1 a1_0 a1_1 a2_0 a2_1).bind fun t364 => (if t364 = true then ((withylaw01_summed.f kj203).bind fun t365 => (some t365)) else (some false))) else (some false)) else (some false)) else (some false)) else (some false))))) = some r := H
          have A288 := Aside0.mk A2880
          clear A2880
          replace H := Option.bind_eq_some_iff.mp H
          obtain ⟨⟨t354, t355, t356⟩, A2890, H⟩ := H
          replace H : ((withylaw01_one.f).bind fun bt358 => ((num_Mul.f kj203 a0_0 a0_1 bt358.1 bt358.2).bind fun bt360 => (if t356 = 0 then (if bt360.2.2 = 0 then (if (t354 == a0_0 && (t355 == a0_1)) = true then (if (bt360.1 == a0_0 && (bt360.2.1 == a0_1)) = true then ((withylaw01_joined.f kj203 a0_0 a0_1 a1_0 a1_1 a2_0 a2_1).bind fun t364 => (if t364 = true then ((withylaw01_summed.f kj203).bind fun t365 => (some t365)) else (some false))) else (some false)) else (some false)) else (some false)) else (some false)))) = some r := H
          have A289 := Aside0.mk A2890
          clear A2890
          replace H := Option.bind_eq_some_iff.mp H
          obtain ⟨⟨t358, t359⟩, A2900, H⟩ := H
          replace H : ((num_Mul.f kj203 a0_0 a0_1 t358 t359).bind fun bt360 => (if t356 = 0 then (if bt360.2.2 = 0 then (if (t354 == a0_0 && (t355 == a0_1)) = true then (if (bt360.1 == a0_0 && (bt360.2.1 == a0_1)) = true then ((withylaw01_joined.f kj203 a0_0 a0_1 a1_0 a1_1 a2_0 a2_1).bind fun t364 => (if t364 = true then ((withylaw01_summed.f kj203).bind fun t365 => (some t365)) else (some false))) else (some false)) else (some false)) else (some false)) else (some false))) = some r := H
          have A290 := Aside0.mk A2900
          clear A2900
          replace H := Option.bind_eq_some_iff.mp H
          obtain ⟨⟨t360, t361, t362⟩, A2910, H⟩ := H
          replace H : (if t356 = 0 then (if t362 = 0 then (if (t354 == a0_0 && (t355 == a0_1)) = true then (if (t360 == a0_0 && (t361 == a0_1)) = true then ((withylaw01_joined.f kj203 a0_0 a0_1 a1_0 a1_1 a2_0 a2_1).bind fun t364 => (if t364 = true then ((withylaw01_summed.f kj203).bind fun t365 => (some t365)) else (some false))) else (some false)) else (some false)) else (some false)) else (some false)) = some r := H
          have A291 := Aside0.mk A2910
          clear A2910
          try go_wp2
          replace BK323 := Aside0.mk (blk_drew BK323.out)
          replace BK324 := Aside0.mk (blk_drew BK324.out)
          replace BK325 := Aside0.mk (blk_drew BK325.out)
          replace BK331 := Aside0.mk (blk_drew BK331.out)
          replace BK335 := Aside0.mk (blk_drew BK335.out)
          replace BK339 := Aside0.mk (blk_drew BK339.out)
          replace BK343 := Aside0.mk (blk_drew BK343.out)
          replace HB := Aside0.mk (below_drew1 HB.out)
          refine start_ (n := 9) (S := fun w' => w'.cell? ⟨gb323, 0, none⟩ = some (.int .i64 a0_0) ∧ w'.cell? ⟨gb323, 1, none⟩ = some (.int .i64 a0_1)) (ds := []) #[false, false, false, false, false, false, false, false, false] (by kernel_rfl) rfl rfl ⟨(blk_cell BK323.out 0).trans rfl, (blk_cell BK323.out 1).trans rfl⟩ (fun hHeld => ?_); refine with_tabW withylaw01_NumField.tab17 withylaw01_NumField.bits17 (fun HT_ HW_ => ?_)
          generalize wc.drew = w299 at BK323 BK324 BK325 BK331 BK335 BK339 BK343 HB hHeld ⊢
          refine take_ (i := 0) (N := some 107) (v := ?_) (a' := ?_) #[true, false, false, false, false, false, false, false, false] rfl rfl (take_ofW HT_.out HW_.out (by kernel_rfl)) (fun _ _ _ h => h) (Or.inl ⟨by rfl, ?_⟩) hHeld ?_ ?_
          rotate_left
          · rintro w' ⟨s0, s1⟩
            go_simp
            with_reducible rfl
          rotate_left
          · simp only [Act.put, List.setIfInBounds_toArray, List.set_cons_zero, List.set_cons_succ, i64_w, i32_w]
            rfl
          refine join_ (σ := Nat) 2 #[true, true, true, true, true, true, true, false, false] (fun s_ => [(108, .agg #[.int .i64 t352, .int .i64 t353]), (109, .tuple #[.agg #[.int .i64 t354, .int .i64 t355], .int .i64 t356]), (19, .pointer (some ⟨s_, 0, none⟩)), (106, .tuple #[.agg #[.int .i64 t354, .int .i64 t355], .int .i64 t356]), (110, .agg #[.int .i64 t354, .int .i64 t355]), (111, .int .i64 t356)]) (fun s_ w' => (w'.cell? ⟨gb323, 0, none⟩ = some (.int .i64 a0_0) ∧ w'.cell? ⟨gb323, 1, none⟩ = some (.int .i64 a0_1)) ∧ (w'.heap[gb323]? = some (.cells #[.int .i64 a0_0, .int .i64 a0_1] 23 (0, 0))) ∧ (w'.heap[gb324]? = some (.cells #[.int .i64 a1_0, .int .i64 a1_1] 23 (0, 0))) ∧ (w'.heap[gb325]? = some (.cells #[.int .i64 a2_0, .int .i64 a2_1] 23 (0, 0))) ∧ (w'.heap[gb331]? = some (.cells #[.int .i64 t328, .int .i64 t329] 23 (0, 0))) ∧ (w'.heap[gb335]? = some (.cells #[.int .i64 t332, .int .i64 t333] 23 (0, 0))) ∧ (w'.heap[gb339]? = some (.cells #[.int .i64 t336, .int .i64 t337] 23 (0, 0))) ∧ (w'.heap[gb343]? = some (.cells #[.int .i64 t340, .int .i64 t341] 23 (0, 0))) ∧ (w'.heap[s_]? = some (.cells #[.int .i64 0, .int .i64 0] 23 (0, 0))) ∧ (w.heap.size ≤ s_) ∧ (w.heap.size ≤ s_) ∧ (gb323 ≠ s_) ∧ (s_ ≠ gb323) ∧ (gb324 ≠ s_) ∧ (s_ ≠ gb324) ∧ (gb325 ≠ s_) ∧ (s_ ≠ gb325) ∧ (gb331 ≠ s_) ∧ (s_ ≠ gb331) ∧ (gb335 ≠ s_) ∧ (s_ ≠ gb335) ∧ (gb339 ≠ s_) ∧ (s_ ≠ gb339) ∧ (gb343 ≠ s_) ∧ (s_ ≠ gb343) ∧ (Below w.heap.size w w')) ?_ ?_
          rotate_left
          · intro hCont
            refine two_ (i := 1) (j := 6) (Ni := some 108) (Nj := some 19) #[true, true, false, false, false, false, false, false, false] #[true, false, false, false, false, false, true, false, false] rfl rfl rfl rfl (two_of HT_.out (by kernel_rfl)) (by decide) (by decide) (fun K hK => ?_) (fun K hK => ?_)
            · skip
              refine gos_ Try.func22 #[] ?_
              with_reducible refine (withylaw01_zero.calls  t352 t353 _ A288.out).mono ?_
              rintro e w300 ⟨rfl, hb⟩
              refine ⟨_, rfl, ?_⟩
              replace BK323 := bkb_ BK323 hb
              replace BK324 := bkb_ BK324 hb
              replace BK325 := bkb_ BK325 hb
              replace BK331 := bkb_ BK331 hb
              replace BK335 := bkb_ BK335 hb
              replace BK339 := bkb_ BK339 hb
              replace BK343 := bkb_ BK343 hb
              replace HB := bws_ HB hb
              (try clear hb)
              (try clear hb2)
              (try clear hk)
              (try clear hi)
              refine hK.out _ _ ⟨(blk_cell BK323.out 0).trans rfl, (blk_cell BK323.out 1).trans rfl⟩ (fun hHeld => ?_)
              clear hK K
              refine norm_ (a' := ?_) ?_ ?_
              rotate_left
              · show Act.put _ (some 108) _ = _
                simp only [Act.put, List.setIfInBounds_toArray, List.set_cons_zero, List.set_cons_succ, i64_w, i32_w]
                rfl
              refine two_ (i := 2) (j := 6) (Ni := some 109) (Nj := some 19) #[true, true, true, false, false, false, false, false, false] #[true, true, false, false, false, false, true, false, false] rfl rfl rfl rfl (two_of HT_.out (by kernel_rfl)) (by decide) (by decide) (fun K hK => ?_) (fun K hK => ?_)
              · skip
                refine gos_ Try.func18 #[.agg #[.int .i64 a0_0, .int .i64 a0_1], .agg #[.int .i64 t352, .int .i64 t353]] ?_
                with_reducible refine (num_Add.calls kj203 a0_0 a0_1 t352 t353 t354 t355 t356 _ A289.out).mono ?_
                rintro e w301 ⟨rfl, hb⟩
                refine ⟨_, rfl, ?_⟩
                replace BK323 := bkb_ BK323 hb
                replace BK324 := bkb_ BK324 hb
                replace BK325 := bkb_ BK325 hb
                replace BK331 := bkb_ BK331 hb
                replace BK335 := bkb_ BK335 hb
                replace BK339 := bkb_ BK339 hb
                replace BK343 := bkb_ BK343 hb
                replace HB := bws_ HB hb
                (try clear hb)
                (try clear hb2)
                (try clear hk)
                (try clear hi)
                refine hK.out _ _ ⟨(blk_cell BK323.out 0).trans rfl, (blk_cell BK323.out 1).trans rfl⟩ (fun hHeld => ?_)
                clear hK K
                refine norm_ (a' := ?_) ?_ ?_
                rotate_left
                · show Act.put _ (some 109) _ = _
                  simp only [Act.put, List.setIfInBounds_toArray, List.set_cons_zero, List.set_cons_succ, i64_w, i32_w]
                  rfl
                refine pure_ (i := 3) (N := some 106) (v := ?_) (a' := ?_) #[true, true, true, true, false, false, false, false, false] rfl rfl (any_of HT_.out (by kernel_rfl)) (fun _ _ _ h => h) (Or.inl ⟨by rfl, ?_⟩) ?_ ?_
                rotate_left
                · intro w'
                  go_simp
                  with_reducible rfl
                rotate_left
                · simp only [Act.put, List.setIfInBounds_toArray, List.set_cons_zero, List.set_cons_succ, i64_w, i32_w]
                  rfl
                refine pure_ (i := 4) (N := some 110) (v := ?_) (a' := ?_) #[true, true, true, true, true, false, false, false, false] rfl rfl (any_of HT_.out (by kernel_rfl)) (fun _ _ _ h => h) (Or.inl ⟨by rfl, ?_⟩) ?_ ?_
                rotate_left
                · intro w'
                  go_simp
                  with_reducible rfl
                rotate_left
                · simp only [Act.put, List.setIfInBounds_toArray, List.set_cons_zero, List.set_cons_succ, i64_w, i32_w]
                  rfl
                refine pure_ (i := 5) (N := some 111) (v := ?_) (a' := ?_) #[true, true, true, true, true, true, false, false, false] rfl rfl (any_of HT_.out (by kernel_rfl)) (fun _ _ _ h => h) (Or.inl ⟨by rfl, ?_⟩) ?_ ?_
                rotate_left
                · intro w'
                  go_simp
                  with_reducible rfl
                rotate_left
                · simp only [Act.put, List.setIfInBounds_toArray, List.set_cons_zero, List.set_cons_succ, i64_w, i32_w]
                  rfl
                refine one_ (i := 6) (N := some 19) #[true, true, true, true, true, true, true, false, false] rfl rfl (one_of HT_.out (by kernel_rfl)) (by decide) (fun K hK => ?_)
                refine box_step ?hg (N := 19) ?hd (cs := #[.int .i64 0, .int .i64 0]) (t := 23) ?hr ?_; (case hd => rfl); (case hg => rfl); (case hr => first | (go_simp; done) | (go_simp; rfl))
                intro gb357 hg w302 hbox hb
                have BK357 := Aside0.mk hbox
                have GW357 := bwg_ HB hg
                have GE357 := bwg_ HB hg
                replace HB := bws_ HB hb
                have NB323_357 := bkl_ BK323 hg
                have NB357_323 := bkr_ BK323 hg
                replace BK323 := bkb_ BK323 hb
                have NB324_357 := bkl_ BK324 hg
                have NB357_324 := bkr_ BK324 hg
                replace BK324 := bkb_ BK324 hb
                have NB325_357 := bkl_ BK325 hg
                have NB357_325 := bkr_ BK325 hg
                replace BK325 := bkb_ BK325 hb
                have NB331_357 := bkl_ BK331 hg
                have NB357_331 := bkr_ BK331 hg
                replace BK331 := bkb_ BK331 hb
                have NB335_357 := bkl_ BK335 hg
                have NB357_335 := bkr_ BK335 hg
                replace BK335 := bkb_ BK335 hb
                have NB339_357 := bkl_ BK339 hg
                have NB357_339 := bkr_ BK339 hg
                replace BK339 := bkb_ BK339 hb
                have NB343_357 := bkl_ BK343 hg
                have NB357_343 := bkr_ BK343 hg
                replace BK343 := bkb_ BK343 hb
                clear hb hbox hg
                refine hK.out _ _ ⟨(blk_cell BK323.out 0).trans rfl, (blk_cell BK323.out 1).trans rfl⟩ (fun hHeld => ?_)
                clear hK K
                refine norm_ (a' := ?_) ?_ ?_
                rotate_left
                · show Act.put _ (some 19) _ = _
                  simp only [Act.put, List.setIfInBounds_toArray, List.set_cons_zero, List.set_cons_succ, i64_w, i32_w]
                  rfl
                exact norm_ (by simp only [putAll, Act.put, List.setIfInBounds_toArray, List.set_cons_zero, List.set_cons_succ]) (hCont (gb357) _ ⟨hHeld, (bk_ BK323), (bk_ BK324), (bk_ BK325), (bk_ BK331), (bk_ BK335), (bk_ BK339), (bk_ BK343), (bk_ BK357), GW357.out, GE357.out, NB323_357.out, NB357_323.out, NB324_357.out, NB357_324.out, NB325_357.out, NB357_325.out, NB331_357.out, NB357_331.out, NB335_357.out, NB357_335.out, NB339_357.out, NB357_339.out, NB343_357.out, NB357_343.out, (bw_ HB)⟩)
              · skip
                refine box_step ?hg (N := 19) ?hd (cs := #[.int .i64 0, .int .i64 0]) (t := 23) ?hr ?_; (case hd => rfl); (case hg => rfl); (case hr => first | (go_simp; done) | (go_simp; rfl))
                intro gb357 hg w301 hbox hb
                have BK357 := Aside0.mk hbox
                have GW357 := bwg_ HB hg
                have GE357 := bwg_ HB hg
                replace HB := bws_ HB hb
                have NB323_357 := bkl_ BK323 hg
                have NB357_323 := bkr_ BK323 hg
                replace BK323 := bkb_ BK323 hb
                have NB324_357 := bkl_ BK324 hg
                have NB357_324 := bkr_ BK324 hg
                replace BK324 := bkb_ BK324 hb
                have NB325_357 := bkl_ BK325 hg
                have NB357_325 := bkr_ BK325 hg
                replace BK325 := bkb_ BK325 hb
                have NB331_357 := bkl_ BK331 hg
                have NB357_331 := bkr_ BK331 hg
                replace BK331 := bkb_ BK331 hb
                have NB335_357 := bkl_ BK335 hg
                have NB357_335 := bkr_ BK335 hg
                replace BK335 := bkb_ BK335 hb
                have NB339_357 := bkl_ BK339 hg
                have NB357_339 := bkr_ BK339 hg
                replace BK339 := bkb_ BK339 hb
                have NB343_357 := bkl_ BK343 hg
                have NB357_343 := bkr_ BK343 hg
                replace BK343 := bkb_ BK343 hb
                clear hb hbox hg
                refine hK.out _ _ ⟨(blk_cell BK323.out 0).trans rfl, (blk_cell BK323.out 1).trans rfl⟩ (fun hHeld => ?_)
                clear hK K
                refine norm_ (a' := ?_) ?_ ?_
                rotate_left
                · show Act.put _ (some 19) _ = _
                  simp only [Act.put, List.setIfInBounds_toArray, List.set_cons_zero, List.set_cons_succ, i64_w, i32_w]
                  rfl
                refine one_ (i := 2) (N := some 109) #[true, true, true, false, false, false, true, false, false] rfl rfl (one_of HT_.out (by kernel_rfl)) (by decide) (fun K hK => ?_)
                refine gos_ Try.func18 #[.agg #[.int .i64 a0_0, .int .i64 a0_1], .agg #[.int .i64 t352, .int .i64 t353]] ?_
                with_reducible refine (num_Add.calls kj203 a0_0 a0_1 t352 t353 t354 t355 t356 _ A289.out).mono ?_
                rintro e w302 ⟨rfl, hb⟩
                refine ⟨_, rfl, ?_⟩
                replace BK323 := bkb_ BK323 hb
                replace BK324 := bkb_ BK324 hb
                replace BK325 := bkb_ BK325 hb
                replace BK331 := bkb_ BK331 hb
                replace BK335 := bkb_ BK335 hb
                replace BK339 := bkb_ BK339 hb
                replace BK343 := bkb_ BK343 hb
                replace BK357 := bkb_ BK357 hb
                replace HB := bws_ HB hb
                (try clear hb)
                (try clear hb2)
                (try clear hk)
                (try clear hi)
                refine hK.out _ _ ⟨(blk_cell BK323.out 0).trans rfl, (blk_cell BK323.out 1).trans rfl⟩ (fun hHeld => ?_)
                clear hK K
                refine norm_ (a' := ?_) ?_ ?_
                rotate_left
                · show Act.put _ (some 109) _ = _
                  simp only [Act.put, List.setIfInBounds_toArray, List.set_cons_zero, List.set_cons_succ, i64_w, i32_w]
                  rfl
                refine pure_ (i := 3) (N := some 106) (v := ?_) (a' := ?_) #[true, true, true, true, false, false, true, false, false] rfl rfl (any_of HT_.out (by kernel_rfl)) (fun _ _ _ h => h) (Or.inl ⟨by rfl, ?_⟩) ?_ ?_
                rotate_left
                · intro w'
                  go_simp
                  with_reducible rfl
                rotate_left
                · simp only [Act.put, List.setIfInBounds_toArray, List.set_cons_zero, List.set_cons_succ, i64_w, i32_w]
                  rfl
                refine pure_ (i := 4) (N := some 110) (v := ?_) (a' := ?_) #[true, true, true, true, true, false, true, false, false] rfl rfl (any_of HT_.out (by kernel_rfl)) (fun _ _ _ h => h) (Or.inl ⟨by rfl, ?_⟩) ?_ ?_
                rotate_left
                · intro w'
                  go_simp
                  with_reducible rfl
                rotate_left
                · simp only [Act.put, List.setIfInBounds_toArray, List.set_cons_zero, List.set_cons_succ, i64_w, i32_w]
                  rfl
                refine pure_ (i := 5) (N := some 111) (v := ?_) (a' := ?_) #[true, true, true, true, true, true, true, false, false] rfl rfl (any_of HT_.out (by kernel_rfl)) (fun _ _ _ h => h) (Or.inl ⟨by rfl, ?_⟩) ?_ ?_
                rotate_left
                · intro w'
                  go_simp
                  with_reducible rfl
                rotate_left
                · simp only [Act.put, List.setIfInBounds_toArray, List.set_cons_zero, List.set_cons_succ, i64_w, i32_w]
                  rfl
                exact norm_ (by simp only [putAll, Act.put, List.setIfInBounds_toArray, List.set_cons_zero, List.set_cons_succ]) (hCont (gb357) _ ⟨hHeld, (bk_ BK323), (bk_ BK324), (bk_ BK325), (bk_ BK331), (bk_ BK335), (bk_ BK339), (bk_ BK343), (bk_ BK357), GW357.out, GE357.out, NB323_357.out, NB357_323.out, NB324_357.out, NB357_324.out, NB325_357.out, NB357_325.out, NB331_357.out, NB357_331.out, NB335_357.out, NB357_335.out, NB339_357.out, NB357_339.out, NB343_357.out, NB357_343.out, (bw_ HB)⟩)
            · skip
              refine box_step ?hg (N := 19) ?hd (cs := #[.int .i64 0, .int .i64 0]) (t := 23) ?hr ?_; (case hd => rfl); (case hg => rfl); (case hr => first | (go_simp; done) | (go_simp; rfl))
              intro gb357 hg w300 hbox hb
              have BK357 := Aside0.mk hbox
              have GW357 := bwg_ HB hg
              have GE357 := bwg_ HB hg
              replace HB := bws_ HB hb
              have NB323_357 := bkl_ BK323 hg
              have NB357_323 := bkr_ BK323 hg
              replace BK323 := bkb_ BK323 hb
              have NB324_357 := bkl_ BK324 hg
              have NB357_324 := bkr_ BK324 hg
              replace BK324 := bkb_ BK324 hb
              have NB325_357 := bkl_ BK325 hg
              have NB357_325 := bkr_ BK325 hg
              replace BK325 := bkb_ BK325 hb
              have NB331_357 := bkl_ BK331 hg
              have NB357_331 := bkr_ BK331 hg
              replace BK331 := bkb_ BK331 hb
              have NB335_357 := bkl_ BK335 hg
              have NB357_335 := bkr_ BK335 hg
              replace BK335 := bkb_ BK335 hb
              have NB339_357 := bkl_ BK339 hg
              have NB357_339 := bkr_ BK339 hg
              replace BK339 := bkb_ BK339 hb
              have NB343_357 := bkl_ BK343 hg
              have NB357_343 := bkr_ BK343 hg
              replace BK343 := bkb_ BK343 hb
              clear hb hbox hg
              refine hK.out _ _ ⟨(blk_cell BK323.out 0).trans rfl, (blk_cell BK323.out 1).trans rfl⟩ (fun hHeld => ?_)
              clear hK K
              refine norm_ (a' := ?_) ?_ ?_
              rotate_left
              · show Act.put _ (some 19) _ = _
                simp only [Act.put, List.setIfInBounds_toArray, List.set_cons_zero, List.set_cons_succ, i64_w, i32_w]
                rfl
              refine one_ (i := 1) (N := some 108) #[true, true, false, false, false, false, true, false, false] rfl rfl (one_of HT_.out (by kernel_rfl)) (by decide) (fun K hK => ?_)
              refine gos_ Try.func22 #[] ?_
              with_reducible refine (withylaw01_zero.calls  t352 t353 _ A288.out).mono ?_
              rintro e w301 ⟨rfl, hb⟩
              refine ⟨_, rfl, ?_⟩
              replace BK323 := bkb_ BK323 hb
              replace BK324 := bkb_ BK324 hb
              replace BK325 := bkb_ BK325 hb
              replace BK331 := bkb_ BK331 hb
              replace BK335 := bkb_ BK335 hb
              replace BK339 := bkb_ BK339 hb
              replace BK343 := bkb_ BK343 hb
              replace BK357 := bkb_ BK357 hb
              replace HB := bws_ HB hb
              (try clear hb)
              (try clear hb2)
              (try clear hk)
              (try clear hi)
              refine hK.out _ _ ⟨(blk_cell BK323.out 0).trans rfl, (blk_cell BK323.out 1).trans rfl⟩ (fun hHeld => ?_)
              clear hK K
              refine norm_ (a' := ?_) ?_ ?_
              rotate_left
              · show Act.put _ (some 108) _ = _
                simp only [Act.put, List.setIfInBounds_toArray, List.set_cons_zero, List.set_cons_succ, i64_w, i32_w]
                rfl
              refine one_ (i := 2) (N := some 109) #[true, true, true, false, false, false, true, false, false] rfl rfl (one_of HT_.out (by kernel_rfl)) (by decide) (fun K hK => ?_)
              refine gos_ Try.func18 #[.agg #[.int .i64 a0_0, .int .i64 a0_1], .agg #[.int .i64 t352, .int .i64 t353]] ?_
              with_reducible refine (num_Add.calls kj203 a0_0 a0_1 t352 t353 t354 t355 t356 _ A289.out).mono ?_
              rintro e w302 ⟨rfl, hb⟩
              refine ⟨_, rfl, ?_⟩
              replace BK323 := bkb_ BK323 hb
              replace BK324 := bkb_ BK324 hb
              replace BK325 := bkb_ BK325 hb
              replace BK331 := bkb_ BK331 hb
              replace BK335 := bkb_ BK335 hb
              replace BK339 := bkb_ BK339 hb
              replace BK343 := bkb_ BK343 hb
              replace BK357 := bkb_ BK357 hb
              replace HB := bws_ HB hb
              (try clear hb)
              (try clear hb2)
              (try clear hk)
              (try clear hi)
              refine hK.out _ _ ⟨(blk_cell BK323.out 0).trans rfl, (blk_cell BK323.out 1).trans rfl⟩ (fun hHeld => ?_)
              clear hK K
              refine norm_ (a' := ?_) ?_ ?_
              rotate_left
              · show Act.put _ (some 109) _ = _
                simp only [Act.put, List.setIfInBounds_toArray, List.set_cons_zero, List.set_cons_succ, i64_w, i32_w]
                rfl
              refine pure_ (i := 3) (N := some 106) (v := ?_) (a' := ?_) #[true, true, true, true, false, false, true, false, false] rfl rfl (any_of HT_.out (by kernel_rfl)) (fun _ _ _ h => h) (Or.inl ⟨by rfl, ?_⟩) ?_ ?_
              rotate_left
              · intro w'
                go_simp
                with_reducible rfl
              rotate_left
              · simp only [Act.put, List.setIfInBounds_toArray, List.set_cons_zero, List.set_cons_succ, i64_w, i32_w]
                rfl
              refine pure_ (i := 4) (N := some 110) (v := ?_) (a' := ?_) #[true, true, true, true, true, false, true, false, false] rfl rfl (any_of HT_.out (by kernel_rfl)) (fun _ _ _ h => h) (Or.inl ⟨by rfl, ?_⟩) ?_ ?_
              rotate_left
              · intro w'
                go_simp
                with_reducible rfl
              rotate_left
              · simp only [Act.put, List.setIfInBounds_toArray, List.set_cons_zero, List.set_cons_succ, i64_w, i32_w]
                rfl
              refine pure_ (i := 5) (N := some 111) (v := ?_) (a' := ?_) #[true, true, true, true, true, true, true, false, false] rfl rfl (any_of HT_.out (by kernel_rfl)) (fun _ _ _ h => h) (Or.inl ⟨by rfl, ?_⟩) ?_ ?_
              rotate_left
              · intro w'
                go_simp
                with_reducible rfl
              rotate_left
              · simp only [Act.put, List.setIfInBounds_toArray, List.set_cons_zero, List.set_cons_succ, i64_w, i32_w]
                rfl
              exact norm_ (by simp only [putAll, Act.put, List.setIfInBounds_toArray, List.set_cons_zero, List.set_cons_succ]) (hCont (gb357) _ ⟨hHeld, (bk_ BK323), (bk_ BK324), (bk_ BK325), (bk_ BK331), (bk_ BK335), (bk_ BK339), (bk_ BK343), (bk_ BK357), GW357.out, GE357.out, NB323_357.out, NB357_323.out, NB324_357.out, NB357_324.out, NB325_357.out, NB357_325.out, NB331_357.out, NB357_331.out, NB335_357.out, NB357_335.out, NB339_357.out, NB357_339.out, NB343_357.out, NB357_343.out, (bw_ HB)⟩)
          rintro gb357 w303 ⟨hS_, h0_, h1_, h2_, h3_, h4_, h5_, h6_, h7_, h8_, h9_, h10_, h11_, h12_, h13_, h14_, h15_, h16_, h17_, h18_, h19_, h20_, h21_, h22_, h23_, h24_⟩
          have n0_ : Aside0 (w303.heap[gb323]? = some (.cells #[.int .i64 a0_0, .int .i64 a0_1] 23 (0, 0))) := ⟨h0_⟩
          have n1_ : Aside0 (w303.heap[gb324]? = some (.cells #[.int .i64 a1_0, .int .i64 a1_1] 23 (0, 0))) := ⟨h1_⟩
          have n2_ : Aside0 (w303.heap[gb325]? = some (.cells #[.int .i64 a2_0, .int .i64 a2_1] 23 (0, 0))) := ⟨h2_⟩
          have n3_ : Aside0 (w303.heap[gb331]? = some (.cells #[.int .i64 t328, .int .i64 t329] 23 (0, 0))) := ⟨h3_⟩
          have n4_ : Aside0 (w303.heap[gb335]? = some (.cells #[.int .i64 t332, .int .i64 t333] 23 (0, 0))) := ⟨h4_⟩
          have n5_ : Aside0 (w303.heap[gb339]? = some (.cells #[.int .i64 t336, .int .i64 t337] 23 (0, 0))) := ⟨h5_⟩
          have n6_ : Aside0 (w303.heap[gb343]? = some (.cells #[.int .i64 t340, .int .i64 t341] 23 (0, 0))) := ⟨h6_⟩
          have n7_ : Aside0 (w303.heap[gb357]? = some (.cells #[.int .i64 0, .int .i64 0] 23 (0, 0))) := ⟨h7_⟩
          have n8_ : Aside0 (w.heap.size ≤ gb357) := ⟨h8_⟩
          have n9_ : Aside0 (w.heap.size ≤ gb357) := ⟨h9_⟩
          have n10_ : Aside0 (gb323 ≠ gb357) := ⟨h10_⟩
          have n11_ : Aside0 (gb357 ≠ gb323) := ⟨h11_⟩
          have n12_ : Aside0 (gb324 ≠ gb357) := ⟨h12_⟩
          have n13_ : Aside0 (gb357 ≠ gb324) := ⟨h13_⟩
          have n14_ : Aside0 (gb325 ≠ gb357) := ⟨h14_⟩
          have n15_ : Aside0 (gb357 ≠ gb325) := ⟨h15_⟩
          have n16_ : Aside0 (gb331 ≠ gb357) := ⟨h16_⟩
          have n17_ : Aside0 (gb357 ≠ gb331) := ⟨h17_⟩
          have n18_ : Aside0 (gb335 ≠ gb357) := ⟨h18_⟩
          have n19_ : Aside0 (gb357 ≠ gb335) := ⟨h19_⟩
          have n20_ : Aside0 (gb339 ≠ gb357) := ⟨h20_⟩
          have n21_ : Aside0 (gb357 ≠ gb339) := ⟨h21_⟩
          have n22_ : Aside0 (gb343 ≠ gb357) := ⟨h22_⟩
          have n23_ : Aside0 (gb357 ≠ gb343) := ⟨h23_⟩
          have n24_ : Aside0 (Below w.heap.size w w303) := ⟨h24_⟩
          clear BK323
          clear BK324
          clear BK325
          clear BK331
          clear BK335
          clear BK339
          clear BK343
          clear HB
          clear h0_ h1_ h2_ h3_ h4_ h5_ h6_ h7_ h8_ h9_ h10_ h11_ h12_ h13_ h14_ h15_ h16_ h17_ h18_ h19_ h20_ h21_ h22_ h23_ h24_
          have BK323 := n0_
          have BK324 := n1_
          have BK325 := n2_
          have BK331 := n3_
          have BK335 := n4_
          have BK339 := n5_
          have BK343 := n6_
          have BK357 := n7_
          have GW357 := n8_
          have GE357 := n9_
          have NB323_357 := n10_
          have NB357_323 := n11_
          have NB324_357 := n12_
          have NB357_324 := n13_
          have NB325_357 := n14_
          have NB357_325 := n15_
          have NB331_357 := n16_
          have NB357_331 := n17_
          have NB335_357 := n18_
          have NB357_335 := n19_
          have NB339_357 := n20_
          have NB357_339 := n21_
          have NB343_357 := n22_
          have NB357_343 := n23_
          have HB := n24_
          clear n0_ n1_ n2_ n3_ n4_ n5_ n6_ n7_ n8_ n9_ n10_ n11_ n12_ n13_ n14_ n15_ n16_ n17_ n18_ n19_ n20_ n21_ n22_ n23_ n24_
          have hHeld : w303.cell? ⟨gb323, 0, none⟩ = some (.int .i64 a0_0) ∧ w303.cell? ⟨gb323, 1, none⟩ = some (.int .i64 a0_1) := hS_
          refine norm_ (a' := ?_) ?_ ?_
          rotate_left
          · simp only [putAll, Act.put, List.setIfInBounds_toArray, List.set_cons_zero, List.set_cons_succ]
            rfl
          refine one_ (i := 7) (N := none) #[true, true, true, true, true, true, true, true, false] rfl rfl (one_of HT_.out (by kernel_rfl)) (by decide) (fun K hK => ?_)
          have hs304 : w303.cell? ⟨gb357, 0, none⟩ = some (.int .i64 0) := (blk_cell BK357.out 0).trans rfl
          have hfs304 := blk_frozen BK357.out 0
          have hns304_0 := NB323_357.out
          have hns304_1 := NB324_357.out
          have hns304_2 := NB325_357.out
          have hns304_3 := NB331_357.out
          have hns304_4 := NB335_357.out
          have hns304_5 := NB339_357.out
          have hns304_6 := NB343_357.out
          have hms304_0 := NB357_323.out
          have hms304_1 := NB357_324.out
          have hms304_2 := NB357_325.out
          have hms304_3 := NB357_331.out
          have hms304_4 := NB357_335.out
          have hms304_5 := NB357_339.out
          have hms304_6 := NB357_343.out
          have hs305 : w303.cell? ⟨gb357, 1, none⟩ = some (.int .i64 0) := (blk_cell BK357.out 1).trans rfl
          have hfs305 := blk_frozen BK357.out 1
          have hns305_0 := NB323_357.out
          have hns305_1 := NB324_357.out
          have hns305_2 := NB325_357.out
          have hns305_3 := NB331_357.out
          have hns305_4 := NB335_357.out
          have hns305_5 := NB339_357.out
          have hns305_6 := NB343_357.out
          have hms305_0 := NB357_323.out
          have hms305_1 := NB357_324.out
          have hms305_2 := NB357_325.out
          have hms305_3 := NB357_331.out
          have hms305_4 := NB357_335.out
          have hms305_5 := NB357_339.out
          have hms305_6 := NB357_343.out
          refine skip_ (w1 := ?_) (by rfl) rfl ?_ ?_
          rotate_left
          · go_simp
            rfl
          refine hK.out _ _ ⟨((cell_far (p := ⟨gb357, _, none⟩) NB323_357.out _).trans (((cell_far (p := ⟨gb357, _, none⟩) NB323_357.out _).trans (hHeld.1)))), ((cell_far (p := ⟨gb357, _, none⟩) NB323_357.out _).trans (((cell_far (p := ⟨gb357, _, none⟩) NB323_357.out _).trans (hHeld.2))))⟩ (fun hHeld => ?_)
          clear hK K
          refine pure_ (i := 8) (N := some 20) (v := ?_) (a' := ?_) #[true, true, true, true, true, true, true, true, true] rfl rfl (any_of HT_.out (by kernel_rfl)) (fun _ _ _ h => h) (Or.inl ⟨by rfl, ?_⟩) ?_ ?_
          rotate_left
          · intro w'
            go_simp
            with_reducible rfl
          rotate_left
          · simp only [Act.put, List.setIfInBounds_toArray, List.set_cons_zero, List.set_cons_succ, i64_w, i32_w]
            rfl
          refine done_ (done_of HT_.out (by kernel_rfl)) ?_
          try clear hs304; try clear hfs304; try clear hns304_0; try clear hns304_1; try clear hns304_2; try clear hns304_3; try clear hns304_4; try clear hns304_5; try clear hns304_6; try clear hms304_0; try clear hms304_1; try clear hms304_2; try clear hms304_3; try clear hms304_4; try clear hms304_5; try clear hms304_6; try clear hs305; try clear hfs305; try clear hns305_0; try clear hns305_1; try clear hns305_2; try clear hns305_3; try clear hns305_4; try clear hns305_5; try clear hns305_6; try clear hms305_0; try clear hms305_1; try clear hms305_2; try clear hms305_3; try clear hms305_4; try clear hms305_5; try clear hms305_6
          try go_wp2
          have n0_ : Aside0 (((w303.setCell ⟨gb357, 0, none⟩ (.int .i64 t354)).setCell ⟨gb357, 1, none⟩ (.int .i64 t355)).heap[gb323]? = some (.cells #[.int .i64 a0_0, .int .i64 a0_1] 23 (0, 0))) := ⟨by refine bf_ ?_ NB323_357; refine bf_ ?_ NB323_357; exact bk_ BK323⟩
          have n1_ : Aside0 (((w303.setCell ⟨gb357, 0, none⟩ (.int .i64 t354)).setCell ⟨gb357, 1, none⟩ (.int .i64 t355)).heap[gb324]? = some (.cells #[.int .i64 a1_0, .int .i64 a1_1] 23 (0, 0))) := ⟨by refine bf_ ?_ NB324_357; refine bf_ ?_ NB324_357; exact bk_ BK324⟩
          have n2_ : Aside0 (((w303.setCell ⟨gb357, 0, none⟩ (.int .i64 t354)).setCell ⟨gb357, 1, none⟩ (.int .i64 t355)).heap[gb325]? = some (.cells #[.int .i64 a2_0, .int .i64 a2_1] 23 (0, 0))) := ⟨by refine bf_ ?_ NB325_357; refine bf_ ?_ NB325_357; exact bk_ BK325⟩
          have n3_ : Aside0 (((w303.setCell ⟨gb357, 0, none⟩ (.int .i64 t354)).setCell ⟨gb357, 1, none⟩ (.int .i64 t355)).heap[gb331]? = some (.cells #[.int .i64 t328, .int .i64 t329] 23 (0, 0))) := ⟨by refine bf_ ?_ NB331_357; refine bf_ ?_ NB331_357; exact bk_ BK331⟩
          have n4_ : Aside0 (((w303.setCell ⟨gb357, 0, none⟩ (.int .i64 t354)).setCell ⟨gb357, 1, none⟩ (.int .i64 t355)).heap[gb335]? = some (.cells #[.int .i64 t332, .int .i64 t333] 23 (0, 0))) := ⟨by refine bf_ ?_ NB335_357; refine bf_ ?_ NB335_357; exact bk_ BK335⟩
          have n5_ : Aside0 (((w303.setCell ⟨gb357, 0, none⟩ (.int .i64 t354)).setCell ⟨gb357, 1, none⟩ (.int .i64 t355)).heap[gb339]? = some (.cells #[.int .i64 t336, .int .i64 t337] 23 (0, 0))) := ⟨by refine bf_ ?_ NB339_357; refine bf_ ?_ NB339_357; exact bk_ BK339⟩
          have n6_ : Aside0 (((w303.setCell ⟨gb357, 0, none⟩ (.int .i64 t354)).setCell ⟨gb357, 1, none⟩ (.int .i64 t355)).heap[gb343]? = some (.cells #[.int .i64 t340, .int .i64 t341] 23 (0, 0))) := ⟨by refine bf_ ?_ NB343_357; refine bf_ ?_ NB343_357; exact bk_ BK343⟩
          have n7_ : Aside0 (((w303.setCell ⟨gb357, 0, none⟩ (.int .i64 t354)).setCell ⟨gb357, 1, none⟩ (.int .i64 t355)).heap[gb357]? = some (.cells #[.int .i64 t354, .int .i64 t355] 23 (0, 0))) := ⟨by refine bp_ (cs := #[.int .i64 t354, .int .i64 0]) ?_ 1; refine bp_ (cs := #[.int .i64 0, .int .i64 0]) ?_ 0; exact bk_ BK357⟩
          have n8_ : Aside0 (Below w.heap.size w ((w303.setCell ⟨gb357, 0, none⟩ (.int .i64 t354)).setCell ⟨gb357, 1, none⟩ (.int .i64 t355))) := ⟨bw_ HB⟩
          (try clear BK323)
          (try clear BK324)
          (try clear BK325)
          (try clear BK331)
          (try clear BK335)
          (try clear BK339)
          (try clear BK343)
          (try clear BK357)
          (try clear HB)
          generalize ((w303.setCell ⟨gb357, 0, none⟩ (.int .i64 t354)).setCell ⟨gb357, 1, none⟩ (.int .i64 t355)) = w306 at n0_ n1_ n2_ n3_ n4_ n5_ n6_ n7_ n8_ ⊢
          have BK323 := n0_
          have BK324 := n1_
          have BK325 := n2_
          have BK331 := n3_
          have BK335 := n4_
          have BK339 := n5_
          have BK343 := n6_
          have BK357 := n7_
          have HB := n8_
          clear n0_ n1_ n2_ n3_ n4_ n5_ n6_ n7_ n8_
          replace BK323 := Aside0.mk (blk_drew BK323.out)
          replace BK324 := Aside0.mk (blk_drew BK324.out)
          replace BK325 := Aside0.mk (blk_drew BK325.out)
          replace BK331 := Aside0.mk (blk_drew BK331.out)
          replace BK335 := Aside0.mk (blk_drew BK335.out)
          replace BK339 := Aside0.mk (blk_drew BK339.out)
          replace BK343 := Aside0.mk (blk_drew BK343.out)
          replace BK357 := Aside0.mk (blk_drew BK357.out)
          replace HB := Aside0.mk (below_drew1 HB.out)
          refine start_ (n := 9) (S := fun w' => w'.cell? ⟨gb323, 0, none⟩ = some (.int .i64 a0_0) ∧ w'.cell? ⟨gb323, 1, none⟩ = some (.int .i64 a0_1)) (ds := []) #[false, false, false, false, false, false, false, false, false] (by kernel_rfl) rfl rfl ⟨(blk_cell BK323.out 0).trans rfl, (blk_cell BK323.out 1).trans rfl⟩ (fun hHeld => ?_); refine with_tabW withylaw01_NumField.tab18 withylaw01_NumField.bits18 (fun HT_ HW_ => ?_)
          generalize w306.drew = w307 at BK323 BK324 BK325 BK331 BK335 BK339 BK343 BK357 HB hHeld ⊢
          refine take_ (i := 0) (N := some 113) (v := ?_) (a' := ?_) #[true, false, false, false, false, false, false, false, false] rfl rfl (take_ofW HT_.out HW_.out (by kernel_rfl)) (fun _ _ _ h => h) (Or.inl ⟨by rfl, ?_⟩) hHeld ?_ ?_
          rotate_left
          · rintro w' ⟨s0, s1⟩
            go_simp
            with_reducible rfl
          rotate_left
          · simp only [Act.put, List.setIfInBounds_toArray, List.set_cons_zero, List.set_cons_succ, i64_w, i32_w]
            rfl
          refine join_ (σ := Nat) 2 #[true, true, true, true, true, true, true, false, false] (fun s_ => [(114, .agg #[.int .i64 t358, .int .i64 t359]), (115, .tuple #[.agg #[.int .i64 t360, .int .i64 t361], .int .i64 t362]), (21, .pointer (some ⟨s_, 0, none⟩)), (112, .tuple #[.agg #[.int .i64 t360, .int .i64 t361], .int .i64 t362]), (116, .agg #[.int .i64 t360, .int .i64 t361]), (117, .int .i64 t362)]) (fun s_ w' => (w'.cell? ⟨gb323, 0, none⟩ = some (.int .i64 a0_0) ∧ w'.cell? ⟨gb323, 1, none⟩ = some (.int .i64 a0_1)) ∧ (w'.heap[gb323]? = some (.cells #[.int .i64 a0_0, .int .i64 a0_1] 23 (0, 0))) ∧ (w'.heap[gb324]? = some (.cells #[.int .i64 a1_0, .int .i64 a1_1] 23 (0, 0))) ∧ (w'.heap[gb325]? = some (.cells #[.int .i64 a2_0, .int .i64 a2_1] 23 (0, 0))) ∧ (w'.heap[gb331]? = some (.cells #[.int .i64 t328, .int .i64 t329] 23 (0, 0))) ∧ (w'.heap[gb335]? = some (.cells #[.int .i64 t332, .int .i64 t333] 23 (0, 0))) ∧ (w'.heap[gb339]? = some (.cells #[.int .i64 t336, .int .i64 t337] 23 (0, 0))) ∧ (w'.heap[gb343]? = some (.cells #[.int .i64 t340, .int .i64 t341] 23 (0, 0))) ∧ (w'.heap[gb357]? = some (.cells #[.int .i64 t354, .int .i64 t355] 23 (0, 0))) ∧ (w'.heap[s_]? = some (.cells #[.int .i64 0, .int .i64 0] 23 (0, 0))) ∧ (w.heap.size ≤ s_) ∧ (w.heap.size ≤ s_) ∧ (gb323 ≠ s_) ∧ (s_ ≠ gb323) ∧ (gb324 ≠ s_) ∧ (s_ ≠ gb324) ∧ (gb325 ≠ s_) ∧ (s_ ≠ gb325) ∧ (gb331 ≠ s_) ∧ (s_ ≠ gb331) ∧ (gb335 ≠ s_) ∧ (s_ ≠ gb335) ∧ (gb339 ≠ s_) ∧ (s_ ≠ gb339) ∧ (gb343 ≠ s_) ∧ (s_ ≠ gb343) ∧ (gb357 ≠ s_) ∧ (s_ ≠ gb357) ∧ (Below w.heap.size w w')) ?_ ?_
          rotate_left
          · intro hCont
            refine two_ (i := 1) (j := 6) (Ni := some 114) (Nj := some 21) #[true, true, false, false, false, false, false, false, false] #[true, false, false, false, false, false, true, false, false] rfl rfl rfl rfl (two_of HT_.out (by kernel_rfl)) (by decide) (by decide) (fun K hK => ?_) (fun K hK => ?_)
            · skip
              refine gos_ Try.func23 #[] ?_
              with_reducible refine (withylaw01_one.calls  t358 t359 _ A290.out).mono ?_
              rintro e w308 ⟨rfl, hb⟩
              refine ⟨_, rfl, ?_⟩
              replace BK323 := bkb_ BK323 hb
              replace BK324 := bkb_ BK324 hb
              replace BK325 := bkb_ BK325 hb
              replace BK331 := bkb_ BK331 hb
              replace BK335 := bkb_ BK335 hb
              replace BK339 := bkb_ BK339 hb
              replace BK343 := bkb_ BK343 hb
              replace BK357 := bkb_ BK357 hb
              replace HB := bws_ HB hb
              (try clear hb)
              (try clear hb2)
              (try clear hk)
              (try clear hi)
              refine hK.out _ _ ⟨(blk_cell BK323.out 0).trans rfl, (blk_cell BK323.out 1).trans rfl⟩ (fun hHeld => ?_)
              clear hK K
              refine norm_ (a' := ?_) ?_ ?_
              rotate_left
              · show Act.put _ (some 114) _ = _
                simp only [Act.put, List.setIfInBounds_toArray, List.set_cons_zero, List.set_cons_succ, i64_w, i32_w]
                rfl
              refine two_ (i := 2) (j := 6) (Ni := some 115) (Nj := some 21) #[true, true, true, false, false, false, false, false, false] #[true, true, false, false, false, false, true, false, false] rfl rfl rfl rfl (two_of HT_.out (by kernel_rfl)) (by decide) (by decide) (fun K hK => ?_) (fun K hK => ?_)
              · skip
                refine gos_ Try.func19 #[.agg #[.int .i64 a0_0, .int .i64 a0_1], .agg #[.int .i64 t358, .int .i64 t359]] ?_
                with_reducible refine (num_Mul.calls kj203 a0_0 a0_1 t358 t359 t360 t361 t362 _ A291.out).mono ?_
                rintro e w309 ⟨rfl, hb⟩
                refine ⟨_, rfl, ?_⟩
                replace BK323 := bkb_ BK323 hb
                replace BK324 := bkb_ BK324 hb
                replace BK325 := bkb_ BK325 hb
                replace BK331 := bkb_ BK331 hb
                replace BK335 := bkb_ BK335 hb
                replace BK339 := bkb_ BK339 hb
                replace BK343 := bkb_ BK343 hb
                replace BK357 := bkb_ BK357 hb
                replace HB := bws_ HB hb
                (try clear hb)
                (try clear hb2)
                (try clear hk)
                (try clear hi)
                refine hK.out _ _ ⟨(blk_cell BK323.out 0).trans rfl, (blk_cell BK323.out 1).trans rfl⟩ (fun hHeld => ?_)
                clear hK K
                refine norm_ (a' := ?_) ?_ ?_
                rotate_left
                · show Act.put _ (some 115) _ = _
                  simp only [Act.put, List.setIfInBounds_toArray, List.set_cons_zero, List.set_cons_succ, i64_w, i32_w]
                  rfl
                refine pure_ (i := 3) (N := some 112) (v := ?_) (a' := ?_) #[true, true, true, true, false, false, false, false, false] rfl rfl (any_of HT_.out (by kernel_rfl)) (fun _ _ _ h => h) (Or.inl ⟨by rfl, ?_⟩) ?_ ?_
                rotate_left
                · intro w'
                  go_simp
                  with_reducible rfl
                rotate_left
                · simp only [Act.put, List.setIfInBounds_toArray, List.set_cons_zero, List.set_cons_succ, i64_w, i32_w]
                  rfl
                refine pure_ (i := 4) (N := some 116) (v := ?_) (a' := ?_) #[true, true, true, true, true, false, false, false, false] rfl rfl (any_of HT_.out (by kernel_rfl)) (fun _ _ _ h => h) (Or.inl ⟨by rfl, ?_⟩) ?_ ?_
                rotate_left
                · intro w'
                  go_simp
                  with_reducible rfl
                rotate_left
                · simp only [Act.put, List.setIfInBounds_toArray, List.set_cons_zero, List.set_cons_succ, i64_w, i32_w]
                  rfl
                refine pure_ (i := 5) (N := some 117) (v := ?_) (a' := ?_) #[true, true, true, true, true, true, false, false, false] rfl rfl (any_of HT_.out (by kernel_rfl)) (fun _ _ _ h => h) (Or.inl ⟨by rfl, ?_⟩) ?_ ?_
                rotate_left
                · intro w'
                  go_simp
                  with_reducible rfl
                rotate_left
                · simp only [Act.put, List.setIfInBounds_toArray, List.set_cons_zero, List.set_cons_succ, i64_w, i32_w]
                  rfl
                refine one_ (i := 6) (N := some 21) #[true, true, true, true, true, true, true, false, false] rfl rfl (one_of HT_.out (by kernel_rfl)) (by decide) (fun K hK => ?_)
                refine box_step ?hg (N := 21) ?hd (cs := #[.int .i64 0, .int .i64 0]) (t := 23) ?hr ?_; (case hd => rfl); (case hg => rfl); (case hr => first | (go_simp; done) | (go_simp; rfl))
                intro gb363 hg w310 hbox hb
                have BK363 := Aside0.mk hbox
                have GW363 := bwg_ HB hg
                have GE363 := bwg_ HB hg
                replace HB := bws_ HB hb
                have NB323_363 := bkl_ BK323 hg
                have NB363_323 := bkr_ BK323 hg
                replace BK323 := bkb_ BK323 hb
                have NB324_363 := bkl_ BK324 hg
                have NB363_324 := bkr_ BK324 hg
                replace BK324 := bkb_ BK324 hb
                have NB325_363 := bkl_ BK325 hg
                have NB363_325 := bkr_ BK325 hg
                replace BK325 := bkb_ BK325 hb
                have NB331_363 := bkl_ BK331 hg
                have NB363_331 := bkr_ BK331 hg
                replace BK331 := bkb_ BK331 hb
                have NB335_363 := bkl_ BK335 hg
                have NB363_335 := bkr_ BK335 hg
                replace BK335 := bkb_ BK335 hb
                have NB339_363 := bkl_ BK339 hg
                have NB363_339 := bkr_ BK339 hg
                replace BK339 := bkb_ BK339 hb
                have NB343_363 := bkl_ BK343 hg
                have NB363_343 := bkr_ BK343 hg
                replace BK343 := bkb_ BK343 hb
                have NB357_363 := bkl_ BK357 hg
                have NB363_357 := bkr_ BK357 hg
                replace BK357 := bkb_ BK357 hb
                clear hb hbox hg
                refine hK.out _ _ ⟨(blk_cell BK323.out 0).trans rfl, (blk_cell BK323.out 1).trans rfl⟩ (fun hHeld => ?_)
                clear hK K
                refine norm_ (a' := ?_) ?_ ?_
                rotate_left
                · show Act.put _ (some 21) _ = _
                  simp only [Act.put, List.setIfInBounds_toArray, List.set_cons_zero, List.set_cons_succ, i64_w, i32_w]
                  rfl
                exact norm_ (by simp only [putAll, Act.put, List.setIfInBounds_toArray, List.set_cons_zero, List.set_cons_succ]) (hCont (gb363) _ ⟨hHeld, (bk_ BK323), (bk_ BK324), (bk_ BK325), (bk_ BK331), (bk_ BK335), (bk_ BK339), (bk_ BK343), (bk_ BK357), (bk_ BK363), GW363.out, GE363.out, NB323_363.out, NB363_323.out, NB324_363.out, NB363_324.out, NB325_363.out, NB363_325.out, NB331_363.out, NB363_331.out, NB335_363.out, NB363_335.out, NB339_363.out, NB363_339.out, NB343_363.out, NB363_343.out, NB357_363.out, NB363_357.out, (bw_ HB)⟩)
              · skip
                refine box_step ?hg (N := 21) ?hd (cs := #[.int .i64 0, .int .i64 0]) (t := 23) ?hr ?_; (case hd => rfl); (case hg => rfl); (case hr => first | (go_simp; done) | (go_simp; rfl))
                intro gb363 hg w309 hbox hb
                have BK363 := Aside0.mk hbox
                have GW363 := bwg_ HB hg
                have GE363 := bwg_ HB hg
                replace HB := bws_ HB hb
                have NB323_363 := bkl_ BK323 hg
                have NB363_323 := bkr_ BK323 hg
                replace BK323 := bkb_ BK323 hb
                have NB324_363 := bkl_ BK324 hg
                have NB363_324 := bkr_ BK324 hg
                replace BK324 := bkb_ BK324 hb
                have NB325_363 := bkl_ BK325 hg
                have NB363_325 := bkr_ BK325 hg
                replace BK325 := bkb_ BK325 hb
                have NB331_363 := bkl_ BK331 hg
                have NB363_331 := bkr_ BK331 hg
                replace BK331 := bkb_ BK331 hb
                have NB335_363 := bkl_ BK335 hg
                have NB363_335 := bkr_ BK335 hg
                replace BK335 := bkb_ BK335 hb
                have NB339_363 := bkl_ BK339 hg
                have NB363_339 := bkr_ BK339 hg
                replace BK339 := bkb_ BK339 hb
                have NB343_363 := bkl_ BK343 hg
                have NB363_343 := bkr_ BK343 hg
                replace BK343 := bkb_ BK343 hb
                have NB357_363 := bkl_ BK357 hg
                have NB363_357 := bkr_ BK357 hg
                replace BK357 := bkb_ BK357 hb
                clear hb hbox hg
                refine hK.out _ _ ⟨(blk_cell BK323.out 0).trans rfl, (blk_cell BK323.out 1).trans rfl⟩ (fun hHeld => ?_)
                clear hK K
                refine norm_ (a' := ?_) ?_ ?_
                rotate_left
                · show Act.put _ (some 21) _ = _
                  simp only [Act.put, List.setIfInBounds_toArray, List.set_cons_zero, List.set_cons_succ, i64_w, i32_w]
                  rfl
                refine one_ (i := 2) (N := some 115) #[true, true, true, false, false, false, true, false, false] rfl rfl (one_of HT_.out (by kernel_rfl)) (by decide) (fun K hK => ?_)
                refine gos_ Try.func19 #[.agg #[.int .i64 a0_0, .int .i64 a0_1], .agg #[.int .i64 t358, .int .i64 t359]] ?_
                with_reducible refine (num_Mul.calls kj203 a0_0 a0_1 t358 t359 t360 t361 t362 _ A291.out).mono ?_
                rintro e w310 ⟨rfl, hb⟩
                refine ⟨_, rfl, ?_⟩
                replace BK323 := bkb_ BK323 hb
                replace BK324 := bkb_ BK324 hb
                replace BK325 := bkb_ BK325 hb
                replace BK331 := bkb_ BK331 hb
                replace BK335 := bkb_ BK335 hb
                replace BK339 := bkb_ BK339 hb
                replace BK343 := bkb_ BK343 hb
                replace BK357 := bkb_ BK357 hb
                replace BK363 := bkb_ BK363 hb
                replace HB := bws_ HB hb
                (try clear hb)
                (try clear hb2)
                (try clear hk)
                (try clear hi)
                refine hK.out _ _ ⟨(blk_cell BK323.out 0).trans rfl, (blk_cell BK323.out 1).trans rfl⟩ (fun hHeld => ?_)
                clear hK K
                refine norm_ (a' := ?_) ?_ ?_
                rotate_left
                · show Act.put _ (some 115) _ = _
                  simp only [Act.put, List.setIfInBounds_toArray, List.set_cons_zero, List.set_cons_succ, i64_w, i32_w]
                  rfl
                refine pure_ (i := 3) (N := some 112) (v := ?_) (a' := ?_) #[true, true, true, true, false, false, true, false, false] rfl rfl (any_of HT_.out (by kernel_rfl)) (fun _ _ _ h => h) (Or.inl ⟨by rfl, ?_⟩) ?_ ?_
                rotate_left
                · intro w'
                  go_simp
                  with_reducible rfl
                rotate_left
                · simp only [Act.put, List.setIfInBounds_toArray, List.set_cons_zero, List.set_cons_succ, i64_w, i32_w]
                  rfl
                refine pure_ (i := 4) (N := some 116) (v := ?_) (a' := ?_) #[true, true, true, true, true, false, true, false, false] rfl rfl (any_of HT_.out (by kernel_rfl)) (fun _ _ _ h => h) (Or.inl ⟨by rfl, ?_⟩) ?_ ?_
                rotate_left
                · intro w'
                  go_simp
                  with_reducible rfl
                rotate_left
                · simp only [Act.put, List.setIfInBounds_toArray, List.set_cons_zero, List.set_cons_succ, i64_w, i32_w]
                  rfl
                refine pure_ (i := 5) (N := some 117) (v := ?_) (a' := ?_) #[true, true, true, true, true, true, true, false, false] rfl rfl (any_of HT_.out (by kernel_rfl)) (fun _ _ _ h => h) (Or.inl ⟨by rfl, ?_⟩) ?_ ?_
                rotate_left
                · intro w'
                  go_simp
                  with_reducible rfl
                rotate_left
                · simp only [Act.put, List.setIfInBounds_toArray, List.set_cons_zero, List.set_cons_succ, i64_w, i32_w]
                  rfl
                exact norm_ (by simp only [putAll, Act.put, List.setIfInBounds_toArray, List.set_cons_zero, List.set_cons_succ]) (hCont (gb363) _ ⟨hHeld, (bk_ BK323), (bk_ BK324), (bk_ BK325), (bk_ BK331), (bk_ BK335), (bk_ BK339), (bk_ BK343), (bk_ BK357), (bk_ BK363), GW363.out, GE363.out, NB323_363.out, NB363_323.out, NB324_363.out, NB363_324.out, NB325_363.out, NB363_325.out, NB331_363.out, NB363_331.out, NB335_363.out, NB363_335.out, NB339_363.out, NB363_339.out, NB343_363.out, NB363_343.out, NB357_363.out, NB363_357.out, (bw_ HB)⟩)
            · skip
              refine box_step ?hg (N := 21) ?hd (cs := #[.int .i64 0, .int .i64 0]) (t := 23) ?hr ?_; (case hd => rfl); (case hg => rfl); (case hr => first | (go_simp; done) | (go_simp; rfl))
              intro gb363 hg w308 hbox hb
              have BK363 := Aside0.mk hbox
              have GW363 := bwg_ HB hg
              have GE363 := bwg_ HB hg
              replace HB := bws_ HB hb
              have NB323_363 := bkl_ BK323 hg
              have NB363_323 := bkr_ BK323 hg
              replace BK323 := bkb_ BK323 hb
              have NB324_363 := bkl_ BK324 hg
              have NB363_324 := bkr_ BK324 hg
              replace BK324 := bkb_ BK324 hb
              have NB325_363 := bkl_ BK325 hg
              have NB363_325 := bkr_ BK325 hg
              replace BK325 := bkb_ BK325 hb
              have NB331_363 := bkl_ BK331 hg
              have NB363_331 := bkr_ BK331 hg
              replace BK331 := bkb_ BK331 hb
              have NB335_363 := bkl_ BK335 hg
              have NB363_335 := bkr_ BK335 hg
              replace BK335 := bkb_ BK335 hb
              have NB339_363 := bkl_ BK339 hg
              have NB363_339 := bkr_ BK339 hg
              replace BK339 := bkb_ BK339 hb
              have NB343_363 := bkl_ BK343 hg
              have NB363_343 := bkr_ BK343 hg
              replace BK343 := bkb_ BK343 hb
              have NB357_363 := bkl_ BK357 hg
              have NB363_357 := bkr_ BK357 hg
              replace BK357 := bkb_ BK357 hb
              clear hb hbox hg
              refine hK.out _ _ ⟨(blk_cell BK323.out 0).trans rfl, (blk_cell BK323.out 1).trans rfl⟩ (fun hHeld => ?_)
              clear hK K
              refine norm_ (a' := ?_) ?_ ?_
              rotate_left
              · show Act.put _ (some 21) _ = _
                simp only [Act.put, List.setIfInBounds_toArray, List.set_cons_zero, List.set_cons_succ, i64_w, i32_w]
                rfl
              refine one_ (i := 1) (N := some 114) #[true, true, false, false, false, false, true, false, false] rfl rfl (one_of HT_.out (by kernel_rfl)) (by decide) (fun K hK => ?_)
              refine gos_ Try.func23 #[] ?_
              with_reducible refine (withylaw01_one.calls  t358 t359 _ A290.out).mono ?_
              rintro e w309 ⟨rfl, hb⟩
              refine ⟨_, rfl, ?_⟩
              replace BK323 := bkb_ BK323 hb
              replace BK324 := bkb_ BK324 hb
              replace BK325 := bkb_ BK325 hb
              replace BK331 := bkb_ BK331 hb
              replace BK335 := bkb_ BK335 hb
              replace BK339 := bkb_ BK339 hb
              replace BK343 := bkb_ BK343 hb
              replace BK357 := bkb_ BK357 hb
              replace BK363 := bkb_ BK363 hb
              replace HB := bws_ HB hb
              (try clear hb)
              (try clear hb2)
              (try clear hk)
              (try clear hi)
              refine hK.out _ _ ⟨(blk_cell BK323.out 0).trans rfl, (blk_cell BK323.out 1).trans rfl⟩ (fun hHeld => ?_)
              clear hK K
              refine norm_ (a' := ?_) ?_ ?_
              rotate_left
              · show Act.put _ (some 114) _ = _
                simp only [Act.put, List.setIfInBounds_toArray, List.set_cons_zero, List.set_cons_succ, i64_w, i32_w]
                rfl
              refine one_ (i := 2) (N := some 115) #[true, true, true, false, false, false, true, false, false] rfl rfl (one_of HT_.out (by kernel_rfl)) (by decide) (fun K hK => ?_)
              refine gos_ Try.func19 #[.agg #[.int .i64 a0_0, .int .i64 a0_1], .agg #[.int .i64 t358, .int .i64 t359]] ?_
              with_reducible refine (num_Mul.calls kj203 a0_0 a0_1 t358 t359 t360 t361 t362 _ A291.out).mono ?_
              rintro e w310 ⟨rfl, hb⟩
              refine ⟨_, rfl, ?_⟩
              replace BK323 := bkb_ BK323 hb
              replace BK324 := bkb_ BK324 hb
              replace BK325 := bkb_ BK325 hb
              replace BK331 := bkb_ BK331 hb
              replace BK335 := bkb_ BK335 hb
              replace BK339 := bkb_ BK339 hb
              replace BK343 := bkb_ BK343 hb
              replace BK357 := bkb_ BK357 hb
              replace BK363 := bkb_ BK363 hb
              replace HB := bws_ HB hb
              (try clear hb)
              (try clear hb2)
              (try clear hk)
              (try clear hi)
              refine hK.out _ _ ⟨(blk_cell BK323.out 0).trans rfl, (blk_cell BK323.out 1).trans rfl⟩ (fun hHeld => ?_)
              clear hK K
              refine norm_ (a' := ?_) ?_ ?_
              rotate_left
              · show Act.put _ (some 115) _ = _
                simp only [Act.put, List.setIfInBounds_toArray, List.set_cons_zero, List.set_cons_succ, i64_w, i32_w]
                rfl
              refine pure_ (i := 3) (N := some 112) (v := ?_) (a' := ?_) #[true, true, true, true, false, false, true, false, false] rfl rfl (any_of HT_.out (by kernel_rfl)) (fun _ _ _ h => h) (Or.inl ⟨by rfl, ?_⟩) ?_ ?_
              rotate_left
              · intro w'
                go_simp
                with_reducible rfl
              rotate_left
              · simp only [Act.put, List.setIfInBounds_toArray, List.set_cons_zero, List.set_cons_succ, i64_w, i32_w]
                rfl
              refine pure_ (i := 4) (N := some 116) (v := ?_) (a' := ?_) #[true, true, true, true, true, false, true, false, false] rfl rfl (any_of HT_.out (by kernel_rfl)) (fun _ _ _ h => h) (Or.inl ⟨by rfl, ?_⟩) ?_ ?_
              rotate_left
              · intro w'
                go_simp
                with_reducible rfl
              rotate_left
              · simp only [Act.put, List.setIfInBounds_toArray, List.set_cons_zero, List.set_cons_succ, i64_w, i32_w]
                rfl
              refine pure_ (i := 5) (N := some 117) (v := ?_) (a' := ?_) #[true, true, true, true, true, true, true, false, false] rfl rfl (any_of HT_.out (by kernel_rfl)) (fun _ _ _ h => h) (Or.inl ⟨by rfl, ?_⟩) ?_ ?_
              rotate_left
              · intro w'
                go_simp
                with_reducible rfl
              rotate_left
              · simp only [Act.put, List.setIfInBounds_toArray, List.set_cons_zero, List.set_cons_succ, i64_w, i32_w]
                rfl
              exact norm_ (by simp only [putAll, Act.put, List.setIfInBounds_toArray, List.set_cons_zero, List.set_cons_succ]) (hCont (gb363) _ ⟨hHeld, (bk_ BK323), (bk_ BK324), (bk_ BK325), (bk_ BK331), (bk_ BK335), (bk_ BK339), (bk_ BK343), (bk_ BK357), (bk_ BK363), GW363.out, GE363.out, NB323_363.out, NB363_323.out, NB324_363.out, NB363_324.out, NB325_363.out, NB363_325.out, NB331_363.out, NB363_331.out, NB335_363.out, NB363_335.out, NB339_363.out, NB363_339.out, NB343_363.out, NB363_343.out, NB357_363.out, NB363_357.out, (bw_ HB)⟩)
          rintro gb363 w311 ⟨hS_, h0_, h1_, h2_, h3_, h4_, h5_, h6_, h7_, h8_, h9_, h10_, h11_, h12_, h13_, h14_, h15_, h16_, h17_, h18_, h19_, h20_, h21_, h22_, h23_, h24_, h25_, h26_, h27_⟩
          have n0_ : Aside0 (w311.heap[gb323]? = some (.cells #[.int .i64 a0_0, .int .i64 a0_1] 23 (0, 0))) := ⟨h0_⟩
          have n1_ : Aside0 (w311.heap[gb324]? = some (.cells #[.int .i64 a1_0, .int .i64 a1_1] 23 (0, 0))) := ⟨h1_⟩
          have n2_ : Aside0 (w311.heap[gb325]? = some (.cells #[.int .i64 a2_0, .int .i64 a2_1] 23 (0, 0))) := ⟨h2_⟩
          have n3_ : Aside0 (w311.heap[gb331]? = some (.cells #[.int .i64 t328, .int .i64 t329] 23 (0, 0))) := ⟨h3_⟩
          have n4_ : Aside0 (w311.heap[gb335]? = some (.cells #[.int .i64 t332, .int .i64 t333] 23 (0, 0))) := ⟨h4_⟩
          have n5_ : Aside0 (w311.heap[gb339]? = some (.cells #[.int .i64 t336, .int .i64 t337] 23 (0, 0))) := ⟨h5_⟩
          have n6_ : Aside0 (w311.heap[gb343]? = some (.cells #[.int .i64 t340, .int .i64 t341] 23 (0, 0))) := ⟨h6_⟩
          have n7_ : Aside0 (w311.heap[gb357]? = some (.cells #[.int .i64 t354, .int .i64 t355] 23 (0, 0))) := ⟨h7_⟩
          have n8_ : Aside0 (w311.heap[gb363]? = some (.cells #[.int .i64 0, .int .i64 0] 23 (0, 0))) := ⟨h8_⟩
          have n9_ : Aside0 (w.heap.size ≤ gb363) := ⟨h9_⟩
          have n10_ : Aside0 (w.heap.size ≤ gb363) := ⟨h10_⟩
          have n11_ : Aside0 (gb323 ≠ gb363) := ⟨h11_⟩
          have n12_ : Aside0 (gb363 ≠ gb323) := ⟨h12_⟩
          have n13_ : Aside0 (gb324 ≠ gb363) := ⟨h13_⟩
          have n14_ : Aside0 (gb363 ≠ gb324) := ⟨h14_⟩
          have n15_ : Aside0 (gb325 ≠ gb363) := ⟨h15_⟩
          have n16_ : Aside0 (gb363 ≠ gb325) := ⟨h16_⟩
          have n17_ : Aside0 (gb331 ≠ gb363) := ⟨h17_⟩
          have n18_ : Aside0 (gb363 ≠ gb331) := ⟨h18_⟩
          have n19_ : Aside0 (gb335 ≠ gb363) := ⟨h19_⟩
          have n20_ : Aside0 (gb363 ≠ gb335) := ⟨h20_⟩
          have n21_ : Aside0 (gb339 ≠ gb363) := ⟨h21_⟩
          have n22_ : Aside0 (gb363 ≠ gb339) := ⟨h22_⟩
          have n23_ : Aside0 (gb343 ≠ gb363) := ⟨h23_⟩
          have n24_ : Aside0 (gb363 ≠ gb343) := ⟨h24_⟩
          have n25_ : Aside0 (gb357 ≠ gb363) := ⟨h25_⟩
          have n26_ : Aside0 (gb363 ≠ gb357) := ⟨h26_⟩
          have n27_ : Aside0 (Below w.heap.size w w311) := ⟨h27_⟩
          clear BK323
          clear BK324
          clear BK325
          clear BK331
          clear BK335
          clear BK339
          clear BK343
          clear BK357
          clear HB
          clear h0_ h1_ h2_ h3_ h4_ h5_ h6_ h7_ h8_ h9_ h10_ h11_ h12_ h13_ h14_ h15_ h16_ h17_ h18_ h19_ h20_ h21_ h22_ h23_ h24_ h25_ h26_ h27_
          have BK323 := n0_
          have BK324 := n1_
          have BK325 := n2_
          have BK331 := n3_
          have BK335 := n4_
          have BK339 := n5_
          have BK343 := n6_
          have BK357 := n7_
          have BK363 := n8_
          have GW363 := n9_
          have GE363 := n10_
          have NB323_363 := n11_
          have NB363_323 := n12_
          have NB324_363 := n13_
          have NB363_324 := n14_
          have NB325_363 := n15_
          have NB363_325 := n16_
          have NB331_363 := n17_
          have NB363_331 := n18_
          have NB335_363 := n19_
          have NB363_335 := n20_
          have NB339_363 := n21_
          have NB363_339 := n22_
          have NB343_363 := n23_
          have NB363_343 := n24_
          have NB357_363 := n25_
          have NB363_357 := n26_
          have HB := n27_
          clear n0_ n1_ n2_ n3_ n4_ n5_ n6_ n7_ n8_ n9_ n10_ n11_ n12_ n13_ n14_ n15_ n16_ n17_ n18_ n19_ n20_ n21_ n22_ n23_ n24_ n25_ n26_ n27_
          have hHeld : w311.cell? ⟨gb323, 0, none⟩ = some (.int .i64 a0_0) ∧ w311.cell? ⟨gb323, 1, none⟩ = some (.int .i64 a0_1) := hS_
          refine norm_ (a' := ?_) ?_ ?_
          rotate_left
          · simp only [putAll, Act.put, List.setIfInBounds_toArray, List.set_cons_zero, List.set_cons_succ]
            rfl
          refine one_ (i := 7) (N := none) #[true, true, true, true, true, true, true, true, false] rfl rfl (one_of HT_.out (by kernel_rfl)) (by decide) (fun K hK => ?_)
          have hs312 : w311.cell? ⟨gb363, 0, none⟩ = some (.int .i64 0) := (blk_cell BK363.out 0).trans rfl
          have hfs312 := blk_frozen BK363.out 0
          have hns312_0 := NB323_363.out
          have hns312_1 := NB324_363.out
          have hns312_2 := NB325_363.out
          have hns312_3 := NB331_363.out
          have hns312_4 := NB335_363.out
          have hns312_5 := NB339_363.out
          have hns312_6 := NB343_363.out
          have hns312_7 := NB357_363.out
          have hms312_0 := NB363_323.out
          have hms312_1 := NB363_324.out
          have hms312_2 := NB363_325.out
          have hms312_3 := NB363_331.out
          have hms312_4 := NB363_335.out
          have hms312_5 := NB363_339.out
          have hms312_6 := NB363_343.out
          have hms312_7 := NB363_357.out
          have hs313 : w311.cell? ⟨gb363, 1, none⟩ = some (.int .i64 0) := (blk_cell BK363.out 1).trans rfl
          have hfs313 := blk_frozen BK363.out 1
          have hns313_0 := NB323_363.out
          have hns313_1 := NB324_363.out
          have hns313_2 := NB325_363.out
          have hns313_3 := NB331_363.out
          have hns313_4 := NB335_363.out
          have hns313_5 := NB339_363.out
          have hns313_6 := NB343_363.out
          have hns313_7 := NB357_363.out
          have hms313_0 := NB363_323.out
          have hms313_1 := NB363_324.out
          have hms313_2 := NB363_325.out
          have hms313_3 := NB363_331.out
          have hms313_4 := NB363_335.out
          have hms313_5 := NB363_339.out
          have hms313_6 := NB363_343.out
          have hms313_7 := NB363_357.out
          refine skip_ (w1 := ?_) (by rfl) rfl ?_ ?_
          rotate_left
          · go_simp
            rfl
          refine hK.out _ _ ⟨((cell_far (p := ⟨gb363, _, none⟩) NB323_363.out _).trans (((cell_far (p := ⟨gb363, _, none⟩) NB323_363.out _).trans (hHeld.1)))), ((cell_far (p := ⟨gb363, _, none⟩) NB323_363.out _).trans (((cell_far (p := ⟨gb363, _, none⟩) NB323_363.out _).trans (hHeld.2))))⟩ (fun hHeld => ?_)
          clear hK K
          refine pure_ (i := 8) (N := some 22) (v := ?_) (a' := ?_) #[true, true, true, true, true, true, true, true, true] rfl rfl (any_of HT_.out (by kernel_rfl)) (fun _ _ _ h => h) (Or.inl ⟨by rfl, ?_⟩) ?_ ?_
          rotate_left
          · intro w'
            go_simp
            with_reducible rfl
          rotate_left
          · simp only [Act.put, List.setIfInBounds_toArray, List.set_cons_zero, List.set_cons_succ, i64_w, i32_w]
            rfl
          refine done_ (done_of HT_.out (by kernel_rfl)) ?_
          try clear hs312; try clear hfs312; try clear hns312_0; try clear hns312_1; try clear hns312_2; try clear hns312_3; try clear hns312_4; try clear hns312_5; try clear hns312_6; try clear hns312_7; try clear hms312_0; try clear hms312_1; try clear hms312_2; try clear hms312_3; try clear hms312_4; try clear hms312_5; try clear hms312_6; try clear hms312_7; try clear hs313; try clear hfs313; try clear hns313_0; try clear hns313_1; try clear hns313_2; try clear hns313_3; try clear hns313_4; try clear hns313_5; try clear hns313_6; try clear hns313_7; try clear hms313_0; try clear hms313_1; try clear hms313_2; try clear hms313_3; try clear hms313_4; try clear hms313_5; try clear hms313_6; try clear hms313_7
          by_cases c292 : t356 = 0
          case neg =>
           rw [if_neg c292] at H
           have c292b0 : (t356 == 0) = false := beq_eq_false_iff_ne.mpr c292
           have c292b1 : (t356 != 0) = true := bne_iff_ne.mpr c292
           obtain rfl := Option.some.inj H
           try go_wp2
           go_ret
           exact ⟨by first | rfl | (simp [*] <;> rfl), bw_ HB⟩
          rw [if_pos c292] at H
          have c292b0 : (t356 == 0) = true := beq_iff_eq.mpr c292
          have c292b1 : (t356 != 0) = false := bne_eq_false_iff_eq.mpr c292
          clear c292
          by_cases c293 : t362 = 0
          case neg =>
           rw [if_neg c293] at H
           have c293b0 : (t362 == 0) = false := beq_eq_false_iff_ne.mpr c293
           have c293b1 : (t362 != 0) = true := bne_iff_ne.mpr c293
           obtain rfl := Option.some.inj H
           try go_wp2
           go_ret
           exact ⟨by first | rfl | (simp [*] <;> rfl), bw_ HB⟩
          rw [if_pos c293] at H
          have c293b0 : (t362 == 0) = true := beq_iff_eq.mpr c293
          have c293b1 : (t362 != 0) = false := bne_eq_false_iff_eq.mpr c293
          clear c293
          by_cases c294 : (t354 == a0_0 && (t355 == a0_1)) = true
          case neg =>
           rw [if_neg c294] at H
           have c294b0 : (t354 == a0_0 && (t355 == a0_1)) = false := by simpa using c294
           (try (have c294b1 : decide (t354 = a0_0 && (t355 == a0_1)) = false := by simpa using c294))
           (try (have c294b2 : (t354 == a0_0 && (t355 == a0_1)) = false := by simpa using c294))
           (try (have c294b3 : ¬ (t354 = a0_0 && (t355 == a0_1)) := by simpa using c294))
           clear c294
           obtain rfl := Option.some.inj H
           have hnb456 := NB357_323.out
           have hnc456 := NB323_357.out
           have hnb457 := NB357_324.out
           have hnc457 := NB324_357.out
           have hnb458 := NB357_325.out
           have hnc458 := NB325_357.out
           have hnb459 := NB357_331.out
           have hnc459 := NB331_357.out
           have hnb460 := NB357_335.out
           have hnc460 := NB335_357.out
           have hnb461 := NB357_339.out
           have hnc461 := NB339_357.out
           have hnb462 := NB357_343.out
           have hnc462 := NB343_357.out
           have hnb463 := NB357_363.out
           have hnc463 := NB363_357.out
           obtain ⟨hcz464_0, hcz464_1, hfz464_0, hfz464_1⟩ := bc2_ BK357
           have hnb465 := NB323_324.out
           have hnc465 := NB324_323.out
           have hnb466 := NB323_325.out
           have hnc466 := NB325_323.out
           have hnb467 := NB323_331.out
           have hnc467 := NB331_323.out
           have hnb468 := NB323_335.out
           have hnc468 := NB335_323.out
           have hnb469 := NB323_339.out
           have hnc469 := NB339_323.out
           have hnb470 := NB323_343.out
           have hnc470 := NB343_323.out
           have hnb471 := NB323_363.out
           have hnc471 := NB363_323.out
           obtain ⟨hcz472_0, hcz472_1, hfz472_0, hfz472_1⟩ := bc2_ BK323
           try go_wp2
           go_ret
           exact ⟨by first | rfl | (simp [*] <;> rfl), bw_ HB⟩
          rw [if_pos c294] at H
          have c294b0 : (t354 == a0_0 && (t355 == a0_1)) = true := c294
          (try (have c294b1 : decide (t354 = a0_0 && (t355 == a0_1)) = true := by simpa using c294))
          (try (have c294b2 : (t354 == a0_0 && (t355 == a0_1)) = true := by simpa using c294))
          clear c294
          by_cases c295 : (t360 == a0_0 && (t361 == a0_1)) = true
          case neg =>
           rw [if_neg c295] at H
           have c295b0 : (t360 == a0_0 && (t361 == a0_1)) = false := by simpa using c295
           (try (have c295b1 : decide (t360 = a0_0 && (t361 == a0_1)) = false := by simpa using c295))
           (try (have c295b2 : (t360 == a0_0 && (t361 == a0_1)) = false := by simpa using c295))
           (try (have c295b3 : ¬ (t360 = a0_0 && (t361 == a0_1)) := by simpa using c295))
           clear c295
           obtain rfl := Option.some.inj H
           have hnb417 := NB357_323.out
           have hnc417 := NB323_357.out
           have hnb418 := NB357_324.out
           have hnc418 := NB324_357.out
           have hnb419 := NB357_325.out
           have hnc419 := NB325_357.out
           have hnb420 := NB357_331.out
           have hnc420 := NB331_357.out
           have hnb421 := NB357_335.out
           have hnc421 := NB335_357.out
           have hnb422 := NB357_339.out
           have hnc422 := NB339_357.out
           have hnb423 := NB357_343.out
           have hnc423 := NB343_357.out
           have hnb424 := NB357_363.out
           have hnc424 := NB363_357.out
           obtain ⟨hcz425_0, hcz425_1, hfz425_0, hfz425_1⟩ := bc2_ BK357
           have hnb426 := NB323_324.out
           have hnc426 := NB324_323.out
           have hnb427 := NB323_325.out
           have hnc427 := NB325_323.out
           have hnb428 := NB323_331.out
           have hnc428 := NB331_323.out
           have hnb429 := NB323_335.out
           have hnc429 := NB335_323.out
           have hnb430 := NB323_339.out
           have hnc430 := NB339_323.out
           have hnb431 := NB323_343.out
           have hnc431 := NB343_323.out
           have hnb432 := NB323_363.out
           have hnc432 := NB363_323.out
           obtain ⟨hcz433_0, hcz433_1, hfz433_0, hfz433_1⟩ := bc2_ BK323
           have hnb434 := NB363_324.out
           have hnc434 := NB324_363.out
           have hnb435 := NB363_325.out
           have hnc435 := NB325_363.out
           have hnb436 := NB363_331.out
           have hnc436 := NB331_363.out
           have hnb437 := NB363_335.out
           have hnc437 := NB335_363.out
           have hnb438 := NB363_339.out
           have hnc438 := NB339_363.out
           have hnb439 := NB363_343.out
           have hnc439 := NB343_363.out
           obtain ⟨hcz440_0, hcz440_1, hfz440_0, hfz440_1⟩ := bc2_ BK363
           try go_wp2
           go_ret
           exact ⟨by first | rfl | (simp [*] <;> rfl), bw_ HB⟩
          rw [if_pos c295] at H
          have c295b0 : (t360 == a0_0 && (t361 == a0_1)) = true := c295
          (try (have c295b1 : decide (t360 = a0_0 && (t361 == a0_1)) = true := by simpa using c295))
          (try (have c295b2 : (t360 == a0_0 && (t361 == a0_1)) = true := by simpa using c295))
          clear c295
          replace H := Option.bind_eq_some_iff.mp H
          obtain ⟨t364, A2960, H⟩ := H
          replace H : (if t364 = true then ((withylaw01_summed.f kj203).bind fun t365 => (some t365)) else (some false)) = some r := H
          have A296 := Aside0.mk A2960
          clear A2960
          by_cases c297 : t364 = true
          case neg =>
           replace c297 := Bool.eq_false_iff.mpr c297
           subst c297
           have H1 : (some false) = some r := by rw [if_neg (show ¬ (false = true) by decide)] at H; exact H
           clear H
           have H := H1
           clear H1
           obtain rfl := Option.some.inj H
           have hnb373 := NB357_363.out
           have hnc373 := NB363_357.out
           obtain ⟨hcz374_0, hcz374_1, hfz374_0, hfz374_1⟩ := bc2_ BK357
           have hnb381 := NB323_363.out
           have hnc381 := NB363_323.out
           obtain ⟨hcz382_0, hcz382_1, hfz382_0, hfz382_1⟩ := bc2_ BK323
           have hnb383 := NB363_324.out
           have hnc383 := NB324_363.out
           have hnb384 := NB363_325.out
           have hnc384 := NB325_363.out
           have hnb385 := NB363_331.out
           have hnc385 := NB331_363.out
           have hnb386 := NB363_335.out
           have hnc386 := NB335_363.out
           have hnb387 := NB363_339.out
           have hnc387 := NB339_363.out
           have hnb388 := NB363_343.out
           have hnc388 := NB343_363.out
           obtain ⟨hcz389_0, hcz389_1, hfz389_0, hfz389_1⟩ := bc2_ BK363
           obtain ⟨hcz395_0, hcz395_1, hfz395_0, hfz395_1⟩ := bc2_ BK324
           obtain ⟨hcz400_0, hcz400_1, hfz400_0, hfz400_1⟩ := bc2_ BK325
           try go_wp2_with (first | (go_at_call 24; (with_reducible refine (withylaw01_joined.calls kj203 a0_0 a0_1 a1_0 a1_1 a2_0 a2_1 false _ A296.out).mono ?_); rintro e w401 ⟨rfl, hb⟩; replace BK323 := Aside0.mk (blk_below (g := gb323) (o := .cells #[.int .i64 a0_0, .int .i64 a0_1] 23 (0, 0)) (by refine bf_ ?_ NB323_363; refine bf_ ?_ NB323_363; exact bk_ BK323) hb); replace BK324 := Aside0.mk (blk_below (g := gb324) (o := .cells #[.int .i64 a1_0, .int .i64 a1_1] 23 (0, 0)) (by refine bf_ ?_ NB324_363; refine bf_ ?_ NB324_363; exact bk_ BK324) hb); replace BK325 := Aside0.mk (blk_below (g := gb325) (o := .cells #[.int .i64 a2_0, .int .i64 a2_1] 23 (0, 0)) (by refine bf_ ?_ NB325_363; refine bf_ ?_ NB325_363; exact bk_ BK325) hb); replace BK331 := Aside0.mk (blk_below (g := gb331) (o := .cells #[.int .i64 t328, .int .i64 t329] 23 (0, 0)) (by refine bf_ ?_ NB331_363; refine bf_ ?_ NB331_363; exact bk_ BK331) hb); replace BK335 := Aside0.mk (blk_below (g := gb335) (o := .cells #[.int .i64 t332, .int .i64 t333] 23 (0, 0)) (by refine bf_ ?_ NB335_363; refine bf_ ?_ NB335_363; exact bk_ BK335) hb); replace BK339 := Aside0.mk (blk_below (g := gb339) (o := .cells #[.int .i64 t336, .int .i64 t337] 23 (0, 0)) (by refine bf_ ?_ NB339_363; refine bf_ ?_ NB339_363; exact bk_ BK339) hb); replace BK343 := Aside0.mk (blk_below (g := gb343) (o := .cells #[.int .i64 t340, .int .i64 t341] 23 (0, 0)) (by refine bf_ ?_ NB343_363; refine bf_ ?_ NB343_363; exact bk_ BK343) hb); replace BK357 := Aside0.mk (blk_below (g := gb357) (o := .cells #[.int .i64 t354, .int .i64 t355] 23 (0, 0)) (by refine bf_ ?_ NB357_363; refine bf_ ?_ NB357_363; exact bk_ BK357) hb); replace BK363 := Aside0.mk (blk_below (g := gb363) (o := .cells #[.int .i64 t360, .int .i64 t361] 23 (0, 0)) (by refine bp_ (cs := #[.int .i64 t360, .int .i64 0]) ?_ 1; refine bp_ (cs := #[.int .i64 0, .int .i64 0]) ?_ 0; exact bk_ BK363) hb); replace HB := bws_ HB hb; (try clear hb); (try clear hb2); (try clear hk); (try clear hi)))
           go_ret
           exact ⟨by first | rfl | (simp [*] <;> rfl), bw_ HB⟩
          subst c297
          have H1 : ((withylaw01_summed.f kj203).bind fun t365 => (some t365)) = some r := by rw [if_pos rfl] at H; exact H
          clear H
          have H := H1
          clear H1
          replace H := Option.bind_eq_some_iff.mp H
          obtain ⟨t365, A2980, H⟩ := H
          replace H : (some t365) = some r := H
          have A298 := Aside0.mk A2980
          clear A2980
          obtain rfl := Option.some.inj H
          have hnb321 := NB357_363.out
          have hnc321 := NB363_357.out
          obtain ⟨hcz322_0, hcz322_1, hfz322_0, hfz322_1⟩ := bc2_ BK357
          have hnb329 := NB323_363.out
          have hnc329 := NB363_323.out
          obtain ⟨hcz330_0, hcz330_1, hfz330_0, hfz330_1⟩ := bc2_ BK323
          have hnb331 := NB363_324.out
          have hnc331 := NB324_363.out
          have hnb332 := NB363_325.out
          have hnc332 := NB325_363.out
          have hnb333 := NB363_331.out
          have hnc333 := NB331_363.out
          have hnb334 := NB363_335.out
          have hnc334 := NB335_363.out
          have hnb335 := NB363_339.out
          have hnc335 := NB339_363.out
          have hnb336 := NB363_343.out
          have hnc336 := NB343_363.out
          obtain ⟨hcz337_0, hcz337_1, hfz337_0, hfz337_1⟩ := bc2_ BK363
          obtain ⟨hcz343_0, hcz343_1, hfz343_0, hfz343_1⟩ := bc2_ BK324
          obtain ⟨hcz348_0, hcz348_1, hfz348_0, hfz348_1⟩ := bc2_ BK325
          try go_wp2_with (first | (go_at_call 24; (with_reducible refine (withylaw01_joined.calls kj203 a0_0 a0_1 a1_0 a1_1 a2_0 a2_1 true _ A296.out).mono ?_); rintro e w349 ⟨rfl, hb⟩; replace BK323 := Aside0.mk (blk_below (g := gb323) (o := .cells #[.int .i64 a0_0, .int .i64 a0_1] 23 (0, 0)) (by refine bf_ ?_ NB323_363; refine bf_ ?_ NB323_363; exact bk_ BK323) hb); replace BK324 := Aside0.mk (blk_below (g := gb324) (o := .cells #[.int .i64 a1_0, .int .i64 a1_1] 23 (0, 0)) (by refine bf_ ?_ NB324_363; refine bf_ ?_ NB324_363; exact bk_ BK324) hb); replace BK325 := Aside0.mk (blk_below (g := gb325) (o := .cells #[.int .i64 a2_0, .int .i64 a2_1] 23 (0, 0)) (by refine bf_ ?_ NB325_363; refine bf_ ?_ NB325_363; exact bk_ BK325) hb); replace BK331 := Aside0.mk (blk_below (g := gb331) (o := .cells #[.int .i64 t328, .int .i64 t329] 23 (0, 0)) (by refine bf_ ?_ NB331_363; refine bf_ ?_ NB331_363; exact bk_ BK331) hb); replace BK335 := Aside0.mk (blk_below (g := gb335) (o := .cells #[.int .i64 t332, .int .i64 t333] 23 (0, 0)) (by refine bf_ ?_ NB335_363; refine bf_ ?_ NB335_363; exact bk_ BK335) hb); replace BK339 := Aside0.mk (blk_below (g := gb339) (o := .cells #[.int .i64 t336, .int .i64 t337] 23 (0, 0)) (by refine bf_ ?_ NB339_363; refine bf_ ?_ NB339_363; exact bk_ BK339) hb); replace BK343 := Aside0.mk (blk_below (g := gb343) (o := .cells #[.int .i64 t340, .int .i64 t341] 23 (0, 0)) (by refine bf_ ?_ NB343_363; refine bf_ ?_ NB343_363; exact bk_ BK343) hb); replace BK357 := Aside0.mk (blk_below (g := gb357) (o := .cells #[.int .i64 t354, .int .i64 t355] 23 (0, 0)) (by refine bf_ ?_ NB357_363; refine bf_ ?_ NB357_363; exact bk_ BK357) hb); replace BK363 := Aside0.mk (blk_below (g := gb363) (o := .cells #[.int .i64 t360, .int .i64 t361] 23 (0, 0)) (by refine bp_ (cs := #[.int .i64 t360, .int .i64 0]) ?_ 1; refine bp_ (cs := #[.int .i64 0, .int .i64 0]) ?_ 0; exact bk_ BK363) hb); replace HB := bws_ HB hb; (try clear hb); (try clear hb2); (try clear hk); (try clear hi)) | (go_at_call 17; (with_reducible refine (withylaw01_summed.calls kj203  t365 _ A298.out).mono ?_); rintro e w350 ⟨rfl, hb⟩; replace BK323 := bkb_ BK323 hb; replace BK324 := bkb_ BK324 hb; replace BK325 := bkb_ BK325 hb; replace BK331 := bkb_ BK331 hb; replace BK335 := bkb_ BK335 hb; replace BK339 := bkb_ BK339 hb; replace BK343 := bkb_ BK343 hb; replace BK357 := bkb_ BK357 hb; replace BK363 := bkb_ BK363 hb; replace HB := bws_ HB hb; (try clear hb); (try clear hb2); (try clear hk); (try clear hi)))
          go_ret
          exact ⟨by first | rfl | (simp [*] <;> rfl), bw_ HB⟩
end Go.Proofs.Ytakcdoahpbeckaa.H
