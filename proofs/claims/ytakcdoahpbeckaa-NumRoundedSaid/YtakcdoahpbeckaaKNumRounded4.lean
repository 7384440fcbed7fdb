/- NumRounded: the printed functions it reaches, with their walks. Laid by wip/claimpack.py out of what wip/hprint.py printed. -/
import Derived.Test.YtakcdoahpbeckaaKNumRounded3
namespace Go.Proofs.Ytakcdoahpbeckaa.H
open Go.RowKit Go.Proofs.YtakcdoahpbeckaaW.PrintWords Go.Proofs.YtakcdoahpbeckaaW.PrintLast Go.Proofs.YtakcdoahpbeckaaW.PrintMore
attribute [local go_sem] max2_int min2_int max_two min_two max_three min_three max_four min_four   -- for this text's walks alone
set_option linter.unusedVariables false
set_option linter.unusedSimpArgs false

/-! ### withylaw01_NumRounded: function 10 -/
mutual
def withylaw01_NumRounded.j0 : Nat → Int → Int → Int → Int → Bool → Int → Int → Option (Bool)
  | 0, _, _, _, _, _, _, _ => none
  | k + 1, x5, x6, x8, x10, x96, x628000, x628001 => if x96 = true then (some false) else (if (wrap64 (x628000 - (wrap64 (x6 * x628001)))) < 0 then (withylaw01_NumRounded.j1 k x5 x6 x8 true x628000 x628001) else (if (wrap64 (x628000 - (wrap64 (x6 * x628001)))) ≥ x628001 then (withylaw01_NumRounded.j1 k x5 x6 x8 true x628000 x628001) else (if (wrap64 (2 * (wrap64 (x628000 - (wrap64 (x6 * x628001)))))) < x628001 then (if x10 = x6 then (if (wrap64 (2 * (wrap64 (x628000 - (wrap64 (x6 * x628001)))))) > x628001 then (if x10 = x8 then (if (wrap64 (2 * (wrap64 (x628000 - (wrap64 (x6 * x628001)))))) = x628001 then (withylaw01_NumRounded.j1 k x5 x6 x8 ((Int.tmod x10 2) != 0) x628000 x628001) else (withylaw01_NumRounded.j1 k x5 x6 x8 false x628000 x628001)) else (withylaw01_NumRounded.j1 k x5 x6 x8 true x628000 x628001)) else (if (wrap64 (2 * (wrap64 (x628000 - (wrap64 (x6 * x628001)))))) = x628001 then (withylaw01_NumRounded.j1 k x5 x6 x8 ((Int.tmod x10 2) != 0) x628000 x628001) else (withylaw01_NumRounded.j1 k x5 x6 x8 false x628000 x628001))) else (withylaw01_NumRounded.j1 k x5 x6 x8 true x628000 x628001)) else (if (wrap64 (2 * (wrap64 (x628000 - (wrap64 (x6 * x628001)))))) > x628001 then (if x10 = x8 then (if (wrap64 (2 * (wrap64 (x628000 - (wrap64 (x6 * x628001)))))) = x628001 then (withylaw01_NumRounded.j1 k x5 x6 x8 ((Int.tmod x10 2) != 0) x628000 x628001) else (withylaw01_NumRounded.j1 k x5 x6 x8 false x628000 x628001)) else (withylaw01_NumRounded.j1 k x5 x6 x8 true x628000 x628001)) else (if (wrap64 (2 * (wrap64 (x628000 - (wrap64 (x6 * x628001)))))) = x628001 then (withylaw01_NumRounded.j1 k x5 x6 x8 ((Int.tmod x10 2) != 0) x628000 x628001) else (withylaw01_NumRounded.j1 k x5 x6 x8 false x628000 x628001))))))
def withylaw01_NumRounded.j1 : Nat → Int → Int → Int → Bool → Int → Int → Option (Bool)
  | 0, _, _, _, _, _, _ => none
  | k + 1, x5, x6, x8, x157, x628000, x628001 => if x157 = true then (some false) else ((num_Decimal.f k x628000 x628001 x5).bind fun bt640 => (if bt640.2 = 0 then ((num_Parse.f k bt640.1).bind fun bt642 => (if bt642.2.2 = 0 then ((num_Sub.f k bt642.1 bt642.2.1 x628000 x628001).bind fun bt651 => (if bt651.1 < 0 then (withylaw01_NumRounded.j2 k x5 bt651.2.2 (wrap64 (-bt651.1)) bt651.2.1) else (withylaw01_NumRounded.j2 k x5 bt651.2.2 bt651.1 bt651.2.1))) else (if x5 > 0 then (if bt642.2.2 = 8 then ((withylaw01_summed.f k).bind fun t646 => (some t646)) else ((withyref01_In.f x6 (-1000000000) (-999999999)).bind fun t647 => (if t647 = true then ((withylaw01_summed.f k).bind fun t648 => (some t648)) else ((withyref01_In.f x8 999999999 1000000000).bind fun t649 => (if t649 = true then ((withylaw01_summed.f k).bind fun t650 => (some t650)) else (some false)))))) else (some false)))) else (some false)))
def withylaw01_NumRounded.j2 : Nat → Int → Int → Int → Int → Option (Bool)
  | 0, _, _, _, _ => none
  | k + 1, x5, x20, x655000, x655001 => (num_Mul.f k x655000 x655001 2 1).bind fun bt655 => (withylaw01_NumRounded.l0 k x5 x20 bt655.2.2 1 0 bt655.1 bt655.2.1)
def withylaw01_NumRounded.l0 : Nat → Int → Int → Int → Int → Int → Int → Int → Option (Bool)
  | 0, _, _, _, _, _, _, _ => none
  | k + 1, x5, x20, x21, x22, x23, x655000, x655001 => if x23 < x5 then (withylaw01_NumRounded.l0 k x5 x20 x21 (wrap64 (10 * x22)) (wrap64 (x23 + 1)) x655000 x655001) else ((num_Cmp.f k x655000 x655001 1 x22).bind fun bt658 => (if x20 = 0 then (if x21 = 0 then (if bt658.2 = 0 then (if bt658.1 ≤ 0 then ((withylaw01_summed.f k).bind fun t660 => (some t660)) else (some false)) else (some false)) else ((withylaw01_summed.f k).bind fun t661 => (some t661))) else ((withylaw01_summed.f k).bind fun t662 => (some t662))))
end
def withylaw01_NumRounded.f (k : Nat) (a0_0 : Int) (a0_1 : Int) (a1 : Int) : Option (Bool) := (withyref01_Check.f k a0_0 a0_1).bind fun t628 => (if t628 = 0 then ((num_Floor.f k a0_0 a0_1).bind fun bt630 => ((num_Ceil.f k a0_0 a0_1).bind fun bt632 => ((num_Round.f k a0_0 a0_1).bind fun bt634 => ((num_Whole.f k a0_0 a0_1).bind fun bt636 => (if bt630.2 = 0 then (if bt632.2 = 0 then (if bt634.2 = 0 then (if bt636.2 = 0 then ((withyref01_In.f bt630.1 (-1000000000) 1000000000).bind fun t638 => (if t638 = true then ((withyref01_In.f bt632.1 bt630.1 (wrap64 (bt630.1 + 1))).bind fun t639 => (if t639 = true then (if ((bt632.1 == bt630.1) != bt636.1) = true then (withylaw01_NumRounded.j0 k (Int.tmod (wrap64 (a1)) 10) bt630.1 bt632.1 bt634.1 true a0_0 a0_1) else (if bt634.1 = bt630.1 then (withylaw01_NumRounded.j0 k (Int.tmod (wrap64 (a1)) 10) bt630.1 bt632.1 bt634.1 false a0_0 a0_1) else (withylaw01_NumRounded.j0 k (Int.tmod (wrap64 (a1)) 10) bt630.1 bt632.1 bt634.1 (bt634.1 != bt632.1) a0_0 a0_1))) else (withylaw01_NumRounded.j0 k (Int.tmod (wrap64 (a1)) 10) bt630.1 bt632.1 bt634.1 true a0_0 a0_1))) else (withylaw01_NumRounded.j0 k (Int.tmod (wrap64 (a1)) 10) bt630.1 bt632.1 bt634.1 true a0_0 a0_1))) else (withylaw01_NumRounded.j0 k (Int.tmod (wrap64 (a1)) 10) bt630.1 bt632.1 bt634.1 true a0_0 a0_1)) else (withylaw01_NumRounded.j0 k (Int.tmod (wrap64 (a1)) 10) bt630.1 bt632.1 bt634.1 true a0_0 a0_1)) else (withylaw01_NumRounded.j0 k (Int.tmod (wrap64 (a1)) 10) bt630.1 bt632.1 bt634.1 true a0_0 a0_1)) else (withylaw01_NumRounded.j0 k (Int.tmod (wrap64 (a1)) 10) bt630.1 bt632.1 bt634.1 true a0_0 a0_1)))))) else ((withylaw01_summed.f k).bind fun t629 => (some t629)))
theorem withylaw01_NumRounded.mono_l : ∀ k, (∀ y0 y1 y2 y3 y4 y5 y6, LeO (withylaw01_NumRounded.j0 k y0 y1 y2 y3 y4 y5 y6) (withylaw01_NumRounded.j0 (k + 1) y0 y1 y2 y3 y4 y5 y6)) ∧ (∀ y0 y1 y2 y3 y4 y5, LeO (withylaw01_NumRounded.j1 k y0 y1 y2 y3 y4 y5) (withylaw01_NumRounded.j1 (k + 1) y0 y1 y2 y3 y4 y5)) ∧ (∀ y0 y1 y2 y3, LeO (withylaw01_NumRounded.j2 k y0 y1 y2 y3) (withylaw01_NumRounded.j2 (k + 1) y0 y1 y2 y3)) ∧ (∀ y0 y1 y2 y3 y4 y5 y6, LeO (withylaw01_NumRounded.l0 k y0 y1 y2 y3 y4 y5 y6) (withylaw01_NumRounded.l0 (k + 1) y0 y1 y2 y3 y4 y5 y6))
  | 0 => ⟨fun _ _ _ _ _ _ _ r h => by simp [withylaw01_NumRounded.j0] at h, fun _ _ _ _ _ _ r h => by simp [withylaw01_NumRounded.j1] at h, fun _ _ _ _ r h => by simp [withylaw01_NumRounded.j2] at h, fun _ _ _ _ _ _ _ r h => by simp [withylaw01_NumRounded.l0] at h⟩
  | k + 1 => by
    obtain ⟨ih0, ih1, ih2, ih3⟩ := withylaw01_NumRounded.mono_l k
    refine ⟨?_, ?_, ?_, ?_⟩
    · intro y0 y1 y2 y3 y4 y5 y6
      unfold withylaw01_NumRounded.j0
      repeat' first
      | (with_reducible exact ih0 _ _ _ _ _ _ _)
      | (with_reducible exact ih1 _ _ _ _ _ _)
      | (with_reducible exact ih2 _ _ _ _)
      | (with_reducible exact ih3 _ _ _ _ _ _ _)
      | (with_reducible exact num_Ceil.mono _ _ _)
      | (with_reducible exact num_Cmp.mono _ _ _ _ _)
      | (with_reducible exact num_Decimal.mono _ _ _ _)
      | (with_reducible exact num_Floor.mono _ _ _)
      | (with_reducible exact num_Mul.mono _ _ _ _ _)
      | (with_reducible exact num_Parse.mono _ _)
      | (with_reducible exact num_Round.mono _ _ _)
      | (with_reducible exact num_Sub.mono _ _ _ _ _)
      | (with_reducible exact num_Whole.mono _ _ _)
      | (with_reducible exact withylaw01_summed.mono _)
      | (with_reducible exact withyref01_Check.mono _ _ _)
      | (with_reducible exact LeO.refl _)
      | (with_reducible exact LeO.none _)
      | (with_reducible refine LeO.ite ?_ ?_)
      | (with_reducible refine LeO.bind ?_ (fun _ => ?_))
      | (with_reducible refine LeO.exc (fun _ => ?_) (fun _ => ?_))
      | exact ih0 _ _ _ _ _ _ _
      | exact ih1 _ _ _ _ _ _
      | exact ih2 _ _ _ _
      | exact ih3 _ _ _ _ _ _ _
      | exact num_Ceil.mono _ _ _
      | exact num_Cmp.mono _ _ _ _ _
      | exact num_Decimal.mono _ _ _ _
      | exact num_Floor.mono _ _ _
      | exact num_Mul.mono _ _ _ _ _
      | exact num_Parse.mono _ _
      | exact num_Round.mono _ _ _
      | exact num_Sub.mono _ _ _ _ _
      | exact num_Whole.mono _ _ _
      | exact withylaw01_summed.mono _
      | exact withyref01_Check.mono _ _ _
      | exact LeO.none _
      | refine LeO.ite ?_ ?_
      | refine LeO.bind ?_ (fun _ => ?_)
    · intro y0 y1 y2 y3 y4 y5
      unfold withylaw01_NumRounded.j1
      repeat' first
      | (with_reducible exact ih0 _ _ _ _ _ _ _)
      | (with_reducible exact ih1 _ _ _ _ _ _)
      | (with_reducible exact ih2 _ _ _ _)
      | (with_reducible exact ih3 _ _ _ _ _ _ _)
      | (with_reducible exact num_Ceil.mono _ _ _)
      | (with_reducible exact num_Cmp.mono _ _ _ _ _)
      | (with_reducible exact num_Decimal.mono _ _ _ _)
      | (with_reducible exact num_Floor.mono _ _ _)
      | (with_reducible exact num_Mul.mono _ _ _ _ _)
      | (with_reducible exact num_Parse.mono _ _)
      | (with_reducible exact num_Round.mono _ _ _)
      | (with_reducible exact num_Sub.mono _ _ _ _ _)
      | (with_reducible exact num_Whole.mono _ _ _)
      | (with_reducible exact withylaw01_summed.mono _)
      | (with_reducible exact withyref01_Check.mono _ _ _)
      | (with_reducible exact LeO.refl _)
      | (with_reducible exact LeO.none _)
      | (with_reducible refine LeO.ite ?_ ?_)
      | (with_reducible refine LeO.bind ?_ (fun _ => ?_))
      | (with_reducible refine LeO.exc (fun _ => ?_) (fun _ => ?_))
      | exact ih0 _ _ _ _ _ _ _
      | exact ih1 _ _ _ _ _ _
      | exact ih2 _ _ _ _
      | exact ih3 _ _ _ _ _ _ _
      | exact num_Ceil.mono _ _ _
      | exact num_Cmp.mono _ _ _ _ _
      | exact num_Decimal.mono _ _ _ _
      | exact num_Floor.mono _ _ _
      | exact num_Mul.mono _ _ _ _ _
      | exact num_Parse.mono _ _
      | exact num_Round.mono _ _ _
      | exact num_Sub.mono _ _ _ _ _
      | exact num_Whole.mono _ _ _
      | exact withylaw01_summed.mono _
      | exact withyref01_Check.mono _ _ _
      | exact LeO.none _
      | refine LeO.ite ?_ ?_
      | refine LeO.bind ?_ (fun _ => ?_)
    · intro y0 y1 y2 y3
      unfold withylaw01_NumRounded.j2
      repeat' first
      | (with_reducible exact ih0 _ _ _ _ _ _ _)
      | (with_reducible exact ih1 _ _ _ _ _ _)
      | (with_reducible exact ih2 _ _ _ _)
      | (with_reducible exact ih3 _ _ _ _ _ _ _)
      | (with_reducible exact num_Ceil.mono _ _ _)
      | (with_reducible exact num_Cmp.mono _ _ _ _ _)
      | (with_reducible exact num_Decimal.mono _ _ _ _)
      | (with_reducible exact num_Floor.mono _ _ _)
      | (with_reducible exact num_Mul.mono _ _ _ _ _)
      | (with_reducible exact num_Parse.mono _ _)
      | (with_reducible exact num_Round.mono _ _ _)
      | (with_reducible exact num_Sub.mono _ _ _ _ _)
      | (with_reducible exact num_Whole.mono _ _ _)
      | (with_reducible exact withylaw01_summed.mono _)
      | (with_reducible exact withyref01_Check.mono _ _ _)
      | (with_reducible exact LeO.refl _)
      | (with_reducible exact LeO.none _)
      | (with_reducible refine LeO.ite ?_ ?_)
      | (with_reducible refine LeO.bind ?_ (fun _ => ?_))
      | (with_reducible refine LeO.exc (fun _ => ?_) (fun _ => ?_))
      | exact ih0 _ _ _ _ _ _ _
      | exact ih1 _ _ _ _ _ _
      | exact ih2 _ _ _ _
      | exact ih3 _ _ _ _ _ _ _
      | exact num_Ceil.mono _ _ _
      | exact num_Cmp.mono _ _ _ _ _
      | exact num_Decimal.mono _ _ _ _
      | exact num_Floor.mono _ _ _
      | exact num_Mul.mono _ _ _ _ _
      | exact num_Parse.mono _ _
      | exact num_Round.mono _ _ _
      | exact num_Sub.mono _ _ _ _ _
      | exact num_Whole.mono _ _ _
      | exact withylaw01_summed.mono _
      | exact withyref01_Check.mono _ _ _
      | exact LeO.none _
      | refine LeO.ite ?_ ?_
      | refine LeO.bind ?_ (fun _ => ?_)
    · intro y0 y1 y2 y3 y4 y5 y6
      unfold withylaw01_NumRounded.l0
      repeat' first
      | (with_reducible exact ih0 _ _ _ _ _ _ _)
      | (with_reducible exact ih1 _ _ _ _ _ _)
      | (with_reducible exact ih2 _ _ _ _)
      | (with_reducible exact ih3 _ _ _ _ _ _ _)
      | (with_reducible exact num_Ceil.mono _ _ _)
      | (with_reducible exact num_Cmp.mono _ _ _ _ _)
      | (with_reducible exact num_Decimal.mono _ _ _ _)
      | (with_reducible exact num_Floor.mono _ _ _)
      | (with_reducible exact num_Mul.mono _ _ _ _ _)
      | (with_reducible exact num_Parse.mono _ _)
      | (with_reducible exact num_Round.mono _ _ _)
      | (with_reducible exact num_Sub.mono _ _ _ _ _)
      | (with_reducible exact num_Whole.mono _ _ _)
      | (with_reducible exact withylaw01_summed.mono _)
      | (with_reducible exact withyref01_Check.mono _ _ _)
      | (with_reducible exact LeO.refl _)
      | (with_reducible exact LeO.none _)
      | (with_reducible refine LeO.ite ?_ ?_)
      | (with_reducible refine LeO.bind ?_ (fun _ => ?_))
      | (with_reducible refine LeO.exc (fun _ => ?_) (fun _ => ?_))
      | exact ih0 _ _ _ _ _ _ _
      | exact ih1 _ _ _ _ _ _
      | exact ih2 _ _ _ _
      | exact ih3 _ _ _ _ _ _ _
      | exact num_Ceil.mono _ _ _
      | exact num_Cmp.mono _ _ _ _ _
      | exact num_Decimal.mono _ _ _ _
      | exact num_Floor.mono _ _ _
      | exact num_Mul.mono _ _ _ _ _
      | exact num_Parse.mono _ _
      | exact num_Round.mono _ _ _
      | exact num_Sub.mono _ _ _ _ _
      | exact num_Whole.mono _ _ _
      | exact withylaw01_summed.mono _
      | exact withyref01_Check.mono _ _ _
      | exact LeO.none _
      | refine LeO.ite ?_ ?_
      | refine LeO.bind ?_ (fun _ => ?_)
theorem withylaw01_NumRounded.mono : ∀ a0 a1 a2 k, LeO (withylaw01_NumRounded.f k a0 a1 a2) (withylaw01_NumRounded.f (k + 1) a0 a1 a2) := by
  intro a0 a1 a2 k
  obtain ⟨ih0, ih1, ih2, ih3⟩ := withylaw01_NumRounded.mono_l k
  unfold withylaw01_NumRounded.f
  repeat' first
      | (with_reducible exact ih0 _ _ _ _ _ _ _)
      | (with_reducible exact ih1 _ _ _ _ _ _)
      | (with_reducible exact ih2 _ _ _ _)
      | (with_reducible exact ih3 _ _ _ _ _ _ _)
      | (with_reducible exact num_Ceil.mono _ _ _)
      | (with_reducible exact num_Cmp.mono _ _ _ _ _)
      | (with_reducible exact num_Decimal.mono _ _ _ _)
      | (with_reducible exact num_Floor.mono _ _ _)
      | (with_reducible exact num_Mul.mono _ _ _ _ _)
      | (with_reducible exact num_Parse.mono _ _)
      | (with_reducible exact num_Round.mono _ _ _)
      | (with_reducible exact num_Sub.mono _ _ _ _ _)
      | (with_reducible exact num_Whole.mono _ _ _)
      | (with_reducible exact withylaw01_summed.mono _)
      | (with_reducible exact withyref01_Check.mono _ _ _)
      | (with_reducible exact LeO.refl _)
      | (with_reducible exact LeO.none _)
      | (with_reducible refine LeO.ite ?_ ?_)
      | (with_reducible refine LeO.bind ?_ (fun _ => ?_))
      | (with_reducible refine LeO.exc (fun _ => ?_) (fun _ => ?_))
      | exact ih0 _ _ _ _ _ _ _
      | exact ih1 _ _ _ _ _ _
      | exact ih2 _ _ _ _
      | exact ih3 _ _ _ _ _ _ _
      | exact num_Ceil.mono _ _ _
      | exact num_Cmp.mono _ _ _ _ _
      | exact num_Decimal.mono _ _ _ _
      | exact num_Floor.mono _ _ _
      | exact num_Mul.mono _ _ _ _ _
      | exact num_Parse.mono _ _
      | exact num_Round.mono _ _ _
      | exact num_Sub.mono _ _ _ _ _
      | exact num_Whole.mono _ _ _
      | exact withylaw01_summed.mono _
      | exact withyref01_Check.mono _ _ _
      | exact LeO.none _
      | refine LeO.ite ?_ ?_
      | refine LeO.bind ?_ (fun _ => ?_)
set_option maxHeartbeats 8000000 in
set_option maxRecDepth 100000 in
theorem withylaw01_NumRounded.calls (k : Nat) (a0_0 : Int) (a0_1 : Int) (a1 : Int) (r : Bool) (w : World) (h : withylaw01_NumRounded.f k a0_0 a0_1 a1 = some r) :
    Calls Try.prog 10 #[.agg #[.int .i64 a0_0, .int .i64 a0_1], .int .u8 a1] w fun e w' => e = .returned (.bool r) ∧ Below w.heap.size w w' := by
  have hu23 := Try.underlying23
  have HB := Aside0.mk (Below.refl w.heap.size w)
  have H : ((withyref01_Check.f k a0_0 a0_1).bind fun t628 => (if t628 = 0 then ((num_Floor.f k a0_0 a0_1).bind fun bt630 => ((num_Ceil.f k a0_0 a0_1).bind fun bt632 => ((num_Round.f k a0_0 a0_1).bind fun bt634 => ((num_Whole.f k a0_0 a0_1).bind fun bt636 => (if bt630.2 = 0 then (if bt632.2 = 0 then (if bt634.2 = 0 then (if bt636.2 = 0 then ((withyref01_In.f bt630.1 (-1000000000) 1000000000).bind fun t638 => (if t638 = true then ((withyref01_In.f bt632.1 bt630.1 (wrap64 (bt630.1 + 1))).bind fun t639 => (if t639 = true then (if ((bt632.1 == bt630.1) != bt636.1) = true then (withylaw01_NumRounded.j0 k (Int.tmod (wrap64 (a1)) 10) bt630.1 bt632.1 bt634.1 true a0_0 a0_1) else (if bt634.1 = bt630.1 then (withylaw01_NumRounded.j0 k (Int.tmod (wrap64 (a1)) 10) bt630.1 bt632.1 bt634.1 false a0_0 a0_1) else (withylaw01_NumRounded.j0 k (Int.tmod (wrap64 (a1)) 10) bt630.1 bt632.1 bt634.1 (bt634.1 != bt632.1) a0_0 a0_1))) else (withylaw01_NumRounded.j0 k (Int.tmod (wrap64 (a1)) 10) bt630.1 bt632.1 bt634.1 true a0_0 a0_1))) else (withylaw01_NumRounded.j0 k (Int.tmod (wrap64 (a1)) 10) bt630.1 bt632.1 bt634.1 true a0_0 a0_1))) else (withylaw01_NumRounded.j0 k (Int.tmod (wrap64 (a1)) 10) bt630.1 bt632.1 bt634.1 true a0_0 a0_1)) else (withylaw01_NumRounded.j0 k (Int.tmod (wrap64 (a1)) 10) bt630.1 bt632.1 bt634.1 true a0_0 a0_1)) else (withylaw01_NumRounded.j0 k (Int.tmod (wrap64 (a1)) 10) bt630.1 bt632.1 bt634.1 true a0_0 a0_1)) else (withylaw01_NumRounded.j0 k (Int.tmod (wrap64 (a1)) 10) bt630.1 bt632.1 bt634.1 true a0_0 a0_1)))))) else ((withylaw01_summed.f k).bind fun t629 => (some t629)))) = some r := h
  clear h
  replace H := Option.bind_eq_some_iff.mp H
  obtain ⟨t628, A30, H⟩ := H
  replace H : (if t628 = 0 then ((num_Floor.f k a0_0 a0_1).bind fun bt630 => ((num_Ceil.f k a0_0 a0_1).bind fun bt632 => ((num_Round.f k a0_0 a0_1).bind fun bt634 => ((num_Whole.f k a0_0 a0_1).bind fun bt636 => (if bt630.2 = 0 then (if bt632.2 = 0 then (if bt634.2 = 0 then (if bt636.2 = 0 then ((withyref01_In.f bt630.1 (-1000000000) 1000000000).bind fun t638 => (if t638 = true then ((withyref01_In.f bt632.1 bt630.1 (wrap64 (bt630.1 + 1))).bind fun t639 => (if t639 = true then (if ((bt632.1 == bt630.1) != bt636.1) = true then (withylaw01_NumRounded.j0 k (Int.tmod (wrap64 (a1)) 10) bt630.1 bt632.1 bt634.1 true a0_0 a0_1) else (if bt634.1 = bt630.1 then (withylaw01_NumRounded.j0 k (Int.tmod (wrap64 (a1)) 10) bt630.1 bt632.1 bt634.1 false a0_0 a0_1) else (withylaw01_NumRounded.j0 k (Int.tmod (wrap64 (a1)) 10) bt630.1 bt632.1 bt634.1 (bt634.1 != bt632.1) a0_0 a0_1))) else (withylaw01_NumRounded.j0 k (Int.tmod (wrap64 (a1)) 10) bt630.1 bt632.1 bt634.1 true a0_0 a0_1))) else (withylaw01_NumRounded.j0 k (Int.tmod (wrap64 (a1)) 10) bt630.1 bt632.1 bt634.1 true a0_0 a0_1))) else (withylaw01_NumRounded.j0 k (Int.tmod (wrap64 (a1)) 10) bt630.1 bt632.1 bt634.1 true a0_0 a0_1)) else (withylaw01_NumRounded.j0 k (Int.tmod (wrap64 (a1)) 10) bt630.1 bt632.1 bt634.1 true a0_0 a0_1)) else (withylaw01_NumRounded.j0 k (Int.tmod (wrap64 (a1)) 10) bt630.1 bt632.1 bt634.1 true a0_0 a0_1)) else (withylaw01_NumRounded.j0 k (Int.tmod (wrap64 (a1)) 10) bt630.1 bt632.1 bt634.1 true a0_0 a0_1)))))) else ((withylaw01_summed.f k).bind fun t629 => (some t629))) = some r := H
  have A3 := Aside0.mk A30
  clear A30
  by_cases c4 : t628 = 0
  · rw [if_pos c4] at H
    have c4b0 : (t628 == 0) = true := beq_iff_eq.mpr c4
    have c4b1 : (t628 != 0) = false := bne_eq_false_iff_eq.mpr c4
    clear c4
    replace H := Option.bind_eq_some_iff.mp H
    obtain ⟨⟨t630, t631⟩, A50, H⟩ := H
    replace H : ((num_Ceil.f k a0_0 a0_1).bind fun bt632 => ((num_Round.f k a0_0 a0_1).bind fun bt634 => ((num_Whole.f k a0_0 a0_1).bind fun bt636 => (if t631 = 0 then (if bt632.2 = 0 then (if bt634.2 = 0 then (if bt636.2 = 0 then ((withyref01_In.f t630 (-1000000000) 1000000000).bind fun t638 => (if t638 = true then ((withyref01_In.f bt632.1 t630 (wrap64 (t630 + 1))).bind fun t639 => (if t639 = true then (if ((bt632.1 == t630) != bt636.1) = true then (withylaw01_NumRounded.j0 k (Int.tmod (wrap64 (a1)) 10) t630 bt632.1 bt634.1 true a0_0 a0_1) else (if bt634.1 = t630 then (withylaw01_NumRounded.j0 k (Int.tmod (wrap64 (a1)) 10) t630 bt632.1 bt634.1 false a0_0 a0_1) else (withylaw01_NumRounded.j0 k (Int.tmod (wrap64 (a1)) 10) t630 bt632.1 bt634.1 (bt634.1 != bt632.1) a0_0 a0_1))) else (withylaw01_NumRounded.j0 k (Int.tmod (wrap64 (a1)) 10) t630 bt632.1 bt634.1 true a0_0 a0_1))) else (withylaw01_NumRounded.j0 k (Int.tmod (wrap64 (a1)) 10) t630 bt632.1 bt634.1 true a0_0 a0_1))) else (withylaw01_NumRounded.j0 k (Int.tmod (wrap64 (a1)) 10) t630 bt632.1 bt634.1 true a0_0 a0_1)) else (withylaw01_NumRounded.j0 k (Int.tmod (wrap64 (a1)) 10) t630 bt632.1 bt634.1 true a0_0 a0_1)) else (withylaw01_NumRounded.j0 k (Int.tmod (wrap64 (a1)) 10) t630 bt632.1 bt634.1 true a0_0 a0_1)) else (withylaw01_NumRounded.j0 k (Int.tmod (wrap64 (a1)) 10) t630 bt632.1 bt634.1 true a0_0 a0_1))))) = some r := H
    have A5 := Aside0.mk A50
    clear A50
    replace H := Option.bind_eq_some_iff.mp H
    obtain ⟨⟨t632, t633⟩, A60, H⟩ := H
    replace H : ((num_Round.f k a0_0 a0_1).bind fun bt634 => ((num_Whole.f k a0_0 a0_1).bind fun bt636 => (if t631 = 0 then (if t633 = 0 then (if bt634.2 = 0 then (if bt636.2 = 0 then ((withyref01_In.f t630 (-1000000000) 1000000000).bind fun t638 => (if t638 = true then ((withyref01_In.f t632 t630 (wrap64 (t630 + 1))).bind fun t639 => (if t639 = true then (if ((t632 == t630) != bt636.1) = true then (withylaw01_NumRounded.j0 k (Int.tmod (wrap64 (a1)) 10) t630 t632 bt634.1 true a0_0 a0_1) else (if bt634.1 = t630 then (withylaw01_NumRounded.j0 k (Int.tmod (wrap64 (a1)) 10) t630 t632 bt634.1 false a0_0 a0_1) else (withylaw01_NumRounded.j0 k (Int.tmod (wrap64 (a1)) 10) t630 t632 bt634.1 (bt634.1 != t632) a0_0 a0_1))) else (withylaw01_NumRounded.j0 k (Int.tmod (wrap64 (a1)) 10) t630 t632 bt634.1 true a0_0 a0_1))) else (withylaw01_NumRounded.j0 k (Int.tmod (wrap64 (a1)) 10) t630 t632 bt634.1 true a0_0 a0_1))) else (withylaw01_NumRounded.j0 k (Int.tmod (wrap64 (a1)) 10) t630 t632 bt634.1 true a0_0 a0_1)) else (withylaw01_NumRounded.j0 k (Int.tmod (wrap64 (a1)) 10) t630 t632 bt634.1 true a0_0 a0_1)) else (withylaw01_NumRounded.j0 k (Int.tmod (wrap64 (a1)) 10) t630 t632 bt634.1 true a0_0 a0_1)) else (withylaw01_NumRounded.j0 k (Int.tmod (wrap64 (a1)) 10) t630 t632 bt634.1 true a0_0 a0_1)))) = some r := H
    have A6 := Aside0.mk A60
    clear A60
    replace H := Option.bind_eq_some_iff.mp H
    obtain ⟨⟨t634, t635⟩, A70, H⟩ := H
    replace H : ((num_Whole.f k a0_0 a0_1).bind fun bt636 => (if t631 = 0 then (if t633 = 0 then (if t635 = 0 then (if bt636.2 = 0 then ((withyref01_In.f t630 (-1000000000) 1000000000).bind fun t638 => (if t638 = true then ((withyref01_In.f t632 t630 (wrap64 (t630 + 1))).bind fun t639 => (if t639 = true then (if ((t632 == t630) != bt636.1) = true then (withylaw01_NumRounded.j0 k (Int.tmod (wrap64 (a1)) 10) t630 t632 t634 true a0_0 a0_1) else (if t634 = t630 then (withylaw01_NumRounded.j0 k (Int.tmod (wrap64 (a1)) 10) t630 t632 t634 false a0_0 a0_1) else (withylaw01_NumRounded.j0 k (Int.tmod (wrap64 (a1)) 10) t630 t632 t634 (t634 != t632) a0_0 a0_1))) else (withylaw01_NumRounded.j0 k (Int.tmod (wrap64 (a1)) 10) t630 t632 t634 true a0_0 a0_1))) else (withylaw01_NumRounded.j0 k (Int.tmod (wrap64 (a1)) 10) t630 t632 t634 true a0_0 a0_1))) else (withylaw01_NumRounded.j0 k (Int.tmod (wrap64 (a1)) 10) t630 t632 t634 true a0_0 a0_1)) else (withylaw01_NumRounded.j0 k (Int.tmod (wrap64 (a1)) 10) t630 t632 t634 true a0_0 a0_1)) else (withylaw01_NumRounded.j0 k (Int.tmod (wrap64 (a1)) 10) t630 t632 t634 true a0_0 a0_1)) else (withylaw01_NumRounded.j0 k (Int.tmod (wrap64 (a1)) 10) t630 t632 t634 true a0_0 a0_1))) = some r := H
    have A7 := Aside0.mk A70
    clear A70
    replace H := Option.bind_eq_some_iff.mp H
    obtain ⟨⟨t636, t637⟩, A80, H⟩ := H
    replace H : (if t631 = 0 then (if t633 = 0 then (if t635 = 0 then (if t637 = 0 then ((withyref01_In.f t630 (-1000000000) 1000000000).bind fun t638 => (if t638 = true then ((withyref01_In.f t632 t630 (wrap64 (t630 + 1))).bind fun t639 => (if t639 = true then (if ((t632 == t630) != t636) = true then (withylaw01_NumRounded.j0 k (Int.tmod (wrap64 (a1)) 10) t630 t632 t634 true a0_0 a0_1) else (if t634 = t630 then (withylaw01_NumRounded.j0 k (Int.tmod (wrap64 (a1)) 10) t630 t632 t634 false a0_0 a0_1) else (withylaw01_NumRounded.j0 k (Int.tmod (wrap64 (a1)) 10) t630 t632 t634 (t634 != t632) a0_0 a0_1))) else (withylaw01_NumRounded.j0 k (Int.tmod (wrap64 (a1)) 10) t630 t632 t634 true a0_0 a0_1))) else (withylaw01_NumRounded.j0 k (Int.tmod (wrap64 (a1)) 10) t630 t632 t634 true a0_0 a0_1))) else (withylaw01_NumRounded.j0 k (Int.tmod (wrap64 (a1)) 10) t630 t632 t634 true a0_0 a0_1)) else (withylaw01_NumRounded.j0 k (Int.tmod (wrap64 (a1)) 10) t630 t632 t634 true a0_0 a0_1)) else (withylaw01_NumRounded.j0 k (Int.tmod (wrap64 (a1)) 10) t630 t632 t634 true a0_0 a0_1)) else (withylaw01_NumRounded.j0 k (Int.tmod (wrap64 (a1)) 10) t630 t632 t634 true a0_0 a0_1)) = some r := H
    have A8 := Aside0.mk A80
    clear A80
    have HC9 := Aside0.mk H
    clear H
    as_aux_lemma =>
      go_enter Try.func10, Try.ntmps10
      go_upto_region 8 with (first | ((with_reducible refine gate_dst (N := 2) rfl ?_); refine box_event ?hg (N := 2) ?hd (cs := #[.int .i64 a0_0, .int .i64 a0_1]) (t := 23) ?hr ?_; (case hd => rfl); (case hg => rfl); (case hr => first | (go_simp; done) | (go_simp; rfl)); intro gb627 hg w10 hbox hb; have BK627 := Aside0.mk hbox; have GW627 := bwg_ HB hg; have GE627 := bwg_ HB hg; replace HB := bws_ HB hb; clear hb hbox hg; obtain ⟨hcz11_0, hcz11_1, hfz11_0, hfz11_1⟩ := bc2_ BK627) | ((with_reducible refine gate_callee (f := 41) rfl ?_); refine gla_ (some 27) Try.func41 #[.agg #[.int .i64 a0_0, .int .i64 a0_1]] ?_; (with_reducible refine (withyref01_Check.calls k a0_0 a0_1 t628 _ A3.out).mono ?_); rintro e w12 ⟨rfl, hb⟩; refine ⟨_, rfl, ?_⟩; replace BK627 := bkb_ BK627 hb; replace HB := bws_ HB hb; (try clear hb); (try clear hb2); (try clear hk); (try clear hi); obtain ⟨hcz13_0, hcz13_1, hfz13_0, hfz13_1⟩ := bc2_ BK627) | ((with_reducible refine gate_callee (f := 29) rfl ?_); refine gla_ (some 35) Try.func29 #[.agg #[.int .i64 a0_0, .int .i64 a0_1]] ?_; (with_reducible refine (num_Floor.calls k a0_0 a0_1 t630 t631 _ A5.out).mono ?_); rintro e w14 ⟨rfl, hb⟩; refine ⟨_, rfl, ?_⟩; replace BK627 := bkb_ BK627 hb; replace HB := bws_ HB hb; (try clear hb); (try clear hb2); (try clear hk); (try clear hi); obtain ⟨hcz15_0, hcz15_1, hfz15_0, hfz15_1⟩ := bc2_ BK627) | ((with_reducible refine gate_callee (f := 31) rfl ?_); refine gla_ (some 40) Try.func31 #[.agg #[.int .i64 a0_0, .int .i64 a0_1]] ?_; (with_reducible refine (num_Ceil.calls k a0_0 a0_1 t632 t633 _ A6.out).mono ?_); rintro e w16 ⟨rfl, hb⟩; refine ⟨_, rfl, ?_⟩; replace BK627 := bkb_ BK627 hb; replace HB := bws_ HB hb; (try clear hb); (try clear hb2); (try clear hk); (try clear hi); obtain ⟨hcz17_0, hcz17_1, hfz17_0, hfz17_1⟩ := bc2_ BK627) | ((with_reducible refine gate_callee (f := 33) rfl ?_); refine gla_ (some 45) Try.func33 #[.agg #[.int .i64 a0_0, .int .i64 a0_1]] ?_; (with_reducible refine (num_Round.calls k a0_0 a0_1 t634 t635 _ A7.out).mono ?_); rintro e w18 ⟨rfl, hb⟩; refine ⟨_, rfl, ?_⟩; replace BK627 := bkb_ BK627 hb; replace HB := bws_ HB hb; (try clear hb); (try clear hb2); (try clear hk); (try clear hi); obtain ⟨hcz19_0, hcz19_1, hfz19_0, hfz19_1⟩ := bc2_ BK627) | ((with_reducible refine gate_callee (f := 45) rfl ?_); refine gla_ (some 50) Try.func45 #[.agg #[.int .i64 a0_0, .int .i64 a0_1]] ?_; (with_reducible refine (num_Whole.calls k a0_0 a0_1 t636 t637 _ A8.out).mono ?_); rintro e w20 ⟨rfl, hb⟩; refine ⟨_, rfl, ?_⟩; replace BK627 := bkb_ BK627 hb; replace HB := bws_ HB hb; (try clear hb); (try clear hb2); (try clear hk); (try clear hi)))
      (try simp only [Act.put, List.setIfInBounds_toArray, List.set_cons_zero, List.set_cons_succ])
      go_cut [96] (fun v96 wc => ∃ (kq : Nat) (x96_8 : Bool), v96 = .bool x96_8 ∧ Aside0 (withylaw01_NumRounded.j0 kq (Int.tmod (wrap64 (a1)) 10) t630 t632 t634 x96_8 a0_0 a0_1 = some r) ∧ Aside0 (kq ≤ k) ∧ Aside0 (wc.heap[gb627]? = some (.cells #[.int .i64 a0_0, .int .i64 a0_1] 23 (0, 0))) ∧ Aside0 (Below w.heap.size w wc))
      case first =>
        as_aux_lemma =>
          have H := HC9.out
          clear HC9
          by_cases c21 : t631 = 0
          · rw [if_pos c21] at H
            have c21b0 : (t631 == 0) = true := beq_iff_eq.mpr c21
            have c21b1 : (t631 != 0) = false := bne_eq_false_iff_eq.mpr c21
            clear c21
            (first | rw [c21b0] | (simp only [i64_w, i32_w]; rw [c21b0]) | skip)
            by_cases c22 : t633 = 0
            · rw [if_pos c22] at H
              have c22b0 : (t633 == 0) = true := beq_iff_eq.mpr c22
              have c22b1 : (t633 != 0) = false := bne_eq_false_iff_eq.mpr c22
              clear c22
              by_cases c23 : t635 = 0
              · rw [if_pos c23] at H
                have c23b0 : (t635 == 0) = true := beq_iff_eq.mpr c23
                have c23b1 : (t635 != 0) = false := bne_eq_false_iff_eq.mpr c23
                clear c23
                by_cases c24 : t637 = 0
                · rw [if_pos c24] at H
                  have c24b0 : (t637 == 0) = true := beq_iff_eq.mpr c24
                  have c24b1 : (t637 != 0) = false := bne_eq_false_iff_eq.mpr c24
                  clear c24
                  replace H := Option.bind_eq_some_iff.mp H
                  obtain ⟨t638, A250, H⟩ := H
                  replace H : (if t638 = true then ((withyref01_In.f t632 t630 (wrap64 (t630 + 1))).bind fun t639 => (if t639 = true then (if ((t632 == t630) != t636) = true then (withylaw01_NumRounded.j0 k (Int.tmod (wrap64 (a1)) 10) t630 t632 t634 true a0_0 a0_1) else (if t634 = t630 then (withylaw01_NumRounded.j0 k (Int.tmod (wrap64 (a1)) 10) t630 t632 t634 false a0_0 a0_1) else (withylaw01_NumRounded.j0 k (Int.tmod (wrap64 (a1)) 10) t630 t632 t634 (t634 != t632) a0_0 a0_1))) else (withylaw01_NumRounded.j0 k (Int.tmod (wrap64 (a1)) 10) t630 t632 t634 true a0_0 a0_1))) else (withylaw01_NumRounded.j0 k (Int.tmod (wrap64 (a1)) 10) t630 t632 t634 true a0_0 a0_1)) = some r := H
                  have A25 := Aside0.mk A250
                  clear A250
                  by_cases c26 : t638 = true
                  · subst c26
                    have H1 : ((withyref01_In.f t632 t630 (wrap64 (t630 + 1))).bind fun t639 => (if t639 = true then (if ((t632 == t630) != t636) = true then (withylaw01_NumRounded.j0 k (Int.tmod (wrap64 (a1)) 10) t630 t632 t634 true a0_0 a0_1) else (if t634 = t630 then (withylaw01_NumRounded.j0 k (Int.tmod (wrap64 (a1)) 10) t630 t632 t634 false a0_0 a0_1) else (withylaw01_NumRounded.j0 k (Int.tmod (wrap64 (a1)) 10) t630 t632 t634 (t634 != t632) a0_0 a0_1))) else (withylaw01_NumRounded.j0 k (Int.tmod (wrap64 (a1)) 10) t630 t632 t634 true a0_0 a0_1))) = some r := by rw [if_pos rfl] at H; exact H
                    clear H
                    have H := H1
                    clear H1
                    replace H := Option.bind_eq_some_iff.mp H
                    obtain ⟨t639, A270, H⟩ := H
                    replace H : (if t639 = true then (if ((t632 == t630) != t636) = true then (withylaw01_NumRounded.j0 k (Int.tmod (wrap64 (a1)) 10) t630 t632 t634 true a0_0 a0_1) else (if t634 = t630 then (withylaw01_NumRounded.j0 k (Int.tmod (wrap64 (a1)) 10) t630 t632 t634 false a0_0 a0_1) else (withylaw01_NumRounded.j0 k (Int.tmod (wrap64 (a1)) 10) t630 t632 t634 (t634 != t632) a0_0 a0_1))) else (withylaw01_NumRounded.j0 k (Int.tmod (wrap64 (a1)) 10) t630 t632 t634 true a0_0 a0_1)) = some r := H
                    have A27 := Aside0.mk A270
                    clear A270
                    by_cases c28 : t639 = true
                    · subst c28
                      have H1 : (if ((t632 == t630) != t636) = true then (withylaw01_NumRounded.j0 k (Int.tmod (wrap64 (a1)) 10) t630 t632 t634 true a0_0 a0_1) else (if t634 = t630 then (withylaw01_NumRounded.j0 k (Int.tmod (wrap64 (a1)) 10) t630 t632 t634 false a0_0 a0_1) else (withylaw01_NumRounded.j0 k (Int.tmod (wrap64 (a1)) 10) t630 t632 t634 (t634 != t632) a0_0 a0_1))) = some r := by rw [if_pos rfl] at H; exact H
                      clear H
                      have H := H1
                      clear H1
                      by_cases c29 : ((t632 == t630) != t636) = true
                      · rw [if_pos c29] at H
                        have c29b0 : ((t632 == t630) != t636) = true := c29
                        (try (have c29b1 : decide ((t632 == t630) = t636) = false := by simpa using c29))
                        (try (have c29b2 : ((t632 == t630) == t636) = false := by simpa using c29))
                        (try (have c29b3 : ¬ ((t632 == t630) = t636) := by simpa using c29))
                        clear c29
                        have H' := Aside0.mk H
                        clear H
                        go_wp2_with (first | (go_at_call 42; (with_reducible refine (withyref01_In.calls t630 (-1000000000) 1000000000 true _ A25.out).mono ?_); rintro e w' ⟨rfl, ⟨nd, rfl⟩⟩) | (go_at_call 42; (with_reducible refine (withyref01_In.calls t632 t630 (wrap64 (t630 + 1)) true _ A27.out).mono ?_); rintro e w' ⟨rfl, ⟨nd, rfl⟩⟩))
                        go_meet
                        case rel => exact ⟨_, (true), (by first | rfl | (simp; done) | (simp [*]; done)), H', ⟨by first | omega | exact Nat.le_refl _⟩, ⟨by exact bk_ BK627⟩, ⟨bw_ HB⟩⟩
                      · rw [if_neg c29] at H
                        have c29b0 : ((t632 == t630) != t636) = false := by simpa using c29
                        (try (have c29b1 : decide ((t632 == t630) = t636) = true := by simpa using c29))
                        (try (have c29b2 : ((t632 == t630) == t636) = true := by simpa using c29))
                        clear c29
                        by_cases c30 : t634 = t630
                        · rw [if_pos c30] at H
                          have c30b0 : (t634 == t630) = true := beq_iff_eq.mpr c30
                          have c30b1 : (t634 != t630) = false := bne_eq_false_iff_eq.mpr c30
                          clear c30
                          have H' := Aside0.mk H
                          clear H
                          go_wp2_with (first | (go_at_call 42; (with_reducible refine (withyref01_In.calls t630 (-1000000000) 1000000000 true _ A25.out).mono ?_); rintro e w' ⟨rfl, ⟨nd, rfl⟩⟩) | (go_at_call 42; (with_reducible refine (withyref01_In.calls t632 t630 (wrap64 (t630 + 1)) true _ A27.out).mono ?_); rintro e w' ⟨rfl, ⟨nd, rfl⟩⟩))
                          go_meet
                          case rel => exact ⟨_, (false), (by first | rfl | (simp; done) | (simp [*]; done)), H', ⟨by first | omega | exact Nat.le_refl _⟩, ⟨by exact bk_ BK627⟩, ⟨bw_ HB⟩⟩
                        · rw [if_neg c30] at H
                          have c30b0 : (t634 == t630) = false := beq_eq_false_iff_ne.mpr c30
                          have c30b1 : (t634 != t630) = true := bne_iff_ne.mpr c30
                          have H' := Aside0.mk H
                          clear H
                          go_wp2_with (first | (go_at_call 42; (with_reducible refine (withyref01_In.calls t630 (-1000000000) 1000000000 true _ A25.out).mono ?_); rintro e w' ⟨rfl, ⟨nd, rfl⟩⟩) | (go_at_call 42; (with_reducible refine (withyref01_In.calls t632 t630 (wrap64 (t630 + 1)) true _ A27.out).mono ?_); rintro e w' ⟨rfl, ⟨nd, rfl⟩⟩))
                          go_meet
                          case rel => exact ⟨_, ((t634 != t632)), (by first | rfl | (simp; done) | (simp [*]; done)), H', ⟨by first | omega | exact Nat.le_refl _⟩, ⟨by exact bk_ BK627⟩, ⟨bw_ HB⟩⟩
                    · replace c28 := Bool.eq_false_iff.mpr c28
                      subst c28
                      have H1 : (withylaw01_NumRounded.j0 k (Int.tmod (wrap64 (a1)) 10) t630 t632 t634 true a0_0 a0_1) = some r := by rw [if_neg (show ¬ (false = true) by decide)] at H; exact H
                      clear H
                      have H := H1
                      clear H1
                      have H' := Aside0.mk H
                      clear H
                      go_wp2_with (first | (go_at_call 42; (with_reducible refine (withyref01_In.calls t630 (-1000000000) 1000000000 true _ A25.out).mono ?_); rintro e w' ⟨rfl, ⟨nd, rfl⟩⟩) | (go_at_call 42; (with_reducible refine (withyref01_In.calls t632 t630 (wrap64 (t630 + 1)) false _ A27.out).mono ?_); rintro e w' ⟨rfl, ⟨nd, rfl⟩⟩))
                      go_meet
                      case rel => exact ⟨_, (true), (by first | rfl | (simp; done) | (simp [*]; done)), H', ⟨by first | omega | exact Nat.le_refl _⟩, ⟨by exact bk_ BK627⟩, ⟨bw_ HB⟩⟩
                  · replace c26 := Bool.eq_false_iff.mpr c26
                    subst c26
                    have H1 : (withylaw01_NumRounded.j0 k (Int.tmod (wrap64 (a1)) 10) t630 t632 t634 true a0_0 a0_1) = some r := by rw [if_neg (show ¬ (false = true) by decide)] at H; exact H
                    clear H
                    have H := H1
                    clear H1
                    have H' := Aside0.mk H
                    clear H
                    go_wp2_with (first | (go_at_call 42; (with_reducible refine (withyref01_In.calls t630 (-1000000000) 1000000000 false _ A25.out).mono ?_); rintro e w' ⟨rfl, ⟨nd, rfl⟩⟩))
                    go_meet
                    case rel => exact ⟨_, (true), (by first | rfl | (simp; done) | (simp [*]; done)), H', ⟨by first | omega | exact Nat.le_refl _⟩, ⟨by exact bk_ BK627⟩, ⟨bw_ HB⟩⟩
                · rw [if_neg c24] at H
                  have c24b0 : (t637 == 0) = false := beq_eq_false_iff_ne.mpr c24
                  have c24b1 : (t637 != 0) = true := bne_iff_ne.mpr c24
                  have H' := Aside0.mk H
                  clear H
                  go_wp2
                  go_meet
                  case rel => exact ⟨_, (true), (by first | rfl | (simp; done) | (simp [*]; done)), H', ⟨by first | omega | exact Nat.le_refl _⟩, ⟨by exact bk_ BK627⟩, ⟨bw_ HB⟩⟩
              · rw [if_neg c23] at H
                have c23b0 : (t635 == 0) = false := beq_eq_false_iff_ne.mpr c23
                have c23b1 : (t635 != 0) = true := bne_iff_ne.mpr c23
                have H' := Aside0.mk H
                clear H
                go_wp2
                go_meet
                case rel => exact ⟨_, (true), (by first | rfl | (simp; done) | (simp [*]; done)), H', ⟨by first | omega | exact Nat.le_refl _⟩, ⟨by exact bk_ BK627⟩, ⟨bw_ HB⟩⟩
            · rw [if_neg c22] at H
              have c22b0 : (t633 == 0) = false := beq_eq_false_iff_ne.mpr c22
              have c22b1 : (t633 != 0) = true := bne_iff_ne.mpr c22
              have H' := Aside0.mk H
              clear H
              go_wp2
              go_meet
              case rel => exact ⟨_, (true), (by first | rfl | (simp; done) | (simp [*]; done)), H', ⟨by first | omega | exact Nat.le_refl _⟩, ⟨by exact bk_ BK627⟩, ⟨bw_ HB⟩⟩
          · rw [if_neg c21] at H
            have c21b0 : (t631 == 0) = false := beq_eq_false_iff_ne.mpr c21
            have c21b1 : (t631 != 0) = true := bne_iff_ne.mpr c21
            (first | rw [c21b0] | (simp only [i64_w, i32_w]; rw [c21b0]) | skip)
            have H' := Aside0.mk H
            clear H
            go_wp2
            go_meet
            case rel => exact ⟨_, (true), (by first | rfl | (simp; done) | (simp [*]; done)), H', ⟨by first | omega | exact Nat.le_refl _⟩, ⟨by exact bk_ BK627⟩, ⟨bw_ HB⟩⟩
      case rest =>
        as_aux_lemma =>
          clear HC9
          try clear c1
          try clear c2
          try clear p2
          try clear c3
          try clear c4
          try clear c4b0
          try clear c4b1
          try clear p6
          try clear c10
          try clear c21
          try clear c21b0
          try clear c21b1
          try clear c22
          try clear c22b0
          try clear c22b1
          try clear c23
          try clear c23b0
          try clear c23b1
          try clear c24
          try clear c24b0
          try clear c24b1
          try clear c26
          try clear c28
          try clear c29
          try clear c29b0
          try clear c29b1
          try clear c29b2
          try clear c30
          try clear c30b0
          try clear c30b1
          try clear hcz11_0
          try clear hcz11_1
          try clear hcz13_0
          try clear hcz13_1
          try clear hcz15_0
          try clear hcz15_1
          try clear hcz17_0
          try clear hcz17_1
          try clear hcz19_0
          try clear hcz19_1
          try clear hfz11_0
          try clear hfz11_1
          try clear hfz13_0
          try clear hfz13_1
          try clear hfz15_0
          try clear hfz15_1
          try clear hfz17_0
          try clear hfz17_1
          try clear hfz19_0
          try clear hfz19_1
          obtain ⟨kq, x96_8, rfl, HA, HJ8, BK627, HB⟩ := hcut
          cases kq with
          | zero => exact absurd HA.out (by simp [withylaw01_NumRounded.j0])
          | succ kj8 =>
            have H := HA.out
            clear HA
            simp only [withylaw01_NumRounded.j0] at H
            by_cases c31 : x96_8 = true
            · subst c31
              have H1 : (some false) = some r := by rw [if_pos rfl] at H; exact H
              clear H
              have H := H1
              clear H1
              obtain rfl := Option.some.inj H
              go_wp2
              go_ret
              exact ⟨by first | rfl | (simp [*] <;> rfl), bw_ HB⟩
            · replace c31 := Bool.eq_false_iff.mpr c31
              subst c31
              have H1 : (if (wrap64 (a0_0 - (wrap64 (t630 * a0_1)))) < 0 then (withylaw01_NumRounded.j1 kj8 (Int.tmod (wrap64 (a1)) 10) t630 t632 true a0_0 a0_1) else (if (wrap64 (a0_0 - (wrap64 (t630 * a0_1)))) ≥ a0_1 then (withylaw01_NumRounded.j1 kj8 (Int.tmod (wrap64 (a1)) 10) t630 t632 true a0_0 a0_1) else (if (wrap64 (2 * (wrap64 (a0_0 - (wrap64 (t630 * a0_1)))))) < a0_1 then (if t634 = t630 then (if (wrap64 (2 * (wrap64 (a0_0 - (wrap64 (t630 * a0_1)))))) > a0_1 then (if t634 = t632 then (if (wrap64 (2 * (wrap64 (a0_0 - (wrap64 (t630 * a0_1)))))) = a0_1 then (withylaw01_NumRounded.j1 kj8 (Int.tmod (wrap64 (a1)) 10) t630 t632 ((Int.tmod t634 2) != 0) a0_0 a0_1) else (withylaw01_NumRounded.j1 kj8 (Int.tmod (wrap64 (a1)) 10) t630 t632 false a0_0 a0_1)) else (withylaw01_NumRounded.j1 kj8 (Int.tmod (wrap64 (a1)) 10) t630 t632 true a0_0 a0_1)) else (if (wrap64 (2 * (wrap64 (a0_0 - (wrap64 (t630 * a0_1)))))) = a0_1 then (withylaw01_NumRounded.j1 kj8 (Int.tmod (wrap64 (a1)) 10) t630 t632 ((Int.tmod t634 2) != 0) a0_0 a0_1) else (withylaw01_NumRounded.j1 kj8 (Int.tmod (wrap64 (a1)) 10) t630 t632 false a0_0 a0_1))) else (withylaw01_NumRounded.j1 kj8 (Int.tmod (wrap64 (a1)) 10) t630 t632 true a0_0 a0_1)) else (if (wrap64 (2 * (wrap64 (a0_0 - (wrap64 (t630 * a0_1)))))) > a0_1 then (if t634 = t632 then (if (wrap64 (2 * (wrap64 (a0_0 - (wrap64 (t630 * a0_1)))))) = a0_1 then (withylaw01_NumRounded.j1 kj8 (Int.tmod (wrap64 (a1)) 10) t630 t632 ((Int.tmod t634 2) != 0) a0_0 a0_1) else (withylaw01_NumRounded.j1 kj8 (Int.tmod (wrap64 (a1)) 10) t630 t632 false a0_0 a0_1)) else (withylaw01_NumRounded.j1 kj8 (Int.tmod (wrap64 (a1)) 10) t630 t632 true a0_0 a0_1)) else (if (wrap64 (2 * (wrap64 (a0_0 - (wrap64 (t630 * a0_1)))))) = a0_1 then (withylaw01_NumRounded.j1 kj8 (Int.tmod (wrap64 (a1)) 10) t630 t632 ((Int.tmod t634 2) != 0) a0_0 a0_1) else (withylaw01_NumRounded.j1 kj8 (Int.tmod (wrap64 (a1)) 10) t630 t632 false a0_0 a0_1)))))) = some r := by rw [if_neg (show ¬ (false = true) by decide)] at H; exact H
              clear H
              have H := H1
              clear H1
              have HC32 := Aside0.mk H
              clear H
              obtain ⟨hcz33_0, hcz33_1, hfz33_0, hfz33_1⟩ := bc2_ BK627
              go_upto_region 11 with (fail)
              go_cut [157] (fun v157 wc => ∃ (kq : Nat) (x157_31 : Bool), v157 = .bool x157_31 ∧ Aside0 (withylaw01_NumRounded.j1 kq (Int.tmod (wrap64 (a1)) 10) t630 t632 x157_31 a0_0 a0_1 = some r) ∧ Aside0 (kq ≤ kj8) ∧ Aside0 (wc.heap[gb627]? = some (.cells #[.int .i64 a0_0, .int .i64 a0_1] 23 (0, 0))) ∧ Aside0 (Below w.heap.size w wc))
              case first =>
                as_aux_lemma =>
                  have H := HC32.out
                  clear HC32
                  by_cases c34 : (wrap64 (a0_0 - (wrap64 (t630 * a0_1)))) < 0
                  · rw [if_pos c34] at H
                    have c34b0 : decide ((wrap64 (a0_0 - (wrap64 (t630 * a0_1)))) < 0) = true := decide_eq_true c34
                    clear c34
                    (first | rw [c34b0] | (simp only [i64_w, i32_w]; rw [c34b0]) | skip)
                    have H' := Aside0.mk H
                    clear H
                    obtain ⟨hcz35_0, hcz35_1, hfz35_0, hfz35_1⟩ := bc2_ BK627
                    go_wp2
                    go_meet
                    case rel => exact ⟨_, (true), (by first | rfl | (simp; done) | (simp [*]; done)), H', ⟨by have := HJ8.out; first | omega | exact Nat.le_refl _⟩, ⟨by exact bk_ BK627⟩, ⟨bw_ HB⟩⟩
                  · rw [if_neg c34] at H
                    have c34b0 : decide ((wrap64 (a0_0 - (wrap64 (t630 * a0_1)))) < 0) = false := decide_eq_false c34
                    clear c34
                    (first | rw [c34b0] | (simp only [i64_w, i32_w]; rw [c34b0]) | skip)
                    by_cases c36 : (wrap64 (a0_0 - (wrap64 (t630 * a0_1)))) ≥ a0_1
                    · rw [if_pos c36] at H
                      have c36b0 : decide (a0_1 ≤ (wrap64 (a0_0 - (wrap64 (t630 * a0_1))))) = true := decide_eq_true c36
                      clear c36
                      have H' := Aside0.mk H
                      clear H
                      obtain ⟨hcz37_0, hcz37_1, hfz37_0, hfz37_1⟩ := bc2_ BK627
                      go_wp2
                      go_meet
                      case rel => exact ⟨_, (true), (by first | rfl | (simp; done) | (simp [*]; done)), H', ⟨by have := HJ8.out; first | omega | exact Nat.le_refl _⟩, ⟨by exact bk_ BK627⟩, ⟨bw_ HB⟩⟩
                    · rw [if_neg c36] at H
                      have c36b0 : decide (a0_1 ≤ (wrap64 (a0_0 - (wrap64 (t630 * a0_1))))) = false := decide_eq_false c36
                      clear c36
                      by_cases c38 : (wrap64 (2 * (wrap64 (a0_0 - (wrap64 (t630 * a0_1)))))) < a0_1
                      · rw [if_pos c38] at H
                        have c38b0 : decide ((wrap64 (2 * (wrap64 (a0_0 - (wrap64 (t630 * a0_1)))))) < a0_1) = true := decide_eq_true c38
                        clear c38
                        by_cases c39 : t634 = t630
                        · rw [if_pos c39] at H
                          have c39b0 : (t634 == t630) = true := beq_iff_eq.mpr c39
                          have c39b1 : (t634 != t630) = false := bne_eq_false_iff_eq.mpr c39
                          clear c39
                          by_cases c40 : (wrap64 (2 * (wrap64 (a0_0 - (wrap64 (t630 * a0_1)))))) > a0_1
                          · rw [if_pos c40] at H
                            have c40b0 : decide (a0_1 < (wrap64 (2 * (wrap64 (a0_0 - (wrap64 (t630 * a0_1))))))) = true := decide_eq_true c40
                            clear c40
                            by_cases c41 : t634 = t632
                            · rw [if_pos c41] at H
                              have c41b0 : (t634 == t632) = true := beq_iff_eq.mpr c41
                              have c41b1 : (t634 != t632) = false := bne_eq_false_iff_eq.mpr c41
                              clear c41
                              by_cases c42 : (wrap64 (2 * (wrap64 (a0_0 - (wrap64 (t630 * a0_1)))))) = a0_1
                              · rw [if_pos c42] at H
                                have c42b0 : ((wrap64 (2 * (wrap64 (a0_0 - (wrap64 (t630 * a0_1)))))) == a0_1) = true := beq_iff_eq.mpr c42
                                have c42b1 : ((wrap64 (2 * (wrap64 (a0_0 - (wrap64 (t630 * a0_1)))))) != a0_1) = false := bne_eq_false_iff_eq.mpr c42
                                clear c42
                                have H' := Aside0.mk H
                                clear H
                                obtain ⟨hcz43_0, hcz43_1, hfz43_0, hfz43_1⟩ := bc2_ BK627
                                go_wp2
                                go_meet
                                case rel => exact ⟨_, (((Int.tmod t634 2) != 0)), (by first | rfl | (simp; done) | (simp [*]; done)), H', ⟨by have := HJ8.out; first | omega | exact Nat.le_refl _⟩, ⟨by exact bk_ BK627⟩, ⟨bw_ HB⟩⟩
                              · rw [if_neg c42] at H
                                have c42b0 : ((wrap64 (2 * (wrap64 (a0_0 - (wrap64 (t630 * a0_1)))))) == a0_1) = false := beq_eq_false_iff_ne.mpr c42
                                have c42b1 : ((wrap64 (2 * (wrap64 (a0_0 - (wrap64 (t630 * a0_1)))))) != a0_1) = true := bne_iff_ne.mpr c42
                                have H' := Aside0.mk H
                                clear H
                                obtain ⟨hcz44_0, hcz44_1, hfz44_0, hfz44_1⟩ := bc2_ BK627
                                go_wp2
                                go_meet
                                case rel => exact ⟨_, (false), (by first | rfl | (simp; done) | (simp [*]; done)), H', ⟨by have := HJ8.out; first | omega | exact Nat.le_refl _⟩, ⟨by exact bk_ BK627⟩, ⟨bw_ HB⟩⟩
                            · rw [if_neg c41] at H
                              have c41b0 : (t634 == t632) = false := beq_eq_false_iff_ne.mpr c41
                              have c41b1 : (t634 != t632) = true := bne_iff_ne.mpr c41
                              have H' := Aside0.mk H
                              clear H
                              obtain ⟨hcz45_0, hcz45_1, hfz45_0, hfz45_1⟩ := bc2_ BK627
                              go_wp2
                              go_meet
                              case rel => exact ⟨_, (true), (by first | rfl | (simp; done) | (simp [*]; done)), H', ⟨by have := HJ8.out; first | omega | exact Nat.le_refl _⟩, ⟨by exact bk_ BK627⟩, ⟨bw_ HB⟩⟩
                          · rw [if_neg c40] at H
                            have c40b0 : decide (a0_1 < (wrap64 (2 * (wrap64 (a0_0 - (wrap64 (t630 * a0_1))))))) = false := decide_eq_false c40
                            clear c40
                            by_cases c46 : (wrap64 (2 * (wrap64 (a0_0 - (wrap64 (t630 * a0_1)))))) = a0_1
                            · rw [if_pos c46] at H
                              have c46b0 : ((wrap64 (2 * (wrap64 (a0_0 - (wrap64 (t630 * a0_1)))))) == a0_1) = true := beq_iff_eq.mpr c46
                              have c46b1 : ((wrap64 (2 * (wrap64 (a0_0 - (wrap64 (t630 * a0_1)))))) != a0_1) = false := bne_eq_false_iff_eq.mpr c46
                              clear c46
                              have H' := Aside0.mk H
                              clear H
                              obtain ⟨hcz47_0, hcz47_1, hfz47_0, hfz47_1⟩ := bc2_ BK627
                              go_wp2
                              go_meet
                              case rel => exact ⟨_, (((Int.tmod t634 2) != 0)), (by first | rfl | (simp; done) | (simp [*]; done)), H', ⟨by have := HJ8.out; first | omega | exact Nat.le_refl _⟩, ⟨by exact bk_ BK627⟩, ⟨bw_ HB⟩⟩
                            · rw [if_neg c46] at H
                              have c46b0 : ((wrap64 (2 * (wrap64 (a0_0 - (wrap64 (t630 * a0_1)))))) == a0_1) = false := beq_eq_false_iff_ne.mpr c46
                              have c46b1 : ((wrap64 (2 * (wrap64 (a0_0 - (wrap64 (t630 * a0_1)))))) != a0_1) = true := bne_iff_ne.mpr c46
                              have H' := Aside0.mk H
                              clear H
                              obtain ⟨hcz48_0, hcz48_1, hfz48_0, hfz48_1⟩ := bc2_ BK627
                              go_wp2
                              go_meet
                              case rel => exact ⟨_, (false), (by first | rfl | (simp; done) | (simp [*]; done)), H', ⟨by have := HJ8.out; first | omega | exact Nat.le_refl _⟩, ⟨by exact bk_ BK627⟩, ⟨bw_ HB⟩⟩
                        · rw [if_neg c39] at H
                          have c39b0 : (t634 == t630) = false := beq_eq_false_iff_ne.mpr c39
                          have c39b1 : (t634 != t630) = true := bne_iff_ne.mpr c39
                          have H' := Aside0.mk H
                          clear H
                          obtain ⟨hcz49_0, hcz49_1, hfz49_0, hfz49_1⟩ := bc2_ BK627
                          go_wp2
                          go_meet
                          case rel => exact ⟨_, (true), (by first | rfl | (simp; done) | (simp [*]; done)), H', ⟨by have := HJ8.out; first | omega | exact Nat.le_refl _⟩, ⟨by exact bk_ BK627⟩, ⟨bw_ HB⟩⟩
                      · rw [if_neg c38] at H
                        have c38b0 : decide ((wrap64 (2 * (wrap64 (a0_0 - (wrap64 (t630 * a0_1)))))) < a0_1) = false := decide_eq_false c38
                        clear c38
                        by_cases c50 : (wrap64 (2 * (wrap64 (a0_0 - (wrap64 (t630 * a0_1)))))) > a0_1
                        · rw [if_pos c50] at H
                          have c50b0 : decide (a0_1 < (wrap64 (2 * (wrap64 (a0_0 - (wrap64 (t630 * a0_1))))))) = true := decide_eq_true c50
                          clear c50
                          by_cases c51 : t634 = t632
                          · rw [if_pos c51] at H
                            have c51b0 : (t634 == t632) = true := beq_iff_eq.mpr c51
                            have c51b1 : (t634 != t632) = false := bne_eq_false_iff_eq.mpr c51
                            clear c51
                            by_cases c52 : (wrap64 (2 * (wrap64 (a0_0 - (wrap64 (t630 * a0_1)))))) = a0_1
                            · rw [if_pos c52] at H
                              have c52b0 : ((wrap64 (2 * (wrap64 (a0_0 - (wrap64 (t630 * a0_1)))))) == a0_1) = true := beq_iff_eq.mpr c52
                              have c52b1 : ((wrap64 (2 * (wrap64 (a0_0 - (wrap64 (t630 * a0_1)))))) != a0_1) = false := bne_eq_false_iff_eq.mpr c52
                              clear c52
                              have H' := Aside0.mk H
                              clear H
                              obtain ⟨hcz53_0, hcz53_1, hfz53_0, hfz53_1⟩ := bc2_ BK627
                              go_wp2
                              go_meet
                              case rel => exact ⟨_, (((Int.tmod t634 2) != 0)), (by first | rfl | (simp; done) | (simp [*]; done)), H', ⟨by have := HJ8.out; first | omega | exact Nat.le_refl _⟩, ⟨by exact bk_ BK627⟩, ⟨bw_ HB⟩⟩
                            · rw [if_neg c52] at H
                              have c52b0 : ((wrap64 (2 * (wrap64 (a0_0 - (wrap64 (t630 * a0_1)))))) == a0_1) = false := beq_eq_false_iff_ne.mpr c52
                              have c52b1 : ((wrap64 (2 * (wrap64 (a0_0 - (wrap64 (t630 * a0_1)))))) != a0_1) = true := bne_iff_ne.mpr c52
                              have H' := Aside0.mk H
                              clear H
                              obtain ⟨hcz54_0, hcz54_1, hfz54_0, hfz54_1⟩ := bc2_ BK627
                              go_wp2
                              go_meet
                              case rel => exact ⟨_, (false), (by first | rfl | (simp; done) | (simp [*]; done)), H', ⟨by have := HJ8.out; first | omega | exact Nat.le_refl _⟩, ⟨by exact bk_ BK627⟩, ⟨bw_ HB⟩⟩
                          · rw [if_neg c51] at H
                            have c51b0 : (t634 == t632) = false := beq_eq_false_iff_ne.mpr c51
                            have c51b1 : (t634 != t632) = true := bne_iff_ne.mpr c51
                            have H' := Aside0.mk H
                            clear H
                            obtain ⟨hcz55_0, hcz55_1, hfz55_0, hfz55_1⟩ := bc2_ BK627
                            go_wp2
                            go_meet
                            case rel => exact ⟨_, (true), (by first | rfl | (simp; done) | (simp [*]; done)), H', ⟨by have := HJ8.out; first | omega | exact Nat.le_refl _⟩, ⟨by exact bk_ BK627⟩, ⟨bw_ HB⟩⟩
                        · rw [if_neg c50] at H
                          have c50b0 : decide (a0_1 < (wrap64 (2 * (wrap64 (a0_0 - (wrap64 (t630 * a0_1))))))) = false := decide_eq_false c50
                          clear c50
                          by_cases c56 : (wrap64 (2 * (wrap64 (a0_0 - (wrap64 (t630 * a0_1)))))) = a0_1
                          · rw [if_pos c56] at H
                            have c56b0 : ((wrap64 (2 * (wrap64 (a0_0 - (wrap64 (t630 * a0_1)))))) == a0_1) = true := beq_iff_eq.mpr c56
                            have c56b1 : ((wrap64 (2 * (wrap64 (a0_0 - (wrap64 (t630 * a0_1)))))) != a0_1) = false := bne_eq_false_iff_eq.mpr c56
                            clear c56
                            have H' := Aside0.mk H
                            clear H
                            obtain ⟨hcz57_0, hcz57_1, hfz57_0, hfz57_1⟩ := bc2_ BK627
                            go_wp2
                            go_meet
                            case rel => exact ⟨_, (((Int.tmod t634 2) != 0)), (by first | rfl | (simp; done) | (simp [*]; done)), H', ⟨by have := HJ8.out; first | omega | exact Nat.le_refl _⟩, ⟨by exact bk_ BK627⟩, ⟨bw_ HB⟩⟩
                          · rw [if_neg c56] at H
                            have c56b0 : ((wrap64 (2 * (wrap64 (a0_0 - (wrap64 (t630 * a0_1)))))) == a0_1) = false := beq_eq_false_iff_ne.mpr c56
                            have c56b1 : ((wrap64 (2 * (wrap64 (a0_0 - (wrap64 (t630 * a0_1)))))) != a0_1) = true := bne_iff_ne.mpr c56
                            have H' := Aside0.mk H
                            clear H
                            obtain ⟨hcz58_0, hcz58_1, hfz58_0, hfz58_1⟩ := bc2_ BK627
                            go_wp2
                            go_meet
                            case rel => exact ⟨_, (false), (by first | rfl | (simp; done) | (simp [*]; done)), H', ⟨by have := HJ8.out; first | omega | exact Nat.le_refl _⟩, ⟨by exact bk_ BK627⟩, ⟨bw_ HB⟩⟩
              case rest =>
                as_aux_lemma =>
                  clear HC32
                  try clear c1
                  try clear c2
                  try clear p2
                  try clear c3
                  try clear c4
                  try clear c4b0
                  try clear c4b1
                  try clear c5
                  try clear p6
                  try clear c10
                  try clear c21
                  try clear c21b0
                  try clear c21b1
                  try clear c22
                  try clear c22b0
                  try clear c22b1
                  try clear c23
                  try clear c23b0
                  try clear c23b1
                  try clear c24
                  try clear c24b0
                  try clear c24b1
                  try clear c26
                  try clear c28
                  try clear c29
                  try clear c29b0
                  try clear c29b1
                  try clear c29b2
                  try clear c30
                  try clear c30b0
                  try clear c30b1
                  try clear c31
                  try clear c33
                  try clear c34
                  try clear c34b0
                  try clear c36
                  try clear c36b0
                  try clear c38
                  try clear c38b0
                  try clear c39
                  try clear c39b0
                  try clear c39b1
                  try clear c40
                  try clear c40b0
                  try clear c41
                  try clear c41b0
                  try clear c41b1
                  try clear c42
                  try clear c42b0
                  try clear c42b1
                  try clear c45
                  try clear c46
                  try clear c46b0
                  try clear c46b1
                  try clear c50
                  try clear c50b0
                  try clear c51
                  try clear c51b0
                  try clear c51b1
                  try clear c52
                  try clear c52b0
                  try clear c52b1
                  try clear c56
                  try clear c56b0
                  try clear c56b1
                  try clear hcz11_0
                  try clear hcz11_1
                  try clear hcz13_0
                  try clear hcz13_1
                  try clear hcz15_0
                  try clear hcz15_1
                  try clear hcz17_0
                  try clear hcz17_1
                  try clear hcz19_0
                  try clear hcz19_1
                  try clear hcz33_0
                  try clear hcz33_1
                  try clear hcz35_0
                  try clear hcz35_1
                  try clear hcz37_0
                  try clear hcz37_1
                  try clear hcz43_0
                  try clear hcz43_1
                  try clear hcz44_0
                  try clear hcz44_1
                  try clear hcz45_0
                  try clear hcz45_1
                  try clear hcz47_0
                  try clear hcz47_1
                  try clear hcz48_0
                  try clear hcz48_1
                  try clear hcz49_0
                  try clear hcz49_1
                  try clear hcz53_0
                  try clear hcz53_1
                  try clear hcz54_0
                  try clear hcz54_1
                  try clear hcz55_0
                  try clear hcz55_1
                  try clear hcz57_0
                  try clear hcz57_1
                  try clear hcz58_0
                  try clear hcz58_1
                  try clear hfz11_0
                  try clear hfz11_1
                  try clear hfz13_0
                  try clear hfz13_1
                  try clear hfz15_0
                  try clear hfz15_1
                  try clear hfz17_0
                  try clear hfz17_1
                  try clear hfz19_0
                  try clear hfz19_1
                  try clear hfz33_0
                  try clear hfz33_1
                  try clear hfz35_0
                  try clear hfz35_1
                  try clear hfz37_0
                  try clear hfz37_1
                  try clear hfz43_0
                  try clear hfz43_1
                  try clear hfz44_0
                  try clear hfz44_1
                  try clear hfz45_0
                  try clear hfz45_1
                  try clear hfz47_0
                  try clear hfz47_1
                  try clear hfz48_0
                  try clear hfz48_1
                  try clear hfz49_0
                  try clear hfz49_1
                  try clear hfz53_0
                  try clear hfz53_1
                  try clear hfz54_0
                  try clear hfz54_1
                  try clear hfz55_0
                  try clear hfz55_1
                  try clear hfz57_0
                  try clear hfz57_1
                  try clear hfz58_0
                  try clear hfz58_1
                  try clear p2
                  try clear p6
                  obtain ⟨kq, x157_31, rfl, HA, HJ31, BK627, HB⟩ := hcut
                  cases kq with
                  | zero => exact absurd HA.out (by simp [withylaw01_NumRounded.j1])
                  | succ kj31 =>
                    have H := HA.out
                    clear HA
                    simp only [withylaw01_NumRounded.j1] at H
                    by_cases c59 : x157_31 = true
                    · subst c59
                      have H1 : (some false) = some r := by rw [if_pos rfl] at H; exact H
                      clear H
                      have H := H1
                      clear H1
                      obtain rfl := Option.some.inj H
                      go_wp2
                      go_ret
                      exact ⟨by first | rfl | (simp [*] <;> rfl), bw_ HB⟩
                    · replace c59 := Bool.eq_false_iff.mpr c59
                      subst c59
                      have H1 : ((num_Decimal.f kj31 a0_0 a0_1 (Int.tmod (wrap64 (a1)) 10)).bind fun bt640 => (if bt640.2 = 0 then ((num_Parse.f kj31 bt640.1).bind fun bt642 => (if bt642.2.2 = 0 then ((num_Sub.f kj31 bt642.1 bt642.2.1 a0_0 a0_1).bind fun bt651 => (if bt651.1 < 0 then (withylaw01_NumRounded.j2 kj31 (Int.tmod (wrap64 (a1)) 10) bt651.2.2 (wrap64 (-bt651.1)) bt651.2.1) else (withylaw01_NumRounded.j2 kj31 (Int.tmod (wrap64 (a1)) 10) bt651.2.2 bt651.1 bt651.2.1))) else (if (Int.tmod (wrap64 (a1)) 10) > 0 then (if bt642.2.2 = 8 then ((withylaw01_summed.f kj31).bind fun t646 => (some t646)) else ((withyref01_In.f t630 (-1000000000) (-999999999)).bind fun t647 => (if t647 = true then ((withylaw01_summed.f kj31).bind fun t648 => (some t648)) else ((withyref01_In.f t632 999999999 1000000000).bind fun t649 => (if t649 = true then ((withylaw01_summed.f kj31).bind fun t650 => (some t650)) else (some false)))))) else (some false)))) else (some false))) = some r := by rw [if_neg (show ¬ (false = true) by decide)] at H; exact H
                      clear H
                      have H := H1
                      clear H1
                      replace H := Option.bind_eq_some_iff.mp H
                      obtain ⟨⟨t640, t641⟩, A600, H⟩ := H
                      replace H : (if t641 = 0 then ((num_Parse.f kj31 t640).bind fun bt642 => (if bt642.2.2 = 0 then ((num_Sub.f kj31 bt642.1 bt642.2.1 a0_0 a0_1).bind fun bt651 => (if bt651.1 < 0 then (withylaw01_NumRounded.j2 kj31 (Int.tmod (wrap64 (a1)) 10) bt651.2.2 (wrap64 (-bt651.1)) bt651.2.1) else (withylaw01_NumRounded.j2 kj31 (Int.tmod (wrap64 (a1)) 10) bt651.2.2 bt651.1 bt651.2.1))) else (if (Int.tmod (wrap64 (a1)) 10) > 0 then (if bt642.2.2 = 8 then ((withylaw01_summed.f kj31).bind fun t646 => (some t646)) else ((withyref01_In.f t630 (-1000000000) (-999999999)).bind fun t647 => (if t647 = true then ((withylaw01_summed.f kj31).bind fun t648 => (some t648)) else ((withyref01_In.f t632 999999999 1000000000).bind fun t649 => (if t649 = true then ((withylaw01_summed.f kj31).bind fun t650 => (some t650)) else (some false)))))) else (some false)))) else (some false)) = some r := H
                      have A60 := Aside0.mk A600
                      clear A600
                      by_cases c61 : t641 = 0
                      · rw [if_pos c61] at H
                        have c61b0 : (t641 == 0) = true := beq_iff_eq.mpr c61
                        have c61b1 : (t641 != 0) = false := bne_eq_false_iff_eq.mpr c61
                        clear c61
                        replace H := Option.bind_eq_some_iff.mp H
                        obtain ⟨⟨t642, t643, t644⟩, A620, H⟩ := H
                        replace H : (if t644 = 0 then ((num_Sub.f kj31 t642 t643 a0_0 a0_1).bind fun bt651 => (if bt651.1 < 0 then (withylaw01_NumRounded.j2 kj31 (Int.tmod (wrap64 (a1)) 10) bt651.2.2 (wrap64 (-bt651.1)) bt651.2.1) else (withylaw01_NumRounded.j2 kj31 (Int.tmod (wrap64 (a1)) 10) bt651.2.2 bt651.1 bt651.2.1))) else (if (Int.tmod (wrap64 (a1)) 10) > 0 then (if t644 = 8 then ((withylaw01_summed.f kj31).bind fun t646 => (some t646)) else ((withyref01_In.f t630 (-1000000000) (-999999999)).bind fun t647 => (if t647 = true then ((withylaw01_summed.f kj31).bind fun t648 => (some t648)) else ((withyref01_In.f t632 999999999 1000000000).bind fun t649 => (if t649 = true then ((withylaw01_summed.f kj31).bind fun t650 => (some t650)) else (some false)))))) else (some false))) = some r := H
                        have A62 := Aside0.mk A620
                        clear A620
                        by_cases c63 : t644 = 0
                        · rw [if_pos c63] at H
                          have c63b0 : (t644 == 0) = true := beq_iff_eq.mpr c63
                          have c63b1 : (t644 != 0) = false := bne_eq_false_iff_eq.mpr c63
                          clear c63
                          replace H := Option.bind_eq_some_iff.mp H
                          obtain ⟨⟨t651, t652, t653⟩, A640, H⟩ := H
                          replace H : (if t651 < 0 then (withylaw01_NumRounded.j2 kj31 (Int.tmod (wrap64 (a1)) 10) t653 (wrap64 (-t651)) t652) else (withylaw01_NumRounded.j2 kj31 (Int.tmod (wrap64 (a1)) 10) t653 t651 t652)) = some r := H
                          have A64 := Aside0.mk A640
                          clear A640
                          have HC65 := Aside0.mk H
                          clear H
                          obtain ⟨hcz66_0, hcz66_1, hfz66_0, hfz66_1⟩ := bc2_ BK627
                          go_upto_if 198 with (first | ((with_reducible refine gate_callee (f := 35) rfl ?_); refine gla_ (some 161) Try.func35 #[.agg #[.int .i64 a0_0, .int .i64 a0_1], .int .i64 (Int.tmod (wrap64 (a1)) 10)] ?_; (with_reducible refine (num_Decimal.calls kj31 a0_0 a0_1 (Int.tmod (wrap64 (a1)) 10) t640 t641 _ A60.out).mono ?_); rintro e w67 ⟨rfl, hb⟩; refine ⟨_, rfl, ?_⟩; replace BK627 := bkb_ BK627 hb; replace HB := bws_ HB hb; (try clear hb); (try clear hb2); (try clear hk); (try clear hi)) | ((with_reducible refine gate_callee (f := 39) rfl ?_); refine gla_ (some 168) Try.func39 #[.string t640] ?_; (with_reducible refine (num_Parse.calls kj31 t640 t642 t643 t644 _ A62.out).mono ?_); rintro e w68 ⟨rfl, hb⟩; refine ⟨_, rfl, ?_⟩; replace BK627 := bkb_ BK627 hb; replace HB := bws_ HB hb; (try clear hb); (try clear hb2); (try clear hk); (try clear hi)) | ((with_reducible refine gate_dst (N := 17) rfl ?_); refine box_event ?hg (N := 17) ?hd (cs := #[.int .i64 0, .int .i64 0]) (t := 23) ?hr ?_; (case hd => rfl); (case hg => rfl); (case hr => first | (go_simp; done) | (go_simp; rfl)); intro gb645 hg w69 hbox hb; have BK645 := Aside0.mk hbox; have GW645 := bwg_ HB hg; have GE645 := bwg_ HB hg; replace HB := bws_ HB hb; have NB627_645 := bkl_ BK627 hg; have NB645_627 := bkr_ BK627 hg; replace BK627 := bkb_ BK627 hb; clear hb hbox hg; have hnb70 := NB645_627.out; have hnc70 := NB627_645.out; obtain ⟨hcz71_0, hcz71_1, hfz71_0, hfz71_1⟩ := bc2_ BK645; obtain ⟨hcz72_0, hcz72_1, hfz72_0, hfz72_1⟩ := bc2_ BK627) | ((with_reducible refine gate_callee (f := 20) rfl ?_); refine gla_ (some 193) Try.func20 #[.agg #[.int .i64 t642, .int .i64 t643], .agg #[.int .i64 a0_0, .int .i64 a0_1]] ?_; (with_reducible refine (num_Sub.calls kj31 t642 t643 a0_0 a0_1 t651 t652 t653 _ A64.out).mono ?_); rintro e w73 ⟨rfl, hb⟩; refine ⟨_, rfl, ?_⟩; replace BK627 := Aside0.mk (blk_below (g := gb627) (o := .cells #[.int .i64 a0_0, .int .i64 a0_1] 23 (0, 0)) (by refine bf_ ?_ NB627_645; refine bf_ ?_ NB627_645; exact bk_ BK627) hb); replace BK645 := Aside0.mk (blk_below (g := gb645) (o := .cells #[.int .i64 t642, .int .i64 t643] 23 (0, 0)) (by refine bp_ (cs := #[.int .i64 t642, .int .i64 0]) ?_ 1; refine bp_ (cs := #[.int .i64 0, .int .i64 0]) ?_ 0; exact bk_ BK645) hb); replace HB := bws_ HB hb; (try clear hb); (try clear hb2); (try clear hk); (try clear hi)) | ((with_reducible refine gate_dst (N := 19) rfl ?_); refine box_event ?hg (N := 19) ?hd (cs := #[.int .i64 0, .int .i64 0]) (t := 23) ?hr ?_; (case hd => rfl); (case hg => rfl); (case hr => first | (go_simp; done) | (go_simp; rfl)); intro gb654 hg w74 hbox hb; have BK654 := Aside0.mk hbox; have GW654 := bwg_ HB hg; have GE654 := bwg_ HB hg; replace HB := bws_ HB hb; have NB627_654 := bkl_ BK627 hg; have NB654_627 := bkr_ BK627 hg; replace BK627 := bkb_ BK627 hb; have NB645_654 := bkl_ BK645 hg; have NB654_645 := bkr_ BK645 hg; replace BK645 := bkb_ BK645 hb; clear hb hbox hg; have hnb75 := NB654_627.out; have hnc75 := NB627_654.out; have hnb76 := NB654_645.out; have hnc76 := NB645_654.out; obtain ⟨hcz77_0, hcz77_1, hfz77_0, hfz77_1⟩ := bc2_ BK654))
                          (try simp only [Act.put, List.setIfInBounds_toArray, List.set_cons_zero, List.set_cons_succ])
                          go_cut [] (fun wc => ∃ (kq : Nat) (x655000_64 : Int), Aside0 (withylaw01_NumRounded.j2 kq (Int.tmod (wrap64 (a1)) 10) t653 x655000_64 t652 = some r) ∧ Aside0 (kq ≤ kj31) ∧ Aside0 (wc.heap[gb627]? = some (.cells #[.int .i64 a0_0, .int .i64 a0_1] 23 (0, 0))) ∧ Aside0 (wc.heap[gb645]? = some (.cells #[.int .i64 t642, .int .i64 t643] 23 (0, 0))) ∧ Aside0 (wc.heap[gb654]? = some (.cells #[.int .i64 x655000_64, .int .i64 t652] 23 (0, 0))) ∧ Aside0 (Below w.heap.size w wc))
                          case first =>
                            as_aux_lemma =>
                              have H := HC65.out
                              clear HC65
                              by_cases c78 : t651 < 0
                              · rw [if_pos c78] at H
                                have c78b0 : decide (t651 < 0) = true := decide_eq_true c78
                                clear c78
                                (first | rw [c78b0] | (simp only [i64_w, i32_w]; rw [c78b0]) | skip)
                                have H' := Aside0.mk H
                                clear H
                                have hnb79 := NB654_627.out
                                have hnc79 := NB627_654.out
                                have hnb80 := NB654_645.out
                                have hnc80 := NB645_654.out
                                obtain ⟨hcz81_0, hcz81_1, hfz81_0, hfz81_1⟩ := bc2_ BK654
                                go_wp2
                                go_meet
                                case rel => exact ⟨_, (wrap64 (-t651)), H', ⟨by have := HJ8.out; have := HJ31.out; first | omega | exact Nat.le_refl _⟩, ⟨by refine bf_ ?_ NB627_654; refine bf_ ?_ NB627_654; refine bf_ ?_ NB627_654; exact bk_ BK627⟩, ⟨by refine bf_ ?_ NB645_654; refine bf_ ?_ NB645_654; refine bf_ ?_ NB645_654; exact bk_ BK645⟩, ⟨by refine bp_ (cs := #[.int .i64 t651, .int .i64 t652]) ?_ 0; refine bp_ (cs := #[.int .i64 t651, .int .i64 0]) ?_ 1; refine bp_ (cs := #[.int .i64 0, .int .i64 0]) ?_ 0; exact bk_ BK654⟩, ⟨bw_ HB⟩⟩
                              · rw [if_neg c78] at H
                                have c78b0 : decide (t651 < 0) = false := decide_eq_false c78
                                clear c78
                                (first | rw [c78b0] | (simp only [i64_w, i32_w]; rw [c78b0]) | skip)
                                have H' := Aside0.mk H
                                clear H
                                go_wp2
                                go_meet
                                case rel => exact ⟨_, (t651), H', ⟨by have := HJ8.out; have := HJ31.out; first | omega | exact Nat.le_refl _⟩, ⟨by refine bf_ ?_ NB627_654; refine bf_ ?_ NB627_654; exact bk_ BK627⟩, ⟨by refine bf_ ?_ NB645_654; refine bf_ ?_ NB645_654; exact bk_ BK645⟩, ⟨by refine bp_ (cs := #[.int .i64 t651, .int .i64 0]) ?_ 1; refine bp_ (cs := #[.int .i64 0, .int .i64 0]) ?_ 0; exact bk_ BK654⟩, ⟨bw_ HB⟩⟩
                          case rest =>
                            as_aux_lemma =>
                              clear HC65
                              try clear c1
                              try clear c2
                              try clear p2
                              try clear c3
                              try clear c4
                              try clear c4b0
                              try clear c4b1
                              try clear c5
                              try clear c6
                              try clear p6
                              try clear c7
                              try clear c8
                              try clear c10
                              try clear c20
                              try clear c21
                              try clear c21b0
                              try clear c21b1
                              try clear c22
                              try clear c22b0
                              try clear c22b1
                              try clear c23
                              try clear c23b0
                              try clear c23b1
                              try clear c24
                              try clear c24b0
                              try clear c24b1
                              try clear c26
                              try clear c28
                              try clear c29
                              try clear c29b0
                              try clear c29b1
                              try clear c29b2
                              try clear c30
                              try clear c30b0
                              try clear c30b1
                              try clear c31
                              try clear c33
                              try clear c34
                              try clear c34b0
                              try clear c35
                              try clear c36
                              try clear c36b0
                              try clear c38
                              try clear c38b0
                              try clear c39
                              try clear c39b0
                              try clear c39b1
                              try clear c40
                              try clear c40b0
                              try clear c41
                              try clear c41b0
                              try clear c41b1
                              try clear c42
                              try clear c42b0
                              try clear c42b1
                              try clear c45
                              try clear c46
                              try clear c46b0
                              try clear c46b1
                              try clear c50
                              try clear c50b0
                              try clear c51
                              try clear c51b0
                              try clear c51b1
                              try clear c52
                              try clear c52b0
                              try clear c52b1
                              try clear c56
                              try clear c56b0
                              try clear c56b1
                              try clear c59
                              try clear c61
                              try clear c61b0
                              try clear c61b1
                              try clear c63
                              try clear c63b0
                              try clear c63b1
                              try clear p64
                              try clear c70
                              try clear c75
                              try clear c76
                              try clear c78
                              try clear c78b0
                              try clear c79
                              try clear c80
                              try clear hcz11_0
                              try clear hcz11_1
                              try clear hcz13_0
                              try clear hcz13_1
                              try clear hcz15_0
                              try clear hcz15_1
                              try clear hcz17_0
                              try clear hcz17_1
                              try clear hcz19_0
                              try clear hcz19_1
                              try clear hcz33_0
                              try clear hcz33_1
                              try clear hcz35_0
                              try clear hcz35_1
                              try clear hcz37_0
                              try clear hcz37_1
                              try clear hcz43_0
                              try clear hcz43_1
                              try clear hcz44_0
                              try clear hcz44_1
                              try clear hcz45_0
                              try clear hcz45_1
                              try clear hcz47_0
                              try clear hcz47_1
                              try clear hcz48_0
                              try clear hcz48_1
                              try clear hcz49_0
                              try clear hcz49_1
                              try clear hcz53_0
                              try clear hcz53_1
                              try clear hcz54_0
                              try clear hcz54_1
                              try clear hcz55_0
                              try clear hcz55_1
                              try clear hcz57_0
                              try clear hcz57_1
                              try clear hcz58_0
                              try clear hcz58_1
                              try clear hcz66_0
                              try clear hcz66_1
                              try clear hcz71_0
                              try clear hcz71_1
                              try clear hcz72_0
                              try clear hcz72_1
                              try clear hcz77_0
                              try clear hcz77_1
                              try clear hcz81_0
                              try clear hcz81_1
                              try clear hfz11_0
                              try clear hfz11_1
                              try clear hfz13_0
                              try clear hfz13_1
                              try clear hfz15_0
                              try clear hfz15_1
                              try clear hfz17_0
                              try clear hfz17_1
                              try clear hfz19_0
                              try clear hfz19_1
                              try clear hfz33_0
                              try clear hfz33_1
                              try clear hfz35_0
                              try clear hfz35_1
                              try clear hfz37_0
                              try clear hfz37_1
                              try clear hfz43_0
                              try clear hfz43_1
                              try clear hfz44_0
                              try clear hfz44_1
                              try clear hfz45_0
                              try clear hfz45_1
                              try clear hfz47_0
                              try clear hfz47_1
                              try clear hfz48_0
                              try clear hfz48_1
                              try clear hfz49_0
                              try clear hfz49_1
                              try clear hfz53_0
                              try clear hfz53_1
                              try clear hfz54_0
                              try clear hfz54_1
                              try clear hfz55_0
                              try clear hfz55_1
                              try clear hfz57_0
                              try clear hfz57_1
                              try clear hfz58_0
                              try clear hfz58_1
                              try clear hfz66_0
                              try clear hfz66_1
                              try clear hfz71_0
                              try clear hfz71_1
                              try clear hfz72_0
                              try clear hfz72_1
                              try clear hfz77_0
                              try clear hfz77_1
                              try clear hfz81_0
                              try clear hfz81_1
                              try clear p2
                              try clear p6
                              obtain ⟨kq, x655000_64, HA, HJ64, BK627, BK645, BK654, HB⟩ := hcut
                              cases kq with
                              | zero => exact absurd HA.out (by simp [withylaw01_NumRounded.j2])
                              | succ kj64 =>
                                have H := HA.out
                                clear HA
                                simp only [withylaw01_NumRounded.j2] at H
                                replace H := Option.bind_eq_some_iff.mp H
                                obtain ⟨⟨t655, t656, t657⟩, A820, H⟩ := H
                                replace H : (withylaw01_NumRounded.l0 kj64 (Int.tmod (wrap64 (a1)) 10) t653 t657 1 0 t655 t656) = some r := H
                                have A82 := Aside0.mk A820
                                clear A820
                                have H' := Aside0.mk H
                                clear H
                                have hnb83 := NB654_627.out
                                have hnc83 := NB627_654.out
                                have hnb84 := NB654_645.out
                                have hnc84 := NB645_654.out
                                obtain ⟨hcz85_0, hcz85_1, hfz85_0, hfz85_1⟩ := bc2_ BK654
                                go_wp2_with (first | ((with_reducible refine gate_callee (f := 19) rfl ?_); refine gla_ (some 206) Try.func19 #[.agg #[.int .i64 x655000_64, .int .i64 t652], .agg #[.int .i64 2, .int .i64 1]] ?_; (with_reducible refine (num_Mul.calls kj64 x655000_64 t652 2 1 t655 t656 t657 _ A82.out).mono ?_); rintro e w86 ⟨rfl, hb⟩; refine ⟨_, rfl, ?_⟩; replace BK627 := bkb_ BK627 hb; replace BK645 := bkb_ BK645 hb; replace BK654 := bkb_ BK654 hb; replace HB := bws_ HB hb; (try clear hb); (try clear hb2); (try clear hk); (try clear hi); obtain ⟨hcz87_0, hcz87_1, hfz87_0, hfz87_1⟩ := bc2_ BK654))
                                go_loopg [22, 23] kj64 (fun kq v22 v23 w' => ∃ (x22_4 : Int) (x23_4 : Int), v22 = .int .i64 x22_4 ∧ v23 = .int .i64 x23_4 ∧ Aside0 (withylaw01_NumRounded.l0 kq (Int.tmod (wrap64 (a1)) 10) t653 t657 x22_4 x23_4 t655 t656 = some r) ∧ Aside0 (kq ≤ kj64) ∧ Aside0 (w'.heap[gb627]? = some (.cells #[.int .i64 a0_0, .int .i64 a0_1] 23 (0, 0))) ∧ Aside0 (w'.heap[gb645]? = some (.cells #[.int .i64 t642, .int .i64 t643] 23 (0, 0))) ∧ Aside0 (w'.heap[gb654]? = some (.cells #[.int .i64 t655, .int .i64 t656] 23 (0, 0))) ∧ Aside0 (Below w.heap.size w w'))
                                case atStart => exact ⟨(1), (0), (by first | rfl | (simp; done) | (simp [*]; done)), (by first | rfl | (simp; done) | (simp [*]; done)), H', ⟨Nat.le_refl _⟩, ⟨by refine bf_ ?_ NB627_654; refine bf_ ?_ NB627_654; exact bk_ BK627⟩, ⟨by refine bf_ ?_ NB645_654; refine bf_ ?_ NB645_654; exact bk_ BK645⟩, ⟨by refine bp_ (cs := #[.int .i64 t655, .int .i64 t652]) ?_ 1; refine bp_ (cs := #[.int .i64 x655000_64, .int .i64 t652]) ?_ 0; exact bk_ BK654⟩, ⟨bw_ HB⟩⟩
                                case round =>
                                  clear H'
                                  try clear c1
                                  try clear c2
                                  try clear p2
                                  try clear c3
                                  try clear c4
                                  try clear c4b0
                                  try clear c4b1
                                  try clear c5
                                  try clear c6
                                  try clear p6
                                  try clear c7
                                  try clear c8
                                  try clear c10
                                  try clear c19
                                  try clear c20
                                  try clear c21
                                  try clear c21b0
                                  try clear c21b1
                                  try clear c22
                                  try clear c22b0
                                  try clear c22b1
                                  try clear c23
                                  try clear c23b0
                                  try clear c23b1
                                  try clear c24
                                  try clear c24b0
                                  try clear c24b1
                                  try clear c26
                                  try clear c28
                                  try clear c29
                                  try clear c29b0
                                  try clear c29b1
                                  try clear c29b2
                                  try clear c30
                                  try clear c30b0
                                  try clear c30b1
                                  try clear c31
                                  try clear c33
                                  try clear c34
                                  try clear c34b0
                                  try clear c35
                                  try clear c36
                                  try clear c36b0
                                  try clear c38
                                  try clear c38b0
                                  try clear c39
                                  try clear c39b0
                                  try clear c39b1
                                  try clear c40
                                  try clear c40b0
                                  try clear c41
                                  try clear c41b0
                                  try clear c41b1
                                  try clear c42
                                  try clear c42b0
                                  try clear c42b1
                                  try clear c45
                                  try clear c46
                                  try clear c46b0
                                  try clear c46b1
                                  try clear c50
                                  try clear c50b0
                                  try clear c51
                                  try clear c51b0
                                  try clear c51b1
                                  try clear c52
                                  try clear c52b0
                                  try clear c52b1
                                  try clear c56
                                  try clear c56b0
                                  try clear c56b1
                                  try clear c59
                                  try clear c61
                                  try clear c61b0
                                  try clear c61b1
                                  try clear c63
                                  try clear c63b0
                                  try clear c63b1
                                  try clear p64
                                  try clear c70
                                  try clear c75
                                  try clear c76
                                  try clear c78
                                  try clear c78b0
                                  try clear c79
                                  try clear c80
                                  try clear c83
                                  try clear c84
                                  try clear hcz11_0
                                  try clear hcz11_1
                                  try clear hcz13_0
                                  try clear hcz13_1
                                  try clear hcz15_0
                                  try clear hcz15_1
                                  try clear hcz17_0
                                  try clear hcz17_1
                                  try clear hcz19_0
                                  try clear hcz19_1
                                  try clear hcz33_0
                                  try clear hcz33_1
                                  try clear hcz35_0
                                  try clear hcz35_1
                                  try clear hcz37_0
                                  try clear hcz37_1
                                  try clear hcz43_0
                                  try clear hcz43_1
                                  try clear hcz44_0
                                  try clear hcz44_1
                                  try clear hcz45_0
                                  try clear hcz45_1
                                  try clear hcz47_0
                                  try clear hcz47_1
                                  try clear hcz48_0
                                  try clear hcz48_1
                                  try clear hcz49_0
                                  try clear hcz49_1
                                  try clear hcz53_0
                                  try clear hcz53_1
                                  try clear hcz54_0
                                  try clear hcz54_1
                                  try clear hcz55_0
                                  try clear hcz55_1
                                  try clear hcz57_0
                                  try clear hcz57_1
                                  try clear hcz58_0
                                  try clear hcz58_1
                                  try clear hcz66_0
                                  try clear hcz66_1
                                  try clear hcz71_0
                                  try clear hcz71_1
                                  try clear hcz72_0
                                  try clear hcz72_1
                                  try clear hcz77_0
                                  try clear hcz77_1
                                  try clear hcz81_0
                                  try clear hcz81_1
                                  try clear hcz85_0
                                  try clear hcz85_1
                                  try clear hcz87_0
                                  try clear hcz87_1
                                  try clear hfz11_0
                                  try clear hfz11_1
                                  try clear hfz13_0
                                  try clear hfz13_1
                                  try clear hfz15_0
                                  try clear hfz15_1
                                  try clear hfz17_0
                                  try clear hfz17_1
                                  try clear hfz19_0
                                  try clear hfz19_1
                                  try clear hfz33_0
                                  try clear hfz33_1
                                  try clear hfz35_0
                                  try clear hfz35_1
                                  try clear hfz37_0
                                  try clear hfz37_1
                                  try clear hfz43_0
                                  try clear hfz43_1
                                  try clear hfz44_0
                                  try clear hfz44_1
                                  try clear hfz45_0
                                  try clear hfz45_1
                                  try clear hfz47_0
                                  try clear hfz47_1
                                  try clear hfz48_0
                                  try clear hfz48_1
                                  try clear hfz49_0
                                  try clear hfz49_1
                                  try clear hfz53_0
                                  try clear hfz53_1
                                  try clear hfz54_0
                                  try clear hfz54_1
                                  try clear hfz55_0
                                  try clear hfz55_1
                                  try clear hfz57_0
                                  try clear hfz57_1
                                  try clear hfz58_0
                                  try clear hfz58_1
                                  try clear hfz66_0
                                  try clear hfz66_1
                                  try clear hfz71_0
                                  try clear hfz71_1
                                  try clear hfz72_0
                                  try clear hfz72_1
                                  try clear hfz77_0
                                  try clear hfz77_1
                                  try clear hfz81_0
                                  try clear hfz81_1
                                  try clear hfz85_0
                                  try clear hfz85_1
                                  try clear hfz87_0
                                  try clear hfz87_1
                                  try clear p2
                                  try clear p6
                                  try clear p64
                                  obtain ⟨x22_4, x23_4, rfl, rfl, HA, HK4, BK627, BK645, BK654, HB⟩ := hrel
                                  cases gk with
                                  | zero => exact absurd HA.out (by simp [withylaw01_NumRounded.l0])
                                  | succ k4 =>
                                    have H := HA.out
                                    clear HA
                                    simp only [withylaw01_NumRounded.l0] at H
                                    by_cases c88 : x23_4 < (Int.tmod (wrap64 (a1)) 10)
                                    · rw [if_pos c88] at H
                                      have c88b0 : decide (x23_4 < (Int.tmod (wrap64 (a1)) 10)) = true := decide_eq_true c88
                                      clear c88
                                      have H' := Aside0.mk H
                                      clear H
                                      go_wp2
                                      go_roundg k4
                                      case measure => have := HJ8.out; have := HJ31.out; have := HJ64.out; have := HK4.out; omega
                                      case rel => exact ⟨(wrap64 (10 * x22_4)), (wrap64 (x23_4 + 1)), (by first | rfl | (simp; done) | (simp [*]; done)), (by first | rfl | (simp; done) | (simp [*]; done)), H', ⟨by have := HJ8.out; have := HJ31.out; have := HJ64.out; have := HK4.out; omega⟩, ⟨by exact bk_ BK627⟩, ⟨by exact bk_ BK645⟩, ⟨by exact bk_ BK654⟩, ⟨bw_ HB⟩⟩
                                    · rw [if_neg c88] at H
                                      have c88b0 : decide (x23_4 < (Int.tmod (wrap64 (a1)) 10)) = false := decide_eq_false c88
                                      clear c88
                                      replace H := Option.bind_eq_some_iff.mp H
                                      obtain ⟨⟨t658, t659⟩, A890, H⟩ := H
                                      replace H : (if t653 = 0 then (if t657 = 0 then (if t659 = 0 then (if t658 ≤ 0 then ((withylaw01_summed.f k4).bind fun t660 => (some t660)) else (some false)) else (some false)) else ((withylaw01_summed.f k4).bind fun t661 => (some t661))) else ((withylaw01_summed.f k4).bind fun t662 => (some t662))) = some r := H
                                      have A89 := Aside0.mk A890
                                      clear A890
                                      by_cases c90 : t653 = 0
                                      · rw [if_pos c90] at H
                                        have c90b0 : (t653 == 0) = true := beq_iff_eq.mpr c90
                                        have c90b1 : (t653 != 0) = false := bne_eq_false_iff_eq.mpr c90
                                        clear c90
                                        by_cases c91 : t657 = 0
                                        · rw [if_pos c91] at H
                                          have c91b0 : (t657 == 0) = true := beq_iff_eq.mpr c91
                                          have c91b1 : (t657 != 0) = false := bne_eq_false_iff_eq.mpr c91
                                          clear c91
                                          by_cases c92 : t659 = 0
                                          · rw [if_pos c92] at H
                                            have c92b0 : (t659 == 0) = true := beq_iff_eq.mpr c92
                                            have c92b1 : (t659 != 0) = false := bne_eq_false_iff_eq.mpr c92
                                            clear c92
                                            by_cases c93 : t658 ≤ 0
                                            · rw [if_pos c93] at H
                                              have c93b0 : decide (t658 ≤ 0) = true := decide_eq_true c93
                                              clear c93
                                              replace H := Option.bind_eq_some_iff.mp H
                                              obtain ⟨t660, A940, H⟩ := H
                                              replace H : (some t660) = some r := H
                                              have A94 := Aside0.mk A940
                                              clear A940
                                              obtain rfl := Option.some.inj H
                                              have hnb95 := NB654_627.out
                                              have hnc95 := NB627_654.out
                                              have hnb96 := NB654_645.out
                                              have hnc96 := NB645_654.out
                                              obtain ⟨hcz97_0, hcz97_1, hfz97_0, hfz97_1⟩ := bc2_ BK654
                                              go_wp2_with (first | ((with_reducible refine gate_callee (f := 26) rfl ?_); refine gla_ (some 220) Try.func26 #[.agg #[.int .i64 t655, .int .i64 t656], .agg #[.int .i64 1, .int .i64 x22_4]] ?_; (with_reducible refine (num_Cmp.calls k4 t655 t656 1 x22_4 t658 t659 _ A89.out).mono ?_); rintro e w98 ⟨rfl, hb⟩; refine ⟨_, rfl, ?_⟩; replace BK627 := bkb_ BK627 hb; replace BK645 := bkb_ BK645 hb; replace BK654 := bkb_ BK654 hb; replace HB := bws_ HB hb; (try clear hb); (try clear hb2); (try clear hk); (try clear hi)) | (go_at_call 17; (with_reducible refine (withylaw01_summed.calls k4  t660 _ A94.out).mono ?_); rintro e w99 ⟨rfl, hb⟩; replace BK627 := bkb_ BK627 hb; replace BK645 := bkb_ BK645 hb; replace BK654 := bkb_ BK654 hb; replace HB := bws_ HB hb; (try clear hb); (try clear hb2); (try clear hk); (try clear hi)))
                                              go_ret
                                              exact ⟨by first | rfl | (simp [*] <;> rfl), bw_ HB⟩
                                            · rw [if_neg c93] at H
                                              have c93b0 : decide (t658 ≤ 0) = false := decide_eq_false c93
                                              clear c93
                                              obtain rfl := Option.some.inj H
                                              have hnb100 := NB654_627.out
                                              have hnc100 := NB627_654.out
                                              have hnb101 := NB654_645.out
                                              have hnc101 := NB645_654.out
                                              obtain ⟨hcz102_0, hcz102_1, hfz102_0, hfz102_1⟩ := bc2_ BK654
                                              go_wp2_with (first | ((with_reducible refine gate_callee (f := 26) rfl ?_); refine gla_ (some 220) Try.func26 #[.agg #[.int .i64 t655, .int .i64 t656], .agg #[.int .i64 1, .int .i64 x22_4]] ?_; (with_reducible refine (num_Cmp.calls k4 t655 t656 1 x22_4 t658 t659 _ A89.out).mono ?_); rintro e w103 ⟨rfl, hb⟩; refine ⟨_, rfl, ?_⟩; replace BK627 := bkb_ BK627 hb; replace BK645 := bkb_ BK645 hb; replace BK654 := bkb_ BK654 hb; replace HB := bws_ HB hb; (try clear hb); (try clear hb2); (try clear hk); (try clear hi)))
                                              go_ret
                                              exact ⟨by first | rfl | (simp [*] <;> rfl), bw_ HB⟩
                                          · rw [if_neg c92] at H
                                            have c92b0 : (t659 == 0) = false := beq_eq_false_iff_ne.mpr c92
                                            have c92b1 : (t659 != 0) = true := bne_iff_ne.mpr c92
                                            obtain rfl := Option.some.inj H
                                            have hnb104 := NB654_627.out
                                            have hnc104 := NB627_654.out
                                            have hnb105 := NB654_645.out
                                            have hnc105 := NB645_654.out
                                            obtain ⟨hcz106_0, hcz106_1, hfz106_0, hfz106_1⟩ := bc2_ BK654
                                            go_wp2_with (first | ((with_reducible refine gate_callee (f := 26) rfl ?_); refine gla_ (some 220) Try.func26 #[.agg #[.int .i64 t655, .int .i64 t656], .agg #[.int .i64 1, .int .i64 x22_4]] ?_; (with_reducible refine (num_Cmp.calls k4 t655 t656 1 x22_4 t658 t659 _ A89.out).mono ?_); rintro e w107 ⟨rfl, hb⟩; refine ⟨_, rfl, ?_⟩; replace BK627 := bkb_ BK627 hb; replace BK645 := bkb_ BK645 hb; replace BK654 := bkb_ BK654 hb; replace HB := bws_ HB hb; (try clear hb); (try clear hb2); (try clear hk); (try clear hi)))
                                            go_ret
                                            exact ⟨by first | rfl | (simp [*] <;> rfl), bw_ HB⟩
                                        · rw [if_neg c91] at H
                                          have c91b0 : (t657 == 0) = false := beq_eq_false_iff_ne.mpr c91
                                          have c91b1 : (t657 != 0) = true := bne_iff_ne.mpr c91
                                          replace H := Option.bind_eq_some_iff.mp H
                                          obtain ⟨t661, A1080, H⟩ := H
                                          replace H : (some t661) = some r := H
                                          have A108 := Aside0.mk A1080
                                          clear A1080
                                          obtain rfl := Option.some.inj H
                                          have hnb109 := NB654_627.out
                                          have hnc109 := NB627_654.out
                                          have hnb110 := NB654_645.out
                                          have hnc110 := NB645_654.out
                                          obtain ⟨hcz111_0, hcz111_1, hfz111_0, hfz111_1⟩ := bc2_ BK654
                                          go_wp2_with (first | ((with_reducible refine gate_callee (f := 26) rfl ?_); refine gla_ (some 220) Try.func26 #[.agg #[.int .i64 t655, .int .i64 t656], .agg #[.int .i64 1, .int .i64 x22_4]] ?_; (with_reducible refine (num_Cmp.calls k4 t655 t656 1 x22_4 t658 t659 _ A89.out).mono ?_); rintro e w112 ⟨rfl, hb⟩; refine ⟨_, rfl, ?_⟩; replace BK627 := bkb_ BK627 hb; replace BK645 := bkb_ BK645 hb; replace BK654 := bkb_ BK654 hb; replace HB := bws_ HB hb; (try clear hb); (try clear hb2); (try clear hk); (try clear hi)) | (go_at_call 17; (with_reducible refine (withylaw01_summed.calls k4  t661 _ A108.out).mono ?_); rintro e w113 ⟨rfl, hb⟩; replace BK627 := bkb_ BK627 hb; replace BK645 := bkb_ BK645 hb; replace BK654 := bkb_ BK654 hb; replace HB := bws_ HB hb; (try clear hb); (try clear hb2); (try clear hk); (try clear hi)))
                                          go_ret
                                          exact ⟨by first | rfl | (simp [*] <;> rfl), bw_ HB⟩
                                      · rw [if_neg c90] at H
                                        have c90b0 : (t653 == 0) = false := beq_eq_false_iff_ne.mpr c90
                                        have c90b1 : (t653 != 0) = true := bne_iff_ne.mpr c90
                                        replace H := Option.bind_eq_some_iff.mp H
                                        obtain ⟨t662, A1140, H⟩ := H
                                        replace H : (some t662) = some r := H
                                        have A114 := Aside0.mk A1140
                                        clear A1140
                                        obtain rfl := Option.some.inj H
                                        have hnb115 := NB654_627.out
                                        have hnc115 := NB627_654.out
                                        have hnb116 := NB654_645.out
                                        have hnc116 := NB645_654.out
                                        obtain ⟨hcz117_0, hcz117_1, hfz117_0, hfz117_1⟩ := bc2_ BK654
                                        go_wp2_with (first | ((with_reducible refine gate_callee (f := 26) rfl ?_); refine gla_ (some 220) Try.func26 #[.agg #[.int .i64 t655, .int .i64 t656], .agg #[.int .i64 1, .int .i64 x22_4]] ?_; (with_reducible refine (num_Cmp.calls k4 t655 t656 1 x22_4 t658 t659 _ A89.out).mono ?_); rintro e w118 ⟨rfl, hb⟩; refine ⟨_, rfl, ?_⟩; replace BK627 := bkb_ BK627 hb; replace BK645 := bkb_ BK645 hb; replace BK654 := bkb_ BK654 hb; replace HB := bws_ HB hb; (try clear hb); (try clear hb2); (try clear hk); (try clear hi)) | (go_at_call 17; (with_reducible refine (withylaw01_summed.calls k4  t662 _ A114.out).mono ?_); rintro e w119 ⟨rfl, hb⟩; replace BK627 := bkb_ BK627 hb; replace BK645 := bkb_ BK645 hb; replace BK654 := bkb_ BK654 hb; replace HB := bws_ HB hb; (try clear hb); (try clear hb2); (try clear hk); (try clear hi)))
                                        go_ret
                                        exact ⟨by first | rfl | (simp [*] <;> rfl), bw_ HB⟩
                        · rw [if_neg c63] at H
                          have c63b0 : (t644 == 0) = false := beq_eq_false_iff_ne.mpr c63
                          have c63b1 : (t644 != 0) = true := bne_iff_ne.mpr c63
                          by_cases c120 : (Int.tmod (wrap64 (a1)) 10) > 0
                          · rw [if_pos c120] at H
                            have c120b0 : decide (0 < (Int.tmod (wrap64 (a1)) 10)) = true := decide_eq_true c120
                            clear c120
                            by_cases c121 : t644 = 8
                            · rw [if_pos c121] at H
                              have c121b0 : (t644 == 8) = true := beq_iff_eq.mpr c121
                              have c121b1 : (t644 != 8) = false := bne_eq_false_iff_eq.mpr c121
                              clear c121
                              replace H := Option.bind_eq_some_iff.mp H
                              obtain ⟨t646, A1220, H⟩ := H
                              replace H : (some t646) = some r := H
                              have A122 := Aside0.mk A1220
                              clear A1220
                              obtain rfl := Option.some.inj H
                              obtain ⟨hcz123_0, hcz123_1, hfz123_0, hfz123_1⟩ := bc2_ BK627
                              go_wp2_with (first | ((with_reducible refine gate_callee (f := 35) rfl ?_); refine gla_ (some 161) Try.func35 #[.agg #[.int .i64 a0_0, .int .i64 a0_1], .int .i64 (Int.tmod (wrap64 (a1)) 10)] ?_; (with_reducible refine (num_Decimal.calls kj31 a0_0 a0_1 (Int.tmod (wrap64 (a1)) 10) t640 t641 _ A60.out).mono ?_); rintro e w124 ⟨rfl, hb⟩; refine ⟨_, rfl, ?_⟩; replace BK627 := bkb_ BK627 hb; replace HB := bws_ HB hb; (try clear hb); (try clear hb2); (try clear hk); (try clear hi)) | ((with_reducible refine gate_callee (f := 39) rfl ?_); refine gla_ (some 168) Try.func39 #[.string t640] ?_; (with_reducible refine (num_Parse.calls kj31 t640 t642 t643 t644 _ A62.out).mono ?_); rintro e w125 ⟨rfl, hb⟩; refine ⟨_, rfl, ?_⟩; replace BK627 := bkb_ BK627 hb; replace HB := bws_ HB hb; (try clear hb); (try clear hb2); (try clear hk); (try clear hi)) | ((with_reducible refine gate_dst (N := 17) rfl ?_); refine box_event ?hg (N := 17) ?hd (cs := #[.int .i64 0, .int .i64 0]) (t := 23) ?hr ?_; (case hd => rfl); (case hg => rfl); (case hr => first | (go_simp; done) | (go_simp; rfl)); intro gb645 hg w126 hbox hb; have BK645 := Aside0.mk hbox; have GW645 := bwg_ HB hg; have GE645 := bwg_ HB hg; replace HB := bws_ HB hb; have NB627_645 := bkl_ BK627 hg; have NB645_627 := bkr_ BK627 hg; replace BK627 := bkb_ BK627 hb; clear hb hbox hg; have hnb127 := NB645_627.out; have hnc127 := NB627_645.out; obtain ⟨hcz128_0, hcz128_1, hfz128_0, hfz128_1⟩ := bc2_ BK645) | (go_at_call 17; (with_reducible refine (withylaw01_summed.calls kj31  t646 _ A122.out).mono ?_); rintro e w129 ⟨rfl, hb⟩; replace BK627 := Aside0.mk (blk_below (g := gb627) (o := .cells #[.int .i64 a0_0, .int .i64 a0_1] 23 (0, 0)) (by refine bf_ ?_ NB627_645; refine bf_ ?_ NB627_645; exact bk_ BK627) hb); replace BK645 := Aside0.mk (blk_below (g := gb645) (o := .cells #[.int .i64 t642, .int .i64 t643] 23 (0, 0)) (by refine bp_ (cs := #[.int .i64 t642, .int .i64 0]) ?_ 1; refine bp_ (cs := #[.int .i64 0, .int .i64 0]) ?_ 0; exact bk_ BK645) hb); replace HB := bws_ HB hb; (try clear hb); (try clear hb2); (try clear hk); (try clear hi)))
                              go_ret
                              exact ⟨by first | rfl | (simp [*] <;> rfl), bw_ HB⟩
                            · rw [if_neg c121] at H
                              have c121b0 : (t644 == 8) = false := beq_eq_false_iff_ne.mpr c121
                              have c121b1 : (t644 != 8) = true := bne_iff_ne.mpr c121
                              replace H := Option.bind_eq_some_iff.mp H
                              obtain ⟨t647, A1300, H⟩ := H
                              replace H : (if t647 = true then ((withylaw01_summed.f kj31).bind fun t648 => (some t648)) else ((withyref01_In.f t632 999999999 1000000000).bind fun t649 => (if t649 = true then ((withylaw01_summed.f kj31).bind fun t650 => (some t650)) else (some false)))) = some r := H
                              have A130 := Aside0.mk A1300
                              clear A1300
                              by_cases c131 : t647 = true
                              · subst c131
                                have H1 : ((withylaw01_summed.f kj31).bind fun t648 => (some t648)) = some r := by rw [if_pos rfl] at H; exact H
                                clear H
                                have H := H1
                                clear H1
                                replace H := Option.bind_eq_some_iff.mp H
                                obtain ⟨t648, A1320, H⟩ := H
                                replace H : (some t648) = some r := H
                                have A132 := Aside0.mk A1320
                                clear A1320
                                obtain rfl := Option.some.inj H
                                obtain ⟨hcz133_0, hcz133_1, hfz133_0, hfz133_1⟩ := bc2_ BK627
                                go_wp2_with (first | ((with_reducible refine gate_callee (f := 35) rfl ?_); refine gla_ (some 161) Try.func35 #[.agg #[.int .i64 a0_0, .int .i64 a0_1], .int .i64 (Int.tmod (wrap64 (a1)) 10)] ?_; (with_reducible refine (num_Decimal.calls kj31 a0_0 a0_1 (Int.tmod (wrap64 (a1)) 10) t640 t641 _ A60.out).mono ?_); rintro e w134 ⟨rfl, hb⟩; refine ⟨_, rfl, ?_⟩; replace BK627 := bkb_ BK627 hb; replace HB := bws_ HB hb; (try clear hb); (try clear hb2); (try clear hk); (try clear hi)) | ((with_reducible refine gate_callee (f := 39) rfl ?_); refine gla_ (some 168) Try.func39 #[.string t640] ?_; (with_reducible refine (num_Parse.calls kj31 t640 t642 t643 t644 _ A62.out).mono ?_); rintro e w135 ⟨rfl, hb⟩; refine ⟨_, rfl, ?_⟩; replace BK627 := bkb_ BK627 hb; replace HB := bws_ HB hb; (try clear hb); (try clear hb2); (try clear hk); (try clear hi)) | ((with_reducible refine gate_dst (N := 17) rfl ?_); refine box_event ?hg (N := 17) ?hd (cs := #[.int .i64 0, .int .i64 0]) (t := 23) ?hr ?_; (case hd => rfl); (case hg => rfl); (case hr => first | (go_simp; done) | (go_simp; rfl)); intro gb645 hg w136 hbox hb; have BK645 := Aside0.mk hbox; have GW645 := bwg_ HB hg; have GE645 := bwg_ HB hg; replace HB := bws_ HB hb; have NB627_645 := bkl_ BK627 hg; have NB645_627 := bkr_ BK627 hg; replace BK627 := bkb_ BK627 hb; clear hb hbox hg; have hnb137 := NB645_627.out; have hnc137 := NB627_645.out; obtain ⟨hcz138_0, hcz138_1, hfz138_0, hfz138_1⟩ := bc2_ BK645) | (go_at_call 42; (with_reducible refine (withyref01_In.calls t630 (-1000000000) (-999999999) true _ A130.out).mono ?_); rintro e w' ⟨rfl, ⟨nd, rfl⟩⟩) | (go_at_call 17; (with_reducible refine (withylaw01_summed.calls kj31  t648 _ A132.out).mono ?_); rintro e w139 ⟨rfl, hb⟩; replace BK627 := Aside0.mk (blk_below (g := gb627) (o := .cells #[.int .i64 a0_0, .int .i64 a0_1] 23 (0, 0)) (by refine bf_ ?_ NB627_645; refine bf_ ?_ NB627_645; exact bk_ BK627) hb); replace BK645 := Aside0.mk (blk_below (g := gb645) (o := .cells #[.int .i64 t642, .int .i64 t643] 23 (0, 0)) (by refine bp_ (cs := #[.int .i64 t642, .int .i64 0]) ?_ 1; refine bp_ (cs := #[.int .i64 0, .int .i64 0]) ?_ 0; exact bk_ BK645) hb); replace HB := bws_ HB hb; (try clear hb); (try clear hb2); (try clear hk); (try clear hi)))
                                go_ret
                                exact ⟨by first | rfl | (simp [*] <;> rfl), bw_ HB⟩
                              · replace c131 := Bool.eq_false_iff.mpr c131
                                subst c131
                                have H1 : ((withyref01_In.f t632 999999999 1000000000).bind fun t649 => (if t649 = true then ((withylaw01_summed.f kj31).bind fun t650 => (some t650)) else (some false))) = some r := by rw [if_neg (show ¬ (false = true) by decide)] at H; exact H
                                clear H
                                have H := H1
                                clear H1
                                replace H := Option.bind_eq_some_iff.mp H
                                obtain ⟨t649, A1400, H⟩ := H
                                replace H : (if t649 = true then ((withylaw01_summed.f kj31).bind fun t650 => (some t650)) else (some false)) = some r := H
                                have A140 := Aside0.mk A1400
                                clear A1400
                                by_cases c141 : t649 = true
                                · subst c141
                                  have H1 : ((withylaw01_summed.f kj31).bind fun t650 => (some t650)) = some r := by rw [if_pos rfl] at H; exact H
                                  clear H
                                  have H := H1
                                  clear H1
                                  replace H := Option.bind_eq_some_iff.mp H
                                  obtain ⟨t650, A1420, H⟩ := H
                                  replace H : (some t650) = some r := H
                                  have A142 := Aside0.mk A1420
                                  clear A1420
                                  obtain rfl := Option.some.inj H
                                  obtain ⟨hcz143_0, hcz143_1, hfz143_0, hfz143_1⟩ := bc2_ BK627
                                  go_wp2_with (first | ((with_reducible refine gate_callee (f := 35) rfl ?_); refine gla_ (some 161) Try.func35 #[.agg #[.int .i64 a0_0, .int .i64 a0_1], .int .i64 (Int.tmod (wrap64 (a1)) 10)] ?_; (with_reducible refine (num_Decimal.calls kj31 a0_0 a0_1 (Int.tmod (wrap64 (a1)) 10) t640 t641 _ A60.out).mono ?_); rintro e w144 ⟨rfl, hb⟩; refine ⟨_, rfl, ?_⟩; replace BK627 := bkb_ BK627 hb; replace HB := bws_ HB hb; (try clear hb); (try clear hb2); (try clear hk); (try clear hi)) | ((with_reducible refine gate_callee (f := 39) rfl ?_); refine gla_ (some 168) Try.func39 #[.string t640] ?_; (with_reducible refine (num_Parse.calls kj31 t640 t642 t643 t644 _ A62.out).mono ?_); rintro e w145 ⟨rfl, hb⟩; refine ⟨_, rfl, ?_⟩; replace BK627 := bkb_ BK627 hb; replace HB := bws_ HB hb; (try clear hb); (try clear hb2); (try clear hk); (try clear hi)) | ((with_reducible refine gate_dst (N := 17) rfl ?_); refine box_event ?hg (N := 17) ?hd (cs := #[.int .i64 0, .int .i64 0]) (t := 23) ?hr ?_; (case hd => rfl); (case hg => rfl); (case hr => first | (go_simp; done) | (go_simp; rfl)); intro gb645 hg w146 hbox hb; have BK645 := Aside0.mk hbox; have GW645 := bwg_ HB hg; have GE645 := bwg_ HB hg; replace HB := bws_ HB hb; have NB627_645 := bkl_ BK627 hg; have NB645_627 := bkr_ BK627 hg; replace BK627 := bkb_ BK627 hb; clear hb hbox hg; have hnb147 := NB645_627.out; have hnc147 := NB627_645.out; obtain ⟨hcz148_0, hcz148_1, hfz148_0, hfz148_1⟩ := bc2_ BK645) | (go_at_call 42; (with_reducible refine (withyref01_In.calls t630 (-1000000000) (-999999999) false _ A130.out).mono ?_); rintro e w' ⟨rfl, ⟨nd, rfl⟩⟩) | (go_at_call 42; (with_reducible refine (withyref01_In.calls t632 999999999 1000000000 true _ A140.out).mono ?_); rintro e w' ⟨rfl, ⟨nd, rfl⟩⟩) | (go_at_call 17; (with_reducible refine (withylaw01_summed.calls kj31  t650 _ A142.out).mono ?_); rintro e w149 ⟨rfl, hb⟩; replace BK627 := Aside0.mk (blk_below (g := gb627) (o := .cells #[.int .i64 a0_0, .int .i64 a0_1] 23 (0, 0)) (by refine bf_ ?_ NB627_645; refine bf_ ?_ NB627_645; exact bk_ BK627) hb); replace BK645 := Aside0.mk (blk_below (g := gb645) (o := .cells #[.int .i64 t642, .int .i64 t643] 23 (0, 0)) (by refine bp_ (cs := #[.int .i64 t642, .int .i64 0]) ?_ 1; refine bp_ (cs := #[.int .i64 0, .int .i64 0]) ?_ 0; exact bk_ BK645) hb); replace HB := bws_ HB hb; (try clear hb); (try clear hb2); (try clear hk); (try clear hi)))
                                  go_ret
                                  exact ⟨by first | rfl | (simp [*] <;> rfl), bw_ HB⟩
                                · replace c141 := Bool.eq_false_iff.mpr c141
                                  subst c141
                                  have H1 : (some false) = some r := by rw [if_neg (show ¬ (false = true) by decide)] at H; exact H
                                  clear H
                                  have H := H1
                                  clear H1
                                  obtain rfl := Option.some.inj H
                                  obtain ⟨hcz150_0, hcz150_1, hfz150_0, hfz150_1⟩ := bc2_ BK627
                                  go_wp2_with (first | ((with_reducible refine gate_callee (f := 35) rfl ?_); refine gla_ (some 161) Try.func35 #[.agg #[.int .i64 a0_0, .int .i64 a0_1], .int .i64 (Int.tmod (wrap64 (a1)) 10)] ?_; (with_reducible refine (num_Decimal.calls kj31 a0_0 a0_1 (Int.tmod (wrap64 (a1)) 10) t640 t641 _ A60.out).mono ?_); rintro e w151 ⟨rfl, hb⟩; refine ⟨_, rfl, ?_⟩; replace BK627 := bkb_ BK627 hb; replace HB := bws_ HB hb; (try clear hb); (try clear hb2); (try clear hk); (try clear hi)) | ((with_reducible refine gate_callee (f := 39) rfl ?_); refine gla_ (some 168) Try.func39 #[.string t640] ?_; (with_reducible refine (num_Parse.calls kj31 t640 t642 t643 t644 _ A62.out).mono ?_); rintro e w152 ⟨rfl, hb⟩; refine ⟨_, rfl, ?_⟩; replace BK627 := bkb_ BK627 hb; replace HB := bws_ HB hb; (try clear hb); (try clear hb2); (try clear hk); (try clear hi)) | ((with_reducible refine gate_dst (N := 17) rfl ?_); refine box_event ?hg (N := 17) ?hd (cs := #[.int .i64 0, .int .i64 0]) (t := 23) ?hr ?_; (case hd => rfl); (case hg => rfl); (case hr => first | (go_simp; done) | (go_simp; rfl)); intro gb645 hg w153 hbox hb; have BK645 := Aside0.mk hbox; have GW645 := bwg_ HB hg; have GE645 := bwg_ HB hg; replace HB := bws_ HB hb; have NB627_645 := bkl_ BK627 hg; have NB645_627 := bkr_ BK627 hg; replace BK627 := bkb_ BK627 hb; clear hb hbox hg; have hnb154 := NB645_627.out; have hnc154 := NB627_645.out; obtain ⟨hcz155_0, hcz155_1, hfz155_0, hfz155_1⟩ := bc2_ BK645) | (go_at_call 42; (with_reducible refine (withyref01_In.calls t630 (-1000000000) (-999999999) false _ A130.out).mono ?_); rintro e w' ⟨rfl, ⟨nd, rfl⟩⟩) | (go_at_call 42; (with_reducible refine (withyref01_In.calls t632 999999999 1000000000 false _ A140.out).mono ?_); rintro e w' ⟨rfl, ⟨nd, rfl⟩⟩))
                                  go_ret
                                  exact ⟨by first | rfl | (simp [*] <;> rfl), bw_ HB⟩
                          · rw [if_neg c120] at H
                            have c120b0 : decide (0 < (Int.tmod (wrap64 (a1)) 10)) = false := decide_eq_false c120
                            clear c120
                            obtain rfl := Option.some.inj H
                            obtain ⟨hcz156_0, hcz156_1, hfz156_0, hfz156_1⟩ := bc2_ BK627
                            go_wp2_with (first | ((with_reducible refine gate_callee (f := 35) rfl ?_); refine gla_ (some 161) Try.func35 #[.agg #[.int .i64 a0_0, .int .i64 a0_1], .int .i64 (Int.tmod (wrap64 (a1)) 10)] ?_; (with_reducible refine (num_Decimal.calls kj31 a0_0 a0_1 (Int.tmod (wrap64 (a1)) 10) t640 t641 _ A60.out).mono ?_); rintro e w157 ⟨rfl, hb⟩; refine ⟨_, rfl, ?_⟩; replace BK627 := bkb_ BK627 hb; replace HB := bws_ HB hb; (try clear hb); (try clear hb2); (try clear hk); (try clear hi)) | ((with_reducible refine gate_callee (f := 39) rfl ?_); refine gla_ (some 168) Try.func39 #[.string t640] ?_; (with_reducible refine (num_Parse.calls kj31 t640 t642 t643 t644 _ A62.out).mono ?_); rintro e w158 ⟨rfl, hb⟩; refine ⟨_, rfl, ?_⟩; replace BK627 := bkb_ BK627 hb; replace HB := bws_ HB hb; (try clear hb); (try clear hb2); (try clear hk); (try clear hi)) | ((with_reducible refine gate_dst (N := 17) rfl ?_); refine box_event ?hg (N := 17) ?hd (cs := #[.int .i64 0, .int .i64 0]) (t := 23) ?hr ?_; (case hd => rfl); (case hg => rfl); (case hr => first | (go_simp; done) | (go_simp; rfl)); intro gb645 hg w159 hbox hb; have BK645 := Aside0.mk hbox; have GW645 := bwg_ HB hg; have GE645 := bwg_ HB hg; replace HB := bws_ HB hb; have NB627_645 := bkl_ BK627 hg; have NB645_627 := bkr_ BK627 hg; replace BK627 := bkb_ BK627 hb; clear hb hbox hg; have hnb160 := NB645_627.out; have hnc160 := NB627_645.out; obtain ⟨hcz161_0, hcz161_1, hfz161_0, hfz161_1⟩ := bc2_ BK645))
                            go_ret
                            exact ⟨by first | rfl | (simp [*] <;> rfl), bw_ HB⟩
                      · rw [if_neg c61] at H
                        have c61b0 : (t641 == 0) = false := beq_eq_false_iff_ne.mpr c61
                        have c61b1 : (t641 != 0) = true := bne_iff_ne.mpr c61
                        obtain rfl := Option.some.inj H
                        obtain ⟨hcz162_0, hcz162_1, hfz162_0, hfz162_1⟩ := bc2_ BK627
                        go_wp2_with (first | ((with_reducible refine gate_callee (f := 35) rfl ?_); refine gla_ (some 161) Try.func35 #[.agg #[.int .i64 a0_0, .int .i64 a0_1], .int .i64 (Int.tmod (wrap64 (a1)) 10)] ?_; (with_reducible refine (num_Decimal.calls kj31 a0_0 a0_1 (Int.tmod (wrap64 (a1)) 10) t640 t641 _ A60.out).mono ?_); rintro e w163 ⟨rfl, hb⟩; refine ⟨_, rfl, ?_⟩; replace BK627 := bkb_ BK627 hb; replace HB := bws_ HB hb; (try clear hb); (try clear hb2); (try clear hk); (try clear hi)))
                        go_ret
                        exact ⟨by first | rfl | (simp [*] <;> rfl), bw_ HB⟩
  · rw [if_neg c4] at H
    have c4b0 : (t628 == 0) = false := beq_eq_false_iff_ne.mpr c4
    have c4b1 : (t628 != 0) = true := bne_iff_ne.mpr c4
    replace H := Option.bind_eq_some_iff.mp H
    obtain ⟨t629, A1640, H⟩ := H
    replace H : (some t629) = some r := H
    have A164 := Aside0.mk A1640
    clear A1640
    obtain rfl := Option.some.inj H
    as_aux_lemma =>
      go_enter Try.func10, Try.ntmps10
      go_wp2_with (first | ((with_reducible refine gate_dst (N := 2) rfl ?_); refine box_event ?hg (N := 2) ?hd (cs := #[.int .i64 a0_0, .int .i64 a0_1]) (t := 23) ?hr ?_; (case hd => rfl); (case hg => rfl); (case hr => first | (go_simp; done) | (go_simp; rfl)); intro gb627 hg w165 hbox hb; have BK627 := Aside0.mk hbox; have GW627 := bwg_ HB hg; have GE627 := bwg_ HB hg; replace HB := bws_ HB hb; clear hb hbox hg; obtain ⟨hcz166_0, hcz166_1, hfz166_0, hfz166_1⟩ := bc2_ BK627) | ((with_reducible refine gate_callee (f := 41) rfl ?_); refine gla_ (some 27) Try.func41 #[.agg #[.int .i64 a0_0, .int .i64 a0_1]] ?_; (with_reducible refine (withyref01_Check.calls k a0_0 a0_1 t628 _ A3.out).mono ?_); rintro e w167 ⟨rfl, hb⟩; refine ⟨_, rfl, ?_⟩; replace BK627 := bkb_ BK627 hb; replace HB := bws_ HB hb; (try clear hb); (try clear hb2); (try clear hk); (try clear hi)) | ((with_reducible refine gate_callee (f := 17) rfl ?_); refine gla_ (some 29) Try.func17 #[] ?_; (with_reducible refine (withylaw01_summed.calls k  t629 _ A164.out).mono ?_); rintro e w168 ⟨rfl, hb⟩; refine ⟨_, rfl, ?_⟩; replace BK627 := bkb_ BK627 hb; replace HB := bws_ HB hb; (try clear hb); (try clear hb2); (try clear hk); (try clear hi)))
      go_ret
      exact ⟨by first | rfl | (simp [*] <;> rfl), bw_ HB⟩
end Go.Proofs.Ytakcdoahpbeckaa.H
