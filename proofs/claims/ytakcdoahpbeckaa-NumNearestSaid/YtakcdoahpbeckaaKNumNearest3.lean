/- NumNearest: the printed functions it reaches, with their walks. Laid by wip/claimpack.py out of what wip/hprint.py printed. -/
import Derived.Test.YtakcdoahpbeckaaKNumNearest2
namespace Go.Proofs.Ytakcdoahpbeckaa.H
open Go.RowKit Go.Proofs.YtakcdoahpbeckaaW.PrintWords Go.Proofs.YtakcdoahpbeckaaW.PrintLast Go.Proofs.YtakcdoahpbeckaaW.PrintMore
attribute [local go_sem] max2_int min2_int max_two min_two max_three min_three max_four min_four   -- for this text's walks alone
set_option linter.unusedVariables false
set_option linter.unusedSimpArgs false

/-! ### num_ratio_off: function 103 -/
def num_ratio_off.f (a0_0 : Int) (a0_1 : Int) (a1_0 : Int) (a1_1 : Int) : Option (Int) := some (mx (wrap64 ((wrap64 (a1_0 * a0_1)) - (wrap64 (a0_0 * a1_1)))) (wrap64 (-(wrap64 ((wrap64 (a1_0 * a0_1)) - (wrap64 (a0_0 * a1_1)))))))
set_option maxHeartbeats 8000000 in
set_option maxRecDepth 100000 in
theorem num_ratio_off.calls (a0_0 : Int) (a0_1 : Int) (a1_0 : Int) (a1_1 : Int) (r : Int) (w : World) (h : num_ratio_off.f a0_0 a0_1 a1_0 a1_1 = some r) :
    Calls Try.prog 103 #[.agg #[.int .i64 a0_0, .int .i64 a0_1], .agg #[.int .i64 a1_0, .int .i64 a1_1]] w fun e w' => e = .returned (.int .i64 r) ∧ Below w.heap.size w w' := by
  have hu65 := Try.underlying65
  have hu23 := Try.underlying23
  have HB := Aside0.mk (Below.refl w.heap.size w)
  have H : (some (mx (wrap64 ((wrap64 (a1_0 * a0_1)) - (wrap64 (a0_0 * a1_1)))) (wrap64 (-(wrap64 ((wrap64 (a1_0 * a0_1)) - (wrap64 (a0_0 * a1_1)))))))) = some r := h
  clear h
  obtain ⟨ji3, hji3⟩ : ∃ j_ : Int, (mx (wrap64 ((wrap64 (a1_0 * a0_1)) - (wrap64 (a0_0 * a1_1)))) (wrap64 (-(wrap64 ((wrap64 (a1_0 * a0_1)) - (wrap64 (a0_0 * a1_1))))))) = j_ := ⟨_, rfl⟩
  replace H : (some ji3) = some r := by first | (rw [hji3] at H; exact H) | (simp only [hji3] at H ⊢; exact H)
  have hji3_ : (if (wrap64 ((wrap64 (a1_0 * a0_1)) - (wrap64 (a0_0 * a1_1)))) < (wrap64 (-(wrap64 ((wrap64 (a1_0 * a0_1)) - (wrap64 (a0_0 * a1_1)))))) then (wrap64 (-(wrap64 ((wrap64 (a1_0 * a0_1)) - (wrap64 (a0_0 * a1_1)))))) else (wrap64 ((wrap64 (a1_0 * a0_1)) - (wrap64 (a0_0 * a1_1))))) = ji3 := hji3
  obtain rfl := Option.some.inj H
  go_enter Try.func103, Try.ntmps103
  go_wp2_with (first | ((with_reducible refine gate_dst (N := 2) rfl ?_); refine box_event ?hg (N := 2) ?hd (cs := #[.int .i64 a0_0, .int .i64 a0_1]) (t := 65) ?hr ?_; (case hd => rfl); (case hg => rfl); (case hr => first | (go_simp; done) | (go_simp; rfl)); intro gb850 hg w4 hbox hb; have BK850 := Aside0.mk hbox; have GW850 := bwg_ HB hg; have GE850 := bwg_ HB hg; replace HB := bws_ HB hb; clear hb hbox hg) | ((with_reducible refine gate_dst (N := 3) rfl ?_); refine box_event ?hg (N := 3) ?hd (cs := #[.int .i64 a1_0, .int .i64 a1_1]) (t := 23) ?hr ?_; (case hd => rfl); (case hg => rfl); (case hr => first | (go_simp; done) | (go_simp; rfl)); intro gb851 hg w5 hbox hb; have BK851 := Aside0.mk hbox; have GW851 := bwg_ HB hg; have GE851 := bwg_ HB hg; replace HB := bws_ HB hb; have NB850_851 := bkl_ BK850 hg; have NB851_850 := bkr_ BK850 hg; replace BK850 := bkb_ BK850 hb; clear hb hbox hg; have hnb6 := NB851_850.out; have hnc6 := NB850_851.out; obtain ⟨hcz7_0, hcz7_1, hfz7_0, hfz7_1⟩ := bc2_ BK851; obtain ⟨hcz8_0, hcz8_1, hfz8_0, hfz8_1⟩ := bc2_ BK850))
  go_ret
  exact ⟨by first | rfl | (simp [errW_none, errW_some] <;> rfl) | (simp only [← hji3]; first | rfl | (simp [errW_none, errW_some] <;> rfl)) | (simp [*, errW_none, errW_some] <;> rfl), bw_ HB⟩
/-! ### cmp_Or_int: function 119 -/
def cmp_Or_int.l0 : Nat → Int → List Int → Int → Int → Option (Int)
  | 0, _, _, _, _ => none
  | k + 1, x3, x6, x7, x8 => if x8 < x7 then (if 0 ≤ x8 then (if x8 < (x6.length : Int) then (if (rd x6 x8) = x3 then (cmp_Or_int.l0 k x3 x6 x7 (wrap64 (x8 + 1))) else (some (rd x6 x8))) else (none)) else (none)) else (some x3)
def cmp_Or_int.f (k : Nat) (l0 : List Int) : Option (Int) := cmp_Or_int.l0 k 0 l0 (l0.length : Int) 0
theorem cmp_Or_int.mono_l : ∀ k, (∀ y0 y1 y2 y3, LeO (cmp_Or_int.l0 k y0 y1 y2 y3) (cmp_Or_int.l0 (k + 1) y0 y1 y2 y3))
  | 0 => fun _ _ _ _ r h => by simp [cmp_Or_int.l0] at h
  | k + 1 => by
    have ih0 := cmp_Or_int.mono_l k
    · intro y0 y1 y2 y3
      unfold cmp_Or_int.l0
      repeat' first
      | (with_reducible exact ih0 _ _ _ _)
      | (with_reducible exact LeO.refl _)
      | (with_reducible exact LeO.none _)
      | (with_reducible refine LeO.ite ?_ ?_)
      | (with_reducible refine LeO.bind ?_ (fun _ => ?_))
      | (with_reducible refine LeO.exc (fun _ => ?_) (fun _ => ?_))
      | exact ih0 _ _ _ _
      | exact LeO.none _
      | refine LeO.ite ?_ ?_
      | refine LeO.bind ?_ (fun _ => ?_)
theorem cmp_Or_int.mono : ∀ a0 k, LeO (cmp_Or_int.f k a0) (cmp_Or_int.f (k + 1) a0) := by
  intro a0 k
  have ih0 := cmp_Or_int.mono_l k
  unfold cmp_Or_int.f
  repeat' first
      | (with_reducible exact ih0 _ _ _ _)
      | (with_reducible exact LeO.refl _)
      | (with_reducible exact LeO.none _)
      | (with_reducible refine LeO.ite ?_ ?_)
      | (with_reducible refine LeO.bind ?_ (fun _ => ?_))
      | (with_reducible refine LeO.exc (fun _ => ?_) (fun _ => ?_))
      | exact ih0 _ _ _ _
      | exact LeO.none _
      | refine LeO.ite ?_ ?_
      | refine LeO.bind ?_ (fun _ => ?_)
set_option maxHeartbeats 8000000 in
set_option maxRecDepth 100000 in
theorem cmp_Or_int.calls (k : Nat) (A0 : Option Addr) (c0 : Nat) (l0 : List Int) (r : Int) (w : World) (hr0 : Kd.C (Kd.int .i64) w A0 l0.length l0) (hc0 : l0.length ≤ c0) (h : cmp_Or_int.f k l0 = some r) :
    Calls Try.prog 119 #[.slice A0 l0.length c0] w fun e w' => e = .returned (.int .i64 r) ∧ Drawn0 w w' := by
  have HR0 := Aside0.mk hr0
  have HC0 := Aside0.mk hc0
  clear hr0 hc0
  have H : (cmp_Or_int.l0 k 0 l0 (l0.length : Int) 0) = some r := h
  clear h
  have H' := Aside0.mk H
  clear H
  go_enter Try.func119, Try.ntmps119
  go_wp2
  go_loopg [8] k (fun kq v8 w' => ∃ (x8_1 : Int), v8 = .int .i64 x8_1 ∧ Aside0 (cmp_Or_int.l0 kq 0 l0 (l0.length : Int) x8_1 = some r) ∧ Aside0 (kq ≤ k) ∧ Drawn0 w w')
  case atStart => exact ⟨(0), (by first | rfl | (simp; done) | (simp [*]; done)), H', ⟨Nat.le_refl _⟩, by repeat (first | exact Drawn0.refl _ | apply Drawn0.step)⟩
  case round =>
    clear H'
    try clear c1
    obtain ⟨x8_1, rfl, HA, HK1, ⟨m1, rfl⟩⟩ := hrel
    cases gk with
    | zero => exact absurd HA.out (by simp [cmp_Or_int.l0])
    | succ k1 =>
      have H := HA.out
      clear HA
      simp only [cmp_Or_int.l0] at H
      by_cases c2 : x8_1 < (l0.length : Int)
      · rw [if_pos c2] at H
        have c2b0 : decide (x8_1 < (l0.length : Int)) = true := decide_eq_true c2
        clear c2
        by_cases c3 : 0 ≤ x8_1
        · rw [if_pos c3] at H
          have c3b0 : decide (0 ≤ x8_1) = true := decide_eq_true c3
          clear c3
          by_cases c4 : x8_1 < (l0.length : Int)
          · rw [if_pos c4] at H
            have c4b0 : decide (x8_1 < (l0.length : Int)) = true := decide_eq_true c4
            clear c4
            by_cases c5 : (rd l0 x8_1) = 0
            · rw [if_pos c5] at H
              have c5b0 : ((rd l0 x8_1) == 0) = true := beq_iff_eq.mpr c5
              have c5b1 : ((rd l0 x8_1) != 0) = false := bne_eq_false_iff_eq.mpr c5
              clear c5
              have H' := Aside0.mk H
              clear H
              have p852 : 0 ≤ (x8_1 : Int) := of_decide_eq_true (by first | (with_reducible assumption) | assumption)
              have q852 : x8_1 < (l0.length : Int) := of_decide_eq_true (by first | (with_reducible assumption) | assumption)
              obtain ⟨ad852, e852, hx852_0⟩ := Kd.at_int HR0.out x8_1 p852 q852
              cases e852
              replace p852 := eq_true p852
              replace q852 := eq_true q852
              go_wp2
              go_roundg k1
              case measure => have := HK1.out; omega
              case rel => exact ⟨(wrap64 (x8_1 + 1)), (by first | rfl | (simp; done) | (simp [*]; done)), H', ⟨by have := HK1.out; omega⟩, by repeat (first | exact Drawn0.refl _ | apply Drawn0.step)⟩
            · rw [if_neg c5] at H
              have c5b0 : ((rd l0 x8_1) == 0) = false := beq_eq_false_iff_ne.mpr c5
              have c5b1 : ((rd l0 x8_1) != 0) = true := bne_iff_ne.mpr c5
              obtain rfl := Option.some.inj H
              have p852 : 0 ≤ (x8_1 : Int) := of_decide_eq_true (by first | (with_reducible assumption) | assumption)
              have q852 : x8_1 < (l0.length : Int) := of_decide_eq_true (by first | (with_reducible assumption) | assumption)
              obtain ⟨ad852, e852, hx852_0⟩ := Kd.at_int HR0.out x8_1 p852 q852
              cases e852
              replace p852 := eq_true p852
              replace q852 := eq_true q852
              go_wp2
              go_ret
              exact ⟨by first | rfl | (simp; done) | (simp [*]; done), by repeat (first | exact Drawn0.refl _ | apply Drawn0.step)⟩
          · rw [if_neg c4] at H
            exact absurd H (by simp)
        · rw [if_neg c3] at H
          exact absurd H (by simp)
      · rw [if_neg c2] at H
        have c2b0 : decide (x8_1 < (l0.length : Int)) = false := decide_eq_false c2
        clear c2
        obtain rfl := Option.some.inj H
        go_wp2
        go_ret
        exact ⟨by first | rfl | (simp; done) | (simp [*]; done), by repeat (first | exact Drawn0.refl _ | apply Drawn0.step)⟩
/-! ### num_ratio_simpler: function 104 -/
def num_ratio_simpler.f (k : Nat) (a0_0 : Int) (a0_1 : Int) (a1_0 : Int) (a1_1 : Int) : Option (Bool) := (cmp_Compare_int.f a0_1 a1_1).bind fun t855 => ((cmp_Compare_int.f (mx a0_0 (wrap64 (-a0_0))) (mx a1_0 (wrap64 (-a1_0)))).bind fun t856 => ((cmp_Compare_int.f a1_0 a0_0).bind fun t857 => ((cmp_Or_int.f k (([t855, t856, t857] : List Int))).bind fun t861 => (some (decide (t861 < 0))))))
theorem num_ratio_simpler.mono : ∀ a0 a1 a2 a3 k, LeO (num_ratio_simpler.f k a0 a1 a2 a3) (num_ratio_simpler.f (k + 1) a0 a1 a2 a3) := by
  intro a0 a1 a2 a3 k
  unfold num_ratio_simpler.f
  repeat' first
      | (with_reducible exact cmp_Or_int.mono _ _)
      | (with_reducible exact LeO.refl _)
      | (with_reducible exact LeO.none _)
      | (with_reducible refine LeO.ite ?_ ?_)
      | (with_reducible refine LeO.bind ?_ (fun _ => ?_))
      | (with_reducible refine LeO.exc (fun _ => ?_) (fun _ => ?_))
      | exact cmp_Or_int.mono _ _
      | exact LeO.none _
      | refine LeO.ite ?_ ?_
      | refine LeO.bind ?_ (fun _ => ?_)
def num_ratio_simpler.T1 : Bool × List (List Nat × List Nat) := (true, [([], []), ([0], [0]), ([], []), ([2], [2]), ([1, 3], [1, 3]), ([], []), ([5], [5]), ([], []), ([7], [7]), ([8], [8]), ([6, 9], [6, 9]), ([], []), ([11], [11]), ([], []), ([13], [13]), ([14], [14]), ([12, 15], [12, 15]), ([10, 16, 4], [10, 16]), ([], []), ([18], [18]), ([], []), ([20], [20]), ([19, 21, 17], [19, 21]), ([4, 17, 22], [4, 17, 22]), ([23, 22], [23]), ([24], [24]), ([25, 24, 0, 1, 2, 3, 4, 5, 6, 7, 8, 9, 10, 11, 12, 13, 14, 15, 16, 17, 18, 19, 20, 21, 22, 23, 24, 25], [25])])
def num_ratio_simpler.B1 : List Nat := [0, 1, 0, 4, 15, 0, 32, 0, 128, 384, 992, 0, 2048, 0, 8192, 24576, 63488, 131071, 0, 262144, 0, 1048576, 4194303, 8388607, 16777215, 33554431, 67108863]
theorem num_ratio_simpler.tab1 : rtab .any (opsOf Try.f104 1) = num_ratio_simpler.T1 := by kernel_rfl
theorem num_ratio_simpler.bits1 : waitsOk num_ratio_simpler.T1.2 num_ratio_simpler.B1 = true := by kernel_rfl
set_option maxHeartbeats 8000000 in
set_option maxRecDepth 100000 in
theorem num_ratio_simpler.calls (k : Nat) (a0_0 : Int) (a0_1 : Int) (a1_0 : Int) (a1_1 : Int) (r : Bool) (w : World) (h : num_ratio_simpler.f k a0_0 a0_1 a1_0 a1_1 = some r) :
    Calls Try.prog 104 #[.agg #[.int .i64 a0_0, .int .i64 a0_1], .agg #[.int .i64 a1_0, .int .i64 a1_1]] w fun e w' => e = .returned (.bool r) ∧ Below w.heap.size w w' := by
  have hu65 := Try.underlying65
  have HB := Aside0.mk (Below.refl w.heap.size w)
  have H : ((cmp_Compare_int.f a0_1 a1_1).bind fun t855 => ((cmp_Compare_int.f (mx a0_0 (wrap64 (-a0_0))) (mx a1_0 (wrap64 (-a1_0)))).bind fun t856 => ((cmp_Compare_int.f a1_0 a0_0).bind fun t857 => ((cmp_Or_int.f k (([t855, t856, t857] : List Int))).bind fun t861 => (some (decide (t861 < 0))))))) = some r := h
  clear h
  replace H := Option.bind_eq_some_iff.mp H
  obtain ⟨t855, A30, H⟩ := H
  replace H : ((cmp_Compare_int.f (mx a0_0 (wrap64 (-a0_0))) (mx a1_0 (wrap64 (-a1_0)))).bind fun t856 => ((cmp_Compare_int.f a1_0 a0_0).bind fun t857 => ((cmp_Or_int.f k (([t855, t856, t857] : List Int))).bind fun t861 => (some (decide (t861 < 0)))))) = some r := H
  have A3 := Aside0.mk A30
  clear A30
  obtain ⟨ji4, hji4⟩ : ∃ j_ : Int, (mx a0_0 (wrap64 (-a0_0))) = j_ := ⟨_, rfl⟩
  replace H : ((cmp_Compare_int.f (ji4) (mx a1_0 (wrap64 (-a1_0)))).bind fun t856 => ((cmp_Compare_int.f a1_0 a0_0).bind fun t857 => ((cmp_Or_int.f k (([t855, t856, t857] : List Int))).bind fun t861 => (some (decide (t861 < 0)))))) = some r := by first | (rw [hji4] at H; exact H) | (simp only [hji4] at H ⊢; exact H)
  (try rw [hji4] at A3)
  have hji4_ : (if a0_0 < (wrap64 (-a0_0)) then (wrap64 (-a0_0)) else a0_0) = ji4 := hji4
  obtain ⟨ji5, hji5⟩ : ∃ j_ : Int, (mx a1_0 (wrap64 (-a1_0))) = j_ := ⟨_, rfl⟩
  replace H : ((cmp_Compare_int.f (ji4) (ji5)).bind fun t856 => ((cmp_Compare_int.f a1_0 a0_0).bind fun t857 => ((cmp_Or_int.f k (([t855, t856, t857] : List Int))).bind fun t861 => (some (decide (t861 < 0)))))) = some r := by first | (rw [hji5] at H; exact H) | (simp only [hji5] at H ⊢; exact H)
  (try rw [hji5] at A3)
  have hji5_ : (if a1_0 < (wrap64 (-a1_0)) then (wrap64 (-a1_0)) else a1_0) = ji5 := hji5
  replace H := Option.bind_eq_some_iff.mp H
  obtain ⟨t856, A60, H⟩ := H
  replace H : ((cmp_Compare_int.f a1_0 a0_0).bind fun t857 => ((cmp_Or_int.f k (([t855, t856, t857] : List Int))).bind fun t861 => (some (decide (t861 < 0))))) = some r := H
  have A6 := Aside0.mk A60
  clear A60
  replace H := Option.bind_eq_some_iff.mp H
  obtain ⟨t857, A70, H⟩ := H
  replace H : ((cmp_Or_int.f k (([t855, t856, t857] : List Int))).bind fun t861 => (some (decide (t861 < 0)))) = some r := H
  have A7 := Aside0.mk A70
  clear A70
  obtain ⟨y858, hy858⟩ : ∃ y_ : List Int, y_ = (([t855, t856, t857] : List Int)) := ⟨_, rfl⟩
  replace H : ((cmp_Or_int.f k y858).bind fun t861 => (some (decide (t861 < 0)))) = some r := by first | (rw [hy858]; with_reducible exact H) | (have H2_ := (Option.bind_some _ _).symm.trans H; rw [hy858]; with_reducible exact H2_) | (have H2_ := (Option.bind_some _ _).symm.trans H; with_reducible exact H2_) | with_reducible exact H | (rw [hy858]; exact H) | exact H
  have Ny858 := Aside0.mk hy858
  clear hy858
  replace H := Option.bind_eq_some_iff.mp H
  obtain ⟨t861, A80, H⟩ := H
  replace H : (some (decide (t861 < 0))) = some r := H
  have A8 := Aside0.mk A80
  clear A80
  obtain rfl := Option.some.inj H
  go_enter Try.func104, Try.ntmps104
  try go_wp2_with (first | ((with_reducible refine gate_dst (N := 2) rfl ?_); refine box_event ?hg (N := 2) ?hd (cs := #[.int .i64 a0_0, .int .i64 a0_1]) (t := 65) ?hr ?_; (case hd => rfl); (case hg => rfl); (case hr => first | (go_simp; done) | (go_simp; rfl)); intro gb853 hg w9 hbox hb; have BK853 := Aside0.mk hbox; have GW853 := bwg_ HB hg; have GE853 := bwg_ HB hg; replace HB := bws_ HB hb; clear hb hbox hg) | ((with_reducible refine gate_dst (N := 3) rfl ?_); refine box_event ?hg (N := 3) ?hd (cs := #[.int .i64 a1_0, .int .i64 a1_1]) (t := 65) ?hr ?_; (case hd => rfl); (case hg => rfl); (case hr => first | (go_simp; done) | (go_simp; rfl)); intro gb854 hg w10 hbox hb; have BK854 := Aside0.mk hbox; have GW854 := bwg_ HB hg; have GE854 := bwg_ HB hg; replace HB := bws_ HB hb; have NB853_854 := bkl_ BK853 hg; have NB854_853 := bkr_ BK853 hg; replace BK853 := bkb_ BK853 hb; clear hb hbox hg))
  replace BK853 := Aside0.mk (blk_drew BK853.out)
  replace BK854 := Aside0.mk (blk_drew BK854.out)
  replace HB := Aside0.mk (below_drew1 HB.out)
  refine start_ (n := 27) (S := fun w' => w'.cell? ⟨gb853, 0, none⟩ = some (.int .i64 a0_0) ∧ w'.cell? ⟨gb853, 1, none⟩ = some (.int .i64 a0_1) ∧ w'.cell? ⟨gb854, 0, none⟩ = some (.int .i64 a1_0) ∧ w'.cell? ⟨gb854, 1, none⟩ = some (.int .i64 a1_1)) (ds := []) #[false, false, false, false, false, false, false, false, false, false, false, false, false, false, false, false, false, false, false, false, false, false, false, false, false, false, false] (by kernel_rfl) rfl rfl ⟨(blk_cell BK853.out 0).trans rfl, (blk_cell BK853.out 1).trans rfl, (blk_cell BK854.out 0).trans rfl, (blk_cell BK854.out 1).trans rfl⟩ (fun hHeld => ?_); refine with_tabW num_ratio_simpler.tab1 num_ratio_simpler.bits1 (fun HT_ HW_ => ?_)
  generalize w10.drew = w11 at BK853 BK854 HB hHeld ⊢
  refine pure_ (i := 0) (N := some 5) (v := ?_) (a' := ?_) #[true, false, false, false, false, false, false, false, false, false, false, false, false, false, false, false, false, false, false, false, false, false, false, false, false, false, false] rfl rfl (any_of HT_.out (by kernel_rfl)) (fun _ _ _ h => h) (Or.inl ⟨by rfl, ?_⟩) ?_ ?_
  rotate_left
  · intro w'
    go_simp
    with_reducible rfl
  rotate_left
  · simp only [Act.put, List.setIfInBounds_toArray, List.set_cons_zero, List.set_cons_succ, i64_w, i32_w]
    rfl
  refine pure_ (i := 2) (N := some 7) (v := ?_) (a' := ?_) #[true, false, true, false, false, false, false, false, false, false, false, false, false, false, false, false, false, false, false, false, false, false, false, false, false, false, false] rfl rfl (any_of HT_.out (by kernel_rfl)) (fun _ _ _ h => h) (Or.inl ⟨by rfl, ?_⟩) ?_ ?_
  rotate_left
  · intro w'
    go_simp
    with_reducible rfl
  rotate_left
  · simp only [Act.put, List.setIfInBounds_toArray, List.set_cons_zero, List.set_cons_succ, i64_w, i32_w]
    rfl
  refine pure_ (i := 5) (N := some 10) (v := ?_) (a' := ?_) #[true, false, true, false, false, true, false, false, false, false, false, false, false, false, false, false, false, false, false, false, false, false, false, false, false, false, false] rfl rfl (any_of HT_.out (by kernel_rfl)) (fun _ _ _ h => h) (Or.inl ⟨by rfl, ?_⟩) ?_ ?_
  rotate_left
  · intro w'
    go_simp
    with_reducible rfl
  rotate_left
  · simp only [Act.put, List.setIfInBounds_toArray, List.set_cons_zero, List.set_cons_succ, i64_w, i32_w]
    rfl
  refine pure_ (i := 7) (N := some 12) (v := ?_) (a' := ?_) #[true, false, true, false, false, true, false, true, false, false, false, false, false, false, false, false, false, false, false, false, false, false, false, false, false, false, false] rfl rfl (any_of HT_.out (by kernel_rfl)) (fun _ _ _ h => h) (Or.inl ⟨by rfl, ?_⟩) ?_ ?_
  rotate_left
  · intro w'
    go_simp
    with_reducible rfl
  rotate_left
  · simp only [Act.put, List.setIfInBounds_toArray, List.set_cons_zero, List.set_cons_succ, i64_w, i32_w]
    rfl
  refine pure_ (i := 11) (N := some 16) (v := ?_) (a' := ?_) #[true, false, true, false, false, true, false, true, false, false, false, true, false, false, false, false, false, false, false, false, false, false, false, false, false, false, false] rfl rfl (any_of HT_.out (by kernel_rfl)) (fun _ _ _ h => h) (Or.inl ⟨by rfl, ?_⟩) ?_ ?_
  rotate_left
  · intro w'
    go_simp
    with_reducible rfl
  rotate_left
  · simp only [Act.put, List.setIfInBounds_toArray, List.set_cons_zero, List.set_cons_succ, i64_w, i32_w]
    rfl
  refine pure_ (i := 13) (N := some 18) (v := ?_) (a' := ?_) #[true, false, true, false, false, true, false, true, false, false, false, true, false, true, false, false, false, false, false, false, false, false, false, false, false, false, false] rfl rfl (any_of HT_.out (by kernel_rfl)) (fun _ _ _ h => h) (Or.inl ⟨by rfl, ?_⟩) ?_ ?_
  rotate_left
  · intro w'
    go_simp
    with_reducible rfl
  rotate_left
  · simp only [Act.put, List.setIfInBounds_toArray, List.set_cons_zero, List.set_cons_succ, i64_w, i32_w]
    rfl
  refine pure_ (i := 18) (N := some 23) (v := ?_) (a' := ?_) #[true, false, true, false, false, true, false, true, false, false, false, true, false, true, false, false, false, false, true, false, false, false, false, false, false, false, false] rfl rfl (any_of HT_.out (by kernel_rfl)) (fun _ _ _ h => h) (Or.inl ⟨by rfl, ?_⟩) ?_ ?_
  rotate_left
  · intro w'
    go_simp
    with_reducible rfl
  rotate_left
  · simp only [Act.put, List.setIfInBounds_toArray, List.set_cons_zero, List.set_cons_succ, i64_w, i32_w]
    rfl
  refine pure_ (i := 20) (N := some 25) (v := ?_) (a' := ?_) #[true, false, true, false, false, true, false, true, false, false, false, true, false, true, false, false, false, false, true, false, true, false, false, false, false, false, false] rfl rfl (any_of HT_.out (by kernel_rfl)) (fun _ _ _ h => h) (Or.inl ⟨by rfl, ?_⟩) ?_ ?_
  rotate_left
  · intro w'
    go_simp
    with_reducible rfl
  rotate_left
  · simp only [Act.put, List.setIfInBounds_toArray, List.set_cons_zero, List.set_cons_succ, i64_w, i32_w]
    rfl
  refine take_ (i := 1) (N := some 6) (v := ?_) (a' := ?_) #[true, true, true, false, false, true, false, true, false, false, false, true, false, true, false, false, false, false, true, false, true, false, false, false, false, false, false] rfl rfl (take_ofW HT_.out HW_.out (by kernel_rfl)) (fun _ _ _ h => h) (Or.inl ⟨by rfl, ?_⟩) hHeld ?_ ?_
  rotate_left
  · rintro w' ⟨s0, s1, s2, s3⟩
    go_simp
    with_reducible rfl
  rotate_left
  · simp only [Act.put, List.setIfInBounds_toArray, List.set_cons_zero, List.set_cons_succ, i64_w, i32_w]
    rfl
  refine take_ (i := 3) (N := some 8) (v := ?_) (a' := ?_) #[true, true, true, true, false, true, false, true, false, false, false, true, false, true, false, false, false, false, true, false, true, false, false, false, false, false, false] rfl rfl (take_ofW HT_.out HW_.out (by kernel_rfl)) (fun _ _ _ h => h) (Or.inl ⟨by rfl, ?_⟩) hHeld ?_ ?_
  rotate_left
  · rintro w' ⟨s0, s1, s2, s3⟩
    go_simp
    with_reducible rfl
  rotate_left
  · simp only [Act.put, List.setIfInBounds_toArray, List.set_cons_zero, List.set_cons_succ, i64_w, i32_w]
    rfl
  refine take_ (i := 6) (N := some 11) (v := ?_) (a' := ?_) #[true, true, true, true, false, true, true, true, false, false, false, true, false, true, false, false, false, false, true, false, true, false, false, false, false, false, false] rfl rfl (take_ofW HT_.out HW_.out (by kernel_rfl)) (fun _ _ _ h => h) (Or.inl ⟨by rfl, ?_⟩) hHeld ?_ ?_
  rotate_left
  · rintro w' ⟨s0, s1, s2, s3⟩
    go_simp
    with_reducible rfl
  rotate_left
  · simp only [Act.put, List.setIfInBounds_toArray, List.set_cons_zero, List.set_cons_succ, i64_w, i32_w]
    rfl
  refine take_ (i := 8) (N := some 13) (v := ?_) (a' := ?_) #[true, true, true, true, false, true, true, true, true, false, false, true, false, true, false, false, false, false, true, false, true, false, false, false, false, false, false] rfl rfl (take_ofW HT_.out HW_.out (by kernel_rfl)) (fun _ _ _ h => h) (Or.inl ⟨by rfl, ?_⟩) hHeld ?_ ?_
  rotate_left
  · rintro w' ⟨s0, s1, s2, s3⟩
    go_simp
    with_reducible rfl
  rotate_left
  · simp only [Act.put, List.setIfInBounds_toArray, List.set_cons_zero, List.set_cons_succ, i64_w, i32_w]
    rfl
  refine pure_ (i := 9) (N := some 14) (v := ?_) (a' := ?_) #[true, true, true, true, false, true, true, true, true, true, false, true, false, true, false, false, false, false, true, false, true, false, false, false, false, false, false] rfl rfl (any_of HT_.out (by kernel_rfl)) (fun _ _ _ h => h) (Or.inl ⟨by rfl, ?_⟩) ?_ ?_
  rotate_left
  · intro w'
    go_simp
    with_reducible rfl
  rotate_left
  · simp only [Act.put, List.setIfInBounds_toArray, List.set_cons_zero, List.set_cons_succ, i64_w, i32_w]
    rfl
  refine pure_ (i := 10) (N := some 15) (v := ?_) (a' := ?_) #[true, true, true, true, false, true, true, true, true, true, true, true, false, true, false, false, false, false, true, false, true, false, false, false, false, false, false] rfl rfl (any_of HT_.out (by kernel_rfl)) (fun _ _ _ h => h) (Or.inl ⟨by rfl, ?_⟩) ?_ ?_
  rotate_left
  · intro w'
    go_simp
    with_reducible rfl
  rotate_left
  · simp only [Act.put, List.setIfInBounds_toArray, List.set_cons_zero, List.set_cons_succ, i64_w, i32_w]
    rfl
  refine take_ (i := 12) (N := some 17) (v := ?_) (a' := ?_) #[true, true, true, true, false, true, true, true, true, true, true, true, true, true, false, false, false, false, true, false, true, false, false, false, false, false, false] rfl rfl (take_ofW HT_.out HW_.out (by kernel_rfl)) (fun _ _ _ h => h) (Or.inl ⟨by rfl, ?_⟩) hHeld ?_ ?_
  rotate_left
  · rintro w' ⟨s0, s1, s2, s3⟩
    go_simp
    with_reducible rfl
  rotate_left
  · simp only [Act.put, List.setIfInBounds_toArray, List.set_cons_zero, List.set_cons_succ, i64_w, i32_w]
    rfl
  refine take_ (i := 14) (N := some 19) (v := ?_) (a' := ?_) #[true, true, true, true, false, true, true, true, true, true, true, true, true, true, true, false, false, false, true, false, true, false, false, false, false, false, false] rfl rfl (take_ofW HT_.out HW_.out (by kernel_rfl)) (fun _ _ _ h => h) (Or.inl ⟨by rfl, ?_⟩) hHeld ?_ ?_
  rotate_left
  · rintro w' ⟨s0, s1, s2, s3⟩
    go_simp
    with_reducible rfl
  rotate_left
  · simp only [Act.put, List.setIfInBounds_toArray, List.set_cons_zero, List.set_cons_succ, i64_w, i32_w]
    rfl
  refine pure_ (i := 15) (N := some 20) (v := ?_) (a' := ?_) #[true, true, true, true, false, true, true, true, true, true, true, true, true, true, true, true, false, false, true, false, true, false, false, false, false, false, false] rfl rfl (any_of HT_.out (by kernel_rfl)) (fun _ _ _ h => h) (Or.inl ⟨by rfl, ?_⟩) ?_ ?_
  rotate_left
  · intro w'
    go_simp
    with_reducible rfl
  rotate_left
  · simp only [Act.put, List.setIfInBounds_toArray, List.set_cons_zero, List.set_cons_succ, i64_w, i32_w]
    rfl
  refine pure_ (i := 16) (N := some 21) (v := ?_) (a' := ?_) #[true, true, true, true, false, true, true, true, true, true, true, true, true, true, true, true, true, false, true, false, true, false, false, false, false, false, false] rfl rfl (any_of HT_.out (by kernel_rfl)) (fun _ _ _ h => h) (Or.inl ⟨by rfl, ?_⟩) ?_ ?_
  rotate_left
  · intro w'
    go_simp
    with_reducible rfl
  rotate_left
  · simp only [Act.put, List.setIfInBounds_toArray, List.set_cons_zero, List.set_cons_succ, i64_w, i32_w]
    rfl
  refine take_ (i := 19) (N := some 24) (v := ?_) (a' := ?_) #[true, true, true, true, false, true, true, true, true, true, true, true, true, true, true, true, true, false, true, true, true, false, false, false, false, false, false] rfl rfl (take_ofW HT_.out HW_.out (by kernel_rfl)) (fun _ _ _ h => h) (Or.inl ⟨by rfl, ?_⟩) hHeld ?_ ?_
  rotate_left
  · rintro w' ⟨s0, s1, s2, s3⟩
    go_simp
    with_reducible rfl
  rotate_left
  · simp only [Act.put, List.setIfInBounds_toArray, List.set_cons_zero, List.set_cons_succ, i64_w, i32_w]
    rfl
  refine take_ (i := 21) (N := some 26) (v := ?_) (a' := ?_) #[true, true, true, true, false, true, true, true, true, true, true, true, true, true, true, true, true, false, true, true, true, true, false, false, false, false, false] rfl rfl (take_ofW HT_.out HW_.out (by kernel_rfl)) (fun _ _ _ h => h) (Or.inl ⟨by rfl, ?_⟩) hHeld ?_ ?_
  rotate_left
  · rintro w' ⟨s0, s1, s2, s3⟩
    go_simp
    with_reducible rfl
  rotate_left
  · simp only [Act.put, List.setIfInBounds_toArray, List.set_cons_zero, List.set_cons_succ, i64_w, i32_w]
    rfl
  refine one_ (i := 4) (N := some 9) #[true, true, true, true, true, true, true, true, true, true, true, true, true, true, true, true, true, false, true, true, true, true, false, false, false, false, false] rfl rfl (one_of HT_.out (by kernel_rfl)) (by decide) (fun K hK => ?_)
  refine gos_ Try.func113 #[.int .i64 a0_1, .int .i64 a1_1] ?_
  with_reducible refine (cmp_Compare_int.calls a0_1 a1_1 t855 _ A3.out).mono ?_
  rintro e w' ⟨rfl, ⟨nd, rfl⟩⟩
  refine ⟨_, rfl, ?_⟩
  refine hK.out _ _ ⟨(blk_cell BK853.out 0).trans rfl, (blk_cell BK853.out 1).trans rfl, (blk_cell BK854.out 0).trans rfl, (blk_cell BK854.out 1).trans rfl⟩ (fun hHeld => ?_)
  clear hK K
  refine norm_ (a' := ?_) ?_ ?_
  rotate_left
  · show Act.put _ (some 9) _ = _
    simp only [Act.put, List.setIfInBounds_toArray, List.set_cons_zero, List.set_cons_succ, i64_w, i32_w]
    rfl
  refine one_ (i := 17) (N := some 22) #[true, true, true, true, true, true, true, true, true, true, true, true, true, true, true, true, true, true, true, true, true, true, false, false, false, false, false] rfl rfl (one_of HT_.out (by kernel_rfl)) (by decide) (fun K hK => ?_)
  refine goes_ Try.func113 (by kernel_rfl) rfl #[.int .i64 ji4, .int .i64 ji5] (by rfl) rfl rfl (by (try simp only [List.map_toArray, List.map_cons, List.map_nil]); first | done | (simp only [hji4, hji5]; rfl) | rfl | (simp only [List.length_drop, List.length_take]; rfl)) ?_
  with_reducible refine (cmp_Compare_int.calls ji4 ji5 t856 _ A6.out).mono ?_
  rintro e w' ⟨rfl, ⟨nd, rfl⟩⟩
  refine ⟨_, rfl, ?_⟩
  refine hK.out _ _ ⟨(blk_cell BK853.out 0).trans rfl, (blk_cell BK853.out 1).trans rfl, (blk_cell BK854.out 0).trans rfl, (blk_cell BK854.out 1).trans rfl⟩ (fun hHeld => ?_)
  clear hK K
  refine norm_ (a' := ?_) ?_ ?_
  rotate_left
  · show Act.put _ (some 22) _ = _
    simp only [Act.put, List.setIfInBounds_toArray, List.set_cons_zero, List.set_cons_succ, i64_w, i32_w]
    rfl
  refine one_ (i := 22) (N := some 27) #[true, true, true, true, true, true, true, true, true, true, true, true, true, true, true, true, true, true, true, true, true, true, true, false, false, false, false] rfl rfl (one_of HT_.out (by kernel_rfl)) (by decide) (fun K hK => ?_)
  refine gos_ Try.func113 #[.int .i64 a1_0, .int .i64 a0_0] ?_
  with_reducible refine (cmp_Compare_int.calls a1_0 a0_0 t857 _ A7.out).mono ?_
  rintro e w' ⟨rfl, ⟨nd, rfl⟩⟩
  refine ⟨_, rfl, ?_⟩
  refine hK.out _ _ ⟨(blk_cell BK853.out 0).trans rfl, (blk_cell BK853.out 1).trans rfl, (blk_cell BK854.out 0).trans rfl, (blk_cell BK854.out 1).trans rfl⟩ (fun hHeld => ?_)
  clear hK K
  refine norm_ (a' := ?_) ?_ ?_
  rotate_left
  · show Act.put _ (some 27) _ = _
    simp only [Act.put, List.setIfInBounds_toArray, List.set_cons_zero, List.set_cons_succ, i64_w, i32_w]
    rfl
  refine one_ (i := 23) (N := some 28) #[true, true, true, true, true, true, true, true, true, true, true, true, true, true, true, true, true, true, true, true, true, true, true, true, false, false, false] rfl rfl (one_of HT_.out (by kernel_rfl)) (by decide) (fun K hK => ?_)
  refine Kd.R_lit_step (Kd.int .i64) _ 3 ?hg (N := 28) ?hd (xs := ([t855, t856, t857] : List Int)) (inner := [.int .i64 t855, .int .i64 t856, .int .i64 t857]) (ok := fun _ => True) (okp := fun _ => True) ?hr ?hp (fun _ hk => hk) trivial (Below.refl _ _) (Nat.le_refl _) (by simp) ?_; (case hd => rfl); (case hg => rfl); (case hr => first | (go_simp; done) | (go_simp; rfl)); (case hp => exact (Reps.one (show Kd.M (Kd.int .i64) _ _ _ t855 [.int .i64 t855] from rfl) (Reps.one (show Kd.M (Kd.int .i64) _ _ _ t856 [.int .i64 t856] from rfl) (Reps.one (show Kd.M (Kd.int .i64) _ _ _ t857 [.int .i64 t857] from rfl) (Reps.none _ _)))))
  intro v859 w12 ho13 hb hg_ hnew_
  clear hg_ hnew_
  (first | rw [← Ny858.out] at ho13 | (simp only [Int.reduceToNat] at ho13; rw [← Ny858.out] at ho13))
  have HO860 := Aside0.mk (Kd.R_lower ho13 (below_size (bw_ HB)))
  replace BK853 := bkb_ BK853 hb
  replace BK854 := bkb_ BK854 hb
  replace HB := bws_ HB hb
  clear hb ho13
  obtain ⟨Ao14, co14, eo14⟩ := Kd.R_slice HO860.out
  (first | subst eo14 | (injection eo14 with f1_ f2_ f3_; have f4_ := f1_.symm; have f5_ := f3_.symm; clear f1_ f2_ f3_; subst f4_; subst f5_))
  refine hK.out _ _ ⟨(blk_cell BK853.out 0).trans rfl, (blk_cell BK853.out 1).trans rfl, (blk_cell BK854.out 0).trans rfl, (blk_cell BK854.out 1).trans rfl⟩ (fun hHeld => ?_)
  clear hK K
  refine norm_ (a' := ?_) ?_ ?_
  rotate_left
  · show Act.put _ (some 28) _ = _
    simp only [Act.put, List.setIfInBounds_toArray, List.set_cons_zero, List.set_cons_succ, i64_w, i32_w]
    rfl
  refine one_ (i := 24) (N := some 29) #[true, true, true, true, true, true, true, true, true, true, true, true, true, true, true, true, true, true, true, true, true, true, true, true, true, false, false] rfl rfl (one_of HT_.out (by kernel_rfl)) (by decide) (fun K hK => ?_)
  refine gos_ Try.func119 #[.slice Ao14 y858.length co14] ?_
  with_reducible refine (cmp_Or_int.calls k _ _ y858 t861 _ ?side1 ?side2 A8.out).mono ?_
  (case side1 => repeat (first | exact (Kd.R_reads' HO860.out).2.2 | (with_reducible refine Kd.C_alloc ?_ _) | (with_reducible refine Kd.C_drewN ?_ _) | (with_reducible refine Kd.C_drew ?_)))
  (case side2 => exact (Kd.R_reads' HO860.out).2.1)
  rintro e w' ⟨rfl, ⟨nd, rfl⟩⟩
  refine ⟨_, rfl, ?_⟩
  refine hK.out _ _ ⟨(blk_cell BK853.out 0).trans rfl, (blk_cell BK853.out 1).trans rfl, (blk_cell BK854.out 0).trans rfl, (blk_cell BK854.out 1).trans rfl⟩ (fun hHeld => ?_)
  clear hK K
  refine norm_ (a' := ?_) ?_ ?_
  rotate_left
  · show Act.put _ (some 29) _ = _
    simp only [Act.put, List.setIfInBounds_toArray, List.set_cons_zero, List.set_cons_succ, i64_w, i32_w]
    rfl
  refine pure_ (i := 25) (N := some 30) (v := ?_) (a' := ?_) #[true, true, true, true, true, true, true, true, true, true, true, true, true, true, true, true, true, true, true, true, true, true, true, true, true, true, false] rfl rfl (any_of HT_.out (by kernel_rfl)) (fun _ _ _ h => h) (Or.inl ⟨by rfl, ?_⟩) ?_ ?_
  rotate_left
  · intro w'
    go_simp
    with_reducible rfl
  rotate_left
  · simp only [Act.put, List.setIfInBounds_toArray, List.set_cons_zero, List.set_cons_succ, i64_w, i32_w]
    rfl
  refine pure_ (i := 26) (N := some 4) (v := ?_) (a' := ?_) #[true, true, true, true, true, true, true, true, true, true, true, true, true, true, true, true, true, true, true, true, true, true, true, true, true, true, true] rfl rfl (any_of HT_.out (by kernel_rfl)) (fun _ _ _ h => h) (Or.inl ⟨by rfl, ?_⟩) ?_ ?_
  rotate_left
  · intro w'
    go_simp
    with_reducible rfl
  rotate_left
  · simp only [Act.put, List.setIfInBounds_toArray, List.set_cons_zero, List.set_cons_succ, i64_w, i32_w]
    rfl
  refine done_ (done_of HT_.out (by kernel_rfl)) ?_
  try go_wp2
  go_ret
  exact ⟨by first | rfl | (simp [errW_none, errW_some] <;> rfl) | (simp only [← hji4, ← hji5]; first | rfl | (simp [errW_none, errW_some] <;> rfl)) | (simp [*, errW_none, errW_some] <;> rfl), bw_ HB⟩
/-! ### num_Near_1: function 102 -/
def num_Near_1.f (k : Nat) (a0_0 : Int) (a0_1 : Int) (a1_0 : Int) (a1_1 : Int) (a2_0 : Int) (a2_1 : Int) : Option (Bool) := (num_ratio_off.f a0_0 a0_1 a2_0 a2_1).bind fun t865 => ((num_ratio_off.f a1_0 a1_1 a2_0 a2_1).bind fun t866 => (if (wrap64 (t865 * a1_1)) < (wrap64 (t866 * a0_1)) then (some true) else (if (wrap64 (t865 * a1_1)) = (wrap64 (t866 * a0_1)) then ((num_ratio_simpler.f k a0_0 a0_1 a1_0 a1_1).bind fun t867 => (some t867)) else (some false))))
theorem num_Near_1.mono : ∀ a0 a1 a2 a3 a4 a5 k, LeO (num_Near_1.f k a0 a1 a2 a3 a4 a5) (num_Near_1.f (k + 1) a0 a1 a2 a3 a4 a5) := by
  intro a0 a1 a2 a3 a4 a5 k
  unfold num_Near_1.f
  repeat' first
      | (with_reducible exact num_ratio_simpler.mono _ _ _ _ _)
      | (with_reducible exact LeO.refl _)
      | (with_reducible exact LeO.none _)
      | (with_reducible refine LeO.ite ?_ ?_)
      | (with_reducible refine LeO.bind ?_ (fun _ => ?_))
      | (with_reducible refine LeO.exc (fun _ => ?_) (fun _ => ?_))
      | exact num_ratio_simpler.mono _ _ _ _ _
      | exact LeO.none _
      | refine LeO.ite ?_ ?_
      | refine LeO.bind ?_ (fun _ => ?_)
def num_Near_1.T1 : Bool × List (List Nat × List Nat) := (true, [([], []), ([], []), ([0, 1], [0, 1]), ([], []), ([3], [3]), ([2, 4], [2, 4]), ([], []), ([], []), ([6, 7, 2], [6, 7]), ([], []), ([9], [9]), ([8, 10], [8, 10]), ([5, 8, 0, 1, 2, 3, 4, 5], [5]), ([11, 12, 0, 1, 2, 3, 4, 5, 6, 7, 8, 9, 10, 11, 12], [11])])
def num_Near_1.B1 : List Nat := [0, 0, 3, 0, 8, 31, 0, 0, 199, 0, 512, 1991, 511, 8191]
theorem num_Near_1.tab1 : rtab .any (opsOf Try.f102 1) = num_Near_1.T1 := by kernel_rfl
theorem num_Near_1.bits1 : waitsOk num_Near_1.T1.2 num_Near_1.B1 = true := by kernel_rfl
set_option maxHeartbeats 8000000 in
set_option maxRecDepth 100000 in
theorem num_Near_1.calls (k : Nat) (a0_0 : Int) (a0_1 : Int) (a1_0 : Int) (a1_1 : Int) {gb : Nat} (a2_0 : Int) (a2_1 : Int) (r : Bool) (w : World) (hb : w.heap[gb]? = some (.cells #[.int .i64 a2_0, .int .i64 a2_1] 23 (0, 0))) (h : num_Near_1.f k a0_0 a0_1 a1_0 a1_1 a2_0 a2_1 = some r) :
    Calls Try.prog 102 #[.agg #[.int .i64 a0_0, .int .i64 a0_1], .agg #[.int .i64 a1_0, .int .i64 a1_1], .pointer (some ⟨gb, 0, none⟩)] w fun e w' => e = .returned (.bool r) ∧ Below w.heap.size w w' := by
  have hu65 := Try.underlying65
  have hu23 := Try.underlying23
  have BK862 := Aside0.mk hb
  clear hb
  have HB := Aside0.mk (Below.refl w.heap.size w)
  have H : ((num_ratio_off.f a0_0 a0_1 a2_0 a2_1).bind fun t865 => ((num_ratio_off.f a1_0 a1_1 a2_0 a2_1).bind fun t866 => (if (wrap64 (t865 * a1_1)) < (wrap64 (t866 * a0_1)) then (some true) else (if (wrap64 (t865 * a1_1)) = (wrap64 (t866 * a0_1)) then ((num_ratio_simpler.f k a0_0 a0_1 a1_0 a1_1).bind fun t867 => (some t867)) else (some false))))) = some r := h
  clear h
  replace H := Option.bind_eq_some_iff.mp H
  obtain ⟨t865, A40, H⟩ := H
  replace H : ((num_ratio_off.f a1_0 a1_1 a2_0 a2_1).bind fun t866 => (if (wrap64 (t865 * a1_1)) < (wrap64 (t866 * a0_1)) then (some true) else (if (wrap64 (t865 * a1_1)) = (wrap64 (t866 * a0_1)) then ((num_ratio_simpler.f k a0_0 a0_1 a1_0 a1_1).bind fun t867 => (some t867)) else (some false)))) = some r := H
  have A4 := Aside0.mk A40
  clear A40
  replace H := Option.bind_eq_some_iff.mp H
  obtain ⟨t866, A50, H⟩ := H
  replace H : (if (wrap64 (t865 * a1_1)) < (wrap64 (t866 * a0_1)) then (some true) else (if (wrap64 (t865 * a1_1)) = (wrap64 (t866 * a0_1)) then ((num_ratio_simpler.f k a0_0 a0_1 a1_0 a1_1).bind fun t867 => (some t867)) else (some false))) = some r := H
  have A5 := Aside0.mk A50
  clear A50
  by_cases c6 : (wrap64 (t865 * a1_1)) < (wrap64 (t866 * a0_1))
  · rw [if_pos c6] at H
    have c6b0 : decide ((wrap64 (t865 * a1_1)) < (wrap64 (t866 * a0_1))) = true := decide_eq_true c6
    clear c6
    obtain rfl := Option.some.inj H
    go_enter Try.func102, Try.ntmps102
    try go_wp2_with (first | ((with_reducible refine gate_dst (N := 3) rfl ?_); refine box_event ?hg (N := 3) ?hd (cs := #[.int .i64 a0_0, .int .i64 a0_1]) (t := 65) ?hr ?_; (case hd => rfl); (case hg => rfl); (case hr => first | (go_simp; done) | (go_simp; rfl)); intro gb863 hg w7 hbox hb; have BK863 := Aside0.mk hbox; have GW863 := bwg_ HB hg; have GE863 := bwg_ HB hg; replace HB := bws_ HB hb; have NB862_863 := bkl_ BK862 hg; have NB863_862 := bkr_ BK862 hg; replace BK862 := bkb_ BK862 hb; clear hb hbox hg) | ((with_reducible refine gate_dst (N := 4) rfl ?_); refine box_event ?hg (N := 4) ?hd (cs := #[.int .i64 a1_0, .int .i64 a1_1]) (t := 65) ?hr ?_; (case hd => rfl); (case hg => rfl); (case hr => first | (go_simp; done) | (go_simp; rfl)); intro gb864 hg w8 hbox hb; have BK864 := Aside0.mk hbox; have GW864 := bwg_ HB hg; have GE864 := bwg_ HB hg; replace HB := bws_ HB hb; have NB862_864 := bkl_ BK862 hg; have NB864_862 := bkr_ BK862 hg; replace BK862 := bkb_ BK862 hb; have NB863_864 := bkl_ BK863 hg; have NB864_863 := bkr_ BK863 hg; replace BK863 := bkb_ BK863 hb; clear hb hbox hg))
    replace BK862 := Aside0.mk (blk_drew BK862.out)
    replace BK863 := Aside0.mk (blk_drew BK863.out)
    replace BK864 := Aside0.mk (blk_drew BK864.out)
    replace HB := Aside0.mk (below_drew1 HB.out)
    refine start_ (n := 14) (S := fun w' => w'.cell? ⟨gb863, 0, none⟩ = some (.int .i64 a0_0) ∧ w'.cell? ⟨gb863, 1, none⟩ = some (.int .i64 a0_1) ∧ w'.cell? ⟨gb, 0, none⟩ = some (.int .i64 a2_0) ∧ w'.cell? ⟨gb, 1, none⟩ = some (.int .i64 a2_1) ∧ w'.cell? ⟨gb864, 0, none⟩ = some (.int .i64 a1_0) ∧ w'.cell? ⟨gb864, 1, none⟩ = some (.int .i64 a1_1)) (ds := []) #[false, false, false, false, false, false, false, false, false, false, false, false, false, false] (by kernel_rfl) rfl rfl ⟨(blk_cell BK863.out 0).trans rfl, (blk_cell BK863.out 1).trans rfl, (blk_cell BK862.out 0).trans rfl, (blk_cell BK862.out 1).trans rfl, (blk_cell BK864.out 0).trans rfl, (blk_cell BK864.out 1).trans rfl⟩ (fun hHeld => ?_); refine with_tabW num_Near_1.tab1 num_Near_1.bits1 (fun HT_ HW_ => ?_)
    generalize w8.drew = w9 at BK862 BK863 BK864 HB hHeld ⊢
    refine pure_ (i := 3) (N := some 11) (v := ?_) (a' := ?_) #[false, false, false, true, false, false, false, false, false, false, false, false, false, false] rfl rfl (any_of HT_.out (by kernel_rfl)) (fun _ _ _ h => h) (Or.inl ⟨by rfl, ?_⟩) ?_ ?_
    rotate_left
    · intro w'
      go_simp
      with_reducible rfl
    rotate_left
    · simp only [Act.put, List.setIfInBounds_toArray, List.set_cons_zero, List.set_cons_succ, i64_w, i32_w]
      rfl
    refine pure_ (i := 9) (N := some 17) (v := ?_) (a' := ?_) #[false, false, false, true, false, false, false, false, false, true, false, false, false, false] rfl rfl (any_of HT_.out (by kernel_rfl)) (fun _ _ _ h => h) (Or.inl ⟨by rfl, ?_⟩) ?_ ?_
    rotate_left
    · intro w'
      go_simp
      with_reducible rfl
    rotate_left
    · simp only [Act.put, List.setIfInBounds_toArray, List.set_cons_zero, List.set_cons_succ, i64_w, i32_w]
      rfl
    refine take_ (i := 0) (N := some 8) (v := ?_) (a' := ?_) #[true, false, false, true, false, false, false, false, false, true, false, false, false, false] rfl rfl (take_ofW HT_.out HW_.out (by kernel_rfl)) (fun _ _ _ h => h) (Or.inl ⟨by rfl, ?_⟩) hHeld ?_ ?_
    rotate_left
    · rintro w' ⟨s0, s1, s2, s3, s4, s5⟩
      go_simp
      with_reducible rfl
    rotate_left
    · simp only [Act.put, List.setIfInBounds_toArray, List.set_cons_zero, List.set_cons_succ, i64_w, i32_w]
      rfl
    refine take_ (i := 1) (N := some 9) (v := ?_) (a' := ?_) #[true, true, false, true, false, false, false, false, false, true, false, false, false, false] rfl rfl (take_ofW HT_.out HW_.out (by kernel_rfl)) (fun _ _ _ h => h) (Or.inl ⟨by rfl, ?_⟩) hHeld ?_ ?_
    rotate_left
    · rintro w' ⟨s0, s1, s2, s3, s4, s5⟩
      go_simp
      with_reducible rfl
    rotate_left
    · simp only [Act.put, List.setIfInBounds_toArray, List.set_cons_zero, List.set_cons_succ, i64_w, i32_w]
      rfl
    refine take_ (i := 4) (N := some 12) (v := ?_) (a' := ?_) #[true, true, false, true, true, false, false, false, false, true, false, false, false, false] rfl rfl (take_ofW HT_.out HW_.out (by kernel_rfl)) (fun _ _ _ h => h) (Or.inl ⟨by rfl, ?_⟩) hHeld ?_ ?_
    rotate_left
    · rintro w' ⟨s0, s1, s2, s3, s4, s5⟩
      go_simp
      with_reducible rfl
    rotate_left
    · simp only [Act.put, List.setIfInBounds_toArray, List.set_cons_zero, List.set_cons_succ, i64_w, i32_w]
      rfl
    refine take_ (i := 6) (N := some 14) (v := ?_) (a' := ?_) #[true, true, false, true, true, false, true, false, false, true, false, false, false, false] rfl rfl (take_ofW HT_.out HW_.out (by kernel_rfl)) (fun _ _ _ h => h) (Or.inl ⟨by rfl, ?_⟩) hHeld ?_ ?_
    rotate_left
    · rintro w' ⟨s0, s1, s2, s3, s4, s5⟩
      go_simp
      with_reducible rfl
    rotate_left
    · simp only [Act.put, List.setIfInBounds_toArray, List.set_cons_zero, List.set_cons_succ, i64_w, i32_w]
      rfl
    refine take_ (i := 7) (N := some 15) (v := ?_) (a' := ?_) #[true, true, false, true, true, false, true, true, false, true, false, false, false, false] rfl rfl (take_ofW HT_.out HW_.out (by kernel_rfl)) (fun _ _ _ h => h) (Or.inl ⟨by rfl, ?_⟩) hHeld ?_ ?_
    rotate_left
    · rintro w' ⟨s0, s1, s2, s3, s4, s5⟩
      go_simp
      with_reducible rfl
    rotate_left
    · simp only [Act.put, List.setIfInBounds_toArray, List.set_cons_zero, List.set_cons_succ, i64_w, i32_w]
      rfl
    refine take_ (i := 10) (N := some 18) (v := ?_) (a' := ?_) #[true, true, false, true, true, false, true, true, false, true, true, false, false, false] rfl rfl (take_ofW HT_.out HW_.out (by kernel_rfl)) (fun _ _ _ h => h) (Or.inl ⟨by rfl, ?_⟩) hHeld ?_ ?_
    rotate_left
    · rintro w' ⟨s0, s1, s2, s3, s4, s5⟩
      go_simp
      with_reducible rfl
    rotate_left
    · simp only [Act.put, List.setIfInBounds_toArray, List.set_cons_zero, List.set_cons_succ, i64_w, i32_w]
      rfl
    refine one_ (i := 2) (N := some 10) #[true, true, true, true, true, false, true, true, false, true, true, false, false, false] rfl rfl (one_of HT_.out (by kernel_rfl)) (by decide) (fun K hK => ?_)
    refine gos_ Try.func103 #[.agg #[.int .i64 a0_0, .int .i64 a0_1], .agg #[.int .i64 a2_0, .int .i64 a2_1]] ?_
    with_reducible refine (num_ratio_off.calls a0_0 a0_1 a2_0 a2_1 t865 _ A4.out).mono ?_
    rintro e w10 ⟨rfl, hb⟩
    refine ⟨_, rfl, ?_⟩
    replace BK862 := bkb_ BK862 hb
    replace BK863 := bkb_ BK863 hb
    replace BK864 := bkb_ BK864 hb
    replace HB := bws_ HB hb
    (try clear hb)
    (try clear hb2)
    (try clear hk)
    (try clear hi)
    refine hK.out _ _ ⟨(blk_cell BK863.out 0).trans rfl, (blk_cell BK863.out 1).trans rfl, (blk_cell BK862.out 0).trans rfl, (blk_cell BK862.out 1).trans rfl, (blk_cell BK864.out 0).trans rfl, (blk_cell BK864.out 1).trans rfl⟩ (fun hHeld => ?_)
    clear hK K
    refine norm_ (a' := ?_) ?_ ?_
    rotate_left
    · show Act.put _ (some 10) _ = _
      simp only [Act.put, List.setIfInBounds_toArray, List.set_cons_zero, List.set_cons_succ, i64_w, i32_w]
      rfl
    refine pure_ (i := 5) (N := some 13) (v := ?_) (a' := ?_) #[true, true, true, true, true, true, true, true, false, true, true, false, false, false] rfl rfl (any_of HT_.out (by kernel_rfl)) (fun _ _ _ h => h) (Or.inl ⟨by rfl, ?_⟩) ?_ ?_
    rotate_left
    · intro w'
      go_simp
      with_reducible rfl
    rotate_left
    · simp only [Act.put, List.setIfInBounds_toArray, List.set_cons_zero, List.set_cons_succ, i64_w, i32_w]
      rfl
    refine one_ (i := 8) (N := some 16) #[true, true, true, true, true, true, true, true, true, true, true, false, false, false] rfl rfl (one_of HT_.out (by kernel_rfl)) (by decide) (fun K hK => ?_)
    refine gos_ Try.func103 #[.agg #[.int .i64 a1_0, .int .i64 a1_1], .agg #[.int .i64 a2_0, .int .i64 a2_1]] ?_
    with_reducible refine (num_ratio_off.calls a1_0 a1_1 a2_0 a2_1 t866 _ A5.out).mono ?_
    rintro e w11 ⟨rfl, hb⟩
    refine ⟨_, rfl, ?_⟩
    replace BK862 := bkb_ BK862 hb
    replace BK863 := bkb_ BK863 hb
    replace BK864 := bkb_ BK864 hb
    replace HB := bws_ HB hb
    (try clear hb)
    (try clear hb2)
    (try clear hk)
    (try clear hi)
    refine hK.out _ _ ⟨(blk_cell BK863.out 0).trans rfl, (blk_cell BK863.out 1).trans rfl, (blk_cell BK862.out 0).trans rfl, (blk_cell BK862.out 1).trans rfl, (blk_cell BK864.out 0).trans rfl, (blk_cell BK864.out 1).trans rfl⟩ (fun hHeld => ?_)
    clear hK K
    refine norm_ (a' := ?_) ?_ ?_
    rotate_left
    · show Act.put _ (some 16) _ = _
      simp only [Act.put, List.setIfInBounds_toArray, List.set_cons_zero, List.set_cons_succ, i64_w, i32_w]
      rfl
    refine pure_ (i := 11) (N := some 19) (v := ?_) (a' := ?_) #[true, true, true, true, true, true, true, true, true, true, true, true, false, false] rfl rfl (any_of HT_.out (by kernel_rfl)) (fun _ _ _ h => h) (Or.inl ⟨by rfl, ?_⟩) ?_ ?_
    rotate_left
    · intro w'
      go_simp
      with_reducible rfl
    rotate_left
    · simp only [Act.put, List.setIfInBounds_toArray, List.set_cons_zero, List.set_cons_succ, i64_w, i32_w]
      rfl
    refine pure_ (i := 12) (N := some 6) (v := ?_) (a' := ?_) #[true, true, true, true, true, true, true, true, true, true, true, true, true, false] rfl rfl (any_of HT_.out (by kernel_rfl)) (fun _ _ _ h => h) (Or.inl ⟨by rfl, ?_⟩) ?_ ?_
    rotate_left
    · intro w'
      go_simp
      with_reducible rfl
    rotate_left
    · simp only [Act.put, List.setIfInBounds_toArray, List.set_cons_zero, List.set_cons_succ, i64_w, i32_w]
      rfl
    refine pure_ (i := 13) (N := some 7) (v := ?_) (a' := ?_) #[true, true, true, true, true, true, true, true, true, true, true, true, true, true] rfl rfl (any_of HT_.out (by kernel_rfl)) (fun _ _ _ h => h) (Or.inl ⟨by rfl, ?_⟩) ?_ ?_
    rotate_left
    · intro w'
      go_simp
      with_reducible rfl
    rotate_left
    · simp only [Act.put, List.setIfInBounds_toArray, List.set_cons_zero, List.set_cons_succ, i64_w, i32_w]
      rfl
    refine done_ (done_of HT_.out (by kernel_rfl)) ?_
    try go_wp2
    go_ret
    exact ⟨by first | rfl | (simp [*] <;> rfl), bw_ HB⟩
  · rw [if_neg c6] at H
    have c6b0 : decide ((wrap64 (t865 * a1_1)) < (wrap64 (t866 * a0_1))) = false := decide_eq_false c6
    clear c6
    by_cases c12 : (wrap64 (t865 * a1_1)) = (wrap64 (t866 * a0_1))
    · rw [if_pos c12] at H
      have c12b0 : ((wrap64 (t865 * a1_1)) == (wrap64 (t866 * a0_1))) = true := beq_iff_eq.mpr c12
      have c12b1 : ((wrap64 (t865 * a1_1)) != (wrap64 (t866 * a0_1))) = false := bne_eq_false_iff_eq.mpr c12
      clear c12
      replace H := Option.bind_eq_some_iff.mp H
      obtain ⟨t867, A130, H⟩ := H
      replace H : (some t867) = some r := H
      have A13 := Aside0.mk A130
      clear A130
      obtain rfl := Option.some.inj H
      go_enter Try.func102, Try.ntmps102
      try go_wp2_with (first | ((with_reducible refine gate_dst (N := 3) rfl ?_); refine box_event ?hg (N := 3) ?hd (cs := #[.int .i64 a0_0, .int .i64 a0_1]) (t := 65) ?hr ?_; (case hd => rfl); (case hg => rfl); (case hr => first | (go_simp; done) | (go_simp; rfl)); intro gb863 hg w14 hbox hb; have BK863 := Aside0.mk hbox; have GW863 := bwg_ HB hg; have GE863 := bwg_ HB hg; replace HB := bws_ HB hb; have NB862_863 := bkl_ BK862 hg; have NB863_862 := bkr_ BK862 hg; replace BK862 := bkb_ BK862 hb; clear hb hbox hg) | ((with_reducible refine gate_dst (N := 4) rfl ?_); refine box_event ?hg (N := 4) ?hd (cs := #[.int .i64 a1_0, .int .i64 a1_1]) (t := 65) ?hr ?_; (case hd => rfl); (case hg => rfl); (case hr => first | (go_simp; done) | (go_simp; rfl)); intro gb864 hg w15 hbox hb; have BK864 := Aside0.mk hbox; have GW864 := bwg_ HB hg; have GE864 := bwg_ HB hg; replace HB := bws_ HB hb; have NB862_864 := bkl_ BK862 hg; have NB864_862 := bkr_ BK862 hg; replace BK862 := bkb_ BK862 hb; have NB863_864 := bkl_ BK863 hg; have NB864_863 := bkr_ BK863 hg; replace BK863 := bkb_ BK863 hb; clear hb hbox hg))
      replace BK862 := Aside0.mk (blk_drew BK862.out)
      replace BK863 := Aside0.mk (blk_drew BK863.out)
      replace BK864 := Aside0.mk (blk_drew BK864.out)
      replace HB := Aside0.mk (below_drew1 HB.out)
      refine start_ (n := 14) (S := fun w' => w'.cell? ⟨gb863, 0, none⟩ = some (.int .i64 a0_0) ∧ w'.cell? ⟨gb863, 1, none⟩ = some (.int .i64 a0_1) ∧ w'.cell? ⟨gb, 0, none⟩ = some (.int .i64 a2_0) ∧ w'.cell? ⟨gb, 1, none⟩ = some (.int .i64 a2_1) ∧ w'.cell? ⟨gb864, 0, none⟩ = some (.int .i64 a1_0) ∧ w'.cell? ⟨gb864, 1, none⟩ = some (.int .i64 a1_1)) (ds := []) #[false, false, false, false, false, false, false, false, false, false, false, false, false, false] (by kernel_rfl) rfl rfl ⟨(blk_cell BK863.out 0).trans rfl, (blk_cell BK863.out 1).trans rfl, (blk_cell BK862.out 0).trans rfl, (blk_cell BK862.out 1).trans rfl, (blk_cell BK864.out 0).trans rfl, (blk_cell BK864.out 1).trans rfl⟩ (fun hHeld => ?_); refine with_tabW num_Near_1.tab1 num_Near_1.bits1 (fun HT_ HW_ => ?_)
      generalize w15.drew = w16 at BK862 BK863 BK864 HB hHeld ⊢
      refine pure_ (i := 3) (N := some 11) (v := ?_) (a' := ?_) #[false, false, false, true, false, false, false, false, false, false, false, false, false, false] rfl rfl (any_of HT_.out (by kernel_rfl)) (fun _ _ _ h => h) (Or.inl ⟨by rfl, ?_⟩) ?_ ?_
      rotate_left
      · intro w'
        go_simp
        with_reducible rfl
      rotate_left
      · simp only [Act.put, List.setIfInBounds_toArray, List.set_cons_zero, List.set_cons_succ, i64_w, i32_w]
        rfl
      refine pure_ (i := 9) (N := some 17) (v := ?_) (a' := ?_) #[false, false, false, true, false, false, false, false, false, true, false, false, false, false] rfl rfl (any_of HT_.out (by kernel_rfl)) (fun _ _ _ h => h) (Or.inl ⟨by rfl, ?_⟩) ?_ ?_
      rotate_left
      · intro w'
        go_simp
        with_reducible rfl
      rotate_left
      · simp only [Act.put, List.setIfInBounds_toArray, List.set_cons_zero, List.set_cons_succ, i64_w, i32_w]
        rfl
      refine take_ (i := 0) (N := some 8) (v := ?_) (a' := ?_) #[true, false, false, true, false, false, false, false, false, true, false, false, false, false] rfl rfl (take_ofW HT_.out HW_.out (by kernel_rfl)) (fun _ _ _ h => h) (Or.inl ⟨by rfl, ?_⟩) hHeld ?_ ?_
      rotate_left
      · rintro w' ⟨s0, s1, s2, s3, s4, s5⟩
        go_simp
        with_reducible rfl
      rotate_left
      · simp only [Act.put, List.setIfInBounds_toArray, List.set_cons_zero, List.set_cons_succ, i64_w, i32_w]
        rfl
      refine take_ (i := 1) (N := some 9) (v := ?_) (a' := ?_) #[true, true, false, true, false, false, false, false, false, true, false, false, false, false] rfl rfl (take_ofW HT_.out HW_.out (by kernel_rfl)) (fun _ _ _ h => h) (Or.inl ⟨by rfl, ?_⟩) hHeld ?_ ?_
      rotate_left
      · rintro w' ⟨s0, s1, s2, s3, s4, s5⟩
        go_simp
        with_reducible rfl
      rotate_left
      · simp only [Act.put, List.setIfInBounds_toArray, List.set_cons_zero, List.set_cons_succ, i64_w, i32_w]
        rfl
      refine take_ (i := 4) (N := some 12) (v := ?_) (a' := ?_) #[true, true, false, true, true, false, false, false, false, true, false, false, false, false] rfl rfl (take_ofW HT_.out HW_.out (by kernel_rfl)) (fun _ _ _ h => h) (Or.inl ⟨by rfl, ?_⟩) hHeld ?_ ?_
      rotate_left
      · rintro w' ⟨s0, s1, s2, s3, s4, s5⟩
        go_simp
        with_reducible rfl
      rotate_left
      · simp only [Act.put, List.setIfInBounds_toArray, List.set_cons_zero, List.set_cons_succ, i64_w, i32_w]
        rfl
      refine take_ (i := 6) (N := some 14) (v := ?_) (a' := ?_) #[true, true, false, true, true, false, true, false, false, true, false, false, false, false] rfl rfl (take_ofW HT_.out HW_.out (by kernel_rfl)) (fun _ _ _ h => h) (Or.inl ⟨by rfl, ?_⟩) hHeld ?_ ?_
      rotate_left
      · rintro w' ⟨s0, s1, s2, s3, s4, s5⟩
        go_simp
        with_reducible rfl
      rotate_left
      · simp only [Act.put, List.setIfInBounds_toArray, List.set_cons_zero, List.set_cons_succ, i64_w, i32_w]
        rfl
      refine take_ (i := 7) (N := some 15) (v := ?_) (a' := ?_) #[true, true, false, true, true, false, true, true, false, true, false, false, false, false] rfl rfl (take_ofW HT_.out HW_.out (by kernel_rfl)) (fun _ _ _ h => h) (Or.inl ⟨by rfl, ?_⟩) hHeld ?_ ?_
      rotate_left
      · rintro w' ⟨s0, s1, s2, s3, s4, s5⟩
        go_simp
        with_reducible rfl
      rotate_left
      · simp only [Act.put, List.setIfInBounds_toArray, List.set_cons_zero, List.set_cons_succ, i64_w, i32_w]
        rfl
      refine take_ (i := 10) (N := some 18) (v := ?_) (a' := ?_) #[true, true, false, true, true, false, true, true, false, true, true, false, false, false] rfl rfl (take_ofW HT_.out HW_.out (by kernel_rfl)) (fun _ _ _ h => h) (Or.inl ⟨by rfl, ?_⟩) hHeld ?_ ?_
      rotate_left
      · rintro w' ⟨s0, s1, s2, s3, s4, s5⟩
        go_simp
        with_reducible rfl
      rotate_left
      · simp only [Act.put, List.setIfInBounds_toArray, List.set_cons_zero, List.set_cons_succ, i64_w, i32_w]
        rfl
      refine one_ (i := 2) (N := some 10) #[true, true, true, true, true, false, true, true, false, true, true, false, false, false] rfl rfl (one_of HT_.out (by kernel_rfl)) (by decide) (fun K hK => ?_)
      refine gos_ Try.func103 #[.agg #[.int .i64 a0_0, .int .i64 a0_1], .agg #[.int .i64 a2_0, .int .i64 a2_1]] ?_
      with_reducible refine (num_ratio_off.calls a0_0 a0_1 a2_0 a2_1 t865 _ A4.out).mono ?_
      rintro e w17 ⟨rfl, hb⟩
      refine ⟨_, rfl, ?_⟩
      replace BK862 := bkb_ BK862 hb
      replace BK863 := bkb_ BK863 hb
      replace BK864 := bkb_ BK864 hb
      replace HB := bws_ HB hb
      (try clear hb)
      (try clear hb2)
      (try clear hk)
      (try clear hi)
      refine hK.out _ _ ⟨(blk_cell BK863.out 0).trans rfl, (blk_cell BK863.out 1).trans rfl, (blk_cell BK862.out 0).trans rfl, (blk_cell BK862.out 1).trans rfl, (blk_cell BK864.out 0).trans rfl, (blk_cell BK864.out 1).trans rfl⟩ (fun hHeld => ?_)
      clear hK K
      refine norm_ (a' := ?_) ?_ ?_
      rotate_left
      · show Act.put _ (some 10) _ = _
        simp only [Act.put, List.setIfInBounds_toArray, List.set_cons_zero, List.set_cons_succ, i64_w, i32_w]
        rfl
      refine pure_ (i := 5) (N := some 13) (v := ?_) (a' := ?_) #[true, true, true, true, true, true, true, true, false, true, true, false, false, false] rfl rfl (any_of HT_.out (by kernel_rfl)) (fun _ _ _ h => h) (Or.inl ⟨by rfl, ?_⟩) ?_ ?_
      rotate_left
      · intro w'
        go_simp
        with_reducible rfl
      rotate_left
      · simp only [Act.put, List.setIfInBounds_toArray, List.set_cons_zero, List.set_cons_succ, i64_w, i32_w]
        rfl
      refine one_ (i := 8) (N := some 16) #[true, true, true, true, true, true, true, true, true, true, true, false, false, false] rfl rfl (one_of HT_.out (by kernel_rfl)) (by decide) (fun K hK => ?_)
      refine gos_ Try.func103 #[.agg #[.int .i64 a1_0, .int .i64 a1_1], .agg #[.int .i64 a2_0, .int .i64 a2_1]] ?_
      with_reducible refine (num_ratio_off.calls a1_0 a1_1 a2_0 a2_1 t866 _ A5.out).mono ?_
      rintro e w18 ⟨rfl, hb⟩
      refine ⟨_, rfl, ?_⟩
      replace BK862 := bkb_ BK862 hb
      replace BK863 := bkb_ BK863 hb
      replace BK864 := bkb_ BK864 hb
      replace HB := bws_ HB hb
      (try clear hb)
      (try clear hb2)
      (try clear hk)
      (try clear hi)
      refine hK.out _ _ ⟨(blk_cell BK863.out 0).trans rfl, (blk_cell BK863.out 1).trans rfl, (blk_cell BK862.out 0).trans rfl, (blk_cell BK862.out 1).trans rfl, (blk_cell BK864.out 0).trans rfl, (blk_cell BK864.out 1).trans rfl⟩ (fun hHeld => ?_)
      clear hK K
      refine norm_ (a' := ?_) ?_ ?_
      rotate_left
      · show Act.put _ (some 16) _ = _
        simp only [Act.put, List.setIfInBounds_toArray, List.set_cons_zero, List.set_cons_succ, i64_w, i32_w]
        rfl
      refine pure_ (i := 11) (N := some 19) (v := ?_) (a' := ?_) #[true, true, true, true, true, true, true, true, true, true, true, true, false, false] rfl rfl (any_of HT_.out (by kernel_rfl)) (fun _ _ _ h => h) (Or.inl ⟨by rfl, ?_⟩) ?_ ?_
      rotate_left
      · intro w'
        go_simp
        with_reducible rfl
      rotate_left
      · simp only [Act.put, List.setIfInBounds_toArray, List.set_cons_zero, List.set_cons_succ, i64_w, i32_w]
        rfl
      refine pure_ (i := 12) (N := some 6) (v := ?_) (a' := ?_) #[true, true, true, true, true, true, true, true, true, true, true, true, true, false] rfl rfl (any_of HT_.out (by kernel_rfl)) (fun _ _ _ h => h) (Or.inl ⟨by rfl, ?_⟩) ?_ ?_
      rotate_left
      · intro w'
        go_simp
        with_reducible rfl
      rotate_left
      · simp only [Act.put, List.setIfInBounds_toArray, List.set_cons_zero, List.set_cons_succ, i64_w, i32_w]
        rfl
      refine pure_ (i := 13) (N := some 7) (v := ?_) (a' := ?_) #[true, true, true, true, true, true, true, true, true, true, true, true, true, true] rfl rfl (any_of HT_.out (by kernel_rfl)) (fun _ _ _ h => h) (Or.inl ⟨by rfl, ?_⟩) ?_ ?_
      rotate_left
      · intro w'
        go_simp
        with_reducible rfl
      rotate_left
      · simp only [Act.put, List.setIfInBounds_toArray, List.set_cons_zero, List.set_cons_succ, i64_w, i32_w]
        rfl
      refine done_ (done_of HT_.out (by kernel_rfl)) ?_
      have hnb19 := NB863_862.out
      have hnc19 := NB862_863.out
      have hnb20 := NB863_864.out
      have hnc20 := NB864_863.out
      obtain ⟨hcz21_0, hcz21_1, hfz21_0, hfz21_1⟩ := bc2_ BK863
      have hnb22 := NB864_862.out
      have hnc22 := NB862_864.out
      obtain ⟨hcz23_0, hcz23_1, hfz23_0, hfz23_1⟩ := bc2_ BK864
      try go_wp2_with (first | (go_at_call 104; (with_reducible refine (num_ratio_simpler.calls k a0_0 a0_1 a1_0 a1_1 t867 _ A13.out).mono ?_); rintro e w24 ⟨rfl, hb⟩; replace BK862 := bkb_ BK862 hb; replace BK863 := bkb_ BK863 hb; replace BK864 := bkb_ BK864 hb; replace HB := bws_ HB hb; (try clear hb); (try clear hb2); (try clear hk); (try clear hi)))
      go_ret
      exact ⟨by first | rfl | (simp [*] <;> rfl), bw_ HB⟩
    · rw [if_neg c12] at H
      have c12b0 : ((wrap64 (t865 * a1_1)) == (wrap64 (t866 * a0_1))) = false := beq_eq_false_iff_ne.mpr c12
      have c12b1 : ((wrap64 (t865 * a1_1)) != (wrap64 (t866 * a0_1))) = true := bne_iff_ne.mpr c12
      obtain rfl := Option.some.inj H
      go_enter Try.func102, Try.ntmps102
      try go_wp2_with (first | ((with_reducible refine gate_dst (N := 3) rfl ?_); refine box_event ?hg (N := 3) ?hd (cs := #[.int .i64 a0_0, .int .i64 a0_1]) (t := 65) ?hr ?_; (case hd => rfl); (case hg => rfl); (case hr => first | (go_simp; done) | (go_simp; rfl)); intro gb863 hg w25 hbox hb; have BK863 := Aside0.mk hbox; have GW863 := bwg_ HB hg; have GE863 := bwg_ HB hg; replace HB := bws_ HB hb; have NB862_863 := bkl_ BK862 hg; have NB863_862 := bkr_ BK862 hg; replace BK862 := bkb_ BK862 hb; clear hb hbox hg) | ((with_reducible refine gate_dst (N := 4) rfl ?_); refine box_event ?hg (N := 4) ?hd (cs := #[.int .i64 a1_0, .int .i64 a1_1]) (t := 65) ?hr ?_; (case hd => rfl); (case hg => rfl); (case hr => first | (go_simp; done) | (go_simp; rfl)); intro gb864 hg w26 hbox hb; have BK864 := Aside0.mk hbox; have GW864 := bwg_ HB hg; have GE864 := bwg_ HB hg; replace HB := bws_ HB hb; have NB862_864 := bkl_ BK862 hg; have NB864_862 := bkr_ BK862 hg; replace BK862 := bkb_ BK862 hb; have NB863_864 := bkl_ BK863 hg; have NB864_863 := bkr_ BK863 hg; replace BK863 := bkb_ BK863 hb; clear hb hbox hg))
      replace BK862 := Aside0.mk (blk_drew BK862.out)
      replace BK863 := Aside0.mk (blk_drew BK863.out)
      replace BK864 := Aside0.mk (blk_drew BK864.out)
      replace HB := Aside0.mk (below_drew1 HB.out)
      refine start_ (n := 14) (S := fun w' => w'.cell? ⟨gb863, 0, none⟩ = some (.int .i64 a0_0) ∧ w'.cell? ⟨gb863, 1, none⟩ = some (.int .i64 a0_1) ∧ w'.cell? ⟨gb, 0, none⟩ = some (.int .i64 a2_0) ∧ w'.cell? ⟨gb, 1, none⟩ = some (.int .i64 a2_1) ∧ w'.cell? ⟨gb864, 0, none⟩ = some (.int .i64 a1_0) ∧ w'.cell? ⟨gb864, 1, none⟩ = some (.int .i64 a1_1)) (ds := []) #[false, false, false, false, false, false, false, false, false, false, false, false, false, false] (by kernel_rfl) rfl rfl ⟨(blk_cell BK863.out 0).trans rfl, (blk_cell BK863.out 1).trans rfl, (blk_cell BK862.out 0).trans rfl, (blk_cell BK862.out 1).trans rfl, (blk_cell BK864.out 0).trans rfl, (blk_cell BK864.out 1).trans rfl⟩ (fun hHeld => ?_); refine with_tabW num_Near_1.tab1 num_Near_1.bits1 (fun HT_ HW_ => ?_)
      generalize w26.drew = w27 at BK862 BK863 BK864 HB hHeld ⊢
      refine pure_ (i := 3) (N := some 11) (v := ?_) (a' := ?_) #[false, false, false, true, false, false, false, false, false, false, false, false, false, false] rfl rfl (any_of HT_.out (by kernel_rfl)) (fun _ _ _ h => h) (Or.inl ⟨by rfl, ?_⟩) ?_ ?_
      rotate_left
      · intro w'
        go_simp
        with_reducible rfl
      rotate_left
      · simp only [Act.put, List.setIfInBounds_toArray, List.set_cons_zero, List.set_cons_succ, i64_w, i32_w]
        rfl
      refine pure_ (i := 9) (N := some 17) (v := ?_) (a' := ?_) #[false, false, false, true, false, false, false, false, false, true, false, false, false, false] rfl rfl (any_of HT_.out (by kernel_rfl)) (fun _ _ _ h => h) (Or.inl ⟨by rfl, ?_⟩) ?_ ?_
      rotate_left
      · intro w'
        go_simp
        with_reducible rfl
      rotate_left
      · simp only [Act.put, List.setIfInBounds_toArray, List.set_cons_zero, List.set_cons_succ, i64_w, i32_w]
        rfl
      refine take_ (i := 0) (N := some 8) (v := ?_) (a' := ?_) #[true, false, false, true, false, false, false, false, false, true, false, false, false, false] rfl rfl (take_ofW HT_.out HW_.out (by kernel_rfl)) (fun _ _ _ h => h) (Or.inl ⟨by rfl, ?_⟩) hHeld ?_ ?_
      rotate_left
      · rintro w' ⟨s0, s1, s2, s3, s4, s5⟩
        go_simp
        with_reducible rfl
      rotate_left
      · simp only [Act.put, List.setIfInBounds_toArray, List.set_cons_zero, List.set_cons_succ, i64_w, i32_w]
        rfl
      refine take_ (i := 1) (N := some 9) (v := ?_) (a' := ?_) #[true, true, false, true, false, false, false, false, false, true, false, false, false, false] rfl rfl (take_ofW HT_.out HW_.out (by kernel_rfl)) (fun _ _ _ h => h) (Or.inl ⟨by rfl, ?_⟩) hHeld ?_ ?_
      rotate_left
      · rintro w' ⟨s0, s1, s2, s3, s4, s5⟩
        go_simp
        with_reducible rfl
      rotate_left
      · simp only [Act.put, List.setIfInBounds_toArray, List.set_cons_zero, List.set_cons_succ, i64_w, i32_w]
        rfl
      refine take_ (i := 4) (N := some 12) (v := ?_) (a' := ?_) #[true, true, false, true, true, false, false, false, false, true, false, false, false, false] rfl rfl (take_ofW HT_.out HW_.out (by kernel_rfl)) (fun _ _ _ h => h) (Or.inl ⟨by rfl, ?_⟩) hHeld ?_ ?_
      rotate_left
      · rintro w' ⟨s0, s1, s2, s3, s4, s5⟩
        go_simp
        with_reducible rfl
      rotate_left
      · simp only [Act.put, List.setIfInBounds_toArray, List.set_cons_zero, List.set_cons_succ, i64_w, i32_w]
        rfl
      refine take_ (i := 6) (N := some 14) (v := ?_) (a' := ?_) #[true, true, false, true, true, false, true, false, false, true, false, false, false, false] rfl rfl (take_ofW HT_.out HW_.out (by kernel_rfl)) (fun _ _ _ h => h) (Or.inl ⟨by rfl, ?_⟩) hHeld ?_ ?_
      rotate_left
      · rintro w' ⟨s0, s1, s2, s3, s4, s5⟩
        go_simp
        with_reducible rfl
      rotate_left
      · simp only [Act.put, List.setIfInBounds_toArray, List.set_cons_zero, List.set_cons_succ, i64_w, i32_w]
        rfl
      refine take_ (i := 7) (N := some 15) (v := ?_) (a' := ?_) #[true, true, false, true, true, false, true, true, false, true, false, false, false, false] rfl rfl (take_ofW HT_.out HW_.out (by kernel_rfl)) (fun _ _ _ h => h) (Or.inl ⟨by rfl, ?_⟩) hHeld ?_ ?_
      rotate_left
      · rintro w' ⟨s0, s1, s2, s3, s4, s5⟩
        go_simp
        with_reducible rfl
      rotate_left
      · simp only [Act.put, List.setIfInBounds_toArray, List.set_cons_zero, List.set_cons_succ, i64_w, i32_w]
        rfl
      refine take_ (i := 10) (N := some 18) (v := ?_) (a' := ?_) #[true, true, false, true, true, false, true, true, false, true, true, false, false, false] rfl rfl (take_ofW HT_.out HW_.out (by kernel_rfl)) (fun _ _ _ h => h) (Or.inl ⟨by rfl, ?_⟩) hHeld ?_ ?_
      rotate_left
      · rintro w' ⟨s0, s1, s2, s3, s4, s5⟩
        go_simp
        with_reducible rfl
      rotate_left
      · simp only [Act.put, List.setIfInBounds_toArray, List.set_cons_zero, List.set_cons_succ, i64_w, i32_w]
        rfl
      refine one_ (i := 2) (N := some 10) #[true, true, true, true, true, false, true, true, false, true, true, false, false, false] rfl rfl (one_of HT_.out (by kernel_rfl)) (by decide) (fun K hK => ?_)
      refine gos_ Try.func103 #[.agg #[.int .i64 a0_0, .int .i64 a0_1], .agg #[.int .i64 a2_0, .int .i64 a2_1]] ?_
      with_reducible refine (num_ratio_off.calls a0_0 a0_1 a2_0 a2_1 t865 _ A4.out).mono ?_
      rintro e w28 ⟨rfl, hb⟩
      refine ⟨_, rfl, ?_⟩
      replace BK862 := bkb_ BK862 hb
      replace BK863 := bkb_ BK863 hb
      replace BK864 := bkb_ BK864 hb
      replace HB := bws_ HB hb
      (try clear hb)
      (try clear hb2)
      (try clear hk)
      (try clear hi)
      refine hK.out _ _ ⟨(blk_cell BK863.out 0).trans rfl, (blk_cell BK863.out 1).trans rfl, (blk_cell BK862.out 0).trans rfl, (blk_cell BK862.out 1).trans rfl, (blk_cell BK864.out 0).trans rfl, (blk_cell BK864.out 1).trans rfl⟩ (fun hHeld => ?_)
      clear hK K
      refine norm_ (a' := ?_) ?_ ?_
      rotate_left
      · show Act.put _ (some 10) _ = _
        simp only [Act.put, List.setIfInBounds_toArray, List.set_cons_zero, List.set_cons_succ, i64_w, i32_w]
        rfl
      refine pure_ (i := 5) (N := some 13) (v := ?_) (a' := ?_) #[true, true, true, true, true, true, true, true, false, true, true, false, false, false] rfl rfl (any_of HT_.out (by kernel_rfl)) (fun _ _ _ h => h) (Or.inl ⟨by rfl, ?_⟩) ?_ ?_
      rotate_left
      · intro w'
        go_simp
        with_reducible rfl
      rotate_left
      · simp only [Act.put, List.setIfInBounds_toArray, List.set_cons_zero, List.set_cons_succ, i64_w, i32_w]
        rfl
      refine one_ (i := 8) (N := some 16) #[true, true, true, true, true, true, true, true, true, true, true, false, false, false] rfl rfl (one_of HT_.out (by kernel_rfl)) (by decide) (fun K hK => ?_)
      refine gos_ Try.func103 #[.agg #[.int .i64 a1_0, .int .i64 a1_1], .agg #[.int .i64 a2_0, .int .i64 a2_1]] ?_
      with_reducible refine (num_ratio_off.calls a1_0 a1_1 a2_0 a2_1 t866 _ A5.out).mono ?_
      rintro e w29 ⟨rfl, hb⟩
      refine ⟨_, rfl, ?_⟩
      replace BK862 := bkb_ BK862 hb
      replace BK863 := bkb_ BK863 hb
      replace BK864 := bkb_ BK864 hb
      replace HB := bws_ HB hb
      (try clear hb)
      (try clear hb2)
      (try clear hk)
      (try clear hi)
      refine hK.out _ _ ⟨(blk_cell BK863.out 0).trans rfl, (blk_cell BK863.out 1).trans rfl, (blk_cell BK862.out 0).trans rfl, (blk_cell BK862.out 1).trans rfl, (blk_cell BK864.out 0).trans rfl, (blk_cell BK864.out 1).trans rfl⟩ (fun hHeld => ?_)
      clear hK K
      refine norm_ (a' := ?_) ?_ ?_
      rotate_left
      · show Act.put _ (some 16) _ = _
        simp only [Act.put, List.setIfInBounds_toArray, List.set_cons_zero, List.set_cons_succ, i64_w, i32_w]
        rfl
      refine pure_ (i := 11) (N := some 19) (v := ?_) (a' := ?_) #[true, true, true, true, true, true, true, true, true, true, true, true, false, false] rfl rfl (any_of HT_.out (by kernel_rfl)) (fun _ _ _ h => h) (Or.inl ⟨by rfl, ?_⟩) ?_ ?_
      rotate_left
      · intro w'
        go_simp
        with_reducible rfl
      rotate_left
      · simp only [Act.put, List.setIfInBounds_toArray, List.set_cons_zero, List.set_cons_succ, i64_w, i32_w]
        rfl
      refine pure_ (i := 12) (N := some 6) (v := ?_) (a' := ?_) #[true, true, true, true, true, true, true, true, true, true, true, true, true, false] rfl rfl (any_of HT_.out (by kernel_rfl)) (fun _ _ _ h => h) (Or.inl ⟨by rfl, ?_⟩) ?_ ?_
      rotate_left
      · intro w'
        go_simp
        with_reducible rfl
      rotate_left
      · simp only [Act.put, List.setIfInBounds_toArray, List.set_cons_zero, List.set_cons_succ, i64_w, i32_w]
        rfl
      refine pure_ (i := 13) (N := some 7) (v := ?_) (a' := ?_) #[true, true, true, true, true, true, true, true, true, true, true, true, true, true] rfl rfl (any_of HT_.out (by kernel_rfl)) (fun _ _ _ h => h) (Or.inl ⟨by rfl, ?_⟩) ?_ ?_
      rotate_left
      · intro w'
        go_simp
        with_reducible rfl
      rotate_left
      · simp only [Act.put, List.setIfInBounds_toArray, List.set_cons_zero, List.set_cons_succ, i64_w, i32_w]
        rfl
      refine done_ (done_of HT_.out (by kernel_rfl)) ?_
      try go_wp2
      go_ret
      exact ⟨by first | rfl | (simp [*] <;> rfl), bw_ HB⟩
/-! ### num_ratio: function 101 -/
def num_ratio.l0 : Nat → List (S65) → Int → Int → Int → Int → Int → Int → Option (Int × Int)
  | 0, _, _, _, _, _, _, _ => none
  | k + 1, x12, x13, x14, x869000, x869001, x872000, x872001 => if x14 < x13 then (if 0 ≤ x14 then (if x14 < (x12.length : Int) then ((num_Near_1.f k ((rd_T65 x12 x14).f0) ((rd_T65 x12 x14).f1) x872000 x872001 x869000 x869001).bind fun t878 => (if t878 = true then (num_ratio.l0 k x12 x13 (wrap64 (x14 + 1)) x869000 x869001 ((rd_T65 x12 x14).f0) ((rd_T65 x12 x14).f1)) else (num_ratio.l0 k x12 x13 (wrap64 (x14 + 1)) x869000 x869001 x872000 x872001))) else (none)) else (none)) else (some (x872000, x872001))
def num_ratio.f (k : Nat) (l0 : List (S65)) (a1_0 : Int) (a1_1 : Int) : Option (Int × Int) := if 0 < (l0.length : Int) then (if 1 ≤ (l0.length : Int) then ((some (l0.drop 1 : List (S65))).bind fun y872 => (num_ratio.l0 k y872 (y872.length : Int) 0 a1_0 a1_1 ((rd_T65 l0 0).f0) ((rd_T65 l0 0).f1))) else (none)) else (none)
theorem num_ratio.mono_l : ∀ k, (∀ y0 y1 y2 y3 y4 y5 y6, LeO (num_ratio.l0 k y0 y1 y2 y3 y4 y5 y6) (num_ratio.l0 (k + 1) y0 y1 y2 y3 y4 y5 y6))
  | 0 => fun _ _ _ _ _ _ _ r h => by simp [num_ratio.l0] at h
  | k + 1 => by
    have ih0 := num_ratio.mono_l k
    · intro y0 y1 y2 y3 y4 y5 y6
      unfold num_ratio.l0
      repeat' first
      | (with_reducible exact ih0 _ _ _ _ _ _ _)
      | (with_reducible exact num_Near_1.mono _ _ _ _ _ _ _)
      | (with_reducible exact LeO.refl _)
      | (with_reducible exact LeO.none _)
      | (with_reducible refine LeO.ite ?_ ?_)
      | (with_reducible refine LeO.bind ?_ (fun _ => ?_))
      | (with_reducible refine LeO.exc (fun _ => ?_) (fun _ => ?_))
      | exact ih0 _ _ _ _ _ _ _
      | exact num_Near_1.mono _ _ _ _ _ _ _
      | exact LeO.none _
      | refine LeO.ite ?_ ?_
      | refine LeO.bind ?_ (fun _ => ?_)
theorem num_ratio.mono : ∀ a0 a1 a2 k, LeO (num_ratio.f k a0 a1 a2) (num_ratio.f (k + 1) a0 a1 a2) := by
  intro a0 a1 a2 k
  have ih0 := num_ratio.mono_l k
  unfold num_ratio.f
  repeat' first
      | (with_reducible exact ih0 _ _ _ _ _ _ _)
      | (with_reducible exact num_Near_1.mono _ _ _ _ _ _ _)
      | (with_reducible exact LeO.refl _)
      | (with_reducible exact LeO.none _)
      | (with_reducible refine LeO.ite ?_ ?_)
      | (with_reducible refine LeO.bind ?_ (fun _ => ?_))
      | (with_reducible refine LeO.exc (fun _ => ?_) (fun _ => ?_))
      | exact ih0 _ _ _ _ _ _ _
      | exact num_Near_1.mono _ _ _ _ _ _ _
      | exact LeO.none _
      | refine LeO.ite ?_ ?_
      | refine LeO.bind ?_ (fun _ => ?_)
set_option maxHeartbeats 8000000 in
set_option maxRecDepth 100000 in
theorem num_ratio.calls (k : Nat) (A0 : Option Addr) (c0 : Nat) (l0 : List (S65)) {gb : Nat} (a1_0 : Int) (a1_1 : Int) (r1 : Int) (r2 : Int) (w : World) (hr0 : Kd.C k65 w A0 l0.length l0) (hc0 : l0.length ≤ c0) (hb : w.heap[gb]? = some (.cells #[.int .i64 a1_0, .int .i64 a1_1] 23 (0, 0))) (h : num_ratio.f k l0 a1_0 a1_1 = some (r1, r2)) :
    Calls Try.prog 101 #[.slice A0 l0.length c0, .func (.func 102) #[] #[.pointer (some ⟨gb, 0, none⟩)]] w fun e w' => e = .returned (.agg #[.int .i64 r1, .int .i64 r2]) ∧ Below w.heap.size w w' := by
  have hu65 := Try.underlying65
  have HR0 := Aside0.mk hr0
  have HC0 := Aside0.mk hc0
  clear hr0 hc0
  have BK868 := Aside0.mk hb
  clear hb
  have HB := Aside0.mk (Below.refl w.heap.size w)
  have H : (if 0 < (l0.length : Int) then (if 1 ≤ (l0.length : Int) then ((some (l0.drop 1 : List (S65))).bind fun y872 => (num_ratio.l0 k y872 (y872.length : Int) 0 a1_0 a1_1 ((rd_T65 l0 0).f0) ((rd_T65 l0 0).f1))) else (none)) else (none)) = some (r1, r2) := h
  clear h
  by_cases c3 : 0 < (l0.length : Int)
  · rw [if_pos c3] at H
    have c3b0 : decide (0 < (l0.length : Int)) = true := decide_eq_true c3
    have c3b1 : decide (0 < l0.length) = true := decide_eq_true (by omega)
    clear c3
    by_cases c4 : 1 ≤ (l0.length : Int)
    · rw [if_pos c4] at H
      have c4b0 := eq_true c4
      have c4b1 : decide (1 ≤ (l0.length : Int)) = true := decide_eq_true c4
      clear c4
      obtain ⟨y872, hy872⟩ : ∃ y_ : List (S65), y_ = (l0.drop 1) := ⟨_, rfl⟩
      replace H : (num_ratio.l0 k y872 (y872.length : Int) 0 a1_0 a1_1 ((rd_T65 l0 0).f0) ((rd_T65 l0 0).f1)) = some (r1, r2) := by first | (rw [hy872]; with_reducible exact H) | (have H2_ := (Option.bind_some _ _).symm.trans H; rw [hy872]; with_reducible exact H2_) | (have H2_ := (Option.bind_some _ _).symm.trans H; with_reducible exact H2_) | with_reducible exact H | (rw [hy872]; exact H) | exact H
      have Ny872 := Aside0.mk hy872
      clear hy872
      have H' := Aside0.mk H
      clear H
      go_enter Try.func101, Try.ntmps101
      go_wp2_with (first | ((with_reducible refine gate_dst (N := 4) rfl ?_); refine box_event ?hg (N := 4) ?hd (cs := #[.int .i64 0, .int .i64 0]) (t := 65) ?hr ?_; (case hd => rfl); (case hg => rfl); (case hr => first | (go_simp; done) | (go_simp; rfl)); intro gb869 hg w5 hbox hb; have BK869 := Aside0.mk hbox; have GW869 := bwg_ HB hg; have GE869 := bwg_ HB hg; replace HB := bws_ HB hb; have NB868_869 := bkl_ BK868 hg; have NB869_868 := bkr_ BK868 hg; replace BK868 := bkb_ BK868 hb; clear hb hbox hg; have p870 : 0 ≤ (0 : Int) := (by omega); have q870 : 0 < (l0.length : Int) := of_decide_eq_true (by first | (with_reducible assumption) | assumption); obtain ⟨ad870, e870, hx870_0, hx870_1⟩ := at_T65 HR0.out 0 p870 q870; cases e870; have qi870 : (0 < l0.length) = True := eq_true (by omega); (try rw [show ((0 : Int)).toNat = 0 from rfl] at hx870_0); (try rw [show 0 * 2 = 0 from rfl] at hx870_0); (try rw [Addr.add_zero'] at hx870_0); (try rw [show ((0 : Int)).toNat = 0 from rfl] at hx870_1); (try rw [show 0 * 2 = 0 from rfl] at hx870_1); (try rw [Addr.add_zero'] at hx870_1); replace hx870_0 := (HB.out.cell (World.block_lt_of_cell? w _ hx870_0)).trans hx870_0; replace hx870_1 := (HB.out.cell (World.block_lt_of_cell? w _ hx870_1)).trans hx870_1; replace p870 := eq_true p870; replace q870 := eq_true q870) | ((with_reducible refine gate_dst (N := 5) rfl ?_); refine box_event ?hg (N := 5) ?hd (cs := #[.int .i64 0, .int .i64 0]) (t := 65) ?hr ?_; (case hd => rfl); (case hg => rfl); (case hr => first | (go_simp; done) | (go_simp; rfl)); intro gb871 hg w6 hbox hb; have BK871 := Aside0.mk hbox; have GW871 := bwg_ HB hg; have GE871 := bwg_ HB hg; replace HB := bws_ HB hb; have NB868_871 := bkl_ BK868 hg; have NB871_868 := bkr_ BK868 hg; replace BK868 := bkb_ BK868 hb; have NB869_871 := bkl_ BK869 hg; have NB871_869 := bkr_ BK869 hg; replace BK869 := bkb_ BK869 hb; clear hb hbox hg; have hnb7 := NB871_868.out; have hnc7 := NB868_871.out; have hnb8 := NB871_869.out; have hnc8 := NB869_871.out; obtain ⟨hcz9_0, hcz9_1, hfz9_0, hfz9_1⟩ := bc2_ BK871) | ((with_reducible refine gate_store (t := 65) (p := 5) rfl ?_); refine store_event (t := 65) (p := 5) (v := ?vo_w10) (w1 := ((w6.setCell ⟨gb871, 0, none⟩ (.int .i64 ((rd_T65 l0 0).f0))).setCell ⟨gb871, 1, none⟩ (.int .i64 ((rd_T65 l0 0).f1)))) ?hg ?ho ?hn ?hr ?_; (case ho => rfl); (case hg => rfl); (case hn => rfl); (case hr => first | (go_simp; done) | (go_simp; rfl)); intro w10 hw; have n0_ : Aside0 (w10.heap[gb]? = some (.cells #[.int .i64 a1_0, .int .i64 a1_1] 23 (0, 0))) := ⟨(by rw [hw]; exact (by refine bf_ ?_ NB868_871; refine bf_ ?_ NB868_871; exact bk_ BK868))⟩; have n1_ : Aside0 (w10.heap[gb869]? = some (.cells #[.int .i64 0, .int .i64 0] 65 (0, 0))) := ⟨(by rw [hw]; exact (by refine bf_ ?_ NB869_871; refine bf_ ?_ NB869_871; exact bk_ BK869))⟩; have n2_ : Aside0 (w10.heap[gb871]? = some (.cells #[.int .i64 ((rd_T65 l0 0).f0), .int .i64 ((rd_T65 l0 0).f1)] 65 (0, 0))) := ⟨(by rw [hw]; exact (by refine bp_ (cs := #[.int .i64 ((rd_T65 l0 0).f0), .int .i64 0]) ?_ 1; refine bp_ (cs := #[.int .i64 0, .int .i64 0]) ?_ 0; exact bk_ BK871))⟩; have n3_ : Aside0 (Below w.heap.size w w10) := ⟨(by rw [hw]; exact (bw_ HB))⟩; clear hw; clear BK868; clear BK869; clear BK871; clear HB; have BK868 := n0_; have BK869 := n1_; have BK871 := n2_; have HB := n3_; clear n0_ n1_ n2_ n3_; have q11 : (1 : Int) ≤ ((l0.length : Int) : Int) := of_decide_eq_true (by first | (with_reducible assumption) | assumption); obtain ⟨i011, hi011, _, hsz11, _⟩ := info_parts info65; have hroom11 : l0.length ≤ c0 := HC0.out; have hC11 : Kd.C k65 _ (some ad870) l0.length l0 := HR0.out; have hcut11 := cut_from (P := Try.prog) 93 65 .i64 Try.underlying93 hi011 2 hsz11 (some ad870) l0.length c0 1 (by omega) q11; have hr11 := Kd.C_drop (m := (1 : Int).toNat) (c := c0) hC11 (by omega) hroom11; obtain ⟨A11, hA11⟩ : ∃ A1, A1 = (if c0 = (1 : Int).toNat then (some ad870) else ((some ad870) : Option Addr).map (·.add ((1 : Int).toNat * 2))) := ⟨_, rfl⟩; obtain ⟨c11, hc11⟩ : ∃ c1, c1 = c0 - (1 : Int).toNat := ⟨_, rfl⟩; have hy11 : y872.length = l0.length - (1 : Int).toNat := (by rw [Ny872.out, List.length_drop] <;> omega); rw [show (l0).drop (1 : Int).toNat = y872 from Ny872.out.symm] at hr11; replace hr11 : Kd.C k65 _ A11 y872.length y872 := (by rw [hA11]; exact hr11); rw [← hy11, ← hA11, ← hc11] at hcut11; have HR875 := Aside0.mk hr11; have HC875 := Aside0.mk (show y872.length ≤ c11 from by rw [hy11, hc11]; exact Nat.sub_le_sub_right hroom11 _); clear hr11 hC11 hroom11 hi011 hsz11 hc11; have KY11 := Aside0.mk hy11; have KA11 := Aside0.mk hA11; clear hy11 hA11; replace q11 := eq_true q11))
      go_loopg [14] k (fun kq v14 w' => ∃ (x14_1 : Int) (x872000_1 : Int) (x872001_1 : Int), v14 = .int .i64 x14_1 ∧ Aside0 (num_ratio.l0 kq y872 (y872.length : Int) x14_1 a1_0 a1_1 x872000_1 x872001_1 = some (r1, r2)) ∧ Aside0 (kq ≤ k) ∧ Aside0 (w'.heap[gb]? = some (.cells #[.int .i64 a1_0, .int .i64 a1_1] 23 (0, 0))) ∧ Aside0 (w'.heap[gb869]? = some (.cells #[.int .i64 0, .int .i64 0] 65 (0, 0))) ∧ Aside0 (w'.heap[gb871]? = some (.cells #[.int .i64 x872000_1, .int .i64 x872001_1] 65 (0, 0))) ∧ Aside0 (Below w.heap.size w w'))
      case atStart => exact ⟨(0), ((rd_T65 l0 0).f0), ((rd_T65 l0 0).f1), (by first | rfl | (simp; done) | (simp [*]; done)), H', ⟨Nat.le_refl _⟩, ⟨by exact bk_ BK868⟩, ⟨by exact bk_ BK869⟩, ⟨by exact bk_ BK871⟩, ⟨bw_ HB⟩⟩
      case round =>
        clear H'
        try clear c1
        try clear q1
        try clear p2
        try clear c3
        try clear c3b0
        try clear c3b1
        try clear c4
        try clear c4b0
        try clear c4b1
        try clear c7
        try clear c8
        try clear p8
        try clear q8
        try clear hx8
        try clear qi8
        try clear c10
        try clear c11
        try clear q11
        try clear hcz9_0
        try clear hcz9_1
        try clear hfz9_0
        try clear hfz9_1
        try clear hx870_0
        try clear hx870_1
        try clear p870
        try clear q11
        try clear q870
        obtain ⟨x14_1, x872000_1, x872001_1, rfl, HA, HK1, BK868, BK869, BK871, HB⟩ := hrel
        cases gk with
        | zero => exact absurd HA.out (by simp [num_ratio.l0])
        | succ k1 =>
          have H := HA.out
          clear HA
          simp only [num_ratio.l0] at H
          by_cases c12 : x14_1 < (y872.length : Int)
          · rw [if_pos c12] at H
            have c12b0 : decide (x14_1 < (y872.length : Int)) = true := decide_eq_true c12
            clear c12
            by_cases c13 : 0 ≤ x14_1
            · rw [if_pos c13] at H
              have c13b0 : decide (0 ≤ x14_1) = true := decide_eq_true c13
              clear c13
              by_cases c14 : x14_1 < (y872.length : Int)
              · rw [if_pos c14] at H
                have c14b0 : decide (x14_1 < (y872.length : Int)) = true := decide_eq_true c14
                clear c14
                replace H := Option.bind_eq_some_iff.mp H
                obtain ⟨t878, A150, H⟩ := H
                replace H : (if t878 = true then (num_ratio.l0 k1 y872 (y872.length : Int) (wrap64 (x14_1 + 1)) a1_0 a1_1 ((rd_T65 y872 x14_1).f0) ((rd_T65 y872 x14_1).f1)) else (num_ratio.l0 k1 y872 (y872.length : Int) (wrap64 (x14_1 + 1)) a1_0 a1_1 x872000_1 x872001_1)) = some (r1, r2) := H
                have A15 := Aside0.mk A150
                clear A150
                by_cases c16 : t878 = true
                · subst c16
                  have H1 : (num_ratio.l0 k1 y872 (y872.length : Int) (wrap64 (x14_1 + 1)) a1_0 a1_1 ((rd_T65 y872 x14_1).f0) ((rd_T65 y872 x14_1).f1)) = some (r1, r2) := by rw [if_pos rfl] at H; exact H
                  clear H
                  have H := H1
                  clear H1
                  have H' := Aside0.mk H
                  clear H
                  have p876 : 0 ≤ (x14_1 : Int) := of_decide_eq_true (by first | (with_reducible assumption) | assumption)
                  have q876 : x14_1 < (y872.length : Int) := of_decide_eq_true (by first | (with_reducible assumption) | assumption)
                  obtain ⟨ad876, e876, hx876_0, hx876_1⟩ := at_T65 HR875.out x14_1 p876 q876
                  cases e876
                  replace hx876_0 := (HB.out.cell (World.block_lt_of_cell? w _ hx876_0)).trans hx876_0
                  replace hx876_1 := (HB.out.cell (World.block_lt_of_cell? w _ hx876_1)).trans hx876_1
                  replace p876 := eq_true p876
                  replace q876 := eq_true q876
                  go_wp2_with (first | ((with_reducible refine gate_dst (N := 7) rfl ?_); refine box_event ?hg (N := 7) ?hd (cs := #[.int .i64 0, .int .i64 0]) (t := 65) ?hr ?_; (case hd => rfl); (case hg => rfl); (case hr => first | (go_simp; done) | (go_simp; rfl)); intro gb877 hg w17 hbox hb; have BK877 := Aside0.mk hbox; have GW877 := bwg_ HB hg; have GE877 := bwg_ HB hg; replace HB := bws_ HB hb; have NB868_877 := bkl_ BK868 hg; have NB877_868 := bkr_ BK868 hg; replace BK868 := bkb_ BK868 hb; have NB869_877 := bkl_ BK869 hg; have NB877_869 := bkr_ BK869 hg; replace BK869 := bkb_ BK869 hb; have NB871_877 := bkl_ BK871 hg; have NB877_871 := bkr_ BK871 hg; replace BK871 := bkb_ BK871 hb; clear hb hbox hg; have hnb18 := NB877_868.out; have hnc18 := NB868_877.out; have hnb19 := NB877_869.out; have hnc19 := NB869_877.out; have hnb20 := NB877_871.out; have hnc20 := NB871_877.out; obtain ⟨hcz21_0, hcz21_1, hfz21_0, hfz21_1⟩ := bc2_ BK877; have hnb22 := NB871_868.out; have hnc22 := NB868_871.out; have hnb23 := NB871_869.out; have hnc23 := NB869_871.out; obtain ⟨hcz24_0, hcz24_1, hfz24_0, hfz24_1⟩ := bc2_ BK871) | (go_at_call 102; (with_reducible refine (num_Near_1.calls k1 ((rd_T65 y872 x14_1).f0) ((rd_T65 y872 x14_1).f1) x872000_1 x872001_1 a1_0 a1_1 true _ ?side1 A15.out).mono ?_); (case side1 => exact by refine bf_ ?_ NB868_877; refine bf_ ?_ NB868_877; exact bk_ BK868); rintro e w25 ⟨rfl, hb⟩; replace BK868 := Aside0.mk (blk_below (g := gb) (o := .cells #[.int .i64 a1_0, .int .i64 a1_1] 23 (0, 0)) (by refine bf_ ?_ NB868_877; refine bf_ ?_ NB868_877; exact bk_ BK868) hb); replace BK869 := Aside0.mk (blk_below (g := gb869) (o := .cells #[.int .i64 0, .int .i64 0] 65 (0, 0)) (by refine bf_ ?_ NB869_877; refine bf_ ?_ NB869_877; exact bk_ BK869) hb); replace BK871 := Aside0.mk (blk_below (g := gb871) (o := .cells #[.int .i64 x872000_1, .int .i64 x872001_1] 65 (0, 0)) (by refine bf_ ?_ NB871_877; refine bf_ ?_ NB871_877; exact bk_ BK871) hb); replace BK877 := Aside0.mk (blk_below (g := gb877) (o := .cells #[.int .i64 ((rd_T65 y872 x14_1).f0), .int .i64 ((rd_T65 y872 x14_1).f1)] 65 (0, 0)) (by refine bp_ (cs := #[.int .i64 ((rd_T65 y872 x14_1).f0), .int .i64 0]) ?_ 1; refine bp_ (cs := #[.int .i64 0, .int .i64 0]) ?_ 0; exact bk_ BK877) hb); replace HB := bws_ HB hb; (try clear hb); (try clear hb2); (try clear hk); (try clear hi); obtain ⟨hcz26_0, hcz26_1, hfz26_0, hfz26_1⟩ := bc2_ BK877; obtain ⟨hcz27_0, hcz27_1, hfz27_0, hfz27_1⟩ := bc2_ BK871))
                  go_roundg k1
                  case measure => have := HK1.out; omega
                  case rel => exact ⟨(wrap64 (x14_1 + 1)), ((rd_T65 y872 x14_1).f0), ((rd_T65 y872 x14_1).f1), (by first | rfl | (simp; done) | (simp [*]; done)), H', ⟨by have := HK1.out; omega⟩, ⟨by refine bf_ ?_ NB868_871; refine bf_ ?_ NB868_871; exact bk_ BK868⟩, ⟨by refine bf_ ?_ NB869_871; refine bf_ ?_ NB869_871; exact bk_ BK869⟩, ⟨by refine bp_ (cs := #[.int .i64 ((rd_T65 y872 x14_1).f0), .int .i64 x872001_1]) ?_ 1; refine bp_ (cs := #[.int .i64 x872000_1, .int .i64 x872001_1]) ?_ 0; exact bk_ BK871⟩, ⟨bw_ HB⟩⟩
                · replace c16 := Bool.eq_false_iff.mpr c16
                  subst c16
                  have H1 : (num_ratio.l0 k1 y872 (y872.length : Int) (wrap64 (x14_1 + 1)) a1_0 a1_1 x872000_1 x872001_1) = some (r1, r2) := by rw [if_neg (show ¬ (false = true) by decide)] at H; exact H
                  clear H
                  have H := H1
                  clear H1
                  have H' := Aside0.mk H
                  clear H
                  have p876 : 0 ≤ (x14_1 : Int) := of_decide_eq_true (by first | (with_reducible assumption) | assumption)
                  have q876 : x14_1 < (y872.length : Int) := of_decide_eq_true (by first | (with_reducible assumption) | assumption)
                  obtain ⟨ad876, e876, hx876_0, hx876_1⟩ := at_T65 HR875.out x14_1 p876 q876
                  cases e876
                  replace hx876_0 := (HB.out.cell (World.block_lt_of_cell? w _ hx876_0)).trans hx876_0
                  replace hx876_1 := (HB.out.cell (World.block_lt_of_cell? w _ hx876_1)).trans hx876_1
                  replace p876 := eq_true p876
                  replace q876 := eq_true q876
                  go_wp2_with (first | ((with_reducible refine gate_dst (N := 7) rfl ?_); refine box_event ?hg (N := 7) ?hd (cs := #[.int .i64 0, .int .i64 0]) (t := 65) ?hr ?_; (case hd => rfl); (case hg => rfl); (case hr => first | (go_simp; done) | (go_simp; rfl)); intro gb877 hg w28 hbox hb; have BK877 := Aside0.mk hbox; have GW877 := bwg_ HB hg; have GE877 := bwg_ HB hg; replace HB := bws_ HB hb; have NB868_877 := bkl_ BK868 hg; have NB877_868 := bkr_ BK868 hg; replace BK868 := bkb_ BK868 hb; have NB869_877 := bkl_ BK869 hg; have NB877_869 := bkr_ BK869 hg; replace BK869 := bkb_ BK869 hb; have NB871_877 := bkl_ BK871 hg; have NB877_871 := bkr_ BK871 hg; replace BK871 := bkb_ BK871 hb; clear hb hbox hg; have hnb29 := NB877_868.out; have hnc29 := NB868_877.out; have hnb30 := NB877_869.out; have hnc30 := NB869_877.out; have hnb31 := NB877_871.out; have hnc31 := NB871_877.out; obtain ⟨hcz32_0, hcz32_1, hfz32_0, hfz32_1⟩ := bc2_ BK877; have hnb33 := NB871_868.out; have hnc33 := NB868_871.out; have hnb34 := NB871_869.out; have hnc34 := NB869_871.out; obtain ⟨hcz35_0, hcz35_1, hfz35_0, hfz35_1⟩ := bc2_ BK871) | (go_at_call 102; (with_reducible refine (num_Near_1.calls k1 ((rd_T65 y872 x14_1).f0) ((rd_T65 y872 x14_1).f1) x872000_1 x872001_1 a1_0 a1_1 false _ ?side1 A15.out).mono ?_); (case side1 => exact by refine bf_ ?_ NB868_877; refine bf_ ?_ NB868_877; exact bk_ BK868); rintro e w36 ⟨rfl, hb⟩; replace BK868 := Aside0.mk (blk_below (g := gb) (o := .cells #[.int .i64 a1_0, .int .i64 a1_1] 23 (0, 0)) (by refine bf_ ?_ NB868_877; refine bf_ ?_ NB868_877; exact bk_ BK868) hb); replace BK869 := Aside0.mk (blk_below (g := gb869) (o := .cells #[.int .i64 0, .int .i64 0] 65 (0, 0)) (by refine bf_ ?_ NB869_877; refine bf_ ?_ NB869_877; exact bk_ BK869) hb); replace BK871 := Aside0.mk (blk_below (g := gb871) (o := .cells #[.int .i64 x872000_1, .int .i64 x872001_1] 65 (0, 0)) (by refine bf_ ?_ NB871_877; refine bf_ ?_ NB871_877; exact bk_ BK871) hb); replace BK877 := Aside0.mk (blk_below (g := gb877) (o := .cells #[.int .i64 ((rd_T65 y872 x14_1).f0), .int .i64 ((rd_T65 y872 x14_1).f1)] 65 (0, 0)) (by refine bp_ (cs := #[.int .i64 ((rd_T65 y872 x14_1).f0), .int .i64 0]) ?_ 1; refine bp_ (cs := #[.int .i64 0, .int .i64 0]) ?_ 0; exact bk_ BK877) hb); replace HB := bws_ HB hb; (try clear hb); (try clear hb2); (try clear hk); (try clear hi)))
                  go_roundg k1
                  case measure => have := HK1.out; omega
                  case rel => exact ⟨(wrap64 (x14_1 + 1)), (x872000_1), (x872001_1), (by first | rfl | (simp; done) | (simp [*]; done)), H', ⟨by have := HK1.out; omega⟩, ⟨by exact bk_ BK868⟩, ⟨by exact bk_ BK869⟩, ⟨by exact bk_ BK871⟩, ⟨bw_ HB⟩⟩
              · rw [if_neg c14] at H
                exact absurd H (by simp)
            · rw [if_neg c13] at H
              exact absurd H (by simp)
          · rw [if_neg c12] at H
            have c12b0 : decide (x14_1 < (y872.length : Int)) = false := decide_eq_false c12
            clear c12
            simp only [Option.some.injEq, Prod.mk.injEq] at H
            obtain ⟨rfl, rfl⟩ := H
            have hnb37 := NB871_868.out
            have hnc37 := NB868_871.out
            have hnb38 := NB871_869.out
            have hnc38 := NB869_871.out
            obtain ⟨hcz39_0, hcz39_1, hfz39_0, hfz39_1⟩ := bc2_ BK871
            have hnb40 := NB869_868.out
            have hnc40 := NB868_869.out
            obtain ⟨hcz41_0, hcz41_1, hfz41_0, hfz41_1⟩ := bc2_ BK869
            go_wp2
            refine bodyPost_ret (results_cell_row rfl _ _ gb869 65 #[.int .i64 x872000_1, .int .i64 x872001_1] (0, 0) _ rfl (by refine bp_ (cs := #[.int .i64 x872000_1, .int .i64 0]) ?_ 1; refine bp_ (cs := #[.int .i64 0, .int .i64 0]) ?_ 0; exact bk_ BK869) Try.underlying65 rfl (by kernel_rfl)) rfl ?_
            exact ⟨by first | rfl | (simp [*] <;> rfl), bw_ HB⟩
    · rw [if_neg c4] at H
      exact absurd H (by simp)
  · rw [if_neg c3] at H
    exact absurd H (by simp)
/-! ### num_Near: function 59 -/
def num_Near.l0 : Nat → List (S65) → Int → Int → Int → Int → Option (Int × Int × Int)
  | 0, _, _, _, _, _ => none
  | k + 1, x7, x27, x28, x880000, x880001 => if x28 < x27 then ((num_ratio_floor.f (wrap64 (x880000 * (wrap64 (x28 + 1)))) x880001).bind fun t886 => ((some (([(⟨t886, wrap64 (x28 + 1)⟩ : S65), (⟨wrap64 (t886 + 1), wrap64 (x28 + 1)⟩ : S65)] : List (S65)) : List (S65))).bind fun y887 => (if x7.length + y887.length < 8796093022208 then (num_Near.l0 k (x7 ++ y887) x27 (wrap64 (x28 + 1)) x880000 x880001) else (none)))) else ((num_ratio.f k x7 x880000 x880001).bind fun bt893 => ((num_ratio_num.f k bt893.1 bt893.2).bind fun tz_ => exc tz_ (fun tp898 => (none)) (fun bt896 => (some (bt896.1, bt896.2, 0)))))
def num_Near.f (k : Nat) (a0_0 : Int) (a0_1 : Int) (a1 : Int) : Option (Int × Int × Int) := (num_Check.f k a0_0 a0_1).bind fun t881 => (if t881 = 0 then ((num_within.f 1 1000 (([a1] : List Int))).bind fun t885 => (if t885 = true then (if a0_1 ≤ a1 then (some (a0_0, a0_1, 0)) else (num_Near.l0 k ([] : List (S65)) a1 0 a0_0 a0_1)) else (some (0, 0, 3)))) else (some (0, 0, t881)))
theorem num_Near.mono_l : ∀ k, (∀ y0 y1 y2 y3 y4, LeO (num_Near.l0 k y0 y1 y2 y3 y4) (num_Near.l0 (k + 1) y0 y1 y2 y3 y4))
  | 0 => fun _ _ _ _ _ r h => by simp [num_Near.l0] at h
  | k + 1 => by
    have ih0 := num_Near.mono_l k
    · intro y0 y1 y2 y3 y4
      unfold num_Near.l0
      repeat' first
      | (with_reducible exact ih0 _ _ _ _ _)
      | (with_reducible exact num_Check.mono _ _ _)
      | (with_reducible exact num_ratio.mono _ _ _ _)
      | (with_reducible exact num_ratio_num.mono _ _ _)
      | (with_reducible exact LeO.refl _)
      | (with_reducible exact LeO.none _)
      | (with_reducible refine LeO.ite ?_ ?_)
      | (with_reducible refine LeO.bind ?_ (fun _ => ?_))
      | (with_reducible refine LeO.exc (fun _ => ?_) (fun _ => ?_))
      | exact ih0 _ _ _ _ _
      | exact num_Check.mono _ _ _
      | exact num_ratio.mono _ _ _ _
      | exact num_ratio_num.mono _ _ _
      | exact LeO.none _
      | refine LeO.ite ?_ ?_
      | refine LeO.bind ?_ (fun _ => ?_)
theorem num_Near.mono : ∀ a0 a1 a2 k, LeO (num_Near.f k a0 a1 a2) (num_Near.f (k + 1) a0 a1 a2) := by
  intro a0 a1 a2 k
  have ih0 := num_Near.mono_l k
  unfold num_Near.f
  repeat' first
      | (with_reducible exact ih0 _ _ _ _ _)
      | (with_reducible exact num_Check.mono _ _ _)
      | (with_reducible exact num_ratio.mono _ _ _ _)
      | (with_reducible exact num_ratio_num.mono _ _ _)
      | (with_reducible exact LeO.refl _)
      | (with_reducible exact LeO.none _)
      | (with_reducible refine LeO.ite ?_ ?_)
      | (with_reducible refine LeO.bind ?_ (fun _ => ?_))
      | (with_reducible refine LeO.exc (fun _ => ?_) (fun _ => ?_))
      | exact ih0 _ _ _ _ _
      | exact num_Check.mono _ _ _
      | exact num_ratio.mono _ _ _ _
      | exact num_ratio_num.mono _ _ _
      | exact LeO.none _
      | refine LeO.ite ?_ ?_
      | refine LeO.bind ?_ (fun _ => ?_)
set_option maxHeartbeats 8000000 in
set_option maxRecDepth 100000 in
theorem num_Near.calls (k : Nat) (a0_0 : Int) (a0_1 : Int) (a1 : Int) (r1 : Int) (r2 : Int) (r3 : Int) (w : World) (h : num_Near.f k a0_0 a0_1 a1 = some (r1, r2, r3)) :
    Calls Try.prog 59 #[.agg #[.int .i64 a0_0, .int .i64 a0_1], .int .i64 a1] w fun e w' => e = .returned (.tuple #[.agg #[.int .i64 r1, .int .i64 r2], .int .i64 r3]) ∧ Below w.heap.size w w' := by
  have hu23 := Try.underlying23
  have hu65 := Try.underlying65
  have HB := Aside0.mk (Below.refl w.heap.size w)
  have H : ((num_Check.f k a0_0 a0_1).bind fun t881 => (if t881 = 0 then ((num_within.f 1 1000 (([a1] : List Int))).bind fun t885 => (if t885 = true then (if a0_1 ≤ a1 then (some (a0_0, a0_1, 0)) else (num_Near.l0 k ([] : List (S65)) a1 0 a0_0 a0_1)) else (some (0, 0, 3)))) else (some (0, 0, t881)))) = some (r1, r2, r3) := h
  clear h
  replace H := Option.bind_eq_some_iff.mp H
  obtain ⟨t881, A30, H⟩ := H
  replace H : (if t881 = 0 then ((num_within.f 1 1000 (([a1] : List Int))).bind fun t885 => (if t885 = true then (if a0_1 ≤ a1 then (some (a0_0, a0_1, 0)) else (num_Near.l0 k ([] : List (S65)) a1 0 a0_0 a0_1)) else (some (0, 0, 3)))) else (some (0, 0, t881))) = some (r1, r2, r3) := H
  have A3 := Aside0.mk A30
  clear A30
  by_cases c4 : t881 = 0
  · rw [if_pos c4] at H
    have c4b0 : (t881 == 0) = true := beq_iff_eq.mpr c4
    have c4b1 : (t881 != 0) = false := bne_eq_false_iff_eq.mpr c4
    clear c4
    obtain ⟨y882, hy882⟩ : ∃ y_ : List Int, y_ = (([a1] : List Int)) := ⟨_, rfl⟩
    replace H : ((num_within.f 1 1000 y882).bind fun t885 => (if t885 = true then (if a0_1 ≤ a1 then (some (a0_0, a0_1, 0)) else (num_Near.l0 k ([] : List (S65)) a1 0 a0_0 a0_1)) else (some (0, 0, 3)))) = some (r1, r2, r3) := by first | (rw [hy882]; with_reducible exact H) | (have H2_ := (Option.bind_some _ _).symm.trans H; rw [hy882]; with_reducible exact H2_) | (have H2_ := (Option.bind_some _ _).symm.trans H; with_reducible exact H2_) | with_reducible exact H | (rw [hy882]; exact H) | exact H
    have Ny882 := Aside0.mk hy882
    clear hy882
    replace H := Option.bind_eq_some_iff.mp H
    obtain ⟨t885, A50, H⟩ := H
    replace H : (if t885 = true then (if a0_1 ≤ a1 then (some (a0_0, a0_1, 0)) else (num_Near.l0 k ([] : List (S65)) a1 0 a0_0 a0_1)) else (some (0, 0, 3))) = some (r1, r2, r3) := H
    have A5 := Aside0.mk A50
    clear A50
    by_cases c6 : t885 = true
    · subst c6
      have H1 : (if a0_1 ≤ a1 then (some (a0_0, a0_1, 0)) else (num_Near.l0 k ([] : List (S65)) a1 0 a0_0 a0_1)) = some (r1, r2, r3) := by rw [if_pos rfl] at H; exact H
      clear H
      have H := H1
      clear H1
      by_cases c7 : a0_1 ≤ a1
      · rw [if_pos c7] at H
        have c7b0 : decide (a0_1 ≤ a1) = true := decide_eq_true c7
        clear c7
        simp only [Option.some.injEq, Prod.mk.injEq] at H
        obtain ⟨rfl, rfl, rfl⟩ := H
        go_enter Try.func59, Try.ntmps59
        go_wp2_with (first | ((with_reducible refine gate_dst (N := 2) rfl ?_); refine box_event ?hg (N := 2) ?hd (cs := #[.int .i64 a0_0, .int .i64 a0_1]) (t := 23) ?hr ?_; (case hd => rfl); (case hg => rfl); (case hr => first | (go_simp; done) | (go_simp; rfl)); intro gb879 hg w8 hbox hb; have BK879 := Aside0.mk hbox; have GW879 := bwg_ HB hg; have GE879 := bwg_ HB hg; replace HB := bws_ HB hb; clear hb hbox hg) | ((with_reducible refine gate_dst (N := 4) rfl ?_); refine box_event ?hg (N := 4) ?hd (cs := #[.int .i64 0, .int .i64 0]) (t := 23) ?hr ?_; (case hd => rfl); (case hg => rfl); (case hr => first | (go_simp; done) | (go_simp; rfl)); intro gb880 hg w9 hbox hb; have BK880 := Aside0.mk hbox; have GW880 := bwg_ HB hg; have GE880 := bwg_ HB hg; replace HB := bws_ HB hb; have NB879_880 := bkl_ BK879 hg; have NB880_879 := bkr_ BK879 hg; replace BK879 := bkb_ BK879 hb; clear hb hbox hg; have hnb10 := NB879_880.out; have hnc10 := NB880_879.out; obtain ⟨hcz11_0, hcz11_1, hfz11_0, hfz11_1⟩ := bc2_ BK879) | ((with_reducible refine gate_callee (f := 46) rfl ?_); refine gla_ (some 12) Try.func46 #[.agg #[.int .i64 a0_0, .int .i64 a0_1]] ?_; (with_reducible refine (num_Check.calls k a0_0 a0_1 t881 _ A3.out).mono ?_); rintro e w12 ⟨rfl, hb⟩; refine ⟨_, rfl, ?_⟩; replace BK879 := bkb_ BK879 hb; replace BK880 := bkb_ BK880 hb; replace HB := bws_ HB hb; (try clear hb); (try clear hb2); (try clear hk); (try clear hi)) | ((with_reducible refine gate_dst (N := 18) rfl ?_); refine Kd.R_lit (Kd.int .i64) _ 3 ?hg (N := 18) ?hd (xs := ([a1] : List Int)) (inner := [.int .i64 a1]) (ok := fun _ => True) (okp := fun _ => True) ?hr ?hp (fun _ hk => hk) trivial (Below.refl _ _) (Nat.le_refl _) (by simp) ?_; (case hd => rfl); (case hg => rfl); (case hr => first | (go_simp; done) | (go_simp; rfl)); (case hp => exact (Reps.one (show Kd.M (Kd.int .i64) _ _ _ a1 [.int .i64 a1] from rfl) (Reps.none _ _))); intro v883 w13 ho14 hb hg_ hnew_; clear hg_ hnew_; (first | rw [← Ny882.out] at ho14 | (simp only [Int.reduceToNat] at ho14; rw [← Ny882.out] at ho14)); have HO884 := Aside0.mk (Kd.R_lower ho14 (below_size (bw_ HB))); replace BK879 := bkb_ BK879 hb; replace BK880 := bkb_ BK880 hb; replace HB := bws_ HB hb; clear hb ho14; obtain ⟨Ao15, co15, eo15⟩ := Kd.R_slice HO884.out; subst eo15) | ((with_reducible refine gate_callee (f := 80) rfl ?_); refine gla_ (some 19) Try.func80 #[.int .i64 1, .int .i64 1000, .slice Ao15 y882.length co15] ?_; (with_reducible refine (num_within.calls 1 1000 _ _ y882 true _ ?side1 ?side2 A5.out).mono ?_); (case side1 => repeat (first | exact (Kd.R_reads' HO884.out).2.2 | (with_reducible refine Kd.C_alloc ?_ _) | (with_reducible refine Kd.C_drewN ?_ _) | (with_reducible refine Kd.C_drew ?_))); (case side2 => exact (Kd.R_reads' HO884.out).2.1); rintro e w16 ⟨rfl, hb⟩; refine ⟨_, rfl, ?_⟩; replace HO884 := Aside0.mk (Kd.R_below (by (with_reducible repeat (first | apply Kd.R_alloc | apply Kd.R_drewN | apply Kd.R_drew)); exact HO884.out) hb); replace BK879 := bkb_ BK879 hb; replace BK880 := bkb_ BK880 hb; replace HB := bws_ HB hb; (try clear hb); (try clear hb2); (try clear hk); (try clear hi); obtain ⟨hcz17_0, hcz17_1, hfz17_0, hfz17_1⟩ := bc2_ BK879; obtain ⟨hcz18_0, hcz18_1, hfz18_0, hfz18_1⟩ := bc2_ BK880))
        refine bodyPost_ret (results_ct rfl _ _ gb880 23 #[.int .i64 a0_0, .int .i64 a0_1] (0, 0) _ rfl (by refine bp_ (cs := #[.int .i64 a0_0, .int .i64 0]) ?_ 1; refine bp_ (cs := #[.int .i64 0, .int .i64 0]) ?_ 0; exact bk_ BK880) Try.underlying23 rfl (by kernel_rfl)) rfl ?_
        exact ⟨by first | rfl | (simp [*] <;> rfl), bw_ HB⟩
      · rw [if_neg c7] at H
        have c7b0 : decide (a0_1 ≤ a1) = false := decide_eq_false c7
        clear c7
        have H' := Aside0.mk H
        clear H
        go_enter Try.func59, Try.ntmps59
        go_wp2_with (first | ((with_reducible refine gate_dst (N := 2) rfl ?_); refine box_event ?hg (N := 2) ?hd (cs := #[.int .i64 a0_0, .int .i64 a0_1]) (t := 23) ?hr ?_; (case hd => rfl); (case hg => rfl); (case hr => first | (go_simp; done) | (go_simp; rfl)); intro gb879 hg w19 hbox hb; have BK879 := Aside0.mk hbox; have GW879 := bwg_ HB hg; have GE879 := bwg_ HB hg; replace HB := bws_ HB hb; clear hb hbox hg) | ((with_reducible refine gate_dst (N := 4) rfl ?_); refine box_event ?hg (N := 4) ?hd (cs := #[.int .i64 0, .int .i64 0]) (t := 23) ?hr ?_; (case hd => rfl); (case hg => rfl); (case hr => first | (go_simp; done) | (go_simp; rfl)); intro gb880 hg w20 hbox hb; have BK880 := Aside0.mk hbox; have GW880 := bwg_ HB hg; have GE880 := bwg_ HB hg; replace HB := bws_ HB hb; have NB879_880 := bkl_ BK879 hg; have NB880_879 := bkr_ BK879 hg; replace BK879 := bkb_ BK879 hb; clear hb hbox hg; have hnb21 := NB879_880.out; have hnc21 := NB880_879.out; obtain ⟨hcz22_0, hcz22_1, hfz22_0, hfz22_1⟩ := bc2_ BK879) | ((with_reducible refine gate_callee (f := 46) rfl ?_); refine gla_ (some 12) Try.func46 #[.agg #[.int .i64 a0_0, .int .i64 a0_1]] ?_; (with_reducible refine (num_Check.calls k a0_0 a0_1 t881 _ A3.out).mono ?_); rintro e w23 ⟨rfl, hb⟩; refine ⟨_, rfl, ?_⟩; replace BK879 := bkb_ BK879 hb; replace BK880 := bkb_ BK880 hb; replace HB := bws_ HB hb; (try clear hb); (try clear hb2); (try clear hk); (try clear hi)) | ((with_reducible refine gate_dst (N := 18) rfl ?_); refine Kd.R_lit (Kd.int .i64) _ 3 ?hg (N := 18) ?hd (xs := ([a1] : List Int)) (inner := [.int .i64 a1]) (ok := fun _ => True) (okp := fun _ => True) ?hr ?hp (fun _ hk => hk) trivial (Below.refl _ _) (Nat.le_refl _) (by simp) ?_; (case hd => rfl); (case hg => rfl); (case hr => first | (go_simp; done) | (go_simp; rfl)); (case hp => exact (Reps.one (show Kd.M (Kd.int .i64) _ _ _ a1 [.int .i64 a1] from rfl) (Reps.none _ _))); intro v883 w24 ho25 hb hg_ hnew_; clear hg_ hnew_; (first | rw [← Ny882.out] at ho25 | (simp only [Int.reduceToNat] at ho25; rw [← Ny882.out] at ho25)); have HO884 := Aside0.mk (Kd.R_lower ho25 (below_size (bw_ HB))); replace BK879 := bkb_ BK879 hb; replace BK880 := bkb_ BK880 hb; replace HB := bws_ HB hb; clear hb ho25; obtain ⟨Ao26, co26, eo26⟩ := Kd.R_slice HO884.out; subst eo26) | ((with_reducible refine gate_callee (f := 80) rfl ?_); refine gla_ (some 19) Try.func80 #[.int .i64 1, .int .i64 1000, .slice Ao26 y882.length co26] ?_; (with_reducible refine (num_within.calls 1 1000 _ _ y882 true _ ?side1 ?side2 A5.out).mono ?_); (case side1 => repeat (first | exact (Kd.R_reads' HO884.out).2.2 | (with_reducible refine Kd.C_alloc ?_ _) | (with_reducible refine Kd.C_drewN ?_ _) | (with_reducible refine Kd.C_drew ?_))); (case side2 => exact (Kd.R_reads' HO884.out).2.1); rintro e w27 ⟨rfl, hb⟩; refine ⟨_, rfl, ?_⟩; replace HO884 := Aside0.mk (Kd.R_below (by (with_reducible repeat (first | apply Kd.R_alloc | apply Kd.R_drewN | apply Kd.R_drew)); exact HO884.out) hb); replace BK879 := bkb_ BK879 hb; replace BK880 := bkb_ BK880 hb; replace HB := bws_ HB hb; (try clear hb); (try clear hb2); (try clear hk); (try clear hi); obtain ⟨hcz28_0, hcz28_1, hfz28_0, hfz28_1⟩ := bc2_ BK879))
        go_loopg [7, 28] k (fun kq v7 v28 w' => ∃ (x7_1 : List (S65)) (x28_1 : Int), v28 = .int .i64 x28_1 ∧ Aside0 (num_Near.l0 kq x7_1 a1 x28_1 a0_0 a0_1 = some (r1, r2, r3)) ∧ Aside0 (kq ≤ k) ∧ Aside0 (Kd.R k65 65 w' w.heap.size (fun _ => True) v7 x7_1) ∧ Aside0 (w'.heap[gb879]? = some (.cells #[.int .i64 a0_0, .int .i64 a0_1] 23 (0, 0))) ∧ Aside0 (w'.heap[gb880]? = some (.cells #[.int .i64 0, .int .i64 0] 23 (0, 0))) ∧ Aside0 (Below w.heap.size w w'))
        case atStart => exact ⟨(([] : List (S65))), (0), (by first | rfl | (simp; done) | (simp [*]; done)), H', ⟨Nat.le_refl _⟩, ⟨by first | exact Kd.R_nil _ _ _ _ _ | exact Kd.N_nil _ _ _ _ _ | exact Kd.V_nil _ _ _ _ _ | exact Kd.Q_nil _ _ _ _ _ | exact Kd.S_nil _ _ _ _ _⟩, ⟨by exact bk_ BK879⟩, ⟨by exact bk_ BK880⟩, ⟨bw_ HB⟩⟩
        case round =>
          clear H'
          try clear c1
          try clear c2
          try clear p2
          try clear c4
          try clear c4b0
          try clear c4b1
          try clear c5
          try clear c6
          try clear c7
          try clear c7b0
          try clear c8
          try clear c10
          try clear c21
          try clear hcz11_0
          try clear hcz11_1
          try clear hcz17_0
          try clear hcz17_1
          try clear hcz18_0
          try clear hcz18_1
          try clear hcz22_0
          try clear hcz22_1
          try clear hcz28_0
          try clear hcz28_1
          try clear hfz11_0
          try clear hfz11_1
          try clear hfz17_0
          try clear hfz17_1
          try clear hfz18_0
          try clear hfz18_1
          try clear hfz22_0
          try clear hfz22_1
          try clear hfz28_0
          try clear hfz28_1
          obtain ⟨x7_1, x28_1, rfl, HA, HK1, HO_7, BK879, BK880, HB⟩ := hrel
          cases gk with
          | zero => exact absurd HA.out (by simp [num_Near.l0])
          | succ k1 =>
            have H := HA.out
            clear HA
            simp only [num_Near.l0] at H
            by_cases c29 : x28_1 < a1
            · rw [if_pos c29] at H
              have c29b0 : decide (x28_1 < a1) = true := decide_eq_true c29
              clear c29
              replace H := Option.bind_eq_some_iff.mp H
              obtain ⟨t886, A300, H⟩ := H
              replace H : ((some (([(⟨t886, wrap64 (x28_1 + 1)⟩ : S65), (⟨wrap64 (t886 + 1), wrap64 (x28_1 + 1)⟩ : S65)] : List (S65)) : List (S65))).bind fun y887 => (if x7_1.length + y887.length < 8796093022208 then (num_Near.l0 k1 (x7_1 ++ y887) a1 (wrap64 (x28_1 + 1)) a0_0 a0_1) else (none))) = some (r1, r2, r3) := H
              have A30 := Aside0.mk A300
              clear A300
              obtain ⟨y887, hy887⟩ : ∃ y_ : List (S65), y_ = (([(⟨t886, wrap64 (x28_1 + 1)⟩ : S65), (⟨wrap64 (t886 + 1), wrap64 (x28_1 + 1)⟩ : S65)] : List (S65))) := ⟨_, rfl⟩
              replace H : (if x7_1.length + y887.length < 8796093022208 then (num_Near.l0 k1 (x7_1 ++ y887) a1 (wrap64 (x28_1 + 1)) a0_0 a0_1) else (none)) = some (r1, r2, r3) := by first | (rw [hy887]; with_reducible exact H) | (have H2_ := (Option.bind_some _ _).symm.trans H; rw [hy887]; with_reducible exact H2_) | (have H2_ := (Option.bind_some _ _).symm.trans H; with_reducible exact H2_) | with_reducible exact H | (rw [hy887]; exact H) | exact H
              have Ny887 := Aside0.mk hy887
              clear hy887
              by_cases c31 : x7_1.length + y887.length < 8796093022208
              · rw [if_pos c31] at H
                have LMc31 := Aside0.mk c31
                clear c31
                obtain ⟨y890, hy890⟩ : ∃ y_ : List (S65), y_ = (x7_1 ++ y887) := ⟨_, rfl⟩
                replace H : (num_Near.l0 k1 y890 a1 (wrap64 (x28_1 + 1)) a0_0 a0_1) = some (r1, r2, r3) := by first | (rw [hy890]; with_reducible exact H) | (have H2_ := (Option.bind_some _ _).symm.trans H; rw [hy890]; with_reducible exact H2_) | (have H2_ := (Option.bind_some _ _).symm.trans H; with_reducible exact H2_) | with_reducible exact H | (rw [hy890]; exact H) | exact H
                have Ny890 := Aside0.mk hy890
                clear hy890
                have H' := Aside0.mk H
                clear H
                have hnb32 := NB879_880.out
                have hnc32 := NB880_879.out
                obtain ⟨hcz33_0, hcz33_1, hfz33_0, hfz33_1⟩ := bc2_ BK879
                go_wp2_with (first | ((with_reducible refine gate_callee (f := 75) rfl ?_); refine gla_ (some 39) Try.func75 #[.agg #[.int .i64 (wrap64 (a0_0 * (wrap64 (x28_1 + 1)))), .int .i64 a0_1]] ?_; (with_reducible refine (num_ratio_floor.calls (wrap64 (a0_0 * (wrap64 (x28_1 + 1)))) a0_1 t886 _ A30.out).mono ?_); rintro e w34 ⟨rfl, hb⟩; refine ⟨_, rfl, ?_⟩; replace HO_7 := Aside0.mk (Kd.R_below (by (with_reducible repeat (first | apply Kd.R_alloc | apply Kd.R_drewN | apply Kd.R_drew)); exact HO_7.out) hb); replace BK879 := bkb_ BK879 hb; replace BK880 := bkb_ BK880 hb; replace HB := bws_ HB hb; (try clear hb); (try clear hb2); (try clear hk); (try clear hi)) | ((with_reducible refine gate_dst (N := 50) rfl ?_); refine Kd.R_lit k65 _ 65 ?hg (N := 50) ?hd (xs := ([(⟨t886, wrap64 (x28_1 + 1)⟩ : S65), (⟨wrap64 (t886 + 1), wrap64 (x28_1 + 1)⟩ : S65)] : List (S65))) (inner := [.int .i64 t886, .int .i64 (wrap64 (x28_1 + 1)), .int .i64 (wrap64 (t886 + 1)), .int .i64 (wrap64 (x28_1 + 1))]) (ok := fun _ => True) (okp := fun _ => True) ?hr ?hp (fun _ hk => hk) trivial (Below.refl _ _) (Nat.le_refl _) (by simp) ?_; (case hd => rfl); (case hg => rfl); (case hr => first | (go_simp; done) | (go_simp; rfl)); (case hp => exact (Reps.c2 (show Kd.M k65 _ _ _ (⟨t886, wrap64 (x28_1 + 1)⟩ : S65) [.int .i64 t886, .int .i64 (wrap64 (x28_1 + 1))] from (k65_mkM _ _ _ (⟨t886, wrap64 (x28_1 + 1)⟩ : S65) )) (Reps.c2 (show Kd.M k65 _ _ _ (⟨wrap64 (t886 + 1), wrap64 (x28_1 + 1)⟩ : S65) [.int .i64 (wrap64 (t886 + 1)), .int .i64 (wrap64 (x28_1 + 1))] from (k65_mkM _ _ _ (⟨wrap64 (t886 + 1), wrap64 (x28_1 + 1)⟩ : S65) )) (Reps.none _ _)))); intro v888 w35 ho36 hb hg_ hnew_; clear hg_ hnew_; (first | rw [← Ny887.out] at ho36 | (simp only [Int.reduceToNat] at ho36; rw [← Ny887.out] at ho36)); have HO889 := Aside0.mk (Kd.R_lower (Kd.R_new' ho36 (Kd.R_lt (by (with_reducible repeat (first | apply Kd.R_alloc | apply Kd.R_drewN | apply Kd.R_drew)); exact HO_7.out))) (below_size (bw_ HB))); replace HO_7 := Aside0.mk (Kd.R_elder' (by (with_reducible repeat (first | apply Kd.R_alloc | apply Kd.R_drewN | apply Kd.R_drew)); exact HO_7.out) (Kd.R_base ho36) hb); replace BK879 := bkb_ BK879 hb; replace BK880 := bkb_ BK880 hb; replace HB := bws_ HB hb; clear hb ho36; obtain ⟨Ao38, co38, eo38⟩ := Kd.R_slice HO889.out; subst eo38) | ((with_reducible refine gate_builtin (b := .append) (xs := #[.tmp 40, .tmp 50]) rfl ?_); at_builtin; refine Kd.R_append_rows k65 (w0 := w) w.heap.size rfl (.tmp 40) (.tmp 50) 93 65 (.agg #[(.int .i64 0), (.int .i64 0)]) 16 rfl Try.underlying93 info65 rfl (by decide) (by omega) u7 x7_1 y887 _ _ _ (fun k_ => some k_ ≠ (.slice Ao38 y887.length co38 : Value).ownBlock) (fun _ => False) rfl rfl ?aO ?aR (fun _ _ h => h) (fun _ h => h.elim) ?aF ?aB ?aS ?aL ?_; (case aR => repeat (first | exact (Kd.R_reads' HO889.out).2.2 | (with_reducible refine Kd.C_alloc ?_ _) | (with_reducible refine Kd.C_drewN ?_ _) | (with_reducible refine Kd.C_drew ?_))); (case aB => exact (bw_ HB)); (case aF => exact (fun k_ hk => Kd.fresh' (Kd.R_lt (by (with_reducible repeat (first | apply Kd.R_alloc | apply Kd.R_drewN | apply Kd.R_drew)); exact HO889.out)) k_ hk)); (case aO => exact (by (with_reducible repeat (first | apply Kd.R_alloc | apply Kd.R_drewN | apply Kd.R_drew)); exact Kd.R_mono HO_7.out (fun _ hk => hk.2))); (case aS => exact (below_size (bw_ HB))); (case aL => have := LMc31.out; omega); intro v891 w37 ho hb hg hat; rw [← Ny890.out] at ho; replace BK879 := Aside0.mk (blk_grown (bk_ BK879) hg (Kd.R_ne HO_7.out BK879.out (by decide))); replace BK880 := Aside0.mk (blk_grown (bk_ BK880) hg (Kd.R_ne HO_7.out BK880.out (by decide))); replace HO889 := Aside0.mk (Kd.R_after (ok := (fun _ => True)) (by (with_reducible repeat (first | apply Kd.R_alloc | apply Kd.R_drewN | apply Kd.R_drew)); exact HO889.out) hg hat); replace HB := Aside0.mk hb; have HO892 := Aside0.mk ho; clear HO_7; clear ho hb hg hat))
                go_roundg k1
                case measure => have := HK1.out; omega
                case rel => exact ⟨(y890), (wrap64 (x28_1 + 1)), (by first | rfl | (simp; done) | (simp [*]; done)), H', ⟨by have := HK1.out; omega⟩, ⟨by (with_reducible repeat (first | apply Kd.R_alloc | apply Kd.R_drewN | apply Kd.R_drew)); exact Kd.R_mono HO892.out (fun _ hk => trivial)⟩, ⟨by exact bk_ BK879⟩, ⟨by exact bk_ BK880⟩, ⟨bw_ HB⟩⟩
              · rw [if_neg c31] at H
                exact absurd H (by simp)
            · rw [if_neg c29] at H
              have c29b0 : decide (x28_1 < a1) = false := decide_eq_false c29
              clear c29
              replace H := Option.bind_eq_some_iff.mp H
              obtain ⟨⟨t893, t894⟩, A390, H⟩ := H
              replace H : ((num_ratio_num.f k1 t893 t894).bind fun tz_ => exc tz_ (fun tp898 => (none)) (fun bt896 => (some (bt896.1, bt896.2, 0)))) = some (r1, r2, r3) := H
              have A39 := Aside0.mk A390
              clear A390
              replace H := Option.bind_eq_some_iff.mp H
              obtain ⟨tz_, A400, H⟩ := H
              cases tz_ with
              | error tp898 =>
                replace H : (none) = some (r1, r2, r3) := H
                have A40 := Aside0.mk A400
                clear A400
                exact absurd H (by simp)
              | ok bt896 =>
                obtain ⟨t896, t897⟩ := bt896
                replace H : (some (t896, t897, 0)) = some (r1, r2, r3) := H
                have A40 := Aside0.mk A400
                clear A400
                simp only [Option.some.injEq, Prod.mk.injEq] at H
                obtain ⟨rfl, rfl, rfl⟩ := H
                obtain ⟨Ao41, co41, eo41⟩ := Kd.R_slice HO_7.out
                subst eo41
                go_wp2_with (first | ((with_reducible refine gate_callee (f := 101) rfl ?_); refine gla_ (some 55) Try.func101 #[.slice Ao41 x7_1.length co41, .func (.func 102) #[] #[.pointer (some ⟨gb879, 0, none⟩)]] ?_; (with_reducible refine (num_ratio.calls k1 _ _ x7_1 a0_0 a0_1 t893 t894 _ ?side1 ?side2 ?side3 A39.out).mono ?_); (case side1 => repeat (first | exact (Kd.R_reads' HO_7.out).2.2 | (with_reducible refine Kd.C_alloc ?_ _) | (with_reducible refine Kd.C_drewN ?_ _) | (with_reducible refine Kd.C_drew ?_))); (case side2 => exact (Kd.R_reads' HO_7.out).2.1); (case side3 => exact by exact bk_ BK879); rintro e w42 ⟨rfl, hb⟩; refine ⟨_, rfl, ?_⟩; replace HO_7 := Aside0.mk (Kd.R_below (by (with_reducible repeat (first | apply Kd.R_alloc | apply Kd.R_drewN | apply Kd.R_drew)); exact HO_7.out) hb); replace BK879 := bkb_ BK879 hb; replace BK880 := bkb_ BK880 hb; replace HB := bws_ HB hb; (try clear hb); (try clear hb2); (try clear hk); (try clear hi)) | ((with_reducible refine gate_dst (N := 10) rfl ?_); refine box_event ?hg (N := 10) ?hd (cs := #[.int .i64 0, .int .i64 0]) (t := 65) ?hr ?_; (case hd => rfl); (case hg => rfl); (case hr => first | (go_simp; done) | (go_simp; rfl)); intro gb895 hg w43 hbox hb; replace HO_7 := Aside0.mk (Kd.R_below (Kd.R_elderB (by (with_reducible repeat (first | apply Kd.R_alloc | apply Kd.R_drewN | apply Kd.R_drew)); exact HO_7.out) gb895 (Nat.le_of_eq hg.symm)) hb); have BK895 := Aside0.mk hbox; have GW895 := bwg_ HB hg; have GE895 := bwg_ HB hg; replace HB := bws_ HB hb; have NB879_895 := bkl_ BK879 hg; have NB895_879 := bkr_ BK879 hg; replace BK879 := bkb_ BK879 hb; have NB880_895 := bkl_ BK880 hg; have NB895_880 := bkr_ BK880 hg; replace BK880 := bkb_ BK880 hb; clear hb hbox hg; have hnb44 := NB895_879.out; have hnc44 := NB879_895.out; have hnb45 := NB895_880.out; have hnc45 := NB880_895.out; obtain ⟨hcz46_0, hcz46_1, hfz46_0, hfz46_1⟩ := bc2_ BK895) | ((with_reducible refine gate_callee (f := 73) rfl ?_); refine gla_ (some 57) Try.func73 #[.agg #[.int .i64 t893, .int .i64 t894]] ?_; (with_reducible refine (num_ratio_num.calls k1 t893 t894 t896 t897 _ A40.out).mono ?_); rintro e w47 ⟨rfl, hb⟩; refine ⟨_, rfl, ?_⟩; replace HO_7 := Aside0.mk (Kd.R_below (by (with_reducible repeat (first | apply Kd.R_alloc | apply Kd.R_drewN | apply Kd.R_drew)); exact (Kd.R_mono (Kd.R_far (p := ⟨gb895, 1, none⟩) (Kd.R_far (p := ⟨gb895, 0, none⟩) (Kd.R_mono HO_7.out (fun k_ hk => (⟨hk, hk.2⟩ : _ ∧ k_ ≠ gb895))) (fun _ hk => hk.2) (.int .i64 t893)) (fun _ hk => hk.2) (.int .i64 t894)) (fun _ h_ => h_.1))) hb); replace BK879 := Aside0.mk (blk_below (g := gb879) (o := .cells #[.int .i64 a0_0, .int .i64 a0_1] 23 (0, 0)) (by refine bf_ ?_ NB879_895; refine bf_ ?_ NB879_895; exact bk_ BK879) hb); replace BK880 := Aside0.mk (blk_below (g := gb880) (o := .cells #[.int .i64 0, .int .i64 0] 23 (0, 0)) (by refine bf_ ?_ NB880_895; refine bf_ ?_ NB880_895; exact bk_ BK880) hb); replace BK895 := Aside0.mk (blk_below (g := gb895) (o := .cells #[.int .i64 t893, .int .i64 t894] 65 (0, 0)) (by refine bp_ (cs := #[.int .i64 t893, .int .i64 0]) ?_ 1; refine bp_ (cs := #[.int .i64 0, .int .i64 0]) ?_ 0; exact bk_ BK895) hb); replace HB := bws_ HB hb; (try clear hb); (try clear hb2); (try clear hk); (try clear hi); have hnb48 := NB880_879.out; have hnc48 := NB879_880.out; obtain ⟨hcz49_0, hcz49_1, hfz49_0, hfz49_1⟩ := bc2_ BK880))
                refine bodyPost_ret (results_ct rfl _ _ gb880 23 #[.int .i64 t896, .int .i64 t897] (0, 0) _ rfl (by refine bp_ (cs := #[.int .i64 t896, .int .i64 0]) ?_ 1; refine bp_ (cs := #[.int .i64 0, .int .i64 0]) ?_ 0; exact bk_ BK880) Try.underlying23 rfl (by kernel_rfl)) rfl ?_
                exact ⟨by first | rfl | (simp [*] <;> rfl), bw_ HB⟩
    · replace c6 := Bool.eq_false_iff.mpr c6
      subst c6
      have H1 : (some (0, 0, 3)) = some (r1, r2, r3) := by rw [if_neg (show ¬ (false = true) by decide)] at H; exact H
      clear H
      have H := H1
      clear H1
      simp only [Option.some.injEq, Prod.mk.injEq] at H
      obtain ⟨rfl, rfl, rfl⟩ := H
      go_enter Try.func59, Try.ntmps59
      go_wp2_with (first | ((with_reducible refine gate_dst (N := 2) rfl ?_); refine box_event ?hg (N := 2) ?hd (cs := #[.int .i64 a0_0, .int .i64 a0_1]) (t := 23) ?hr ?_; (case hd => rfl); (case hg => rfl); (case hr => first | (go_simp; done) | (go_simp; rfl)); intro gb879 hg w50 hbox hb; have BK879 := Aside0.mk hbox; have GW879 := bwg_ HB hg; have GE879 := bwg_ HB hg; replace HB := bws_ HB hb; clear hb hbox hg) | ((with_reducible refine gate_dst (N := 4) rfl ?_); refine box_event ?hg (N := 4) ?hd (cs := #[.int .i64 0, .int .i64 0]) (t := 23) ?hr ?_; (case hd => rfl); (case hg => rfl); (case hr => first | (go_simp; done) | (go_simp; rfl)); intro gb880 hg w51 hbox hb; have BK880 := Aside0.mk hbox; have GW880 := bwg_ HB hg; have GE880 := bwg_ HB hg; replace HB := bws_ HB hb; have NB879_880 := bkl_ BK879 hg; have NB880_879 := bkr_ BK879 hg; replace BK879 := bkb_ BK879 hb; clear hb hbox hg; have hnb52 := NB879_880.out; have hnc52 := NB880_879.out; obtain ⟨hcz53_0, hcz53_1, hfz53_0, hfz53_1⟩ := bc2_ BK879) | ((with_reducible refine gate_callee (f := 46) rfl ?_); refine gla_ (some 12) Try.func46 #[.agg #[.int .i64 a0_0, .int .i64 a0_1]] ?_; (with_reducible refine (num_Check.calls k a0_0 a0_1 t881 _ A3.out).mono ?_); rintro e w54 ⟨rfl, hb⟩; refine ⟨_, rfl, ?_⟩; replace BK879 := bkb_ BK879 hb; replace BK880 := bkb_ BK880 hb; replace HB := bws_ HB hb; (try clear hb); (try clear hb2); (try clear hk); (try clear hi)) | ((with_reducible refine gate_dst (N := 18) rfl ?_); refine Kd.R_lit (Kd.int .i64) _ 3 ?hg (N := 18) ?hd (xs := ([a1] : List Int)) (inner := [.int .i64 a1]) (ok := fun _ => True) (okp := fun _ => True) ?hr ?hp (fun _ hk => hk) trivial (Below.refl _ _) (Nat.le_refl _) (by simp) ?_; (case hd => rfl); (case hg => rfl); (case hr => first | (go_simp; done) | (go_simp; rfl)); (case hp => exact (Reps.one (show Kd.M (Kd.int .i64) _ _ _ a1 [.int .i64 a1] from rfl) (Reps.none _ _))); intro v883 w55 ho56 hb hg_ hnew_; clear hg_ hnew_; (first | rw [← Ny882.out] at ho56 | (simp only [Int.reduceToNat] at ho56; rw [← Ny882.out] at ho56)); have HO884 := Aside0.mk (Kd.R_lower ho56 (below_size (bw_ HB))); replace BK879 := bkb_ BK879 hb; replace BK880 := bkb_ BK880 hb; replace HB := bws_ HB hb; clear hb ho56; obtain ⟨Ao57, co57, eo57⟩ := Kd.R_slice HO884.out; subst eo57) | ((with_reducible refine gate_callee (f := 80) rfl ?_); refine gla_ (some 19) Try.func80 #[.int .i64 1, .int .i64 1000, .slice Ao57 y882.length co57] ?_; (with_reducible refine (num_within.calls 1 1000 _ _ y882 false _ ?side1 ?side2 A5.out).mono ?_); (case side1 => repeat (first | exact (Kd.R_reads' HO884.out).2.2 | (with_reducible refine Kd.C_alloc ?_ _) | (with_reducible refine Kd.C_drewN ?_ _) | (with_reducible refine Kd.C_drew ?_))); (case side2 => exact (Kd.R_reads' HO884.out).2.1); rintro e w58 ⟨rfl, hb⟩; refine ⟨_, rfl, ?_⟩; replace HO884 := Aside0.mk (Kd.R_below (by (with_reducible repeat (first | apply Kd.R_alloc | apply Kd.R_drewN | apply Kd.R_drew)); exact HO884.out) hb); replace BK879 := bkb_ BK879 hb; replace BK880 := bkb_ BK880 hb; replace HB := bws_ HB hb; (try clear hb); (try clear hb2); (try clear hk); (try clear hi); obtain ⟨hcz59_0, hcz59_1, hfz59_0, hfz59_1⟩ := bc2_ BK880))
      refine bodyPost_ret (results_ct rfl _ _ gb880 23 #[.int .i64 0, .int .i64 0] (0, 0) _ rfl (by refine bp_ (cs := #[.int .i64 0, .int .i64 0]) ?_ 1; refine bp_ (cs := #[.int .i64 0, .int .i64 0]) ?_ 0; exact bk_ BK880) Try.underlying23 rfl (by kernel_rfl)) rfl ?_
      exact ⟨by first | rfl | (simp [*] <;> rfl), bw_ HB⟩
  · rw [if_neg c4] at H
    have c4b0 : (t881 == 0) = false := beq_eq_false_iff_ne.mpr c4
    have c4b1 : (t881 != 0) = true := bne_iff_ne.mpr c4
    simp only [Option.some.injEq, Prod.mk.injEq] at H
    obtain ⟨rfl, rfl, rfl⟩ := H
    go_enter Try.func59, Try.ntmps59
    go_wp2_with (first | ((with_reducible refine gate_dst (N := 2) rfl ?_); refine box_event ?hg (N := 2) ?hd (cs := #[.int .i64 a0_0, .int .i64 a0_1]) (t := 23) ?hr ?_; (case hd => rfl); (case hg => rfl); (case hr => first | (go_simp; done) | (go_simp; rfl)); intro gb879 hg w60 hbox hb; have BK879 := Aside0.mk hbox; have GW879 := bwg_ HB hg; have GE879 := bwg_ HB hg; replace HB := bws_ HB hb; clear hb hbox hg) | ((with_reducible refine gate_dst (N := 4) rfl ?_); refine box_event ?hg (N := 4) ?hd (cs := #[.int .i64 0, .int .i64 0]) (t := 23) ?hr ?_; (case hd => rfl); (case hg => rfl); (case hr => first | (go_simp; done) | (go_simp; rfl)); intro gb880 hg w61 hbox hb; have BK880 := Aside0.mk hbox; have GW880 := bwg_ HB hg; have GE880 := bwg_ HB hg; replace HB := bws_ HB hb; have NB879_880 := bkl_ BK879 hg; have NB880_879 := bkr_ BK879 hg; replace BK879 := bkb_ BK879 hb; clear hb hbox hg; have hnb62 := NB879_880.out; have hnc62 := NB880_879.out; obtain ⟨hcz63_0, hcz63_1, hfz63_0, hfz63_1⟩ := bc2_ BK879) | ((with_reducible refine gate_callee (f := 46) rfl ?_); refine gla_ (some 12) Try.func46 #[.agg #[.int .i64 a0_0, .int .i64 a0_1]] ?_; (with_reducible refine (num_Check.calls k a0_0 a0_1 t881 _ A3.out).mono ?_); rintro e w64 ⟨rfl, hb⟩; refine ⟨_, rfl, ?_⟩; replace BK879 := bkb_ BK879 hb; replace BK880 := bkb_ BK880 hb; replace HB := bws_ HB hb; (try clear hb); (try clear hb2); (try clear hk); (try clear hi); obtain ⟨hcz65_0, hcz65_1, hfz65_0, hfz65_1⟩ := bc2_ BK880))
    refine bodyPost_ret (results_ct rfl _ _ gb880 23 #[.int .i64 0, .int .i64 0] (0, 0) _ rfl (by refine bp_ (cs := #[.int .i64 0, .int .i64 0]) ?_ 1; refine bp_ (cs := #[.int .i64 0, .int .i64 0]) ?_ 0; exact bk_ BK880) Try.underlying23 rfl (by kernel_rfl)) rfl ?_
    exact ⟨by first | rfl | (simp [*] <;> rfl), bw_ HB⟩
end Go.Proofs.Ytakcdoahpbeckaa.H
