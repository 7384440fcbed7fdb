/- NumTexts: the printed functions it reaches, with their walks. Laid by wip/claimpack.py out of what wip/hprint.py printed. -/
import Derived.Test.YtakcdoahpbeckaaKNumTexts2
namespace Go.Proofs.Ytakcdoahpbeckaa.H
open Go.RowKit Go.Proofs.YtakcdoahpbeckaaW.PrintWords Go.Proofs.YtakcdoahpbeckaaW.PrintLast Go.Proofs.YtakcdoahpbeckaaW.PrintMore
attribute [local go_sem] max2_int min2_int max_two min_two max_three min_three max_four min_four   -- for this text's walks alone
set_option linter.unusedVariables false
set_option linter.unusedSimpArgs false

/-! ### withyref01_Parse: function 40 -/
mutual
def withyref01_Parse.j0 : Nat → ByteArray → ByteArray → Int → Bool → Option (Int × Int × Int)
  | 0, _, _, _, _ => none
  | k + 1, x0, x4, x5, x21 => if x21 = true then (if 1 ≤ (x0.size : Int) then (withyref01_Parse.j1 k x0 (x0.extract 1 x0.size) (-1)) else (none)) else (withyref01_Parse.j1 k x0 x4 x5)
def withyref01_Parse.j1 : Nat → ByteArray → ByteArray → Int → Option (Int × Int × Int)
  | 0, _, _, _ => none
  | k + 1, x0, x4, x5 => (withyref01_find.f k x4 46).bind fun t478 => ((withyref01_find.f k x4 47).bind fun t479 => (if t478 < (x4.size : Int) then (if 0 ≤ t478 then (if t478 ≤ (x4.size : Int) then (if 0 ≤ (wrap64 (t478 + 1)) then (if (wrap64 (t478 + 1)) ≤ (x4.size : Int) then ((withyref01_parseDecimal.f k (x4.extract 0 (t478 : Int).toNat) (x4.extract ((wrap64 (t478 + 1)) : Int).toNat x4.size) x5).bind fun bt480 => (some (bt480.1, bt480.2.1, bt480.2.2))) else (none)) else (none)) else (none)) else (none)) else (if 0 ≤ t479 then (if t479 ≤ (x4.size : Int) then ((withyref01_Count.f k (x4.extract 0 (t479 : Int).toNat) 10).bind fun bt483 => (if t479 < (x4.size : Int) then (if 0 ≤ (wrap64 (t479 + 1)) then (if (wrap64 (t479 + 1)) ≤ (x4.size : Int) then ((withyref01_Count.f k (x4.extract ((wrap64 (t479 + 1)) : Int).toNat x4.size) 10).bind fun bt485 => (withyref01_Parse.j2 k x0 x5 bt483.1 bt483.2 bt485.1 bt485.2)) else (none)) else (none)) else (withyref01_Parse.j2 k x0 x5 bt483.1 bt483.2 1 true))) else (none)) else (none))))
def withyref01_Parse.j2 : Nat → ByteArray → Int → Int → Bool → Int → Bool → Option (Int × Int × Int)
  | 0, _, _, _, _, _, _ => none
  | k + 1, x0, x5, x8, x9, x10, x11 => if x9 = true then (if x11 = true then ((withyref01_Check.f k (wrap64 (x5 * x8)) x10).bind fun t488 => (if t488 = 0 then ((withyref01_Told.f k (wrap64 (x5 * x8)) x10).bind fun t489 => (if t489.toList = x0.toList then (some (wrap64 (x5 * x8), x10, 0)) else (some (0, 0, 1)))) else (some (0, 0, 1)))) else (some (0, 0, 1))) else (some (0, 0, 1))
end
def withyref01_Parse.f (k : Nat) (a0 : ByteArray) : Option (Int × Int × Int) := if (a0.size : Int) > 0 then (if 0 < (a0.size : Int) then (withyref01_Parse.j0 k a0 a0 1 ((bt a0 0) == 45)) else (none)) else (withyref01_Parse.j0 k a0 a0 1 false)
theorem withyref01_Parse.mono_l : ∀ k, (∀ y0 y1 y2 y3, LeO (withyref01_Parse.j0 k y0 y1 y2 y3) (withyref01_Parse.j0 (k + 1) y0 y1 y2 y3)) ∧ (∀ y0 y1 y2, LeO (withyref01_Parse.j1 k y0 y1 y2) (withyref01_Parse.j1 (k + 1) y0 y1 y2)) ∧ (∀ y0 y1 y2 y3 y4 y5, LeO (withyref01_Parse.j2 k y0 y1 y2 y3 y4 y5) (withyref01_Parse.j2 (k + 1) y0 y1 y2 y3 y4 y5))
  | 0 => ⟨fun _ _ _ _ r h => by simp [withyref01_Parse.j0] at h, fun _ _ _ r h => by simp [withyref01_Parse.j1] at h, fun _ _ _ _ _ _ r h => by simp [withyref01_Parse.j2] at h⟩
  | k + 1 => by
    obtain ⟨ih0, ih1, ih2⟩ := withyref01_Parse.mono_l k
    refine ⟨?_, ?_, ?_⟩
    · intro y0 y1 y2 y3
      unfold withyref01_Parse.j0
      repeat' first
      | (with_reducible exact ih0 _ _ _ _)
      | (with_reducible exact ih1 _ _ _)
      | (with_reducible exact ih2 _ _ _ _ _ _)
      | (with_reducible exact withyref01_Check.mono _ _ _)
      | (with_reducible exact withyref01_Count.mono _ _ _)
      | (with_reducible exact withyref01_Told.mono _ _ _)
      | (with_reducible exact withyref01_find.mono _ _ _)
      | (with_reducible exact withyref01_parseDecimal.mono _ _ _ _)
      | (with_reducible exact LeO.refl _)
      | (with_reducible exact LeO.none _)
      | (with_reducible refine LeO.ite ?_ ?_)
      | (with_reducible refine LeO.bind ?_ (fun _ => ?_))
      | (with_reducible refine LeO.exc (fun _ => ?_) (fun _ => ?_))
      | exact ih0 _ _ _ _
      | exact ih1 _ _ _
      | exact ih2 _ _ _ _ _ _
      | exact withyref01_Check.mono _ _ _
      | exact withyref01_Count.mono _ _ _
      | exact withyref01_Told.mono _ _ _
      | exact withyref01_find.mono _ _ _
      | exact withyref01_parseDecimal.mono _ _ _ _
      | exact LeO.none _
      | refine LeO.ite ?_ ?_
      | refine LeO.bind ?_ (fun _ => ?_)
    · intro y0 y1 y2
      unfold withyref01_Parse.j1
      repeat' first
      | (with_reducible exact ih0 _ _ _ _)
      | (with_reducible exact ih1 _ _ _)
      | (with_reducible exact ih2 _ _ _ _ _ _)
      | (with_reducible exact withyref01_Check.mono _ _ _)
      | (with_reducible exact withyref01_Count.mono _ _ _)
      | (with_reducible exact withyref01_Told.mono _ _ _)
      | (with_reducible exact withyref01_find.mono _ _ _)
      | (with_reducible exact withyref01_parseDecimal.mono _ _ _ _)
      | (with_reducible exact LeO.refl _)
      | (with_reducible exact LeO.none _)
      | (with_reducible refine LeO.ite ?_ ?_)
      | (with_reducible refine LeO.bind ?_ (fun _ => ?_))
      | (with_reducible refine LeO.exc (fun _ => ?_) (fun _ => ?_))
      | exact ih0 _ _ _ _
      | exact ih1 _ _ _
      | exact ih2 _ _ _ _ _ _
      | exact withyref01_Check.mono _ _ _
      | exact withyref01_Count.mono _ _ _
      | exact withyref01_Told.mono _ _ _
      | exact withyref01_find.mono _ _ _
      | exact withyref01_parseDecimal.mono _ _ _ _
      | exact LeO.none _
      | refine LeO.ite ?_ ?_
      | refine LeO.bind ?_ (fun _ => ?_)
    · intro y0 y1 y2 y3 y4 y5
      unfold withyref01_Parse.j2
      repeat' first
      | (with_reducible exact ih0 _ _ _ _)
      | (with_reducible exact ih1 _ _ _)
      | (with_reducible exact ih2 _ _ _ _ _ _)
      | (with_reducible exact withyref01_Check.mono _ _ _)
      | (with_reducible exact withyref01_Count.mono _ _ _)
      | (with_reducible exact withyref01_Told.mono _ _ _)
      | (with_reducible exact withyref01_find.mono _ _ _)
      | (with_reducible exact withyref01_parseDecimal.mono _ _ _ _)
      | (with_reducible exact LeO.refl _)
      | (with_reducible exact LeO.none _)
      | (with_reducible refine LeO.ite ?_ ?_)
      | (with_reducible refine LeO.bind ?_ (fun _ => ?_))
      | (with_reducible refine LeO.exc (fun _ => ?_) (fun _ => ?_))
      | exact ih0 _ _ _ _
      | exact ih1 _ _ _
      | exact ih2 _ _ _ _ _ _
      | exact withyref01_Check.mono _ _ _
      | exact withyref01_Count.mono _ _ _
      | exact withyref01_Told.mono _ _ _
      | exact withyref01_find.mono _ _ _
      | exact withyref01_parseDecimal.mono _ _ _ _
      | exact LeO.none _
      | refine LeO.ite ?_ ?_
      | refine LeO.bind ?_ (fun _ => ?_)
theorem withyref01_Parse.mono : ∀ a0 k, LeO (withyref01_Parse.f k a0) (withyref01_Parse.f (k + 1) a0) := by
  intro a0 k
  obtain ⟨ih0, ih1, ih2⟩ := withyref01_Parse.mono_l k
  unfold withyref01_Parse.f
  repeat' first
      | (with_reducible exact ih0 _ _ _ _)
      | (with_reducible exact ih1 _ _ _)
      | (with_reducible exact ih2 _ _ _ _ _ _)
      | (with_reducible exact withyref01_Check.mono _ _ _)
      | (with_reducible exact withyref01_Count.mono _ _ _)
      | (with_reducible exact withyref01_Told.mono _ _ _)
      | (with_reducible exact withyref01_find.mono _ _ _)
      | (with_reducible exact withyref01_parseDecimal.mono _ _ _ _)
      | (with_reducible exact LeO.refl _)
      | (with_reducible exact LeO.none _)
      | (with_reducible refine LeO.ite ?_ ?_)
      | (with_reducible refine LeO.bind ?_ (fun _ => ?_))
      | (with_reducible refine LeO.exc (fun _ => ?_) (fun _ => ?_))
      | exact ih0 _ _ _ _
      | exact ih1 _ _ _
      | exact ih2 _ _ _ _ _ _
      | exact withyref01_Check.mono _ _ _
      | exact withyref01_Count.mono _ _ _
      | exact withyref01_Told.mono _ _ _
      | exact withyref01_find.mono _ _ _
      | exact withyref01_parseDecimal.mono _ _ _ _
      | exact LeO.none _
      | refine LeO.ite ?_ ?_
      | refine LeO.bind ?_ (fun _ => ?_)
def withyref01_Parse.T6 : Bool × List (List Nat × List Nat) := (true, [([], []), ([], []), ([0, 1], [0, 1]), ([], []), ([], []), ([4], [4]), ([3, 5], [3, 5]), ([], []), ([2, 6, 7], [2, 6, 7]), ([8], [8]), ([8], [8]), ([9, 8, 0, 1, 2, 3, 4, 5, 6, 7, 8, 9, 10], [9]), ([10, 11, 0, 1, 2, 3, 4, 5, 6, 7, 8, 9, 10, 11], [10])])
def withyref01_Parse.B6 : List Nat := [0, 0, 3, 0, 0, 16, 56, 0, 255, 511, 511, 2047, 4095]
theorem withyref01_Parse.tab6 : rtab .any (opsOf Try.f40 6) = withyref01_Parse.T6 := by kernel_rfl
theorem withyref01_Parse.bits6 : waitsOk withyref01_Parse.T6.2 withyref01_Parse.B6 = true := by kernel_rfl
set_option maxHeartbeats 8000000 in
set_option maxRecDepth 100000 in
theorem withyref01_Parse.calls (k : Nat) (a0 : ByteArray) (r1 : Int) (r2 : Int) (r3 : Int) (w : World) (h : withyref01_Parse.f k a0 = some (r1, r2, r3)) :
    Calls Try.prog 40 #[.string a0] w fun e w' => e = .returned (.tuple #[.agg #[.int .i64 r1, .int .i64 r2], .int .i64 r3]) ∧ Below w.heap.size w w' := by
  have hu23 := Try.underlying23
  have HB := Aside0.mk (Below.refl w.heap.size w)
  have H : (if (a0.size : Int) > 0 then (if 0 < (a0.size : Int) then (withyref01_Parse.j0 k a0 a0 1 ((bt a0 0) == 45)) else (none)) else (withyref01_Parse.j0 k a0 a0 1 false)) = some (r1, r2, r3) := h
  clear h
  have HC2 := Aside0.mk H
  clear H
  go_enter Try.func40, Try.ntmps40
  go_upto_region 2 with (first | ((with_reducible refine gate_dst (N := 2) rfl ?_); refine box_event ?hg (N := 2) ?hd (cs := #[.int .i64 0, .int .i64 0]) (t := 23) ?hr ?_; (case hd => rfl); (case hg => rfl); (case hr => first | (go_simp; done) | (go_simp; rfl)); intro gb477 hg w3 hbox hb; have BK477 := Aside0.mk hbox; have GW477 := bwg_ HB hg; have GE477 := bwg_ HB hg; replace HB := bws_ HB hb; clear hb hbox hg))
  (try simp only [Act.put, List.setIfInBounds_toArray, List.set_cons_zero, List.set_cons_succ])
  go_cut [21] (fun v21 wc => ∃ (kq : Nat) (x21_1 : Bool), v21 = .bool x21_1 ∧ Aside0 (withyref01_Parse.j0 kq a0 a0 1 x21_1 = some (r1, r2, r3)) ∧ Aside0 (kq ≤ k) ∧ Aside0 (wc.heap[gb477]? = some (.cells #[.int .i64 0, .int .i64 0] 23 (0, 0))) ∧ Aside0 (Below w.heap.size w wc))
  case first =>
    have H := HC2.out
    clear HC2
    by_cases c4 : (a0.size : Int) > 0
    · rw [if_pos c4] at H
      have c4b0 : decide (0 < (a0.size : Int)) = true := decide_eq_true c4
      have c4b1 : decide (0 < a0.size) = true := decide_eq_true (by omega)
      clear c4
      (first | rw [c4b0] | (simp only [i64_w, i32_w]; rw [c4b0]) | skip)
      by_cases c5 : 0 < (a0.size : Int)
      · rw [if_pos c5] at H
        have c5b0 : decide (0 < (a0.size : Int)) = true := decide_eq_true c5
        have c5b1 : decide (0 < a0.size) = true := decide_eq_true (by omega)
        clear c5
        have H' := Aside0.mk H
        clear H
        have p6 : 0 ≤ (0 : Int) := (by omega)
        have q6 : 0 < a0.size := (by have : (0 : Int) < (a0.size : Int) := of_decide_eq_true (by first | (with_reducible assumption) | assumption); omega)
        have hx6 : ∀ h : 0 < a0.size, ((a0[0]'h).toNat : Int) = bt a0 0 := bt_at a0 0
        clear p6
        have qi6 : (0 < (a0.size : Int)) = True := eq_true (of_decide_eq_true (by first | (with_reducible assumption) | assumption))
        replace q6 := eq_true q6
        go_wp2
        go_meet
        case rel => exact ⟨_, (((bt a0 0) == 45)), (by first | rfl | (simp; done) | (simp [*]; done)), H', ⟨by first | omega | exact Nat.le_refl _⟩, ⟨by exact bk_ BK477⟩, ⟨bw_ HB⟩⟩
      · rw [if_neg c5] at H
        exact absurd H (by simp)
    · rw [if_neg c4] at H
      have c4b0 : decide (0 < (a0.size : Int)) = false := decide_eq_false c4
      have c4b1 : decide (0 < a0.size) = false := decide_eq_false (by omega)
      clear c4
      (first | rw [c4b0] | (simp only [i64_w, i32_w]; rw [c4b0]) | skip)
      have H' := Aside0.mk H
      clear H
      go_wp2
      go_meet
      case rel => exact ⟨_, (false), (by first | rfl | (simp; done) | (simp [*]; done)), H', ⟨by first | omega | exact Nat.le_refl _⟩, ⟨by exact bk_ BK477⟩, ⟨bw_ HB⟩⟩
  case rest =>
    clear HC2
    try clear p2
    try clear c4
    try clear c4b0
    try clear c4b1
    try clear c5
    try clear c5b0
    try clear c5b1
    try clear p6
    try clear q6
    try clear hx6
    try clear qi6
    try clear p6
    try clear q6
    obtain ⟨kq, x21_1, rfl, HA, HJ1, BK477, HB⟩ := hcut
    cases kq with
    | zero => exact absurd HA.out (by simp [withyref01_Parse.j0])
    | succ kj1 =>
      have H := HA.out
      clear HA
      simp only [withyref01_Parse.j0] at H
      have HC7 := Aside0.mk H
      clear H
      go_upto_if 21 with (fail)
      go_cut [4, 5] (fun v4 v5 wc => ∃ (kq : Nat) (x4_6 : ByteArray) (x5_6 : Int), v4 = .string x4_6 ∧ v5 = .int .i64 x5_6 ∧ Aside0 (withyref01_Parse.j1 kq a0 x4_6 x5_6 = some (r1, r2, r3)) ∧ Aside0 (kq ≤ kj1) ∧ Aside0 (wc.heap[gb477]? = some (.cells #[.int .i64 0, .int .i64 0] 23 (0, 0))) ∧ Aside0 (Below w.heap.size w wc))
      case first =>
        have H := HC7.out
        clear HC7
        by_cases c8 : x21_1 = true
        · subst c8
          have H1 : (if 1 ≤ (a0.size : Int) then (withyref01_Parse.j1 kj1 a0 (a0.extract 1 a0.size) (-1)) else (none)) = some (r1, r2, r3) := by rw [if_pos rfl] at H; exact H
          clear H
          have H := H1
          clear H1
          by_cases c9 : 1 ≤ (a0.size : Int)
          · rw [if_pos c9] at H
            have c9b0 := eq_true c9
            have c9b1 : decide (1 ≤ (a0.size : Int)) = true := decide_eq_true c9
            clear c9
            have H' := Aside0.mk H
            clear H
            go_wp2
            go_meet
            case rel => exact ⟨_, (a0.extract 1 a0.size), ((-1)), (by first | rfl | (simp; done) | (simp [*]; done)), (by first | rfl | (simp; done) | (simp [*]; done)), H', ⟨by have := HJ1.out; first | omega | exact Nat.le_refl _⟩, ⟨by exact bk_ BK477⟩, ⟨bw_ HB⟩⟩
          · rw [if_neg c9] at H
            exact absurd H (by simp)
        · replace c8 := Bool.eq_false_iff.mpr c8
          subst c8
          have H1 : (withyref01_Parse.j1 kj1 a0 a0 1) = some (r1, r2, r3) := by rw [if_neg (show ¬ (false = true) by decide)] at H; exact H
          clear H
          have H := H1
          clear H1
          have H' := Aside0.mk H
          clear H
          go_wp2
          go_meet
          case rel => exact ⟨_, (a0), (1), (by first | rfl | (simp; done) | (simp [*]; done)), (by first | rfl | (simp; done) | (simp [*]; done)), H', ⟨by have := HJ1.out; first | omega | exact Nat.le_refl _⟩, ⟨by exact bk_ BK477⟩, ⟨bw_ HB⟩⟩
      case rest =>
        clear HC7
        try clear p2
        try clear c4
        try clear c4b0
        try clear c4b1
        try clear c5
        try clear c5b0
        try clear c5b1
        try clear p6
        try clear q6
        try clear hx6
        try clear qi6
        try clear c8
        try clear c9
        try clear c9b0
        try clear c9b1
        try clear p2
        try clear p6
        try clear q6
        obtain ⟨kq, x4_6, x5_6, rfl, rfl, HA, HJ6, BK477, HB⟩ := hcut
        cases kq with
        | zero => exact absurd HA.out (by simp [withyref01_Parse.j1])
        | succ kj6 =>
          have H := HA.out
          clear HA
          simp only [withyref01_Parse.j1] at H
          replace H := Option.bind_eq_some_iff.mp H
          obtain ⟨t478, A100, H⟩ := H
          replace H : ((withyref01_find.f kj6 x4_6 47).bind fun t479 => (if t478 < (x4_6.size : Int) then (if 0 ≤ t478 then (if t478 ≤ (x4_6.size : Int) then (if 0 ≤ (wrap64 (t478 + 1)) then (if (wrap64 (t478 + 1)) ≤ (x4_6.size : Int) then ((withyref01_parseDecimal.f kj6 (x4_6.extract 0 (t478 : Int).toNat) (x4_6.extract ((wrap64 (t478 + 1)) : Int).toNat x4_6.size) x5_6).bind fun bt480 => (some (bt480.1, bt480.2.1, bt480.2.2))) else (none)) else (none)) else (none)) else (none)) else (if 0 ≤ t479 then (if t479 ≤ (x4_6.size : Int) then ((withyref01_Count.f kj6 (x4_6.extract 0 (t479 : Int).toNat) 10).bind fun bt483 => (if t479 < (x4_6.size : Int) then (if 0 ≤ (wrap64 (t479 + 1)) then (if (wrap64 (t479 + 1)) ≤ (x4_6.size : Int) then ((withyref01_Count.f kj6 (x4_6.extract ((wrap64 (t479 + 1)) : Int).toNat x4_6.size) 10).bind fun bt485 => (withyref01_Parse.j2 kj6 a0 x5_6 bt483.1 bt483.2 bt485.1 bt485.2)) else (none)) else (none)) else (withyref01_Parse.j2 kj6 a0 x5_6 bt483.1 bt483.2 1 true))) else (none)) else (none)))) = some (r1, r2, r3) := H
          have A10 := Aside0.mk A100
          clear A100
          replace H := Option.bind_eq_some_iff.mp H
          obtain ⟨t479, A110, H⟩ := H
          replace H : (if t478 < (x4_6.size : Int) then (if 0 ≤ t478 then (if t478 ≤ (x4_6.size : Int) then (if 0 ≤ (wrap64 (t478 + 1)) then (if (wrap64 (t478 + 1)) ≤ (x4_6.size : Int) then ((withyref01_parseDecimal.f kj6 (x4_6.extract 0 (t478 : Int).toNat) (x4_6.extract ((wrap64 (t478 + 1)) : Int).toNat x4_6.size) x5_6).bind fun bt480 => (some (bt480.1, bt480.2.1, bt480.2.2))) else (none)) else (none)) else (none)) else (none)) else (if 0 ≤ t479 then (if t479 ≤ (x4_6.size : Int) then ((withyref01_Count.f kj6 (x4_6.extract 0 (t479 : Int).toNat) 10).bind fun bt483 => (if t479 < (x4_6.size : Int) then (if 0 ≤ (wrap64 (t479 + 1)) then (if (wrap64 (t479 + 1)) ≤ (x4_6.size : Int) then ((withyref01_Count.f kj6 (x4_6.extract ((wrap64 (t479 + 1)) : Int).toNat x4_6.size) 10).bind fun bt485 => (withyref01_Parse.j2 kj6 a0 x5_6 bt483.1 bt483.2 bt485.1 bt485.2)) else (none)) else (none)) else (withyref01_Parse.j2 kj6 a0 x5_6 bt483.1 bt483.2 1 true))) else (none)) else (none))) = some (r1, r2, r3) := H
          have A11 := Aside0.mk A110
          clear A110
          by_cases c12 : t478 < (x4_6.size : Int)
          · rw [if_pos c12] at H
            have c12b0 : decide (t478 < (x4_6.size : Int)) = true := decide_eq_true c12
            clear c12
            by_cases c13 : 0 ≤ t478
            · rw [if_pos c13] at H
              have c13b0 := eq_true c13
              have c13b1 : decide (0 ≤ t478) = true := decide_eq_true c13
              clear c13
              by_cases c14 : t478 ≤ (x4_6.size : Int)
              · rw [if_pos c14] at H
                have c14b0 := eq_true c14
                have c14b1 : decide (t478 ≤ (x4_6.size : Int)) = true := decide_eq_true c14
                clear c14
                obtain ⟨ji15, hji15⟩ : ∃ j_ : Int, (wrap64 (t478 + 1)) = j_ := ⟨_, rfl⟩
                replace H : (if 0 ≤ (ji15) then (if (ji15) ≤ (x4_6.size : Int) then ((withyref01_parseDecimal.f kj6 (x4_6.extract 0 (t478 : Int).toNat) (x4_6.extract ((ji15) : Int).toNat x4_6.size) x5_6).bind fun bt480 => (some (bt480.1, bt480.2.1, bt480.2.2))) else (none)) else (none)) = some (r1, r2, r3) := by first | (rw [hji15] at H; exact H) | (simp only [hji15] at H ⊢; exact H)
                (try rw [hji15] at A10)
                (try rw [hji15] at A11)
                have hji15w : (IntKind.i64.wrap (t478 + 1)) = ji15 := (i64_w _).trans hji15
                by_cases c16 : 0 ≤ (ji15)
                · rw [if_pos c16] at H
                  have c16b0 := eq_true c16
                  have c16b1 : decide (0 ≤ (ji15)) = true := decide_eq_true c16
                  clear c16
                  by_cases c17 : (ji15) ≤ (x4_6.size : Int)
                  · rw [if_pos c17] at H
                    have c17b0 := eq_true c17
                    have c17b1 : decide ((ji15) ≤ (x4_6.size : Int)) = true := decide_eq_true c17
                    clear c17
                    replace H := Option.bind_eq_some_iff.mp H
                    obtain ⟨⟨t480, t481, t482⟩, A180, H⟩ := H
                    replace H : (some (t480, t481, t482)) = some (r1, r2, r3) := H
                    have A18 := Aside0.mk A180
                    clear A180
                    simp only [Option.some.injEq, Prod.mk.injEq] at H
                    obtain ⟨rfl, rfl, rfl⟩ := H
                    try go_wp2_with (first | ((with_reducible refine gate_callee (f := 90) rfl ?_); refine gla_ (some 25) Try.func90 #[.string x4_6, .int .u8 46] ?_; (with_reducible refine (withyref01_find.calls kj6 x4_6 46 t478 _ A10.out).mono ?_); rintro e w' ⟨rfl, ⟨nd, rfl⟩⟩; refine ⟨_, rfl, ?_⟩; (try (rw [drewN_self wc]; generalize hq_ : World.drewN wc _ = wc; have n0_ : Aside0 (wc.heap[gb477]? = some (.cells #[.int .i64 0, .int .i64 0] 23 (0, 0))) := ⟨by rw [← hq_]; exact (bk_ BK477)⟩; have n1_ : Aside0 (Below w.heap.size w wc) := ⟨by rw [← hq_]; exact (bw_ HB)⟩; clear BK477 HB hq_; have BK477 := n0_; have HB := n1_; clear n0_ n1_))) | ((with_reducible refine gate_callee (f := 90) rfl ?_); refine gla_ (some 27) Try.func90 #[.string x4_6, .int .u8 47] ?_; (with_reducible refine (withyref01_find.calls kj6 x4_6 47 t479 _ A11.out).mono ?_); rintro e w' ⟨rfl, ⟨nd, rfl⟩⟩; refine ⟨_, rfl, ?_⟩; (try (rw [drewN_self wc]; generalize hq_ : World.drewN wc _ = wc; have n0_ : Aside0 (wc.heap[gb477]? = some (.cells #[.int .i64 0, .int .i64 0] 23 (0, 0))) := ⟨by rw [← hq_]; exact (bk_ BK477)⟩; have n1_ : Aside0 (Below w.heap.size w wc) := ⟨by rw [← hq_]; exact (bw_ HB)⟩; clear BK477 HB hq_; have BK477 := n0_; have HB := n1_; clear n0_ n1_))))
                    replace BK477 := Aside0.mk (blk_drew BK477.out)
                    replace HB := Aside0.mk (below_drew1 HB.out)
                    refine start_ (n := 13) (S := fun w' => True) (ds := []) #[false, false, false, false, false, false, false, false, false, false, false, false, false] (by kernel_rfl) rfl rfl trivial (fun hHeld => ?_); refine with_tabW withyref01_Parse.tab6 withyref01_Parse.bits6 (fun HT_ HW_ => ?_)
                    generalize wc.drew = w19 at BK477 HB hHeld ⊢
                    refine pure_ (i := 0) (N := some 32) (v := ?_) (a' := ?_) #[true, false, false, false, false, false, false, false, false, false, false, false, false] rfl rfl (any_of HT_.out (by kernel_rfl)) (fun _ _ _ h => h) (Or.inl ⟨by rfl, ?_⟩) ?_ ?_
                    rotate_left
                    · intro w'
                      go_simp
                      with_reducible rfl
                    rotate_left
                    · simp only [Act.put, List.setIfInBounds_toArray, List.set_cons_zero, List.set_cons_succ, i64_w, i32_w]
                      rfl
                    refine pure_ (i := 1) (N := some 33) (v := ?_) (a' := ?_) #[true, true, false, false, false, false, false, false, false, false, false, false, false] rfl rfl (any_of HT_.out (by kernel_rfl)) (fun _ _ _ h => h) (Or.inl ⟨by rfl, ?_⟩) ?_ ?_
                    rotate_left
                    · intro w'
                      go_simp
                      with_reducible rfl
                    rotate_left
                    · simp only [Act.put, List.setIfInBounds_toArray, List.set_cons_zero, List.set_cons_succ, i64_w, i32_w]
                      rfl
                    refine pure_ (i := 2) (N := some 34) (v := ?_) (a' := ?_) #[true, true, true, false, false, false, false, false, false, false, false, false, false] rfl rfl (any_of HT_.out (by kernel_rfl)) (fun _ _ _ h => h) (Or.inl ⟨by rfl, ?_⟩) ?_ ?_
                    rotate_left
                    · intro w'
                      go_simp
                      with_reducible rfl
                    rotate_left
                    · simp only [Act.put, List.setIfInBounds_toArray, List.set_cons_zero, List.set_cons_succ, i64_w, i32_w]
                      rfl
                    refine pure_ (i := 3) (N := some 35) (v := ?_) (a' := ?_) #[true, true, true, true, false, false, false, false, false, false, false, false, false] rfl rfl (any_of HT_.out (by kernel_rfl)) (fun _ _ _ h => h) (Or.inl ⟨by rfl, ?_⟩) ?_ ?_
                    rotate_left
                    · intro w'
                      go_simp
                      with_reducible rfl
                    rotate_left
                    · simp only [Act.put, List.setIfInBounds_toArray, List.set_cons_zero, List.set_cons_succ, i64_w, i32_w]
                      rfl
                    refine pure_ (i := 4) (N := some 36) (v := ?_) (a' := ?_) #[true, true, true, true, true, false, false, false, false, false, false, false, false] rfl rfl (any_of HT_.out (by kernel_rfl)) (fun _ _ _ h => h) (Or.inl ⟨by rfl, ?_⟩) ?_ ?_
                    rotate_left
                    · intro w'
                      go_simp
                      with_reducible rfl
                    rotate_left
                    · simp only [Act.put, List.setIfInBounds_toArray, List.set_cons_zero, List.set_cons_succ, i64_w, i32_w]
                      rfl
                    refine pure_ (i := 5) (N := some 37) (v := ?_) (a' := ?_) #[true, true, true, true, true, true, false, false, false, false, false, false, false] rfl rfl (any_of HT_.out (by kernel_rfl)) (fun _ _ _ h => h) (Or.inl ⟨by rfl, ?_⟩) ?_ ?_
                    rotate_left
                    · intro w'
                      go_simp
                      with_reducible rfl
                    rotate_left
                    · simp only [Act.put, List.setIfInBounds_toArray, List.set_cons_zero, List.set_cons_succ, i64_w, i32_w]
                      rfl
                    refine pure_ (i := 6) (N := some 38) (v := ?_) (a' := ?_) #[true, true, true, true, true, true, true, false, false, false, false, false, false] rfl rfl (any_of HT_.out (by kernel_rfl)) (fun _ _ _ h => h) (Or.inl ⟨by rfl, ?_⟩) ?_ ?_
                    rotate_left
                    · intro w'
                      go_simp
                      with_reducible rfl
                    rotate_left
                    · simp only [Act.put, List.setIfInBounds_toArray, List.set_cons_zero, List.set_cons_succ, i64_w, i32_w]
                      rfl
                    refine pure_ (i := 7) (N := some 39) (v := ?_) (a' := ?_) #[true, true, true, true, true, true, true, true, false, false, false, false, false] rfl rfl (any_of HT_.out (by kernel_rfl)) (fun _ _ _ h => h) (Or.inl ⟨by rfl, ?_⟩) ?_ ?_
                    rotate_left
                    · intro w'
                      go_simp
                      with_reducible rfl
                    rotate_left
                    · simp only [Act.put, List.setIfInBounds_toArray, List.set_cons_zero, List.set_cons_succ, i64_w, i32_w]
                      rfl
                    refine one_ (i := 8) (N := some 40) #[true, true, true, true, true, true, true, true, true, false, false, false, false] rfl rfl (one_of HT_.out (by kernel_rfl)) (by decide) (fun K hK => ?_)
                    refine goes_ Try.func91 (by kernel_rfl) rfl #[.string (x4_6.extract 0 (t478 : Int).toNat), .string (x4_6.extract ((ji15) : Int).toNat x4_6.size), .int .i64 x5_6] (by rfl) rfl rfl (by (try simp only [List.map_toArray, List.map_cons, List.map_nil]); first | done | (simp only [hji15]; rfl) | rfl | (simp only [List.length_drop, List.length_take]; rfl)) ?_
                    with_reducible refine (withyref01_parseDecimal.calls kj6 (x4_6.extract 0 (t478 : Int).toNat) (x4_6.extract ((ji15) : Int).toNat x4_6.size) x5_6 t480 t481 t482 _ A18.out).mono ?_
                    rintro e w20 ⟨rfl, hb⟩
                    refine ⟨_, rfl, ?_⟩
                    replace BK477 := bkb_ BK477 hb
                    replace HB := bws_ HB hb
                    (try clear hb)
                    (try clear hb2)
                    (try clear hk)
                    (try clear hi)
                    refine hK.out _ _ trivial (fun hHeld => ?_)
                    clear hK K
                    refine norm_ (a' := ?_) ?_ ?_
                    rotate_left
                    · show Act.put _ (some 40) _ = _
                      simp only [Act.put, List.setIfInBounds_toArray, List.set_cons_zero, List.set_cons_succ, i64_w, i32_w]
                      rfl
                    refine pure_ (i := 9) (N := some 41) (v := ?_) (a' := ?_) #[true, true, true, true, true, true, true, true, true, true, false, false, false] rfl rfl (any_of HT_.out (by kernel_rfl)) (fun _ _ _ h => h) (Or.inl ⟨by rfl, ?_⟩) ?_ ?_
                    rotate_left
                    · intro w'
                      go_simp
                      with_reducible rfl
                    rotate_left
                    · simp only [Act.put, List.setIfInBounds_toArray, List.set_cons_zero, List.set_cons_succ, i64_w, i32_w]
                      rfl
                    refine pure_ (i := 10) (N := some 42) (v := ?_) (a' := ?_) #[true, true, true, true, true, true, true, true, true, true, true, false, false] rfl rfl (any_of HT_.out (by kernel_rfl)) (fun _ _ _ h => h) (Or.inl ⟨by rfl, ?_⟩) ?_ ?_
                    rotate_left
                    · intro w'
                      go_simp
                      with_reducible rfl
                    rotate_left
                    · simp only [Act.put, List.setIfInBounds_toArray, List.set_cons_zero, List.set_cons_succ, i64_w, i32_w]
                      rfl
                    refine one_ (i := 11) (N := none) #[true, true, true, true, true, true, true, true, true, true, true, true, false] rfl rfl (one_of HT_.out (by kernel_rfl)) (by decide) (fun K hK => ?_)
                    have hs21 : w20.cell? ⟨gb477, 0, none⟩ = some (.int .i64 0) := (blk_cell BK477.out 0).trans rfl
                    have hfs21 := blk_frozen BK477.out 0
                    have hs22 : w20.cell? ⟨gb477, 1, none⟩ = some (.int .i64 0) := (blk_cell BK477.out 1).trans rfl
                    have hfs22 := blk_frozen BK477.out 1
                    refine skip_ (w1 := ?_) (by rfl) rfl ?_ ?_
                    rotate_left
                    · go_simp
                      rfl
                    refine hK.out _ _ trivial (fun hHeld => ?_)
                    clear hK K
                    refine pure_ (i := 12) (N := some 3) (v := ?_) (a' := ?_) #[true, true, true, true, true, true, true, true, true, true, true, true, true] rfl rfl (any_of HT_.out (by kernel_rfl)) (fun _ _ _ h => h) (Or.inl ⟨by rfl, ?_⟩) ?_ ?_
                    rotate_left
                    · intro w'
                      go_simp
                      with_reducible rfl
                    rotate_left
                    · simp only [Act.put, List.setIfInBounds_toArray, List.set_cons_zero, List.set_cons_succ, i64_w, i32_w]
                      rfl
                    refine done_ (done_of HT_.out (by kernel_rfl)) ?_
                    try go_wp2
                    refine bodyPost_ret (results_ct rfl _ _ gb477 23 #[.int .i64 t480, .int .i64 t481] (0, 0) _ rfl (by refine bp_ (cs := #[.int .i64 t480, .int .i64 0]) ?_ 1; refine bp_ (cs := #[.int .i64 0, .int .i64 0]) ?_ 0; exact bk_ BK477) Try.underlying23 rfl (by kernel_rfl)) rfl ?_
                    exact ⟨by first | rfl | (simp [errW_none, errW_some] <;> rfl) | (simp only [← hji15]; first | rfl | (simp [errW_none, errW_some] <;> rfl)) | (simp [*, errW_none, errW_some] <;> rfl), bw_ HB⟩
                  · rw [if_neg c17] at H
                    exact absurd H (by simp)
                · rw [if_neg c16] at H
                  exact absurd H (by simp)
              · rw [if_neg c14] at H
                exact absurd H (by simp)
            · rw [if_neg c13] at H
              exact absurd H (by simp)
          · rw [if_neg c12] at H
            have c12b0 : decide (t478 < (x4_6.size : Int)) = false := decide_eq_false c12
            clear c12
            by_cases c23 : 0 ≤ t479
            · rw [if_pos c23] at H
              have c23b0 := eq_true c23
              have c23b1 : decide (0 ≤ t479) = true := decide_eq_true c23
              clear c23
              by_cases c24 : t479 ≤ (x4_6.size : Int)
              · rw [if_pos c24] at H
                have c24b0 := eq_true c24
                have c24b1 : decide (t479 ≤ (x4_6.size : Int)) = true := decide_eq_true c24
                clear c24
                replace H := Option.bind_eq_some_iff.mp H
                obtain ⟨⟨t483, t484⟩, A250, H⟩ := H
                replace H : (if t479 < (x4_6.size : Int) then (if 0 ≤ (wrap64 (t479 + 1)) then (if (wrap64 (t479 + 1)) ≤ (x4_6.size : Int) then ((withyref01_Count.f kj6 (x4_6.extract ((wrap64 (t479 + 1)) : Int).toNat x4_6.size) 10).bind fun bt485 => (withyref01_Parse.j2 kj6 a0 x5_6 t483 t484 bt485.1 bt485.2)) else (none)) else (none)) else (withyref01_Parse.j2 kj6 a0 x5_6 t483 t484 1 true)) = some (r1, r2, r3) := H
                have A25 := Aside0.mk A250
                clear A250
                have HC26 := Aside0.mk H
                clear H
                go_upto_if 53 with (first | ((with_reducible refine gate_callee (f := 90) rfl ?_); refine gla_ (some 25) Try.func90 #[.string x4_6, .int .u8 46] ?_; (with_reducible refine (withyref01_find.calls kj6 x4_6 46 t478 _ A10.out).mono ?_); rintro e w' ⟨rfl, ⟨nd, rfl⟩⟩; refine ⟨_, rfl, ?_⟩) | ((with_reducible refine gate_callee (f := 90) rfl ?_); refine gla_ (some 27) Try.func90 #[.string x4_6, .int .u8 47] ?_; (with_reducible refine (withyref01_find.calls kj6 x4_6 47 t479 _ A11.out).mono ?_); rintro e w' ⟨rfl, ⟨nd, rfl⟩⟩; refine ⟨_, rfl, ?_⟩) | ((with_reducible refine gate_callee (f := 92) rfl ?_); refine gla_ (some 47) Try.func92 #[.string (x4_6.extract 0 (t479 : Int).toNat), .int .i64 10] ?_; (with_reducible refine (withyref01_Count.calls kj6 (x4_6.extract 0 (t479 : Int).toNat) 10 t483 t484 _ A25.out).mono ?_); rintro e w' ⟨rfl, ⟨nd, rfl⟩⟩; refine ⟨_, rfl, ?_⟩))
                (try simp only [Act.put, List.setIfInBounds_toArray, List.set_cons_zero, List.set_cons_succ])
                go_cut [10, 11] (fun v10 v11 wc => ∃ (kq : Nat) (x10_25 : Int) (x11_25 : Bool), v10 = .int .i64 x10_25 ∧ v11 = .bool x11_25 ∧ Aside0 (withyref01_Parse.j2 kq a0 x5_6 t483 t484 x10_25 x11_25 = some (r1, r2, r3)) ∧ Aside0 (kq ≤ kj6) ∧ Aside0 (wc.heap[gb477]? = some (.cells #[.int .i64 0, .int .i64 0] 23 (0, 0))) ∧ Aside0 (Below w.heap.size w wc))
                case first =>
                  have H := HC26.out
                  clear HC26
                  by_cases c27 : t479 < (x4_6.size : Int)
                  · rw [if_pos c27] at H
                    have c27b0 : decide (t479 < (x4_6.size : Int)) = true := decide_eq_true c27
                    clear c27
                    (first | rw [c27b0] | (simp only [i64_w, i32_w]; rw [c27b0]) | skip)
                    obtain ⟨ji28, hji28⟩ : ∃ j_ : Int, (wrap64 (t479 + 1)) = j_ := ⟨_, rfl⟩
                    replace H : (if 0 ≤ (ji28) then (if (ji28) ≤ (x4_6.size : Int) then ((withyref01_Count.f kj6 (x4_6.extract ((ji28) : Int).toNat x4_6.size) 10).bind fun bt485 => (withyref01_Parse.j2 kj6 a0 x5_6 t483 t484 bt485.1 bt485.2)) else (none)) else (none)) = some (r1, r2, r3) := by first | (rw [hji28] at H; exact H) | (simp only [hji28] at H ⊢; exact H)
                    have hji28w : (IntKind.i64.wrap (t479 + 1)) = ji28 := (i64_w _).trans hji28
                    by_cases c29 : 0 ≤ (ji28)
                    · rw [if_pos c29] at H
                      have c29b0 := eq_true c29
                      have c29b1 : decide (0 ≤ (ji28)) = true := decide_eq_true c29
                      clear c29
                      by_cases c30 : (ji28) ≤ (x4_6.size : Int)
                      · rw [if_pos c30] at H
                        have c30b0 := eq_true c30
                        have c30b1 : decide ((ji28) ≤ (x4_6.size : Int)) = true := decide_eq_true c30
                        clear c30
                        replace H := Option.bind_eq_some_iff.mp H
                        obtain ⟨⟨t485, t486⟩, A310, H⟩ := H
                        replace H : (withyref01_Parse.j2 kj6 a0 x5_6 t483 t484 t485 t486) = some (r1, r2, r3) := H
                        have A31 := Aside0.mk A310
                        clear A310
                        have H' := Aside0.mk H
                        clear H
                        go_wp2_with (first | ((with_reducible refine gate_callee (f := 92) rfl ?_); refine goesL_ (some 59) rfl rfl Try.func92 (by kernel_rfl) rfl #[.string (x4_6.extract ((ji28) : Int).toNat x4_6.size), .int .i64 10] rfl (by (try simp only [List.map_toArray, List.map_cons, List.map_nil]); first | done | (simp only [hji28]; rfl) | rfl | (simp only [List.length_drop, List.length_take]; rfl)) ?_; (with_reducible refine (withyref01_Count.calls kj6 (x4_6.extract ((ji28) : Int).toNat x4_6.size) 10 t485 t486 _ A31.out).mono ?_); rintro e w' ⟨rfl, ⟨nd, rfl⟩⟩; refine ⟨_, rfl, ?_⟩))
                        go_meet
                        case rel => exact ⟨_, (t485), (t486), (by first | rfl | (simp; done) | (simp [*]; done)), (by first | rfl | (simp; done) | (simp [*]; done)), H', ⟨by have := HJ1.out; have := HJ6.out; first | omega | exact Nat.le_refl _⟩, ⟨by exact bk_ BK477⟩, ⟨bw_ HB⟩⟩
                      · rw [if_neg c30] at H
                        exact absurd H (by simp)
                    · rw [if_neg c29] at H
                      exact absurd H (by simp)
                  · rw [if_neg c27] at H
                    have c27b0 : decide (t479 < (x4_6.size : Int)) = false := decide_eq_false c27
                    clear c27
                    (first | rw [c27b0] | (simp only [i64_w, i32_w]; rw [c27b0]) | skip)
                    have H' := Aside0.mk H
                    clear H
                    go_wp2
                    go_meet
                    case rel => exact ⟨_, (1), (true), (by first | rfl | (simp; done) | (simp [*]; done)), (by first | rfl | (simp; done) | (simp [*]; done)), H', ⟨by have := HJ1.out; have := HJ6.out; first | omega | exact Nat.le_refl _⟩, ⟨by exact bk_ BK477⟩, ⟨bw_ HB⟩⟩
                case rest =>
                  clear HC26
                  try clear c1
                  try clear c2
                  try clear p2
                  try clear c3
                  try clear c4
                  try clear c4b0
                  try clear c4b1
                  try clear c5
                  try clear c5b0
                  try clear c5b1
                  try clear p6
                  try clear q6
                  try clear hx6
                  try clear qi6
                  try clear c8
                  try clear c9
                  try clear c9b0
                  try clear c9b1
                  try clear c12
                  try clear c12b0
                  try clear c13
                  try clear c13b0
                  try clear c13b1
                  try clear c14
                  try clear c14b0
                  try clear c14b1
                  try clear c16
                  try clear c16b0
                  try clear c16b1
                  try clear c17
                  try clear c17b0
                  try clear c17b1
                  try clear c23
                  try clear c23b0
                  try clear c23b1
                  try clear c24
                  try clear c24b0
                  try clear c24b1
                  try clear c27
                  try clear c27b0
                  try clear c29
                  try clear c29b0
                  try clear c29b1
                  try clear c30
                  try clear c30b0
                  try clear c30b1
                  try clear p2
                  try clear p6
                  try clear q6
                  obtain ⟨kq, x10_25, x11_25, rfl, rfl, HA, HJ25, BK477, HB⟩ := hcut
                  cases kq with
                  | zero => exact absurd HA.out (by simp [withyref01_Parse.j2])
                  | succ kj25 =>
                    have H := HA.out
                    clear HA
                    simp only [withyref01_Parse.j2] at H
                    by_cases c32 : t484 = true
                    · subst c32
                      have H1 : (if x11_25 = true then ((withyref01_Check.f kj25 (wrap64 (x5_6 * t483)) x10_25).bind fun t488 => (if t488 = 0 then ((withyref01_Told.f kj25 (wrap64 (x5_6 * t483)) x10_25).bind fun t489 => (if t489.toList = a0.toList then (some (wrap64 (x5_6 * t483), x10_25, 0)) else (some (0, 0, 1)))) else (some (0, 0, 1)))) else (some (0, 0, 1))) = some (r1, r2, r3) := by rw [if_pos rfl] at H; exact H
                      clear H
                      have H := H1
                      clear H1
                      by_cases c33 : x11_25 = true
                      · subst c33
                        have H1 : ((withyref01_Check.f kj25 (wrap64 (x5_6 * t483)) x10_25).bind fun t488 => (if t488 = 0 then ((withyref01_Told.f kj25 (wrap64 (x5_6 * t483)) x10_25).bind fun t489 => (if t489.toList = a0.toList then (some (wrap64 (x5_6 * t483), x10_25, 0)) else (some (0, 0, 1)))) else (some (0, 0, 1)))) = some (r1, r2, r3) := by rw [if_pos rfl] at H; exact H
                        clear H
                        have H := H1
                        clear H1
                        replace H := Option.bind_eq_some_iff.mp H
                        obtain ⟨t488, A340, H⟩ := H
                        replace H : (if t488 = 0 then ((withyref01_Told.f kj25 (wrap64 (x5_6 * t483)) x10_25).bind fun t489 => (if t489.toList = a0.toList then (some (wrap64 (x5_6 * t483), x10_25, 0)) else (some (0, 0, 1)))) else (some (0, 0, 1))) = some (r1, r2, r3) := H
                        have A34 := Aside0.mk A340
                        clear A340
                        by_cases c35 : t488 = 0
                        · rw [if_pos c35] at H
                          have c35b0 : (t488 == 0) = true := beq_iff_eq.mpr c35
                          have c35b1 : (t488 != 0) = false := bne_eq_false_iff_eq.mpr c35
                          clear c35
                          replace H := Option.bind_eq_some_iff.mp H
                          obtain ⟨t489, A360, H⟩ := H
                          replace H : (if t489.toList = a0.toList then (some (wrap64 (x5_6 * t483), x10_25, 0)) else (some (0, 0, 1))) = some (r1, r2, r3) := H
                          have A36 := Aside0.mk A360
                          clear A360
                          by_cases c37 : t489.toList = a0.toList
                          · rw [if_pos c37] at H
                            have c37b0 : (t489.toList == a0.toList) = true := beq_iff_eq.mpr c37
                            have c37b1 : (t489.toList != a0.toList) = false := bne_eq_false_iff_eq.mpr c37
                            clear c37
                            simp only [Option.some.injEq, Prod.mk.injEq] at H
                            obtain ⟨rfl, rfl, rfl⟩ := H
                            go_wp2_with (first | ((with_reducible refine gate_dst (N := 12) rfl ?_); refine box_event ?hg (N := 12) ?hd (cs := #[.int .i64 0, .int .i64 0]) (t := 23) ?hr ?_; (case hd => rfl); (case hg => rfl); (case hr => first | (go_simp; done) | (go_simp; rfl)); intro gb487 hg w38 hbox hb; have BK487 := Aside0.mk hbox; have GW487 := bwg_ HB hg; have GE487 := bwg_ HB hg; replace HB := bws_ HB hb; have NB477_487 := bkl_ BK477 hg; have NB487_477 := bkr_ BK477 hg; replace BK477 := bkb_ BK477 hb; clear hb hbox hg; have hnb39 := NB487_477.out; have hnc39 := NB477_487.out; obtain ⟨hcz40_0, hcz40_1, hfz40_0, hfz40_1⟩ := bc2_ BK487) | (go_at_call 41; (with_reducible refine (withyref01_Check.calls kj25 (wrap64 (x5_6 * t483)) x10_25 t488 _ A34.out).mono ?_); rintro e w41 ⟨rfl, hb⟩; replace BK477 := Aside0.mk (blk_below (g := gb477) (o := .cells #[.int .i64 0, .int .i64 0] 23 (0, 0)) (by refine bf_ ?_ NB477_487; refine bf_ ?_ NB477_487; exact bk_ BK477) hb); replace BK487 := Aside0.mk (blk_below (g := gb487) (o := .cells #[.int .i64 (wrap64 (x5_6 * t483)), .int .i64 x10_25] 23 (0, 0)) (by refine bp_ (cs := #[.int .i64 (wrap64 (x5_6 * t483)), .int .i64 0]) ?_ 1; refine bp_ (cs := #[.int .i64 0, .int .i64 0]) ?_ 0; exact bk_ BK487) hb); replace HB := bws_ HB hb; (try clear hb); (try clear hb2); (try clear hk); (try clear hi); obtain ⟨hcz42_0, hcz42_1, hfz42_0, hfz42_1⟩ := bc2_ BK487) | (go_at_call 86; (with_reducible refine (withyref01_Told.calls kj25 (wrap64 (x5_6 * t483)) x10_25 t489 _ A36.out).mono ?_); rintro e w43 ⟨rfl, hb⟩; replace BK477 := bkb_ BK477 hb; replace BK487 := bkb_ BK487 hb; replace HB := bws_ HB hb; (try clear hb); (try clear hb2); (try clear hk); (try clear hi); obtain ⟨hcz44_0, hcz44_1, hfz44_0, hfz44_1⟩ := bc2_ BK487; obtain ⟨hcz45_0, hcz45_1, hfz45_0, hfz45_1⟩ := bc2_ BK477))
                            refine bodyPost_ret (results_ct rfl _ _ gb477 23 #[.int .i64 (wrap64 (x5_6 * t483)), .int .i64 x10_25] (0, 0) _ rfl (by refine bp_ (cs := #[.int .i64 (wrap64 (x5_6 * t483)), .int .i64 0]) ?_ 1; refine bp_ (cs := #[.int .i64 0, .int .i64 0]) ?_ 0; exact bk_ BK477) Try.underlying23 rfl (by kernel_rfl)) rfl ?_
                            exact ⟨by first | rfl | (simp [*] <;> rfl), bw_ HB⟩
                          · rw [if_neg c37] at H
                            have c37b0 : (t489.toList == a0.toList) = false := beq_eq_false_iff_ne.mpr c37
                            have c37b1 : (t489.toList != a0.toList) = true := bne_iff_ne.mpr c37
                            simp only [Option.some.injEq, Prod.mk.injEq] at H
                            obtain ⟨rfl, rfl, rfl⟩ := H
                            go_wp2_with (first | ((with_reducible refine gate_dst (N := 12) rfl ?_); refine box_event ?hg (N := 12) ?hd (cs := #[.int .i64 0, .int .i64 0]) (t := 23) ?hr ?_; (case hd => rfl); (case hg => rfl); (case hr => first | (go_simp; done) | (go_simp; rfl)); intro gb487 hg w46 hbox hb; have BK487 := Aside0.mk hbox; have GW487 := bwg_ HB hg; have GE487 := bwg_ HB hg; replace HB := bws_ HB hb; have NB477_487 := bkl_ BK477 hg; have NB487_477 := bkr_ BK477 hg; replace BK477 := bkb_ BK477 hb; clear hb hbox hg; have hnb47 := NB487_477.out; have hnc47 := NB477_487.out; obtain ⟨hcz48_0, hcz48_1, hfz48_0, hfz48_1⟩ := bc2_ BK487) | (go_at_call 41; (with_reducible refine (withyref01_Check.calls kj25 (wrap64 (x5_6 * t483)) x10_25 t488 _ A34.out).mono ?_); rintro e w49 ⟨rfl, hb⟩; replace BK477 := Aside0.mk (blk_below (g := gb477) (o := .cells #[.int .i64 0, .int .i64 0] 23 (0, 0)) (by refine bf_ ?_ NB477_487; refine bf_ ?_ NB477_487; exact bk_ BK477) hb); replace BK487 := Aside0.mk (blk_below (g := gb487) (o := .cells #[.int .i64 (wrap64 (x5_6 * t483)), .int .i64 x10_25] 23 (0, 0)) (by refine bp_ (cs := #[.int .i64 (wrap64 (x5_6 * t483)), .int .i64 0]) ?_ 1; refine bp_ (cs := #[.int .i64 0, .int .i64 0]) ?_ 0; exact bk_ BK487) hb); replace HB := bws_ HB hb; (try clear hb); (try clear hb2); (try clear hk); (try clear hi); obtain ⟨hcz50_0, hcz50_1, hfz50_0, hfz50_1⟩ := bc2_ BK487) | (go_at_call 86; (with_reducible refine (withyref01_Told.calls kj25 (wrap64 (x5_6 * t483)) x10_25 t489 _ A36.out).mono ?_); rintro e w51 ⟨rfl, hb⟩; replace BK477 := bkb_ BK477 hb; replace BK487 := bkb_ BK487 hb; replace HB := bws_ HB hb; (try clear hb); (try clear hb2); (try clear hk); (try clear hi); obtain ⟨hcz52_0, hcz52_1, hfz52_0, hfz52_1⟩ := bc2_ BK477))
                            refine bodyPost_ret (results_ct rfl _ _ gb477 23 #[.int .i64 0, .int .i64 0] (0, 0) _ rfl (by refine bp_ (cs := #[.int .i64 0, .int .i64 0]) ?_ 1; refine bp_ (cs := #[.int .i64 0, .int .i64 0]) ?_ 0; exact bk_ BK477) Try.underlying23 rfl (by kernel_rfl)) rfl ?_
                            exact ⟨by first | rfl | (simp [*] <;> rfl), bw_ HB⟩
                        · rw [if_neg c35] at H
                          have c35b0 : (t488 == 0) = false := beq_eq_false_iff_ne.mpr c35
                          have c35b1 : (t488 != 0) = true := bne_iff_ne.mpr c35
                          simp only [Option.some.injEq, Prod.mk.injEq] at H
                          obtain ⟨rfl, rfl, rfl⟩ := H
                          go_wp2_with (first | ((with_reducible refine gate_dst (N := 12) rfl ?_); refine box_event ?hg (N := 12) ?hd (cs := #[.int .i64 0, .int .i64 0]) (t := 23) ?hr ?_; (case hd => rfl); (case hg => rfl); (case hr => first | (go_simp; done) | (go_simp; rfl)); intro gb487 hg w53 hbox hb; have BK487 := Aside0.mk hbox; have GW487 := bwg_ HB hg; have GE487 := bwg_ HB hg; replace HB := bws_ HB hb; have NB477_487 := bkl_ BK477 hg; have NB487_477 := bkr_ BK477 hg; replace BK477 := bkb_ BK477 hb; clear hb hbox hg; have hnb54 := NB487_477.out; have hnc54 := NB477_487.out; obtain ⟨hcz55_0, hcz55_1, hfz55_0, hfz55_1⟩ := bc2_ BK487) | (go_at_call 41; (with_reducible refine (withyref01_Check.calls kj25 (wrap64 (x5_6 * t483)) x10_25 t488 _ A34.out).mono ?_); rintro e w56 ⟨rfl, hb⟩; replace BK477 := Aside0.mk (blk_below (g := gb477) (o := .cells #[.int .i64 0, .int .i64 0] 23 (0, 0)) (by refine bf_ ?_ NB477_487; refine bf_ ?_ NB477_487; exact bk_ BK477) hb); replace BK487 := Aside0.mk (blk_below (g := gb487) (o := .cells #[.int .i64 (wrap64 (x5_6 * t483)), .int .i64 x10_25] 23 (0, 0)) (by refine bp_ (cs := #[.int .i64 (wrap64 (x5_6 * t483)), .int .i64 0]) ?_ 1; refine bp_ (cs := #[.int .i64 0, .int .i64 0]) ?_ 0; exact bk_ BK487) hb); replace HB := bws_ HB hb; (try clear hb); (try clear hb2); (try clear hk); (try clear hi); obtain ⟨hcz57_0, hcz57_1, hfz57_0, hfz57_1⟩ := bc2_ BK477))
                          refine bodyPost_ret (results_ct rfl _ _ gb477 23 #[.int .i64 0, .int .i64 0] (0, 0) _ rfl (by refine bp_ (cs := #[.int .i64 0, .int .i64 0]) ?_ 1; refine bp_ (cs := #[.int .i64 0, .int .i64 0]) ?_ 0; exact bk_ BK477) Try.underlying23 rfl (by kernel_rfl)) rfl ?_
                          exact ⟨by first | rfl | (simp [*] <;> rfl), bw_ HB⟩
                      · replace c33 := Bool.eq_false_iff.mpr c33
                        subst c33
                        have H1 : (some (0, 0, 1)) = some (r1, r2, r3) := by rw [if_neg (show ¬ (false = true) by decide)] at H; exact H
                        clear H
                        have H := H1
                        clear H1
                        simp only [Option.some.injEq, Prod.mk.injEq] at H
                        obtain ⟨rfl, rfl, rfl⟩ := H
                        go_wp2_with (first | ((with_reducible refine gate_dst (N := 12) rfl ?_); refine box_event ?hg (N := 12) ?hd (cs := #[.int .i64 0, .int .i64 0]) (t := 23) ?hr ?_; (case hd => rfl); (case hg => rfl); (case hr => first | (go_simp; done) | (go_simp; rfl)); intro gb487 hg w58 hbox hb; have BK487 := Aside0.mk hbox; have GW487 := bwg_ HB hg; have GE487 := bwg_ HB hg; replace HB := bws_ HB hb; have NB477_487 := bkl_ BK477 hg; have NB487_477 := bkr_ BK477 hg; replace BK477 := bkb_ BK477 hb; clear hb hbox hg; have hnb59 := NB487_477.out; have hnc59 := NB477_487.out; obtain ⟨hcz60_0, hcz60_1, hfz60_0, hfz60_1⟩ := bc2_ BK487; obtain ⟨hcz61_0, hcz61_1, hfz61_0, hfz61_1⟩ := bc2_ BK477))
                        refine bodyPost_ret (results_ct rfl _ _ gb477 23 #[.int .i64 0, .int .i64 0] (0, 0) _ rfl (by refine bp_ (cs := #[.int .i64 0, .int .i64 0]) ?_ 1; refine bp_ (cs := #[.int .i64 0, .int .i64 0]) ?_ 0; refine bf_ ?_ NB477_487; refine bf_ ?_ NB477_487; exact bk_ BK477) Try.underlying23 rfl (by kernel_rfl)) rfl ?_
                        exact ⟨by first | rfl | (simp [*] <;> rfl), bw_ HB⟩
                    · replace c32 := Bool.eq_false_iff.mpr c32
                      subst c32
                      have H1 : (some (0, 0, 1)) = some (r1, r2, r3) := by rw [if_neg (show ¬ (false = true) by decide)] at H; exact H
                      clear H
                      have H := H1
                      clear H1
                      simp only [Option.some.injEq, Prod.mk.injEq] at H
                      obtain ⟨rfl, rfl, rfl⟩ := H
                      go_wp2_with (first | ((with_reducible refine gate_dst (N := 12) rfl ?_); refine box_event ?hg (N := 12) ?hd (cs := #[.int .i64 0, .int .i64 0]) (t := 23) ?hr ?_; (case hd => rfl); (case hg => rfl); (case hr => first | (go_simp; done) | (go_simp; rfl)); intro gb487 hg w62 hbox hb; have BK487 := Aside0.mk hbox; have GW487 := bwg_ HB hg; have GE487 := bwg_ HB hg; replace HB := bws_ HB hb; have NB477_487 := bkl_ BK477 hg; have NB487_477 := bkr_ BK477 hg; replace BK477 := bkb_ BK477 hb; clear hb hbox hg; have hnb63 := NB487_477.out; have hnc63 := NB477_487.out; obtain ⟨hcz64_0, hcz64_1, hfz64_0, hfz64_1⟩ := bc2_ BK487; obtain ⟨hcz65_0, hcz65_1, hfz65_0, hfz65_1⟩ := bc2_ BK477))
                      refine bodyPost_ret (results_ct rfl _ _ gb477 23 #[.int .i64 0, .int .i64 0] (0, 0) _ rfl (by refine bp_ (cs := #[.int .i64 0, .int .i64 0]) ?_ 1; refine bp_ (cs := #[.int .i64 0, .int .i64 0]) ?_ 0; refine bf_ ?_ NB477_487; refine bf_ ?_ NB477_487; exact bk_ BK477) Try.underlying23 rfl (by kernel_rfl)) rfl ?_
                      exact ⟨by first | rfl | (simp [*] <;> rfl), bw_ HB⟩
              · rw [if_neg c24] at H
                exact absurd H (by simp)
            · rw [if_neg c23] at H
              exact absurd H (by simp)
end Go.Proofs.Ytakcdoahpbeckaa.H
