/- NumRounds: the printed functions it reaches, with their walks. Laid by wip/claimpack.py out of what wip/hprint.py printed. -/
import Derived.Test.YtakcdoahpbeckaaKNumRounds4
namespace Go.Proofs.Ytakcdoahpbeckaa.H
open Go.RowKit Go.Proofs.YtakcdoahpbeckaaW.PrintWords Go.Proofs.YtakcdoahpbeckaaW.PrintLast Go.Proofs.YtakcdoahpbeckaaW.PrintMore
attribute [local go_sem] max2_int min2_int max_two min_two max_three min_three max_four min_four   -- for this text's walks alone
set_option linter.unusedVariables false
set_option linter.unusedSimpArgs false

/-! ### withylaw01_NumRounds: function 5 -/
mutual
def withylaw01_NumRounds.j0 : Nat → Int → Bool → Int → Int → Option (Bool)
  | 0, _, _, _, _ => none
  | k + 1, x1, x30, x433000, x433001 => if x30 = true then (some false) else ((num_Ceil.f k x433000 x433001).bind fun bt437 => ((withyref01_Ceil.f k x433000 x433001).bind fun bt439 => (if bt437.2 = bt439.2 then (withylaw01_NumRounds.j1 k x1 (bt437.1 != bt439.1) x433000 x433001) else (withylaw01_NumRounds.j1 k x1 true x433000 x433001))))
def withylaw01_NumRounds.j1 : Nat → Int → Bool → Int → Int → Option (Bool)
  | 0, _, _, _, _ => none
  | k + 1, x1, x48, x433000, x433001 => if x48 = true then (some false) else ((num_Round.f k x433000 x433001).bind fun bt441 => ((withyref01_Round.f k x433000 x433001).bind fun bt443 => ((num_Decimal.f k x433000 x433001 x1).bind fun bt445 => ((withyref01_Decimal.f k x433000 x433001 x1).bind fun bt447 => (if bt441.2 = bt443.2 then (if bt441.1 = bt443.1 then (if bt445.2 = bt447.2 then (if bt445.1.toList = bt447.1.toList then ((withylaw01_summed.f k).bind fun t449 => (some t449)) else (some false)) else (some false)) else (some false)) else (some false))))))
end
def withylaw01_NumRounds.f (k : Nat) (a0_0 : Int) (a0_1 : Int) (a1 : Int) : Option (Bool) := (num_Floor.f k a0_0 a0_1).bind fun bt433 => ((withyref01_Floor.f k a0_0 a0_1).bind fun bt435 => (if bt433.2 = bt435.2 then (withylaw01_NumRounds.j0 k a1 (bt433.1 != bt435.1) a0_0 a0_1) else (withylaw01_NumRounds.j0 k a1 true a0_0 a0_1)))
theorem withylaw01_NumRounds.mono_l : ∀ k, (∀ y0 y1 y2 y3, LeO (withylaw01_NumRounds.j0 k y0 y1 y2 y3) (withylaw01_NumRounds.j0 (k + 1) y0 y1 y2 y3)) ∧ (∀ y0 y1 y2 y3, LeO (withylaw01_NumRounds.j1 k y0 y1 y2 y3) (withylaw01_NumRounds.j1 (k + 1) y0 y1 y2 y3))
  | 0 => ⟨fun _ _ _ _ r h => by simp [withylaw01_NumRounds.j0] at h, fun _ _ _ _ r h => by simp [withylaw01_NumRounds.j1] at h⟩
  | k + 1 => by
    obtain ⟨ih0, ih1⟩ := withylaw01_NumRounds.mono_l k
    refine ⟨?_, ?_⟩
    · intro y0 y1 y2 y3
      unfold withylaw01_NumRounds.j0
      repeat' first
      | (with_reducible exact ih0 _ _ _ _)
      | (with_reducible exact ih1 _ _ _ _)
      | (with_reducible exact num_Ceil.mono _ _ _)
      | (with_reducible exact num_Decimal.mono _ _ _ _)
      | (with_reducible exact num_Floor.mono _ _ _)
      | (with_reducible exact num_Round.mono _ _ _)
      | (with_reducible exact withylaw01_summed.mono _)
      | (with_reducible exact withyref01_Ceil.mono _ _ _)
      | (with_reducible exact withyref01_Decimal.mono _ _ _ _)
      | (with_reducible exact withyref01_Floor.mono _ _ _)
      | (with_reducible exact withyref01_Round.mono _ _ _)
      | (with_reducible exact LeO.refl _)
      | (with_reducible exact LeO.none _)
      | (with_reducible refine LeO.ite ?_ ?_)
      | (with_reducible refine LeO.bind ?_ (fun _ => ?_))
      | (with_reducible refine LeO.exc (fun _ => ?_) (fun _ => ?_))
      | exact ih0 _ _ _ _
      | exact ih1 _ _ _ _
      | exact num_Ceil.mono _ _ _
      | exact num_Decimal.mono _ _ _ _
      | exact num_Floor.mono _ _ _
      | exact num_Round.mono _ _ _
      | exact withylaw01_summed.mono _
      | exact withyref01_Ceil.mono _ _ _
      | exact withyref01_Decimal.mono _ _ _ _
      | exact withyref01_Floor.mono _ _ _
      | exact withyref01_Round.mono _ _ _
      | exact LeO.none _
      | refine LeO.ite ?_ ?_
      | refine LeO.bind ?_ (fun _ => ?_)
    · intro y0 y1 y2 y3
      unfold withylaw01_NumRounds.j1
      repeat' first
      | (with_reducible exact ih0 _ _ _ _)
      | (with_reducible exact ih1 _ _ _ _)
      | (with_reducible exact num_Ceil.mono _ _ _)
      | (with_reducible exact num_Decimal.mono _ _ _ _)
      | (with_reducible exact num_Floor.mono _ _ _)
      | (with_reducible exact num_Round.mono _ _ _)
      | (with_reducible exact withylaw01_summed.mono _)
      | (with_reducible exact withyref01_Ceil.mono _ _ _)
      | (with_reducible exact withyref01_Decimal.mono _ _ _ _)
      | (with_reducible exact withyref01_Floor.mono _ _ _)
      | (with_reducible exact withyref01_Round.mono _ _ _)
      | (with_reducible exact LeO.refl _)
      | (with_reducible exact LeO.none _)
      | (with_reducible refine LeO.ite ?_ ?_)
      | (with_reducible refine LeO.bind ?_ (fun _ => ?_))
      | (with_reducible refine LeO.exc (fun _ => ?_) (fun _ => ?_))
      | exact ih0 _ _ _ _
      | exact ih1 _ _ _ _
      | exact num_Ceil.mono _ _ _
      | exact num_Decimal.mono _ _ _ _
      | exact num_Floor.mono _ _ _
      | exact num_Round.mono _ _ _
      | exact withylaw01_summed.mono _
      | exact withyref01_Ceil.mono _ _ _
      | exact withyref01_Decimal.mono _ _ _ _
      | exact withyref01_Floor.mono _ _ _
      | exact withyref01_Round.mono _ _ _
      | exact LeO.none _
      | refine LeO.ite ?_ ?_
      | refine LeO.bind ?_ (fun _ => ?_)
theorem withylaw01_NumRounds.mono : ∀ a0 a1 a2 k, LeO (withylaw01_NumRounds.f k a0 a1 a2) (withylaw01_NumRounds.f (k + 1) a0 a1 a2) := by
  intro a0 a1 a2 k
  obtain ⟨ih0, ih1⟩ := withylaw01_NumRounds.mono_l k
  unfold withylaw01_NumRounds.f
  repeat' first
      | (with_reducible exact ih0 _ _ _ _)
      | (with_reducible exact ih1 _ _ _ _)
      | (with_reducible exact num_Ceil.mono _ _ _)
      | (with_reducible exact num_Decimal.mono _ _ _ _)
      | (with_reducible exact num_Floor.mono _ _ _)
      | (with_reducible exact num_Round.mono _ _ _)
      | (with_reducible exact withylaw01_summed.mono _)
      | (with_reducible exact withyref01_Ceil.mono _ _ _)
      | (with_reducible exact withyref01_Decimal.mono _ _ _ _)
      | (with_reducible exact withyref01_Floor.mono _ _ _)
      | (with_reducible exact withyref01_Round.mono _ _ _)
      | (with_reducible exact LeO.refl _)
      | (with_reducible exact LeO.none _)
      | (with_reducible refine LeO.ite ?_ ?_)
      | (with_reducible refine LeO.bind ?_ (fun _ => ?_))
      | (with_reducible refine LeO.exc (fun _ => ?_) (fun _ => ?_))
      | exact ih0 _ _ _ _
      | exact ih1 _ _ _ _
      | exact num_Ceil.mono _ _ _
      | exact num_Decimal.mono _ _ _ _
      | exact num_Floor.mono _ _ _
      | exact num_Round.mono _ _ _
      | exact withylaw01_summed.mono _
      | exact withyref01_Ceil.mono _ _ _
      | exact withyref01_Decimal.mono _ _ _ _
      | exact withyref01_Floor.mono _ _ _
      | exact withyref01_Round.mono _ _ _
      | exact LeO.none _
      | refine LeO.ite ?_ ?_
      | refine LeO.bind ?_ (fun _ => ?_)
set_option maxHeartbeats 8000000 in
set_option maxRecDepth 100000 in
theorem withylaw01_NumRounds.calls (k : Nat) (a0_0 : Int) (a0_1 : Int) (a1 : Int) (r : Bool) (w : World) (h : withylaw01_NumRounds.f k a0_0 a0_1 a1 = some r) :
    Calls Try.prog 5 #[.agg #[.int .i64 a0_0, .int .i64 a0_1], .int .i64 a1] w fun e w' => e = .returned (.bool r) ∧ Below w.heap.size w w' := by
  have hu23 := Try.underlying23
  have HB := Aside0.mk (Below.refl w.heap.size w)
  have H : ((num_Floor.f k a0_0 a0_1).bind fun bt433 => ((withyref01_Floor.f k a0_0 a0_1).bind fun bt435 => (if bt433.2 = bt435.2 then (withylaw01_NumRounds.j0 k a1 (bt433.1 != bt435.1) a0_0 a0_1) else (withylaw01_NumRounds.j0 k a1 true a0_0 a0_1)))) = some r := h
  clear h
  replace H := Option.bind_eq_some_iff.mp H
  obtain ⟨⟨t433, t434⟩, A30, H⟩ := H
  replace H : ((withyref01_Floor.f k a0_0 a0_1).bind fun bt435 => (if t434 = bt435.2 then (withylaw01_NumRounds.j0 k a1 (t433 != bt435.1) a0_0 a0_1) else (withylaw01_NumRounds.j0 k a1 true a0_0 a0_1))) = some r := H
  have A3 := Aside0.mk A30
  clear A30
  replace H := Option.bind_eq_some_iff.mp H
  obtain ⟨⟨t435, t436⟩, A40, H⟩ := H
  replace H : (if t434 = t436 then (withylaw01_NumRounds.j0 k a1 (t433 != t435) a0_0 a0_1) else (withylaw01_NumRounds.j0 k a1 true a0_0 a0_1)) = some r := H
  have A4 := Aside0.mk A40
  clear A40
  have HC5 := Aside0.mk H
  clear H
  go_enter Try.func5, Try.ntmps5
  go_upto_region 3 with (first | ((with_reducible refine gate_dst (N := 2) rfl ?_); refine box_event ?hg (N := 2) ?hd (cs := #[.int .i64 a0_0, .int .i64 a0_1]) (t := 23) ?hr ?_; (case hd => rfl); (case hg => rfl); (case hr => first | (go_simp; done) | (go_simp; rfl)); intro gb432 hg w6 hbox hb; have BK432 := Aside0.mk hbox; have GW432 := bwg_ HB hg; have GE432 := bwg_ HB hg; replace HB := bws_ HB hb; clear hb hbox hg; obtain ⟨hcz7_0, hcz7_1, hfz7_0, hfz7_1⟩ := bc2_ BK432) | ((with_reducible refine gate_callee (f := 29) rfl ?_); refine gla_ (some 15) Try.func29 #[.agg #[.int .i64 a0_0, .int .i64 a0_1]] ?_; (with_reducible refine (num_Floor.calls k a0_0 a0_1 t433 t434 _ A3.out).mono ?_); rintro e w8 ⟨rfl, hb⟩; refine ⟨_, rfl, ?_⟩; replace BK432 := bkb_ BK432 hb; replace HB := bws_ HB hb; (try clear hb); (try clear hb2); (try clear hk); (try clear hi); obtain ⟨hcz9_0, hcz9_1, hfz9_0, hfz9_1⟩ := bc2_ BK432) | ((with_reducible refine gate_callee (f := 30) rfl ?_); refine gla_ (some 20) Try.func30 #[.agg #[.int .i64 a0_0, .int .i64 a0_1]] ?_; (with_reducible refine (withyref01_Floor.calls k a0_0 a0_1 t435 t436 _ A4.out).mono ?_); rintro e w10 ⟨rfl, hb⟩; refine ⟨_, rfl, ?_⟩; replace BK432 := bkb_ BK432 hb; replace HB := bws_ HB hb; (try clear hb); (try clear hb2); (try clear hk); (try clear hi)))
  (try simp only [Act.put, List.setIfInBounds_toArray, List.set_cons_zero, List.set_cons_succ])
  go_cut [30] (fun v30 wc => ∃ (kq : Nat) (x30_4 : Bool), v30 = .bool x30_4 ∧ Aside0 (withylaw01_NumRounds.j0 kq a1 x30_4 a0_0 a0_1 = some r) ∧ Aside0 (kq ≤ k) ∧ Aside0 (wc.heap[gb432]? = some (.cells #[.int .i64 a0_0, .int .i64 a0_1] 23 (0, 0))) ∧ Aside0 (Below w.heap.size w wc))
  case first =>
    have H := HC5.out
    clear HC5
    by_cases c11 : t434 = t436
    · rw [if_pos c11] at H
      have c11b0 : (t434 == t436) = true := beq_iff_eq.mpr c11
      have c11b1 : (t434 != t436) = false := bne_eq_false_iff_eq.mpr c11
      clear c11
      (first | rw [c11b0] | (simp only [i64_w, i32_w]; rw [c11b0]) | skip)
      have H' := Aside0.mk H
      clear H
      go_wp2
      go_meet
      case rel => exact ⟨_, ((t433 != t435)), (by first | rfl | (simp; done) | (simp [*]; done)), H', ⟨by first | omega | exact Nat.le_refl _⟩, ⟨by exact bk_ BK432⟩, ⟨bw_ HB⟩⟩
    · rw [if_neg c11] at H
      have c11b0 : (t434 == t436) = false := beq_eq_false_iff_ne.mpr c11
      have c11b1 : (t434 != t436) = true := bne_iff_ne.mpr c11
      (first | rw [c11b0] | (simp only [i64_w, i32_w]; rw [c11b0]) | skip)
      have H' := Aside0.mk H
      clear H
      go_wp2
      go_meet
      case rel => exact ⟨_, (true), (by first | rfl | (simp; done) | (simp [*]; done)), H', ⟨by first | omega | exact Nat.le_refl _⟩, ⟨by exact bk_ BK432⟩, ⟨bw_ HB⟩⟩
  case rest =>
    clear HC5
    try clear c1
    try clear c2
    try clear p2
    try clear c3
    try clear c5
    try clear c11
    try clear c11b0
    try clear c11b1
    try clear hcz7_0
    try clear hcz7_1
    try clear hcz9_0
    try clear hcz9_1
    try clear hfz7_0
    try clear hfz7_1
    try clear hfz9_0
    try clear hfz9_1
    obtain ⟨kq, x30_4, rfl, HA, HJ4, BK432, HB⟩ := hcut
    cases kq with
    | zero => exact absurd HA.out (by simp [withylaw01_NumRounds.j0])
    | succ kj4 =>
      have H := HA.out
      clear HA
      simp only [withylaw01_NumRounds.j0] at H
      by_cases c12 : x30_4 = true
      · subst c12
        have H1 : (some false) = some r := by rw [if_pos rfl] at H; exact H
        clear H
        have H := H1
        clear H1
        obtain rfl := Option.some.inj H
        go_wp2
        go_ret
        exact ⟨by first | rfl | (simp [*] <;> rfl), bw_ HB⟩
      · replace c12 := Bool.eq_false_iff.mpr c12
        subst c12
        have H1 : ((num_Ceil.f kj4 a0_0 a0_1).bind fun bt437 => ((withyref01_Ceil.f kj4 a0_0 a0_1).bind fun bt439 => (if bt437.2 = bt439.2 then (withylaw01_NumRounds.j1 kj4 a1 (bt437.1 != bt439.1) a0_0 a0_1) else (withylaw01_NumRounds.j1 kj4 a1 true a0_0 a0_1)))) = some r := by rw [if_neg (show ¬ (false = true) by decide)] at H; exact H
        clear H
        have H := H1
        clear H1
        replace H := Option.bind_eq_some_iff.mp H
        obtain ⟨⟨t437, t438⟩, A130, H⟩ := H
        replace H : ((withyref01_Ceil.f kj4 a0_0 a0_1).bind fun bt439 => (if t438 = bt439.2 then (withylaw01_NumRounds.j1 kj4 a1 (t437 != bt439.1) a0_0 a0_1) else (withylaw01_NumRounds.j1 kj4 a1 true a0_0 a0_1))) = some r := H
        have A13 := Aside0.mk A130
        clear A130
        replace H := Option.bind_eq_some_iff.mp H
        obtain ⟨⟨t439, t440⟩, A140, H⟩ := H
        replace H : (if t438 = t440 then (withylaw01_NumRounds.j1 kj4 a1 (t437 != t439) a0_0 a0_1) else (withylaw01_NumRounds.j1 kj4 a1 true a0_0 a0_1)) = some r := H
        have A14 := Aside0.mk A140
        clear A140
        have HC15 := Aside0.mk H
        clear H
        obtain ⟨hcz16_0, hcz16_1, hfz16_0, hfz16_1⟩ := bc2_ BK432
        go_upto_region 7 with (first | ((with_reducible refine gate_callee (f := 31) rfl ?_); refine gla_ (some 33) Try.func31 #[.agg #[.int .i64 a0_0, .int .i64 a0_1]] ?_; (with_reducible refine (num_Ceil.calls kj4 a0_0 a0_1 t437 t438 _ A13.out).mono ?_); rintro e w17 ⟨rfl, hb⟩; refine ⟨_, rfl, ?_⟩; replace BK432 := bkb_ BK432 hb; replace HB := bws_ HB hb; (try clear hb); (try clear hb2); (try clear hk); (try clear hi); obtain ⟨hcz18_0, hcz18_1, hfz18_0, hfz18_1⟩ := bc2_ BK432) | ((with_reducible refine gate_callee (f := 32) rfl ?_); refine gla_ (some 38) Try.func32 #[.agg #[.int .i64 a0_0, .int .i64 a0_1]] ?_; (with_reducible refine (withyref01_Ceil.calls kj4 a0_0 a0_1 t439 t440 _ A14.out).mono ?_); rintro e w19 ⟨rfl, hb⟩; refine ⟨_, rfl, ?_⟩; replace BK432 := bkb_ BK432 hb; replace HB := bws_ HB hb; (try clear hb); (try clear hb2); (try clear hk); (try clear hi)))
        (try simp only [Act.put, List.setIfInBounds_toArray, List.set_cons_zero, List.set_cons_succ])
        go_cut [48] (fun v48 wc => ∃ (kq : Nat) (x48_14 : Bool), v48 = .bool x48_14 ∧ Aside0 (withylaw01_NumRounds.j1 kq a1 x48_14 a0_0 a0_1 = some r) ∧ Aside0 (kq ≤ kj4) ∧ Aside0 (wc.heap[gb432]? = some (.cells #[.int .i64 a0_0, .int .i64 a0_1] 23 (0, 0))) ∧ Aside0 (Below w.heap.size w wc))
        case first =>
          have H := HC15.out
          clear HC15
          by_cases c20 : t438 = t440
          · rw [if_pos c20] at H
            have c20b0 : (t438 == t440) = true := beq_iff_eq.mpr c20
            have c20b1 : (t438 != t440) = false := bne_eq_false_iff_eq.mpr c20
            clear c20
            (first | rw [c20b0] | (simp only [i64_w, i32_w]; rw [c20b0]) | skip)
            have H' := Aside0.mk H
            clear H
            go_wp2
            go_meet
            case rel => exact ⟨_, ((t437 != t439)), (by first | rfl | (simp; done) | (simp [*]; done)), H', ⟨by have := HJ4.out; first | omega | exact Nat.le_refl _⟩, ⟨by exact bk_ BK432⟩, ⟨bw_ HB⟩⟩
          · rw [if_neg c20] at H
            have c20b0 : (t438 == t440) = false := beq_eq_false_iff_ne.mpr c20
            have c20b1 : (t438 != t440) = true := bne_iff_ne.mpr c20
            (first | rw [c20b0] | (simp only [i64_w, i32_w]; rw [c20b0]) | skip)
            have H' := Aside0.mk H
            clear H
            go_wp2
            go_meet
            case rel => exact ⟨_, (true), (by first | rfl | (simp; done) | (simp [*]; done)), H', ⟨by have := HJ4.out; first | omega | exact Nat.le_refl _⟩, ⟨by exact bk_ BK432⟩, ⟨bw_ HB⟩⟩
        case rest =>
          clear HC15
          try clear c1
          try clear c2
          try clear p2
          try clear c3
          try clear c5
          try clear c11
          try clear c11b0
          try clear c11b1
          try clear c12
          try clear c20
          try clear c20b0
          try clear c20b1
          try clear hcz16_0
          try clear hcz16_1
          try clear hcz18_0
          try clear hcz18_1
          try clear hcz7_0
          try clear hcz7_1
          try clear hcz9_0
          try clear hcz9_1
          try clear hfz16_0
          try clear hfz16_1
          try clear hfz18_0
          try clear hfz18_1
          try clear hfz7_0
          try clear hfz7_1
          try clear hfz9_0
          try clear hfz9_1
          try clear p2
          obtain ⟨kq, x48_14, rfl, HA, HJ14, BK432, HB⟩ := hcut
          cases kq with
          | zero => exact absurd HA.out (by simp [withylaw01_NumRounds.j1])
          | succ kj14 =>
            have H := HA.out
            clear HA
            simp only [withylaw01_NumRounds.j1] at H
            by_cases c21 : x48_14 = true
            · subst c21
              have H1 : (some false) = some r := by rw [if_pos rfl] at H; exact H
              clear H
              have H := H1
              clear H1
              obtain rfl := Option.some.inj H
              go_wp2
              go_ret
              exact ⟨by first | rfl | (simp [*] <;> rfl), bw_ HB⟩
            · replace c21 := Bool.eq_false_iff.mpr c21
              subst c21
              have H1 : ((num_Round.f kj14 a0_0 a0_1).bind fun bt441 => ((withyref01_Round.f kj14 a0_0 a0_1).bind fun bt443 => ((num_Decimal.f kj14 a0_0 a0_1 a1).bind fun bt445 => ((withyref01_Decimal.f kj14 a0_0 a0_1 a1).bind fun bt447 => (if bt441.2 = bt443.2 then (if bt441.1 = bt443.1 then (if bt445.2 = bt447.2 then (if bt445.1.toList = bt447.1.toList then ((withylaw01_summed.f kj14).bind fun t449 => (some t449)) else (some false)) else (some false)) else (some false)) else (some false)))))) = some r := by rw [if_neg (show ¬ (false = true) by decide)] at H; exact H
              clear H
              have H := H1
              clear H1
              replace H := Option.bind_eq_some_iff.mp H
              obtain ⟨⟨t441, t442⟩, A220, H⟩ := H
              replace H : ((withyref01_Round.f kj14 a0_0 a0_1).bind fun bt443 => ((num_Decimal.f kj14 a0_0 a0_1 a1).bind fun bt445 => ((withyref01_Decimal.f kj14 a0_0 a0_1 a1).bind fun bt447 => (if t442 = bt443.2 then (if t441 = bt443.1 then (if bt445.2 = bt447.2 then (if bt445.1.toList = bt447.1.toList then ((withylaw01_summed.f kj14).bind fun t449 => (some t449)) else (some false)) else (some false)) else (some false)) else (some false))))) = some r := H
              have A22 := Aside0.mk A220
              clear A220
              replace H := Option.bind_eq_some_iff.mp H
              obtain ⟨⟨t443, t444⟩, A230, H⟩ := H
              replace H : ((num_Decimal.f kj14 a0_0 a0_1 a1).bind fun bt445 => ((withyref01_Decimal.f kj14 a0_0 a0_1 a1).bind fun bt447 => (if t442 = t444 then (if t441 = t443 then (if bt445.2 = bt447.2 then (if bt445.1.toList = bt447.1.toList then ((withylaw01_summed.f kj14).bind fun t449 => (some t449)) else (some false)) else (some false)) else (some false)) else (some false)))) = some r := H
              have A23 := Aside0.mk A230
              clear A230
              replace H := Option.bind_eq_some_iff.mp H
              obtain ⟨⟨t445, t446⟩, A240, H⟩ := H
              replace H : ((withyref01_Decimal.f kj14 a0_0 a0_1 a1).bind fun bt447 => (if t442 = t444 then (if t441 = t443 then (if t446 = bt447.2 then (if t445.toList = bt447.1.toList then ((withylaw01_summed.f kj14).bind fun t449 => (some t449)) else (some false)) else (some false)) else (some false)) else (some false))) = some r := H
              have A24 := Aside0.mk A240
              clear A240
              replace H := Option.bind_eq_some_iff.mp H
              obtain ⟨⟨t447, t448⟩, A250, H⟩ := H
              replace H : (if t442 = t444 then (if t441 = t443 then (if t446 = t448 then (if t445.toList = t447.toList then ((withylaw01_summed.f kj14).bind fun t449 => (some t449)) else (some false)) else (some false)) else (some false)) else (some false)) = some r := H
              have A25 := Aside0.mk A250
              clear A250
              by_cases c26 : t442 = t444
              · rw [if_pos c26] at H
                have c26b0 : (t442 == t444) = true := beq_iff_eq.mpr c26
                have c26b1 : (t442 != t444) = false := bne_eq_false_iff_eq.mpr c26
                clear c26
                by_cases c27 : t441 = t443
                · rw [if_pos c27] at H
                  have c27b0 : (t441 == t443) = true := beq_iff_eq.mpr c27
                  have c27b1 : (t441 != t443) = false := bne_eq_false_iff_eq.mpr c27
                  clear c27
                  by_cases c28 : t446 = t448
                  · rw [if_pos c28] at H
                    have c28b0 : (t446 == t448) = true := beq_iff_eq.mpr c28
                    have c28b1 : (t446 != t448) = false := bne_eq_false_iff_eq.mpr c28
                    clear c28
                    by_cases c29 : t445.toList = t447.toList
                    · rw [if_pos c29] at H
                      have c29b0 : (t445.toList == t447.toList) = true := beq_iff_eq.mpr c29
                      have c29b1 : (t445.toList != t447.toList) = false := bne_eq_false_iff_eq.mpr c29
                      clear c29
                      replace H := Option.bind_eq_some_iff.mp H
                      obtain ⟨t449, A300, H⟩ := H
                      replace H : (some t449) = some r := H
                      have A30 := Aside0.mk A300
                      clear A300
                      obtain rfl := Option.some.inj H
                      obtain ⟨hcz31_0, hcz31_1, hfz31_0, hfz31_1⟩ := bc2_ BK432
                      go_wp2_with (first | ((with_reducible refine gate_callee (f := 33) rfl ?_); refine gla_ (some 51) Try.func33 #[.agg #[.int .i64 a0_0, .int .i64 a0_1]] ?_; (with_reducible refine (num_Round.calls kj14 a0_0 a0_1 t441 t442 _ A22.out).mono ?_); rintro e w32 ⟨rfl, hb⟩; refine ⟨_, rfl, ?_⟩; replace BK432 := bkb_ BK432 hb; replace HB := bws_ HB hb; (try clear hb); (try clear hb2); (try clear hk); (try clear hi); obtain ⟨hcz33_0, hcz33_1, hfz33_0, hfz33_1⟩ := bc2_ BK432) | ((with_reducible refine gate_callee (f := 34) rfl ?_); refine gla_ (some 56) Try.func34 #[.agg #[.int .i64 a0_0, .int .i64 a0_1]] ?_; (with_reducible refine (withyref01_Round.calls kj14 a0_0 a0_1 t443 t444 _ A23.out).mono ?_); rintro e w34 ⟨rfl, hb⟩; refine ⟨_, rfl, ?_⟩; replace BK432 := bkb_ BK432 hb; replace HB := bws_ HB hb; (try clear hb); (try clear hb2); (try clear hk); (try clear hi); obtain ⟨hcz35_0, hcz35_1, hfz35_0, hfz35_1⟩ := bc2_ BK432) | ((with_reducible refine gate_callee (f := 35) rfl ?_); refine gla_ (some 62) Try.func35 #[.agg #[.int .i64 a0_0, .int .i64 a0_1], .int .i64 a1] ?_; (with_reducible refine (num_Decimal.calls kj14 a0_0 a0_1 a1 t445 t446 _ A24.out).mono ?_); rintro e w36 ⟨rfl, hb⟩; refine ⟨_, rfl, ?_⟩; replace BK432 := bkb_ BK432 hb; replace HB := bws_ HB hb; (try clear hb); (try clear hb2); (try clear hk); (try clear hi); obtain ⟨hcz37_0, hcz37_1, hfz37_0, hfz37_1⟩ := bc2_ BK432) | ((with_reducible refine gate_callee (f := 36) rfl ?_); refine gla_ (some 68) Try.func36 #[.agg #[.int .i64 a0_0, .int .i64 a0_1], .int .i64 a1] ?_; (with_reducible refine (withyref01_Decimal.calls kj14 a0_0 a0_1 a1 t447 t448 _ A25.out).mono ?_); rintro e w38 ⟨rfl, hb⟩; refine ⟨_, rfl, ?_⟩; replace BK432 := bkb_ BK432 hb; replace HB := bws_ HB hb; (try clear hb); (try clear hb2); (try clear hk); (try clear hi)) | (go_at_call 17; (with_reducible refine (withylaw01_summed.calls kj14  t449 _ A30.out).mono ?_); rintro e w39 ⟨rfl, hb⟩; replace BK432 := bkb_ BK432 hb; replace HB := bws_ HB hb; (try clear hb); (try clear hb2); (try clear hk); (try clear hi)))
                      go_ret
                      exact ⟨by first | rfl | (simp [*] <;> rfl), bw_ HB⟩
                    · rw [if_neg c29] at H
                      have c29b0 : (t445.toList == t447.toList) = false := beq_eq_false_iff_ne.mpr c29
                      have c29b1 : (t445.toList != t447.toList) = true := bne_iff_ne.mpr c29
                      obtain rfl := Option.some.inj H
                      obtain ⟨hcz40_0, hcz40_1, hfz40_0, hfz40_1⟩ := bc2_ BK432
                      go_wp2_with (first | ((with_reducible refine gate_callee (f := 33) rfl ?_); refine gla_ (some 51) Try.func33 #[.agg #[.int .i64 a0_0, .int .i64 a0_1]] ?_; (with_reducible refine (num_Round.calls kj14 a0_0 a0_1 t441 t442 _ A22.out).mono ?_); rintro e w41 ⟨rfl, hb⟩; refine ⟨_, rfl, ?_⟩; replace BK432 := bkb_ BK432 hb; replace HB := bws_ HB hb; (try clear hb); (try clear hb2); (try clear hk); (try clear hi); obtain ⟨hcz42_0, hcz42_1, hfz42_0, hfz42_1⟩ := bc2_ BK432) | ((with_reducible refine gate_callee (f := 34) rfl ?_); refine gla_ (some 56) Try.func34 #[.agg #[.int .i64 a0_0, .int .i64 a0_1]] ?_; (with_reducible refine (withyref01_Round.calls kj14 a0_0 a0_1 t443 t444 _ A23.out).mono ?_); rintro e w43 ⟨rfl, hb⟩; refine ⟨_, rfl, ?_⟩; replace BK432 := bkb_ BK432 hb; replace HB := bws_ HB hb; (try clear hb); (try clear hb2); (try clear hk); (try clear hi); obtain ⟨hcz44_0, hcz44_1, hfz44_0, hfz44_1⟩ := bc2_ BK432) | ((with_reducible refine gate_callee (f := 35) rfl ?_); refine gla_ (some 62) Try.func35 #[.agg #[.int .i64 a0_0, .int .i64 a0_1], .int .i64 a1] ?_; (with_reducible refine (num_Decimal.calls kj14 a0_0 a0_1 a1 t445 t446 _ A24.out).mono ?_); rintro e w45 ⟨rfl, hb⟩; refine ⟨_, rfl, ?_⟩; replace BK432 := bkb_ BK432 hb; replace HB := bws_ HB hb; (try clear hb); (try clear hb2); (try clear hk); (try clear hi); obtain ⟨hcz46_0, hcz46_1, hfz46_0, hfz46_1⟩ := bc2_ BK432) | ((with_reducible refine gate_callee (f := 36) rfl ?_); refine gla_ (some 68) Try.func36 #[.agg #[.int .i64 a0_0, .int .i64 a0_1], .int .i64 a1] ?_; (with_reducible refine (withyref01_Decimal.calls kj14 a0_0 a0_1 a1 t447 t448 _ A25.out).mono ?_); rintro e w47 ⟨rfl, hb⟩; refine ⟨_, rfl, ?_⟩; replace BK432 := bkb_ BK432 hb; replace HB := bws_ HB hb; (try clear hb); (try clear hb2); (try clear hk); (try clear hi)))
                      go_ret
                      exact ⟨by first | rfl | (simp [*] <;> rfl), bw_ HB⟩
                  · rw [if_neg c28] at H
                    have c28b0 : (t446 == t448) = false := beq_eq_false_iff_ne.mpr c28
                    have c28b1 : (t446 != t448) = true := bne_iff_ne.mpr c28
                    obtain rfl := Option.some.inj H
                    obtain ⟨hcz48_0, hcz48_1, hfz48_0, hfz48_1⟩ := bc2_ BK432
                    go_wp2_with (first | ((with_reducible refine gate_callee (f := 33) rfl ?_); refine gla_ (some 51) Try.func33 #[.agg #[.int .i64 a0_0, .int .i64 a0_1]] ?_; (with_reducible refine (num_Round.calls kj14 a0_0 a0_1 t441 t442 _ A22.out).mono ?_); rintro e w49 ⟨rfl, hb⟩; refine ⟨_, rfl, ?_⟩; replace BK432 := bkb_ BK432 hb; replace HB := bws_ HB hb; (try clear hb); (try clear hb2); (try clear hk); (try clear hi); obtain ⟨hcz50_0, hcz50_1, hfz50_0, hfz50_1⟩ := bc2_ BK432) | ((with_reducible refine gate_callee (f := 34) rfl ?_); refine gla_ (some 56) Try.func34 #[.agg #[.int .i64 a0_0, .int .i64 a0_1]] ?_; (with_reducible refine (withyref01_Round.calls kj14 a0_0 a0_1 t443 t444 _ A23.out).mono ?_); rintro e w51 ⟨rfl, hb⟩; refine ⟨_, rfl, ?_⟩; replace BK432 := bkb_ BK432 hb; replace HB := bws_ HB hb; (try clear hb); (try clear hb2); (try clear hk); (try clear hi); obtain ⟨hcz52_0, hcz52_1, hfz52_0, hfz52_1⟩ := bc2_ BK432) | ((with_reducible refine gate_callee (f := 35) rfl ?_); refine gla_ (some 62) Try.func35 #[.agg #[.int .i64 a0_0, .int .i64 a0_1], .int .i64 a1] ?_; (with_reducible refine (num_Decimal.calls kj14 a0_0 a0_1 a1 t445 t446 _ A24.out).mono ?_); rintro e w53 ⟨rfl, hb⟩; refine ⟨_, rfl, ?_⟩; replace BK432 := bkb_ BK432 hb; replace HB := bws_ HB hb; (try clear hb); (try clear hb2); (try clear hk); (try clear hi); obtain ⟨hcz54_0, hcz54_1, hfz54_0, hfz54_1⟩ := bc2_ BK432) | ((with_reducible refine gate_callee (f := 36) rfl ?_); refine gla_ (some 68) Try.func36 #[.agg #[.int .i64 a0_0, .int .i64 a0_1], .int .i64 a1] ?_; (with_reducible refine (withyref01_Decimal.calls kj14 a0_0 a0_1 a1 t447 t448 _ A25.out).mono ?_); rintro e w55 ⟨rfl, hb⟩; refine ⟨_, rfl, ?_⟩; replace BK432 := bkb_ BK432 hb; replace HB := bws_ HB hb; (try clear hb); (try clear hb2); (try clear hk); (try clear hi)))
                    go_ret
                    exact ⟨by first | rfl | (simp [*] <;> rfl), bw_ HB⟩
                · rw [if_neg c27] at H
                  have c27b0 : (t441 == t443) = false := beq_eq_false_iff_ne.mpr c27
                  have c27b1 : (t441 != t443) = true := bne_iff_ne.mpr c27
                  obtain rfl := Option.some.inj H
                  obtain ⟨hcz56_0, hcz56_1, hfz56_0, hfz56_1⟩ := bc2_ BK432
                  go_wp2_with (first | ((with_reducible refine gate_callee (f := 33) rfl ?_); refine gla_ (some 51) Try.func33 #[.agg #[.int .i64 a0_0, .int .i64 a0_1]] ?_; (with_reducible refine (num_Round.calls kj14 a0_0 a0_1 t441 t442 _ A22.out).mono ?_); rintro e w57 ⟨rfl, hb⟩; refine ⟨_, rfl, ?_⟩; replace BK432 := bkb_ BK432 hb; replace HB := bws_ HB hb; (try clear hb); (try clear hb2); (try clear hk); (try clear hi); obtain ⟨hcz58_0, hcz58_1, hfz58_0, hfz58_1⟩ := bc2_ BK432) | ((with_reducible refine gate_callee (f := 34) rfl ?_); refine gla_ (some 56) Try.func34 #[.agg #[.int .i64 a0_0, .int .i64 a0_1]] ?_; (with_reducible refine (withyref01_Round.calls kj14 a0_0 a0_1 t443 t444 _ A23.out).mono ?_); rintro e w59 ⟨rfl, hb⟩; refine ⟨_, rfl, ?_⟩; replace BK432 := bkb_ BK432 hb; replace HB := bws_ HB hb; (try clear hb); (try clear hb2); (try clear hk); (try clear hi); obtain ⟨hcz60_0, hcz60_1, hfz60_0, hfz60_1⟩ := bc2_ BK432) | ((with_reducible refine gate_callee (f := 35) rfl ?_); refine gla_ (some 62) Try.func35 #[.agg #[.int .i64 a0_0, .int .i64 a0_1], .int .i64 a1] ?_; (with_reducible refine (num_Decimal.calls kj14 a0_0 a0_1 a1 t445 t446 _ A24.out).mono ?_); rintro e w61 ⟨rfl, hb⟩; refine ⟨_, rfl, ?_⟩; replace BK432 := bkb_ BK432 hb; replace HB := bws_ HB hb; (try clear hb); (try clear hb2); (try clear hk); (try clear hi); obtain ⟨hcz62_0, hcz62_1, hfz62_0, hfz62_1⟩ := bc2_ BK432) | ((with_reducible refine gate_callee (f := 36) rfl ?_); refine gla_ (some 68) Try.func36 #[.agg #[.int .i64 a0_0, .int .i64 a0_1], .int .i64 a1] ?_; (with_reducible refine (withyref01_Decimal.calls kj14 a0_0 a0_1 a1 t447 t448 _ A25.out).mono ?_); rintro e w63 ⟨rfl, hb⟩; refine ⟨_, rfl, ?_⟩; replace BK432 := bkb_ BK432 hb; replace HB := bws_ HB hb; (try clear hb); (try clear hb2); (try clear hk); (try clear hi)))
                  go_ret
                  exact ⟨by first | rfl | (simp [*] <;> rfl), bw_ HB⟩
              · rw [if_neg c26] at H
                have c26b0 : (t442 == t444) = false := beq_eq_false_iff_ne.mpr c26
                have c26b1 : (t442 != t444) = true := bne_iff_ne.mpr c26
                obtain rfl := Option.some.inj H
                obtain ⟨hcz64_0, hcz64_1, hfz64_0, hfz64_1⟩ := bc2_ BK432
                go_wp2_with (first | ((with_reducible refine gate_callee (f := 33) rfl ?_); refine gla_ (some 51) Try.func33 #[.agg #[.int .i64 a0_0, .int .i64 a0_1]] ?_; (with_reducible refine (num_Round.calls kj14 a0_0 a0_1 t441 t442 _ A22.out).mono ?_); rintro e w65 ⟨rfl, hb⟩; refine ⟨_, rfl, ?_⟩; replace BK432 := bkb_ BK432 hb; replace HB := bws_ HB hb; (try clear hb); (try clear hb2); (try clear hk); (try clear hi); obtain ⟨hcz66_0, hcz66_1, hfz66_0, hfz66_1⟩ := bc2_ BK432) | ((with_reducible refine gate_callee (f := 34) rfl ?_); refine gla_ (some 56) Try.func34 #[.agg #[.int .i64 a0_0, .int .i64 a0_1]] ?_; (with_reducible refine (withyref01_Round.calls kj14 a0_0 a0_1 t443 t444 _ A23.out).mono ?_); rintro e w67 ⟨rfl, hb⟩; refine ⟨_, rfl, ?_⟩; replace BK432 := bkb_ BK432 hb; replace HB := bws_ HB hb; (try clear hb); (try clear hb2); (try clear hk); (try clear hi); obtain ⟨hcz68_0, hcz68_1, hfz68_0, hfz68_1⟩ := bc2_ BK432) | ((with_reducible refine gate_callee (f := 35) rfl ?_); refine gla_ (some 62) Try.func35 #[.agg #[.int .i64 a0_0, .int .i64 a0_1], .int .i64 a1] ?_; (with_reducible refine (num_Decimal.calls kj14 a0_0 a0_1 a1 t445 t446 _ A24.out).mono ?_); rintro e w69 ⟨rfl, hb⟩; refine ⟨_, rfl, ?_⟩; replace BK432 := bkb_ BK432 hb; replace HB := bws_ HB hb; (try clear hb); (try clear hb2); (try clear hk); (try clear hi); obtain ⟨hcz70_0, hcz70_1, hfz70_0, hfz70_1⟩ := bc2_ BK432) | ((with_reducible refine gate_callee (f := 36) rfl ?_); refine gla_ (some 68) Try.func36 #[.agg #[.int .i64 a0_0, .int .i64 a0_1], .int .i64 a1] ?_; (with_reducible refine (withyref01_Decimal.calls kj14 a0_0 a0_1 a1 t447 t448 _ A25.out).mono ?_); rintro e w71 ⟨rfl, hb⟩; refine ⟨_, rfl, ?_⟩; replace BK432 := bkb_ BK432 hb; replace HB := bws_ HB hb; (try clear hb); (try clear hb2); (try clear hk); (try clear hi)))
                go_ret
                exact ⟨by first | rfl | (simp [*] <;> rfl), bw_ HB⟩
end Go.Proofs.Ytakcdoahpbeckaa.H
