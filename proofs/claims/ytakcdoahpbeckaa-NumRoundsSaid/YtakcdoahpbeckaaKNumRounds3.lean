/- NumRounds: the printed functions it reaches, with their walks. Laid by wip/claimpack.py out of what wip/hprint.py printed. -/
import Derived.Test.YtakcdoahpbeckaaKNumRounds2
namespace Go.Proofs.Ytakcdoahpbeckaa.H
open Go.RowKit Go.Proofs.YtakcdoahpbeckaaW.PrintWords Go.Proofs.YtakcdoahpbeckaaW.PrintLast Go.Proofs.YtakcdoahpbeckaaW.PrintMore
attribute [local go_sem] max2_int min2_int max_two min_two max_three min_three max_four min_four   -- for this text's walks alone
set_option linter.unusedVariables false
set_option linter.unusedSimpArgs false

/-! ### withyref01_Make: function 48 -/
def withyref01_Make.j0 : Nat → Int → Int → Bool → Option (Int × Int × Int)
  | 0, _, _, _ => none
  | k + 1, x0, x1, x13 => if x13 = true then (some (0, 0, 3)) else (if x1 = 0 then (some (0, 0, 10)) else ((withyref01_low.f k x0 x1).bind fun bt675 => (some (bt675.1, bt675.2.1, bt675.2.2))))
def withyref01_Make.f (k : Nat) (a0 : Int) (a1 : Int) : Option (Int × Int × Int) := (withyref01_In.f a0 (-1000000000000000000) 1000000000000000000).bind fun t673 => (if t673 = true then ((withyref01_In.f a1 (-1000000000000000000) 1000000000000000000).bind fun t674 => (withyref01_Make.j0 k a0 a1 (!t674))) else (withyref01_Make.j0 k a0 a1 true))
theorem withyref01_Make.mono_l : ∀ k, (∀ y0 y1 y2, LeO (withyref01_Make.j0 k y0 y1 y2) (withyref01_Make.j0 (k + 1) y0 y1 y2))
  | 0 => fun _ _ _ r h => by simp [withyref01_Make.j0] at h
  | k + 1 => by
    have ih0 := withyref01_Make.mono_l k
    · intro y0 y1 y2
      unfold withyref01_Make.j0
      repeat' first
      | (with_reducible exact ih0 _ _ _)
      | (with_reducible exact withyref01_low.mono _ _ _)
      | (with_reducible exact LeO.refl _)
      | (with_reducible exact LeO.none _)
      | (with_reducible refine LeO.ite ?_ ?_)
      | (with_reducible refine LeO.bind ?_ (fun _ => ?_))
      | (with_reducible refine LeO.exc (fun _ => ?_) (fun _ => ?_))
      | exact ih0 _ _ _
      | exact withyref01_low.mono _ _ _
      | exact LeO.none _
      | refine LeO.ite ?_ ?_
      | refine LeO.bind ?_ (fun _ => ?_)
theorem withyref01_Make.mono : ∀ a0 a1 k, LeO (withyref01_Make.f k a0 a1) (withyref01_Make.f (k + 1) a0 a1) := by
  intro a0 a1 k
  have ih0 := withyref01_Make.mono_l k
  unfold withyref01_Make.f
  repeat' first
      | (with_reducible exact ih0 _ _ _)
      | (with_reducible exact withyref01_low.mono _ _ _)
      | (with_reducible exact LeO.refl _)
      | (with_reducible exact LeO.none _)
      | (with_reducible refine LeO.ite ?_ ?_)
      | (with_reducible refine LeO.bind ?_ (fun _ => ?_))
      | (with_reducible refine LeO.exc (fun _ => ?_) (fun _ => ?_))
      | exact ih0 _ _ _
      | exact withyref01_low.mono _ _ _
      | exact LeO.none _
      | refine LeO.ite ?_ ?_
      | refine LeO.bind ?_ (fun _ => ?_)
set_option maxHeartbeats 8000000 in
set_option maxRecDepth 100000 in
theorem withyref01_Make.calls (k : Nat) (a0 : Int) (a1 : Int) (r1 : Int) (r2 : Int) (r3 : Int) (w : World) (h : withyref01_Make.f k a0 a1 = some (r1, r2, r3)) :
    Calls Try.prog 48 #[.int .i64 a0, .int .i64 a1] w fun e w' => e = .returned (.tuple #[.agg #[.int .i64 r1, .int .i64 r2], .int .i64 r3]) ∧ Below w.heap.size w w' := by
  have hu23 := Try.underlying23
  have HB := Aside0.mk (Below.refl w.heap.size w)
  have H : ((withyref01_In.f a0 (-1000000000000000000) 1000000000000000000).bind fun t673 => (if t673 = true then ((withyref01_In.f a1 (-1000000000000000000) 1000000000000000000).bind fun t674 => (withyref01_Make.j0 k a0 a1 (!t674))) else (withyref01_Make.j0 k a0 a1 true))) = some (r1, r2, r3) := h
  clear h
  have HC3 := Aside0.mk H
  clear H
  go_enter Try.func48, Try.ntmps48
  go_upto_region 1 with (first | ((with_reducible refine gate_dst (N := 4) rfl ?_); refine box_event ?hg (N := 4) ?hd (cs := #[.int .i64 0, .int .i64 0]) (t := 23) ?hr ?_; (case hd => rfl); (case hg => rfl); (case hr => first | (go_simp; done) | (go_simp; rfl)); intro gb672 hg w4 hbox hb; have BK672 := Aside0.mk hbox; have GW672 := bwg_ HB hg; have GE672 := bwg_ HB hg; replace HB := bws_ HB hb; clear hb hbox hg))
  (try simp only [Act.put, List.setIfInBounds_toArray, List.set_cons_zero, List.set_cons_succ])
  go_cut [13] (fun v13 wc => ∃ (kq : Nat) (x13_2 : Bool), v13 = .bool x13_2 ∧ Aside0 (withyref01_Make.j0 kq a0 a1 x13_2 = some (r1, r2, r3)) ∧ Aside0 (kq ≤ k) ∧ Aside0 (wc.heap[gb672]? = some (.cells #[.int .i64 0, .int .i64 0] 23 (0, 0))) ∧ Aside0 (Below w.heap.size w wc))
  case first =>
    have H := HC3.out
    clear HC3
    replace H := Option.bind_eq_some_iff.mp H
    obtain ⟨t673, A50, H⟩ := H
    replace H : (if t673 = true then ((withyref01_In.f a1 (-1000000000000000000) 1000000000000000000).bind fun t674 => (withyref01_Make.j0 k a0 a1 (!t674))) else (withyref01_Make.j0 k a0 a1 true)) = some (r1, r2, r3) := H
    have A5 := Aside0.mk A50
    clear A50
    by_cases c6 : t673 = true
    · subst c6
      have H1 : ((withyref01_In.f a1 (-1000000000000000000) 1000000000000000000).bind fun t674 => (withyref01_Make.j0 k a0 a1 (!t674))) = some (r1, r2, r3) := by rw [if_pos rfl] at H; exact H
      clear H
      have H := H1
      clear H1
      replace H := Option.bind_eq_some_iff.mp H
      obtain ⟨t674, A70, H⟩ := H
      replace H : (withyref01_Make.j0 k a0 a1 (!t674)) = some (r1, r2, r3) := H
      have A7 := Aside0.mk A70
      clear A70
      have H' := Aside0.mk H
      clear H
      go_wp2_with (first | ((with_reducible refine gate_callee (f := 42) rfl ?_); refine gla_ (some 7) Try.func42 #[.int .i64 a0, .int .i64 (-1000000000000000000), .int .i64 1000000000000000000] ?_; (with_reducible refine (withyref01_In.calls a0 (-1000000000000000000) 1000000000000000000 true _ A5.out).mono ?_); rintro e w' ⟨rfl, ⟨nd, rfl⟩⟩; refine ⟨_, rfl, ?_⟩) | (go_at_call 42; (with_reducible refine (withyref01_In.calls a1 (-1000000000000000000) 1000000000000000000 t674 _ A7.out).mono ?_); rintro e w' ⟨rfl, ⟨nd, rfl⟩⟩))
      go_meet
      case rel => exact ⟨_, (!t674), (by first | rfl | (simp; done) | (simp [*]; done)), H', ⟨by first | omega | exact Nat.le_refl _⟩, ⟨by exact bk_ BK672⟩, ⟨bw_ HB⟩⟩
    · replace c6 := Bool.eq_false_iff.mpr c6
      subst c6
      have H1 : (withyref01_Make.j0 k a0 a1 true) = some (r1, r2, r3) := by rw [if_neg (show ¬ (false = true) by decide)] at H; exact H
      clear H
      have H := H1
      clear H1
      have H' := Aside0.mk H
      clear H
      go_wp2_with (first | ((with_reducible refine gate_callee (f := 42) rfl ?_); refine gla_ (some 7) Try.func42 #[.int .i64 a0, .int .i64 (-1000000000000000000), .int .i64 1000000000000000000] ?_; (with_reducible refine (withyref01_In.calls a0 (-1000000000000000000) 1000000000000000000 false _ A5.out).mono ?_); rintro e w' ⟨rfl, ⟨nd, rfl⟩⟩; refine ⟨_, rfl, ?_⟩))
      go_meet
      case rel => exact ⟨_, (true), (by first | rfl | (simp; done) | (simp [*]; done)), H', ⟨by first | omega | exact Nat.le_refl _⟩, ⟨by exact bk_ BK672⟩, ⟨bw_ HB⟩⟩
  case rest =>
    clear HC3
    try clear p2
    try clear c4
    try clear c6
    obtain ⟨kq, x13_2, rfl, HA, HJ2, BK672, HB⟩ := hcut
    cases kq with
    | zero => exact absurd HA.out (by simp [withyref01_Make.j0])
    | succ kj2 =>
      have H := HA.out
      clear HA
      simp only [withyref01_Make.j0] at H
      by_cases c8 : x13_2 = true
      · subst c8
        have H1 : (some (0, 0, 3)) = some (r1, r2, r3) := by rw [if_pos rfl] at H; exact H
        clear H
        have H := H1
        clear H1
        simp only [Option.some.injEq, Prod.mk.injEq] at H
        obtain ⟨rfl, rfl, rfl⟩ := H
        obtain ⟨hcz9_0, hcz9_1, hfz9_0, hfz9_1⟩ := bc2_ BK672
        go_wp2
        refine bodyPost_ret (results_ct rfl _ _ gb672 23 #[.int .i64 0, .int .i64 0] (0, 0) _ rfl (by refine bp_ (cs := #[.int .i64 0, .int .i64 0]) ?_ 1; refine bp_ (cs := #[.int .i64 0, .int .i64 0]) ?_ 0; exact bk_ BK672) Try.underlying23 rfl (by kernel_rfl)) rfl ?_
        exact ⟨by first | rfl | (simp [*] <;> rfl), bw_ HB⟩
      · replace c8 := Bool.eq_false_iff.mpr c8
        subst c8
        have H1 : (if a1 = 0 then (some (0, 0, 10)) else ((withyref01_low.f kj2 a0 a1).bind fun bt675 => (some (bt675.1, bt675.2.1, bt675.2.2)))) = some (r1, r2, r3) := by rw [if_neg (show ¬ (false = true) by decide)] at H; exact H
        clear H
        have H := H1
        clear H1
        by_cases c10 : a1 = 0
        · rw [if_pos c10] at H
          have c10b0 : (a1 == 0) = true := beq_iff_eq.mpr c10
          have c10b1 : (a1 != 0) = false := bne_eq_false_iff_eq.mpr c10
          clear c10
          simp only [Option.some.injEq, Prod.mk.injEq] at H
          obtain ⟨rfl, rfl, rfl⟩ := H
          obtain ⟨hcz11_0, hcz11_1, hfz11_0, hfz11_1⟩ := bc2_ BK672
          go_wp2
          refine bodyPost_ret (results_ct rfl _ _ gb672 23 #[.int .i64 0, .int .i64 0] (0, 0) _ rfl (by refine bp_ (cs := #[.int .i64 0, .int .i64 0]) ?_ 1; refine bp_ (cs := #[.int .i64 0, .int .i64 0]) ?_ 0; exact bk_ BK672) Try.underlying23 rfl (by kernel_rfl)) rfl ?_
          exact ⟨by first | rfl | (simp [*] <;> rfl), bw_ HB⟩
        · rw [if_neg c10] at H
          have c10b0 : (a1 == 0) = false := beq_eq_false_iff_ne.mpr c10
          have c10b1 : (a1 != 0) = true := bne_iff_ne.mpr c10
          replace H := Option.bind_eq_some_iff.mp H
          obtain ⟨⟨t675, t676, t677⟩, A120, H⟩ := H
          replace H : (some (t675, t676, t677)) = some (r1, r2, r3) := H
          have A12 := Aside0.mk A120
          clear A120
          simp only [Option.some.injEq, Prod.mk.injEq] at H
          obtain ⟨rfl, rfl, rfl⟩ := H
          go_wp2_with (first | ((with_reducible refine gate_callee (f := 96) rfl ?_); refine gla_ (some 20) Try.func96 #[.int .i64 a0, .int .i64 a1] ?_; (with_reducible refine (withyref01_low.calls kj2 a0 a1 t675 t676 t677 _ A12.out).mono ?_); rintro e w13 ⟨rfl, hb⟩; refine ⟨_, rfl, ?_⟩; replace BK672 := bkb_ BK672 hb; replace HB := bws_ HB hb; (try clear hb); (try clear hb2); (try clear hk); (try clear hi); obtain ⟨hcz14_0, hcz14_1, hfz14_0, hfz14_1⟩ := bc2_ BK672))
          refine bodyPost_ret (results_ct rfl _ _ gb672 23 #[.int .i64 t675, .int .i64 t676] (0, 0) _ rfl (by refine bp_ (cs := #[.int .i64 t675, .int .i64 0]) ?_ 1; refine bp_ (cs := #[.int .i64 0, .int .i64 0]) ?_ 0; exact bk_ BK672) Try.underlying23 rfl (by kernel_rfl)) rfl ?_
          exact ⟨by first | rfl | (simp [*] <;> rfl), bw_ HB⟩
/-! ### withyref01_Neg: function 49 -/
def withyref01_Neg.f (k : Nat) (a0_0 : Int) (a0_1 : Int) : Option (Int × Int × Int) := (withyref01_Check.f k a0_0 a0_1).bind fun t680 => (if t680 = 0 then (some (wrap64 (-a0_0), a0_1, 0)) else (some (0, 0, t680)))
theorem withyref01_Neg.mono : ∀ a0 a1 k, LeO (withyref01_Neg.f k a0 a1) (withyref01_Neg.f (k + 1) a0 a1) := by
  intro a0 a1 k
  unfold withyref01_Neg.f
  repeat' first
      | (with_reducible exact withyref01_Check.mono _ _ _)
      | (with_reducible exact LeO.refl _)
      | (with_reducible exact LeO.none _)
      | (with_reducible refine LeO.ite ?_ ?_)
      | (with_reducible refine LeO.bind ?_ (fun _ => ?_))
      | (with_reducible refine LeO.exc (fun _ => ?_) (fun _ => ?_))
      | exact withyref01_Check.mono _ _ _
      | exact LeO.none _
      | refine LeO.ite ?_ ?_
      | refine LeO.bind ?_ (fun _ => ?_)
set_option maxHeartbeats 8000000 in
set_option maxRecDepth 100000 in
theorem withyref01_Neg.calls (k : Nat) (a0_0 : Int) (a0_1 : Int) (r1 : Int) (r2 : Int) (r3 : Int) (w : World) (h : withyref01_Neg.f k a0_0 a0_1 = some (r1, r2, r3)) :
    Calls Try.prog 49 #[.agg #[.int .i64 a0_0, .int .i64 a0_1]] w fun e w' => e = .returned (.tuple #[.agg #[.int .i64 r1, .int .i64 r2], .int .i64 r3]) ∧ Below w.heap.size w w' := by
  have hu23 := Try.underlying23
  have HB := Aside0.mk (Below.refl w.heap.size w)
  have H : ((withyref01_Check.f k a0_0 a0_1).bind fun t680 => (if t680 = 0 then (some (wrap64 (-a0_0), a0_1, 0)) else (some (0, 0, t680)))) = some (r1, r2, r3) := h
  clear h
  replace H := Option.bind_eq_some_iff.mp H
  obtain ⟨t680, A20, H⟩ := H
  replace H : (if t680 = 0 then (some (wrap64 (-a0_0), a0_1, 0)) else (some (0, 0, t680))) = some (r1, r2, r3) := H
  have A2 := Aside0.mk A20
  clear A20
  by_cases c3 : t680 = 0
  · rw [if_pos c3] at H
    have c3b0 : (t680 == 0) = true := beq_iff_eq.mpr c3
    have c3b1 : (t680 != 0) = false := bne_eq_false_iff_eq.mpr c3
    clear c3
    simp only [Option.some.injEq, Prod.mk.injEq] at H
    obtain ⟨rfl, rfl, rfl⟩ := H
    go_enter Try.func49, Try.ntmps49
    go_wp2_with (first | ((with_reducible refine gate_dst (N := 1) rfl ?_); refine box_event ?hg (N := 1) ?hd (cs := #[.int .i64 a0_0, .int .i64 a0_1]) (t := 23) ?hr ?_; (case hd => rfl); (case hg => rfl); (case hr => first | (go_simp; done) | (go_simp; rfl)); intro gb678 hg w4 hbox hb; have BK678 := Aside0.mk hbox; have GW678 := bwg_ HB hg; have GE678 := bwg_ HB hg; replace HB := bws_ HB hb; clear hb hbox hg) | ((with_reducible refine gate_dst (N := 2) rfl ?_); refine box_event ?hg (N := 2) ?hd (cs := #[.int .i64 0, .int .i64 0]) (t := 23) ?hr ?_; (case hd => rfl); (case hg => rfl); (case hr => first | (go_simp; done) | (go_simp; rfl)); intro gb679 hg w5 hbox hb; have BK679 := Aside0.mk hbox; have GW679 := bwg_ HB hg; have GE679 := bwg_ HB hg; replace HB := bws_ HB hb; have NB678_679 := bkl_ BK678 hg; have NB679_678 := bkr_ BK678 hg; replace BK678 := bkb_ BK678 hb; clear hb hbox hg; have hnb6 := NB678_679.out; have hnc6 := NB679_678.out; obtain ⟨hcz7_0, hcz7_1, hfz7_0, hfz7_1⟩ := bc2_ BK678) | ((with_reducible refine gate_callee (f := 41) rfl ?_); refine gla_ (some 6) Try.func41 #[.agg #[.int .i64 a0_0, .int .i64 a0_1]] ?_; (with_reducible refine (withyref01_Check.calls k a0_0 a0_1 t680 _ A2.out).mono ?_); rintro e w8 ⟨rfl, hb⟩; refine ⟨_, rfl, ?_⟩; replace BK678 := bkb_ BK678 hb; replace BK679 := bkb_ BK679 hb; replace HB := bws_ HB hb; (try clear hb); (try clear hb2); (try clear hk); (try clear hi); obtain ⟨hcz9_0, hcz9_1, hfz9_0, hfz9_1⟩ := bc2_ BK678; obtain ⟨hcz10_0, hcz10_1, hfz10_0, hfz10_1⟩ := bc2_ BK679))
    refine bodyPost_ret (results_ct rfl _ _ gb679 23 #[.int .i64 (wrap64 (-a0_0)), .int .i64 a0_1] (0, 0) _ rfl (by refine bp_ (cs := #[.int .i64 (wrap64 (-a0_0)), .int .i64 0]) ?_ 1; refine bp_ (cs := #[.int .i64 0, .int .i64 0]) ?_ 0; exact bk_ BK679) Try.underlying23 rfl (by kernel_rfl)) rfl ?_
    exact ⟨by first | rfl | (simp [*] <;> rfl), bw_ HB⟩
  · rw [if_neg c3] at H
    have c3b0 : (t680 == 0) = false := beq_eq_false_iff_ne.mpr c3
    have c3b1 : (t680 != 0) = true := bne_iff_ne.mpr c3
    simp only [Option.some.injEq, Prod.mk.injEq] at H
    obtain ⟨rfl, rfl, rfl⟩ := H
    go_enter Try.func49, Try.ntmps49
    go_wp2_with (first | ((with_reducible refine gate_dst (N := 1) rfl ?_); refine box_event ?hg (N := 1) ?hd (cs := #[.int .i64 a0_0, .int .i64 a0_1]) (t := 23) ?hr ?_; (case hd => rfl); (case hg => rfl); (case hr => first | (go_simp; done) | (go_simp; rfl)); intro gb678 hg w11 hbox hb; have BK678 := Aside0.mk hbox; have GW678 := bwg_ HB hg; have GE678 := bwg_ HB hg; replace HB := bws_ HB hb; clear hb hbox hg) | ((with_reducible refine gate_dst (N := 2) rfl ?_); refine box_event ?hg (N := 2) ?hd (cs := #[.int .i64 0, .int .i64 0]) (t := 23) ?hr ?_; (case hd => rfl); (case hg => rfl); (case hr => first | (go_simp; done) | (go_simp; rfl)); intro gb679 hg w12 hbox hb; have BK679 := Aside0.mk hbox; have GW679 := bwg_ HB hg; have GE679 := bwg_ HB hg; replace HB := bws_ HB hb; have NB678_679 := bkl_ BK678 hg; have NB679_678 := bkr_ BK678 hg; replace BK678 := bkb_ BK678 hb; clear hb hbox hg; have hnb13 := NB678_679.out; have hnc13 := NB679_678.out; obtain ⟨hcz14_0, hcz14_1, hfz14_0, hfz14_1⟩ := bc2_ BK678) | ((with_reducible refine gate_callee (f := 41) rfl ?_); refine gla_ (some 6) Try.func41 #[.agg #[.int .i64 a0_0, .int .i64 a0_1]] ?_; (with_reducible refine (withyref01_Check.calls k a0_0 a0_1 t680 _ A2.out).mono ?_); rintro e w15 ⟨rfl, hb⟩; refine ⟨_, rfl, ?_⟩; replace BK678 := bkb_ BK678 hb; replace BK679 := bkb_ BK679 hb; replace HB := bws_ HB hb; (try clear hb); (try clear hb2); (try clear hk); (try clear hi); obtain ⟨hcz16_0, hcz16_1, hfz16_0, hfz16_1⟩ := bc2_ BK679))
    refine bodyPost_ret (results_ct rfl _ _ gb679 23 #[.int .i64 0, .int .i64 0] (0, 0) _ rfl (by refine bp_ (cs := #[.int .i64 0, .int .i64 0]) ?_ 1; refine bp_ (cs := #[.int .i64 0, .int .i64 0]) ?_ 0; exact bk_ BK679) Try.underlying23 rfl (by kernel_rfl)) rfl ?_
    exact ⟨by first | rfl | (simp [*] <;> rfl), bw_ HB⟩
/-! ### withyref01_both: function 97 -/
def withyref01_both.f (k : Nat) (a0_0 : Int) (a0_1 : Int) (a1_0 : Int) (a1_1 : Int) : Option (Int) := (withyref01_Check.f k a0_0 a0_1).bind fun t683 => (if t683 = 0 then ((withyref01_Check.f k a1_0 a1_1).bind fun t684 => (some t684)) else (some t683))
theorem withyref01_both.mono : ∀ a0 a1 a2 a3 k, LeO (withyref01_both.f k a0 a1 a2 a3) (withyref01_both.f (k + 1) a0 a1 a2 a3) := by
  intro a0 a1 a2 a3 k
  unfold withyref01_both.f
  repeat' first
      | (with_reducible exact withyref01_Check.mono _ _ _)
      | (with_reducible exact LeO.refl _)
      | (with_reducible exact LeO.none _)
      | (with_reducible refine LeO.ite ?_ ?_)
      | (with_reducible refine LeO.bind ?_ (fun _ => ?_))
      | (with_reducible refine LeO.exc (fun _ => ?_) (fun _ => ?_))
      | exact withyref01_Check.mono _ _ _
      | exact LeO.none _
      | refine LeO.ite ?_ ?_
      | refine LeO.bind ?_ (fun _ => ?_)
set_option maxHeartbeats 8000000 in
set_option maxRecDepth 100000 in
theorem withyref01_both.calls (k : Nat) (a0_0 : Int) (a0_1 : Int) (a1_0 : Int) (a1_1 : Int) (r : Int) (w : World) (h : withyref01_both.f k a0_0 a0_1 a1_0 a1_1 = some r) :
    Calls Try.prog 97 #[.agg #[.int .i64 a0_0, .int .i64 a0_1], .agg #[.int .i64 a1_0, .int .i64 a1_1]] w fun e w' => e = .returned (.int .i64 r) ∧ Below w.heap.size w w' := by
  have hu23 := Try.underlying23
  have HB := Aside0.mk (Below.refl w.heap.size w)
  have H : ((withyref01_Check.f k a0_0 a0_1).bind fun t683 => (if t683 = 0 then ((withyref01_Check.f k a1_0 a1_1).bind fun t684 => (some t684)) else (some t683))) = some r := h
  clear h
  replace H := Option.bind_eq_some_iff.mp H
  obtain ⟨t683, A30, H⟩ := H
  replace H : (if t683 = 0 then ((withyref01_Check.f k a1_0 a1_1).bind fun t684 => (some t684)) else (some t683)) = some r := H
  have A3 := Aside0.mk A30
  clear A30
  by_cases c4 : t683 = 0
  · rw [if_pos c4] at H
    have c4b0 : (t683 == 0) = true := beq_iff_eq.mpr c4
    have c4b1 : (t683 != 0) = false := bne_eq_false_iff_eq.mpr c4
    clear c4
    replace H := Option.bind_eq_some_iff.mp H
    obtain ⟨t684, A50, H⟩ := H
    replace H : (some t684) = some r := H
    have A5 := Aside0.mk A50
    clear A50
    obtain rfl := Option.some.inj H
    go_enter Try.func97, Try.ntmps97
    go_wp2_with (first | ((with_reducible refine gate_dst (N := 2) rfl ?_); refine box_event ?hg (N := 2) ?hd (cs := #[.int .i64 a0_0, .int .i64 a0_1]) (t := 23) ?hr ?_; (case hd => rfl); (case hg => rfl); (case hr => first | (go_simp; done) | (go_simp; rfl)); intro gb681 hg w6 hbox hb; have BK681 := Aside0.mk hbox; have GW681 := bwg_ HB hg; have GE681 := bwg_ HB hg; replace HB := bws_ HB hb; clear hb hbox hg) | ((with_reducible refine gate_dst (N := 3) rfl ?_); refine box_event ?hg (N := 3) ?hd (cs := #[.int .i64 a1_0, .int .i64 a1_1]) (t := 23) ?hr ?_; (case hd => rfl); (case hg => rfl); (case hr => first | (go_simp; done) | (go_simp; rfl)); intro gb682 hg w7 hbox hb; have BK682 := Aside0.mk hbox; have GW682 := bwg_ HB hg; have GE682 := bwg_ HB hg; replace HB := bws_ HB hb; have NB681_682 := bkl_ BK681 hg; have NB682_681 := bkr_ BK681 hg; replace BK681 := bkb_ BK681 hb; clear hb hbox hg; have hnb8 := NB681_682.out; have hnc8 := NB682_681.out; obtain ⟨hcz9_0, hcz9_1, hfz9_0, hfz9_1⟩ := bc2_ BK681) | ((with_reducible refine gate_callee (f := 41) rfl ?_); refine gla_ (some 7) Try.func41 #[.agg #[.int .i64 a0_0, .int .i64 a0_1]] ?_; (with_reducible refine (withyref01_Check.calls k a0_0 a0_1 t683 _ A3.out).mono ?_); rintro e w10 ⟨rfl, hb⟩; refine ⟨_, rfl, ?_⟩; replace BK681 := bkb_ BK681 hb; replace BK682 := bkb_ BK682 hb; replace HB := bws_ HB hb; (try clear hb); (try clear hb2); (try clear hk); (try clear hi); obtain ⟨hcz11_0, hcz11_1, hfz11_0, hfz11_1⟩ := bc2_ BK682) | ((with_reducible refine gate_callee (f := 41) rfl ?_); refine gla_ (some 12) Try.func41 #[.agg #[.int .i64 a1_0, .int .i64 a1_1]] ?_; (with_reducible refine (withyref01_Check.calls k a1_0 a1_1 t684 _ A5.out).mono ?_); rintro e w12 ⟨rfl, hb⟩; refine ⟨_, rfl, ?_⟩; replace BK681 := bkb_ BK681 hb; replace BK682 := bkb_ BK682 hb; replace HB := bws_ HB hb; (try clear hb); (try clear hb2); (try clear hk); (try clear hi)))
    go_ret
    exact ⟨by first | rfl | (simp [*] <;> rfl), bw_ HB⟩
  · rw [if_neg c4] at H
    have c4b0 : (t683 == 0) = false := beq_eq_false_iff_ne.mpr c4
    have c4b1 : (t683 != 0) = true := bne_iff_ne.mpr c4
    obtain rfl := Option.some.inj H
    go_enter Try.func97, Try.ntmps97
    go_wp2_with (first | ((with_reducible refine gate_dst (N := 2) rfl ?_); refine box_event ?hg (N := 2) ?hd (cs := #[.int .i64 a0_0, .int .i64 a0_1]) (t := 23) ?hr ?_; (case hd => rfl); (case hg => rfl); (case hr => first | (go_simp; done) | (go_simp; rfl)); intro gb681 hg w13 hbox hb; have BK681 := Aside0.mk hbox; have GW681 := bwg_ HB hg; have GE681 := bwg_ HB hg; replace HB := bws_ HB hb; clear hb hbox hg) | ((with_reducible refine gate_dst (N := 3) rfl ?_); refine box_event ?hg (N := 3) ?hd (cs := #[.int .i64 a1_0, .int .i64 a1_1]) (t := 23) ?hr ?_; (case hd => rfl); (case hg => rfl); (case hr => first | (go_simp; done) | (go_simp; rfl)); intro gb682 hg w14 hbox hb; have BK682 := Aside0.mk hbox; have GW682 := bwg_ HB hg; have GE682 := bwg_ HB hg; replace HB := bws_ HB hb; have NB681_682 := bkl_ BK681 hg; have NB682_681 := bkr_ BK681 hg; replace BK681 := bkb_ BK681 hb; clear hb hbox hg; have hnb15 := NB681_682.out; have hnc15 := NB682_681.out; obtain ⟨hcz16_0, hcz16_1, hfz16_0, hfz16_1⟩ := bc2_ BK681) | ((with_reducible refine gate_callee (f := 41) rfl ?_); refine gla_ (some 7) Try.func41 #[.agg #[.int .i64 a0_0, .int .i64 a0_1]] ?_; (with_reducible refine (withyref01_Check.calls k a0_0 a0_1 t683 _ A3.out).mono ?_); rintro e w17 ⟨rfl, hb⟩; refine ⟨_, rfl, ?_⟩; replace BK681 := bkb_ BK681 hb; replace BK682 := bkb_ BK682 hb; replace HB := bws_ HB hb; (try clear hb); (try clear hb2); (try clear hk); (try clear hi)))
    go_ret
    exact ⟨by first | rfl | (simp [*] <;> rfl), bw_ HB⟩
/-! ### withyref01_Less: function 98 -/
def withyref01_Less.f (a0_0 : Int) (a0_1 : Int) (a1_0 : Int) (a1_1 : Int) : Option (Bool) := some (decide ((wrap64 (a0_0 * a1_1)) < (wrap64 (a1_0 * a0_1))))
set_option maxHeartbeats 8000000 in
set_option maxRecDepth 100000 in
theorem withyref01_Less.calls (a0_0 : Int) (a0_1 : Int) (a1_0 : Int) (a1_1 : Int) (r : Bool) (w : World) (h : withyref01_Less.f a0_0 a0_1 a1_0 a1_1 = some r) :
    Calls Try.prog 98 #[.agg #[.int .i64 a0_0, .int .i64 a0_1], .agg #[.int .i64 a1_0, .int .i64 a1_1]] w fun e w' => e = .returned (.bool r) ∧ Below w.heap.size w w' := by
  have hu23 := Try.underlying23
  have HB := Aside0.mk (Below.refl w.heap.size w)
  have H : (some (decide ((wrap64 (a0_0 * a1_1)) < (wrap64 (a1_0 * a0_1))))) = some r := h
  clear h
  obtain rfl := Option.some.inj H
  go_enter Try.func98, Try.ntmps98
  go_wp2_with (first | ((with_reducible refine gate_dst (N := 2) rfl ?_); refine box_event ?hg (N := 2) ?hd (cs := #[.int .i64 a0_0, .int .i64 a0_1]) (t := 23) ?hr ?_; (case hd => rfl); (case hg => rfl); (case hr => first | (go_simp; done) | (go_simp; rfl)); intro gb685 hg w3 hbox hb; have BK685 := Aside0.mk hbox; have GW685 := bwg_ HB hg; have GE685 := bwg_ HB hg; replace HB := bws_ HB hb; clear hb hbox hg) | ((with_reducible refine gate_dst (N := 3) rfl ?_); refine box_event ?hg (N := 3) ?hd (cs := #[.int .i64 a1_0, .int .i64 a1_1]) (t := 23) ?hr ?_; (case hd => rfl); (case hg => rfl); (case hr => first | (go_simp; done) | (go_simp; rfl)); intro gb686 hg w4 hbox hb; have BK686 := Aside0.mk hbox; have GW686 := bwg_ HB hg; have GE686 := bwg_ HB hg; replace HB := bws_ HB hb; have NB685_686 := bkl_ BK685 hg; have NB686_685 := bkr_ BK685 hg; replace BK685 := bkb_ BK685 hb; clear hb hbox hg; have hnb5 := NB685_686.out; have hnc5 := NB686_685.out; obtain ⟨hcz6_0, hcz6_1, hfz6_0, hfz6_1⟩ := bc2_ BK685; obtain ⟨hcz7_0, hcz7_1, hfz7_0, hfz7_1⟩ := bc2_ BK686))
  go_ret
  exact ⟨by first | rfl | (simp [*] <;> rfl), bw_ HB⟩
/-! ### withyref01_Cmp: function 50 -/
def withyref01_Cmp.f (k : Nat) (a0_0 : Int) (a0_1 : Int) (a1_0 : Int) (a1_1 : Int) : Option (Int × Int) := (withyref01_both.f k a0_0 a0_1 a1_0 a1_1).bind fun t689 => (if t689 = 0 then ((withyref01_Less.f a0_0 a0_1 a1_0 a1_1).bind fun t690 => (if t690 = true then (some ((-1), 0)) else ((withyref01_Less.f a1_0 a1_1 a0_0 a0_1).bind fun t691 => (if t691 = true then (some (1, 0)) else (some (0, 0)))))) else (some (0, t689)))
theorem withyref01_Cmp.mono : ∀ a0 a1 a2 a3 k, LeO (withyref01_Cmp.f k a0 a1 a2 a3) (withyref01_Cmp.f (k + 1) a0 a1 a2 a3) := by
  intro a0 a1 a2 a3 k
  unfold withyref01_Cmp.f
  repeat' first
      | (with_reducible exact withyref01_both.mono _ _ _ _ _)
      | (with_reducible exact LeO.refl _)
      | (with_reducible exact LeO.none _)
      | (with_reducible refine LeO.ite ?_ ?_)
      | (with_reducible refine LeO.bind ?_ (fun _ => ?_))
      | (with_reducible refine LeO.exc (fun _ => ?_) (fun _ => ?_))
      | exact withyref01_both.mono _ _ _ _ _
      | exact LeO.none _
      | refine LeO.ite ?_ ?_
      | refine LeO.bind ?_ (fun _ => ?_)
set_option maxHeartbeats 8000000 in
set_option maxRecDepth 100000 in
theorem withyref01_Cmp.calls (k : Nat) (a0_0 : Int) (a0_1 : Int) (a1_0 : Int) (a1_1 : Int) (r1 : Int) (r2 : Int) (w : World) (h : withyref01_Cmp.f k a0_0 a0_1 a1_0 a1_1 = some (r1, r2)) :
    Calls Try.prog 50 #[.agg #[.int .i64 a0_0, .int .i64 a0_1], .agg #[.int .i64 a1_0, .int .i64 a1_1]] w fun e w' => e = .returned (.tuple #[.int .i64 r1, .int .i64 r2]) ∧ Below w.heap.size w w' := by
  have hu23 := Try.underlying23
  have HB := Aside0.mk (Below.refl w.heap.size w)
  have H : ((withyref01_both.f k a0_0 a0_1 a1_0 a1_1).bind fun t689 => (if t689 = 0 then ((withyref01_Less.f a0_0 a0_1 a1_0 a1_1).bind fun t690 => (if t690 = true then (some ((-1), 0)) else ((withyref01_Less.f a1_0 a1_1 a0_0 a0_1).bind fun t691 => (if t691 = true then (some (1, 0)) else (some (0, 0)))))) else (some (0, t689)))) = some (r1, r2) := h
  clear h
  replace H := Option.bind_eq_some_iff.mp H
  obtain ⟨t689, A30, H⟩ := H
  replace H : (if t689 = 0 then ((withyref01_Less.f a0_0 a0_1 a1_0 a1_1).bind fun t690 => (if t690 = true then (some ((-1), 0)) else ((withyref01_Less.f a1_0 a1_1 a0_0 a0_1).bind fun t691 => (if t691 = true then (some (1, 0)) else (some (0, 0)))))) else (some (0, t689))) = some (r1, r2) := H
  have A3 := Aside0.mk A30
  clear A30
  by_cases c4 : t689 = 0
  · rw [if_pos c4] at H
    have c4b0 : (t689 == 0) = true := beq_iff_eq.mpr c4
    have c4b1 : (t689 != 0) = false := bne_eq_false_iff_eq.mpr c4
    clear c4
    replace H := Option.bind_eq_some_iff.mp H
    obtain ⟨t690, A50, H⟩ := H
    replace H : (if t690 = true then (some ((-1), 0)) else ((withyref01_Less.f a1_0 a1_1 a0_0 a0_1).bind fun t691 => (if t691 = true then (some (1, 0)) else (some (0, 0))))) = some (r1, r2) := H
    have A5 := Aside0.mk A50
    clear A50
    by_cases c6 : t690 = true
    · subst c6
      have H1 : (some ((-1), 0)) = some (r1, r2) := by rw [if_pos rfl] at H; exact H
      clear H
      have H := H1
      clear H1
      simp only [Option.some.injEq, Prod.mk.injEq] at H
      obtain ⟨rfl, rfl⟩ := H
      go_enter Try.func50, Try.ntmps50
      go_wp2_with (first | ((with_reducible refine gate_dst (N := 2) rfl ?_); refine box_event ?hg (N := 2) ?hd (cs := #[.int .i64 a0_0, .int .i64 a0_1]) (t := 23) ?hr ?_; (case hd => rfl); (case hg => rfl); (case hr => first | (go_simp; done) | (go_simp; rfl)); intro gb687 hg w7 hbox hb; have BK687 := Aside0.mk hbox; have GW687 := bwg_ HB hg; have GE687 := bwg_ HB hg; replace HB := bws_ HB hb; clear hb hbox hg) | ((with_reducible refine gate_dst (N := 3) rfl ?_); refine box_event ?hg (N := 3) ?hd (cs := #[.int .i64 a1_0, .int .i64 a1_1]) (t := 23) ?hr ?_; (case hd => rfl); (case hg => rfl); (case hr => first | (go_simp; done) | (go_simp; rfl)); intro gb688 hg w8 hbox hb; have BK688 := Aside0.mk hbox; have GW688 := bwg_ HB hg; have GE688 := bwg_ HB hg; replace HB := bws_ HB hb; have NB687_688 := bkl_ BK687 hg; have NB688_687 := bkr_ BK687 hg; replace BK687 := bkb_ BK687 hb; clear hb hbox hg; have hnb9 := NB687_688.out; have hnc9 := NB688_687.out; obtain ⟨hcz10_0, hcz10_1, hfz10_0, hfz10_1⟩ := bc2_ BK687; obtain ⟨hcz11_0, hcz11_1, hfz11_0, hfz11_1⟩ := bc2_ BK688) | ((with_reducible refine gate_callee (f := 97) rfl ?_); refine gla_ (some 9) Try.func97 #[.agg #[.int .i64 a0_0, .int .i64 a0_1], .agg #[.int .i64 a1_0, .int .i64 a1_1]] ?_; (with_reducible refine (withyref01_both.calls k a0_0 a0_1 a1_0 a1_1 t689 _ A3.out).mono ?_); rintro e w12 ⟨rfl, hb⟩; refine ⟨_, rfl, ?_⟩; replace BK687 := bkb_ BK687 hb; replace BK688 := bkb_ BK688 hb; replace HB := bws_ HB hb; (try clear hb); (try clear hb2); (try clear hk); (try clear hi); obtain ⟨hcz13_0, hcz13_1, hfz13_0, hfz13_1⟩ := bc2_ BK687; obtain ⟨hcz14_0, hcz14_1, hfz14_0, hfz14_1⟩ := bc2_ BK688) | ((with_reducible refine gate_callee (f := 98) rfl ?_); refine gla_ (some 15) Try.func98 #[.agg #[.int .i64 a0_0, .int .i64 a0_1], .agg #[.int .i64 a1_0, .int .i64 a1_1]] ?_; (with_reducible refine (withyref01_Less.calls a0_0 a0_1 a1_0 a1_1 true _ A5.out).mono ?_); rintro e w15 ⟨rfl, hb⟩; refine ⟨_, rfl, ?_⟩; replace BK687 := bkb_ BK687 hb; replace BK688 := bkb_ BK688 hb; replace HB := bws_ HB hb; (try clear hb); (try clear hb2); (try clear hk); (try clear hi)))
      go_ret2
      exact ⟨by first | rfl | (simp [*] <;> rfl), bw_ HB⟩
    · replace c6 := Bool.eq_false_iff.mpr c6
      subst c6
      have H1 : ((withyref01_Less.f a1_0 a1_1 a0_0 a0_1).bind fun t691 => (if t691 = true then (some (1, 0)) else (some (0, 0)))) = some (r1, r2) := by rw [if_neg (show ¬ (false = true) by decide)] at H; exact H
      clear H
      have H := H1
      clear H1
      replace H := Option.bind_eq_some_iff.mp H
      obtain ⟨t691, A160, H⟩ := H
      replace H : (if t691 = true then (some (1, 0)) else (some (0, 0))) = some (r1, r2) := H
      have A16 := Aside0.mk A160
      clear A160
      by_cases c17 : t691 = true
      · subst c17
        have H1 : (some (1, 0)) = some (r1, r2) := by rw [if_pos rfl] at H; exact H
        clear H
        have H := H1
        clear H1
        simp only [Option.some.injEq, Prod.mk.injEq] at H
        obtain ⟨rfl, rfl⟩ := H
        go_enter Try.func50, Try.ntmps50
        go_wp2_with (first | ((with_reducible refine gate_dst (N := 2) rfl ?_); refine box_event ?hg (N := 2) ?hd (cs := #[.int .i64 a0_0, .int .i64 a0_1]) (t := 23) ?hr ?_; (case hd => rfl); (case hg => rfl); (case hr => first | (go_simp; done) | (go_simp; rfl)); intro gb687 hg w18 hbox hb; have BK687 := Aside0.mk hbox; have GW687 := bwg_ HB hg; have GE687 := bwg_ HB hg; replace HB := bws_ HB hb; clear hb hbox hg) | ((with_reducible refine gate_dst (N := 3) rfl ?_); refine box_event ?hg (N := 3) ?hd (cs := #[.int .i64 a1_0, .int .i64 a1_1]) (t := 23) ?hr ?_; (case hd => rfl); (case hg => rfl); (case hr => first | (go_simp; done) | (go_simp; rfl)); intro gb688 hg w19 hbox hb; have BK688 := Aside0.mk hbox; have GW688 := bwg_ HB hg; have GE688 := bwg_ HB hg; replace HB := bws_ HB hb; have NB687_688 := bkl_ BK687 hg; have NB688_687 := bkr_ BK687 hg; replace BK687 := bkb_ BK687 hb; clear hb hbox hg; have hnb20 := NB687_688.out; have hnc20 := NB688_687.out; obtain ⟨hcz21_0, hcz21_1, hfz21_0, hfz21_1⟩ := bc2_ BK687; obtain ⟨hcz22_0, hcz22_1, hfz22_0, hfz22_1⟩ := bc2_ BK688) | ((with_reducible refine gate_callee (f := 97) rfl ?_); refine gla_ (some 9) Try.func97 #[.agg #[.int .i64 a0_0, .int .i64 a0_1], .agg #[.int .i64 a1_0, .int .i64 a1_1]] ?_; (with_reducible refine (withyref01_both.calls k a0_0 a0_1 a1_0 a1_1 t689 _ A3.out).mono ?_); rintro e w23 ⟨rfl, hb⟩; refine ⟨_, rfl, ?_⟩; replace BK687 := bkb_ BK687 hb; replace BK688 := bkb_ BK688 hb; replace HB := bws_ HB hb; (try clear hb); (try clear hb2); (try clear hk); (try clear hi); obtain ⟨hcz24_0, hcz24_1, hfz24_0, hfz24_1⟩ := bc2_ BK687; obtain ⟨hcz25_0, hcz25_1, hfz25_0, hfz25_1⟩ := bc2_ BK688) | ((with_reducible refine gate_callee (f := 98) rfl ?_); refine gla_ (some 15) Try.func98 #[.agg #[.int .i64 a0_0, .int .i64 a0_1], .agg #[.int .i64 a1_0, .int .i64 a1_1]] ?_; (with_reducible refine (withyref01_Less.calls a0_0 a0_1 a1_0 a1_1 false _ A5.out).mono ?_); rintro e w26 ⟨rfl, hb⟩; refine ⟨_, rfl, ?_⟩; replace BK687 := bkb_ BK687 hb; replace BK688 := bkb_ BK688 hb; replace HB := bws_ HB hb; (try clear hb); (try clear hb2); (try clear hk); (try clear hi); obtain ⟨hcz27_0, hcz27_1, hfz27_0, hfz27_1⟩ := bc2_ BK688; obtain ⟨hcz28_0, hcz28_1, hfz28_0, hfz28_1⟩ := bc2_ BK687) | ((with_reducible refine gate_callee (f := 98) rfl ?_); refine gla_ (some 18) Try.func98 #[.agg #[.int .i64 a1_0, .int .i64 a1_1], .agg #[.int .i64 a0_0, .int .i64 a0_1]] ?_; (with_reducible refine (withyref01_Less.calls a1_0 a1_1 a0_0 a0_1 true _ A16.out).mono ?_); rintro e w29 ⟨rfl, hb⟩; refine ⟨_, rfl, ?_⟩; replace BK687 := bkb_ BK687 hb; replace BK688 := bkb_ BK688 hb; replace HB := bws_ HB hb; (try clear hb); (try clear hb2); (try clear hk); (try clear hi)))
        go_ret2
        exact ⟨by first | rfl | (simp [*] <;> rfl), bw_ HB⟩
      · replace c17 := Bool.eq_false_iff.mpr c17
        subst c17
        have H1 : (some (0, 0)) = some (r1, r2) := by rw [if_neg (show ¬ (false = true) by decide)] at H; exact H
        clear H
        have H := H1
        clear H1
        simp only [Option.some.injEq, Prod.mk.injEq] at H
        obtain ⟨rfl, rfl⟩ := H
        go_enter Try.func50, Try.ntmps50
        go_wp2_with (first | ((with_reducible refine gate_dst (N := 2) rfl ?_); refine box_event ?hg (N := 2) ?hd (cs := #[.int .i64 a0_0, .int .i64 a0_1]) (t := 23) ?hr ?_; (case hd => rfl); (case hg => rfl); (case hr => first | (go_simp; done) | (go_simp; rfl)); intro gb687 hg w30 hbox hb; have BK687 := Aside0.mk hbox; have GW687 := bwg_ HB hg; have GE687 := bwg_ HB hg; replace HB := bws_ HB hb; clear hb hbox hg) | ((with_reducible refine gate_dst (N := 3) rfl ?_); refine box_event ?hg (N := 3) ?hd (cs := #[.int .i64 a1_0, .int .i64 a1_1]) (t := 23) ?hr ?_; (case hd => rfl); (case hg => rfl); (case hr => first | (go_simp; done) | (go_simp; rfl)); intro gb688 hg w31 hbox hb; have BK688 := Aside0.mk hbox; have GW688 := bwg_ HB hg; have GE688 := bwg_ HB hg; replace HB := bws_ HB hb; have NB687_688 := bkl_ BK687 hg; have NB688_687 := bkr_ BK687 hg; replace BK687 := bkb_ BK687 hb; clear hb hbox hg; have hnb32 := NB687_688.out; have hnc32 := NB688_687.out; obtain ⟨hcz33_0, hcz33_1, hfz33_0, hfz33_1⟩ := bc2_ BK687; obtain ⟨hcz34_0, hcz34_1, hfz34_0, hfz34_1⟩ := bc2_ BK688) | ((with_reducible refine gate_callee (f := 97) rfl ?_); refine gla_ (some 9) Try.func97 #[.agg #[.int .i64 a0_0, .int .i64 a0_1], .agg #[.int .i64 a1_0, .int .i64 a1_1]] ?_; (with_reducible refine (withyref01_both.calls k a0_0 a0_1 a1_0 a1_1 t689 _ A3.out).mono ?_); rintro e w35 ⟨rfl, hb⟩; refine ⟨_, rfl, ?_⟩; replace BK687 := bkb_ BK687 hb; replace BK688 := bkb_ BK688 hb; replace HB := bws_ HB hb; (try clear hb); (try clear hb2); (try clear hk); (try clear hi); obtain ⟨hcz36_0, hcz36_1, hfz36_0, hfz36_1⟩ := bc2_ BK687; obtain ⟨hcz37_0, hcz37_1, hfz37_0, hfz37_1⟩ := bc2_ BK688) | ((with_reducible refine gate_callee (f := 98) rfl ?_); refine gla_ (some 15) Try.func98 #[.agg #[.int .i64 a0_0, .int .i64 a0_1], .agg #[.int .i64 a1_0, .int .i64 a1_1]] ?_; (with_reducible refine (withyref01_Less.calls a0_0 a0_1 a1_0 a1_1 false _ A5.out).mono ?_); rintro e w38 ⟨rfl, hb⟩; refine ⟨_, rfl, ?_⟩; replace BK687 := bkb_ BK687 hb; replace BK688 := bkb_ BK688 hb; replace HB := bws_ HB hb; (try clear hb); (try clear hb2); (try clear hk); (try clear hi); obtain ⟨hcz39_0, hcz39_1, hfz39_0, hfz39_1⟩ := bc2_ BK688; obtain ⟨hcz40_0, hcz40_1, hfz40_0, hfz40_1⟩ := bc2_ BK687) | ((with_reducible refine gate_callee (f := 98) rfl ?_); refine gla_ (some 18) Try.func98 #[.agg #[.int .i64 a1_0, .int .i64 a1_1], .agg #[.int .i64 a0_0, .int .i64 a0_1]] ?_; (with_reducible refine (withyref01_Less.calls a1_0 a1_1 a0_0 a0_1 false _ A16.out).mono ?_); rintro e w41 ⟨rfl, hb⟩; refine ⟨_, rfl, ?_⟩; replace BK687 := bkb_ BK687 hb; replace BK688 := bkb_ BK688 hb; replace HB := bws_ HB hb; (try clear hb); (try clear hb2); (try clear hk); (try clear hi)))
        go_ret2
        exact ⟨by first | rfl | (simp [*] <;> rfl), bw_ HB⟩
  · rw [if_neg c4] at H
    have c4b0 : (t689 == 0) = false := beq_eq_false_iff_ne.mpr c4
    have c4b1 : (t689 != 0) = true := bne_iff_ne.mpr c4
    simp only [Option.some.injEq, Prod.mk.injEq] at H
    obtain ⟨rfl, rfl⟩ := H
    go_enter Try.func50, Try.ntmps50
    go_wp2_with (first | ((with_reducible refine gate_dst (N := 2) rfl ?_); refine box_event ?hg (N := 2) ?hd (cs := #[.int .i64 a0_0, .int .i64 a0_1]) (t := 23) ?hr ?_; (case hd => rfl); (case hg => rfl); (case hr => first | (go_simp; done) | (go_simp; rfl)); intro gb687 hg w42 hbox hb; have BK687 := Aside0.mk hbox; have GW687 := bwg_ HB hg; have GE687 := bwg_ HB hg; replace HB := bws_ HB hb; clear hb hbox hg) | ((with_reducible refine gate_dst (N := 3) rfl ?_); refine box_event ?hg (N := 3) ?hd (cs := #[.int .i64 a1_0, .int .i64 a1_1]) (t := 23) ?hr ?_; (case hd => rfl); (case hg => rfl); (case hr => first | (go_simp; done) | (go_simp; rfl)); intro gb688 hg w43 hbox hb; have BK688 := Aside0.mk hbox; have GW688 := bwg_ HB hg; have GE688 := bwg_ HB hg; replace HB := bws_ HB hb; have NB687_688 := bkl_ BK687 hg; have NB688_687 := bkr_ BK687 hg; replace BK687 := bkb_ BK687 hb; clear hb hbox hg; have hnb44 := NB687_688.out; have hnc44 := NB688_687.out; obtain ⟨hcz45_0, hcz45_1, hfz45_0, hfz45_1⟩ := bc2_ BK687; obtain ⟨hcz46_0, hcz46_1, hfz46_0, hfz46_1⟩ := bc2_ BK688) | ((with_reducible refine gate_callee (f := 97) rfl ?_); refine gla_ (some 9) Try.func97 #[.agg #[.int .i64 a0_0, .int .i64 a0_1], .agg #[.int .i64 a1_0, .int .i64 a1_1]] ?_; (with_reducible refine (withyref01_both.calls k a0_0 a0_1 a1_0 a1_1 t689 _ A3.out).mono ?_); rintro e w47 ⟨rfl, hb⟩; refine ⟨_, rfl, ?_⟩; replace BK687 := bkb_ BK687 hb; replace BK688 := bkb_ BK688 hb; replace HB := bws_ HB hb; (try clear hb); (try clear hb2); (try clear hk); (try clear hi)))
    go_ret2
    exact ⟨by first | rfl | (simp [*] <;> rfl), bw_ HB⟩
/-! ### withyref01_Whole: function 51 -/
def withyref01_Whole.f (k : Nat) (a0_0 : Int) (a0_1 : Int) : Option (Bool × Int) := (withyref01_Check.f k a0_0 a0_1).bind fun t693 => (if t693 = 0 then (some ((a0_1 == 1), 0)) else (some (false, t693)))
theorem withyref01_Whole.mono : ∀ a0 a1 k, LeO (withyref01_Whole.f k a0 a1) (withyref01_Whole.f (k + 1) a0 a1) := by
  intro a0 a1 k
  unfold withyref01_Whole.f
  repeat' first
      | (with_reducible exact withyref01_Check.mono _ _ _)
      | (with_reducible exact LeO.refl _)
      | (with_reducible exact LeO.none _)
      | (with_reducible refine LeO.ite ?_ ?_)
      | (with_reducible refine LeO.bind ?_ (fun _ => ?_))
      | (with_reducible refine LeO.exc (fun _ => ?_) (fun _ => ?_))
      | exact withyref01_Check.mono _ _ _
      | exact LeO.none _
      | refine LeO.ite ?_ ?_
      | refine LeO.bind ?_ (fun _ => ?_)
set_option maxHeartbeats 8000000 in
set_option maxRecDepth 100000 in
theorem withyref01_Whole.calls (k : Nat) (a0_0 : Int) (a0_1 : Int) (r1 : Bool) (r2 : Int) (w : World) (h : withyref01_Whole.f k a0_0 a0_1 = some (r1, r2)) :
    Calls Try.prog 51 #[.agg #[.int .i64 a0_0, .int .i64 a0_1]] w fun e w' => e = .returned (.tuple #[.bool r1, .int .i64 r2]) ∧ Below w.heap.size w w' := by
  have hu23 := Try.underlying23
  have HB := Aside0.mk (Below.refl w.heap.size w)
  have H : ((withyref01_Check.f k a0_0 a0_1).bind fun t693 => (if t693 = 0 then (some ((a0_1 == 1), 0)) else (some (false, t693)))) = some (r1, r2) := h
  clear h
  replace H := Option.bind_eq_some_iff.mp H
  obtain ⟨t693, A20, H⟩ := H
  replace H : (if t693 = 0 then (some ((a0_1 == 1), 0)) else (some (false, t693))) = some (r1, r2) := H
  have A2 := Aside0.mk A20
  clear A20
  by_cases c3 : t693 = 0
  · rw [if_pos c3] at H
    have c3b0 : (t693 == 0) = true := beq_iff_eq.mpr c3
    have c3b1 : (t693 != 0) = false := bne_eq_false_iff_eq.mpr c3
    clear c3
    simp only [Option.some.injEq, Prod.mk.injEq] at H
    obtain ⟨rfl, rfl⟩ := H
    go_enter Try.func51, Try.ntmps51
    go_wp2_with (first | ((with_reducible refine gate_dst (N := 1) rfl ?_); refine box_event ?hg (N := 1) ?hd (cs := #[.int .i64 a0_0, .int .i64 a0_1]) (t := 23) ?hr ?_; (case hd => rfl); (case hg => rfl); (case hr => first | (go_simp; done) | (go_simp; rfl)); intro gb692 hg w4 hbox hb; have BK692 := Aside0.mk hbox; have GW692 := bwg_ HB hg; have GE692 := bwg_ HB hg; replace HB := bws_ HB hb; clear hb hbox hg; obtain ⟨hcz5_0, hcz5_1, hfz5_0, hfz5_1⟩ := bc2_ BK692) | ((with_reducible refine gate_callee (f := 41) rfl ?_); refine gla_ (some 6) Try.func41 #[.agg #[.int .i64 a0_0, .int .i64 a0_1]] ?_; (with_reducible refine (withyref01_Check.calls k a0_0 a0_1 t693 _ A2.out).mono ?_); rintro e w6 ⟨rfl, hb⟩; refine ⟨_, rfl, ?_⟩; replace BK692 := bkb_ BK692 hb; replace HB := bws_ HB hb; (try clear hb); (try clear hb2); (try clear hk); (try clear hi); obtain ⟨hcz7_0, hcz7_1, hfz7_0, hfz7_1⟩ := bc2_ BK692))
    go_ret2
    exact ⟨by first | rfl | (simp [*] <;> rfl), bw_ HB⟩
  · rw [if_neg c3] at H
    have c3b0 : (t693 == 0) = false := beq_eq_false_iff_ne.mpr c3
    have c3b1 : (t693 != 0) = true := bne_iff_ne.mpr c3
    simp only [Option.some.injEq, Prod.mk.injEq] at H
    obtain ⟨rfl, rfl⟩ := H
    go_enter Try.func51, Try.ntmps51
    go_wp2_with (first | ((with_reducible refine gate_dst (N := 1) rfl ?_); refine box_event ?hg (N := 1) ?hd (cs := #[.int .i64 a0_0, .int .i64 a0_1]) (t := 23) ?hr ?_; (case hd => rfl); (case hg => rfl); (case hr => first | (go_simp; done) | (go_simp; rfl)); intro gb692 hg w8 hbox hb; have BK692 := Aside0.mk hbox; have GW692 := bwg_ HB hg; have GE692 := bwg_ HB hg; replace HB := bws_ HB hb; clear hb hbox hg; obtain ⟨hcz9_0, hcz9_1, hfz9_0, hfz9_1⟩ := bc2_ BK692) | ((with_reducible refine gate_callee (f := 41) rfl ?_); refine gla_ (some 6) Try.func41 #[.agg #[.int .i64 a0_0, .int .i64 a0_1]] ?_; (with_reducible refine (withyref01_Check.calls k a0_0 a0_1 t693 _ A2.out).mono ?_); rintro e w10 ⟨rfl, hb⟩; refine ⟨_, rfl, ?_⟩; replace BK692 := bkb_ BK692 hb; replace HB := bws_ HB hb; (try clear hb); (try clear hb2); (try clear hk); (try clear hi)))
    go_ret2
    exact ⟨by first | rfl | (simp [*] <;> rfl), bw_ HB⟩
/-! ### withyref01_Add: function 52 -/
def withyref01_Add.f (k : Nat) (a0_0 : Int) (a0_1 : Int) (a1_0 : Int) (a1_1 : Int) : Option (Int × Int × Int) := (withyref01_both.f k a0_0 a0_1 a1_0 a1_1).bind fun t726 => (if t726 = 0 then ((withyref01_low.f k (wrap64 ((wrap64 (a0_0 * a1_1)) + (wrap64 (a1_0 * a0_1)))) (wrap64 (a0_1 * a1_1))).bind fun bt727 => (some (bt727.1, bt727.2.1, bt727.2.2))) else (some (0, 0, t726)))
theorem withyref01_Add.mono : ∀ a0 a1 a2 a3 k, LeO (withyref01_Add.f k a0 a1 a2 a3) (withyref01_Add.f (k + 1) a0 a1 a2 a3) := by
  intro a0 a1 a2 a3 k
  unfold withyref01_Add.f
  repeat' first
      | (with_reducible exact withyref01_both.mono _ _ _ _ _)
      | (with_reducible exact withyref01_low.mono _ _ _)
      | (with_reducible exact LeO.refl _)
      | (with_reducible exact LeO.none _)
      | (with_reducible refine LeO.ite ?_ ?_)
      | (with_reducible refine LeO.bind ?_ (fun _ => ?_))
      | (with_reducible refine LeO.exc (fun _ => ?_) (fun _ => ?_))
      | exact withyref01_both.mono _ _ _ _ _
      | exact withyref01_low.mono _ _ _
      | exact LeO.none _
      | refine LeO.ite ?_ ?_
      | refine LeO.bind ?_ (fun _ => ?_)
set_option maxHeartbeats 8000000 in
set_option maxRecDepth 100000 in
theorem withyref01_Add.calls (k : Nat) (a0_0 : Int) (a0_1 : Int) (a1_0 : Int) (a1_1 : Int) (r1 : Int) (r2 : Int) (r3 : Int) (w : World) (h : withyref01_Add.f k a0_0 a0_1 a1_0 a1_1 = some (r1, r2, r3)) :
    Calls Try.prog 52 #[.agg #[.int .i64 a0_0, .int .i64 a0_1], .agg #[.int .i64 a1_0, .int .i64 a1_1]] w fun e w' => e = .returned (.tuple #[.agg #[.int .i64 r1, .int .i64 r2], .int .i64 r3]) ∧ Below w.heap.size w w' := by
  have hu23 := Try.underlying23
  have HB := Aside0.mk (Below.refl w.heap.size w)
  have H : ((withyref01_both.f k a0_0 a0_1 a1_0 a1_1).bind fun t726 => (if t726 = 0 then ((withyref01_low.f k (wrap64 ((wrap64 (a0_0 * a1_1)) + (wrap64 (a1_0 * a0_1)))) (wrap64 (a0_1 * a1_1))).bind fun bt727 => (some (bt727.1, bt727.2.1, bt727.2.2))) else (some (0, 0, t726)))) = some (r1, r2, r3) := h
  clear h
  replace H := Option.bind_eq_some_iff.mp H
  obtain ⟨t726, A30, H⟩ := H
  replace H : (if t726 = 0 then ((withyref01_low.f k (wrap64 ((wrap64 (a0_0 * a1_1)) + (wrap64 (a1_0 * a0_1)))) (wrap64 (a0_1 * a1_1))).bind fun bt727 => (some (bt727.1, bt727.2.1, bt727.2.2))) else (some (0, 0, t726))) = some (r1, r2, r3) := H
  have A3 := Aside0.mk A30
  clear A30
  by_cases c4 : t726 = 0
  · rw [if_pos c4] at H
    have c4b0 : (t726 == 0) = true := beq_iff_eq.mpr c4
    have c4b1 : (t726 != 0) = false := bne_eq_false_iff_eq.mpr c4
    clear c4
    replace H := Option.bind_eq_some_iff.mp H
    obtain ⟨⟨t727, t728, t729⟩, A50, H⟩ := H
    replace H : (some (t727, t728, t729)) = some (r1, r2, r3) := H
    have A5 := Aside0.mk A50
    clear A50
    simp only [Option.some.injEq, Prod.mk.injEq] at H
    obtain ⟨rfl, rfl, rfl⟩ := H
    go_enter Try.func52, Try.ntmps52
    go_wp2_with (first | ((with_reducible refine gate_dst (N := 2) rfl ?_); refine box_event ?hg (N := 2) ?hd (cs := #[.int .i64 a0_0, .int .i64 a0_1]) (t := 23) ?hr ?_; (case hd => rfl); (case hg => rfl); (case hr => first | (go_simp; done) | (go_simp; rfl)); intro gb723 hg w6 hbox hb; have BK723 := Aside0.mk hbox; have GW723 := bwg_ HB hg; have GE723 := bwg_ HB hg; replace HB := bws_ HB hb; clear hb hbox hg) | ((with_reducible refine gate_dst (N := 3) rfl ?_); refine box_event ?hg (N := 3) ?hd (cs := #[.int .i64 a1_0, .int .i64 a1_1]) (t := 23) ?hr ?_; (case hd => rfl); (case hg => rfl); (case hr => first | (go_simp; done) | (go_simp; rfl)); intro gb724 hg w7 hbox hb; have BK724 := Aside0.mk hbox; have GW724 := bwg_ HB hg; have GE724 := bwg_ HB hg; replace HB := bws_ HB hb; have NB723_724 := bkl_ BK723 hg; have NB724_723 := bkr_ BK723 hg; replace BK723 := bkb_ BK723 hb; clear hb hbox hg) | ((with_reducible refine gate_dst (N := 4) rfl ?_); refine box_event ?hg (N := 4) ?hd (cs := #[.int .i64 0, .int .i64 0]) (t := 23) ?hr ?_; (case hd => rfl); (case hg => rfl); (case hr => first | (go_simp; done) | (go_simp; rfl)); intro gb725 hg w8 hbox hb; have BK725 := Aside0.mk hbox; have GW725 := bwg_ HB hg; have GE725 := bwg_ HB hg; replace HB := bws_ HB hb; have NB723_725 := bkl_ BK723 hg; have NB725_723 := bkr_ BK723 hg; replace BK723 := bkb_ BK723 hb; have NB724_725 := bkl_ BK724 hg; have NB725_724 := bkr_ BK724 hg; replace BK724 := bkb_ BK724 hb; clear hb hbox hg; have hnb9 := NB723_724.out; have hnc9 := NB724_723.out; have hnb10 := NB723_725.out; have hnc10 := NB725_723.out; obtain ⟨hcz11_0, hcz11_1, hfz11_0, hfz11_1⟩ := bc2_ BK723; have hnb12 := NB724_725.out; have hnc12 := NB725_724.out; obtain ⟨hcz13_0, hcz13_1, hfz13_0, hfz13_1⟩ := bc2_ BK724) | ((with_reducible refine gate_callee (f := 97) rfl ?_); refine gla_ (some 9) Try.func97 #[.agg #[.int .i64 a0_0, .int .i64 a0_1], .agg #[.int .i64 a1_0, .int .i64 a1_1]] ?_; (with_reducible refine (withyref01_both.calls k a0_0 a0_1 a1_0 a1_1 t726 _ A3.out).mono ?_); rintro e w14 ⟨rfl, hb⟩; refine ⟨_, rfl, ?_⟩; replace BK723 := bkb_ BK723 hb; replace BK724 := bkb_ BK724 hb; replace BK725 := bkb_ BK725 hb; replace HB := bws_ HB hb; (try clear hb); (try clear hb2); (try clear hk); (try clear hi); obtain ⟨hcz15_0, hcz15_1, hfz15_0, hfz15_1⟩ := bc2_ BK723; obtain ⟨hcz16_0, hcz16_1, hfz16_0, hfz16_1⟩ := bc2_ BK724) | ((with_reducible refine gate_callee (f := 96) rfl ?_); refine gla_ (some 30) Try.func96 #[.int .i64 (wrap64 ((wrap64 (a0_0 * a1_1)) + (wrap64 (a1_0 * a0_1)))), .int .i64 (wrap64 (a0_1 * a1_1))] ?_; (with_reducible refine (withyref01_low.calls k (wrap64 ((wrap64 (a0_0 * a1_1)) + (wrap64 (a1_0 * a0_1)))) (wrap64 (a0_1 * a1_1)) t727 t728 t729 _ A5.out).mono ?_); rintro e w17 ⟨rfl, hb⟩; refine ⟨_, rfl, ?_⟩; replace BK723 := bkb_ BK723 hb; replace BK724 := bkb_ BK724 hb; replace BK725 := bkb_ BK725 hb; replace HB := bws_ HB hb; (try clear hb); (try clear hb2); (try clear hk); (try clear hi); obtain ⟨hcz18_0, hcz18_1, hfz18_0, hfz18_1⟩ := bc2_ BK725))
    refine bodyPost_ret (results_ct rfl _ _ gb725 23 #[.int .i64 t727, .int .i64 t728] (0, 0) _ rfl (by refine bp_ (cs := #[.int .i64 t727, .int .i64 0]) ?_ 1; refine bp_ (cs := #[.int .i64 0, .int .i64 0]) ?_ 0; exact bk_ BK725) Try.underlying23 rfl (by kernel_rfl)) rfl ?_
    exact ⟨by first | rfl | (simp [*] <;> rfl), bw_ HB⟩
  · rw [if_neg c4] at H
    have c4b0 : (t726 == 0) = false := beq_eq_false_iff_ne.mpr c4
    have c4b1 : (t726 != 0) = true := bne_iff_ne.mpr c4
    simp only [Option.some.injEq, Prod.mk.injEq] at H
    obtain ⟨rfl, rfl, rfl⟩ := H
    go_enter Try.func52, Try.ntmps52
    go_wp2_with (first | ((with_reducible refine gate_dst (N := 2) rfl ?_); refine box_event ?hg (N := 2) ?hd (cs := #[.int .i64 a0_0, .int .i64 a0_1]) (t := 23) ?hr ?_; (case hd => rfl); (case hg => rfl); (case hr => first | (go_simp; done) | (go_simp; rfl)); intro gb723 hg w19 hbox hb; have BK723 := Aside0.mk hbox; have GW723 := bwg_ HB hg; have GE723 := bwg_ HB hg; replace HB := bws_ HB hb; clear hb hbox hg) | ((with_reducible refine gate_dst (N := 3) rfl ?_); refine box_event ?hg (N := 3) ?hd (cs := #[.int .i64 a1_0, .int .i64 a1_1]) (t := 23) ?hr ?_; (case hd => rfl); (case hg => rfl); (case hr => first | (go_simp; done) | (go_simp; rfl)); intro gb724 hg w20 hbox hb; have BK724 := Aside0.mk hbox; have GW724 := bwg_ HB hg; have GE724 := bwg_ HB hg; replace HB := bws_ HB hb; have NB723_724 := bkl_ BK723 hg; have NB724_723 := bkr_ BK723 hg; replace BK723 := bkb_ BK723 hb; clear hb hbox hg) | ((with_reducible refine gate_dst (N := 4) rfl ?_); refine box_event ?hg (N := 4) ?hd (cs := #[.int .i64 0, .int .i64 0]) (t := 23) ?hr ?_; (case hd => rfl); (case hg => rfl); (case hr => first | (go_simp; done) | (go_simp; rfl)); intro gb725 hg w21 hbox hb; have BK725 := Aside0.mk hbox; have GW725 := bwg_ HB hg; have GE725 := bwg_ HB hg; replace HB := bws_ HB hb; have NB723_725 := bkl_ BK723 hg; have NB725_723 := bkr_ BK723 hg; replace BK723 := bkb_ BK723 hb; have NB724_725 := bkl_ BK724 hg; have NB725_724 := bkr_ BK724 hg; replace BK724 := bkb_ BK724 hb; clear hb hbox hg; have hnb22 := NB723_724.out; have hnc22 := NB724_723.out; have hnb23 := NB723_725.out; have hnc23 := NB725_723.out; obtain ⟨hcz24_0, hcz24_1, hfz24_0, hfz24_1⟩ := bc2_ BK723; have hnb25 := NB724_725.out; have hnc25 := NB725_724.out; obtain ⟨hcz26_0, hcz26_1, hfz26_0, hfz26_1⟩ := bc2_ BK724) | ((with_reducible refine gate_callee (f := 97) rfl ?_); refine gla_ (some 9) Try.func97 #[.agg #[.int .i64 a0_0, .int .i64 a0_1], .agg #[.int .i64 a1_0, .int .i64 a1_1]] ?_; (with_reducible refine (withyref01_both.calls k a0_0 a0_1 a1_0 a1_1 t726 _ A3.out).mono ?_); rintro e w27 ⟨rfl, hb⟩; refine ⟨_, rfl, ?_⟩; replace BK723 := bkb_ BK723 hb; replace BK724 := bkb_ BK724 hb; replace BK725 := bkb_ BK725 hb; replace HB := bws_ HB hb; (try clear hb); (try clear hb2); (try clear hk); (try clear hi); obtain ⟨hcz28_0, hcz28_1, hfz28_0, hfz28_1⟩ := bc2_ BK725))
    refine bodyPost_ret (results_ct rfl _ _ gb725 23 #[.int .i64 0, .int .i64 0] (0, 0) _ rfl (by refine bp_ (cs := #[.int .i64 0, .int .i64 0]) ?_ 1; refine bp_ (cs := #[.int .i64 0, .int .i64 0]) ?_ 0; exact bk_ BK725) Try.underlying23 rfl (by kernel_rfl)) rfl ?_
    exact ⟨by first | rfl | (simp [*] <;> rfl), bw_ HB⟩
/-! ### withyref01_Sub: function 53 -/
def withyref01_Sub.f (k : Nat) (a0_0 : Int) (a0_1 : Int) (a1_0 : Int) (a1_1 : Int) : Option (Int × Int × Int) := (withyref01_both.f k a0_0 a0_1 a1_0 a1_1).bind fun t733 => (if t733 = 0 then ((withyref01_low.f k (wrap64 ((wrap64 (a0_0 * a1_1)) - (wrap64 (a1_0 * a0_1)))) (wrap64 (a0_1 * a1_1))).bind fun bt734 => (some (bt734.1, bt734.2.1, bt734.2.2))) else (some (0, 0, t733)))
theorem withyref01_Sub.mono : ∀ a0 a1 a2 a3 k, LeO (withyref01_Sub.f k a0 a1 a2 a3) (withyref01_Sub.f (k + 1) a0 a1 a2 a3) := by
  intro a0 a1 a2 a3 k
  unfold withyref01_Sub.f
  repeat' first
      | (with_reducible exact withyref01_both.mono _ _ _ _ _)
      | (with_reducible exact withyref01_low.mono _ _ _)
      | (with_reducible exact LeO.refl _)
      | (with_reducible exact LeO.none _)
      | (with_reducible refine LeO.ite ?_ ?_)
      | (with_reducible refine LeO.bind ?_ (fun _ => ?_))
      | (with_reducible refine LeO.exc (fun _ => ?_) (fun _ => ?_))
      | exact withyref01_both.mono _ _ _ _ _
      | exact withyref01_low.mono _ _ _
      | exact LeO.none _
      | refine LeO.ite ?_ ?_
      | refine LeO.bind ?_ (fun _ => ?_)
set_option maxHeartbeats 8000000 in
set_option maxRecDepth 100000 in
theorem withyref01_Sub.calls (k : Nat) (a0_0 : Int) (a0_1 : Int) (a1_0 : Int) (a1_1 : Int) (r1 : Int) (r2 : Int) (r3 : Int) (w : World) (h : withyref01_Sub.f k a0_0 a0_1 a1_0 a1_1 = some (r1, r2, r3)) :
    Calls Try.prog 53 #[.agg #[.int .i64 a0_0, .int .i64 a0_1], .agg #[.int .i64 a1_0, .int .i64 a1_1]] w fun e w' => e = .returned (.tuple #[.agg #[.int .i64 r1, .int .i64 r2], .int .i64 r3]) ∧ Below w.heap.size w w' := by
  have hu23 := Try.underlying23
  have HB := Aside0.mk (Below.refl w.heap.size w)
  have H : ((withyref01_both.f k a0_0 a0_1 a1_0 a1_1).bind fun t733 => (if t733 = 0 then ((withyref01_low.f k (wrap64 ((wrap64 (a0_0 * a1_1)) - (wrap64 (a1_0 * a0_1)))) (wrap64 (a0_1 * a1_1))).bind fun bt734 => (some (bt734.1, bt734.2.1, bt734.2.2))) else (some (0, 0, t733)))) = some (r1, r2, r3) := h
  clear h
  replace H := Option.bind_eq_some_iff.mp H
  obtain ⟨t733, A30, H⟩ := H
  replace H : (if t733 = 0 then ((withyref01_low.f k (wrap64 ((wrap64 (a0_0 * a1_1)) - (wrap64 (a1_0 * a0_1)))) (wrap64 (a0_1 * a1_1))).bind fun bt734 => (some (bt734.1, bt734.2.1, bt734.2.2))) else (some (0, 0, t733))) = some (r1, r2, r3) := H
  have A3 := Aside0.mk A30
  clear A30
  by_cases c4 : t733 = 0
  · rw [if_pos c4] at H
    have c4b0 : (t733 == 0) = true := beq_iff_eq.mpr c4
    have c4b1 : (t733 != 0) = false := bne_eq_false_iff_eq.mpr c4
    clear c4
    replace H := Option.bind_eq_some_iff.mp H
    obtain ⟨⟨t734, t735, t736⟩, A50, H⟩ := H
    replace H : (some (t734, t735, t736)) = some (r1, r2, r3) := H
    have A5 := Aside0.mk A50
    clear A50
    simp only [Option.some.injEq, Prod.mk.injEq] at H
    obtain ⟨rfl, rfl, rfl⟩ := H
    go_enter Try.func53, Try.ntmps53
    go_wp2_with (first | ((with_reducible refine gate_dst (N := 2) rfl ?_); refine box_event ?hg (N := 2) ?hd (cs := #[.int .i64 a0_0, .int .i64 a0_1]) (t := 23) ?hr ?_; (case hd => rfl); (case hg => rfl); (case hr => first | (go_simp; done) | (go_simp; rfl)); intro gb730 hg w6 hbox hb; have BK730 := Aside0.mk hbox; have GW730 := bwg_ HB hg; have GE730 := bwg_ HB hg; replace HB := bws_ HB hb; clear hb hbox hg) | ((with_reducible refine gate_dst (N := 3) rfl ?_); refine box_event ?hg (N := 3) ?hd (cs := #[.int .i64 a1_0, .int .i64 a1_1]) (t := 23) ?hr ?_; (case hd => rfl); (case hg => rfl); (case hr => first | (go_simp; done) | (go_simp; rfl)); intro gb731 hg w7 hbox hb; have BK731 := Aside0.mk hbox; have GW731 := bwg_ HB hg; have GE731 := bwg_ HB hg; replace HB := bws_ HB hb; have NB730_731 := bkl_ BK730 hg; have NB731_730 := bkr_ BK730 hg; replace BK730 := bkb_ BK730 hb; clear hb hbox hg) | ((with_reducible refine gate_dst (N := 4) rfl ?_); refine box_event ?hg (N := 4) ?hd (cs := #[.int .i64 0, .int .i64 0]) (t := 23) ?hr ?_; (case hd => rfl); (case hg => rfl); (case hr => first | (go_simp; done) | (go_simp; rfl)); intro gb732 hg w8 hbox hb; have BK732 := Aside0.mk hbox; have GW732 := bwg_ HB hg; have GE732 := bwg_ HB hg; replace HB := bws_ HB hb; have NB730_732 := bkl_ BK730 hg; have NB732_730 := bkr_ BK730 hg; replace BK730 := bkb_ BK730 hb; have NB731_732 := bkl_ BK731 hg; have NB732_731 := bkr_ BK731 hg; replace BK731 := bkb_ BK731 hb; clear hb hbox hg; have hnb9 := NB730_731.out; have hnc9 := NB731_730.out; have hnb10 := NB730_732.out; have hnc10 := NB732_730.out; obtain ⟨hcz11_0, hcz11_1, hfz11_0, hfz11_1⟩ := bc2_ BK730; have hnb12 := NB731_732.out; have hnc12 := NB732_731.out; obtain ⟨hcz13_0, hcz13_1, hfz13_0, hfz13_1⟩ := bc2_ BK731) | ((with_reducible refine gate_callee (f := 97) rfl ?_); refine gla_ (some 9) Try.func97 #[.agg #[.int .i64 a0_0, .int .i64 a0_1], .agg #[.int .i64 a1_0, .int .i64 a1_1]] ?_; (with_reducible refine (withyref01_both.calls k a0_0 a0_1 a1_0 a1_1 t733 _ A3.out).mono ?_); rintro e w14 ⟨rfl, hb⟩; refine ⟨_, rfl, ?_⟩; replace BK730 := bkb_ BK730 hb; replace BK731 := bkb_ BK731 hb; replace BK732 := bkb_ BK732 hb; replace HB := bws_ HB hb; (try clear hb); (try clear hb2); (try clear hk); (try clear hi); obtain ⟨hcz15_0, hcz15_1, hfz15_0, hfz15_1⟩ := bc2_ BK730; obtain ⟨hcz16_0, hcz16_1, hfz16_0, hfz16_1⟩ := bc2_ BK731) | ((with_reducible refine gate_callee (f := 96) rfl ?_); refine gla_ (some 30) Try.func96 #[.int .i64 (wrap64 ((wrap64 (a0_0 * a1_1)) - (wrap64 (a1_0 * a0_1)))), .int .i64 (wrap64 (a0_1 * a1_1))] ?_; (with_reducible refine (withyref01_low.calls k (wrap64 ((wrap64 (a0_0 * a1_1)) - (wrap64 (a1_0 * a0_1)))) (wrap64 (a0_1 * a1_1)) t734 t735 t736 _ A5.out).mono ?_); rintro e w17 ⟨rfl, hb⟩; refine ⟨_, rfl, ?_⟩; replace BK730 := bkb_ BK730 hb; replace BK731 := bkb_ BK731 hb; replace BK732 := bkb_ BK732 hb; replace HB := bws_ HB hb; (try clear hb); (try clear hb2); (try clear hk); (try clear hi); obtain ⟨hcz18_0, hcz18_1, hfz18_0, hfz18_1⟩ := bc2_ BK732))
    refine bodyPost_ret (results_ct rfl _ _ gb732 23 #[.int .i64 t734, .int .i64 t735] (0, 0) _ rfl (by refine bp_ (cs := #[.int .i64 t734, .int .i64 0]) ?_ 1; refine bp_ (cs := #[.int .i64 0, .int .i64 0]) ?_ 0; exact bk_ BK732) Try.underlying23 rfl (by kernel_rfl)) rfl ?_
    exact ⟨by first | rfl | (simp [*] <;> rfl), bw_ HB⟩
  · rw [if_neg c4] at H
    have c4b0 : (t733 == 0) = false := beq_eq_false_iff_ne.mpr c4
    have c4b1 : (t733 != 0) = true := bne_iff_ne.mpr c4
    simp only [Option.some.injEq, Prod.mk.injEq] at H
    obtain ⟨rfl, rfl, rfl⟩ := H
    go_enter Try.func53, Try.ntmps53
    go_wp2_with (first | ((with_reducible refine gate_dst (N := 2) rfl ?_); refine box_event ?hg (N := 2) ?hd (cs := #[.int .i64 a0_0, .int .i64 a0_1]) (t := 23) ?hr ?_; (case hd => rfl); (case hg => rfl); (case hr => first | (go_simp; done) | (go_simp; rfl)); intro gb730 hg w19 hbox hb; have BK730 := Aside0.mk hbox; have GW730 := bwg_ HB hg; have GE730 := bwg_ HB hg; replace HB := bws_ HB hb; clear hb hbox hg) | ((with_reducible refine gate_dst (N := 3) rfl ?_); refine box_event ?hg (N := 3) ?hd (cs := #[.int .i64 a1_0, .int .i64 a1_1]) (t := 23) ?hr ?_; (case hd => rfl); (case hg => rfl); (case hr => first | (go_simp; done) | (go_simp; rfl)); intro gb731 hg w20 hbox hb; have BK731 := Aside0.mk hbox; have GW731 := bwg_ HB hg; have GE731 := bwg_ HB hg; replace HB := bws_ HB hb; have NB730_731 := bkl_ BK730 hg; have NB731_730 := bkr_ BK730 hg; replace BK730 := bkb_ BK730 hb; clear hb hbox hg) | ((with_reducible refine gate_dst (N := 4) rfl ?_); refine box_event ?hg (N := 4) ?hd (cs := #[.int .i64 0, .int .i64 0]) (t := 23) ?hr ?_; (case hd => rfl); (case hg => rfl); (case hr => first | (go_simp; done) | (go_simp; rfl)); intro gb732 hg w21 hbox hb; have BK732 := Aside0.mk hbox; have GW732 := bwg_ HB hg; have GE732 := bwg_ HB hg; replace HB := bws_ HB hb; have NB730_732 := bkl_ BK730 hg; have NB732_730 := bkr_ BK730 hg; replace BK730 := bkb_ BK730 hb; have NB731_732 := bkl_ BK731 hg; have NB732_731 := bkr_ BK731 hg; replace BK731 := bkb_ BK731 hb; clear hb hbox hg; have hnb22 := NB730_731.out; have hnc22 := NB731_730.out; have hnb23 := NB730_732.out; have hnc23 := NB732_730.out; obtain ⟨hcz24_0, hcz24_1, hfz24_0, hfz24_1⟩ := bc2_ BK730; have hnb25 := NB731_732.out; have hnc25 := NB732_731.out; obtain ⟨hcz26_0, hcz26_1, hfz26_0, hfz26_1⟩ := bc2_ BK731) | ((with_reducible refine gate_callee (f := 97) rfl ?_); refine gla_ (some 9) Try.func97 #[.agg #[.int .i64 a0_0, .int .i64 a0_1], .agg #[.int .i64 a1_0, .int .i64 a1_1]] ?_; (with_reducible refine (withyref01_both.calls k a0_0 a0_1 a1_0 a1_1 t733 _ A3.out).mono ?_); rintro e w27 ⟨rfl, hb⟩; refine ⟨_, rfl, ?_⟩; replace BK730 := bkb_ BK730 hb; replace BK731 := bkb_ BK731 hb; replace BK732 := bkb_ BK732 hb; replace HB := bws_ HB hb; (try clear hb); (try clear hb2); (try clear hk); (try clear hi); obtain ⟨hcz28_0, hcz28_1, hfz28_0, hfz28_1⟩ := bc2_ BK732))
    refine bodyPost_ret (results_ct rfl _ _ gb732 23 #[.int .i64 0, .int .i64 0] (0, 0) _ rfl (by refine bp_ (cs := #[.int .i64 0, .int .i64 0]) ?_ 1; refine bp_ (cs := #[.int .i64 0, .int .i64 0]) ?_ 0; exact bk_ BK732) Try.underlying23 rfl (by kernel_rfl)) rfl ?_
    exact ⟨by first | rfl | (simp [*] <;> rfl), bw_ HB⟩
/-! ### withyref01_Mul: function 54 -/
def withyref01_Mul.f (k : Nat) (a0_0 : Int) (a0_1 : Int) (a1_0 : Int) (a1_1 : Int) : Option (Int × Int × Int) := (withyref01_both.f k a0_0 a0_1 a1_0 a1_1).bind fun t740 => (if t740 = 0 then ((withyref01_low.f k (wrap64 (a0_0 * a1_0)) (wrap64 (a0_1 * a1_1))).bind fun bt741 => (some (bt741.1, bt741.2.1, bt741.2.2))) else (some (0, 0, t740)))
theorem withyref01_Mul.mono : ∀ a0 a1 a2 a3 k, LeO (withyref01_Mul.f k a0 a1 a2 a3) (withyref01_Mul.f (k + 1) a0 a1 a2 a3) := by
  intro a0 a1 a2 a3 k
  unfold withyref01_Mul.f
  repeat' first
      | (with_reducible exact withyref01_both.mono _ _ _ _ _)
      | (with_reducible exact withyref01_low.mono _ _ _)
      | (with_reducible exact LeO.refl _)
      | (with_reducible exact LeO.none _)
      | (with_reducible refine LeO.ite ?_ ?_)
      | (with_reducible refine LeO.bind ?_ (fun _ => ?_))
      | (with_reducible refine LeO.exc (fun _ => ?_) (fun _ => ?_))
      | exact withyref01_both.mono _ _ _ _ _
      | exact withyref01_low.mono _ _ _
      | exact LeO.none _
      | refine LeO.ite ?_ ?_
      | refine LeO.bind ?_ (fun _ => ?_)
set_option maxHeartbeats 8000000 in
set_option maxRecDepth 100000 in
theorem withyref01_Mul.calls (k : Nat) (a0_0 : Int) (a0_1 : Int) (a1_0 : Int) (a1_1 : Int) (r1 : Int) (r2 : Int) (r3 : Int) (w : World) (h : withyref01_Mul.f k a0_0 a0_1 a1_0 a1_1 = some (r1, r2, r3)) :
    Calls Try.prog 54 #[.agg #[.int .i64 a0_0, .int .i64 a0_1], .agg #[.int .i64 a1_0, .int .i64 a1_1]] w fun e w' => e = .returned (.tuple #[.agg #[.int .i64 r1, .int .i64 r2], .int .i64 r3]) ∧ Below w.heap.size w w' := by
  have hu23 := Try.underlying23
  have HB := Aside0.mk (Below.refl w.heap.size w)
  have H : ((withyref01_both.f k a0_0 a0_1 a1_0 a1_1).bind fun t740 => (if t740 = 0 then ((withyref01_low.f k (wrap64 (a0_0 * a1_0)) (wrap64 (a0_1 * a1_1))).bind fun bt741 => (some (bt741.1, bt741.2.1, bt741.2.2))) else (some (0, 0, t740)))) = some (r1, r2, r3) := h
  clear h
  replace H := Option.bind_eq_some_iff.mp H
  obtain ⟨t740, A30, H⟩ := H
  replace H : (if t740 = 0 then ((withyref01_low.f k (wrap64 (a0_0 * a1_0)) (wrap64 (a0_1 * a1_1))).bind fun bt741 => (some (bt741.1, bt741.2.1, bt741.2.2))) else (some (0, 0, t740))) = some (r1, r2, r3) := H
  have A3 := Aside0.mk A30
  clear A30
  by_cases c4 : t740 = 0
  · rw [if_pos c4] at H
    have c4b0 : (t740 == 0) = true := beq_iff_eq.mpr c4
    have c4b1 : (t740 != 0) = false := bne_eq_false_iff_eq.mpr c4
    clear c4
    replace H := Option.bind_eq_some_iff.mp H
    obtain ⟨⟨t741, t742, t743⟩, A50, H⟩ := H
    replace H : (some (t741, t742, t743)) = some (r1, r2, r3) := H
    have A5 := Aside0.mk A50
    clear A50
    simp only [Option.some.injEq, Prod.mk.injEq] at H
    obtain ⟨rfl, rfl, rfl⟩ := H
    go_enter Try.func54, Try.ntmps54
    go_wp2_with (first | ((with_reducible refine gate_dst (N := 2) rfl ?_); refine box_event ?hg (N := 2) ?hd (cs := #[.int .i64 a0_0, .int .i64 a0_1]) (t := 23) ?hr ?_; (case hd => rfl); (case hg => rfl); (case hr => first | (go_simp; done) | (go_simp; rfl)); intro gb737 hg w6 hbox hb; have BK737 := Aside0.mk hbox; have GW737 := bwg_ HB hg; have GE737 := bwg_ HB hg; replace HB := bws_ HB hb; clear hb hbox hg) | ((with_reducible refine gate_dst (N := 3) rfl ?_); refine box_event ?hg (N := 3) ?hd (cs := #[.int .i64 a1_0, .int .i64 a1_1]) (t := 23) ?hr ?_; (case hd => rfl); (case hg => rfl); (case hr => first | (go_simp; done) | (go_simp; rfl)); intro gb738 hg w7 hbox hb; have BK738 := Aside0.mk hbox; have GW738 := bwg_ HB hg; have GE738 := bwg_ HB hg; replace HB := bws_ HB hb; have NB737_738 := bkl_ BK737 hg; have NB738_737 := bkr_ BK737 hg; replace BK737 := bkb_ BK737 hb; clear hb hbox hg) | ((with_reducible refine gate_dst (N := 4) rfl ?_); refine box_event ?hg (N := 4) ?hd (cs := #[.int .i64 0, .int .i64 0]) (t := 23) ?hr ?_; (case hd => rfl); (case hg => rfl); (case hr => first | (go_simp; done) | (go_simp; rfl)); intro gb739 hg w8 hbox hb; have BK739 := Aside0.mk hbox; have GW739 := bwg_ HB hg; have GE739 := bwg_ HB hg; replace HB := bws_ HB hb; have NB737_739 := bkl_ BK737 hg; have NB739_737 := bkr_ BK737 hg; replace BK737 := bkb_ BK737 hb; have NB738_739 := bkl_ BK738 hg; have NB739_738 := bkr_ BK738 hg; replace BK738 := bkb_ BK738 hb; clear hb hbox hg; have hnb9 := NB737_738.out; have hnc9 := NB738_737.out; have hnb10 := NB737_739.out; have hnc10 := NB739_737.out; obtain ⟨hcz11_0, hcz11_1, hfz11_0, hfz11_1⟩ := bc2_ BK737; have hnb12 := NB738_739.out; have hnc12 := NB739_738.out; obtain ⟨hcz13_0, hcz13_1, hfz13_0, hfz13_1⟩ := bc2_ BK738) | ((with_reducible refine gate_callee (f := 97) rfl ?_); refine gla_ (some 9) Try.func97 #[.agg #[.int .i64 a0_0, .int .i64 a0_1], .agg #[.int .i64 a1_0, .int .i64 a1_1]] ?_; (with_reducible refine (withyref01_both.calls k a0_0 a0_1 a1_0 a1_1 t740 _ A3.out).mono ?_); rintro e w14 ⟨rfl, hb⟩; refine ⟨_, rfl, ?_⟩; replace BK737 := bkb_ BK737 hb; replace BK738 := bkb_ BK738 hb; replace BK739 := bkb_ BK739 hb; replace HB := bws_ HB hb; (try clear hb); (try clear hb2); (try clear hk); (try clear hi); obtain ⟨hcz15_0, hcz15_1, hfz15_0, hfz15_1⟩ := bc2_ BK737; obtain ⟨hcz16_0, hcz16_1, hfz16_0, hfz16_1⟩ := bc2_ BK738) | ((with_reducible refine gate_callee (f := 96) rfl ?_); refine gla_ (some 24) Try.func96 #[.int .i64 (wrap64 (a0_0 * a1_0)), .int .i64 (wrap64 (a0_1 * a1_1))] ?_; (with_reducible refine (withyref01_low.calls k (wrap64 (a0_0 * a1_0)) (wrap64 (a0_1 * a1_1)) t741 t742 t743 _ A5.out).mono ?_); rintro e w17 ⟨rfl, hb⟩; refine ⟨_, rfl, ?_⟩; replace BK737 := bkb_ BK737 hb; replace BK738 := bkb_ BK738 hb; replace BK739 := bkb_ BK739 hb; replace HB := bws_ HB hb; (try clear hb); (try clear hb2); (try clear hk); (try clear hi); obtain ⟨hcz18_0, hcz18_1, hfz18_0, hfz18_1⟩ := bc2_ BK739))
    refine bodyPost_ret (results_ct rfl _ _ gb739 23 #[.int .i64 t741, .int .i64 t742] (0, 0) _ rfl (by refine bp_ (cs := #[.int .i64 t741, .int .i64 0]) ?_ 1; refine bp_ (cs := #[.int .i64 0, .int .i64 0]) ?_ 0; exact bk_ BK739) Try.underlying23 rfl (by kernel_rfl)) rfl ?_
    exact ⟨by first | rfl | (simp [*] <;> rfl), bw_ HB⟩
  · rw [if_neg c4] at H
    have c4b0 : (t740 == 0) = false := beq_eq_false_iff_ne.mpr c4
    have c4b1 : (t740 != 0) = true := bne_iff_ne.mpr c4
    simp only [Option.some.injEq, Prod.mk.injEq] at H
    obtain ⟨rfl, rfl, rfl⟩ := H
    go_enter Try.func54, Try.ntmps54
    go_wp2_with (first | ((with_reducible refine gate_dst (N := 2) rfl ?_); refine box_event ?hg (N := 2) ?hd (cs := #[.int .i64 a0_0, .int .i64 a0_1]) (t := 23) ?hr ?_; (case hd => rfl); (case hg => rfl); (case hr => first | (go_simp; done) | (go_simp; rfl)); intro gb737 hg w19 hbox hb; have BK737 := Aside0.mk hbox; have GW737 := bwg_ HB hg; have GE737 := bwg_ HB hg; replace HB := bws_ HB hb; clear hb hbox hg) | ((with_reducible refine gate_dst (N := 3) rfl ?_); refine box_event ?hg (N := 3) ?hd (cs := #[.int .i64 a1_0, .int .i64 a1_1]) (t := 23) ?hr ?_; (case hd => rfl); (case hg => rfl); (case hr => first | (go_simp; done) | (go_simp; rfl)); intro gb738 hg w20 hbox hb; have BK738 := Aside0.mk hbox; have GW738 := bwg_ HB hg; have GE738 := bwg_ HB hg; replace HB := bws_ HB hb; have NB737_738 := bkl_ BK737 hg; have NB738_737 := bkr_ BK737 hg; replace BK737 := bkb_ BK737 hb; clear hb hbox hg) | ((with_reducible refine gate_dst (N := 4) rfl ?_); refine box_event ?hg (N := 4) ?hd (cs := #[.int .i64 0, .int .i64 0]) (t := 23) ?hr ?_; (case hd => rfl); (case hg => rfl); (case hr => first | (go_simp; done) | (go_simp; rfl)); intro gb739 hg w21 hbox hb; have BK739 := Aside0.mk hbox; have GW739 := bwg_ HB hg; have GE739 := bwg_ HB hg; replace HB := bws_ HB hb; have NB737_739 := bkl_ BK737 hg; have NB739_737 := bkr_ BK737 hg; replace BK737 := bkb_ BK737 hb; have NB738_739 := bkl_ BK738 hg; have NB739_738 := bkr_ BK738 hg; replace BK738 := bkb_ BK738 hb; clear hb hbox hg; have hnb22 := NB737_738.out; have hnc22 := NB738_737.out; have hnb23 := NB737_739.out; have hnc23 := NB739_737.out; obtain ⟨hcz24_0, hcz24_1, hfz24_0, hfz24_1⟩ := bc2_ BK737; have hnb25 := NB738_739.out; have hnc25 := NB739_738.out; obtain ⟨hcz26_0, hcz26_1, hfz26_0, hfz26_1⟩ := bc2_ BK738) | ((with_reducible refine gate_callee (f := 97) rfl ?_); refine gla_ (some 9) Try.func97 #[.agg #[.int .i64 a0_0, .int .i64 a0_1], .agg #[.int .i64 a1_0, .int .i64 a1_1]] ?_; (with_reducible refine (withyref01_both.calls k a0_0 a0_1 a1_0 a1_1 t740 _ A3.out).mono ?_); rintro e w27 ⟨rfl, hb⟩; refine ⟨_, rfl, ?_⟩; replace BK737 := bkb_ BK737 hb; replace BK738 := bkb_ BK738 hb; replace BK739 := bkb_ BK739 hb; replace HB := bws_ HB hb; (try clear hb); (try clear hb2); (try clear hk); (try clear hi); obtain ⟨hcz28_0, hcz28_1, hfz28_0, hfz28_1⟩ := bc2_ BK739))
    refine bodyPost_ret (results_ct rfl _ _ gb739 23 #[.int .i64 0, .int .i64 0] (0, 0) _ rfl (by refine bp_ (cs := #[.int .i64 0, .int .i64 0]) ?_ 1; refine bp_ (cs := #[.int .i64 0, .int .i64 0]) ?_ 0; exact bk_ BK739) Try.underlying23 rfl (by kernel_rfl)) rfl ?_
    exact ⟨by first | rfl | (simp [*] <;> rfl), bw_ HB⟩
/-! ### withyref01_Div: function 55 -/
def withyref01_Div.f (k : Nat) (a0_0 : Int) (a0_1 : Int) (a1_0 : Int) (a1_1 : Int) : Option (Int × Int × Int) := (withyref01_both.f k a0_0 a0_1 a1_0 a1_1).bind fun t747 => (if t747 = 0 then (if a1_0 = 0 then (some (0, 0, 10)) else ((withyref01_low.f k (wrap64 (a0_0 * a1_1)) (wrap64 (a0_1 * a1_0))).bind fun bt748 => (some (bt748.1, bt748.2.1, bt748.2.2)))) else (some (0, 0, t747)))
theorem withyref01_Div.mono : ∀ a0 a1 a2 a3 k, LeO (withyref01_Div.f k a0 a1 a2 a3) (withyref01_Div.f (k + 1) a0 a1 a2 a3) := by
  intro a0 a1 a2 a3 k
  unfold withyref01_Div.f
  repeat' first
      | (with_reducible exact withyref01_both.mono _ _ _ _ _)
      | (with_reducible exact withyref01_low.mono _ _ _)
      | (with_reducible exact LeO.refl _)
      | (with_reducible exact LeO.none _)
      | (with_reducible refine LeO.ite ?_ ?_)
      | (with_reducible refine LeO.bind ?_ (fun _ => ?_))
      | (with_reducible refine LeO.exc (fun _ => ?_) (fun _ => ?_))
      | exact withyref01_both.mono _ _ _ _ _
      | exact withyref01_low.mono _ _ _
      | exact LeO.none _
      | refine LeO.ite ?_ ?_
      | refine LeO.bind ?_ (fun _ => ?_)
set_option maxHeartbeats 8000000 in
set_option maxRecDepth 100000 in
theorem withyref01_Div.calls (k : Nat) (a0_0 : Int) (a0_1 : Int) (a1_0 : Int) (a1_1 : Int) (r1 : Int) (r2 : Int) (r3 : Int) (w : World) (h : withyref01_Div.f k a0_0 a0_1 a1_0 a1_1 = some (r1, r2, r3)) :
    Calls Try.prog 55 #[.agg #[.int .i64 a0_0, .int .i64 a0_1], .agg #[.int .i64 a1_0, .int .i64 a1_1]] w fun e w' => e = .returned (.tuple #[.agg #[.int .i64 r1, .int .i64 r2], .int .i64 r3]) ∧ Below w.heap.size w w' := by
  have hu23 := Try.underlying23
  have HB := Aside0.mk (Below.refl w.heap.size w)
  have H : ((withyref01_both.f k a0_0 a0_1 a1_0 a1_1).bind fun t747 => (if t747 = 0 then (if a1_0 = 0 then (some (0, 0, 10)) else ((withyref01_low.f k (wrap64 (a0_0 * a1_1)) (wrap64 (a0_1 * a1_0))).bind fun bt748 => (some (bt748.1, bt748.2.1, bt748.2.2)))) else (some (0, 0, t747)))) = some (r1, r2, r3) := h
  clear h
  replace H := Option.bind_eq_some_iff.mp H
  obtain ⟨t747, A30, H⟩ := H
  replace H : (if t747 = 0 then (if a1_0 = 0 then (some (0, 0, 10)) else ((withyref01_low.f k (wrap64 (a0_0 * a1_1)) (wrap64 (a0_1 * a1_0))).bind fun bt748 => (some (bt748.1, bt748.2.1, bt748.2.2)))) else (some (0, 0, t747))) = some (r1, r2, r3) := H
  have A3 := Aside0.mk A30
  clear A30
  by_cases c4 : t747 = 0
  · rw [if_pos c4] at H
    have c4b0 : (t747 == 0) = true := beq_iff_eq.mpr c4
    have c4b1 : (t747 != 0) = false := bne_eq_false_iff_eq.mpr c4
    clear c4
    by_cases c5 : a1_0 = 0
    · rw [if_pos c5] at H
      have c5b0 : (a1_0 == 0) = true := beq_iff_eq.mpr c5
      have c5b1 : (a1_0 != 0) = false := bne_eq_false_iff_eq.mpr c5
      clear c5
      simp only [Option.some.injEq, Prod.mk.injEq] at H
      obtain ⟨rfl, rfl, rfl⟩ := H
      go_enter Try.func55, Try.ntmps55
      go_wp2_with (first | ((with_reducible refine gate_dst (N := 2) rfl ?_); refine box_event ?hg (N := 2) ?hd (cs := #[.int .i64 a0_0, .int .i64 a0_1]) (t := 23) ?hr ?_; (case hd => rfl); (case hg => rfl); (case hr => first | (go_simp; done) | (go_simp; rfl)); intro gb744 hg w6 hbox hb; have BK744 := Aside0.mk hbox; have GW744 := bwg_ HB hg; have GE744 := bwg_ HB hg; replace HB := bws_ HB hb; clear hb hbox hg) | ((with_reducible refine gate_dst (N := 3) rfl ?_); refine box_event ?hg (N := 3) ?hd (cs := #[.int .i64 a1_0, .int .i64 a1_1]) (t := 23) ?hr ?_; (case hd => rfl); (case hg => rfl); (case hr => first | (go_simp; done) | (go_simp; rfl)); intro gb745 hg w7 hbox hb; have BK745 := Aside0.mk hbox; have GW745 := bwg_ HB hg; have GE745 := bwg_ HB hg; replace HB := bws_ HB hb; have NB744_745 := bkl_ BK744 hg; have NB745_744 := bkr_ BK744 hg; replace BK744 := bkb_ BK744 hb; clear hb hbox hg) | ((with_reducible refine gate_dst (N := 4) rfl ?_); refine box_event ?hg (N := 4) ?hd (cs := #[.int .i64 0, .int .i64 0]) (t := 23) ?hr ?_; (case hd => rfl); (case hg => rfl); (case hr => first | (go_simp; done) | (go_simp; rfl)); intro gb746 hg w8 hbox hb; have BK746 := Aside0.mk hbox; have GW746 := bwg_ HB hg; have GE746 := bwg_ HB hg; replace HB := bws_ HB hb; have NB744_746 := bkl_ BK744 hg; have NB746_744 := bkr_ BK744 hg; replace BK744 := bkb_ BK744 hb; have NB745_746 := bkl_ BK745 hg; have NB746_745 := bkr_ BK745 hg; replace BK745 := bkb_ BK745 hb; clear hb hbox hg; have hnb9 := NB744_745.out; have hnc9 := NB745_744.out; have hnb10 := NB744_746.out; have hnc10 := NB746_744.out; obtain ⟨hcz11_0, hcz11_1, hfz11_0, hfz11_1⟩ := bc2_ BK744; have hnb12 := NB745_746.out; have hnc12 := NB746_745.out; obtain ⟨hcz13_0, hcz13_1, hfz13_0, hfz13_1⟩ := bc2_ BK745) | ((with_reducible refine gate_callee (f := 97) rfl ?_); refine gla_ (some 9) Try.func97 #[.agg #[.int .i64 a0_0, .int .i64 a0_1], .agg #[.int .i64 a1_0, .int .i64 a1_1]] ?_; (with_reducible refine (withyref01_both.calls k a0_0 a0_1 a1_0 a1_1 t747 _ A3.out).mono ?_); rintro e w14 ⟨rfl, hb⟩; refine ⟨_, rfl, ?_⟩; replace BK744 := bkb_ BK744 hb; replace BK745 := bkb_ BK745 hb; replace BK746 := bkb_ BK746 hb; replace HB := bws_ HB hb; (try clear hb); (try clear hb2); (try clear hk); (try clear hi); obtain ⟨hcz15_0, hcz15_1, hfz15_0, hfz15_1⟩ := bc2_ BK745; obtain ⟨hcz16_0, hcz16_1, hfz16_0, hfz16_1⟩ := bc2_ BK746))
      refine bodyPost_ret (results_ct rfl _ _ gb746 23 #[.int .i64 0, .int .i64 0] (0, 0) _ rfl (by refine bp_ (cs := #[.int .i64 0, .int .i64 0]) ?_ 1; refine bp_ (cs := #[.int .i64 0, .int .i64 0]) ?_ 0; exact bk_ BK746) Try.underlying23 rfl (by kernel_rfl)) rfl ?_
      exact ⟨by first | rfl | (simp [*] <;> rfl), bw_ HB⟩
    · rw [if_neg c5] at H
      have c5b0 : (a1_0 == 0) = false := beq_eq_false_iff_ne.mpr c5
      have c5b1 : (a1_0 != 0) = true := bne_iff_ne.mpr c5
      replace H := Option.bind_eq_some_iff.mp H
      obtain ⟨⟨t748, t749, t750⟩, A170, H⟩ := H
      replace H : (some (t748, t749, t750)) = some (r1, r2, r3) := H
      have A17 := Aside0.mk A170
      clear A170
      simp only [Option.some.injEq, Prod.mk.injEq] at H
      obtain ⟨rfl, rfl, rfl⟩ := H
      go_enter Try.func55, Try.ntmps55
      go_wp2_with (first | ((with_reducible refine gate_dst (N := 2) rfl ?_); refine box_event ?hg (N := 2) ?hd (cs := #[.int .i64 a0_0, .int .i64 a0_1]) (t := 23) ?hr ?_; (case hd => rfl); (case hg => rfl); (case hr => first | (go_simp; done) | (go_simp; rfl)); intro gb744 hg w18 hbox hb; have BK744 := Aside0.mk hbox; have GW744 := bwg_ HB hg; have GE744 := bwg_ HB hg; replace HB := bws_ HB hb; clear hb hbox hg) | ((with_reducible refine gate_dst (N := 3) rfl ?_); refine box_event ?hg (N := 3) ?hd (cs := #[.int .i64 a1_0, .int .i64 a1_1]) (t := 23) ?hr ?_; (case hd => rfl); (case hg => rfl); (case hr => first | (go_simp; done) | (go_simp; rfl)); intro gb745 hg w19 hbox hb; have BK745 := Aside0.mk hbox; have GW745 := bwg_ HB hg; have GE745 := bwg_ HB hg; replace HB := bws_ HB hb; have NB744_745 := bkl_ BK744 hg; have NB745_744 := bkr_ BK744 hg; replace BK744 := bkb_ BK744 hb; clear hb hbox hg) | ((with_reducible refine gate_dst (N := 4) rfl ?_); refine box_event ?hg (N := 4) ?hd (cs := #[.int .i64 0, .int .i64 0]) (t := 23) ?hr ?_; (case hd => rfl); (case hg => rfl); (case hr => first | (go_simp; done) | (go_simp; rfl)); intro gb746 hg w20 hbox hb; have BK746 := Aside0.mk hbox; have GW746 := bwg_ HB hg; have GE746 := bwg_ HB hg; replace HB := bws_ HB hb; have NB744_746 := bkl_ BK744 hg; have NB746_744 := bkr_ BK744 hg; replace BK744 := bkb_ BK744 hb; have NB745_746 := bkl_ BK745 hg; have NB746_745 := bkr_ BK745 hg; replace BK745 := bkb_ BK745 hb; clear hb hbox hg; have hnb21 := NB744_745.out; have hnc21 := NB745_744.out; have hnb22 := NB744_746.out; have hnc22 := NB746_744.out; obtain ⟨hcz23_0, hcz23_1, hfz23_0, hfz23_1⟩ := bc2_ BK744; have hnb24 := NB745_746.out; have hnc24 := NB746_745.out; obtain ⟨hcz25_0, hcz25_1, hfz25_0, hfz25_1⟩ := bc2_ BK745) | ((with_reducible refine gate_callee (f := 97) rfl ?_); refine gla_ (some 9) Try.func97 #[.agg #[.int .i64 a0_0, .int .i64 a0_1], .agg #[.int .i64 a1_0, .int .i64 a1_1]] ?_; (with_reducible refine (withyref01_both.calls k a0_0 a0_1 a1_0 a1_1 t747 _ A3.out).mono ?_); rintro e w26 ⟨rfl, hb⟩; refine ⟨_, rfl, ?_⟩; replace BK744 := bkb_ BK744 hb; replace BK745 := bkb_ BK745 hb; replace BK746 := bkb_ BK746 hb; replace HB := bws_ HB hb; (try clear hb); (try clear hb2); (try clear hk); (try clear hi); obtain ⟨hcz27_0, hcz27_1, hfz27_0, hfz27_1⟩ := bc2_ BK745; obtain ⟨hcz28_0, hcz28_1, hfz28_0, hfz28_1⟩ := bc2_ BK744) | ((with_reducible refine gate_callee (f := 96) rfl ?_); refine gla_ (some 28) Try.func96 #[.int .i64 (wrap64 (a0_0 * a1_1)), .int .i64 (wrap64 (a0_1 * a1_0))] ?_; (with_reducible refine (withyref01_low.calls k (wrap64 (a0_0 * a1_1)) (wrap64 (a0_1 * a1_0)) t748 t749 t750 _ A17.out).mono ?_); rintro e w29 ⟨rfl, hb⟩; refine ⟨_, rfl, ?_⟩; replace BK744 := bkb_ BK744 hb; replace BK745 := bkb_ BK745 hb; replace BK746 := bkb_ BK746 hb; replace HB := bws_ HB hb; (try clear hb); (try clear hb2); (try clear hk); (try clear hi); obtain ⟨hcz30_0, hcz30_1, hfz30_0, hfz30_1⟩ := bc2_ BK746))
      refine bodyPost_ret (results_ct rfl _ _ gb746 23 #[.int .i64 t748, .int .i64 t749] (0, 0) _ rfl (by refine bp_ (cs := #[.int .i64 t748, .int .i64 0]) ?_ 1; refine bp_ (cs := #[.int .i64 0, .int .i64 0]) ?_ 0; exact bk_ BK746) Try.underlying23 rfl (by kernel_rfl)) rfl ?_
      exact ⟨by first | rfl | (simp [*] <;> rfl), bw_ HB⟩
  · rw [if_neg c4] at H
    have c4b0 : (t747 == 0) = false := beq_eq_false_iff_ne.mpr c4
    have c4b1 : (t747 != 0) = true := bne_iff_ne.mpr c4
    simp only [Option.some.injEq, Prod.mk.injEq] at H
    obtain ⟨rfl, rfl, rfl⟩ := H
    go_enter Try.func55, Try.ntmps55
    go_wp2_with (first | ((with_reducible refine gate_dst (N := 2) rfl ?_); refine box_event ?hg (N := 2) ?hd (cs := #[.int .i64 a0_0, .int .i64 a0_1]) (t := 23) ?hr ?_; (case hd => rfl); (case hg => rfl); (case hr => first | (go_simp; done) | (go_simp; rfl)); intro gb744 hg w31 hbox hb; have BK744 := Aside0.mk hbox; have GW744 := bwg_ HB hg; have GE744 := bwg_ HB hg; replace HB := bws_ HB hb; clear hb hbox hg) | ((with_reducible refine gate_dst (N := 3) rfl ?_); refine box_event ?hg (N := 3) ?hd (cs := #[.int .i64 a1_0, .int .i64 a1_1]) (t := 23) ?hr ?_; (case hd => rfl); (case hg => rfl); (case hr => first | (go_simp; done) | (go_simp; rfl)); intro gb745 hg w32 hbox hb; have BK745 := Aside0.mk hbox; have GW745 := bwg_ HB hg; have GE745 := bwg_ HB hg; replace HB := bws_ HB hb; have NB744_745 := bkl_ BK744 hg; have NB745_744 := bkr_ BK744 hg; replace BK744 := bkb_ BK744 hb; clear hb hbox hg) | ((with_reducible refine gate_dst (N := 4) rfl ?_); refine box_event ?hg (N := 4) ?hd (cs := #[.int .i64 0, .int .i64 0]) (t := 23) ?hr ?_; (case hd => rfl); (case hg => rfl); (case hr => first | (go_simp; done) | (go_simp; rfl)); intro gb746 hg w33 hbox hb; have BK746 := Aside0.mk hbox; have GW746 := bwg_ HB hg; have GE746 := bwg_ HB hg; replace HB := bws_ HB hb; have NB744_746 := bkl_ BK744 hg; have NB746_744 := bkr_ BK744 hg; replace BK744 := bkb_ BK744 hb; have NB745_746 := bkl_ BK745 hg; have NB746_745 := bkr_ BK745 hg; replace BK745 := bkb_ BK745 hb; clear hb hbox hg; have hnb34 := NB744_745.out; have hnc34 := NB745_744.out; have hnb35 := NB744_746.out; have hnc35 := NB746_744.out; obtain ⟨hcz36_0, hcz36_1, hfz36_0, hfz36_1⟩ := bc2_ BK744; have hnb37 := NB745_746.out; have hnc37 := NB746_745.out; obtain ⟨hcz38_0, hcz38_1, hfz38_0, hfz38_1⟩ := bc2_ BK745) | ((with_reducible refine gate_callee (f := 97) rfl ?_); refine gla_ (some 9) Try.func97 #[.agg #[.int .i64 a0_0, .int .i64 a0_1], .agg #[.int .i64 a1_0, .int .i64 a1_1]] ?_; (with_reducible refine (withyref01_both.calls k a0_0 a0_1 a1_0 a1_1 t747 _ A3.out).mono ?_); rintro e w39 ⟨rfl, hb⟩; refine ⟨_, rfl, ?_⟩; replace BK744 := bkb_ BK744 hb; replace BK745 := bkb_ BK745 hb; replace BK746 := bkb_ BK746 hb; replace HB := bws_ HB hb; (try clear hb); (try clear hb2); (try clear hk); (try clear hi); obtain ⟨hcz40_0, hcz40_1, hfz40_0, hfz40_1⟩ := bc2_ BK746))
    refine bodyPost_ret (results_ct rfl _ _ gb746 23 #[.int .i64 0, .int .i64 0] (0, 0) _ rfl (by refine bp_ (cs := #[.int .i64 0, .int .i64 0]) ?_ 1; refine bp_ (cs := #[.int .i64 0, .int .i64 0]) ?_ 0; exact bk_ BK746) Try.underlying23 rfl (by kernel_rfl)) rfl ?_
    exact ⟨by first | rfl | (simp [*] <;> rfl), bw_ HB⟩
end Go.Proofs.Ytakcdoahpbeckaa.H
