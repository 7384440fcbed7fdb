/- NumBasics: the printed functions it reaches, with their walks. Laid by wip/claimpack.py out of what wip/hprint.py printed. -/
import Derived.Test.YtakcdoahpbeckaaKNumBasics2
namespace Go.Proofs.Ytakcdoahpbeckaa.H
open Go.RowKit Go.Proofs.YtakcdoahpbeckaaW.PrintWords Go.Proofs.YtakcdoahpbeckaaW.PrintLast Go.Proofs.YtakcdoahpbeckaaW.PrintMore
attribute [local go_sem] max2_int min2_int max_two min_two max_three min_three max_four min_four   -- for this text's walks alone
set_option linter.unusedVariables false
set_option linter.unusedSimpArgs false

/-! ### withyref01_Add: function 52 -/
def withyref01_Add.f (k : Nat) (a0_0 : Int) (a0_1 : Int) (a1_0 : Int) (a1_1 : Int) : Option (Int × Int × Int) := (withyref01_both.f k a0_0 a0_1 a1_0 a1_1).bind fun t726 => (if t726 = 0 then ((withyref01_low.f k (wrap64 ((wrap64 (a0_0 * a1_1)) + (wrap64 (a1_0 * a0_1)))) (wrap64 (a0_1 * a1_1))).bind fun bt727 => (some (bt727.1, bt727.2.1, bt727.2.2))) else (some (0, 0, t726)))
theorem withyref01_Add.mono : ∀ a0 a1 a2 a3 k, LeO (withyref01_Add.f k a0 a1 a2 a3) (withyref01_Add.f (k + 1) a0 a1 a2 a3) := by
  intro a0 a1 a2 a3 k
  unfold withyref01_Add.f
  repeat' first
      | (with_reducible exact withyref01_both.mono _ _ _ _ _)
      | (with_reducible exact withyref01_low.mono _ _ _)
      | (with_reducible exact LeO.refl _)
      | (with_reducible exact LeO.none _)
      | (with_reducible refine LeO.ite ?_ ?_)
      | (with_reducible refine LeO.bind ?_ (fun _ => ?_))
      | (with_reducible refine LeO.exc (fun _ => ?_) (fun _ => ?_))
      | exact withyref01_both.mono _ _ _ _ _
      | exact withyref01_low.mono _ _ _
      | exact LeO.none _
      | refine LeO.ite ?_ ?_
      | refine LeO.bind ?_ (fun _ => ?_)
set_option maxHeartbeats 8000000 in
set_option maxRecDepth 100000 in
theorem withyref01_Add.calls (k : Nat) (a0_0 : Int) (a0_1 : Int) (a1_0 : Int) (a1_1 : Int) (r1 : Int) (r2 : Int) (r3 : Int) (w : World) (h : withyref01_Add.f k a0_0 a0_1 a1_0 a1_1 = some (r1, r2, r3)) :
    Calls Try.prog 52 #[.agg #[.int .i64 a0_0, .int .i64 a0_1], .agg #[.int .i64 a1_0, .int .i64 a1_1]] w fun e w' => e = .returned (.tuple #[.agg #[.int .i64 r1, .int .i64 r2], .int .i64 r3]) ∧ Below w.heap.size w w' := by
  have hu23 := Try.underlying23
  have HB := Aside0.mk (Below.refl w.heap.size w)
  have H : ((withyref01_both.f k a0_0 a0_1 a1_0 a1_1).bind fun t726 => (if t726 = 0 then ((withyref01_low.f k (wrap64 ((wrap64 (a0_0 * a1_1)) + (wrap64 (a1_0 * a0_1)))) (wrap64 (a0_1 * a1_1))).bind fun bt727 => (some (bt727.1, bt727.2.1, bt727.2.2))) else (some (0, 0, t726)))) = some (r1, r2, r3) := h
  clear h
  replace H := Option.bind_eq_some_iff.mp H
  obtain ⟨t726, A30, H⟩ := H
  replace H : (if t726 = 0 then ((withyref01_low.f k (wrap64 ((wrap64 (a0_0 * a1_1)) + (wrap64 (a1_0 * a0_1)))) (wrap64 (a0_1 * a1_1))).bind fun bt727 => (some (bt727.1, bt727.2.1, bt727.2.2))) else (some (0, 0, t726))) = some (r1, r2, r3) := H
  have A3 := Aside0.mk A30
  clear A30
  by_cases c4 : t726 = 0
  · rw [if_pos c4] at H
    have c4b0 : (t726 == 0) = true := beq_iff_eq.mpr c4
    have c4b1 : (t726 != 0) = false := bne_eq_false_iff_eq.mpr c4
    clear c4
    replace H := Option.bind_eq_some_iff.mp H
    obtain ⟨⟨t727, t728, t729⟩, A50, H⟩ := H
    replace H : (some (t727, t728, t729)) = some (r1, r2, r3) := H
    have A5 := Aside0.mk A50
    clear A50
    simp only [Option.some.injEq, Prod.mk.injEq] at H
    obtain ⟨rfl, rfl, rfl⟩ := H
    go_enter Try.func52, Try.ntmps52
    go_wp2_with (first | ((with_reducible refine gate_dst (N := 2) rfl ?_); refine box_event ?hg (N := 2) ?hd (cs := #[.int .i64 a0_0, .int .i64 a0_1]) (t := 23) ?hr ?_; (case hd => rfl); (case hg => rfl); (case hr => first | (go_simp; done) | (go_simp; rfl)); intro gb723 hg w6 hbox hb; have BK723 := Aside0.mk hbox; have GW723 := bwg_ HB hg; have GE723 := bwg_ HB hg; replace HB := bws_ HB hb; clear hb hbox hg) | ((with_reducible refine gate_dst (N := 3) rfl ?_); refine box_event ?hg (N := 3) ?hd (cs := #[.int .i64 a1_0, .int .i64 a1_1]) (t := 23) ?hr ?_; (case hd => rfl); (case hg => rfl); (case hr => first | (go_simp; done) | (go_simp; rfl)); intro gb724 hg w7 hbox hb; have BK724 := Aside0.mk hbox; have GW724 := bwg_ HB hg; have GE724 := bwg_ HB hg; replace HB := bws_ HB hb; have NB723_724 := bkl_ BK723 hg; have NB724_723 := bkr_ BK723 hg; replace BK723 := bkb_ BK723 hb; clear hb hbox hg) | ((with_reducible refine gate_dst (N := 4) rfl ?_); refine box_event ?hg (N := 4) ?hd (cs := #[.int .i64 0, .int .i64 0]) (t := 23) ?hr ?_; (case hd => rfl); (case hg => rfl); (case hr => first | (go_simp; done) | (go_simp; rfl)); intro gb725 hg w8 hbox hb; have BK725 := Aside0.mk hbox; have GW725 := bwg_ HB hg; have GE725 := bwg_ HB hg; replace HB := bws_ HB hb; have NB723_725 := bkl_ BK723 hg; have NB725_723 := bkr_ BK723 hg; replace BK723 := bkb_ BK723 hb; have NB724_725 := bkl_ BK724 hg; have NB725_724 := bkr_ BK724 hg; replace BK724 := bkb_ BK724 hb; clear hb hbox hg; have hnb9 := NB723_724.out; have hnc9 := NB724_723.out; have hnb10 := NB723_725.out; have hnc10 := NB725_723.out; obtain ⟨hcz11_0, hcz11_1, hfz11_0, hfz11_1⟩ := bc2_ BK723; have hnb12 := NB724_725.out; have hnc12 := NB725_724.out; obtain ⟨hcz13_0, hcz13_1, hfz13_0, hfz13_1⟩ := bc2_ BK724) | ((with_reducible refine gate_callee (f := 97) rfl ?_); refine gla_ (some 9) Try.func97 #[.agg #[.int .i64 a0_0, .int .i64 a0_1], .agg #[.int .i64 a1_0, .int .i64 a1_1]] ?_; (with_reducible refine (withyref01_both.calls k a0_0 a0_1 a1_0 a1_1 t726 _ A3.out).mono ?_); rintro e w14 ⟨rfl, hb⟩; refine ⟨_, rfl, ?_⟩; replace BK723 := bkb_ BK723 hb; replace BK724 := bkb_ BK724 hb; replace BK725 := bkb_ BK725 hb; replace HB := bws_ HB hb; (try clear hb); (try clear hb2); (try clear hk); (try clear hi); obtain ⟨hcz15_0, hcz15_1, hfz15_0, hfz15_1⟩ := bc2_ BK723; obtain ⟨hcz16_0, hcz16_1, hfz16_0, hfz16_1⟩ := bc2_ BK724) | ((with_reducible refine gate_callee (f := 96) rfl ?_); refine gla_ (some 30) Try.func96 #[.int .i64 (wrap64 ((wrap64 (a0_0 * a1_1)) + (wrap64 (a1_0 * a0_1)))), .int .i64 (wrap64 (a0_1 * a1_1))] ?_; (with_reducible refine (withyref01_low.calls k (wrap64 ((wrap64 (a0_0 * a1_1)) + (wrap64 (a1_0 * a0_1)))) (wrap64 (a0_1 * a1_1)) t727 t728 t729 _ A5.out).mono ?_); rintro e w17 ⟨rfl, hb⟩; refine ⟨_, rfl, ?_⟩; replace BK723 := bkb_ BK723 hb; replace BK724 := bkb_ BK724 hb; replace BK725 := bkb_ BK725 hb; replace HB := bws_ HB hb; (try clear hb); (try clear hb2); (try clear hk); (try clear hi); obtain ⟨hcz18_0, hcz18_1, hfz18_0, hfz18_1⟩ := bc2_ BK725))
    refine bodyPost_ret (results_ct rfl _ _ gb725 23 #[.int .i64 t727, .int .i64 t728] (0, 0) _ rfl (by refine bp_ (cs := #[.int .i64 t727, .int .i64 0]) ?_ 1; refine bp_ (cs := #[.int .i64 0, .int .i64 0]) ?_ 0; exact bk_ BK725) Try.underlying23 rfl (by kernel_rfl)) rfl ?_
    exact ⟨by first | rfl | (simp [*] <;> rfl), bw_ HB⟩
  · rw [if_neg c4] at H
    have c4b0 : (t726 == 0) = false := beq_eq_false_iff_ne.mpr c4
    have c4b1 : (t726 != 0) = true := bne_iff_ne.mpr c4
    simp only [Option.some.injEq, Prod.mk.injEq] at H
    obtain ⟨rfl, rfl, rfl⟩ := H
    go_enter Try.func52, Try.ntmps52
    go_wp2_with (first | ((with_reducible refine gate_dst (N := 2) rfl ?_); refine box_event ?hg (N := 2) ?hd (cs := #[.int .i64 a0_0, .int .i64 a0_1]) (t := 23) ?hr ?_; (case hd => rfl); (case hg => rfl); (case hr => first | (go_simp; done) | (go_simp; rfl)); intro gb723 hg w19 hbox hb; have BK723 := Aside0.mk hbox; have GW723 := bwg_ HB hg; have GE723 := bwg_ HB hg; replace HB := bws_ HB hb; clear hb hbox hg) | ((with_reducible refine gate_dst (N := 3) rfl ?_); refine box_event ?hg (N := 3) ?hd (cs := #[.int .i64 a1_0, .int .i64 a1_1]) (t := 23) ?hr ?_; (case hd => rfl); (case hg => rfl); (case hr => first | (go_simp; done) | (go_simp; rfl)); intro gb724 hg w20 hbox hb; have BK724 := Aside0.mk hbox; have GW724 := bwg_ HB hg; have GE724 := bwg_ HB hg; replace HB := bws_ HB hb; have NB723_724 := bkl_ BK723 hg; have NB724_723 := bkr_ BK723 hg; replace BK723 := bkb_ BK723 hb; clear hb hbox hg) | ((with_reducible refine gate_dst (N := 4) rfl ?_); refine box_event ?hg (N := 4) ?hd (cs := #[.int .i64 0, .int .i64 0]) (t := 23) ?hr ?_; (case hd => rfl); (case hg => rfl); (case hr => first | (go_simp; done) | (go_simp; rfl)); intro gb725 hg w21 hbox hb; have BK725 := Aside0.mk hbox; have GW725 := bwg_ HB hg; have GE725 := bwg_ HB hg; replace HB := bws_ HB hb; have NB723_725 := bkl_ BK723 hg; have NB725_723 := bkr_ BK723 hg; replace BK723 := bkb_ BK723 hb; have NB724_725 := bkl_ BK724 hg; have NB725_724 := bkr_ BK724 hg; replace BK724 := bkb_ BK724 hb; clear hb hbox hg; have hnb22 := NB723_724.out; have hnc22 := NB724_723.out; have hnb23 := NB723_725.out; have hnc23 := NB725_723.out; obtain ⟨hcz24_0, hcz24_1, hfz24_0, hfz24_1⟩ := bc2_ BK723; have hnb25 := NB724_725.out; have hnc25 := NB725_724.out; obtain ⟨hcz26_0, hcz26_1, hfz26_0, hfz26_1⟩ := bc2_ BK724) | ((with_reducible refine gate_callee (f := 97) rfl ?_); refine gla_ (some 9) Try.func97 #[.agg #[.int .i64 a0_0, .int .i64 a0_1], .agg #[.int .i64 a1_0, .int .i64 a1_1]] ?_; (with_reducible refine (withyref01_both.calls k a0_0 a0_1 a1_0 a1_1 t726 _ A3.out).mono ?_); rintro e w27 ⟨rfl, hb⟩; refine ⟨_, rfl, ?_⟩; replace BK723 := bkb_ BK723 hb; replace BK724 := bkb_ BK724 hb; replace BK725 := bkb_ BK725 hb; replace HB := bws_ HB hb; (try clear hb); (try clear hb2); (try clear hk); (try clear hi); obtain ⟨hcz28_0, hcz28_1, hfz28_0, hfz28_1⟩ := bc2_ BK725))
    refine bodyPost_ret (results_ct rfl _ _ gb725 23 #[.int .i64 0, .int .i64 0] (0, 0) _ rfl (by refine bp_ (cs := #[.int .i64 0, .int .i64 0]) ?_ 1; refine bp_ (cs := #[.int .i64 0, .int .i64 0]) ?_ 0; exact bk_ BK725) Try.underlying23 rfl (by kernel_rfl)) rfl ?_
    exact ⟨by first | rfl | (simp [*] <;> rfl), bw_ HB⟩
/-! ### withyref01_Sub: function 53 -/
def withyref01_Sub.f (k : Nat) (a0_0 : Int) (a0_1 : Int) (a1_0 : Int) (a1_1 : Int) : Option (Int × Int × Int) := (withyref01_both.f k a0_0 a0_1 a1_0 a1_1).bind fun t733 => (if t733 = 0 then ((withyref01_low.f k (wrap64 ((wrap64 (a0_0 * a1_1)) - (wrap64 (a1_0 * a0_1)))) (wrap64 (a0_1 * a1_1))).bind fun bt734 => (some (bt734.1, bt734.2.1, bt734.2.2))) else (some (0, 0, t733)))
theorem withyref01_Sub.mono : ∀ a0 a1 a2 a3 k, LeO (withyref01_Sub.f k a0 a1 a2 a3) (withyref01_Sub.f (k + 1) a0 a1 a2 a3) := by
  intro a0 a1 a2 a3 k
  unfold withyref01_Sub.f
  repeat' first
      | (with_reducible exact withyref01_both.mono _ _ _ _ _)
      | (with_reducible exact withyref01_low.mono _ _ _)
      | (with_reducible exact LeO.refl _)
      | (with_reducible exact LeO.none _)
      | (with_reducible refine LeO.ite ?_ ?_)
      | (with_reducible refine LeO.bind ?_ (fun _ => ?_))
      | (with_reducible refine LeO.exc (fun _ => ?_) (fun _ => ?_))
      | exact withyref01_both.mono _ _ _ _ _
      | exact withyref01_low.mono _ _ _
      | exact LeO.none _
      | refine LeO.ite ?_ ?_
      | refine LeO.bind ?_ (fun _ => ?_)
set_option maxHeartbeats 8000000 in
set_option maxRecDepth 100000 in
theorem withyref01_Sub.calls (k : Nat) (a0_0 : Int) (a0_1 : Int) (a1_0 : Int) (a1_1 : Int) (r1 : Int) (r2 : Int) (r3 : Int) (w : World) (h : withyref01_Sub.f k a0_0 a0_1 a1_0 a1_1 = some (r1, r2, r3)) :
    Calls Try.prog 53 #[.agg #[.int .i64 a0_0, .int .i64 a0_1], .agg #[.int .i64 a1_0, .int .i64 a1_1]] w fun e w' => e = .returned (.tuple #[.agg #[.int .i64 r1, .int .i64 r2], .int .i64 r3]) ∧ Below w.heap.size w w' := by
  have hu23 := Try.underlying23
  have HB := Aside0.mk (Below.refl w.heap.size w)
  have H : ((withyref01_both.f k a0_0 a0_1 a1_0 a1_1).bind fun t733 => (if t733 = 0 then ((withyref01_low.f k (wrap64 ((wrap64 (a0_0 * a1_1)) - (wrap64 (a1_0 * a0_1)))) (wrap64 (a0_1 * a1_1))).bind fun bt734 => (some (bt734.1, bt734.2.1, bt734.2.2))) else (some (0, 0, t733)))) = some (r1, r2, r3) := h
  clear h
  replace H := Option.bind_eq_some_iff.mp H
  obtain ⟨t733, A30, H⟩ := H
  replace H : (if t733 = 0 then ((withyref01_low.f k (wrap64 ((wrap64 (a0_0 * a1_1)) - (wrap64 (a1_0 * a0_1)))) (wrap64 (a0_1 * a1_1))).bind fun bt734 => (some (bt734.1, bt734.2.1, bt734.2.2))) else (some (0, 0, t733))) = some (r1, r2, r3) := H
  have A3 := Aside0.mk A30
  clear A30
  by_cases c4 : t733 = 0
  · rw [if_pos c4] at H
    have c4b0 : (t733 == 0) = true := beq_iff_eq.mpr c4
    have c4b1 : (t733 != 0) = false := bne_eq_false_iff_eq.mpr c4
    clear c4
    replace H := Option.bind_eq_some_iff.mp H
    obtain ⟨⟨t734, t735, t736⟩, A50, H⟩ := H
    replace H : (some (t734, t735, t736)) = some (r1, r2, r3) := H
    have A5 := Aside0.mk A50
    clear A50
    simp only [Option.some.injEq, Prod.mk.injEq] at H
    obtain ⟨rfl, rfl, rfl⟩ := H
    go_enter Try.func53, Try.ntmps53
    go_wp2_with (first | ((with_reducible refine gate_dst (N := 2) rfl ?_); refine box_event ?hg (N := 2) ?hd (cs := #[.int .i64 a0_0, .int .i64 a0_1]) (t := 23) ?hr ?_; (case hd => rfl); (case hg => rfl); (case hr => first | (go_simp; done) | (go_simp; rfl)); intro gb730 hg w6 hbox hb; have BK730 := Aside0.mk hbox; have GW730 := bwg_ HB hg; have GE730 := bwg_ HB hg; replace HB := bws_ HB hb; clear hb hbox hg) | ((with_reducible refine gate_dst (N := 3) rfl ?_); refine box_event ?hg (N := 3) ?hd (cs := #[.int .i64 a1_0, .int .i64 a1_1]) (t := 23) ?hr ?_; (case hd => rfl); (case hg => rfl); (case hr => first | (go_simp; done) | (go_simp; rfl)); intro gb731 hg w7 hbox hb; have BK731 := Aside0.mk hbox; have GW731 := bwg_ HB hg; have GE731 := bwg_ HB hg; replace HB := bws_ HB hb; have NB730_731 := bkl_ BK730 hg; have NB731_730 := bkr_ BK730 hg; replace BK730 := bkb_ BK730 hb; clear hb hbox hg) | ((with_reducible refine gate_dst (N := 4) rfl ?_); refine box_event ?hg (N := 4) ?hd (cs := #[.int .i64 0, .int .i64 0]) (t := 23) ?hr ?_; (case hd => rfl); (case hg => rfl); (case hr => first | (go_simp; done) | (go_simp; rfl)); intro gb732 hg w8 hbox hb; have BK732 := Aside0.mk hbox; have GW732 := bwg_ HB hg; have GE732 := bwg_ HB hg; replace HB := bws_ HB hb; have NB730_732 := bkl_ BK730 hg; have NB732_730 := bkr_ BK730 hg; replace BK730 := bkb_ BK730 hb; have NB731_732 := bkl_ BK731 hg; have NB732_731 := bkr_ BK731 hg; replace BK731 := bkb_ BK731 hb; clear hb hbox hg; have hnb9 := NB730_731.out; have hnc9 := NB731_730.out; have hnb10 := NB730_732.out; have hnc10 := NB732_730.out; obtain ⟨hcz11_0, hcz11_1, hfz11_0, hfz11_1⟩ := bc2_ BK730; have hnb12 := NB731_732.out; have hnc12 := NB732_731.out; obtain ⟨hcz13_0, hcz13_1, hfz13_0, hfz13_1⟩ := bc2_ BK731) | ((with_reducible refine gate_callee (f := 97) rfl ?_); refine gla_ (some 9) Try.func97 #[.agg #[.int .i64 a0_0, .int .i64 a0_1], .agg #[.int .i64 a1_0, .int .i64 a1_1]] ?_; (with_reducible refine (withyref01_both.calls k a0_0 a0_1 a1_0 a1_1 t733 _ A3.out).mono ?_); rintro e w14 ⟨rfl, hb⟩; refine ⟨_, rfl, ?_⟩; replace BK730 := bkb_ BK730 hb; replace BK731 := bkb_ BK731 hb; replace BK732 := bkb_ BK732 hb; replace HB := bws_ HB hb; (try clear hb); (try clear hb2); (try clear hk); (try clear hi); obtain ⟨hcz15_0, hcz15_1, hfz15_0, hfz15_1⟩ := bc2_ BK730; obtain ⟨hcz16_0, hcz16_1, hfz16_0, hfz16_1⟩ := bc2_ BK731) | ((with_reducible refine gate_callee (f := 96) rfl ?_); refine gla_ (some 30) Try.func96 #[.int .i64 (wrap64 ((wrap64 (a0_0 * a1_1)) - (wrap64 (a1_0 * a0_1)))), .int .i64 (wrap64 (a0_1 * a1_1))] ?_; (with_reducible refine (withyref01_low.calls k (wrap64 ((wrap64 (a0_0 * a1_1)) - (wrap64 (a1_0 * a0_1)))) (wrap64 (a0_1 * a1_1)) t734 t735 t736 _ A5.out).mono ?_); rintro e w17 ⟨rfl, hb⟩; refine ⟨_, rfl, ?_⟩; replace BK730 := bkb_ BK730 hb; replace BK731 := bkb_ BK731 hb; replace BK732 := bkb_ BK732 hb; replace HB := bws_ HB hb; (try clear hb); (try clear hb2); (try clear hk); (try clear hi); obtain ⟨hcz18_0, hcz18_1, hfz18_0, hfz18_1⟩ := bc2_ BK732))
    refine bodyPost_ret (results_ct rfl _ _ gb732 23 #[.int .i64 t734, .int .i64 t735] (0, 0) _ rfl (by refine bp_ (cs := #[.int .i64 t734, .int .i64 0]) ?_ 1; refine bp_ (cs := #[.int .i64 0, .int .i64 0]) ?_ 0; exact bk_ BK732) Try.underlying23 rfl (by kernel_rfl)) rfl ?_
    exact ⟨by first | rfl | (simp [*] <;> rfl), bw_ HB⟩
  · rw [if_neg c4] at H
    have c4b0 : (t733 == 0) = false := beq_eq_false_iff_ne.mpr c4
    have c4b1 : (t733 != 0) = true := bne_iff_ne.mpr c4
    simp only [Option.some.injEq, Prod.mk.injEq] at H
    obtain ⟨rfl, rfl, rfl⟩ := H
    go_enter Try.func53, Try.ntmps53
    go_wp2_with (first | ((with_reducible refine gate_dst (N := 2) rfl ?_); refine box_event ?hg (N := 2) ?hd (cs := #[.int .i64 a0_0, .int .i64 a0_1]) (t := 23) ?hr ?_; (case hd => rfl); (case hg => rfl); (case hr => first | (go_simp; done) | (go_simp; rfl)); intro gb730 hg w19 hbox hb; have BK730 := Aside0.mk hbox; have GW730 := bwg_ HB hg; have GE730 := bwg_ HB hg; replace HB := bws_ HB hb; clear hb hbox hg) | ((with_reducible refine gate_dst (N := 3) rfl ?_); refine box_event ?hg (N := 3) ?hd (cs := #[.int .i64 a1_0, .int .i64 a1_1]) (t := 23) ?hr ?_; (case hd => rfl); (case hg => rfl); (case hr => first | (go_simp; done) | (go_simp; rfl)); intro gb731 hg w20 hbox hb; have BK731 := Aside0.mk hbox; have GW731 := bwg_ HB hg; have GE731 := bwg_ HB hg; replace HB := bws_ HB hb; have NB730_731 := bkl_ BK730 hg; have NB731_730 := bkr_ BK730 hg; replace BK730 := bkb_ BK730 hb; clear hb hbox hg) | ((with_reducible refine gate_dst (N := 4) rfl ?_); refine box_event ?hg (N := 4) ?hd (cs := #[.int .i64 0, .int .i64 0]) (t := 23) ?hr ?_; (case hd => rfl); (case hg => rfl); (case hr => first | (go_simp; done) | (go_simp; rfl)); intro gb732 hg w21 hbox hb; have BK732 := Aside0.mk hbox; have GW732 := bwg_ HB hg; have GE732 := bwg_ HB hg; replace HB := bws_ HB hb; have NB730_732 := bkl_ BK730 hg; have NB732_730 := bkr_ BK730 hg; replace BK730 := bkb_ BK730 hb; have NB731_732 := bkl_ BK731 hg; have NB732_731 := bkr_ BK731 hg; replace BK731 := bkb_ BK731 hb; clear hb hbox hg; have hnb22 := NB730_731.out; have hnc22 := NB731_730.out; have hnb23 := NB730_732.out; have hnc23 := NB732_730.out; obtain ⟨hcz24_0, hcz24_1, hfz24_0, hfz24_1⟩ := bc2_ BK730; have hnb25 := NB731_732.out; have hnc25 := NB732_731.out; obtain ⟨hcz26_0, hcz26_1, hfz26_0, hfz26_1⟩ := bc2_ BK731) | ((with_reducible refine gate_callee (f := 97) rfl ?_); refine gla_ (some 9) Try.func97 #[.agg #[.int .i64 a0_0, .int .i64 a0_1], .agg #[.int .i64 a1_0, .int .i64 a1_1]] ?_; (with_reducible refine (withyref01_both.calls k a0_0 a0_1 a1_0 a1_1 t733 _ A3.out).mono ?_); rintro e w27 ⟨rfl, hb⟩; refine ⟨_, rfl, ?_⟩; replace BK730 := bkb_ BK730 hb; replace BK731 := bkb_ BK731 hb; replace BK732 := bkb_ BK732 hb; replace HB := bws_ HB hb; (try clear hb); (try clear hb2); (try clear hk); (try clear hi); obtain ⟨hcz28_0, hcz28_1, hfz28_0, hfz28_1⟩ := bc2_ BK732))
    refine bodyPost_ret (results_ct rfl _ _ gb732 23 #[.int .i64 0, .int .i64 0] (0, 0) _ rfl (by refine bp_ (cs := #[.int .i64 0, .int .i64 0]) ?_ 1; refine bp_ (cs := #[.int .i64 0, .int .i64 0]) ?_ 0; exact bk_ BK732) Try.underlying23 rfl (by kernel_rfl)) rfl ?_
    exact ⟨by first | rfl | (simp [*] <;> rfl), bw_ HB⟩
/-! ### withyref01_Mul: function 54 -/
def withyref01_Mul.f (k : Nat) (a0_0 : Int) (a0_1 : Int) (a1_0 : Int) (a1_1 : Int) : Option (Int × Int × Int) := (withyref01_both.f k a0_0 a0_1 a1_0 a1_1).bind fun t740 => (if t740 = 0 then ((withyref01_low.f k (wrap64 (a0_0 * a1_0)) (wrap64 (a0_1 * a1_1))).bind fun bt741 => (some (bt741.1, bt741.2.1, bt741.2.2))) else (some (0, 0, t740)))
theorem withyref01_Mul.mono : ∀ a0 a1 a2 a3 k, LeO (withyref01_Mul.f k a0 a1 a2 a3) (withyref01_Mul.f (k + 1) a0 a1 a2 a3) := by
  intro a0 a1 a2 a3 k
  unfold withyref01_Mul.f
  repeat' first
      | (with_reducible exact withyref01_both.mono _ _ _ _ _)
      | (with_reducible exact withyref01_low.mono _ _ _)
      | (with_reducible exact LeO.refl _)
      | (with_reducible exact LeO.none _)
      | (with_reducible refine LeO.ite ?_ ?_)
      | (with_reducible refine LeO.bind ?_ (fun _ => ?_))
      | (with_reducible refine LeO.exc (fun _ => ?_) (fun _ => ?_))
      | exact withyref01_both.mono _ _ _ _ _
      | exact withyref01_low.mono _ _ _
      | exact LeO.none _
      | refine LeO.ite ?_ ?_
      | refine LeO.bind ?_ (fun _ => ?_)
set_option maxHeartbeats 8000000 in
set_option maxRecDepth 100000 in
theorem withyref01_Mul.calls (k : Nat) (a0_0 : Int) (a0_1 : Int) (a1_0 : Int) (a1_1 : Int) (r1 : Int) (r2 : Int) (r3 : Int) (w : World) (h : withyref01_Mul.f k a0_0 a0_1 a1_0 a1_1 = some (r1, r2, r3)) :
    Calls Try.prog 54 #[.agg #[.int .i64 a0_0, .int .i64 a0_1], .agg #[.int .i64 a1_0, .int .i64 a1_1]] w fun e w' => e = .returned (.tuple #[.agg #[.int .i64 r1, .int .i64 r2], .int .i64 r3]) ∧ Below w.heap.size w w' := by
  have hu23 := Try.underlying23
  have HB := Aside0.mk (Below.refl w.heap.size w)
  have H : ((withyref01_both.f k a0_0 a0_1 a1_0 a1_1).bind fun t740 => (if t740 = 0 then ((withyref01_low.f k (wrap64 (a0_0 * a1_0)) (wrap64 (a0_1 * a1_1))).bind fun bt741 => (some (bt741.1, bt741.2.1, bt741.2.2))) else (some (0, 0, t740)))) = some (r1, r2, r3) := h
  clear h
  replace H := Option.bind_eq_some_iff.mp H
  obtain ⟨t740, A30, H⟩ := H
  replace H : (if t740 = 0 then ((withyref01_low.f k (wrap64 (a0_0 * a1_0)) (wrap64 (a0_1 * a1_1))).bind fun bt741 => (some (bt741.1, bt741.2.1, bt741.2.2))) else (some (0, 0, t740))) = some (r1, r2, r3) := H
  have A3 := Aside0.mk A30
  clear A30
  by_cases c4 : t740 = 0
  · rw [if_pos c4] at H
    have c4b0 : (t740 == 0) = true := beq_iff_eq.mpr c4
    have c4b1 : (t740 != 0) = false := bne_eq_false_iff_eq.mpr c4
    clear c4
    replace H := Option.bind_eq_some_iff.mp H
    obtain ⟨⟨t741, t742, t743⟩, A50, H⟩ := H
    replace H : (some (t741, t742, t743)) = some (r1, r2, r3) := H
    have A5 := Aside0.mk A50
    clear A50
    simp only [Option.some.injEq, Prod.mk.injEq] at H
    obtain ⟨rfl, rfl, rfl⟩ := H
    go_enter Try.func54, Try.ntmps54
    go_wp2_with (first | ((with_reducible refine gate_dst (N := 2) rfl ?_); refine box_event ?hg (N := 2) ?hd (cs := #[.int .i64 a0_0, .int .i64 a0_1]) (t := 23) ?hr ?_; (case hd => rfl); (case hg => rfl); (case hr => first | (go_simp; done) | (go_simp; rfl)); intro gb737 hg w6 hbox hb; have BK737 := Aside0.mk hbox; have GW737 := bwg_ HB hg; have GE737 := bwg_ HB hg; replace HB := bws_ HB hb; clear hb hbox hg) | ((with_reducible refine gate_dst (N := 3) rfl ?_); refine box_event ?hg (N := 3) ?hd (cs := #[.int .i64 a1_0, .int .i64 a1_1]) (t := 23) ?hr ?_; (case hd => rfl); (case hg => rfl); (case hr => first | (go_simp; done) | (go_simp; rfl)); intro gb738 hg w7 hbox hb; have BK738 := Aside0.mk hbox; have GW738 := bwg_ HB hg; have GE738 := bwg_ HB hg; replace HB := bws_ HB hb; have NB737_738 := bkl_ BK737 hg; have NB738_737 := bkr_ BK737 hg; replace BK737 := bkb_ BK737 hb; clear hb hbox hg) | ((with_reducible refine gate_dst (N := 4) rfl ?_); refine box_event ?hg (N := 4) ?hd (cs := #[.int .i64 0, .int .i64 0]) (t := 23) ?hr ?_; (case hd => rfl); (case hg => rfl); (case hr => first | (go_simp; done) | (go_simp; rfl)); intro gb739 hg w8 hbox hb; have BK739 := Aside0.mk hbox; have GW739 := bwg_ HB hg; have GE739 := bwg_ HB hg; replace HB := bws_ HB hb; have NB737_739 := bkl_ BK737 hg; have NB739_737 := bkr_ BK737 hg; replace BK737 := bkb_ BK737 hb; have NB738_739 := bkl_ BK738 hg; have NB739_738 := bkr_ BK738 hg; replace BK738 := bkb_ BK738 hb; clear hb hbox hg; have hnb9 := NB737_738.out; have hnc9 := NB738_737.out; have hnb10 := NB737_739.out; have hnc10 := NB739_737.out; obtain ⟨hcz11_0, hcz11_1, hfz11_0, hfz11_1⟩ := bc2_ BK737; have hnb12 := NB738_739.out; have hnc12 := NB739_738.out; obtain ⟨hcz13_0, hcz13_1, hfz13_0, hfz13_1⟩ := bc2_ BK738) | ((with_reducible refine gate_callee (f := 97) rfl ?_); refine gla_ (some 9) Try.func97 #[.agg #[.int .i64 a0_0, .int .i64 a0_1], .agg #[.int .i64 a1_0, .int .i64 a1_1]] ?_; (with_reducible refine (withyref01_both.calls k a0_0 a0_1 a1_0 a1_1 t740 _ A3.out).mono ?_); rintro e w14 ⟨rfl, hb⟩; refine ⟨_, rfl, ?_⟩; replace BK737 := bkb_ BK737 hb; replace BK738 := bkb_ BK738 hb; replace BK739 := bkb_ BK739 hb; replace HB := bws_ HB hb; (try clear hb); (try clear hb2); (try clear hk); (try clear hi); obtain ⟨hcz15_0, hcz15_1, hfz15_0, hfz15_1⟩ := bc2_ BK737; obtain ⟨hcz16_0, hcz16_1, hfz16_0, hfz16_1⟩ := bc2_ BK738) | ((with_reducible refine gate_callee (f := 96) rfl ?_); refine gla_ (some 24) Try.func96 #[.int .i64 (wrap64 (a0_0 * a1_0)), .int .i64 (wrap64 (a0_1 * a1_1))] ?_; (with_reducible refine (withyref01_low.calls k (wrap64 (a0_0 * a1_0)) (wrap64 (a0_1 * a1_1)) t741 t742 t743 _ A5.out).mono ?_); rintro e w17 ⟨rfl, hb⟩; refine ⟨_, rfl, ?_⟩; replace BK737 := bkb_ BK737 hb; replace BK738 := bkb_ BK738 hb; replace BK739 := bkb_ BK739 hb; replace HB := bws_ HB hb; (try clear hb); (try clear hb2); (try clear hk); (try clear hi); obtain ⟨hcz18_0, hcz18_1, hfz18_0, hfz18_1⟩ := bc2_ BK739))
    refine bodyPost_ret (results_ct rfl _ _ gb739 23 #[.int .i64 t741, .int .i64 t742] (0, 0) _ rfl (by refine bp_ (cs := #[.int .i64 t741, .int .i64 0]) ?_ 1; refine bp_ (cs := #[.int .i64 0, .int .i64 0]) ?_ 0; exact bk_ BK739) Try.underlying23 rfl (by kernel_rfl)) rfl ?_
    exact ⟨by first | rfl | (simp [*] <;> rfl), bw_ HB⟩
  · rw [if_neg c4] at H
    have c4b0 : (t740 == 0) = false := beq_eq_false_iff_ne.mpr c4
    have c4b1 : (t740 != 0) = true := bne_iff_ne.mpr c4
    simp only [Option.some.injEq, Prod.mk.injEq] at H
    obtain ⟨rfl, rfl, rfl⟩ := H
    go_enter Try.func54, Try.ntmps54
    go_wp2_with (first | ((with_reducible refine gate_dst (N := 2) rfl ?_); refine box_event ?hg (N := 2) ?hd (cs := #[.int .i64 a0_0, .int .i64 a0_1]) (t := 23) ?hr ?_; (case hd => rfl); (case hg => rfl); (case hr => first | (go_simp; done) | (go_simp; rfl)); intro gb737 hg w19 hbox hb; have BK737 := Aside0.mk hbox; have GW737 := bwg_ HB hg; have GE737 := bwg_ HB hg; replace HB := bws_ HB hb; clear hb hbox hg) | ((with_reducible refine gate_dst (N := 3) rfl ?_); refine box_event ?hg (N := 3) ?hd (cs := #[.int .i64 a1_0, .int .i64 a1_1]) (t := 23) ?hr ?_; (case hd => rfl); (case hg => rfl); (case hr => first | (go_simp; done) | (go_simp; rfl)); intro gb738 hg w20 hbox hb; have BK738 := Aside0.mk hbox; have GW738 := bwg_ HB hg; have GE738 := bwg_ HB hg; replace HB := bws_ HB hb; have NB737_738 := bkl_ BK737 hg; have NB738_737 := bkr_ BK737 hg; replace BK737 := bkb_ BK737 hb; clear hb hbox hg) | ((with_reducible refine gate_dst (N := 4) rfl ?_); refine box_event ?hg (N := 4) ?hd (cs := #[.int .i64 0, .int .i64 0]) (t := 23) ?hr ?_; (case hd => rfl); (case hg => rfl); (case hr => first | (go_simp; done) | (go_simp; rfl)); intro gb739 hg w21 hbox hb; have BK739 := Aside0.mk hbox; have GW739 := bwg_ HB hg; have GE739 := bwg_ HB hg; replace HB := bws_ HB hb; have NB737_739 := bkl_ BK737 hg; have NB739_737 := bkr_ BK737 hg; replace BK737 := bkb_ BK737 hb; have NB738_739 := bkl_ BK738 hg; have NB739_738 := bkr_ BK738 hg; replace BK738 := bkb_ BK738 hb; clear hb hbox hg; have hnb22 := NB737_738.out; have hnc22 := NB738_737.out; have hnb23 := NB737_739.out; have hnc23 := NB739_737.out; obtain ⟨hcz24_0, hcz24_1, hfz24_0, hfz24_1⟩ := bc2_ BK737; have hnb25 := NB738_739.out; have hnc25 := NB739_738.out; obtain ⟨hcz26_0, hcz26_1, hfz26_0, hfz26_1⟩ := bc2_ BK738) | ((with_reducible refine gate_callee (f := 97) rfl ?_); refine gla_ (some 9) Try.func97 #[.agg #[.int .i64 a0_0, .int .i64 a0_1], .agg #[.int .i64 a1_0, .int .i64 a1_1]] ?_; (with_reducible refine (withyref01_both.calls k a0_0 a0_1 a1_0 a1_1 t740 _ A3.out).mono ?_); rintro e w27 ⟨rfl, hb⟩; refine ⟨_, rfl, ?_⟩; replace BK737 := bkb_ BK737 hb; replace BK738 := bkb_ BK738 hb; replace BK739 := bkb_ BK739 hb; replace HB := bws_ HB hb; (try clear hb); (try clear hb2); (try clear hk); (try clear hi); obtain ⟨hcz28_0, hcz28_1, hfz28_0, hfz28_1⟩ := bc2_ BK739))
    refine bodyPost_ret (results_ct rfl _ _ gb739 23 #[.int .i64 0, .int .i64 0] (0, 0) _ rfl (by refine bp_ (cs := #[.int .i64 0, .int .i64 0]) ?_ 1; refine bp_ (cs := #[.int .i64 0, .int .i64 0]) ?_ 0; exact bk_ BK739) Try.underlying23 rfl (by kernel_rfl)) rfl ?_
    exact ⟨by first | rfl | (simp [*] <;> rfl), bw_ HB⟩
/-! ### withyref01_Div: function 55 -/
def withyref01_Div.f (k : Nat) (a0_0 : Int) (a0_1 : Int) (a1_0 : Int) (a1_1 : Int) : Option (Int × Int × Int) := (withyref01_both.f k a0_0 a0_1 a1_0 a1_1).bind fun t747 => (if t747 = 0 then (if a1_0 = 0 then (some (0, 0, 10)) else ((withyref01_low.f k (wrap64 (a0_0 * a1_1)) (wrap64 (a0_1 * a1_0))).bind fun bt748 => (some (bt748.1, bt748.2.1, bt748.2.2)))) else (some (0, 0, t747)))
theorem withyref01_Div.mono : ∀ a0 a1 a2 a3 k, LeO (withyref01_Div.f k a0 a1 a2 a3) (withyref01_Div.f (k + 1) a0 a1 a2 a3) := by
  intro a0 a1 a2 a3 k
  unfold withyref01_Div.f
  repeat' first
      | (with_reducible exact withyref01_both.mono _ _ _ _ _)
      | (with_reducible exact withyref01_low.mono _ _ _)
      | (with_reducible exact LeO.refl _)
      | (with_reducible exact LeO.none _)
      | (with_reducible refine LeO.ite ?_ ?_)
      | (with_reducible refine LeO.bind ?_ (fun _ => ?_))
      | (with_reducible refine LeO.exc (fun _ => ?_) (fun _ => ?_))
      | exact withyref01_both.mono _ _ _ _ _
      | exact withyref01_low.mono _ _ _
      | exact LeO.none _
      | refine LeO.ite ?_ ?_
      | refine LeO.bind ?_ (fun _ => ?_)
set_option maxHeartbeats 8000000 in
set_option maxRecDepth 100000 in
theorem withyref01_Div.calls (k : Nat) (a0_0 : Int) (a0_1 : Int) (a1_0 : Int) (a1_1 : Int) (r1 : Int) (r2 : Int) (r3 : Int) (w : World) (h : withyref01_Div.f k a0_0 a0_1 a1_0 a1_1 = some (r1, r2, r3)) :
    Calls Try.prog 55 #[.agg #[.int .i64 a0_0, .int .i64 a0_1], .agg #[.int .i64 a1_0, .int .i64 a1_1]] w fun e w' => e = .returned (.tuple #[.agg #[.int .i64 r1, .int .i64 r2], .int .i64 r3]) ∧ Below w.heap.size w w' := by
  have hu23 := Try.underlying23
  have HB := Aside0.mk (Below.refl w.heap.size w)
  have H : ((withyref01_both.f k a0_0 a0_1 a1_0 a1_1).bind fun t747 => (if t747 = 0 then (if a1_0 = 0 then (some (0, 0, 10)) else ((withyref01_low.f k (wrap64 (a0_0 * a1_1)) (wrap64 (a0_1 * a1_0))).bind fun bt748 => (some (bt748.1, bt748.2.1, bt748.2.2)))) else (some (0, 0, t747)))) = some (r1, r2, r3) := h
  clear h
  replace H := Option.bind_eq_some_iff.mp H
  obtain ⟨t747, A30, H⟩ := H
  replace H : (if t747 = 0 then (if a1_0 = 0 then (some (0, 0, 10)) else ((withyref01_low.f k (wrap64 (a0_0 * a1_1)) (wrap64 (a0_1 * a1_0))).bind fun bt748 => (some (bt748.1, bt748.2.1, bt748.2.2)))) else (some (0, 0, t747))) = some (r1, r2, r3) := H
  have A3 := Aside0.mk A30
  clear A30
  by_cases c4 : t747 = 0
  · rw [if_pos c4] at H
    have c4b0 : (t747 == 0) = true := beq_iff_eq.mpr c4
    have c4b1 : (t747 != 0) = false := bne_eq_false_iff_eq.mpr c4
    clear c4
    by_cases c5 : a1_0 = 0
    · rw [if_pos c5] at H
      have c5b0 : (a1_0 == 0) = true := beq_iff_eq.mpr c5
      have c5b1 : (a1_0 != 0) = false := bne_eq_false_iff_eq.mpr c5
      clear c5
      simp only [Option.some.injEq, Prod.mk.injEq] at H
      obtain ⟨rfl, rfl, rfl⟩ := H
      go_enter Try.func55, Try.ntmps55
      go_wp2_with (first | ((with_reducible refine gate_dst (N := 2) rfl ?_); refine box_event ?hg (N := 2) ?hd (cs := #[.int .i64 a0_0, .int .i64 a0_1]) (t := 23) ?hr ?_; (case hd => rfl); (case hg => rfl); (case hr => first | (go_simp; done) | (go_simp; rfl)); intro gb744 hg w6 hbox hb; have BK744 := Aside0.mk hbox; have GW744 := bwg_ HB hg; have GE744 := bwg_ HB hg; replace HB := bws_ HB hb; clear hb hbox hg) | ((with_reducible refine gate_dst (N := 3) rfl ?_); refine box_event ?hg (N := 3) ?hd (cs := #[.int .i64 a1_0, .int .i64 a1_1]) (t := 23) ?hr ?_; (case hd => rfl); (case hg => rfl); (case hr => first | (go_simp; done) | (go_simp; rfl)); intro gb745 hg w7 hbox hb; have BK745 := Aside0.mk hbox; have GW745 := bwg_ HB hg; have GE745 := bwg_ HB hg; replace HB := bws_ HB hb; have NB744_745 := bkl_ BK744 hg; have NB745_744 := bkr_ BK744 hg; replace BK744 := bkb_ BK744 hb; clear hb hbox hg) | ((with_reducible refine gate_dst (N := 4) rfl ?_); refine box_event ?hg (N := 4) ?hd (cs := #[.int .i64 0, .int .i64 0]) (t := 23) ?hr ?_; (case hd => rfl); (case hg => rfl); (case hr => first | (go_simp; done) | (go_simp; rfl)); intro gb746 hg w8 hbox hb; have BK746 := Aside0.mk hbox; have GW746 := bwg_ HB hg; have GE746 := bwg_ HB hg; replace HB := bws_ HB hb; have NB744_746 := bkl_ BK744 hg; have NB746_744 := bkr_ BK744 hg; replace BK744 := bkb_ BK744 hb; have NB745_746 := bkl_ BK745 hg; have NB746_745 := bkr_ BK745 hg; replace BK745 := bkb_ BK745 hb; clear hb hbox hg; have hnb9 := NB744_745.out; have hnc9 := NB745_744.out; have hnb10 := NB744_746.out; have hnc10 := NB746_744.out; obtain ⟨hcz11_0, hcz11_1, hfz11_0, hfz11_1⟩ := bc2_ BK744; have hnb12 := NB745_746.out; have hnc12 := NB746_745.out; obtain ⟨hcz13_0, hcz13_1, hfz13_0, hfz13_1⟩ := bc2_ BK745) | ((with_reducible refine gate_callee (f := 97) rfl ?_); refine gla_ (some 9) Try.func97 #[.agg #[.int .i64 a0_0, .int .i64 a0_1], .agg #[.int .i64 a1_0, .int .i64 a1_1]] ?_; (with_reducible refine (withyref01_both.calls k a0_0 a0_1 a1_0 a1_1 t747 _ A3.out).mono ?_); rintro e w14 ⟨rfl, hb⟩; refine ⟨_, rfl, ?_⟩; replace BK744 := bkb_ BK744 hb; replace BK745 := bkb_ BK745 hb; replace BK746 := bkb_ BK746 hb; replace HB := bws_ HB hb; (try clear hb); (try clear hb2); (try clear hk); (try clear hi); obtain ⟨hcz15_0, hcz15_1, hfz15_0, hfz15_1⟩ := bc2_ BK745; obtain ⟨hcz16_0, hcz16_1, hfz16_0, hfz16_1⟩ := bc2_ BK746))
      refine bodyPost_ret (results_ct rfl _ _ gb746 23 #[.int .i64 0, .int .i64 0] (0, 0) _ rfl (by refine bp_ (cs := #[.int .i64 0, .int .i64 0]) ?_ 1; refine bp_ (cs := #[.int .i64 0, .int .i64 0]) ?_ 0; exact bk_ BK746) Try.underlying23 rfl (by kernel_rfl)) rfl ?_
      exact ⟨by first | rfl | (simp [*] <;> rfl), bw_ HB⟩
    · rw [if_neg c5] at H
      have c5b0 : (a1_0 == 0) = false := beq_eq_false_iff_ne.mpr c5
      have c5b1 : (a1_0 != 0) = true := bne_iff_ne.mpr c5
      replace H := Option.bind_eq_some_iff.mp H
      obtain ⟨⟨t748, t749, t750⟩, A170, H⟩ := H
      replace H : (some (t748, t749, t750)) = some (r1, r2, r3) := H
      have A17 := Aside0.mk A170
      clear A170
      simp only [Option.some.injEq, Prod.mk.injEq] at H
      obtain ⟨rfl, rfl, rfl⟩ := H
      go_enter Try.func55, Try.ntmps55
      go_wp2_with (first | ((with_reducible refine gate_dst (N := 2) rfl ?_); refine box_event ?hg (N := 2) ?hd (cs := #[.int .i64 a0_0, .int .i64 a0_1]) (t := 23) ?hr ?_; (case hd => rfl); (case hg => rfl); (case hr => first | (go_simp; done) | (go_simp; rfl)); intro gb744 hg w18 hbox hb; have BK744 := Aside0.mk hbox; have GW744 := bwg_ HB hg; have GE744 := bwg_ HB hg; replace HB := bws_ HB hb; clear hb hbox hg) | ((with_reducible refine gate_dst (N := 3) rfl ?_); refine box_event ?hg (N := 3) ?hd (cs := #[.int .i64 a1_0, .int .i64 a1_1]) (t := 23) ?hr ?_; (case hd => rfl); (case hg => rfl); (case hr => first | (go_simp; done) | (go_simp; rfl)); intro gb745 hg w19 hbox hb; have BK745 := Aside0.mk hbox; have GW745 := bwg_ HB hg; have GE745 := bwg_ HB hg; replace HB := bws_ HB hb; have NB744_745 := bkl_ BK744 hg; have NB745_744 := bkr_ BK744 hg; replace BK744 := bkb_ BK744 hb; clear hb hbox hg) | ((with_reducible refine gate_dst (N := 4) rfl ?_); refine box_event ?hg (N := 4) ?hd (cs := #[.int .i64 0, .int .i64 0]) (t := 23) ?hr ?_; (case hd => rfl); (case hg => rfl); (case hr => first | (go_simp; done) | (go_simp; rfl)); intro gb746 hg w20 hbox hb; have BK746 := Aside0.mk hbox; have GW746 := bwg_ HB hg; have GE746 := bwg_ HB hg; replace HB := bws_ HB hb; have NB744_746 := bkl_ BK744 hg; have NB746_744 := bkr_ BK744 hg; replace BK744 := bkb_ BK744 hb; have NB745_746 := bkl_ BK745 hg; have NB746_745 := bkr_ BK745 hg; replace BK745 := bkb_ BK745 hb; clear hb hbox hg; have hnb21 := NB744_745.out; have hnc21 := NB745_744.out; have hnb22 := NB744_746.out; have hnc22 := NB746_744.out; obtain ⟨hcz23_0, hcz23_1, hfz23_0, hfz23_1⟩ := bc2_ BK744; have hnb24 := NB745_746.out; have hnc24 := NB746_745.out; obtain ⟨hcz25_0, hcz25_1, hfz25_0, hfz25_1⟩ := bc2_ BK745) | ((with_reducible refine gate_callee (f := 97) rfl ?_); refine gla_ (some 9) Try.func97 #[.agg #[.int .i64 a0_0, .int .i64 a0_1], .agg #[.int .i64 a1_0, .int .i64 a1_1]] ?_; (with_reducible refine (withyref01_both.calls k a0_0 a0_1 a1_0 a1_1 t747 _ A3.out).mono ?_); rintro e w26 ⟨rfl, hb⟩; refine ⟨_, rfl, ?_⟩; replace BK744 := bkb_ BK744 hb; replace BK745 := bkb_ BK745 hb; replace BK746 := bkb_ BK746 hb; replace HB := bws_ HB hb; (try clear hb); (try clear hb2); (try clear hk); (try clear hi); obtain ⟨hcz27_0, hcz27_1, hfz27_0, hfz27_1⟩ := bc2_ BK745; obtain ⟨hcz28_0, hcz28_1, hfz28_0, hfz28_1⟩ := bc2_ BK744) | ((with_reducible refine gate_callee (f := 96) rfl ?_); refine gla_ (some 28) Try.func96 #[.int .i64 (wrap64 (a0_0 * a1_1)), .int .i64 (wrap64 (a0_1 * a1_0))] ?_; (with_reducible refine (withyref01_low.calls k (wrap64 (a0_0 * a1_1)) (wrap64 (a0_1 * a1_0)) t748 t749 t750 _ A17.out).mono ?_); rintro e w29 ⟨rfl, hb⟩; refine ⟨_, rfl, ?_⟩; replace BK744 := bkb_ BK744 hb; replace BK745 := bkb_ BK745 hb; replace BK746 := bkb_ BK746 hb; replace HB := bws_ HB hb; (try clear hb); (try clear hb2); (try clear hk); (try clear hi); obtain ⟨hcz30_0, hcz30_1, hfz30_0, hfz30_1⟩ := bc2_ BK746))
      refine bodyPost_ret (results_ct rfl _ _ gb746 23 #[.int .i64 t748, .int .i64 t749] (0, 0) _ rfl (by refine bp_ (cs := #[.int .i64 t748, .int .i64 0]) ?_ 1; refine bp_ (cs := #[.int .i64 0, .int .i64 0]) ?_ 0; exact bk_ BK746) Try.underlying23 rfl (by kernel_rfl)) rfl ?_
      exact ⟨by first | rfl | (simp [*] <;> rfl), bw_ HB⟩
  · rw [if_neg c4] at H
    have c4b0 : (t747 == 0) = false := beq_eq_false_iff_ne.mpr c4
    have c4b1 : (t747 != 0) = true := bne_iff_ne.mpr c4
    simp only [Option.some.injEq, Prod.mk.injEq] at H
    obtain ⟨rfl, rfl, rfl⟩ := H
    go_enter Try.func55, Try.ntmps55
    go_wp2_with (first | ((with_reducible refine gate_dst (N := 2) rfl ?_); refine box_event ?hg (N := 2) ?hd (cs := #[.int .i64 a0_0, .int .i64 a0_1]) (t := 23) ?hr ?_; (case hd => rfl); (case hg => rfl); (case hr => first | (go_simp; done) | (go_simp; rfl)); intro gb744 hg w31 hbox hb; have BK744 := Aside0.mk hbox; have GW744 := bwg_ HB hg; have GE744 := bwg_ HB hg; replace HB := bws_ HB hb; clear hb hbox hg) | ((with_reducible refine gate_dst (N := 3) rfl ?_); refine box_event ?hg (N := 3) ?hd (cs := #[.int .i64 a1_0, .int .i64 a1_1]) (t := 23) ?hr ?_; (case hd => rfl); (case hg => rfl); (case hr => first | (go_simp; done) | (go_simp; rfl)); intro gb745 hg w32 hbox hb; have BK745 := Aside0.mk hbox; have GW745 := bwg_ HB hg; have GE745 := bwg_ HB hg; replace HB := bws_ HB hb; have NB744_745 := bkl_ BK744 hg; have NB745_744 := bkr_ BK744 hg; replace BK744 := bkb_ BK744 hb; clear hb hbox hg) | ((with_reducible refine gate_dst (N := 4) rfl ?_); refine box_event ?hg (N := 4) ?hd (cs := #[.int .i64 0, .int .i64 0]) (t := 23) ?hr ?_; (case hd => rfl); (case hg => rfl); (case hr => first | (go_simp; done) | (go_simp; rfl)); intro gb746 hg w33 hbox hb; have BK746 := Aside0.mk hbox; have GW746 := bwg_ HB hg; have GE746 := bwg_ HB hg; replace HB := bws_ HB hb; have NB744_746 := bkl_ BK744 hg; have NB746_744 := bkr_ BK744 hg; replace BK744 := bkb_ BK744 hb; have NB745_746 := bkl_ BK745 hg; have NB746_745 := bkr_ BK745 hg; replace BK745 := bkb_ BK745 hb; clear hb hbox hg; have hnb34 := NB744_745.out; have hnc34 := NB745_744.out; have hnb35 := NB744_746.out; have hnc35 := NB746_744.out; obtain ⟨hcz36_0, hcz36_1, hfz36_0, hfz36_1⟩ := bc2_ BK744; have hnb37 := NB745_746.out; have hnc37 := NB746_745.out; obtain ⟨hcz38_0, hcz38_1, hfz38_0, hfz38_1⟩ := bc2_ BK745) | ((with_reducible refine gate_callee (f := 97) rfl ?_); refine gla_ (some 9) Try.func97 #[.agg #[.int .i64 a0_0, .int .i64 a0_1], .agg #[.int .i64 a1_0, .int .i64 a1_1]] ?_; (with_reducible refine (withyref01_both.calls k a0_0 a0_1 a1_0 a1_1 t747 _ A3.out).mono ?_); rintro e w39 ⟨rfl, hb⟩; refine ⟨_, rfl, ?_⟩; replace BK744 := bkb_ BK744 hb; replace BK745 := bkb_ BK745 hb; replace BK746 := bkb_ BK746 hb; replace HB := bws_ HB hb; (try clear hb); (try clear hb2); (try clear hk); (try clear hi); obtain ⟨hcz40_0, hcz40_1, hfz40_0, hfz40_1⟩ := bc2_ BK746))
    refine bodyPost_ret (results_ct rfl _ _ gb746 23 #[.int .i64 0, .int .i64 0] (0, 0) _ rfl (by refine bp_ (cs := #[.int .i64 0, .int .i64 0]) ?_ 1; refine bp_ (cs := #[.int .i64 0, .int .i64 0]) ?_ 0; exact bk_ BK746) Try.underlying23 rfl (by kernel_rfl)) rfl ?_
    exact ⟨by first | rfl | (simp [*] <;> rfl), bw_ HB⟩
end Go.Proofs.Ytakcdoahpbeckaa.H
