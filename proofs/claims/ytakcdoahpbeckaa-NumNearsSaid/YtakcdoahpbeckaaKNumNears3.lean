/- NumNears: the printed functions it reaches, with their walks. Laid by wip/claimpack.py out of what wip/hprint.py printed. -/
import Derived.Test.YtakcdoahpbeckaaKNumNears2
namespace Go.Proofs.Ytakcdoahpbeckaa.H
open Go.RowKit Go.Proofs.YtakcdoahpbeckaaW.PrintWords Go.Proofs.YtakcdoahpbeckaaW.PrintLast Go.Proofs.YtakcdoahpbeckaaW.PrintMore
attribute [local go_sem] max2_int min2_int max_two min_two max_three min_three max_four min_four   -- for this text's walks alone
set_option linter.unusedVariables false
set_option linter.unusedSimpArgs false

/-! ### num_Near_1: function 102 -/
def num_Near_1.f (k : Nat) (a0_0 : Int) (a0_1 : Int) (a1_0 : Int) (a1_1 : Int) (a2_0 : Int) (a2_1 : Int) : Option (Bool) := (num_ratio_off.f a0_0 a0_1 a2_0 a2_1).bind fun t865 => ((num_ratio_off.f a1_0 a1_1 a2_0 a2_1).bind fun t866 => (if (wrap64 (t865 * a1_1)) < (wrap64 (t866 * a0_1)) then (some true) else (if (wrap64 (t865 * a1_1)) = (wrap64 (t866 * a0_1)) then ((num_ratio_simpler.f k a0_0 a0_1 a1_0 a1_1).bind fun t867 => (some t867)) else (some false))))
theorem num_Near_1.mono : ∀ a0 a1 a2 a3 a4 a5 k, LeO (num_Near_1.f k a0 a1 a2 a3 a4 a5) (num_Near_1.f (k + 1) a0 a1 a2 a3 a4 a5) := by
  intro a0 a1 a2 a3 a4 a5 k
  unfold num_Near_1.f
  repeat' first
      | (with_reducible exact num_ratio_simpler.mono _ _ _ _ _)
      | (with_reducible exact LeO.refl _)
      | (with_reducible exact LeO.none _)
      | (with_reducible refine LeO.ite ?_ ?_)
      | (with_reducible refine LeO.bind ?_ (fun _ => ?_))
      | (with_reducible refine LeO.exc (fun _ => ?_) (fun _ => ?_))
      | exact num_ratio_simpler.mono _ _ _ _ _
      | exact LeO.none _
      | refine LeO.ite ?_ ?_
      | refine LeO.bind ?_ (fun _ => ?_)
def num_Near_1.T1 : Bool × List (List Nat × List Nat) := (true, [([], []), ([], []), ([0, 1], [0, 1]), ([], []), ([3], [3]), ([2, 4], [2, 4]), ([], []), ([], []), ([6, 7, 2], [6, 7]), ([], []), ([9], [9]), ([8, 10], [8, 10]), ([5, 8, 0, 1, 2, 3, 4, 5], [5]), ([11, 12, 0, 1, 2, 3, 4, 5, 6, 7, 8, 9, 10, 11, 12], [11])])
def num_Near_1.B1 : List Nat := [0, 0, 3, 0, 8, 31, 0, 0, 199, 0, 512, 1991, 511, 8191]
theorem num_Near_1.tab1 : rtab .any (opsOf Try.f102 1) = num_Near_1.T1 := by kernel_rfl
theorem num_Near_1.bits1 : waitsOk num_Near_1.T1.2 num_Near_1.B1 = true := by kernel_rfl
set_option maxHeartbeats 8000000 in
set_option maxRecDepth 100000 in
theorem num_Near_1.calls (k : Nat) (a0_0 : Int) (a0_1 : Int) (a1_0 : Int) (a1_1 : Int) {gb : Nat} (a2_0 : Int) (a2_1 : Int) (r : Bool) (w : World) (hb : w.heap[gb]? = some (.cells #[.int .i64 a2_0, .int .i64 a2_1] 23 (0, 0))) (h : num_Near_1.f k a0_0 a0_1 a1_0 a1_1 a2_0 a2_1 = some r) :
    Calls Try.prog 102 #[.agg #[.int .i64 a0_0, .int .i64 a0_1], .agg #[.int .i64 a1_0, .int .i64 a1_1], .pointer (some ⟨gb, 0, none⟩)] w fun e w' => e = .returned (.bool r) ∧ Below w.heap.size w w' := by
 have hu65 := Try.underlying65
 have hu23 := Try.underlying23
 have BK862 := Aside0.mk hb
 clear hb
 have HB := Aside0.mk (Below.refl w.heap.size w)
 have H : ((num_ratio_off.f a0_0 a0_1 a2_0 a2_1).bind fun t865 => ((num_ratio_off.f a1_0 a1_1 a2_0 a2_1).bind fun t866 => (if (wrap64 (t865 * a1_1)) < (wrap64 (t866 * a0_1)) then (some true) else (if (wrap64 (t865 * a1_1)) = (wrap64 (t866 * a0_1)) then ((num_ratio_simpler.f k a0_0 a0_1 a1_0 a1_1).bind fun t867 => (some t867)) else (some false))))) = some r := h
 clear h
 replace H := Option.bind_eq_some_iff.mp H
 obtain ⟨t865, A40, H⟩ := H
 replace H : ((num_ratio_off.f a1_0 a1_1 a2_0 a2_1).bind fun t866 => (if (wrap64 (t865 * a1_1)) < (wrap64 (t866 * a0_1)) then (some true) else (if (wrap64 (t865 * a1_1)) = (wrap64 (t866 * a0_1)) then ((num_ratio_simpler.f k a0_0 a0_1 a1_0 a1_1).bind fun t867 => (some t867)) else (some false)))) = some r := H
 have A4 := Aside0.mk A40
 clear A40
 replace H := Option.bind_eq_some_iff.mp H
 obtain ⟨t866, A50, H⟩ := H
 replace H : (if (wrap64 (t865 * a1_1)) < (wrap64 (t866 * a0_1)) then (some true) else (if (wrap64 (t865 * a1_1)) = (wrap64 (t866 * a0_1)) then ((num_ratio_simpler.f k a0_0 a0_1 a1_0 a1_1).bind fun t867 => (some t867)) else (some false))) = some r := H
 have A5 := Aside0.mk A50
 clear A50
 by_cases c6 : (wrap64 (t865 * a1_1)) < (wrap64 (t866 * a0_1))
 · rw [if_pos c6] at H
   have c6b0 : decide ((wrap64 (t865 * a1_1)) < (wrap64 (t866 * a0_1))) = true := decide_eq_true c6
   clear c6
   obtain rfl := Option.some.inj H
   go_enter Try.func102, Try.ntmps102
   try go_wp2_with (first | ((with_reducible refine gate_dst (N := 3) rfl ?_); refine box_event ?hg (N := 3) ?hd (cs := #[.int .i64 a0_0, .int .i64 a0_1]) (t := 65) ?hr ?_; (case hd => rfl); (case hg => rfl); (case hr => first | (go_simp; done) | (go_simp; rfl)); intro gb863 hg w7 hbox hb; have BK863 := Aside0.mk hbox; have GW863 := bwg_ HB hg; have GE863 := bwg_ HB hg; replace HB := bws_ HB hb; have NB862_863 := bkl_ BK862 hg; have NB863_862 := bkr_ BK862 hg; replace BK862 := bkb_ BK862 hb; clear hb hbox hg) | ((with_reducible refine gate_dst (N := 4) rfl ?_); refine box_event ?hg (N := 4) ?hd (cs := #[.int .i64 a1_0, .int .i64 a1_1]) (t := 65) ?hr ?_; (case hd => rfl); (case hg => rfl); (case hr => first | (go_simp; done) | (go_simp; rfl)); intro gb864 hg w8 hbox hb; have BK864 := Aside0.mk hbox; have GW864 := bwg_ HB hg; have GE864 := bwg_ HB hg; replace HB := bws_ HB hb; have NB862_864 := bkl_ BK862 hg; have NB864_862 := bkr_ BK862 hg; replace BK862 := bkb_ BK862 hb; have NB863_864 := bkl_ BK863 hg; have NB864_863 := bkr_ BK863 hg; replace BK863 := bkb_ BK863 hb; clear hb hbox hg))
   replace BK862 := Aside0.mk (blk_drew BK862.out)
   replace BK863 := Aside0.mk (blk_drew BK863.out)
   replace BK864 := Aside0.mk (blk_drew BK864.out)
   replace HB := Aside0.mk (below_drew1 HB.out)
   refine start_ (n := 14) (S := fun w' => w'.cell? ⟨gb863, 0, none⟩ = some (.int .i64 a0_0) ∧ w'.cell? ⟨gb863, 1, none⟩ = some (.int .i64 a0_1) ∧ w'.cell? ⟨gb, 0, none⟩ = some (.int .i64 a2_0) ∧ w'.cell? ⟨gb, 1, none⟩ = some (.int .i64 a2_1) ∧ w'.cell? ⟨gb864, 0, none⟩ = some (.int .i64 a1_0) ∧ w'.cell? ⟨gb864, 1, none⟩ = some (.int .i64 a1_1)) (ds := []) #[false, false, false, false, false, false, false, false, false, false, false, false, false, false] (by kernel_rfl) rfl rfl ⟨(blk_cell BK863.out 0).trans rfl, (blk_cell BK863.out 1).trans rfl, (blk_cell BK862.out 0).trans rfl, (blk_cell BK862.out 1).trans rfl, (blk_cell BK864.out 0).trans rfl, (blk_cell BK864.out 1).trans rfl⟩ (fun hHeld => ?_); refine with_tabW num_Near_1.tab1 num_Near_1.bits1 (fun HT_ HW_ => ?_)
   generalize w8.drew = w9 at BK862 BK863 BK864 HB hHeld ⊢
   refine pure_ (i := 3) (N := some 11) (v := ?_) (a' := ?_) #[false, false, false, true, false, false, false, false, false, false, false, false, false, false] rfl rfl (any_of HT_.out (by kernel_rfl)) (fun _ _ _ h => h) (Or.inl ⟨by rfl, ?_⟩) ?_ ?_
   rotate_left
   · intro w'
     go_simp
     with_reducible rfl
   rotate_left
   · simp only [Act.put, List.setIfInBounds_toArray, List.set_cons_zero, List.set_cons_succ, i64_w, i32_w]
     rfl
   refine pure_ (i := 9) (N := some 17) (v := ?_) (a' := ?_) #[false, false, false, true, false, false, false, false, false, true, false, false, false, false] rfl rfl (any_of HT_.out (by kernel_rfl)) (fun _ _ _ h => h) (Or.inl ⟨by rfl, ?_⟩) ?_ ?_
   rotate_left
   · intro w'
     go_simp
     with_reducible rfl
   rotate_left
   · simp only [Act.put, List.setIfInBounds_toArray, List.set_cons_zero, List.set_cons_succ, i64_w, i32_w]
     rfl
   refine take_ (i := 0) (N := some 8) (v := ?_) (a' := ?_) #[true, false, false, true, false, false, false, false, false, true, false, false, false, false] rfl rfl (take_ofW HT_.out HW_.out (by kernel_rfl)) (fun _ _ _ h => h) (Or.inl ⟨by rfl, ?_⟩) hHeld ?_ ?_
   rotate_left
   · rintro w' ⟨s0, s1, s2, s3, s4, s5⟩
     go_simp
     with_reducible rfl
   rotate_left
   · simp only [Act.put, List.setIfInBounds_toArray, List.set_cons_zero, List.set_cons_succ, i64_w, i32_w]
     rfl
   refine take_ (i := 1) (N := some 9) (v := ?_) (a' := ?_) #[true, true, false, true, false, false, false, false, false, true, false, false, false, false] rfl rfl (take_ofW HT_.out HW_.out (by kernel_rfl)) (fun _ _ _ h => h) (Or.inl ⟨by rfl, ?_⟩) hHeld ?_ ?_
   rotate_left
   · rintro w' ⟨s0, s1, s2, s3, s4, s5⟩
     go_simp
     with_reducible rfl
   rotate_left
   · simp only [Act.put, List.setIfInBounds_toArray, List.set_cons_zero, List.set_cons_succ, i64_w, i32_w]
     rfl
   refine take_ (i := 4) (N := some 12) (v := ?_) (a' := ?_) #[true, true, false, true, true, false, false, false, false, true, false, false, false, false] rfl rfl (take_ofW HT_.out HW_.out (by kernel_rfl)) (fun _ _ _ h => h) (Or.inl ⟨by rfl, ?_⟩) hHeld ?_ ?_
   rotate_left
   · rintro w' ⟨s0, s1, s2, s3, s4, s5⟩
     go_simp
     with_reducible rfl
   rotate_left
   · simp only [Act.put, List.setIfInBounds_toArray, List.set_cons_zero, List.set_cons_succ, i64_w, i32_w]
     rfl
   refine take_ (i := 6) (N := some 14) (v := ?_) (a' := ?_) #[true, true, false, true, true, false, true, false, false, true, false, false, false, false] rfl rfl (take_ofW HT_.out HW_.out (by kernel_rfl)) (fun _ _ _ h => h) (Or.inl ⟨by rfl, ?_⟩) hHeld ?_ ?_
   rotate_left
   · rintro w' ⟨s0, s1, s2, s3, s4, s5⟩
     go_simp
     with_reducible rfl
   rotate_left
   · simp only [Act.put, List.setIfInBounds_toArray, List.set_cons_zero, List.set_cons_succ, i64_w, i32_w]
     rfl
   refine take_ (i := 7) (N := some 15) (v := ?_) (a' := ?_) #[true, true, false, true, true, false, true, true, false, true, false, false, false, false] rfl rfl (take_ofW HT_.out HW_.out (by kernel_rfl)) (fun _ _ _ h => h) (Or.inl ⟨by rfl, ?_⟩) hHeld ?_ ?_
   rotate_left
   · rintro w' ⟨s0, s1, s2, s3, s4, s5⟩
     go_simp
     with_reducible rfl
   rotate_left
   · simp only [Act.put, List.setIfInBounds_toArray, List.set_cons_zero, List.set_cons_succ, i64_w, i32_w]
     rfl
   refine take_ (i := 10) (N := some 18) (v := ?_) (a' := ?_) #[true, true, false, true, true, false, true, true, false, true, true, false, false, false] rfl rfl (take_ofW HT_.out HW_.out (by kernel_rfl)) (fun _ _ _ h => h) (Or.inl ⟨by rfl, ?_⟩) hHeld ?_ ?_
   rotate_left
   · rintro w' ⟨s0, s1, s2, s3, s4, s5⟩
     go_simp
     with_reducible rfl
   rotate_left
   · simp only [Act.put, List.setIfInBounds_toArray, List.set_cons_zero, List.set_cons_succ, i64_w, i32_w]
     rfl
   refine one_ (i := 2) (N := some 10) #[true, true, true, true, true, false, true, true, false, true, true, false, false, false] rfl rfl (one_of HT_.out (by kernel_rfl)) (by decide) (fun K hK => ?_)
   refine gos_ Try.func103 #[.agg #[.int .i64 a0_0, .int .i64 a0_1], .agg #[.int .i64 a2_0, .int .i64 a2_1]] ?_
   with_reducible refine (num_ratio_off.calls a0_0 a0_1 a2_0 a2_1 t865 _ A4.out).mono ?_
   rintro e w10 ⟨rfl, hb⟩
   refine ⟨_, rfl, ?_⟩
   replace BK862 := bkb_ BK862 hb
   replace BK863 := bkb_ BK863 hb
   replace BK864 := bkb_ BK864 hb
   replace HB := bws_ HB hb
   (try clear hb)
   (try clear hb2)
   (try clear hk)
   (try clear hi)
   refine hK.out _ _ ⟨(blk_cell BK863.out 0).trans rfl, (blk_cell BK863.out 1).trans rfl, (blk_cell BK862.out 0).trans rfl, (blk_cell BK862.out 1).trans rfl, (blk_cell BK864.out 0).trans rfl, (blk_cell BK864.out 1).trans rfl⟩ (fun hHeld => ?_)
   clear hK K
   refine norm_ (a' := ?_) ?_ ?_
   rotate_left
   · show Act.put _ (some 10) _ = _
     simp only [Act.put, List.setIfInBounds_toArray, List.set_cons_zero, List.set_cons_succ, i64_w, i32_w]
     rfl
   refine pure_ (i := 5) (N := some 13) (v := ?_) (a' := ?_) #[true, true, true, true, true, true, true, true, false, true, true, false, false, false] rfl rfl (any_of HT_.out (by kernel_rfl)) (fun _ _ _ h => h) (Or.inl ⟨by rfl, ?_⟩) ?_ ?_
   rotate_left
   · intro w'
     go_simp
     with_reducible rfl
   rotate_left
   · simp only [Act.put, List.setIfInBounds_toArray, List.set_cons_zero, List.set_cons_succ, i64_w, i32_w]
     rfl
   refine one_ (i := 8) (N := some 16) #[true, true, true, true, true, true, true, true, true, true, true, false, false, false] rfl rfl (one_of HT_.out (by kernel_rfl)) (by decide) (fun K hK => ?_)
   refine gos_ Try.func103 #[.agg #[.int .i64 a1_0, .int .i64 a1_1], .agg #[.int .i64 a2_0, .int .i64 a2_1]] ?_
   with_reducible refine (num_ratio_off.calls a1_0 a1_1 a2_0 a2_1 t866 _ A5.out).mono ?_
   rintro e w11 ⟨rfl, hb⟩
   refine ⟨_, rfl, ?_⟩
   replace BK862 := bkb_ BK862 hb
   replace BK863 := bkb_ BK863 hb
   replace BK864 := bkb_ BK864 hb
   replace HB := bws_ HB hb
   (try clear hb)
   (try clear hb2)
   (try clear hk)
   (try clear hi)
   refine hK.out _ _ ⟨(blk_cell BK863.out 0).trans rfl, (blk_cell BK863.out 1).trans rfl, (blk_cell BK862.out 0).trans rfl, (blk_cell BK862.out 1).trans rfl, (blk_cell BK864.out 0).trans rfl, (blk_cell BK864.out 1).trans rfl⟩ (fun hHeld => ?_)
   clear hK K
   refine norm_ (a' := ?_) ?_ ?_
   rotate_left
   · show Act.put _ (some 16) _ = _
     simp only [Act.put, List.setIfInBounds_toArray, List.set_cons_zero, List.set_cons_succ, i64_w, i32_w]
     rfl
   refine pure_ (i := 11) (N := some 19) (v := ?_) (a' := ?_) #[true, true, true, true, true, true, true, true, true, true, true, true, false, false] rfl rfl (any_of HT_.out (by kernel_rfl)) (fun _ _ _ h => h) (Or.inl ⟨by rfl, ?_⟩) ?_ ?_
   rotate_left
   · intro w'
     go_simp
     with_reducible rfl
   rotate_left
   · simp only [Act.put, List.setIfInBounds_toArray, List.set_cons_zero, List.set_cons_succ, i64_w, i32_w]
     rfl
   refine pure_ (i := 12) (N := some 6) (v := ?_) (a' := ?_) #[true, true, true, true, true, true, true, true, true, true, true, true, true, false] rfl rfl (any_of HT_.out (by kernel_rfl)) (fun _ _ _ h => h) (Or.inl ⟨by rfl, ?_⟩) ?_ ?_
   rotate_left
   · intro w'
     go_simp
     with_reducible rfl
   rotate_left
   · simp only [Act.put, List.setIfInBounds_toArray, List.set_cons_zero, List.set_cons_succ, i64_w, i32_w]
     rfl
   refine pure_ (i := 13) (N := some 7) (v := ?_) (a' := ?_) #[true, true, true, true, true, true, true, true, true, true, true, true, true, true] rfl rfl (any_of HT_.out (by kernel_rfl)) (fun _ _ _ h => h) (Or.inl ⟨by rfl, ?_⟩) ?_ ?_
   rotate_left
   · intro w'
     go_simp
     with_reducible rfl
   rotate_left
   · simp only [Act.put, List.setIfInBounds_toArray, List.set_cons_zero, List.set_cons_succ, i64_w, i32_w]
     rfl
   refine done_ (done_of HT_.out (by kernel_rfl)) ?_
   try go_wp2
   go_ret
   exact ⟨by first | rfl | (simp [*] <;> rfl), bw_ HB⟩
 · rw [if_neg c6] at H
   have c6b0 : decide ((wrap64 (t865 * a1_1)) < (wrap64 (t866 * a0_1))) = false := decide_eq_false c6
   clear c6
   by_cases c12 : (wrap64 (t865 * a1_1)) = (wrap64 (t866 * a0_1))
   · rw [if_pos c12] at H
     have c12b0 : ((wrap64 (t865 * a1_1)) == (wrap64 (t866 * a0_1))) = true := beq_iff_eq.mpr c12
     have c12b1 : ((wrap64 (t865 * a1_1)) != (wrap64 (t866 * a0_1))) = false := bne_eq_false_iff_eq.mpr c12
     clear c12
     replace H := Option.bind_eq_some_iff.mp H
     obtain ⟨t867, A130, H⟩ := H
     replace H : (some t867) = some r := H
     have A13 := Aside0.mk A130
     clear A130
     obtain rfl := Option.some.inj H
     go_enter Try.func102, Try.ntmps102
     try go_wp2_with (first | ((with_reducible refine gate_dst (N := 3) rfl ?_); refine box_event ?hg (N := 3) ?hd (cs := #[.int .i64 a0_0, .int .i64 a0_1]) (t := 65) ?hr ?_; (case hd => rfl); (case hg => rfl); (case hr => first | (go_simp; done) | (go_simp; rfl)); intro gb863 hg w14 hbox hb; have BK863 := Aside0.mk hbox; have GW863 := bwg_ HB hg; have GE863 := bwg_ HB hg; replace HB := bws_ HB hb; have NB862_863 := bkl_ BK862 hg; have NB863_862 := bkr_ BK862 hg; replace BK862 := bkb_ BK862 hb; clear hb hbox hg) | ((with_reducible refine gate_dst (N := 4) rfl ?_); refine box_event ?hg (N := 4) ?hd (cs := #[.int .i64 a1_0, .int .i64 a1_1]) (t := 65) ?hr ?_; (case hd => rfl); (case hg => rfl); (case hr => first | (go_simp; done) | (go_simp; rfl)); intro gb864 hg w15 hbox hb; have BK864 := Aside0.mk hbox; have GW864 := bwg_ HB hg; have GE864 := bwg_ HB hg; replace HB := bws_ HB hb; have NB862_864 := bkl_ BK862 hg; have NB864_862 := bkr_ BK862 hg; replace BK862 := bkb_ BK862 hb; have NB863_864 := bkl_ BK863 hg; have NB864_863 := bkr_ BK863 hg; replace BK863 := bkb_ BK863 hb; clear hb hbox hg))
     replace BK862 := Aside0.mk (blk_drew BK862.out)
     replace BK863 := Aside0.mk (blk_drew BK863.out)
     replace BK864 := Aside0.mk (blk_drew BK864.out)
     replace HB := Aside0.mk (below_drew1 HB.out)
     refine start_ (n := 14) (S := fun w' => w'.cell? ⟨gb863, 0, none⟩ = some (.int .i64 a0_0) ∧ w'.cell? ⟨gb863, 1, none⟩ = some (.int .i64 a0_1) ∧ w'.cell? ⟨gb, 0, none⟩ = some (.int .i64 a2_0) ∧ w'.cell? ⟨gb, 1, none⟩ = some (.int .i64 a2_1) ∧ w'.cell? ⟨gb864, 0, none⟩ = some (.int .i64 a1_0) ∧ w'.cell? ⟨gb864, 1, none⟩ = some (.int .i64 a1_1)) (ds := []) #[false, false, false, false, false, false, false, false, false, false, false, false, false, false] (by kernel_rfl) rfl rfl ⟨(blk_cell BK863.out 0).trans rfl, (blk_cell BK863.out 1).trans rfl, (blk_cell BK862.out 0).trans rfl, (blk_cell BK862.out 1).trans rfl, (blk_cell BK864.out 0).trans rfl, (blk_cell BK864.out 1).trans rfl⟩ (fun hHeld => ?_); refine with_tabW num_Near_1.tab1 num_Near_1.bits1 (fun HT_ HW_ => ?_)
     generalize w15.drew = w16 at BK862 BK863 BK864 HB hHeld ⊢
     refine pure_ (i := 3) (N := some 11) (v := ?_) (a' := ?_) #[false, false, false, true, false, false, false, false, false, false, false, false, false, false] rfl rfl (any_of HT_.out (by kernel_rfl)) (fun _ _ _ h => h) (Or.inl ⟨by rfl, ?_⟩) ?_ ?_
     rotate_left
     · intro w'
       go_simp
       with_reducible rfl
     rotate_left
     · simp only [Act.put, List.setIfInBounds_toArray, List.set_cons_zero, List.set_cons_succ, i64_w, i32_w]
       rfl
     refine pure_ (i := 9) (N := some 17) (v := ?_) (a' := ?_) #[false, false, false, true, false, false, false, false, false, true, false, false, false, false] rfl rfl (any_of HT_.out (by kernel_rfl)) (fun _ _ _ h => h) (Or.inl ⟨by rfl, ?_⟩) ?_ ?_
     rotate_left
     · intro w'
       go_simp
       with_reducible rfl
     rotate_left
     · simp only [Act.put, List.setIfInBounds_toArray, List.set_cons_zero, List.set_cons_succ, i64_w, i32_w]
       rfl
     refine take_ (i := 0) (N := some 8) (v := ?_) (a' := ?_) #[true, false, false, true, false, false, false, false, false, true, false, false, false, false] rfl rfl (take_ofW HT_.out HW_.out (by kernel_rfl)) (fun _ _ _ h => h) (Or.inl ⟨by rfl, ?_⟩) hHeld ?_ ?_
     rotate_left
     · rintro w' ⟨s0, s1, s2, s3, s4, s5⟩
       go_simp
       with_reducible rfl
     rotate_left
     · simp only [Act.put, List.setIfInBounds_toArray, List.set_cons_zero, List.set_cons_succ, i64_w, i32_w]
       rfl
     refine take_ (i := 1) (N := some 9) (v := ?_) (a' := ?_) #[true, true, false, true, false, false, false, false, false, true, false, false, false, false] rfl rfl (take_ofW HT_.out HW_.out (by kernel_rfl)) (fun _ _ _ h => h) (Or.inl ⟨by rfl, ?_⟩) hHeld ?_ ?_
     rotate_left
     · rintro w' ⟨s0, s1, s2, s3, s4, s5⟩
       go_simp
       with_reducible rfl
     rotate_left
     · simp only [Act.put, List.setIfInBounds_toArray, List.set_cons_zero, List.set_cons_succ, i64_w, i32_w]
       rfl
     refine take_ (i := 4) (N := some 12) (v := ?_) (a' := ?_) #[true, true, false, true, true, false, false, false, false, true, false, false, false, false] rfl rfl (take_ofW HT_.out HW_.out (by kernel_rfl)) (fun _ _ _ h => h) (Or.inl ⟨by rfl, ?_⟩) hHeld ?_ ?_
     rotate_left
     · rintro w' ⟨s0, s1, s2, s3, s4, s5⟩
       go_simp
       with_reducible rfl
     rotate_left
     · simp only [Act.put, List.setIfInBounds_toArray, List.set_cons_zero, List.set_cons_succ, i64_w, i32_w]
       rfl
     refine take_ (i := 6) (N := some 14) (v := ?_) (a' := ?_) #[true, true, false, true, true, false, true, false, false, true, false, false, false, false] rfl rfl (take_ofW HT_.out HW_.out (by kernel_rfl)) (fun _ _ _ h => h) (Or.inl ⟨by rfl, ?_⟩) hHeld ?_ ?_
     rotate_left
     · rintro w' ⟨s0, s1, s2, s3, s4, s5⟩
       go_simp
       with_reducible rfl
     rotate_left
     · simp only [Act.put, List.setIfInBounds_toArray, List.set_cons_zero, List.set_cons_succ, i64_w, i32_w]
       rfl
     refine take_ (i := 7) (N := some 15) (v := ?_) (a' := ?_) #[true, true, false, true, true, false, true, true, false, true, false, false, false, false] rfl rfl (take_ofW HT_.out HW_.out (by kernel_rfl)) (fun _ _ _ h => h) (Or.inl ⟨by rfl, ?_⟩) hHeld ?_ ?_
     rotate_left
     · rintro w' ⟨s0, s1, s2, s3, s4, s5⟩
       go_simp
       with_reducible rfl
     rotate_left
     · simp only [Act.put, List.setIfInBounds_toArray, List.set_cons_zero, List.set_cons_succ, i64_w, i32_w]
       rfl
     refine take_ (i := 10) (N := some 18) (v := ?_) (a' := ?_) #[true, true, false, true, true, false, true, true, false, true, true, false, false, false] rfl rfl (take_ofW HT_.out HW_.out (by kernel_rfl)) (fun _ _ _ h => h) (Or.inl ⟨by rfl, ?_⟩) hHeld ?_ ?_
     rotate_left
     · rintro w' ⟨s0, s1, s2, s3, s4, s5⟩
       go_simp
       with_reducible rfl
     rotate_left
     · simp only [Act.put, List.setIfInBounds_toArray, List.set_cons_zero, List.set_cons_succ, i64_w, i32_w]
       rfl
     refine one_ (i := 2) (N := some 10) #[true, true, true, true, true, false, true, true, false, true, true, false, false, false] rfl rfl (one_of HT_.out (by kernel_rfl)) (by decide) (fun K hK => ?_)
     refine gos_ Try.func103 #[.agg #[.int .i64 a0_0, .int .i64 a0_1], .agg #[.int .i64 a2_0, .int .i64 a2_1]] ?_
     with_reducible refine (num_ratio_off.calls a0_0 a0_1 a2_0 a2_1 t865 _ A4.out).mono ?_
     rintro e w17 ⟨rfl, hb⟩
     refine ⟨_, rfl, ?_⟩
     replace BK862 := bkb_ BK862 hb
     replace BK863 := bkb_ BK863 hb
     replace BK864 := bkb_ BK864 hb
     replace HB := bws_ HB hb
     (try clear hb)
     (try clear hb2)
     (try clear hk)
     (try clear hi)
     refine hK.out _ _ ⟨(blk_cell BK863.out 0).trans rfl, (blk_cell BK863.out 1).trans rfl, (blk_cell BK862.out 0).trans rfl, (blk_cell BK862.out 1).trans rfl, (blk_cell BK864.out 0).trans rfl, (blk_cell BK864.out 1).trans rfl⟩ (fun hHeld => ?_)
     clear hK K
     refine norm_ (a' := ?_) ?_ ?_
     rotate_left
     · show Act.put _ (some 10) _ = _
       simp only [Act.put, List.setIfInBounds_toArray, List.set_cons_zero, List.set_cons_succ, i64_w, i32_w]
       rfl
     refine pure_ (i := 5) (N := some 13) (v := ?_) (a' := ?_) #[true, true, true, true, true, true, true, true, false, true, true, false, false, false] rfl rfl (any_of HT_.out (by kernel_rfl)) (fun _ _ _ h => h) (Or.inl ⟨by rfl, ?_⟩) ?_ ?_
     rotate_left
     · intro w'
       go_simp
       with_reducible rfl
     rotate_left
     · simp only [Act.put, List.setIfInBounds_toArray, List.set_cons_zero, List.set_cons_succ, i64_w, i32_w]
       rfl
     refine one_ (i := 8) (N := some 16) #[true, true, true, true, true, true, true, true, true, true, true, false, false, false] rfl rfl (one_of HT_.out (by kernel_rfl)) (by decide) (fun K hK => ?_)
     refine gos_ Try.func103 #[.agg #[.int .i64 a1_0, .int .i64 a1_1], .agg #[.int .i64 a2_0, .int .i64 a2_1]] ?_
     with_reducible refine (num_ratio_off.calls a1_0 a1_1 a2_0 a2_1 t866 _ A5.out).mono ?_
     rintro e w18 ⟨rfl, hb⟩
     refine ⟨_, rfl, ?_⟩
     replace BK862 := bkb_ BK862 hb
     replace BK863 := bkb_ BK863 hb
     replace BK864 := bkb_ BK864 hb
     replace HB := bws_ HB hb
     (try clear hb)
     (try clear hb2)
     (try clear hk)
     (try clear hi)
     refine hK.out _ _ ⟨(blk_cell BK863.out 0).trans rfl, (blk_cell BK863.out 1).trans rfl, (blk_cell BK862.out 0).trans rfl, (blk_cell BK862.out 1).trans rfl, (blk_cell BK864.out 0).trans rfl, (blk_cell BK864.out 1).trans rfl⟩ (fun hHeld => ?_)
     clear hK K
     refine norm_ (a' := ?_) ?_ ?_
     rotate_left
     · show Act.put _ (some 16) _ = _
       simp only [Act.put, List.setIfInBounds_toArray, List.set_cons_zero, List.set_cons_succ, i64_w, i32_w]
       rfl
     refine pure_ (i := 11) (N := some 19) (v := ?_) (a' := ?_) #[true, true, true, true, true, true, true, true, true, true, true, true, false, false] rfl rfl (any_of HT_.out (by kernel_rfl)) (fun _ _ _ h => h) (Or.inl ⟨by rfl, ?_⟩) ?_ ?_
     rotate_left
     · intro w'
       go_simp
       with_reducible rfl
     rotate_left
     · simp only [Act.put, List.setIfInBounds_toArray, List.set_cons_zero, List.set_cons_succ, i64_w, i32_w]
       rfl
     refine pure_ (i := 12) (N := some 6) (v := ?_) (a' := ?_) #[true, true, true, true, true, true, true, true, true, true, true, true, true, false] rfl rfl (any_of HT_.out (by kernel_rfl)) (fun _ _ _ h => h) (Or.inl ⟨by rfl, ?_⟩) ?_ ?_
     rotate_left
     · intro w'
       go_simp
       with_reducible rfl
     rotate_left
     · simp only [Act.put, List.setIfInBounds_toArray, List.set_cons_zero, List.set_cons_succ, i64_w, i32_w]
       rfl
     refine pure_ (i := 13) (N := some 7) (v := ?_) (a' := ?_) #[true, true, true, true, true, true, true, true, true, true, true, true, true, true] rfl rfl (any_of HT_.out (by kernel_rfl)) (fun _ _ _ h => h) (Or.inl ⟨by rfl, ?_⟩) ?_ ?_
     rotate_left
     · intro w'
       go_simp
       with_reducible rfl
     rotate_left
     · simp only [Act.put, List.setIfInBounds_toArray, List.set_cons_zero, List.set_cons_succ, i64_w, i32_w]
       rfl
     refine done_ (done_of HT_.out (by kernel_rfl)) ?_
     have hnb19 := NB863_862.out
     have hnc19 := NB862_863.out
     have hnb20 := NB863_864.out
     have hnc20 := NB864_863.out
     obtain ⟨hcz21_0, hcz21_1, hfz21_0, hfz21_1⟩ := bc2_ BK863
     have hnb22 := NB864_862.out
     have hnc22 := NB862_864.out
     obtain ⟨hcz23_0, hcz23_1, hfz23_0, hfz23_1⟩ := bc2_ BK864
     try go_wp2_with (first | (go_at_call 104; (with_reducible refine (num_ratio_simpler.calls k a0_0 a0_1 a1_0 a1_1 t867 _ A13.out).mono ?_); rintro e w24 ⟨rfl, hb⟩; replace BK862 := bkb_ BK862 hb; replace BK863 := bkb_ BK863 hb; replace BK864 := bkb_ BK864 hb; replace HB := bws_ HB hb; (try clear hb); (try clear hb2); (try clear hk); (try clear hi)))
     go_ret
     exact ⟨by first | rfl | (simp [*] <;> rfl), bw_ HB⟩
   · rw [if_neg c12] at H
     have c12b0 : ((wrap64 (t865 * a1_1)) == (wrap64 (t866 * a0_1))) = false := beq_eq_false_iff_ne.mpr c12
     have c12b1 : ((wrap64 (t865 * a1_1)) != (wrap64 (t866 * a0_1))) = true := bne_iff_ne.mpr c12
     obtain rfl := Option.some.inj H
     go_enter Try.func102, Try.ntmps102
     try go_wp2_with (first | ((with_reducible refine gate_dst (N := 3) rfl ?_); refine box_event ?hg (N := 3) ?hd (cs := #[.int .i64 a0_0, .int .i64 a0_1]) (t := 65) ?hr ?_; (case hd => rfl); (case hg => rfl); (case hr => first | (go_simp; done) | (go_simp; rfl)); intro gb863 hg w25 hbox hb; have BK863 := Aside0.mk hbox; have GW863 := bwg_ HB hg; have GE863 := bwg_ HB hg; replace HB := bws_ HB hb; have NB862_863 := bkl_ BK862 hg; have NB863_862 := bkr_ BK862 hg; replace BK862 := bkb_ BK862 hb; clear hb hbox hg) | ((with_reducible refine gate_dst (N := 4) rfl ?_); refine box_event ?hg (N := 4) ?hd (cs := #[.int .i64 a1_0, .int .i64 a1_1]) (t := 65) ?hr ?_; (case hd => rfl); (case hg => rfl); (case hr => first | (go_simp; done) | (go_simp; rfl)); intro gb864 hg w26 hbox hb; have BK864 := Aside0.mk hbox; have GW864 := bwg_ HB hg; have GE864 := bwg_ HB hg; replace HB := bws_ HB hb; have NB862_864 := bkl_ BK862 hg; have NB864_862 := bkr_ BK862 hg; replace BK862 := bkb_ BK862 hb; have NB863_864 := bkl_ BK863 hg; have NB864_863 := bkr_ BK863 hg; replace BK863 := bkb_ BK863 hb; clear hb hbox hg))
     replace BK862 := Aside0.mk (blk_drew BK862.out)
     replace BK863 := Aside0.mk (blk_drew BK863.out)
     replace BK864 := Aside0.mk (blk_drew BK864.out)
     replace HB := Aside0.mk (below_drew1 HB.out)
     refine start_ (n := 14) (S := fun w' => w'.cell? ⟨gb863, 0, none⟩ = some (.int .i64 a0_0) ∧ w'.cell? ⟨gb863, 1, none⟩ = some (.int .i64 a0_1) ∧ w'.cell? ⟨gb, 0, none⟩ = some (.int .i64 a2_0) ∧ w'.cell? ⟨gb, 1, none⟩ = some (.int .i64 a2_1) ∧ w'.cell? ⟨gb864, 0, none⟩ = some (.int .i64 a1_0) ∧ w'.cell? ⟨gb864, 1, none⟩ = some (.int .i64 a1_1)) (ds := []) #[false, false, false, false, false, false, false, false, false, false, false, false, false, false] (by kernel_rfl) rfl rfl ⟨(blk_cell BK863.out 0).trans rfl, (blk_cell BK863.out 1).trans rfl, (blk_cell BK862.out 0).trans rfl, (blk_cell BK862.out 1).trans rfl, (blk_cell BK864.out 0).trans rfl, (blk_cell BK864.out 1).trans rfl⟩ (fun hHeld => ?_); refine with_tabW num_Near_1.tab1 num_Near_1.bits1 (fun HT_ HW_ => ?_)
     generalize w26.drew = w27 at BK862 BK863 BK864 HB hHeld ⊢
     refine pure_ (i := 3) (N := some 11) (v := ?_) (a' := ?_) #[false, false, false, true, false, false, false, false, false, false, false, false, false, false] rfl rfl (any_of HT_.out (by kernel_rfl)) (fun _ _ _ h => h) (Or.inl ⟨by rfl, ?_⟩) ?_ ?_
     rotate_left
     · intro w'
       go_simp
       with_reducible rfl
     rotate_left
     · simp only [Act.put, List.setIfInBounds_toArray, List.set_cons_zero, List.set_cons_succ, i64_w, i32_w]
       rfl
     refine pure_ (i := 9) (N := some 17) (v := ?_) (a' := ?_) #[false, false, false, true, false, false, false, false, false, true, false, false, false, false] rfl rfl (any_of HT_.out (by kernel_rfl)) (fun _ _ _ h => h) (Or.inl ⟨by rfl, ?_⟩) ?_ ?_
     rotate_left
     · intro w'
       go_simp
       with_reducible rfl
     rotate_left
     · simp only [Act.put, List.setIfInBounds_toArray, List.set_cons_zero, List.set_cons_succ, i64_w, i32_w]
       rfl
     refine take_ (i := 0) (N := some 8) (v := ?_) (a' := ?_) #[true, false, false, true, false, false, false, false, false, true, false, false, false, false] rfl rfl (take_ofW HT_.out HW_.out (by kernel_rfl)) (fun _ _ _ h => h) (Or.inl ⟨by rfl, ?_⟩) hHeld ?_ ?_
     rotate_left
     · rintro w' ⟨s0, s1, s2, s3, s4, s5⟩
       go_simp
       with_reducible rfl
     rotate_left
     · simp only [Act.put, List.setIfInBounds_toArray, List.set_cons_zero, List.set_cons_succ, i64_w, i32_w]
       rfl
     refine take_ (i := 1) (N := some 9) (v := ?_) (a' := ?_) #[true, true, false, true, false, false, false, false, false, true, false, false, false, false] rfl rfl (take_ofW HT_.out HW_.out (by kernel_rfl)) (fun _ _ _ h => h) (Or.inl ⟨by rfl, ?_⟩) hHeld ?_ ?_
     rotate_left
     · rintro w' ⟨s0, s1, s2, s3, s4, s5⟩
       go_simp
       with_reducible rfl
     rotate_left
     · simp only [Act.put, List.setIfInBounds_toArray, List.set_cons_zero, List.set_cons_succ, i64_w, i32_w]
       rfl
     refine take_ (i := 4) (N := some 12) (v := ?_) (a' := ?_) #[true, true, false, true, true, false, false, false, false, true, false, false, false, false] rfl rfl (take_ofW HT_.out HW_.out (by kernel_rfl)) (fun _ _ _ h => h) (Or.inl ⟨by rfl, ?_⟩) hHeld ?_ ?_
     rotate_left
     · rintro w' ⟨s0, s1, s2, s3, s4, s5⟩
       go_simp
       with_reducible rfl
     rotate_left
     · simp only [Act.put, List.setIfInBounds_toArray, List.set_cons_zero, List.set_cons_succ, i64_w, i32_w]
       rfl
     refine take_ (i := 6) (N := some 14) (v := ?_) (a' := ?_) #[true, true, false, true, true, false, true, false, false, true, false, false, false, false] rfl rfl (take_ofW HT_.out HW_.out (by kernel_rfl)) (fun _ _ _ h => h) (Or.inl ⟨by rfl, ?_⟩) hHeld ?_ ?_
     rotate_left
     · rintro w' ⟨s0, s1, s2, s3, s4, s5⟩
       go_simp
       with_reducible rfl
     rotate_left
     · simp only [Act.put, List.setIfInBounds_toArray, List.set_cons_zero, List.set_cons_succ, i64_w, i32_w]
       rfl
     refine take_ (i := 7) (N := some 15) (v := ?_) (a' := ?_) #[true, true, false, true, true, false, true, true, false, true, false, false, false, false] rfl rfl (take_ofW HT_.out HW_.out (by kernel_rfl)) (fun _ _ _ h => h) (Or.inl ⟨by rfl, ?_⟩) hHeld ?_ ?_
     rotate_left
     · rintro w' ⟨s0, s1, s2, s3, s4, s5⟩
       go_simp
       with_reducible rfl
     rotate_left
     · simp only [Act.put, List.setIfInBounds_toArray, List.set_cons_zero, List.set_cons_succ, i64_w, i32_w]
       rfl
     refine take_ (i := 10) (N := some 18) (v := ?_) (a' := ?_) #[true, true, false, true, true, false, true, true, false, true, true, false, false, false] rfl rfl (take_ofW HT_.out HW_.out (by kernel_rfl)) (fun _ _ _ h => h) (Or.inl ⟨by rfl, ?_⟩) hHeld ?_ ?_
     rotate_left
     · rintro w' ⟨s0, s1, s2, s3, s4, s5⟩
       go_simp
       with_reducible rfl
     rotate_left
     · simp only [Act.put, List.setIfInBounds_toArray, List.set_cons_zero, List.set_cons_succ, i64_w, i32_w]
       rfl
     refine one_ (i := 2) (N := some 10) #[true, true, true, true, true, false, true, true, false, true, true, false, false, false] rfl rfl (one_of HT_.out (by kernel_rfl)) (by decide) (fun K hK => ?_)
     refine gos_ Try.func103 #[.agg #[.int .i64 a0_0, .int .i64 a0_1], .agg #[.int .i64 a2_0, .int .i64 a2_1]] ?_
     with_reducible refine (num_ratio_off.calls a0_0 a0_1 a2_0 a2_1 t865 _ A4.out).mono ?_
     rintro e w28 ⟨rfl, hb⟩
     refine ⟨_, rfl, ?_⟩
     replace BK862 := bkb_ BK862 hb
     replace BK863 := bkb_ BK863 hb
     replace BK864 := bkb_ BK864 hb
     replace HB := bws_ HB hb
     (try clear hb)
     (try clear hb2)
     (try clear hk)
     (try clear hi)
     refine hK.out _ _ ⟨(blk_cell BK863.out 0).trans rfl, (blk_cell BK863.out 1).trans rfl, (blk_cell BK862.out 0).trans rfl, (blk_cell BK862.out 1).trans rfl, (blk_cell BK864.out 0).trans rfl, (blk_cell BK864.out 1).trans rfl⟩ (fun hHeld => ?_)
     clear hK K
     refine norm_ (a' := ?_) ?_ ?_
     rotate_left
     · show Act.put _ (some 10) _ = _
       simp only [Act.put, List.setIfInBounds_toArray, List.set_cons_zero, List.set_cons_succ, i64_w, i32_w]
       rfl
     refine pure_ (i := 5) (N := some 13) (v := ?_) (a' := ?_) #[true, true, true, true, true, true, true, true, false, true, true, false, false, false] rfl rfl (any_of HT_.out (by kernel_rfl)) (fun _ _ _ h => h) (Or.inl ⟨by rfl, ?_⟩) ?_ ?_
     rotate_left
     · intro w'
       go_simp
       with_reducible rfl
     rotate_left
     · simp only [Act.put, List.setIfInBounds_toArray, List.set_cons_zero, List.set_cons_succ, i64_w, i32_w]
       rfl
     refine one_ (i := 8) (N := some 16) #[true, true, true, true, true, true, true, true, true, true, true, false, false, false] rfl rfl (one_of HT_.out (by kernel_rfl)) (by decide) (fun K hK => ?_)
     refine gos_ Try.func103 #[.agg #[.int .i64 a1_0, .int .i64 a1_1], .agg #[.int .i64 a2_0, .int .i64 a2_1]] ?_
     with_reducible refine (num_ratio_off.calls a1_0 a1_1 a2_0 a2_1 t866 _ A5.out).mono ?_
     rintro e w29 ⟨rfl, hb⟩
     refine ⟨_, rfl, ?_⟩
     replace BK862 := bkb_ BK862 hb
     replace BK863 := bkb_ BK863 hb
     replace BK864 := bkb_ BK864 hb
     replace HB := bws_ HB hb
     (try clear hb)
     (try clear hb2)
     (try clear hk)
     (try clear hi)
     refine hK.out _ _ ⟨(blk_cell BK863.out 0).trans rfl, (blk_cell BK863.out 1).trans rfl, (blk_cell BK862.out 0).trans rfl, (blk_cell BK862.out 1).trans rfl, (blk_cell BK864.out 0).trans rfl, (blk_cell BK864.out 1).trans rfl⟩ (fun hHeld => ?_)
     clear hK K
     refine norm_ (a' := ?_) ?_ ?_
     rotate_left
     · show Act.put _ (some 16) _ = _
       simp only [Act.put, List.setIfInBounds_toArray, List.set_cons_zero, List.set_cons_succ, i64_w, i32_w]
       rfl
     refine pure_ (i := 11) (N := some 19) (v := ?_) (a' := ?_) #[true, true, true, true, true, true, true, true, true, true, true, true, false, false] rfl rfl (any_of HT_.out (by kernel_rfl)) (fun _ _ _ h => h) (Or.inl ⟨by rfl, ?_⟩) ?_ ?_
     rotate_left
     · intro w'
       go_simp
       with_reducible rfl
     rotate_left
     · simp only [Act.put, List.setIfInBounds_toArray, List.set_cons_zero, List.set_cons_succ, i64_w, i32_w]
       rfl
     refine pure_ (i := 12) (N := some 6) (v := ?_) (a' := ?_) #[true, true, true, true, true, true, true, true, true, true, true, true, true, false] rfl rfl (any_of HT_.out (by kernel_rfl)) (fun _ _ _ h => h) (Or.inl ⟨by rfl, ?_⟩) ?_ ?_
     rotate_left
     · intro w'
       go_simp
       with_reducible rfl
     rotate_left
     · simp only [Act.put, List.setIfInBounds_toArray, List.set_cons_zero, List.set_cons_succ, i64_w, i32_w]
       rfl
     refine pure_ (i := 13) (N := some 7) (v := ?_) (a' := ?_) #[true, true, true, true, true, true, true, true, true, true, true, true, true, true] rfl rfl (any_of HT_.out (by kernel_rfl)) (fun _ _ _ h => h) (Or.inl ⟨by rfl, ?_⟩) ?_ ?_
     rotate_left
     · intro w'
       go_simp
       with_reducible rfl
     rotate_left
     · simp only [Act.put, List.setIfInBounds_toArray, List.set_cons_zero, List.set_cons_succ, i64_w, i32_w]
       rfl
     refine done_ (done_of HT_.out (by kernel_rfl)) ?_
     try go_wp2
     go_ret
     exact ⟨by first | rfl | (simp [*] <;> rfl), bw_ HB⟩
/-! ### num_ratio: function 101 -/
def num_ratio.l0 : Nat → List (S65) → Int → Int → Int → Int → Int → Int → Option (Int × Int)
  | 0, _, _, _, _, _, _, _ => none
  | k + 1, x12, x13, x14, x869000, x869001, x872000, x872001 => if x14 < x13 then (if 0 ≤ x14 then (if x14 < (x12.length : Int) then ((num_Near_1.f k ((rd_T65 x12 x14).f0) ((rd_T65 x12 x14).f1) x872000 x872001 x869000 x869001).bind fun t878 => (if t878 = true then (num_ratio.l0 k x12 x13 (wrap64 (x14 + 1)) x869000 x869001 ((rd_T65 x12 x14).f0) ((rd_T65 x12 x14).f1)) else (num_ratio.l0 k x12 x13 (wrap64 (x14 + 1)) x869000 x869001 x872000 x872001))) else (none)) else (none)) else (some (x872000, x872001))
def num_ratio.f (k : Nat) (l0 : List (S65)) (a1_0 : Int) (a1_1 : Int) : Option (Int × Int) := if 0 < (l0.length : Int) then (if 1 ≤ (l0.length : Int) then ((some (l0.drop 1 : List (S65))).bind fun y872 => (num_ratio.l0 k y872 (y872.length : Int) 0 a1_0 a1_1 ((rd_T65 l0 0).f0) ((rd_T65 l0 0).f1))) else (none)) else (none)
theorem num_ratio.mono_l : ∀ k, (∀ y0 y1 y2 y3 y4 y5 y6, LeO (num_ratio.l0 k y0 y1 y2 y3 y4 y5 y6) (num_ratio.l0 (k + 1) y0 y1 y2 y3 y4 y5 y6))
  | 0 => fun _ _ _ _ _ _ _ r h => by simp [num_ratio.l0] at h
  | k + 1 => by
    have ih0 := num_ratio.mono_l k
    · intro y0 y1 y2 y3 y4 y5 y6
      unfold num_ratio.l0
      repeat' first
      | (with_reducible exact ih0 _ _ _ _ _ _ _)
      | (with_reducible exact num_Near_1.mono _ _ _ _ _ _ _)
      | (with_reducible exact LeO.refl _)
      | (with_reducible exact LeO.none _)
      | (with_reducible refine LeO.ite ?_ ?_)
      | (with_reducible refine LeO.bind ?_ (fun _ => ?_))
      | (with_reducible refine LeO.exc (fun _ => ?_) (fun _ => ?_))
      | exact ih0 _ _ _ _ _ _ _
      | exact num_Near_1.mono _ _ _ _ _ _ _
      | exact LeO.none _
      | refine LeO.ite ?_ ?_
      | refine LeO.bind ?_ (fun _ => ?_)
theorem num_ratio.mono : ∀ a0 a1 a2 k, LeO (num_ratio.f k a0 a1 a2) (num_ratio.f (k + 1) a0 a1 a2) := by
  intro a0 a1 a2 k
  have ih0 := num_ratio.mono_l k
  unfold num_ratio.f
  repeat' first
      | (with_reducible exact ih0 _ _ _ _ _ _ _)
      | (with_reducible exact num_Near_1.mono _ _ _ _ _ _ _)
      | (with_reducible exact LeO.refl _)
      | (with_reducible exact LeO.none _)
      | (with_reducible refine LeO.ite ?_ ?_)
      | (with_reducible refine LeO.bind ?_ (fun _ => ?_))
      | (with_reducible refine LeO.exc (fun _ => ?_) (fun _ => ?_))
      | exact ih0 _ _ _ _ _ _ _
      | exact num_Near_1.mono _ _ _ _ _ _ _
      | exact LeO.none _
      | refine LeO.ite ?_ ?_
      | refine LeO.bind ?_ (fun _ => ?_)
set_option maxHeartbeats 8000000 in
set_option maxRecDepth 100000 in
theorem num_ratio.calls (k : Nat) (A0 : Option Addr) (c0 : Nat) (l0 : List (S65)) {gb : Nat} (a1_0 : Int) (a1_1 : Int) (r1 : Int) (r2 : Int) (w : World) (hr0 : Kd.C k65 w A0 l0.length l0) (hc0 : l0.length ≤ c0) (hb : w.heap[gb]? = some (.cells #[.int .i64 a1_0, .int .i64 a1_1] 23 (0, 0))) (h : num_ratio.f k l0 a1_0 a1_1 = some (r1, r2)) :
    Calls Try.prog 101 #[.slice A0 l0.length c0, .func (.func 102) #[] #[.pointer (some ⟨gb, 0, none⟩)]] w fun e w' => e = .returned (.agg #[.int .i64 r1, .int .i64 r2]) ∧ Below w.heap.size w w' := by
 have hu65 := Try.underlying65
 have HR0 := Aside0.mk hr0
 have HC0 := Aside0.mk hc0
 clear hr0 hc0
 have BK868 := Aside0.mk hb
 clear hb
 have HB := Aside0.mk (Below.refl w.heap.size w)
 have H : (if 0 < (l0.length : Int) then (if 1 ≤ (l0.length : Int) then ((some (l0.drop 1 : List (S65))).bind fun y872 => (num_ratio.l0 k y872 (y872.length : Int) 0 a1_0 a1_1 ((rd_T65 l0 0).f0) ((rd_T65 l0 0).f1))) else (none)) else (none)) = some (r1, r2) := h
 clear h
 by_cases c3 : 0 < (l0.length : Int)
 · rw [if_pos c3] at H
   have c3b0 : decide (0 < (l0.length : Int)) = true := decide_eq_true c3
   have c3b1 : decide (0 < l0.length) = true := decide_eq_true (by omega)
   clear c3
   by_cases c4 : 1 ≤ (l0.length : Int)
   · rw [if_pos c4] at H
     have c4b0 := eq_true c4
     have c4b1 : decide (1 ≤ (l0.length : Int)) = true := decide_eq_true c4
     clear c4
     obtain ⟨y872, hy872⟩ : ∃ y_ : List (S65), y_ = (l0.drop 1) := ⟨_, rfl⟩
     replace H : (num_ratio.l0 k y872 (y872.length : Int) 0 a1_0 a1_1 ((rd_T65 l0 0).f0) ((rd_T65 l0 0).f1)) = some (r1, r2) := by first | (rw [hy872]; with_reducible exact H) | (have H2_ := (Option.bind_some _ _).symm.trans H; rw [hy872]; with_reducible exact H2_) | (have H2_ := (Option.bind_some _ _).symm.trans H; with_reducible exact H2_) | with_reducible exact H | (rw [hy872]; exact H) | exact H
     have Ny872 := Aside0.mk hy872
     clear hy872
     have H' := Aside0.mk H
     clear H
     go_enter Try.func101, Try.ntmps101
     go_wp2_with (first | ((with_reducible refine gate_dst (N := 4) rfl ?_); refine box_event ?hg (N := 4) ?hd (cs := #[.int .i64 0, .int .i64 0]) (t := 65) ?hr ?_; (case hd => rfl); (case hg => rfl); (case hr => first | (go_simp; done) | (go_simp; rfl)); intro gb869 hg w5 hbox hb; have BK869 := Aside0.mk hbox; have GW869 := bwg_ HB hg; have GE869 := bwg_ HB hg; replace HB := bws_ HB hb; have NB868_869 := bkl_ BK868 hg; have NB869_868 := bkr_ BK868 hg; replace BK868 := bkb_ BK868 hb; clear hb hbox hg; have p870 : 0 ≤ (0 : Int) := (by omega); have q870 : 0 < (l0.length : Int) := of_decide_eq_true (by first | (with_reducible assumption) | assumption); obtain ⟨ad870, e870, hx870_0, hx870_1⟩ := at_T65 HR0.out 0 p870 q870; cases e870; have qi870 : (0 < l0.length) = True := eq_true (by omega); (try rw [show ((0 : Int)).toNat = 0 from rfl] at hx870_0); (try rw [show 0 * 2 = 0 from rfl] at hx870_0); (try rw [Addr.add_zero'] at hx870_0); (try rw [show ((0 : Int)).toNat = 0 from rfl] at hx870_1); (try rw [show 0 * 2 = 0 from rfl] at hx870_1); (try rw [Addr.add_zero'] at hx870_1); replace hx870_0 := (HB.out.cell (World.block_lt_of_cell? w _ hx870_0)).trans hx870_0; replace hx870_1 := (HB.out.cell (World.block_lt_of_cell? w _ hx870_1)).trans hx870_1; replace p870 := eq_true p870; replace q870 := eq_true q870) | ((with_reducible refine gate_dst (N := 5) rfl ?_); refine box_event ?hg (N := 5) ?hd (cs := #[.int .i64 0, .int .i64 0]) (t := 65) ?hr ?_; (case hd => rfl); (case hg => rfl); (case hr => first | (go_simp; done) | (go_simp; rfl)); intro gb871 hg w6 hbox hb; have BK871 := Aside0.mk hbox; have GW871 := bwg_ HB hg; have GE871 := bwg_ HB hg; replace HB := bws_ HB hb; have NB868_871 := bkl_ BK868 hg; have NB871_868 := bkr_ BK868 hg; replace BK868 := bkb_ BK868 hb; have NB869_871 := bkl_ BK869 hg; have NB871_869 := bkr_ BK869 hg; replace BK869 := bkb_ BK869 hb; clear hb hbox hg; have hnb7 := NB871_868.out; have hnc7 := NB868_871.out; have hnb8 := NB871_869.out; have hnc8 := NB869_871.out; obtain ⟨hcz9_0, hcz9_1, hfz9_0, hfz9_1⟩ := bc2_ BK871) | ((with_reducible refine gate_store (t := 65) (p := 5) rfl ?_); refine store_event (t := 65) (p := 5) (v := ?vo_w10) (w1 := ((w6.setCell ⟨gb871, 0, none⟩ (.int .i64 ((rd_T65 l0 0).f0))).setCell ⟨gb871, 1, none⟩ (.int .i64 ((rd_T65 l0 0).f1)))) ?hg ?ho ?hn ?hr ?_; (case ho => rfl); (case hg => rfl); (case hn => rfl); (case hr => first | (go_simp; done) | (go_simp; rfl)); intro w10 hw; have n0_ : Aside0 (w10.heap[gb]? = some (.cells #[.int .i64 a1_0, .int .i64 a1_1] 23 (0, 0))) := ⟨(by rw [hw]; exact (by refine bf_ ?_ NB868_871; refine bf_ ?_ NB868_871; exact bk_ BK868))⟩; have n1_ : Aside0 (w10.heap[gb869]? = some (.cells #[.int .i64 0, .int .i64 0] 65 (0, 0))) := ⟨(by rw [hw]; exact (by refine bf_ ?_ NB869_871; refine bf_ ?_ NB869_871; exact bk_ BK869))⟩; have n2_ : Aside0 (w10.heap[gb871]? = some (.cells #[.int .i64 ((rd_T65 l0 0).f0), .int .i64 ((rd_T65 l0 0).f1)] 65 (0, 0))) := ⟨(by rw [hw]; exact (by refine bp_ (cs := #[.int .i64 ((rd_T65 l0 0).f0), .int .i64 0]) ?_ 1; refine bp_ (cs := #[.int .i64 0, .int .i64 0]) ?_ 0; exact bk_ BK871))⟩; have n3_ : Aside0 (Below w.heap.size w w10) := ⟨(by rw [hw]; exact (bw_ HB))⟩; clear hw; clear BK868; clear BK869; clear BK871; clear HB; have BK868 := n0_; have BK869 := n1_; have BK871 := n2_; have HB := n3_; clear n0_ n1_ n2_ n3_; have q11 : (1 : Int) ≤ ((l0.length : Int) : Int) := of_decide_eq_true (by first | (with_reducible assumption) | assumption); obtain ⟨i011, hi011, _, hsz11, _⟩ := info_parts info65; have hroom11 : l0.length ≤ c0 := HC0.out; have hC11 : Kd.C k65 _ (some ad870) l0.length l0 := HR0.out; have hcut11 := cut_from (P := Try.prog) 93 65 .i64 Try.underlying93 hi011 2 hsz11 (some ad870) l0.length c0 1 (by omega) q11; have hr11 := Kd.C_drop (m := (1 : Int).toNat) (c := c0) hC11 (by omega) hroom11; obtain ⟨A11, hA11⟩ : ∃ A1, A1 = (if c0 = (1 : Int).toNat then (some ad870) else ((some ad870) : Option Addr).map (·.add ((1 : Int).toNat * 2))) := ⟨_, rfl⟩; obtain ⟨c11, hc11⟩ : ∃ c1, c1 = c0 - (1 : Int).toNat := ⟨_, rfl⟩; have hy11 : y872.length = l0.length - (1 : Int).toNat := (by rw [Ny872.out, List.length_drop] <;> omega); rw [show (l0).drop (1 : Int).toNat = y872 from Ny872.out.symm] at hr11; replace hr11 : Kd.C k65 _ A11 y872.length y872 := (by rw [hA11]; exact hr11); rw [← hy11, ← hA11, ← hc11] at hcut11; have HR875 := Aside0.mk hr11; have HC875 := Aside0.mk (show y872.length ≤ c11 from by rw [hy11, hc11]; exact Nat.sub_le_sub_right hroom11 _); clear hr11 hC11 hroom11 hi011 hsz11 hc11; have KY11 := Aside0.mk hy11; have KA11 := Aside0.mk hA11; clear hy11 hA11; replace q11 := eq_true q11))
     go_loopg [14] k (fun kq v14 w' => ∃ (x14_1 : Int) (x872000_1 : Int) (x872001_1 : Int), v14 = .int .i64 x14_1 ∧ Aside0 (num_ratio.l0 kq y872 (y872.length : Int) x14_1 a1_0 a1_1 x872000_1 x872001_1 = some (r1, r2)) ∧ Aside0 (kq ≤ k) ∧ Aside0 (w'.heap[gb]? = some (.cells #[.int .i64 a1_0, .int .i64 a1_1] 23 (0, 0))) ∧ Aside0 (w'.heap[gb869]? = some (.cells #[.int .i64 0, .int .i64 0] 65 (0, 0))) ∧ Aside0 (w'.heap[gb871]? = some (.cells #[.int .i64 x872000_1, .int .i64 x872001_1] 65 (0, 0))) ∧ Aside0 (Below w.heap.size w w'))
     case atStart => exact ⟨(0), ((rd_T65 l0 0).f0), ((rd_T65 l0 0).f1), (by first | rfl | (simp; done) | (simp [*]; done)), H', ⟨Nat.le_refl _⟩, ⟨by exact bk_ BK868⟩, ⟨by exact bk_ BK869⟩, ⟨by exact bk_ BK871⟩, ⟨bw_ HB⟩⟩
     case round =>
      clear H'
      try clear c1
      try clear q1
      try clear p2
      try clear c3
      try clear c3b0
      try clear c3b1
      try clear c4
      try clear c4b0
      try clear c4b1
      try clear c7
      try clear c8
      try clear p8
      try clear q8
      try clear hx8
      try clear qi8
      try clear c10
      try clear c11
      try clear q11
      try clear hcz9_0
      try clear hcz9_1
      try clear hfz9_0
      try clear hfz9_1
      try clear hx870_0
      try clear hx870_1
      try clear p870
      try clear q11
      try clear q870
      obtain ⟨x14_1, x872000_1, x872001_1, rfl, HA, HK1, BK868, BK869, BK871, HB⟩ := hrel
      cases gk with
      | zero => exact absurd HA.out (by simp [num_ratio.l0])
      | succ k1 =>
       have H := HA.out
       clear HA
       simp only [num_ratio.l0] at H
       by_cases c12 : x14_1 < (y872.length : Int)
       · rw [if_pos c12] at H
         have c12b0 : decide (x14_1 < (y872.length : Int)) = true := decide_eq_true c12
         clear c12
         by_cases c13 : 0 ≤ x14_1
         · rw [if_pos c13] at H
           have c13b0 : decide (0 ≤ x14_1) = true := decide_eq_true c13
           clear c13
           by_cases c14 : x14_1 < (y872.length : Int)
           · rw [if_pos c14] at H
             have c14b0 : decide (x14_1 < (y872.length : Int)) = true := decide_eq_true c14
             clear c14
             replace H := Option.bind_eq_some_iff.mp H
             obtain ⟨t878, A150, H⟩ := H
             replace H : (if t878 = true then (num_ratio.l0 k1 y872 (y872.length : Int) (wrap64 (x14_1 + 1)) a1_0 a1_1 ((rd_T65 y872 x14_1).f0) ((rd_T65 y872 x14_1).f1)) else (num_ratio.l0 k1 y872 (y872.length : Int) (wrap64 (x14_1 + 1)) a1_0 a1_1 x872000_1 x872001_1)) = some (r1, r2) := H
             have A15 := Aside0.mk A150
             clear A150
             by_cases c16 : t878 = true
             · subst c16
               have H1 : (num_ratio.l0 k1 y872 (y872.length : Int) (wrap64 (x14_1 + 1)) a1_0 a1_1 ((rd_T65 y872 x14_1).f0) ((rd_T65 y872 x14_1).f1)) = some (r1, r2) := by rw [if_pos rfl] at H; exact H
               clear H
               have H := H1
               clear H1
               have H' := Aside0.mk H
               clear H
               have p876 : 0 ≤ (x14_1 : Int) := of_decide_eq_true (by first | (with_reducible assumption) | assumption)
               have q876 : x14_1 < (y872.length : Int) := of_decide_eq_true (by first | (with_reducible assumption) | assumption)
               obtain ⟨ad876, e876, hx876_0, hx876_1⟩ := at_T65 HR875.out x14_1 p876 q876
               cases e876
               replace hx876_0 := (HB.out.cell (World.block_lt_of_cell? w _ hx876_0)).trans hx876_0
               replace hx876_1 := (HB.out.cell (World.block_lt_of_cell? w _ hx876_1)).trans hx876_1
               replace p876 := eq_true p876
               replace q876 := eq_true q876
               go_wp2_with (first | ((with_reducible refine gate_dst (N := 7) rfl ?_); refine box_event ?hg (N := 7) ?hd (cs := #[.int .i64 0, .int .i64 0]) (t := 65) ?hr ?_; (case hd => rfl); (case hg => rfl); (case hr => first | (go_simp; done) | (go_simp; rfl)); intro gb877 hg w17 hbox hb; have BK877 := Aside0.mk hbox; have GW877 := bwg_ HB hg; have GE877 := bwg_ HB hg; replace HB := bws_ HB hb; have NB868_877 := bkl_ BK868 hg; have NB877_868 := bkr_ BK868 hg; replace BK868 := bkb_ BK868 hb; have NB869_877 := bkl_ BK869 hg; have NB877_869 := bkr_ BK869 hg; replace BK869 := bkb_ BK869 hb; have NB871_877 := bkl_ BK871 hg; have NB877_871 := bkr_ BK871 hg; replace BK871 := bkb_ BK871 hb; clear hb hbox hg; have hnb18 := NB877_868.out; have hnc18 := NB868_877.out; have hnb19 := NB877_869.out; have hnc19 := NB869_877.out; have hnb20 := NB877_871.out; have hnc20 := NB871_877.out; obtain ⟨hcz21_0, hcz21_1, hfz21_0, hfz21_1⟩ := bc2_ BK877; have hnb22 := NB871_868.out; have hnc22 := NB868_871.out; have hnb23 := NB871_869.out; have hnc23 := NB869_871.out; obtain ⟨hcz24_0, hcz24_1, hfz24_0, hfz24_1⟩ := bc2_ BK871) | (go_at_call 102; (with_reducible refine (num_Near_1.calls k1 ((rd_T65 y872 x14_1).f0) ((rd_T65 y872 x14_1).f1) x872000_1 x872001_1 a1_0 a1_1 true _ ?side1 A15.out).mono ?_); (case side1 => exact by refine bf_ ?_ NB868_877; refine bf_ ?_ NB868_877; exact bk_ BK868); rintro e w25 ⟨rfl, hb⟩; replace BK868 := Aside0.mk (blk_below (g := gb) (o := .cells #[.int .i64 a1_0, .int .i64 a1_1] 23 (0, 0)) (by refine bf_ ?_ NB868_877; refine bf_ ?_ NB868_877; exact bk_ BK868) hb); replace BK869 := Aside0.mk (blk_below (g := gb869) (o := .cells #[.int .i64 0, .int .i64 0] 65 (0, 0)) (by refine bf_ ?_ NB869_877; refine bf_ ?_ NB869_877; exact bk_ BK869) hb); replace BK871 := Aside0.mk (blk_below (g := gb871) (o := .cells #[.int .i64 x872000_1, .int .i64 x872001_1] 65 (0, 0)) (by refine bf_ ?_ NB871_877; refine bf_ ?_ NB871_877; exact bk_ BK871) hb); replace BK877 := Aside0.mk (blk_below (g := gb877) (o := .cells #[.int .i64 ((rd_T65 y872 x14_1).f0), .int .i64 ((rd_T65 y872 x14_1).f1)] 65 (0, 0)) (by refine bp_ (cs := #[.int .i64 ((rd_T65 y872 x14_1).f0), .int .i64 0]) ?_ 1; refine bp_ (cs := #[.int .i64 0, .int .i64 0]) ?_ 0; exact bk_ BK877) hb); replace HB := bws_ HB hb; (try clear hb); (try clear hb2); (try clear hk); (try clear hi); obtain ⟨hcz26_0, hcz26_1, hfz26_0, hfz26_1⟩ := bc2_ BK877; obtain ⟨hcz27_0, hcz27_1, hfz27_0, hfz27_1⟩ := bc2_ BK871))
               go_roundg k1
               case measure => have := HK1.out; omega
               case rel => exact ⟨(wrap64 (x14_1 + 1)), ((rd_T65 y872 x14_1).f0), ((rd_T65 y872 x14_1).f1), (by first | rfl | (simp; done) | (simp [*]; done)), H', ⟨by have := HK1.out; omega⟩, ⟨by refine bf_ ?_ NB868_871; refine bf_ ?_ NB868_871; exact bk_ BK868⟩, ⟨by refine bf_ ?_ NB869_871; refine bf_ ?_ NB869_871; exact bk_ BK869⟩, ⟨by refine bp_ (cs := #[.int .i64 ((rd_T65 y872 x14_1).f0), .int .i64 x872001_1]) ?_ 1; refine bp_ (cs := #[.int .i64 x872000_1, .int .i64 x872001_1]) ?_ 0; exact bk_ BK871⟩, ⟨bw_ HB⟩⟩
             · replace c16 := Bool.eq_false_iff.mpr c16
               subst c16
               have H1 : (num_ratio.l0 k1 y872 (y872.length : Int) (wrap64 (x14_1 + 1)) a1_0 a1_1 x872000_1 x872001_1) = some (r1, r2) := by rw [if_neg (show ¬ (false = true) by decide)] at H; exact H
               clear H
               have H := H1
               clear H1
               have H' := Aside0.mk H
               clear H
               have p876 : 0 ≤ (x14_1 : Int) := of_decide_eq_true (by first | (with_reducible assumption) | assumption)
               have q876 : x14_1 < (y872.length : Int) := of_decide_eq_true (by first | (with_reducible assumption) | assumption)
               obtain ⟨ad876, e876, hx876_0, hx876_1⟩ := at_T65 HR875.out x14_1 p876 q876
               cases e876
               replace hx876_0 := (HB.out.cell (World.block_lt_of_cell? w _ hx876_0)).trans hx876_0
               replace hx876_1 := (HB.out.cell (World.block_lt_of_cell? w _ hx876_1)).trans hx876_1
               replace p876 := eq_true p876
               replace q876 := eq_true q876
               go_wp2_with (first | ((with_reducible refine gate_dst (N := 7) rfl ?_); refine box_event ?hg (N := 7) ?hd (cs := #[.int .i64 0, .int .i64 0]) (t := 65) ?hr ?_; (case hd => rfl); (case hg => rfl); (case hr => first | (go_simp; done) | (go_simp; rfl)); intro gb877 hg w28 hbox hb; have BK877 := Aside0.mk hbox; have GW877 := bwg_ HB hg; have GE877 := bwg_ HB hg; replace HB := bws_ HB hb; have NB868_877 := bkl_ BK868 hg; have NB877_868 := bkr_ BK868 hg; replace BK868 := bkb_ BK868 hb; have NB869_877 := bkl_ BK869 hg; have NB877_869 := bkr_ BK869 hg; replace BK869 := bkb_ BK869 hb; have NB871_877 := bkl_ BK871 hg; have NB877_871 := bkr_ BK871 hg; replace BK871 := bkb_ BK871 hb; clear hb hbox hg; have hnb29 := NB877_868.out; have hnc29 := NB868_877.out; have hnb30 := NB877_869.out; have hnc30 := NB869_877.out; have hnb31 := NB877_871.out; have hnc31 := NB871_877.out; obtain ⟨hcz32_0, hcz32_1, hfz32_0, hfz32_1⟩ := bc2_ BK877; have hnb33 := NB871_868.out; have hnc33 := NB868_871.out; have hnb34 := NB871_869.out; have hnc34 := NB869_871.out; obtain ⟨hcz35_0, hcz35_1, hfz35_0, hfz35_1⟩ := bc2_ BK871) | (go_at_call 102; (with_reducible refine (num_Near_1.calls k1 ((rd_T65 y872 x14_1).f0) ((rd_T65 y872 x14_1).f1) x872000_1 x872001_1 a1_0 a1_1 false _ ?side1 A15.out).mono ?_); (case side1 => exact by refine bf_ ?_ NB868_877; refine bf_ ?_ NB868_877; exact bk_ BK868); rintro e w36 ⟨rfl, hb⟩; replace BK868 := Aside0.mk (blk_below (g := gb) (o := .cells #[.int .i64 a1_0, .int .i64 a1_1] 23 (0, 0)) (by refine bf_ ?_ NB868_877; refine bf_ ?_ NB868_877; exact bk_ BK868) hb); replace BK869 := Aside0.mk (blk_below (g := gb869) (o := .cells #[.int .i64 0, .int .i64 0] 65 (0, 0)) (by refine bf_ ?_ NB869_877; refine bf_ ?_ NB869_877; exact bk_ BK869) hb); replace BK871 := Aside0.mk (blk_below (g := gb871) (o := .cells #[.int .i64 x872000_1, .int .i64 x872001_1] 65 (0, 0)) (by refine bf_ ?_ NB871_877; refine bf_ ?_ NB871_877; exact bk_ BK871) hb); replace BK877 := Aside0.mk (blk_below (g := gb877) (o := .cells #[.int .i64 ((rd_T65 y872 x14_1).f0), .int .i64 ((rd_T65 y872 x14_1).f1)] 65 (0, 0)) (by refine bp_ (cs := #[.int .i64 ((rd_T65 y872 x14_1).f0), .int .i64 0]) ?_ 1; refine bp_ (cs := #[.int .i64 0, .int .i64 0]) ?_ 0; exact bk_ BK877) hb); replace HB := bws_ HB hb; (try clear hb); (try clear hb2); (try clear hk); (try clear hi)))
               go_roundg k1
               case measure => have := HK1.out; omega
               case rel => exact ⟨(wrap64 (x14_1 + 1)), (x872000_1), (x872001_1), (by first | rfl | (simp; done) | (simp [*]; done)), H', ⟨by have := HK1.out; omega⟩, ⟨by exact bk_ BK868⟩, ⟨by exact bk_ BK869⟩, ⟨by exact bk_ BK871⟩, ⟨bw_ HB⟩⟩
           · rw [if_neg c14] at H
             exact absurd H (by simp)
         · rw [if_neg c13] at H
           exact absurd H (by simp)
       · rw [if_neg c12] at H
         have c12b0 : decide (x14_1 < (y872.length : Int)) = false := decide_eq_false c12
         clear c12
         simp only [Option.some.injEq, Prod.mk.injEq] at H
         obtain ⟨rfl, rfl⟩ := H
         have hnb37 := NB871_868.out
         have hnc37 := NB868_871.out
         have hnb38 := NB871_869.out
         have hnc38 := NB869_871.out
         obtain ⟨hcz39_0, hcz39_1, hfz39_0, hfz39_1⟩ := bc2_ BK871
         have hnb40 := NB869_868.out
         have hnc40 := NB868_869.out
         obtain ⟨hcz41_0, hcz41_1, hfz41_0, hfz41_1⟩ := bc2_ BK869
         go_wp2
         refine bodyPost_ret (results_cell_row rfl _ _ gb869 65 #[.int .i64 x872000_1, .int .i64 x872001_1] (0, 0) _ rfl (by refine bp_ (cs := #[.int .i64 x872000_1, .int .i64 0]) ?_ 1; refine bp_ (cs := #[.int .i64 0, .int .i64 0]) ?_ 0; exact bk_ BK869) Try.underlying65 rfl (by kernel_rfl)) rfl ?_
         exact ⟨by first | rfl | (simp [*] <;> rfl), bw_ HB⟩
   · rw [if_neg c4] at H
     exact absurd H (by simp)
 · rw [if_neg c3] at H
   exact absurd H (by simp)
/-! ### num_Near: function 59 -/
def num_Near.l0 : Nat → List (S65) → Int → Int → Int → Int → Option (Int × Int × Int)
  | 0, _, _, _, _, _ => none
  | k + 1, x7, x27, x28, x880000, x880001 => if x28 < x27 then ((num_ratio_floor.f (wrap64 (x880000 * (wrap64 (x28 + 1)))) x880001).bind fun t886 => ((some (([(⟨t886, wrap64 (x28 + 1)⟩ : S65), (⟨wrap64 (t886 + 1), wrap64 (x28 + 1)⟩ : S65)] : List (S65)) : List (S65))).bind fun y887 => (if x7.length + y887.length < 8796093022208 then (num_Near.l0 k (x7 ++ y887) x27 (wrap64 (x28 + 1)) x880000 x880001) else (none)))) else ((num_ratio.f k x7 x880000 x880001).bind fun bt893 => ((num_ratio_num.f k bt893.1 bt893.2).bind fun tz_ => exc tz_ (fun tp898 => (none)) (fun bt896 => (some (bt896.1, bt896.2, 0)))))
def num_Near.f (k : Nat) (a0_0 : Int) (a0_1 : Int) (a1 : Int) : Option (Int × Int × Int) := (num_Check.f k a0_0 a0_1).bind fun t881 => (if t881 = 0 then ((num_within.f 1 1000 (([a1] : List Int))).bind fun t885 => (if t885 = true then (if a0_1 ≤ a1 then (some (a0_0, a0_1, 0)) else (num_Near.l0 k ([] : List (S65)) a1 0 a0_0 a0_1)) else (some (0, 0, 3)))) else (some (0, 0, t881)))
theorem num_Near.mono_l : ∀ k, (∀ y0 y1 y2 y3 y4, LeO (num_Near.l0 k y0 y1 y2 y3 y4) (num_Near.l0 (k + 1) y0 y1 y2 y3 y4))
  | 0 => fun _ _ _ _ _ r h => by simp [num_Near.l0] at h
  | k + 1 => by
    have ih0 := num_Near.mono_l k
    · intro y0 y1 y2 y3 y4
      unfold num_Near.l0
      repeat' first
      | (with_reducible exact ih0 _ _ _ _ _)
      | (with_reducible exact num_Check.mono _ _ _)
      | (with_reducible exact num_ratio.mono _ _ _ _)
      | (with_reducible exact num_ratio_num.mono _ _ _)
      | (with_reducible exact LeO.refl _)
      | (with_reducible exact LeO.none _)
      | (with_reducible refine LeO.ite ?_ ?_)
      | (with_reducible refine LeO.bind ?_ (fun _ => ?_))
      | (with_reducible refine LeO.exc (fun _ => ?_) (fun _ => ?_))
      | exact ih0 _ _ _ _ _
      | exact num_Check.mono _ _ _
      | exact num_ratio.mono _ _ _ _
      | exact num_ratio_num.mono _ _ _
      | exact LeO.none _
      | refine LeO.ite ?_ ?_
      | refine LeO.bind ?_ (fun _ => ?_)
theorem num_Near.mono : ∀ a0 a1 a2 k, LeO (num_Near.f k a0 a1 a2) (num_Near.f (k + 1) a0 a1 a2) := by
  intro a0 a1 a2 k
  have ih0 := num_Near.mono_l k
  unfold num_Near.f
  repeat' first
      | (with_reducible exact ih0 _ _ _ _ _)
      | (with_reducible exact num_Check.mono _ _ _)
      | (with_reducible exact num_ratio.mono _ _ _ _)
      | (with_reducible exact num_ratio_num.mono _ _ _)
      | (with_reducible exact LeO.refl _)
      | (with_reducible exact LeO.none _)
      | (with_reducible refine LeO.ite ?_ ?_)
      | (with_reducible refine LeO.bind ?_ (fun _ => ?_))
      | (with_reducible refine LeO.exc (fun _ => ?_) (fun _ => ?_))
      | exact ih0 _ _ _ _ _
      | exact num_Check.mono _ _ _
      | exact num_ratio.mono _ _ _ _
      | exact num_ratio_num.mono _ _ _
      | exact LeO.none _
      | refine LeO.ite ?_ ?_
      | refine LeO.bind ?_ (fun _ => ?_)
set_option maxHeartbeats 8000000 in
set_option maxRecDepth 100000 in
theorem num_Near.calls (k : Nat) (a0_0 : Int) (a0_1 : Int) (a1 : Int) (r1 : Int) (r2 : Int) (r3 : Int) (w : World) (h : num_Near.f k a0_0 a0_1 a1 = some (r1, r2, r3)) :
    Calls Try.prog 59 #[.agg #[.int .i64 a0_0, .int .i64 a0_1], .int .i64 a1] w fun e w' => e = .returned (.tuple #[.agg #[.int .i64 r1, .int .i64 r2], .int .i64 r3]) ∧ Below w.heap.size w w' := by
 have hu23 := Try.underlying23
 have hu65 := Try.underlying65
 have HB := Aside0.mk (Below.refl w.heap.size w)
 have H : ((num_Check.f k a0_0 a0_1).bind fun t881 => (if t881 = 0 then ((num_within.f 1 1000 (([a1] : List Int))).bind fun t885 => (if t885 = true then (if a0_1 ≤ a1 then (some (a0_0, a0_1, 0)) else (num_Near.l0 k ([] : List (S65)) a1 0 a0_0 a0_1)) else (some (0, 0, 3)))) else (some (0, 0, t881)))) = some (r1, r2, r3) := h
 clear h
 replace H := Option.bind_eq_some_iff.mp H
 obtain ⟨t881, A30, H⟩ := H
 replace H : (if t881 = 0 then ((num_within.f 1 1000 (([a1] : List Int))).bind fun t885 => (if t885 = true then (if a0_1 ≤ a1 then (some (a0_0, a0_1, 0)) else (num_Near.l0 k ([] : List (S65)) a1 0 a0_0 a0_1)) else (some (0, 0, 3)))) else (some (0, 0, t881))) = some (r1, r2, r3) := H
 have A3 := Aside0.mk A30
 clear A30
 by_cases c4 : t881 = 0
 · rw [if_pos c4] at H
   have c4b0 : (t881 == 0) = true := beq_iff_eq.mpr c4
   have c4b1 : (t881 != 0) = false := bne_eq_false_iff_eq.mpr c4
   clear c4
   obtain ⟨y882, hy882⟩ : ∃ y_ : List Int, y_ = (([a1] : List Int)) := ⟨_, rfl⟩
   replace H : ((num_within.f 1 1000 y882).bind fun t885 => (if t885 = true then (if a0_1 ≤ a1 then (some (a0_0, a0_1, 0)) else (num_Near.l0 k ([] : List (S65)) a1 0 a0_0 a0_1)) else (some (0, 0, 3)))) = some (r1, r2, r3) := by first | (rw [hy882]; with_reducible exact H) | (have H2_ := (Option.bind_some _ _).symm.trans H; rw [hy882]; with_reducible exact H2_) | (have H2_ := (Option.bind_some _ _).symm.trans H; with_reducible exact H2_) | with_reducible exact H | (rw [hy882]; exact H) | exact H
   have Ny882 := Aside0.mk hy882
   clear hy882
   replace H := Option.bind_eq_some_iff.mp H
   obtain ⟨t885, A50, H⟩ := H
   replace H : (if t885 = true then (if a0_1 ≤ a1 then (some (a0_0, a0_1, 0)) else (num_Near.l0 k ([] : List (S65)) a1 0 a0_0 a0_1)) else (some (0, 0, 3))) = some (r1, r2, r3) := H
   have A5 := Aside0.mk A50
   clear A50
   by_cases c6 : t885 = true
   · subst c6
     have H1 : (if a0_1 ≤ a1 then (some (a0_0, a0_1, 0)) else (num_Near.l0 k ([] : List (S65)) a1 0 a0_0 a0_1)) = some (r1, r2, r3) := by rw [if_pos rfl] at H; exact H
     clear H
     have H := H1
     clear H1
     by_cases c7 : a0_1 ≤ a1
     · rw [if_pos c7] at H
       have c7b0 : decide (a0_1 ≤ a1) = true := decide_eq_true c7
       clear c7
       simp only [Option.some.injEq, Prod.mk.injEq] at H
       obtain ⟨rfl, rfl, rfl⟩ := H
       go_enter Try.func59, Try.ntmps59
       go_wp2_with (first | ((with_reducible refine gate_dst (N := 2) rfl ?_); refine box_event ?hg (N := 2) ?hd (cs := #[.int .i64 a0_0, .int .i64 a0_1]) (t := 23) ?hr ?_; (case hd => rfl); (case hg => rfl); (case hr => first | (go_simp; done) | (go_simp; rfl)); intro gb879 hg w8 hbox hb; have BK879 := Aside0.mk hbox; have GW879 := bwg_ HB hg; have GE879 := bwg_ HB hg; replace HB := bws_ HB hb; clear hb hbox hg) | ((with_reducible refine gate_dst (N := 4) rfl ?_); refine box_event ?hg (N := 4) ?hd (cs := #[.int .i64 0, .int .i64 0]) (t := 23) ?hr ?_; (case hd => rfl); (case hg => rfl); (case hr => first | (go_simp; done) | (go_simp; rfl)); intro gb880 hg w9 hbox hb; have BK880 := Aside0.mk hbox; have GW880 := bwg_ HB hg; have GE880 := bwg_ HB hg; replace HB := bws_ HB hb; have NB879_880 := bkl_ BK879 hg; have NB880_879 := bkr_ BK879 hg; replace BK879 := bkb_ BK879 hb; clear hb hbox hg; have hnb10 := NB879_880.out; have hnc10 := NB880_879.out; obtain ⟨hcz11_0, hcz11_1, hfz11_0, hfz11_1⟩ := bc2_ BK879) | ((with_reducible refine gate_callee (f := 46) rfl ?_); refine gla_ (some 12) Try.func46 #[.agg #[.int .i64 a0_0, .int .i64 a0_1]] ?_; (with_reducible refine (num_Check.calls k a0_0 a0_1 t881 _ A3.out).mono ?_); rintro e w12 ⟨rfl, hb⟩; refine ⟨_, rfl, ?_⟩; replace BK879 := bkb_ BK879 hb; replace BK880 := bkb_ BK880 hb; replace HB := bws_ HB hb; (try clear hb); (try clear hb2); (try clear hk); (try clear hi)) | ((with_reducible refine gate_dst (N := 18) rfl ?_); refine Kd.R_lit (Kd.int .i64) _ 3 ?hg (N := 18) ?hd (xs := ([a1] : List Int)) (inner := [.int .i64 a1]) (ok := fun _ => True) (okp := fun _ => True) ?hr ?hp (fun _ hk => hk) trivial (Below.refl _ _) (Nat.le_refl _) (by simp) ?_; (case hd => rfl); (case hg => rfl); (case hr => first | (go_simp; done) | (go_simp; rfl)); (case hp => exact (Reps.one (show Kd.M (Kd.int .i64) _ _ _ a1 [.int .i64 a1] from rfl) (Reps.none _ _))); intro v883 w13 ho14 hb hg_ hnew_; clear hg_ hnew_; (first | rw [← Ny882.out] at ho14 | (simp only [Int.reduceToNat] at ho14; rw [← Ny882.out] at ho14)); have HO884 := Aside0.mk (Kd.R_lower ho14 (below_size (bw_ HB))); replace BK879 := bkb_ BK879 hb; replace BK880 := bkb_ BK880 hb; replace HB := bws_ HB hb; clear hb ho14; obtain ⟨Ao15, co15, eo15⟩ := Kd.R_slice HO884.out; subst eo15) | ((with_reducible refine gate_callee (f := 80) rfl ?_); refine gla_ (some 19) Try.func80 #[.int .i64 1, .int .i64 1000, .slice Ao15 y882.length co15] ?_; (with_reducible refine (num_within.calls 1 1000 _ _ y882 true _ ?side1 ?side2 A5.out).mono ?_); (case side1 => repeat (first | exact (Kd.R_reads' HO884.out).2.2 | (with_reducible refine Kd.C_alloc ?_ _) | (with_reducible refine Kd.C_drewN ?_ _) | (with_reducible refine Kd.C_drew ?_))); (case side2 => exact (Kd.R_reads' HO884.out).2.1); rintro e w16 ⟨rfl, hb⟩; refine ⟨_, rfl, ?_⟩; replace HO884 := Aside0.mk (Kd.R_below (by (with_reducible repeat (first | apply Kd.R_alloc | apply Kd.R_drewN | apply Kd.R_drew)); exact HO884.out) hb); replace BK879 := bkb_ BK879 hb; replace BK880 := bkb_ BK880 hb; replace HB := bws_ HB hb; (try clear hb); (try clear hb2); (try clear hk); (try clear hi); obtain ⟨hcz17_0, hcz17_1, hfz17_0, hfz17_1⟩ := bc2_ BK879; obtain ⟨hcz18_0, hcz18_1, hfz18_0, hfz18_1⟩ := bc2_ BK880))
       refine bodyPost_ret (results_ct rfl _ _ gb880 23 #[.int .i64 a0_0, .int .i64 a0_1] (0, 0) _ rfl (by refine bp_ (cs := #[.int .i64 a0_0, .int .i64 0]) ?_ 1; refine bp_ (cs := #[.int .i64 0, .int .i64 0]) ?_ 0; exact bk_ BK880) Try.underlying23 rfl (by kernel_rfl)) rfl ?_
       exact ⟨by first | rfl | (simp [*] <;> rfl), bw_ HB⟩
     · rw [if_neg c7] at H
       have c7b0 : decide (a0_1 ≤ a1) = false := decide_eq_false c7
       clear c7
       have H' := Aside0.mk H
       clear H
       go_enter Try.func59, Try.ntmps59
       go_wp2_with (first | ((with_reducible refine gate_dst (N := 2) rfl ?_); refine box_event ?hg (N := 2) ?hd (cs := #[.int .i64 a0_0, .int .i64 a0_1]) (t := 23) ?hr ?_; (case hd => rfl); (case hg => rfl); (case hr => first | (go_simp; done) | (go_simp; rfl)); intro gb879 hg w19 hbox hb; have BK879 := Aside0.mk hbox; have GW879 := bwg_ HB hg; have GE879 := bwg_ HB hg; replace HB := bws_ HB hb; clear hb hbox hg) | ((with_reducible refine gate_dst (N := 4) rfl ?_); refine box_event ?hg (N := 4) ?hd (cs := #[.int .i64 0, .int .i64 0]) (t := 23) ?hr ?_; (case hd => rfl); (case hg => rfl); (case hr => first | (go_simp; done) | (go_simp; rfl)); intro gb880 hg w20 hbox hb; have BK880 := Aside0.mk hbox; have GW880 := bwg_ HB hg; have GE880 := bwg_ HB hg; replace HB := bws_ HB hb; have NB879_880 := bkl_ BK879 hg; have NB880_879 := bkr_ BK879 hg; replace BK879 := bkb_ BK879 hb; clear hb hbox hg; have hnb21 := NB879_880.out; have hnc21 := NB880_879.out; obtain ⟨hcz22_0, hcz22_1, hfz22_0, hfz22_1⟩ := bc2_ BK879) | ((with_reducible refine gate_callee (f := 46) rfl ?_); refine gla_ (some 12) Try.func46 #[.agg #[.int .i64 a0_0, .int .i64 a0_1]] ?_; (with_reducible refine (num_Check.calls k a0_0 a0_1 t881 _ A3.out).mono ?_); rintro e w23 ⟨rfl, hb⟩; refine ⟨_, rfl, ?_⟩; replace BK879 := bkb_ BK879 hb; replace BK880 := bkb_ BK880 hb; replace HB := bws_ HB hb; (try clear hb); (try clear hb2); (try clear hk); (try clear hi)) | ((with_reducible refine gate_dst (N := 18) rfl ?_); refine Kd.R_lit (Kd.int .i64) _ 3 ?hg (N := 18) ?hd (xs := ([a1] : List Int)) (inner := [.int .i64 a1]) (ok := fun _ => True) (okp := fun _ => True) ?hr ?hp (fun _ hk => hk) trivial (Below.refl _ _) (Nat.le_refl _) (by simp) ?_; (case hd => rfl); (case hg => rfl); (case hr => first | (go_simp; done) | (go_simp; rfl)); (case hp => exact (Reps.one (show Kd.M (Kd.int .i64) _ _ _ a1 [.int .i64 a1] from rfl) (Reps.none _ _))); intro v883 w24 ho25 hb hg_ hnew_; clear hg_ hnew_; (first | rw [← Ny882.out] at ho25 | (simp only [Int.reduceToNat] at ho25; rw [← Ny882.out] at ho25)); have HO884 := Aside0.mk (Kd.R_lower ho25 (below_size (bw_ HB))); replace BK879 := bkb_ BK879 hb; replace BK880 := bkb_ BK880 hb; replace HB := bws_ HB hb; clear hb ho25; obtain ⟨Ao26, co26, eo26⟩ := Kd.R_slice HO884.out; subst eo26) | ((with_reducible refine gate_callee (f := 80) rfl ?_); refine gla_ (some 19) Try.func80 #[.int .i64 1, .int .i64 1000, .slice Ao26 y882.length co26] ?_; (with_reducible refine (num_within.calls 1 1000 _ _ y882 true _ ?side1 ?side2 A5.out).mono ?_); (case side1 => repeat (first | exact (Kd.R_reads' HO884.out).2.2 | (with_reducible refine Kd.C_alloc ?_ _) | (with_reducible refine Kd.C_drewN ?_ _) | (with_reducible refine Kd.C_drew ?_))); (case side2 => exact (Kd.R_reads' HO884.out).2.1); rintro e w27 ⟨rfl, hb⟩; refine ⟨_, rfl, ?_⟩; replace HO884 := Aside0.mk (Kd.R_below (by (with_reducible repeat (first | apply Kd.R_alloc | apply Kd.R_drewN | apply Kd.R_drew)); exact HO884.out) hb); replace BK879 := bkb_ BK879 hb; replace BK880 := bkb_ BK880 hb; replace HB := bws_ HB hb; (try clear hb); (try clear hb2); (try clear hk); (try clear hi); obtain ⟨hcz28_0, hcz28_1, hfz28_0, hfz28_1⟩ := bc2_ BK879))
       go_loopg [7, 28] k (fun kq v7 v28 w' => ∃ (x7_1 : List (S65)) (x28_1 : Int), v28 = .int .i64 x28_1 ∧ Aside0 (num_Near.l0 kq x7_1 a1 x28_1 a0_0 a0_1 = some (r1, r2, r3)) ∧ Aside0 (kq ≤ k) ∧ Aside0 (Kd.R k65 65 w' w.heap.size (fun _ => True) v7 x7_1) ∧ Aside0 (w'.heap[gb879]? = some (.cells #[.int .i64 a0_0, .int .i64 a0_1] 23 (0, 0))) ∧ Aside0 (w'.heap[gb880]? = some (.cells #[.int .i64 0, .int .i64 0] 23 (0, 0))) ∧ Aside0 (Below w.heap.size w w'))
       case atStart => exact ⟨(([] : List (S65))), (0), (by first | rfl | (simp; done) | (simp [*]; done)), H', ⟨Nat.le_refl _⟩, ⟨by first | exact Kd.R_nil _ _ _ _ _ | exact Kd.N_nil _ _ _ _ _ | exact Kd.V_nil _ _ _ _ _ | exact Kd.Q_nil _ _ _ _ _ | exact Kd.S_nil _ _ _ _ _⟩, ⟨by exact bk_ BK879⟩, ⟨by exact bk_ BK880⟩, ⟨bw_ HB⟩⟩
       case round =>
        clear H'
        try clear c1
        try clear c2
        try clear p2
        try clear c4
        try clear c4b0
        try clear c4b1
        try clear c5
        try clear c6
        try clear c7
        try clear c7b0
        try clear c8
        try clear c10
        try clear c21
        try clear hcz11_0
        try clear hcz11_1
        try clear hcz17_0
        try clear hcz17_1
        try clear hcz18_0
        try clear hcz18_1
        try clear hcz22_0
        try clear hcz22_1
        try clear hcz28_0
        try clear hcz28_1
        try clear hfz11_0
        try clear hfz11_1
        try clear hfz17_0
        try clear hfz17_1
        try clear hfz18_0
        try clear hfz18_1
        try clear hfz22_0
        try clear hfz22_1
        try clear hfz28_0
        try clear hfz28_1
        obtain ⟨x7_1, x28_1, rfl, HA, HK1, HO_7, BK879, BK880, HB⟩ := hrel
        cases gk with
        | zero => exact absurd HA.out (by simp [num_Near.l0])
        | succ k1 =>
         have H := HA.out
         clear HA
         simp only [num_Near.l0] at H
         by_cases c29 : x28_1 < a1
         · rw [if_pos c29] at H
           have c29b0 : decide (x28_1 < a1) = true := decide_eq_true c29
           clear c29
           replace H := Option.bind_eq_some_iff.mp H
           obtain ⟨t886, A300, H⟩ := H
           replace H : ((some (([(⟨t886, wrap64 (x28_1 + 1)⟩ : S65), (⟨wrap64 (t886 + 1), wrap64 (x28_1 + 1)⟩ : S65)] : List (S65)) : List (S65))).bind fun y887 => (if x7_1.length + y887.length < 8796093022208 then (num_Near.l0 k1 (x7_1 ++ y887) a1 (wrap64 (x28_1 + 1)) a0_0 a0_1) else (none))) = some (r1, r2, r3) := H
           have A30 := Aside0.mk A300
           clear A300
           obtain ⟨y887, hy887⟩ : ∃ y_ : List (S65), y_ = (([(⟨t886, wrap64 (x28_1 + 1)⟩ : S65), (⟨wrap64 (t886 + 1), wrap64 (x28_1 + 1)⟩ : S65)] : List (S65))) := ⟨_, rfl⟩
           replace H : (if x7_1.length + y887.length < 8796093022208 then (num_Near.l0 k1 (x7_1 ++ y887) a1 (wrap64 (x28_1 + 1)) a0_0 a0_1) else (none)) = some (r1, r2, r3) := by first | (rw [hy887]; with_reducible exact H) | (have H2_ := (Option.bind_some _ _).symm.trans H; rw [hy887]; with_reducible exact H2_) | (have H2_ := (Option.bind_some _ _).symm.trans H; with_reducible exact H2_) | with_reducible exact H | (rw [hy887]; exact H) | exact H
           have Ny887 := Aside0.mk hy887
           clear hy887
           by_cases c31 : x7_1.length + y887.length < 8796093022208
           · rw [if_pos c31] at H
             have LMc31 := Aside0.mk c31
             clear c31
             obtain ⟨y890, hy890⟩ : ∃ y_ : List (S65), y_ = (x7_1 ++ y887) := ⟨_, rfl⟩
             replace H : (num_Near.l0 k1 y890 a1 (wrap64 (x28_1 + 1)) a0_0 a0_1) = some (r1, r2, r3) := by first | (rw [hy890]; with_reducible exact H) | (have H2_ := (Option.bind_some _ _).symm.trans H; rw [hy890]; with_reducible exact H2_) | (have H2_ := (Option.bind_some _ _).symm.trans H; with_reducible exact H2_) | with_reducible exact H | (rw [hy890]; exact H) | exact H
             have Ny890 := Aside0.mk hy890
             clear hy890
             have H' := Aside0.mk H
             clear H
             have hnb32 := NB879_880.out
             have hnc32 := NB880_879.out
             obtain ⟨hcz33_0, hcz33_1, hfz33_0, hfz33_1⟩ := bc2_ BK879
             go_wp2_with (first | ((with_reducible refine gate_callee (f := 75) rfl ?_); refine gla_ (some 39) Try.func75 #[.agg #[.int .i64 (wrap64 (a0_0 * (wrap64 (x28_1 + 1)))), .int .i64 a0_1]] ?_; (with_reducible refine (num_ratio_floor.calls (wrap64 (a0_0 * (wrap64 (x28_1 + 1)))) a0_1 t886 _ A30.out).mono ?_); rintro e w34 ⟨rfl, hb⟩; refine ⟨_, rfl, ?_⟩; replace HO_7 := Aside0.mk (Kd.R_below (by (with_reducible repeat (first | apply Kd.R_alloc | apply Kd.R_drewN | apply Kd.R_drew)); exact HO_7.out) hb); replace BK879 := bkb_ BK879 hb; replace BK880 := bkb_ BK880 hb; replace HB := bws_ HB hb; (try clear hb); (try clear hb2); (try clear hk); (try clear hi)) | ((with_reducible refine gate_dst (N := 50) rfl ?_); refine Kd.R_lit k65 _ 65 ?hg (N := 50) ?hd (xs := ([(⟨t886, wrap64 (x28_1 + 1)⟩ : S65), (⟨wrap64 (t886 + 1), wrap64 (x28_1 + 1)⟩ : S65)] : List (S65))) (inner := [.int .i64 t886, .int .i64 (wrap64 (x28_1 + 1)), .int .i64 (wrap64 (t886 + 1)), .int .i64 (wrap64 (x28_1 + 1))]) (ok := fun _ => True) (okp := fun _ => True) ?hr ?hp (fun _ hk => hk) trivial (Below.refl _ _) (Nat.le_refl _) (by simp) ?_; (case hd => rfl); (case hg => rfl); (case hr => first | (go_simp; done) | (go_simp; rfl)); (case hp => exact (Reps.c2 (show Kd.M k65 _ _ _ (⟨t886, wrap64 (x28_1 + 1)⟩ : S65) [.int .i64 t886, .int .i64 (wrap64 (x28_1 + 1))] from (k65_mkM _ _ _ (⟨t886, wrap64 (x28_1 + 1)⟩ : S65) )) (Reps.c2 (show Kd.M k65 _ _ _ (⟨wrap64 (t886 + 1), wrap64 (x28_1 + 1)⟩ : S65) [.int .i64 (wrap64 (t886 + 1)), .int .i64 (wrap64 (x28_1 + 1))] from (k65_mkM _ _ _ (⟨wrap64 (t886 + 1), wrap64 (x28_1 + 1)⟩ : S65) )) (Reps.none _ _)))); intro v888 w35 ho36 hb hg_ hnew_; clear hg_ hnew_; (first | rw [← Ny887.out] at ho36 | (simp only [Int.reduceToNat] at ho36; rw [← Ny887.out] at ho36)); have HO889 := Aside0.mk (Kd.R_lower (Kd.R_new' ho36 (Kd.R_lt (by (with_reducible repeat (first | apply Kd.R_alloc | apply Kd.R_drewN | apply Kd.R_drew)); exact HO_7.out))) (below_size (bw_ HB))); replace HO_7 := Aside0.mk (Kd.R_elder' (by (with_reducible repeat (first | apply Kd.R_alloc | apply Kd.R_drewN | apply Kd.R_drew)); exact HO_7.out) (Kd.R_base ho36) hb); replace BK879 := bkb_ BK879 hb; replace BK880 := bkb_ BK880 hb; replace HB := bws_ HB hb; clear hb ho36; obtain ⟨Ao38, co38, eo38⟩ := Kd.R_slice HO889.out; subst eo38) | ((with_reducible refine gate_builtin (b := .append) (xs := #[.tmp 40, .tmp 50]) rfl ?_); at_builtin; refine Kd.R_append_rows k65 (w0 := w) w.heap.size rfl (.tmp 40) (.tmp 50) 93 65 (.agg #[(.int .i64 0), (.int .i64 0)]) 16 rfl Try.underlying93 info65 rfl (by decide) (by omega) u7 x7_1 y887 _ _ _ (fun k_ => some k_ ≠ (.slice Ao38 y887.length co38 : Value).ownBlock) (fun _ => False) rfl rfl ?aO ?aR (fun _ _ h => h) (fun _ h => h.elim) ?aF ?aB ?aS ?aL ?_; (case aR => repeat (first | exact (Kd.R_reads' HO889.out).2.2 | (with_reducible refine Kd.C_alloc ?_ _) | (with_reducible refine Kd.C_drewN ?_ _) | (with_reducible refine Kd.C_drew ?_))); (case aB => exact (bw_ HB)); (case aF => exact (fun k_ hk => Kd.fresh' (Kd.R_lt (by (with_reducible repeat (first | apply Kd.R_alloc | apply Kd.R_drewN | apply Kd.R_drew)); exact HO889.out)) k_ hk)); (case aO => exact (by (with_reducible repeat (first | apply Kd.R_alloc | apply Kd.R_drewN | apply Kd.R_drew)); exact Kd.R_mono HO_7.out (fun _ hk => hk.2))); (case aS => exact (below_size (bw_ HB))); (case aL => have := LMc31.out; omega); intro v891 w37 ho hb hg hat; rw [← Ny890.out] at ho; replace BK879 := Aside0.mk (blk_grown (bk_ BK879) hg (Kd.R_ne HO_7.out BK879.out (by decide))); replace BK880 := Aside0.mk (blk_grown (bk_ BK880) hg (Kd.R_ne HO_7.out BK880.out (by decide))); replace HO889 := Aside0.mk (Kd.R_after (ok := (fun _ => True)) (by (with_reducible repeat (first | apply Kd.R_alloc | apply Kd.R_drewN | apply Kd.R_drew)); exact HO889.out) hg hat); replace HB := Aside0.mk hb; have HO892 := Aside0.mk ho; clear HO_7; clear ho hb hg hat))
             go_roundg k1
             case measure => have := HK1.out; omega
             case rel => exact ⟨(y890), (wrap64 (x28_1 + 1)), (by first | rfl | (simp; done) | (simp [*]; done)), H', ⟨by have := HK1.out; omega⟩, ⟨by (with_reducible repeat (first | apply Kd.R_alloc | apply Kd.R_drewN | apply Kd.R_drew)); exact Kd.R_mono HO892.out (fun _ hk => trivial)⟩, ⟨by exact bk_ BK879⟩, ⟨by exact bk_ BK880⟩, ⟨bw_ HB⟩⟩
           · rw [if_neg c31] at H
             exact absurd H (by simp)
         · rw [if_neg c29] at H
           have c29b0 : decide (x28_1 < a1) = false := decide_eq_false c29
           clear c29
           replace H := Option.bind_eq_some_iff.mp H
           obtain ⟨⟨t893, t894⟩, A390, H⟩ := H
           replace H : ((num_ratio_num.f k1 t893 t894).bind fun tz_ => exc tz_ (fun tp898 => (none)) (fun bt896 => (some (bt896.1, bt896.2, 0)))) = some (r1, r2, r3) := H
           have A39 := Aside0.mk A390
           clear A390
           replace H := Option.bind_eq_some_iff.mp H
           obtain ⟨tz_, A400, H⟩ := H
           cases tz_ with
           | error tp898 =>
            replace H : (none) = some (r1, r2, r3) := H
            have A40 := Aside0.mk A400
            clear A400
            exact absurd H (by simp)
           | ok bt896 =>
            obtain ⟨t896, t897⟩ := bt896
            replace H : (some (t896, t897, 0)) = some (r1, r2, r3) := H
            have A40 := Aside0.mk A400
            clear A400
            simp only [Option.some.injEq, Prod.mk.injEq] at H
            obtain ⟨rfl, rfl, rfl⟩ := H
            obtain ⟨Ao41, co41, eo41⟩ := Kd.R_slice HO_7.out
            subst eo41
            go_wp2_with (first | ((with_reducible refine gate_callee (f := 101) rfl ?_); refine gla_ (some 55) Try.func101 #[.slice Ao41 x7_1.length co41, .func (.func 102) #[] #[.pointer (some ⟨gb879, 0, none⟩)]] ?_; (with_reducible refine (num_ratio.calls k1 _ _ x7_1 a0_0 a0_1 t893 t894 _ ?side1 ?side2 ?side3 A39.out).mono ?_); (case side1 => repeat (first | exact (Kd.R_reads' HO_7.out).2.2 | (with_reducible refine Kd.C_alloc ?_ _) | (with_reducible refine Kd.C_drewN ?_ _) | (with_reducible refine Kd.C_drew ?_))); (case side2 => exact (Kd.R_reads' HO_7.out).2.1); (case side3 => exact by exact bk_ BK879); rintro e w42 ⟨rfl, hb⟩; refine ⟨_, rfl, ?_⟩; replace HO_7 := Aside0.mk (Kd.R_below (by (with_reducible repeat (first | apply Kd.R_alloc | apply Kd.R_drewN | apply Kd.R_drew)); exact HO_7.out) hb); replace BK879 := bkb_ BK879 hb; replace BK880 := bkb_ BK880 hb; replace HB := bws_ HB hb; (try clear hb); (try clear hb2); (try clear hk); (try clear hi)) | ((with_reducible refine gate_dst (N := 10) rfl ?_); refine box_event ?hg (N := 10) ?hd (cs := #[.int .i64 0, .int .i64 0]) (t := 65) ?hr ?_; (case hd => rfl); (case hg => rfl); (case hr => first | (go_simp; done) | (go_simp; rfl)); intro gb895 hg w43 hbox hb; replace HO_7 := Aside0.mk (Kd.R_below (Kd.R_elderB (by (with_reducible repeat (first | apply Kd.R_alloc | apply Kd.R_drewN | apply Kd.R_drew)); exact HO_7.out) gb895 (Nat.le_of_eq hg.symm)) hb); have BK895 := Aside0.mk hbox; have GW895 := bwg_ HB hg; have GE895 := bwg_ HB hg; replace HB := bws_ HB hb; have NB879_895 := bkl_ BK879 hg; have NB895_879 := bkr_ BK879 hg; replace BK879 := bkb_ BK879 hb; have NB880_895 := bkl_ BK880 hg; have NB895_880 := bkr_ BK880 hg; replace BK880 := bkb_ BK880 hb; clear hb hbox hg; have hnb44 := NB895_879.out; have hnc44 := NB879_895.out; have hnb45 := NB895_880.out; have hnc45 := NB880_895.out; obtain ⟨hcz46_0, hcz46_1, hfz46_0, hfz46_1⟩ := bc2_ BK895) | ((with_reducible refine gate_callee (f := 73) rfl ?_); refine gla_ (some 57) Try.func73 #[.agg #[.int .i64 t893, .int .i64 t894]] ?_; (with_reducible refine (num_ratio_num.calls k1 t893 t894 t896 t897 _ A40.out).mono ?_); rintro e w47 ⟨rfl, hb⟩; refine ⟨_, rfl, ?_⟩; replace HO_7 := Aside0.mk (Kd.R_below (by (with_reducible repeat (first | apply Kd.R_alloc | apply Kd.R_drewN | apply Kd.R_drew)); exact (Kd.R_mono (Kd.R_far (p := ⟨gb895, 1, none⟩) (Kd.R_far (p := ⟨gb895, 0, none⟩) (Kd.R_mono HO_7.out (fun k_ hk => (⟨hk, hk.2⟩ : _ ∧ k_ ≠ gb895))) (fun _ hk => hk.2) (.int .i64 t893)) (fun _ hk => hk.2) (.int .i64 t894)) (fun _ h_ => h_.1))) hb); replace BK879 := Aside0.mk (blk_below (g := gb879) (o := .cells #[.int .i64 a0_0, .int .i64 a0_1] 23 (0, 0)) (by refine bf_ ?_ NB879_895; refine bf_ ?_ NB879_895; exact bk_ BK879) hb); replace BK880 := Aside0.mk (blk_below (g := gb880) (o := .cells #[.int .i64 0, .int .i64 0] 23 (0, 0)) (by refine bf_ ?_ NB880_895; refine bf_ ?_ NB880_895; exact bk_ BK880) hb); replace BK895 := Aside0.mk (blk_below (g := gb895) (o := .cells #[.int .i64 t893, .int .i64 t894] 65 (0, 0)) (by refine bp_ (cs := #[.int .i64 t893, .int .i64 0]) ?_ 1; refine bp_ (cs := #[.int .i64 0, .int .i64 0]) ?_ 0; exact bk_ BK895) hb); replace HB := bws_ HB hb; (try clear hb); (try clear hb2); (try clear hk); (try clear hi); have hnb48 := NB880_879.out; have hnc48 := NB879_880.out; obtain ⟨hcz49_0, hcz49_1, hfz49_0, hfz49_1⟩ := bc2_ BK880))
            refine bodyPost_ret (results_ct rfl _ _ gb880 23 #[.int .i64 t896, .int .i64 t897] (0, 0) _ rfl (by refine bp_ (cs := #[.int .i64 t896, .int .i64 0]) ?_ 1; refine bp_ (cs := #[.int .i64 0, .int .i64 0]) ?_ 0; exact bk_ BK880) Try.underlying23 rfl (by kernel_rfl)) rfl ?_
            exact ⟨by first | rfl | (simp [*] <;> rfl), bw_ HB⟩
   · replace c6 := Bool.eq_false_iff.mpr c6
     subst c6
     have H1 : (some (0, 0, 3)) = some (r1, r2, r3) := by rw [if_neg (show ¬ (false = true) by decide)] at H; exact H
     clear H
     have H := H1
     clear H1
     simp only [Option.some.injEq, Prod.mk.injEq] at H
     obtain ⟨rfl, rfl, rfl⟩ := H
     go_enter Try.func59, Try.ntmps59
     go_wp2_with (first | ((with_reducible refine gate_dst (N := 2) rfl ?_); refine box_event ?hg (N := 2) ?hd (cs := #[.int .i64 a0_0, .int .i64 a0_1]) (t := 23) ?hr ?_; (case hd => rfl); (case hg => rfl); (case hr => first | (go_simp; done) | (go_simp; rfl)); intro gb879 hg w50 hbox hb; have BK879 := Aside0.mk hbox; have GW879 := bwg_ HB hg; have GE879 := bwg_ HB hg; replace HB := bws_ HB hb; clear hb hbox hg) | ((with_reducible refine gate_dst (N := 4) rfl ?_); refine box_event ?hg (N := 4) ?hd (cs := #[.int .i64 0, .int .i64 0]) (t := 23) ?hr ?_; (case hd => rfl); (case hg => rfl); (case hr => first | (go_simp; done) | (go_simp; rfl)); intro gb880 hg w51 hbox hb; have BK880 := Aside0.mk hbox; have GW880 := bwg_ HB hg; have GE880 := bwg_ HB hg; replace HB := bws_ HB hb; have NB879_880 := bkl_ BK879 hg; have NB880_879 := bkr_ BK879 hg; replace BK879 := bkb_ BK879 hb; clear hb hbox hg; have hnb52 := NB879_880.out; have hnc52 := NB880_879.out; obtain ⟨hcz53_0, hcz53_1, hfz53_0, hfz53_1⟩ := bc2_ BK879) | ((with_reducible refine gate_callee (f := 46) rfl ?_); refine gla_ (some 12) Try.func46 #[.agg #[.int .i64 a0_0, .int .i64 a0_1]] ?_; (with_reducible refine (num_Check.calls k a0_0 a0_1 t881 _ A3.out).mono ?_); rintro e w54 ⟨rfl, hb⟩; refine ⟨_, rfl, ?_⟩; replace BK879 := bkb_ BK879 hb; replace BK880 := bkb_ BK880 hb; replace HB := bws_ HB hb; (try clear hb); (try clear hb2); (try clear hk); (try clear hi)) | ((with_reducible refine gate_dst (N := 18) rfl ?_); refine Kd.R_lit (Kd.int .i64) _ 3 ?hg (N := 18) ?hd (xs := ([a1] : List Int)) (inner := [.int .i64 a1]) (ok := fun _ => True) (okp := fun _ => True) ?hr ?hp (fun _ hk => hk) trivial (Below.refl _ _) (Nat.le_refl _) (by simp) ?_; (case hd => rfl); (case hg => rfl); (case hr => first | (go_simp; done) | (go_simp; rfl)); (case hp => exact (Reps.one (show Kd.M (Kd.int .i64) _ _ _ a1 [.int .i64 a1] from rfl) (Reps.none _ _))); intro v883 w55 ho56 hb hg_ hnew_; clear hg_ hnew_; (first | rw [← Ny882.out] at ho56 | (simp only [Int.reduceToNat] at ho56; rw [← Ny882.out] at ho56)); have HO884 := Aside0.mk (Kd.R_lower ho56 (below_size (bw_ HB))); replace BK879 := bkb_ BK879 hb; replace BK880 := bkb_ BK880 hb; replace HB := bws_ HB hb; clear hb ho56; obtain ⟨Ao57, co57, eo57⟩ := Kd.R_slice HO884.out; subst eo57) | ((with_reducible refine gate_callee (f := 80) rfl ?_); refine gla_ (some 19) Try.func80 #[.int .i64 1, .int .i64 1000, .slice Ao57 y882.length co57] ?_; (with_reducible refine (num_within.calls 1 1000 _ _ y882 false _ ?side1 ?side2 A5.out).mono ?_); (case side1 => repeat (first | exact (Kd.R_reads' HO884.out).2.2 | (with_reducible refine Kd.C_alloc ?_ _) | (with_reducible refine Kd.C_drewN ?_ _) | (with_reducible refine Kd.C_drew ?_))); (case side2 => exact (Kd.R_reads' HO884.out).2.1); rintro e w58 ⟨rfl, hb⟩; refine ⟨_, rfl, ?_⟩; replace HO884 := Aside0.mk (Kd.R_below (by (with_reducible repeat (first | apply Kd.R_alloc | apply Kd.R_drewN | apply Kd.R_drew)); exact HO884.out) hb); replace BK879 := bkb_ BK879 hb; replace BK880 := bkb_ BK880 hb; replace HB := bws_ HB hb; (try clear hb); (try clear hb2); (try clear hk); (try clear hi); obtain ⟨hcz59_0, hcz59_1, hfz59_0, hfz59_1⟩ := bc2_ BK880))
     refine bodyPost_ret (results_ct rfl _ _ gb880 23 #[.int .i64 0, .int .i64 0] (0, 0) _ rfl (by refine bp_ (cs := #[.int .i64 0, .int .i64 0]) ?_ 1; refine bp_ (cs := #[.int .i64 0, .int .i64 0]) ?_ 0; exact bk_ BK880) Try.underlying23 rfl (by kernel_rfl)) rfl ?_
     exact ⟨by first | rfl | (simp [*] <;> rfl), bw_ HB⟩
 · rw [if_neg c4] at H
   have c4b0 : (t881 == 0) = false := beq_eq_false_iff_ne.mpr c4
   have c4b1 : (t881 != 0) = true := bne_iff_ne.mpr c4
   simp only [Option.some.injEq, Prod.mk.injEq] at H
   obtain ⟨rfl, rfl, rfl⟩ := H
   go_enter Try.func59, Try.ntmps59
   go_wp2_with (first | ((with_reducible refine gate_dst (N := 2) rfl ?_); refine box_event ?hg (N := 2) ?hd (cs := #[.int .i64 a0_0, .int .i64 a0_1]) (t := 23) ?hr ?_; (case hd => rfl); (case hg => rfl); (case hr => first | (go_simp; done) | (go_simp; rfl)); intro gb879 hg w60 hbox hb; have BK879 := Aside0.mk hbox; have GW879 := bwg_ HB hg; have GE879 := bwg_ HB hg; replace HB := bws_ HB hb; clear hb hbox hg) | ((with_reducible refine gate_dst (N := 4) rfl ?_); refine box_event ?hg (N := 4) ?hd (cs := #[.int .i64 0, .int .i64 0]) (t := 23) ?hr ?_; (case hd => rfl); (case hg => rfl); (case hr => first | (go_simp; done) | (go_simp; rfl)); intro gb880 hg w61 hbox hb; have BK880 := Aside0.mk hbox; have GW880 := bwg_ HB hg; have GE880 := bwg_ HB hg; replace HB := bws_ HB hb; have NB879_880 := bkl_ BK879 hg; have NB880_879 := bkr_ BK879 hg; replace BK879 := bkb_ BK879 hb; clear hb hbox hg; have hnb62 := NB879_880.out; have hnc62 := NB880_879.out; obtain ⟨hcz63_0, hcz63_1, hfz63_0, hfz63_1⟩ := bc2_ BK879) | ((with_reducible refine gate_callee (f := 46) rfl ?_); refine gla_ (some 12) Try.func46 #[.agg #[.int .i64 a0_0, .int .i64 a0_1]] ?_; (with_reducible refine (num_Check.calls k a0_0 a0_1 t881 _ A3.out).mono ?_); rintro e w64 ⟨rfl, hb⟩; refine ⟨_, rfl, ?_⟩; replace BK879 := bkb_ BK879 hb; replace BK880 := bkb_ BK880 hb; replace HB := bws_ HB hb; (try clear hb); (try clear hb2); (try clear hk); (try clear hi); obtain ⟨hcz65_0, hcz65_1, hfz65_0, hfz65_1⟩ := bc2_ BK880))
   refine bodyPost_ret (results_ct rfl _ _ gb880 23 #[.int .i64 0, .int .i64 0] (0, 0) _ rfl (by refine bp_ (cs := #[.int .i64 0, .int .i64 0]) ?_ 1; refine bp_ (cs := #[.int .i64 0, .int .i64 0]) ?_ 0; exact bk_ BK880) Try.underlying23 rfl (by kernel_rfl)) rfl ?_
   exact ⟨by first | rfl | (simp [*] <;> rfl), bw_ HB⟩
/-! ### slices_AppendSeq_int_int: function 120, by hand -/
/-! #### a range over a function whose body may panic -/
/-- the walk of code in a frame whose function there is (a panic leaves it only so) -/
def wpE (P : Program) (c : Code) (Q : Exit → Act → World → Prop) (a : Act) (w : World) : Prop :=
  ∀ (b : Frame) (k : List Item) (cs : List Frame), b.roundOf = none → (∃ fn, P.funcs[b.fn]? = some fn) →
    ∃ e a' w', Q e a' w' ∧ ArrivesIn (Machine.fenced P Fence.wide) P (lone (b.atR a (.code c :: k)) cs w) b k cs e a' w'
section
variable {P : Program} {Q : Exit → Act → World → Prop} {a : Act} {w : World}
theorem calm_ {fr : Frame} {cs : List Frame} {w : World} (h : fr.about P w = none) : (lone fr cs w).fenced P Fence.wide := fenced_calm (n := 0) (F := Fence.wide) trivial (room_wide _) h
theorem wpE_of {c : Code} (h : c.wp P Q a w) : wpE P c Q a w := fun b k cs hro _ => (wpIn_wide (n := 0)).2 h b k cs hro trivial (room_wide _)
theorem wpE_mono {c : Code} {Q' : Exit → Act → World → Prop} (h : wpE P c Q a w) (hq : ∀ e a w, Q e a w → Q' e a w) : wpE P c Q' a w :=
  fun b k cs hro hb => let ⟨e, a', w', q, r⟩ := h b k cs hro hb; ⟨e, a', w', hq _ _ _ q, r⟩
theorem wpE_seq {x y : Code} (h : wpE P x (Exit.then (wpE P y Q) Q) a w) : wpE P (Code.seq x y) Q a w := by
  intro b k cs hro hb
  have h0 : (lone (b.atR a (.code (.seq x y) :: k)) cs w).fenced P Fence.wide := calm_ rfl
  obtain ⟨e, a₁, w₁, hq, harr⟩ := h b (.code y :: k) cs hro hb
  have on : ∀ e', e = e' → e' ≠ .normal → Exit.then (wpE P y Q) Q e' a₁ w₁ → Q e' a₁ w₁ := fun e' _ hn hq => by
    cases e' <;> first | exact hq | exact absurd rfl hn
  by_cases hn : e = .normal
  · subst hn
    obtain ⟨e₂, a₂, w₂, hq₂, harr₂⟩ := hq b k cs hro hb
    exact ⟨e₂, a₂, w₂, hq₂, .of_steps (.head h0 stepR_seq harr) harr₂⟩
  · exact ⟨e, a₁, w₁, on e rfl hn hq, .of_steps (.one h0 stepR_seq) (.pass (x := .code y) rfl (fun _ _ => .inl hn) harr)⟩
theorem wpE_seq_k {x y : Code} (h : ∀ K : Act → World → Prop, (∀ a w, wpE P y Q a w → K a w) → x.wp P (Exit.then K Q) a w) : wpE P (Code.seq x y) Q a w := wpE_seq (wpE_of (h _ fun _ _ h => h))
def onlyNP (Q : Exit → Act → World → Prop) : Exit → Act → World → Prop
  | .normal, a, w => Q .normal a w
  | .panic ch, a, w => Q (.panic ch) a w
  | _, _, _ => False
theorem wpE_block {id : Nat} {c : Code} (h : wpE P c (onlyNP Q) a w) : wpE P (Code.block id c) Q a w := by
  intro b k cs hro hb
  have h0 : (lone (b.atR a (.code (.block id c) :: k)) cs w).fenced P Fence.wide := calm_ rfl
  obtain ⟨e, a₁, w₁, hq, harr⟩ := h b (.inBlock id :: k) cs hro hb
  cases e with
  | normal => exact ⟨.normal, a₁, w₁, hq, .head h0 stepR_block (StepsIn.trans harr (.one (calm_ rfl) stepR_inBlock))⟩
  | panic ch =>
    obtain ⟨todo, hs⟩ := harr
    exact ⟨.panic ch, a₁, w₁, hq, todo, .head h0 stepR_block hs⟩
  | exit id => exact hq.elim
  | goto l => exact hq.elim
  | ret => exact hq.elim
  | outgrown => exact hq.elim
/-- how a frame leaves that may have a mark on top of its deferred calls -/
def LeavesE (P : Program) (fn : Func) (tmps : Array Value) (R : Ending → World → Prop) (ds : List Deferred) (u : FrameMode) (w : World) : Prop :=
  (∃ (r : Nat) (ds' : List Deferred) (w' : World), ds = { target := .collected r, args := #[] } :: ds' ∧ (Instr.takeDeferred r).run P w = .ok [] w' ∧ Leaves P fn tmps R ds' u w') ∨ Leaves P fn tmps R ds u w
def bodyPostE (P : Program) (fn : Func) (R : Ending → World → Prop) : Exit → Act → World → Prop
  | .normal, a, w | .ret, a, w => LeavesE P fn a.tmps R a.defers .returning w
  | .panic chain, a, w => LeavesE P fn a.tmps R a.defers (.panicking chain) w
  | _, _, _ => False
/-- a function's contract out of its body's walk, marks and all -/
theorem calls_of_wpE {f : FuncId} {fn : Func} {c : Code} {args : Array Value} {R : Ending → World → Prop} (hf : P.funcs[f]? = some fn) (hb : fn.body = some c)
    (h : wpE P c (bodyPostE P fn R) { tmps := args ++ Array.replicate (fn.ntmps - args.size) undef, defers := [] } w) : Calls P f args w R := by
  intro cs
  let b : Frame := { (default : Frame) with fn := f, kind := .normal, roundOf := none }
  have henter : Frame.enter P f args .normal = b.atR { tmps := args ++ Array.replicate (fn.ntmps - args.size) undef, defers := [] } [.code c] := by
    simp [Frame.enter, Frame.atR, hf, hb, b]
  obtain ⟨e, a', w', hq, harr⟩ := h b [] cs rfl ⟨fn, hf⟩
  rw [← henter] at harr
  have go : ∀ (todo : List Item) (u : FrameMode), u ≠ .run → StepsIn (Machine.fenced P Fence.wide) P (lone (Frame.enter P f args .normal) cs w) (lone { b.atR a' todo with mode := u } cs w') → LeavesE P fn a'.tmps R a'.defers u w' →
      ∃ e w' fr, R e w' ∧ Comes P (lone (Frame.enter P f args .normal) cs w) (lone fr cs w') e ∧ fr.fn = f ∧ fr.leaving P w' e := fun todo u hu hs hq => by
    rcases hq with ⟨r, ds', w2, hd, ht, hq⟩ | hq
    · have h1 : step P (lone { b.atR a' todo with mode := u } cs w') = .next (lone { { b.atR a' todo with mode := u } with defers := [] ++ ds' } cs w2) := step_collected hu hd rfl ht
      obtain ⟨e', w'', fr', hR, hs', hfn, hl⟩ := leaves_steps (P := P) (fn := fn) ds' u w2 { { b.atR a' todo with mode := u } with defers := [] ++ ds' } cs rfl rfl rfl hf rfl hq
      exact ⟨e', w'', fr', hR, Comes.of_steps (hs.steps.trans (Steps.one h1)) hs', hfn, hl⟩
    · obtain ⟨e', w'', fr', hR, hs', hfn, hl⟩ := leaves_steps (P := P) (fn := fn) a'.defers u w' { b.atR a' todo with mode := u } cs rfl rfl rfl hf rfl hq
      exact ⟨e', w'', fr', hR, Comes.of_steps hs.steps hs', hfn, hl⟩
  cases e with
  | normal => exact go [] .returning (by simp) (StepsIn.trans harr (.one (calm_ rfl) (stepR_end rfl))) hq
  | ret =>
    obtain ⟨todo, hs₀⟩ := harr.1 rfl
    exact go todo .returning (by simp) hs₀ hq
  | panic chain =>
    obtain ⟨todo, hs₀⟩ := harr
    exact go todo (.panicking chain) (by simp) hs₀ hq
  | exit id => exact hq.elim
  | goto l => exact hq.elim
  | outgrown => exact hq.elim
def roundC (P : Program) (l : Nat) (R : Ending → World → Prop) : Exit → Act → World → Prop
  | .normal, _, w => ∃ v w', (Instr.endRound l none).run P w = .ok v w' ∧ R (.returned v) w'
  | .panic ch, a, w => a.defers = [] ∧ R (.panicked ch) w
  | _, _, _ => False
/-- one round: its body's walk goes on, or it panics -/
theorem roundIn_c {l : Nat} {f : FuncId} {fn : Func} {tmps : Array Value} {assign body : Code} {R : Ending → World → Prop} (hf : P.funcs[f]? = some fn)
    (h : assign.wpIn (Fence.wide.inRound l) 0 P (Exit.then (fun a₁ w₁ => ∃ w₂, (Instr.beginRound l).run P w₁ = .ok () w₂ ∧ body.wpIn (Fence.wide.inRound l) 0 P (roundC P l R) a₁ w₂) (fun _ _ _ => False)) { tmps := tmps, defers := [] } w) :
    RoundIn Fence.wide 0 P l f tmps assign body w R := by
  refine ⟨trivial, fun c cs hr => ?_⟩
  let b : Frame := { (default : Frame) with fn := f, kind := .normal, roundOf := some l }
  have hb0 : Frame.round l f tmps assign body .normal = b.atR { tmps := tmps, defers := [] } [.code assign, .beginRound, .code body] := by
    simp [Frame.round, Frame.atR, b]
  obtain ⟨e, a₁, w₁, hq, harr⟩ := h b [.beginRound, .code body] (c :: cs) rfl trivial (room_wide _)
  rw [← hb0] at harr
  cases e with
  | normal =>
    obtain ⟨w₂, hbr, hbody⟩ := hq
    have s1 : StepsIn (Machine.fenced P Fence.wide) P (lone (b.atR a₁ [.beginRound, .code body]) (c :: cs) w₁) (lone (b.atR a₁ [.code body]) (c :: cs) w₂) :=
      .one (calm_ rfl) (stepR_beginRound rfl hbr)
    obtain ⟨e₂, a₂, w₃, hq₂, harr₂⟩ := hbody b [] (c :: cs) rfl trivial (room_wide _)
    cases e₂ with
    | normal =>
      obtain ⟨v, w₄, hend, hR⟩ := hq₂
      exact ⟨.returned v, w₄, hR, (StepsIn.trans harr s1).trans (StepsIn.trans harr₂ (.one (calm_ rfl) (stepR_round_end rfl rfl hend)))⟩
    | panic chain =>
      obtain ⟨hd, hR⟩ := hq₂
      obtain ⟨todo, hs⟩ := harr₂
      have hl : ({ b.atR a₂ todo with mode := .panicking chain } : Frame).leaving P w₃ (.panicked chain) := ⟨rfl, hd, fn, hf⟩
      exact ⟨.panicked chain, w₃, hR, (StepsIn.trans harr s1).trans (StepsIn.trans hs (.one (fenced_leaving (F := Fence.wide) (n := 0) trivial (room_wide _) hl) (step_leave_panicked hl)))⟩
    | ret => exact hq₂.elim
    | exit id => exact hq₂.elim
    | goto t => exact hq₂.elim
    | outgrown => exact hq₂.elim
  | exit id => exact hq.elim
  | goto t => exact hq.elim
  | ret => exact hq.elim
  | panic chain => exact hq.elim
  | outgrown => exact hq.elim
/-- an iterator that hands over xs, whatever the rounds do to blocks of their own; a round that goes on keeps Kp; the iterator writes blocks of M itself -/
def SeqC {α : Type} (P : Program) (g : Nat) (lb : Array Value) (encs : α → Array Value) (M : Nat → Prop) (Kp : World → World → Prop) (xs : List α) (w : World) : Prop :=
  ∀ (l : Nat) (J : List α → World → Prop) (Jp : List PanicEntry → World → Prop) (W : World), Below w.heap.size w W →
    (∀ s W1 W2 row, J s W1 → W1.grownBy W2 row → (∀ r, row = some r → M r) → J s W2) →
    (∀ pre x W1, pre ++ [x] <+: xs → J pre W1 → YieldAt Fence.wide 0 P l (encs x) W1 fun e W' => (e = .returned (.bool true) ∧ J (pre ++ [x]) W' ∧ Kp W1 W') ∨ ∃ ch, e = .panicked ch ∧ Jp ch W') →
    J [] W →
    CallsIn Fence.wide 0 P g (#[.func (.yield l) #[] #[]] ++ lb) W fun e W' => (∃ v, e = .returned v ∧ J xs W') ∨ ∃ ch, e = .panicked ch ∧ Jp ch W'
def postC {α : Type} (B : Nat) (Kp : World → World → Prop) (I : List α → World → Prop) (Ip : List PanicEntry → World → Prop) (s : List α) (W : World) : Exit → Act → World → Prop
  | .normal, _, W' => (∀ k, B ≤ k → k < B + 2 → W'.heap[k]? = W.heap[k]?) ∧ Kp W W' ∧ I s W'
  | .panic ch, a', W' => a'.defers = [] ∧ (∀ k, B ≤ k → k < B + 2 → W'.heap[k]? = W.heap[k]?) ∧ Ip ch W'
  | _, _, _ => False
/-- 'for .. := range seq { .. }' -/
theorem wpE_range {α : Type} {g : Operand} {ps : Array Tmp} {assign body : Code} {gf : Nat} {lb : Array Value} (hg : a.eval g = .func (.func gf) #[] lb) (eg : ∀ args w, (callFunc gf args).run P w = .ok (.enter gf args) w)
    {encs : α → Array Value} {M : Nat → Prop} {Kp : World → World → Prop} {xs : List α} {w0 : World} (hseq : SeqC P gf lb encs M Kp xs w0) (hb0 : Below w0.heap.size w0 w) (hM : ∀ r, M r → r < w.heap.size) (hKt : ∀ A B C, Kp A B → Kp B C → Kp A C) (hKb : ∀ (W : World) (o : Obj), w.heap.size + 1 < W.heap.size → Kp W (W.putObj (w.heap.size + 1) o)) (hps : ∀ x, (encs x).size = ps.size)
    (I : List α → World → Prop) (Ip : List PanicEntry → World → Prop)
    (hI : ∀ s W1 W2 row, I s W1 → W1.grownBy W2 row → (∀ r, row = some r → M r ∨ (w.heap.size ≤ r ∧ r < w.heap.size + 2)) → I s W2) (h0 : I [] w) (a₁ : α → Act)
    (hassign : ∀ (l : Nat) (x : α) (W : World) (K : Act → World → Prop), K (a₁ x) W → assign.wpIn (Fence.wide.inRound l) 0 P (Exit.then K (fun _ _ _ => False)) { tmps := (ps.zip (encs x)).foldl (fun t (p, v) => t.setIfInBounds p v) a.tmps, defers := [] } W)
    (hbody : ∀ (l : Nat) (pre : List α) (x : α) (W : World), w.heap.size + 2 ≤ W.heap.size → pre ++ [x] <+: xs → I pre W → body.wpIn (Fence.wide.inRound l) 0 P (postC w.heap.size Kp I Ip (pre ++ [x]) W) (a₁ x) W)
    (hdone : ∀ W, I xs W → W.heap[w.heap.size]? = some (.deferred (some [])) → Q .normal { a with defers := { target := .collected w.heap.size, args := #[] } :: a.defers } W)
    (hpanic : ∀ ch W, Ip ch W → W.heap[w.heap.size]? = some (.deferred (some [])) → Q (.panic ch) { a with defers := { target := .collected w.heap.size, args := #[] } :: a.defers } W) :
    wpE P (Code.rangeFunc g ps assign body) Q a w := by
  intro b k cs hro hbf
  obtain ⟨bfn, hbfn⟩ := hbf
  obtain ⟨rec, hrec⟩ : ∃ rec : LoopState → Loop, rec = fun st => { state := st, pending := none, fn := b.fn, tmps := a.tmps, params := ps, assign, body, defers := w.heap.size } := ⟨_, rfl⟩
  obtain ⟨W1, hW1⟩ : ∃ W1, (w.alloc (.deferred (some []))).alloc (.loop (rec .ready)) = W1 := ⟨_, rfl⟩
  have hL1 : W1.heap[w.heap.size + 1]? = some (.loop (rec .ready)) := by
    rw [← hW1]; have := World.alloc_heap_new (w.alloc (.deferred (some []))) (.loop (rec .ready)); rwa [World.size_alloc] at this
  have hK1 : W1.heap[w.heap.size]? = some (.deferred (some [])) := by
    rw [← hW1]; exact (Below.heap_alloc _ _ _ (by simp)).trans (World.alloc_heap_new w _)
  have hI1 : I [] W1 := by
    rw [← hW1]; exact hI _ _ _ _ (hI _ _ _ _ h0 (World.grownBy_alloc w _ none) (fun r e => by cases e)) (World.grownBy_alloc _ _ none) (fun r e => by cases e)
  have hb1 : Below w0.heap.size w0 W1 := by
    rw [← hW1]; exact hb0.trans ((((Below.refl _ w).alloc (Nat.le_refl _) _).alloc (by simp) _).mono hb0.size)
  have hIl : ∀ (s : List α) (W : World) (o : Obj), I s W → I s (W.putObj (w.heap.size + 1) o) := fun s W o h =>
    hI s _ _ _ h (grownBy_putObj' W (w.heap.size + 1) o) (fun r e => by cases e; exact Or.inr ⟨by omega, by omega⟩)
  have hen : (Instr.enterLoop b.fn a.tmps ps assign body b.roundOf).run P w = .ok (w.heap.size + 1, [{ target := .collected w.heap.size, args := #[] }]) W1 := by
    rw [hro, ← hW1, hrec]; exact run_enterLoop_outer _ _ _ _ _
  have hres : (resolve a.eval (rangeCall g (w.heap.size + 1)) 0).run P W1 = .ok { target := .fn (.func gf) lb, args := #[.func (.yield (w.heap.size + 1)) #[] #[]] } W1 := by
    simp only [resolve, hg]
    simp [go_sem]
  have hinv : (invoke (.fn (.func gf) lb) #[.func (.yield (w.heap.size + 1)) #[] #[]]).run P W1 = .ok (.enter gf (#[.func (.yield (w.heap.size + 1)) #[] #[]] ++ lb)) W1 := by
    simp [invoke, go_sem, eg]
  have henter := stepR_rangeFunc (P := P) (b := b) (a := a) (k := k) (cs := cs) (w := w) (g := g) (ps := ps) (assign := assign) (body := body) hen hres hinv
  have h00 : (lone (b.atR a (.code (.rangeFunc g ps assign body) :: k)) cs w).fenced P Fence.wide := fenced_lone (.inl trivial) (fun _ _ => trivial) (room_wide _)
  obtain ⟨_, hcall⟩ := hseq (w.heap.size + 1)
    (fun pre W => I pre W ∧ W.heap[w.heap.size + 1]? = some (.loop (rec .ready)) ∧ W.heap[w.heap.size]? = some (.deferred (some [])))
    (fun ch W => Ip ch W ∧ W.heap[w.heap.size]? = some (.deferred (some []))) W1 hb1
    (fun s A B row hs hg' hr => by
      refine ⟨hI s A B row hs.1 hg' (fun r e => Or.inl (hr r e)), ?_, ?_⟩
      · exact (hg'.block _ (Array.getElem?_eq_some_iff.1 hs.2.1).1 (fun e => by have := hM _ (hr _ e.symm); omega)).trans hs.2.1
      · exact (hg'.block _ (Array.getElem?_eq_some_iff.1 hs.2.2).1 (fun e => by have := hM _ (hr _ e.symm); omega)).trans hs.2.2)
    (fun pre x W hpx hJ => by
      obtain ⟨hi, hl, hk⟩ := hJ
      have hlt : w.heap.size + 1 < W.heap.size := (Array.getElem?_eq_some_iff.1 hl).1
      have hy := run_yield (P := P) (args := encs x) hl (by rw [hrec]; exact hps x)
      rw [hrec] at hy
      refine ⟨b.fn, _, assign, body, hy, roundIn_c hbfn (hassign _ x W _ ⟨_, run_beginRound hl (by rw [hrec]), ?_⟩)⟩
      have hl2 : (W.putObj (w.heap.size + 1) (.loop { rec .ready with state := .busy })).heap[w.heap.size + 1]? = some (.loop { rec .ready with state := .busy }) := World.putObj_heap_same hlt
      have hk2 : (W.putObj (w.heap.size + 1) (.loop { rec .ready with state := .busy })).heap[w.heap.size]? = some (.deferred (some [])) := (World.putObj_heap_other (by omega)).trans hk
      have hw2 := hKb W (.loop { rec .ready with state := .busy }) hlt
      refine wpIn_mono (hbody _ pre x _ (by rw [World.putObj_size]; omega) hpx (hIl _ _ _ hi)) ?_
      rintro e a3 W3 hp
      cases e with
      | normal =>
        obtain ⟨hk3, hb3, hi3⟩ := hp
        have hl3 := (hk3 (w.heap.size + 1) (by omega) (by omega)).trans hl2
        have hd3 := (hk3 w.heap.size (by omega) (by omega)).trans hk2
        have hlt3 : w.heap.size + 1 < W3.heap.size := (Array.getElem?_eq_some_iff.1 hl3).1
        refine ⟨_, _, run_endRound none hl3, .inl ⟨rfl, ⟨hIl _ _ _ hi3, ?_, (World.putObj_heap_other (by omega)).trans hd3⟩, hKt _ _ _ (hKt _ _ _ hw2 hb3) (hKb _ _ hlt3)⟩⟩
        rw [World.putObj_heap_same hlt3, hrec]
        rfl
      | panic ch =>
        obtain ⟨hd, hk3, hi3⟩ := hp
        exact ⟨hd, .inr ⟨ch, rfl, hi3, (hk3 w.heap.size (by omega) (by omega)).trans hk2⟩⟩
      | ret => exact hp.elim
      | exit id => exact hp.elim
      | goto t => exact hp.elim
      | outgrown => exact hp.elim) ⟨hI1, hL1, hK1⟩
  obtain ⟨e, w₃, fr, hR, hsteps, hfn, hleave⟩ := hcall (b.atR { a with defers := [{ target := .collected w.heap.size, args := #[] }] ++ a.defers } (.inRangeFunc (w.heap.size + 1) :: k) :: cs) (room_wide _)
  rcases hR with ⟨v, rfl, hi, hl, hk⟩ | ⟨ch, rfl, hi, hk⟩
  · have hf3 : (lone fr (b.atR { a with defers := [{ target := .collected w.heap.size, args := #[] }] ++ a.defers } (.inRangeFunc (w.heap.size + 1) :: k) :: cs) w₃).fenced P Fence.wide := fenced_leaving (F := Fence.wide) (n := 0) trivial (room_wide _) hleave
    have hend : (Instr.endLoop (w.heap.size + 1)).run P w₃ = .ok none (w₃.putObj (w.heap.size + 1) (.loop { rec .ready with state := .exhausted })) := (run_endLoop (P := P) hl (by rw [hrec]; simp)).trans (by rw [hrec])
    refine ⟨.normal, _, w₃.putObj (w.heap.size + 1) (.loop { rec .ready with state := .exhausted }), hdone _ (hIl _ _ _ hi) ((World.putObj_heap_other (by omega)).trans hk), ?_⟩
    refine .head h00 henter (StepsIn.trans hsteps (.head hf3 ?_ (.one (calm_ (fr := b.atR { a with defers := [{ target := .collected w.heap.size, args := #[] }] ++ a.defers } (.endRangeFunc (w.heap.size + 1) :: k)) rfl) (stepR_endRangeFunc hend))))
    rw [← finish_atR_inRangeFunc (w.heap.size + 1) v]; exact step_leave_returned hleave
  · have hf3 : (lone fr (b.atR { a with defers := [{ target := .collected w.heap.size, args := #[] }] ++ a.defers } (.inRangeFunc (w.heap.size + 1) :: k) :: cs) w₃).fenced P Fence.wide := fenced_leaving (F := Fence.wide) (n := 0) trivial (room_wide _) hleave
    refine ⟨.panic ch, _, w₃, hpanic ch _ hi hk, .inRangeFunc (w.heap.size + 1) :: k, .head h00 henter (StepsIn.trans hsteps (.one hf3 ?_))⟩
    rw [← Frame.raise_atR]; exact step_leave_panicked hleave
end

/-! #### the terms of a ratio -/
def num_terms.go : Nat → Int → Int → Option (List Int)
  | 0, _, _ => none
  | k + 1, n, d => if d > 0 then (num_ratio_floor.f n d).bind fun f => (num_terms.go k d (wrap64 (n - wrap64 (f * d)))).bind fun l => some (f :: l) else some []
theorem num_terms.mono : ∀ n d k, LeO (num_terms.go k n d) (num_terms.go (k + 1) n d) := by
  intro n d k
  induction k generalizing n d with
  | zero => exact LeO.none _
  | succ k ih =>
    unfold num_terms.go
    exact LeO.ite (LeO.bind (LeO.refl _) (fun f => LeO.bind (ih _ _) (fun _ => LeO.refl _))) (LeO.refl _)
/-- how many are still to come -/
def num_terms.left (k Bn : Nat) (W : World) : Nat := ((num_terms.go k (intOf ((W.cell? ⟨Bn, 0, none⟩).getD undef)) (intOf ((W.cell? ⟨Bn, 1, none⟩).getD undef))).getD []).length
theorem num_terms.left_is {k Bn : Nat} {W : World} {N D : Int} {rest : List Int} (hc : W.heap[Bn]? = some (.cells #[.int .i64 N, .int .i64 D] 65 (0, 0))) (h : num_terms.go k N D = some rest) : num_terms.left k Bn W = rest.length := by
  obtain ⟨c0, c1, _, _⟩ := bc2_ (Aside0.mk hc)
  unfold num_terms.left
  rw [c0, c1]
  show ((num_terms.go k N D).getD []).length = _
  rw [h]
  rfl
theorem own_base {W : World} {base base' : Nat} {e : TypeId} {size k : Nat} {v : Value} {xs : List Value} (h : W.ownsRow base e size v k xs) (hb : base' ≤ base) : W.ownsRow base' e size v k xs :=
  ⟨h.1, h.2.imp id fun ⟨g, cap, cur, hv, hg, r⟩ => ⟨g, cap, cur, hv, Nat.le_trans hb hg, r⟩⟩
theorem grown_set (W : World) (a : Addr) (v : Value) : W.grownBy (W.setCell a v) (some a.block) := ⟨rfl, rfl, rfl, by simp [World.setCell], fun k _ hk => Below.heap_setCell _ _ _ _ (fun e => hk (by rw [e]))⟩
theorem grown_below {W W' : World} (h : Below W.heap.size W W') : W.grownBy W' none := ⟨h.os, h.tape, h.output, h.size, fun k hk _ => h.block k hk⟩
 attribute [local go_sem] Oper.semAt_some in
set_option maxHeartbeats 4000000 in
set_option maxRecDepth 100000 in
theorem num_terms.all1 (l Bn n₀ k0 : Nat) (xs : List Int) (N D : Int) (J : List Int → World → Prop) (Jp : List PanicEntry → World → Prop) (hBn : Bn < n₀)
    (hJ : ∀ s W1 W2 row, J s W1 → W1.grownBy W2 row → (∀ r, row = some r → r = Bn) → J s W2)
    (hY : ∀ pre x W1, pre ++ [x] <+: xs → J pre W1 → YieldAt Fence.wide 0 Try.prog l #[.int .i64 x] W1 fun e W' => (e = .returned (.bool true) ∧ J (pre ++ [x]) W' ∧ Below n₀ W1 W') ∨ ∃ ch, e = .panicked ch ∧ Jp ch W')
    (W : World) (hgo : num_terms.go k0 N D = some xs) (hb : W.heap[Bn]? = some (.cells #[.int .i64 N, .int .i64 D] 65 (0, 0))) (h0 : J [] W) :
    CallsIn Fence.wide 0 Try.prog 121 #[.func (.yield l) #[] #[], .pointer (some ⟨Bn, 0, none⟩)] W fun e W' => (∃ v, e = .returned v ∧ J xs W') ∨ ∃ ch, e = .panicked ch ∧ Jp ch W' := by
  have hu := Try.underlying65
  refine callsIn_of_wp Try.func121 rfl trivial ?_
  simp only [Try.ntmps121, List.size_toArray, List.length_cons, List.length_nil, Nat.reduceAdd, Nat.reduceSub, Array.replicate_succ, Array.replicate_zero, List.push_toArray, List.append_toArray, List.nil_append, List.cons_append]
  have HJ := Aside0.mk hJ
  have HY := Aside0.mk hY
  have HR : Aside0 (∃ (pre rest : List Int) (N D : Int), xs = pre ++ rest ∧ num_terms.go k0 N D = some rest ∧ W.heap[Bn]? = some (.cells #[.int .i64 N, .int .i64 D] 65 (0, 0)) ∧ J pre W) := ⟨[], xs, N, D, rfl, hgo, hb, h0⟩
  clear hJ hY hgo hb h0
  gi_wp2
  gi_loopw [] (fun wr => ∃ (pre rest : List Int) (N D : Int), xs = pre ++ rest ∧ num_terms.go k0 N D = some rest ∧ wr.heap[Bn]? = some (.cells #[.int .i64 N, .int .i64 D] 65 (0, 0)) ∧ J pre wr) (fun wr => num_terms.left k0 Bn wr)
  case atStart => exact HR.out
  case round =>
    clear HR
    obtain ⟨pre, rest, N, D, hx, hg, hc, hJs⟩ := hrel
    have HML := Aside0.mk (num_terms.left_is hc hg)
    obtain ⟨c0, c1, f0, f1⟩ := bc2_ (Aside0.mk hc)
    cases k0 with
    | zero => exact absurd hg (by simp [num_terms.go])
    | succ k =>
      have hg' := hg
      unfold num_terms.go at hg'
      by_cases hD : D > 0
      · rw [if_pos hD] at hg'
        obtain ⟨f, hf, hg'⟩ := Option.bind_eq_some_iff.mp hg'
        obtain ⟨rest', hr, hg'⟩ := Option.bind_eq_some_iff.mp hg'
        obtain rfl := Option.some.inj hg'
        have hr0 := num_terms.mono _ _ _ _ hr
        have hD0 : decide (0 < D) = true := decide_eq_true hD
        clear hg hD
        gi_wp2
        refine ⟨trivial, rfl, ?_⟩
        refine (callsIn_wide.2 (num_ratio_floor.calls N D f _ hf)).mono ?_
        rintro e w1 ⟨rfl, hb1⟩
        have hJ1 := HJ.out _ _ _ none hJs (grown_below hb1) (fun r e => by cases e)
        have hc1 := blk_below hc hb1
        obtain ⟨fn, tmps, assign, body, hy, hR⟩ := HY.out pre f w1 ⟨rest', by rw [hx, List.append_assoc]; rfl⟩ hJ1
        clear c0 c1 f0 f1 hc hJs hb1
        gi_wp2
        refine ⟨rfl, ?_⟩
        refine hR.mono ?_
        clear hR hy hJ1
        rintro e W3 (⟨rfl, hJ3, hk3⟩ | ⟨ch, rfl, hp⟩)
        · have hc3 := (hk3.block Bn hBn).trans hc1
          obtain ⟨c0, c1, f0, f1⟩ := bc2_ (Aside0.mk hc3)
          gi_wp2
          have hc4 := blk_put (blk_put hc3 0 (.int .i64 D) rfl) 1 (.int .i64 (wrap64 (N - wrap64 (f * D)))) rfl
          refine ⟨⟨pre ++ [f], rest', D, _, by rw [hx, List.append_assoc]; rfl, hr0, hc4, ?_⟩, ?_⟩
          · exact HJ.out _ _ _ _ (HJ.out _ _ _ _ hJ3 (grown_set _ _ _) (fun r e => by cases e; rfl)) (grown_set _ _ _) (fun r e => by cases e; rfl)
          · rw [num_terms.left_is hc4 hr0, HML.out]
            exact Nat.lt_succ_self _
        · exact ⟨rfl, .inr ⟨ch, rfl, hp⟩⟩
      · rw [if_neg hD] at hg'
        obtain rfl := Option.some.inj hg'
        have hD0 : decide (0 < D) = false := decide_eq_false hD
        clear hg hD hc HML
        gi_wp2
        go_end0
        exact .inl ⟨⟨_, rfl⟩, hJs⟩
theorem num_terms.seq {Bn n₀ k0 : Nat} {xs : List Int} {N D : Int} {w : World} (hBn : Bn < n₀) (hgo : num_terms.go k0 N D = some xs) (hb : w.heap[Bn]? = some (.cells #[.int .i64 N, .int .i64 D] 65 (0, 0))) :
    SeqC Try.prog 121 #[.pointer (some ⟨Bn, 0, none⟩)] (fun x : Int => #[.int .i64 x]) (fun r => r = Bn) (Below n₀) xs w := fun l J Jp W hW hJ hY h0 =>
  num_terms.all1 l Bn n₀ k0 xs N D J Jp hBn hJ hY W hgo ((hW.block Bn (blk_lt hb)).trans hb) h0
 attribute [local go_sem] Oper.semAt_some in
set_option maxHeartbeats 4000000 in
set_option maxRecDepth 100000 in
theorem slices_AppendSeq.calls {gf : Nat} {lb : Array Value} (eg : ∀ args w, (callFunc gf args).run Try.prog w = .ok (.enter gf args) w) {M : Nat → Prop} {xs : List Int} (w00 w : World)
    (hseq : SeqC Try.prog gf lb (fun x : Int => #[.int .i64 x]) M (Below w.heap.size) xs w) (hM : ∀ r, M r → w00.heap.size ≤ r ∧ r < w.heap.size) (hb00 : Below w00.heap.size w00 w) (hN : xs.length < 17592186044416) :
    Calls Try.prog 120 #[.slice none 0 0, .func (.func gf) #[] lb] w fun e w' => ∃ v, e = .returned v ∧ w'.ownsRow w.heap.size 3 1 v xs.length (xs.map (Value.int .i64)) ∧ Below w00.heap.size w00 w' := by
  refine calls_of_wpE Try.func120 rfl ?_
  simp only [Try.ntmps120, List.size_toArray, List.length_cons, List.length_nil, Nat.reduceAdd, Nat.reduceSub, Array.replicate_succ, Array.replicate_zero, List.push_toArray, List.append_toArray, List.nil_append, List.cons_append]
  have HS := Aside0.mk hseq
  have HM := Aside0.mk hM
  have HB := Aside0.mk hb00
  clear hseq hM hb00
  refine wpE_seq_k fun K hK => ?_
  go_wp2
  refine wpE_seq (wpE_seq_k fun K hK => ?_)
  go_wp2
  refine wpE_block ?_
  have hb1 := (HB.out).alloc (HB.out).size (.cells #[.slice none 0 0] 55)
  have hbw : Below w.heap.size w (w.alloc (.cells #[.slice none 0 0] 55)) := (Below.refl _ w).alloc (Nat.le_refl _) _
  have hx0 : Boxed (w.alloc (.cells #[.slice none 0 0] 55)) w.heap.size 55 (.slice none 0 0) := Boxed.new w _ _
  have hs1 : (w.alloc (.cells #[.slice none 0 0] 55)).heap.size = w.heap.size + 1 := by simp
  have hs00 := (HB.out).size
  generalize w.alloc (.cells #[.slice none 0 0] 55) = w1 at hb1 hbw hx0 hs1 ⊢
  refine wpE_range (lb := lb) (gf := gf) rfl eg HS.out hbw (fun r hr => by have := HM.out r hr; omega) (fun _ _ _ h k => h.trans k) (fun W o h => (Below.refl _ W).grown (grownBy_putObj' W _ o) (by omega) (fun k e => by cases e; omega)) (fun _ => rfl)
    (fun pre W => ∃ v, Boxed W w.heap.size 55 v ∧ W.ownsRow (w.heap.size + 3) 3 1 v pre.length (pre.map (Value.int .i64)) ∧ Below w00.heap.size w00 W)
    (fun _ _ => False) ?hI ?h0 (fun x => { tmps := #[.slice none 0 0, .func (.func gf) #[] lb, .pointer (some ⟨w.heap.size, 0, none⟩), undef, .slice none 0 0, .int .i64 x, .func (.func gf) #[] lb, .int .i64 x, undef, undef, undef, undef, undef], defers := [] }) ?assign ?body ?done (fun _ _ h _ => h.elim)
  case hI =>
    rintro s W1 W2 row ⟨v, hv, hr, hB⟩ hg hrow
    have hne : v.ownBlock = none ∨ v.ownBlock ≠ row := by
      cases hvb : v.ownBlock with
      | none => exact Or.inl rfl
      | some b =>
        right
        intro e
        have h1 := (hr.lt b hvb).1
        rcases hrow b e.symm with h | h
        · have := HM.out _ h; omega
        · omega
    refine ⟨v, hv.kept hg (fun e => ?_), hr.kept hg hne, hB.grown hg hB.size (fun k e => ?_)⟩
    · rcases hrow _ e.symm with h | h
      · have := HM.out _ h; omega
      · omega
    · rcases hrow _ e with h | h
      · exact (HM.out _ h).1
      · omega
  case h0 => exact ⟨_, hx0, ⟨rfl, .inl ⟨rfl, rfl⟩⟩, hb1⟩
  case assign =>
    intro l x W K hK
    gi_wp2
    exact hK
  case body =>
    rintro l pre x W hsz hpx ⟨v, hv, hrow, hB⟩
    obtain ⟨i0, hi, hz0, hz1, hz2⟩ := info_parts info3
    have hlen : pre.length < xs.length := by
      obtain ⟨q, hq⟩ := hpx
      rw [← hq, List.length_append, List.length_append]
      simp only [List.length_cons, List.length_nil]
      omega
    have hvc := hv.cell
    gi_wp2_with (gi_at_builtin; refine wpListIn_append_own _ rfl _ _ 55 rfl (w.heap.size + 3) 3 i0 (.int .i64 0) 1 8 Try.underlying55 hi hz0 hz1 hz2 rfl (by decide) _ _ _ rfl (hrow.alloc _) ⟨W.heap.size, 0, none⟩ 1 1 [.int .i64 x] rfl rfl (cell_one_new _ _ _) (by simp [Value.oneCell']) (by simp [maxLen]; omega) (by omega) (by simp; omega) ?_; intro v' w2 hown' hgrow _; obtain ⟨g', cap', rfl⟩ := ownsRow_succ hown'; have hv1 := (hv.alloc _).kept hgrow (hv.not_row (by decide) hrow); have hc1 := hv1.cell; have hf1 := hv1.frozen)
    have hne : ∀ k, k < w.heap.size + 3 → some k ≠ v.ownBlock := fun k hk e => by have := (hrow.lt k e.symm).1; omega
    have hBW := (((Below.refl w.heap.size W).alloc (by omega) _).grown hgrow (by simp; omega) (fun j ej => by have := (hrow.lt j ej).1; omega)).setCell (p := ⟨w.heap.size, 0, none⟩) (Nat.le_refl _) (.slice (some ⟨g', 0, none⟩) (pre.length + 1) cap')
    refine ⟨fun k hk1 hk2 => ?_, hBW, ⟨_, hv1.set _, ?_, hB.trans (hBW.mono hs00)⟩⟩
    · exact (Below.heap_setCell _ _ _ k (by show k ≠ w.heap.size; omega)).trans ((hgrow.block k (by simp; omega) (hne k (by omega))).trans (Below.heap_alloc _ _ k (by omega)))
    · have := hown'.kept (grownBy_setCell' w2 w.heap.size (.slice (some ⟨g', 0, none⟩) (pre.length + 1) cap')) (Or.inr fun e => by have := (hown'.lt _ e).1; omega)
      simpa using this
  case done =>
    rintro W ⟨v, hv, hrow, hB⟩ hD
    have hvc := hv.cell
    have hvf := hv.frozen
    refine wpE_of ?_
    go_wp2
    rw [hs1] at hD
    refine .inl ⟨_, _, _, rfl, run_takeDeferred hD, ?_⟩
    exact ⟨_, results_tmp rfl _ _ _, v, rfl, own_base (ownsRow_putObj hrow _ hD rfl) (by omega), hB.grown (grownBy_putObj' _ _ _) hB.size (fun k e => by cases e; omega)⟩
set_option maxHeartbeats 4000000 in
set_option maxRecDepth 100000 in
theorem slices_Collect.calls {gf : Nat} {lb : Array Value} (eg : ∀ args w, (callFunc gf args).run Try.prog w = .ok (.enter gf args) w) {M : Nat → Prop} {xs : List Int} (w00 w : World)
    (hseq : SeqC Try.prog gf lb (fun x : Int => #[.int .i64 x]) M (Below w.heap.size) xs w) (hM : ∀ r, M r → w00.heap.size ≤ r ∧ r < w.heap.size) (hb00 : Below w00.heap.size w00 w) (hN : xs.length < 17592186044416) :
    Calls Try.prog 105 #[.func (.func gf) #[] lb] w fun e w' => ∃ v, e = .returned v ∧ w'.ownsRow w.heap.size 3 1 v xs.length (xs.map (Value.int .i64)) ∧ Below w00.heap.size w00 w' := by
  have HC := Aside0.mk (slices_AppendSeq.calls eg w00 w hseq hM hb00 hN)
  clear hseq hM hb00 eg
  go_enter Try.func105, Try.ntmps105
  go_wp2_with (fail)
  refine HC.out.mono ?_
  rintro e w' ⟨v, rfl, hrow, hB⟩
  go_wp2
  go_ret
  exact ⟨v, rfl, hrow, hB⟩
set_option maxHeartbeats 4000000 in
set_option maxRecDepth 100000 in
theorem num_terms.calls (N D : Int) (w : World) : Calls Try.prog 106 #[.agg #[.int .i64 N, .int .i64 D]] w fun e w' => e = .returned (.func (.func 121) #[] #[.pointer (some ⟨w.heap.size, 0, none⟩)]) ∧ w' = w.alloc (.cells #[.int .i64 N, .int .i64 D] 65) := by
  have hu := Try.underlying65
  go_enter Try.func106, Try.ntmps106
  go_wp2
  go_ret
  exact ⟨rfl, rfl⟩
def num_Terms.f (k : Nat) (a0_0 : Int) (a0_1 : Int) : Option (List Int × Int) := (num_Check.f k a0_0 a0_1).bind fun e => if e = 0 then ((num_terms.go k a0_0 a0_1).bind fun l => if l.length < 17592186044416 then some (l, 0) else none) else some ([], e)
theorem num_Terms.mono : ∀ a0 a1 k, LeO (num_Terms.f k a0 a1) (num_Terms.f (k + 1) a0 a1) := fun a0 a1 k =>
  LeO.bind (num_Check.mono a0 a1 k) (fun _ => LeO.ite (LeO.bind (num_terms.mono a0 a1 k) (fun _ => LeO.refl _)) (LeO.refl _))
set_option maxHeartbeats 8000000 in
set_option maxRecDepth 100000 in
theorem num_Terms.calls (k : Nat) (a0_0 : Int) (a0_1 : Int) (r1 : List Int) (r2 : Int) (w : World) (h : num_Terms.f k a0_0 a0_1 = some (r1, r2)) :
    Calls Try.prog 60 #[.agg #[.int .i64 a0_0, .int .i64 a0_1]] w fun e w' => ∃ v0_ : Value, e = .returned (.tuple #[v0_, .int .i64 r2]) ∧ Kd.R (Kd.int .i64) 3 w' w.heap.size (fun _ => True) v0_ r1 ∧ Below w.heap.size w w' := by
  have hu := Try.underlying23
  obtain ⟨ec, hc, H⟩ := Option.bind_eq_some_iff.mp h
  clear h
  obtain ⟨W1, hW1⟩ : ∃ W1, W1 = w.alloc (.cells #[.int .i64 a0_0, .int .i64 a0_1] 23) := ⟨_, rfl⟩
  have hA : W1.heap[w.heap.size]? = some (.cells #[.int .i64 a0_0, .int .i64 a0_1] 23 (0, 0)) := by rw [hW1]; exact blk_new w _
  have HB := Aside0.mk (below_alloc (Below.refl w.heap.size w) (.cells #[.int .i64 a0_0, .int .i64 a0_1] 23))
  rw [← hW1] at HB
  have HC := Aside0.mk (num_Check.calls k a0_0 a0_1 ec W1 hc)
  have HA := Aside0.mk hA
  clear hc hA
  by_cases c : ec = 0
  · rw [if_pos c] at H
    subst c
    obtain ⟨l, hl, H⟩ := Option.bind_eq_some_iff.mp H
    by_cases hN : l.length < 17592186044416
    · rw [if_pos hN] at H
      simp only [Option.some.injEq, Prod.mk.injEq] at H
      obtain ⟨rfl, rfl⟩ := H
      have HL := Aside0.mk hl
      have HN := Aside0.mk hN
      clear hl hN
      go_enter Try.func60, Try.ntmps60
      go_wp2_with (fail)
      rw [← hW1]
      refine HC.out.mono ?_
      rintro e w1 ⟨rfl, hb⟩
      have HA1 := blk_below HA.out hb
      have HB1 := Aside0.mk (below_step HB.out hb)
      obtain ⟨c0, c1, f0, f1⟩ := bc2_ (Aside0.mk HA1)
      clear hb HA HB HC hW1
      go_wp2_with (fail)
      refine (num_of.calls a0_0 a0_1 a0_0 a0_1 _ rfl).mono ?_
      rintro e w2 ⟨rfl, hb⟩
      have HB2 := Aside0.mk (below_step HB1.out hb)
      clear hb c0 c1 f0 f1 HA1 HB1
      go_wp2_with (fail)
      refine (num_terms.calls a0_0 a0_1 w2).mono ?_
      rintro e w3 ⟨rfl, rfl⟩
      have HQ := Aside0.mk (slices_Collect.calls (gf := 121) (lb := #[.pointer (some ⟨w2.heap.size, 0, none⟩)]) (enters_of Try.func121 (by kernel_rfl) rfl) w _ (num_terms.seq (n₀ := (w2.alloc (.cells #[.int .i64 a0_0, .int .i64 a0_1] 65)).heap.size) (by simp) HL.out (blk_new w2 _)) (fun r e => by have := HB2.out.size; subst e; simp; omega) (below_alloc HB2.out _) HN.out)
      go_wp2_with (fail)
      refine HQ.out.mono ?_
      rintro e w4 ⟨v, rfl, hrow, hB⟩
      have HR := Aside0.mk hrow
      have HB4 := Aside0.mk hB
      clear hrow hB HQ
      go_wp2
      go_ret2
      exact ⟨v, rfl, Kd.R_of_own (own_base HR.out (below_alloc HB2.out _).size) (fun _ _ => trivial), HB4.out⟩
    · rw [if_neg hN] at H
      exact absurd H (by simp)
  · rw [if_neg c] at H
    simp only [Option.some.injEq, Prod.mk.injEq] at H
    obtain ⟨rfl, rfl⟩ := H
    have cb0 : (ec == 0) = false := beq_eq_false_iff_ne.mpr c
    have cb1 : (ec != 0) = true := bne_iff_ne.mpr c
    go_enter Try.func60, Try.ntmps60
    go_wp2_with (fail)
    rw [← hW1]
    refine HC.out.mono ?_
    rintro e w1 ⟨rfl, hb⟩
    have HB1 := Aside0.mk (below_step HB.out hb)
    clear hb
    go_wp2
    go_ret2
    exact ⟨_, rfl, Kd.R_nil _ _ _ _ _, HB1.out⟩
/-! ### slices_Backward_int_int: function 109, by hand -/
/-! #### a list of numbers from behind -/
def bwAt (L : List Int) (j : Nat) : Int × Int := (((L.length - 1 - j : Nat) : Int), rd L ((L.length - 1 - j : Nat) : Int))
def bw (L : List Int) : List (Int × Int) := (List.range L.length).map (bwAt L)
theorem upto_le {α : Type} (g : Nat → α) {j n : Nat} (h : j < n) : (List.range j).map g ++ [g j] <+: (List.range n).map g := by
  obtain ⟨m, rfl⟩ : ∃ m, n = (j + 1) + m := ⟨n - (j + 1), by omega⟩
  refine ⟨(List.range m).map (fun i => g (j + 1 + i)), ?_⟩
  rw [List.range_add, List.map_append, List.range_succ, List.map_append]
  simp [Function.comp_def]
theorem upto_snoc {α : Type} (g : Nat → α) (j : Nat) : (List.range j).map g ++ [g j] = (List.range (j + 1)).map g := by
  rw [List.range_succ, List.map_append]
  rfl
 attribute [local go_sem] Oper.semAt_some in
set_option maxHeartbeats 4000000 in
set_option maxRecDepth 100000 in
theorem slices_Backward.all1 (l Bn : Nat) (A : Option Addr) (c : Nat) (L : List Int) (J : List (Int × Int) → World → Prop) (Jp : List PanicEntry → World → Prop) (W0 : World) (hC : Kd.C (Kd.int .i64) W0 A L.length L)
    (hY : ∀ pre x W1, pre ++ [x] <+: bw L → J pre W1 → YieldAt Fence.wide 0 Try.prog l #[.int .i64 x.1, .int .i64 x.2] W1 fun e W' => (e = .returned (.bool true) ∧ J (pre ++ [x]) W' ∧ (Below W0.heap.size W1 W' ∧ W'.heap[Bn]? = W1.heap[Bn]?)) ∨ ∃ ch, e = .panicked ch ∧ Jp ch W')
    (W : World) (hW0 : Below W0.heap.size W0 W) (hb : W.heap[Bn]? = some (.cells #[.slice A L.length c] 55 (0, 0))) (h0 : J [] W) :
    CallsIn Fence.wide 0 Try.prog 123 #[.func (.yield l) #[] #[], .pointer (some ⟨Bn, 0, none⟩)] W fun e W' => (∃ v, e = .returned v ∧ J (bw L) W') ∨ ∃ ch, e = .panicked ch ∧ Jp ch W' := by
  have hm := Kd.C_max hC
  refine callsIn_of_wp Try.func123 rfl trivial ?_
  simp only [Try.ntmps123, List.size_toArray, List.length_cons, List.length_nil, Nat.reduceAdd, Nat.reduceSub, Array.replicate_succ, Array.replicate_zero, List.push_toArray, List.append_toArray, List.nil_append, List.cons_append]
  have HC := Aside0.mk hC
  have HY := Aside0.mk hY
  have HR : Aside0 (J [] W ∧ Below W0.heap.size W0 W ∧ W.heap[Bn]? = some (.cells #[.slice A L.length c] 55 (0, 0))) := ⟨h0, hW0, hb⟩
  have hbc : W.cell? ⟨Bn, 0, none⟩ = some (.slice A L.length c) := (blk_cell hb 0).trans rfl
  have hbf : W.frozen? ⟨Bn, 0, none⟩ = false := blk_frozen hb 0
  clear hC hY hW0 hb h0
  gi_wp2
  clear hbc hbf
  gi_loopw [3] (fun v3 wr => ∃ (j : Nat) (q : Int), Aside0 (j ≤ L.length ∧ q = (L.length : Int) - 1 - j) ∧ v3 = .int .i64 q ∧ J ((List.range j).map (bwAt L)) wr ∧ Below W0.heap.size W0 wr ∧ wr.heap[Bn]? = some (.cells #[.slice A L.length c] 55 (0, 0))) (fun v3 _ => (intOf v3 + 1).toNat)
  case atStart => exact ⟨0, (L.length : Int) - 1, ⟨by omega, by omega⟩, rfl, HR.out⟩
  case round =>
    clear HR
    obtain ⟨j, q, hq, rfl, hJ, hW, hb⟩ := hrel
    by_cases hlt : j < L.length
    · have hbc : wr.cell? ⟨Bn, 0, none⟩ = some (.slice A L.length c) := (blk_cell hb 0).trans rfl
      have hbf : wr.frozen? ⟨Bn, 0, none⟩ = false := blk_frozen hb 0
      obtain ⟨ad, e1, hx⟩ := Kd.at_int HC.out q (by have := hq.out; omega) (by have := hq.out; omega)
      cases e1
      have hx1 := (hW.cell (World.block_lt_of_cell? W0 _ hx)).trans hx
      have hge : decide (0 ≤ q) = true := decide_eq_true (by have := hq.out; omega)
      have hq0 : 0 ≤ q := by have := hq.out; omega
      have hq1 : q < (L.length : Int) := by have := hq.out; omega
      have hbw : bwAt L j = (q, rd L q) := by
        have := hq.out
        unfold bwAt
        rw [show ((L.length - 1 - j : Nat) : Int) = q by omega]
      obtain ⟨fn, tmps, assign, body, hy, hR⟩ := HY.out ((List.range j).map (bwAt L)) (bwAt L j) wr (upto_le _ hlt) hJ
      rw [upto_snoc] at hR
      rw [hbw] at hy
      dsimp only at hy
      clear hx hbw hJ
      gi_wp2
      refine ⟨rfl, ?_⟩
      refine hR.mono ?_
      clear hR hy hbc hbf
      rintro e W3 (⟨rfl, hJ3, hk3, hk4⟩ | ⟨ch, rfl, hp⟩)
      · gi_wp2
        refine ⟨⟨j + 1, q - 1, ⟨by have := hq.out; omega, by have := hq.out; omega⟩, by go_num, hJ3, hW.trans hk3, hk4.trans hb⟩, ?_⟩
        simp only [intOf]
        omega
      · exact ⟨rfl, .inr ⟨ch, rfl, hp⟩⟩
    · have hge : decide (0 ≤ q) = false := decide_eq_false (by have := hq.out; omega)
      have hj : j = L.length := by have := hq.out; omega
      have HJ := Aside0.mk hJ
      clear hJ hb hW
      gi_wp2
      go_end0
      have hJ := HJ.out
      rw [hj] at hJ
      exact .inl ⟨_, rfl, hJ⟩
theorem slices_Backward.seq {Bn : Nat} {A : Option Addr} {c : Nat} {L : List Int} {W0 w : World} (hC : Kd.C (Kd.int .i64) W0 A L.length L) (hW0 : Below W0.heap.size W0 w) (hb : w.heap[Bn]? = some (.cells #[.slice A L.length c] 55 (0, 0))) :
    SeqC Try.prog 123 #[.pointer (some ⟨Bn, 0, none⟩)] (fun x : Int × Int => #[.int .i64 x.1, .int .i64 x.2]) (fun _ => False) (fun W1 W' => Below W0.heap.size W1 W' ∧ W'.heap[Bn]? = W1.heap[Bn]?) (bw L) w := fun l J Jp W hW _ hY h0 =>
  slices_Backward.all1 l Bn A c L J Jp W0 hC hY W (below_step hW0 hW) ((hW.block Bn (blk_lt hb)).trans hb) h0
set_option maxHeartbeats 4000000 in
set_option maxRecDepth 100000 in
theorem slices_Backward.calls (v : Value) (hv : v.oneCell' = true) (w : World) : Calls Try.prog 109 #[v] w fun e w' => e = .returned (.func (.func 123) #[] #[.pointer (some ⟨w.heap.size, 0, none⟩)]) ∧ w' = w.alloc (.cells #[v] 55) := by
  have hu := Try.underlying55
  go_enter Try.func109, Try.ntmps109
  go_wp2
  go_ret
  exact ⟨rfl, rfl⟩
theorem bw_next {L : List Int} {pre : List (Int × Int)} {x : Int × Int} (h : pre ++ [x] <+: bw L) : pre.length < L.length ∧ x = bwAt L pre.length := by
  obtain ⟨q, hq⟩ := h
  have hl := congrArg List.length hq
  unfold bw at hl hq
  rw [List.length_append, List.length_append, List.length_map, List.length_range] at hl
  simp only [List.length_cons, List.length_nil] at hl
  have hlt : pre.length < L.length := by omega
  refine ⟨hlt, ?_⟩
  have hg := congrArg (fun l => l[pre.length]?) hq
  simp only [List.append_assoc, List.getElem?_append_right (Nat.le_refl _), Nat.sub_self, List.getElem?_map, List.getElem?_range hlt, Option.map_some] at hg
  exact Option.some.inj hg
/-! #### num.Of -/
def num_Of.go (k : Nat) (l : List Int) (last : Int) : Nat → Int → Int → Option (Int × Int × Int)
  | 0, x, y => some (x, y, 0)
  | i + 1, x, y => if -1000000000 ≤ rd l i ∧ rd l i ≤ 1000000000 then (if (i : Int) = last then num_Of.go k l last i (rd l i) 1 else (num_ratio_num.f k (wrap64 (wrap64 (rd l i * x) + y)) x).bind fun z => exc z (fun _ => some (0, 0, 8)) (fun b => num_Of.go k l last i b.1 b.2)) else some (0, 0, 8)
theorem num_Of.mono_go (k : Nat) (l : List Int) (last : Int) : ∀ i x y, LeO (num_Of.go k l last i x y) (num_Of.go (k + 1) l last i x y)
  | 0, x, y => LeO.refl _
  | i + 1, x, y => LeO.ite (LeO.ite (num_Of.mono_go k l last i _ _) (LeO.bind (num_ratio_num.mono _ _ k) (fun _ => LeO.exc (fun _ => LeO.refl _) (fun _ => num_Of.mono_go k l last i _ _)))) (LeO.refl _)
def num_Of.f (k : Nat) (l0 : List Int) : Option (Int × Int × Int) := if 1 ≤ (l0.length : Int) ∧ (l0.length : Int) ≤ 50 then (if (l0.drop 1).any (fun n => decide (n < 1)) = true then some (0, 0, 3) else (if 0 < (l0.length : Int) - 1 ∧ rd l0 ((l0.length : Int) - 1) = 1 then some (0, 0, 1) else num_Of.go k l0 ((l0.length : Int) - 1) l0.length 0 0)) else some (0, 0, 4)
theorem num_Of.mono : ∀ a0 k, LeO (num_Of.f k a0) (num_Of.f (k + 1) a0) := fun a0 k => LeO.ite (LeO.ite (LeO.refl _) (LeO.ite (LeO.refl _) (num_Of.mono_go k _ _ _ _ _))) (LeO.refl _)
theorem num_Of_1.calls (x : Int) (w : World) : Calls Try.prog 108 #[.int .i64 x] w fun e w' => e = .returned (.bool (decide (x < 1))) ∧ Below w.heap.size w w' := by
  go_enter Try.func108, Try.ntmps108
  go_wp2
  go_ret
  exact ⟨rfl, Below.refl _ _⟩
theorem num_Of_1.enters : Enters Try.prog 108 := enters_of Try.func108 (by kernel_rfl) rfl
theorem num_Of.lit (w : World) (x : Int) : Kd.C (Kd.int .i64) (w.alloc (.cells #[.int .i64 x] 3)) (some ⟨w.heap.size, 0, none⟩) 1 [x] := by
  refine ⟨rfl, by omega, fun _ => ⟨_, rfl, fun j p hp => ?_⟩⟩
  match j, hp with
  | 0, hp =>
    obtain rfl := Option.some.inj hp
    refine ⟨[.int .i64 x], rfl, rfl, fun i u hu => ?_⟩
    match i, hu with
    | 0, hu => obtain rfl := Option.some.inj hu; exact cell_new_l w _ 3
theorem num_Of.within (a b x : Int) (w : World) : Calls Try.prog 80 #[.int .i64 a, .int .i64 b, .slice (some ⟨w.heap.size, 0, none⟩) 1 1] (w.alloc (.cells #[.int .i64 x] 3)) fun e w' => e = .returned (.bool (decide (a ≤ x ∧ x ≤ b))) ∧ Below w.heap.size w w' :=
  (num_within.calls a b (some ⟨w.heap.size, 0, none⟩) 1 [x] (decide (a ≤ x ∧ x ≤ b)) _ (num_Of.lit w x) (Nat.le_refl _) (congrArg some (by simp))).mono fun e w' h => ⟨h.1, below_step (below_alloc (Below.refl _ _) _) h.2⟩
theorem num_catch.doorE_ok {fn : Func} {p q : Tmp} (h : fn.results = #[.cell p 23, .cell q 26]) (tmps : Array Value) (w0 w : World) (b e r : Nat) (N D E : Int)
    (hp : tmps.getD p undef = .pointer (some ⟨b, 0, none⟩)) (hq : tmps.getD q undef = .pointer (some ⟨e, 0, none⟩))
    (hb : w.heap[b]? = some (.cells #[.int .i64 N, .int .i64 D] 23 (0, 0))) (he : w.heap[e]? = some (.cells #[.int .i64 E] 26 (0, 0))) (HB : Below w0.heap.size w0 w)
    (hr : w.heap[r]? = some (.deferred (some []))) (h0 : w0.heap.size ≤ r) :
    LeavesE Try.prog fn tmps (num_post w0 N D E) ({ target := .collected r, args := #[] } :: num_door b e) .returning w :=
  .inl ⟨r, num_door b e, w.putObj r (.deferred none), rfl, run_takeDeferred hr, num_catch.door_ok h tmps w0 _ b e N D E hp hq ((World.putObj_heap_other (fun e' => by subst e'; rw [hr] at hb; cases hb)).trans hb) ((World.putObj_heap_other (fun e' => by subst e'; rw [hr] at he; cases he)).trans he) (HB.grown (grownBy_putObj' _ _ _) HB.size (fun k e' => by cases e'; exact h0))⟩
theorem num_catch.doorE_caught {fn : Func} {p q : Tmp} (h : fn.results = #[.cell p 23, .cell q 26]) (tmps : Array Value) (w0 w : World) (b e r : Nat) (N D E : Int)
    (hp : tmps.getD p undef = .pointer (some ⟨b, 0, none⟩)) (hq : tmps.getD q undef = .pointer (some ⟨e, 0, none⟩))
    (hb : w.heap[b]? = some (.cells #[.int .i64 N, .int .i64 D] 23 (0, 0))) (he : w.heap[e]? = some (.cells #[.int .i64 E] 26 (0, 0))) (hne : b ≠ e) (HB : Below w0.heap.size w0 w) (hBb : w0.heap.size ≤ b) (hBe : w0.heap.size ≤ e)
    (hr : w.heap[r]? = some (.deferred (some []))) (h0 : w0.heap.size ≤ r) :
    LeavesE Try.prog fn tmps (num_post w0 0 0 8) ({ target := .collected r, args := #[] } :: num_door b e) (.panicking [{ v := .iface 108 (.agg #[]), recovered := false }]) w :=
  .inl ⟨r, num_door b e, w.putObj r (.deferred none), rfl, run_takeDeferred hr, num_catch.door_caught h tmps w0 _ b e N D E hp hq ((World.putObj_heap_other (fun e' => by subst e'; rw [hr] at hb; cases hb)).trans hb) ((World.putObj_heap_other (fun e' => by subst e'; rw [hr] at he; cases he)).trans he) hne (HB.grown (grownBy_putObj' _ _ _) HB.size (fun k e' => by cases e'; exact h0)) hBb hBe⟩
theorem num_Of.out {w0 W : World} {b e : Nat} {X Y E : Int} (hx : W.heap[b]? = some (.cells #[.int .i64 X, .int .i64 Y] 23 (0, 0))) (he : W.heap[e]? = some (.cells #[.int .i64 E] 26 (0, 0))) (hne : b ≠ e) (hB : Below w0.heap.size w0 W) (h1 : w0.heap.size ≤ b) (h2 : w0.heap.size ≤ e) (X' Y' E' : Int) :
    (((W.setCell ⟨b, 0, none⟩ (.int .i64 X')).setCell ⟨b, 1, none⟩ (.int .i64 Y')).setCell ⟨e, 0, none⟩ (.int .i64 E')).heap[b]? = some (.cells #[.int .i64 X', .int .i64 Y'] 23 (0, 0)) ∧ (((W.setCell ⟨b, 0, none⟩ (.int .i64 X')).setCell ⟨b, 1, none⟩ (.int .i64 Y')).setCell ⟨e, 0, none⟩ (.int .i64 E')).heap[e]? = some (.cells #[.int .i64 E'] 26 (0, 0)) ∧ Below w0.heap.size w0 (((W.setCell ⟨b, 0, none⟩ (.int .i64 X')).setCell ⟨b, 1, none⟩ (.int .i64 Y')).setCell ⟨e, 0, none⟩ (.int .i64 E')) :=
  ⟨blk_far (blk_put (blk_put hx 0 (.int .i64 X') rfl) 1 (.int .i64 Y') rfl) hne _, blk_put (blk_far (blk_far he (Ne.symm hne) _) (Ne.symm hne) _) 0 (.int .i64 E') rfl, ((hB.setCell h1 _).setCell h1 _).setCell h2 _⟩
theorem num_Of.put {w0 W : World} {b e q : Nat} {X Y E last : Int} (hx : W.heap[b]? = some (.cells #[.int .i64 X, .int .i64 Y] 23 (0, 0))) (he : W.heap[e]? = some (.cells #[.int .i64 E] 26 (0, 0))) (hl : W.heap[q]? = some (.cells #[.int .i64 last] 3 (0, 0))) (hne : b ≠ e) (hnq : b ≠ q) (hB : Below w0.heap.size w0 W) (h1 : w0.heap.size ≤ b) (X' Y' : Int) :
    ((W.setCell ⟨b, 0, none⟩ (.int .i64 X')).setCell ⟨b, 1, none⟩ (.int .i64 Y')).heap[b]? = some (.cells #[.int .i64 X', .int .i64 Y'] 23 (0, 0)) ∧ ((W.setCell ⟨b, 0, none⟩ (.int .i64 X')).setCell ⟨b, 1, none⟩ (.int .i64 Y')).heap[e]? = some (.cells #[.int .i64 E] 26 (0, 0)) ∧ ((W.setCell ⟨b, 0, none⟩ (.int .i64 X')).setCell ⟨b, 1, none⟩ (.int .i64 Y')).heap[q]? = some (.cells #[.int .i64 last] 3 (0, 0)) ∧ Below w0.heap.size w0 ((W.setCell ⟨b, 0, none⟩ (.int .i64 X')).setCell ⟨b, 1, none⟩ (.int .i64 Y')) ∧
    (∀ k, k ≠ b → ((W.setCell ⟨b, 0, none⟩ (.int .i64 X')).setCell ⟨b, 1, none⟩ (.int .i64 Y')).heap[k]? = W.heap[k]?) ∧ (∀ (n : Nat) (W1 : World), n ≤ b → Below n W1 W → Below n W1 ((W.setCell ⟨b, 0, none⟩ (.int .i64 X')).setCell ⟨b, 1, none⟩ (.int .i64 Y'))) :=
  ⟨blk_put (blk_put hx 0 (.int .i64 X') rfl) 1 (.int .i64 Y') rfl, blk_far (blk_far he (Ne.symm hne) _) (Ne.symm hne) _, blk_far (blk_far hl (Ne.symm hnq) _) (Ne.symm hnq) _, (hB.setCell h1 _).setCell h1 _,
    fun k hk => (Below.heap_setCell _ _ _ k hk).trans (Below.heap_setCell _ _ _ k hk), fun n W1 hn h => (h.setCell (p := ⟨b, 0, none⟩) hn _).setCell (p := ⟨b, 1, none⟩) hn _⟩
 attribute [local go_sem] Oper.semAt_some in
set_option maxHeartbeats 8000000 in
set_option maxRecDepth 100000 in
theorem num_Of.calls (k : Nat) (A0 : Option Addr) (c0 : Nat) (l0 : List Int) (r1 r2 r3 : Int) (w : World) (hr0 : Kd.C (Kd.int .i64) w A0 l0.length l0) (hc0 : l0.length ≤ c0) (h : num_Of.f k l0 = some (r1, r2, r3)) :
    Calls Try.prog 61 #[.slice A0 l0.length c0] w fun e w' => e = .returned (.tuple #[.agg #[.int .i64 r1, .int .i64 r2], .int .i64 r3]) ∧ Below w.heap.size w w' := by
  have hu23 := Try.underlying23
  show Calls Try.prog 61 #[.slice A0 l0.length c0] w (num_post w r1 r2 r3)
  refine calls_of_wpE Try.func61 rfl ?_
  simp only [Try.ntmps61, List.size_toArray, List.length_cons, List.length_nil, Nat.reduceAdd, Nat.reduceSub, Array.replicate_succ, Array.replicate_zero, List.push_toArray, List.append_toArray, List.nil_append, List.cons_append]
  have HR := Aside0.mk hr0
  have HC := Aside0.mk hc0
  have H := Aside0.mk h
  have hm := Kd.C_max hr0
  clear hr0 hc0 h
  refine wpE_seq_k fun K hK => ?_
  go_wp2
  have hbx := blk_alloc (blk_new w (.cells #[.int .i64 0, .int .i64 0] 23)) (.cells #[.int .i64 0] 26)
  have hbe := blk_new (w.alloc (.cells #[.int .i64 0, .int .i64 0] 23)) (.cells #[.int .i64 0] 26)
  rw [World.size_alloc] at hbe
  have hB := below_alloc (below_alloc (Below.refl w.heap.size w) (.cells #[.int .i64 0, .int .i64 0] 23)) (.cells #[.int .i64 0] 26)
  generalize (w.alloc (.cells #[.int .i64 0, .int .i64 0] 23)).alloc (.cells #[.int .i64 0] 26) = W0 at hbx hbe hB ⊢
  have HX := Aside0.mk hbx
  have HE := Aside0.mk hbe
  have HB := Aside0.mk hB
  clear hbx hbe hB
  refine wpE_seq_k fun K hK => ?_
  have HW := Aside0.mk (num_Of.within 1 50 (l0.length : Int) W0)
  go_wp2_with (fail)
  refine HW.out.mono ?_
  clear HW
  rintro e w1 ⟨rfl, hb⟩
  replace HX := Aside0.mk (blk_below HX.out hb)
  replace HE := Aside0.mk (blk_below HE.out hb)
  replace HB := Aside0.mk (below_step HB.out hb)
  clear hb
  have hne : w.heap.size ≠ w.heap.size + 1 := by omega
  unfold num_Of.f at H
  by_cases c1 : 1 ≤ (l0.length : Int) ∧ (l0.length : Int) ≤ 50
  · rw [decide_eq_true c1]
    rw [if_pos c1] at H
    go_wp2
    refine wpE_seq_k fun K hK => ?_
    obtain ⟨i0, hi, _, hsz, _⟩ := info_parts info3
    have hroom := HC.out
    have hcut := cut_from (P := Try.prog) 55 3 .i64 Try.underlying55 hi 1 hsz A0 l0.length c0 1 (by omega) c1.1
    have hr1 := Kd.C_below (Kd.C_drop (m := (1 : Int).toNat) (c := c0) HR.out (by omega) hroom) HB.out
    obtain ⟨A1, hA1⟩ : ∃ A1, A1 = (if c0 = (1 : Int).toNat then A0 else A0.map (·.add ((1 : Int).toNat * 1))) := ⟨_, rfl⟩
    obtain ⟨c2, hc2⟩ : ∃ c2, c2 = c0 - (1 : Int).toNat := ⟨_, rfl⟩
    obtain ⟨y, hy⟩ : ∃ y : List Int, y = l0.drop 1 := ⟨_, rfl⟩
    have hyl : y.length = l0.length - (1 : Int).toNat := by rw [hy, List.length_drop]; rfl
    rw [show (l0).drop (1 : Int).toNat = y from hy.symm] at hr1
    replace hr1 : Kd.C (Kd.int .i64) w1 A1 y.length y := by rw [hA1]; exact hr1
    rw [← hyl, ← hA1, ← hc2] at hcut
    have hroom1 : y.length ≤ c2 := by rw [hyl, hc2]; exact Nat.sub_le_sub_right hroom _
    have HQ := Aside0.mk (slices_ContainsFunc_int.calls 108 #[] (fun n => decide (n < 1)) num_Of_1.enters A1 c2 y w1 hr1 hroom1 (by have := Kd.C_max hr1; exact this) (fun x W hW => (num_Of_1.calls x W).mono fun e w' h => ⟨h.1, below_step hW h.2⟩))
    have HY := Aside0.mk hy
    have C1 := Aside0.mk c1
    clear hr1 hroom1 hroom hA1 hc2 hy hyl hi hsz c1
    go_wp2_with (fail)
    refine HQ.out.mono ?_
    clear HQ hcut
    rintro e w2 ⟨rfl, hb⟩
    replace HX := Aside0.mk (blk_below HX.out hb)
    replace HE := Aside0.mk (blk_below HE.out hb)
    replace HB := Aside0.mk (below_step HB.out hb)
    clear hb
    rw [← HY.out] at H
    by_cases c2 : y.any (fun n => decide (n < 1)) = true
    · rw [c2]
      have H' := H.out
      rw [if_pos c2] at H'
      simp only [Option.some.injEq, Prod.mk.injEq] at H'
      obtain ⟨rfl, rfl, rfl⟩ := H'
      obtain ⟨cx0, cx1, fx0, fx1⟩ := bc2_ HX
      obtain ⟨ce0, fe0⟩ := bc1_ HE
      have HO := Aside0.mk (num_Of.out HX.out HE.out hne HB.out (Nat.le_refl _) (Nat.le_succ _) 0 0 3)
      clear H HX HE HB c2
      go_wp2
      exact .inr (num_catch.door_ret rfl _ _ _ _ _ _ _ _ rfl rfl HO.out.1 HO.out.2.1 HO.out.2.2)
    · rw [if_neg c2] at H
      rw [(Bool.not_eq_true _).mp c2]
      clear c2
      go_wp2
      refine wpE_seq_k fun K hK => ?_
      have hl0 : 1 ≤ (l0.length : Int) := C1.out.1
      go_wp2
      have hxl := blk_lt HX.out
      have hel := blk_lt HE.out
      have hx3 := blk_alloc HX.out (.cells #[.int .i64 ((l0.length : Int) - 1)] 3)
      have he3 := blk_alloc HE.out (.cells #[.int .i64 ((l0.length : Int) - 1)] 3)
      have hl3 := blk_new w2 (.cells #[.int .i64 ((l0.length : Int) - 1)] 3)
      have hB3 := below_alloc HB.out (.cells #[.int .i64 ((l0.length : Int) - 1)] 3)
      generalize w2.alloc (.cells #[.int .i64 ((l0.length : Int) - 1)] 3) = W3 at hx3 he3 hl3 hB3 ⊢
      have hbl : w.heap.size < w2.heap.size := hxl
      have hbe : w.heap.size + 1 < w2.heap.size := hel
      generalize w2.heap.size = bl at hl3 hbl hbe ⊢
      replace HX := Aside0.mk hx3
      replace HE := Aside0.mk he3
      replace HB := Aside0.mk hB3
      have HL := Aside0.mk hl3
      clear hx3 he3 hl3 hB3 hxl hel
      refine wpE_seq_k fun K hK => ?_
      obtain ⟨last, hlast⟩ : ∃ q : Int, q = (l0.length : Int) - 1 := ⟨_, rfl⟩
      rw [← hlast] at HL H
      have HLA := Aside0.mk hlast
      clear hlast
      have tail : num_Of.go k l0 last l0.length 0 0 = some (r1, r2, r3) → ∀ u5 u6 u7 u8 u9 u10 u11 u12 u13 u14 u15 u16 u17 u18 u19 u20 u21 u22 u23 u24 u25 u26 u27 u28 u29 u30 u31 u32 u33 u34 u35 u36 u37 u38 u39 u40 u41 u42 u43 u44 u45 u46 u47 u48 u49 u50 u51 u52 u53 u54 u55 u56 : Value, K { tmps := #[.slice A0 l0.length c0, undef, .pointer (some ⟨w.heap.size, 0, none⟩), .pointer (some ⟨w.heap.size + 1, 0, none⟩), .pointer (some ⟨bl, 0, none⟩), u5, u6, u7, u8, u9, u10, u11, u12, u13, u14, u15, u16, u17, u18, u19, u20, u21, u22, u23, u24, u25, u26, u27, u28, u29, u30, u31, u32, u33, u34, u35, u36, u37, u38, u39, u40, u41, u42, u43, u44, u45, u46, u47, u48, u49, u50, u51, u52, u53, u54, u55, u56], defers := [] } W3 := by
        intro hgo
        intro u5 u6 u7 u8 u9 u10 u11 u12 u13 u14 u15 u16 u17 u18 u19 u20 u21 u22 u23 u24 u25 u26 u27 u28 u29 u30 u31 u32 u33 u34 u35 u36 u37 u38 u39 u40 u41 u42 u43 u44 u45 u46 u47 u48 u49 u50 u51 u52 u53 u54 u55 u56
        refine hK _ _ ?_
        clear hK H C1 HY
        refine wpE_seq_k fun K2 hK2 => ?_
        go_wp2
        refine wpE_seq (wpE_seq_k fun K hK => ?_)
        go_wp2_with (fail)
        refine (slices_Backward.calls (.slice A0 l0.length c0) rfl W3).mono ?_
        rintro e w4 ⟨rfl, rfl⟩
        go_wp2
        refine wpE_block ?_
        have hxl := blk_lt HX.out
        have hel := blk_lt HE.out
        have hll := blk_lt HL.out
        have hsl : W3.heap.size < (W3.alloc (.cells #[.slice A0 l0.length c0] 55)).heap.size := by simp
        have hx4 := blk_alloc HX.out (.cells #[.slice A0 l0.length c0] 55)
        have he4 := blk_alloc HE.out (.cells #[.slice A0 l0.length c0] 55)
        have hl4 := blk_alloc HL.out (.cells #[.slice A0 l0.length c0] 55)
        have hs4 := blk_new W3 (.cells #[.slice A0 l0.length c0] 55)
        have hB4 := below_alloc HB.out (.cells #[.slice A0 l0.length c0] 55)
        generalize W3.alloc (.cells #[.slice A0 l0.length c0] 55) = w4 at hsl hx4 he4 hl4 hs4 hB4 ⊢
        have HGO := Aside0.mk hgo
        have HSEQ := Aside0.mk (slices_Backward.seq HR.out hB4 hs4)
        clear hgo
        refine wpE_range (gf := 123) (lb := #[.pointer (some ⟨W3.heap.size, 0, none⟩)]) rfl (enters_of Try.func123 (by kernel_rfl) rfl) HSEQ.out (Below.refl _ _) (fun _ h => h.elim)
          (fun _ _ _ h k => ⟨h.1.trans k.1, k.2.trans h.2⟩) (fun W o h => ⟨(Below.refl _ W).grown (grownBy_putObj' W _ o) (by omega) (fun k e => by cases e; omega), World.putObj_heap_other (by omega)⟩) (fun _ => rfl)
          (fun pre W => ∃ X Y : Int, W.heap[w.heap.size]? = some (.cells #[.int .i64 X, .int .i64 Y] 23 (0, 0)) ∧ W.heap[w.heap.size + 1]? = some (.cells #[.int .i64 0] 26 (0, 0)) ∧ W.heap[bl]? = some (.cells #[.int .i64 last] 3 (0, 0)) ∧ Below w.heap.size w W ∧ num_Of.go k l0 last (l0.length - pre.length) X Y = some (r1, r2, r3))
          (fun ch W => (ch = [{ v := .iface 108 (.agg #[]), recovered := false }] ∧ r1 = 0 ∧ r2 = 0 ∧ r3 = 8) ∧ ∃ X Y : Int, W.heap[w.heap.size]? = some (.cells #[.int .i64 X, .int .i64 Y] 23 (0, 0)) ∧ W.heap[w.heap.size + 1]? = some (.cells #[.int .i64 0] 26 (0, 0)) ∧ Below w.heap.size w W)
          ?hI ?h0 (fun x => { tmps := #[.slice A0 l0.length c0, undef, .pointer (some ⟨w.heap.size, 0, none⟩), .pointer (some ⟨w.heap.size + 1, 0, none⟩), .pointer (some ⟨bl, 0, none⟩), .int .i64 x.1, .int .i64 x.2, u7, u8, u9, u10, u11, u12, u13, u14, u15, u16, u17, u18, u19, u20, u21, u22, u23, u24, u25, u26, u27, u28, u29, .slice A0 l0.length c0, .func (.func 123) #[] #[.pointer (some ⟨W3.heap.size, 0, none⟩)], .int .i64 x.1, .int .i64 x.2, u34, u35, u36, u37, u38, u39, u40, u41, u42, u43, u44, u45, u46, u47, u48, u49, u50, u51, u52, u53, u54, u55, u56], defers := [] }) ?assign ?body ?done ?panic
        case hI =>
          rintro s W1 W2 row ⟨X, Y, hx, he, hl, hB, hgo⟩ hg hrow
          have hr : ∀ k, k < w4.heap.size → some k ≠ row := fun k hk e => by
            rcases hrow k e.symm with h | h
            · exact h
            · omega
          exact ⟨X, Y, (hg.block _ (blk_lt hx) (hr _ (by omega))).trans hx, (hg.block _ (blk_lt he) (hr _ (by omega))).trans he, (hg.block _ (blk_lt hl) (hr _ (by omega))).trans hl, hB.grown hg hB.size (fun k e => by rcases hrow k e with h | h; exact h.elim; omega), hgo⟩
        case h0 => exact ⟨0, 0, hx4, he4, hl4, hB4, HGO.out⟩
        case assign =>
          intro l x W K hK
          gi_wp2
          exact hK
        case body =>
          rintro l pre x W hsz hpx ⟨X, Y, hx, he, hl, hB, hgo⟩
          obtain ⟨hlt, rfl⟩ := bw_next hpx
          obtain ⟨i, hi⟩ : ∃ i : Nat, i = l0.length - 1 - pre.length := ⟨_, rfl⟩
          have hxi : bwAt l0 pre.length = ((i : Int), rd l0 (i : Int)) := by rw [hi]; rfl
          rw [hxi]
          have hgo1 := hgo
          rw [show l0.length - pre.length = i + 1 by omega] at hgo1
          have hnext : l0.length - (pre ++ [((i : Int), rd l0 (i : Int))]).length = i := by
            rw [List.length_append]
            simp only [List.length_cons, List.length_nil]
            omega
          unfold num_Of.go at hgo1
          obtain ⟨z, hz⟩ : ∃ z : Int, z = rd l0 (i : Int) := ⟨_, rfl⟩
          rw [← hz] at hgo1 hnext ⊢
          clear hz hgo hi hxi
          have HG := Aside0.mk hgo1
          have HN := Aside0.mk hnext
          have HX := Aside0.mk hx
          have HE := Aside0.mk he
          have HL := Aside0.mk hl
          have HB := Aside0.mk hB
          have HSZ := Aside0.mk hsz
          have HLT := Aside0.mk hsl
          clear hgo1 hnext hx he hl hB hsz hpx hlt hx4 he4 hl4 hs4 hB4 HGO HSEQ hsl
          have HW := Aside0.mk (num_Of.within (-1000000000) 1000000000 z W)
          gi_wp2
          refine ⟨trivial, rfl, ?_⟩
          refine (CallsIn.inRound l (callsIn_wide.2 HW.out)).mono ?_
          clear HW
          rintro e w5 ⟨rfl, hb⟩
          replace HX := Aside0.mk (blk_below HX.out hb)
          replace HE := Aside0.mk (blk_below HE.out hb)
          replace HL := Aside0.mk (blk_below HL.out hb)
          replace HB := Aside0.mk (below_step HB.out hb)
          have HWW := Aside0.mk hb
          clear hb
          by_cases d1 : -1000000000 ≤ z ∧ z ≤ 1000000000
          · rw [decide_eq_true d1]
            have hg := HG.out
            rw [if_pos d1] at hg
            have HG2 := Aside0.mk hg
            clear HG hg d1
            obtain ⟨cl0, fl0⟩ := bc1_ HL
            have hkeep : ∀ k, k < w4.heap.size + 2 → w5.heap[k]? = W.heap[k]? := fun k hk => HWW.out.block k (by have := HSZ.out; omega)
            have HKE := Aside0.mk hkeep
            have HW5 := Aside0.mk (show w4.heap.size + 2 ≤ w5.heap.size from Nat.le_trans HSZ.out HWW.out.size)
            have hbw : Below w.heap.size W w5 := HWW.out.mono (by have := HSZ.out; have := HLT.out; omega)
            have HBW := Aside0.mk hbw
            clear hkeep hbw HWW
            by_cases d2 : (i : Int) = last
            · have e2 : ((i : Int) == last) = true := beq_iff_eq.mpr d2
              have hg := HG2.out
              rw [if_pos d2] at hg
              have HG3 := Aside0.mk hg
              obtain ⟨cx0, cx1, fx0, fx1⟩ := bc2_ HX
              have HO := Aside0.mk (num_Of.put HX.out HE.out HL.out hne (by omega) HB.out (Nat.le_refl _) z 1)
              clear HG2 hg d2 HX HE HL HB
              gi_wp2
              obtain ⟨o1, o2, o3, o4, o5, o6⟩ := HO.out
              refine ⟨fun k hk1 hk2 => (o5 k (by have := HLT.out; omega)).trans (HKE.out k hk2), ⟨o6 _ _ (Nat.le_refl _) HBW.out, (o5 _ (by omega)).trans (HKE.out _ (by have := HLT.out; omega))⟩, z, 1, o1, o2, o3, o4, ?_⟩
              rw [HN.out]
              exact HG3.out
            · have e2 : ((i : Int) == last) = false := beq_eq_false_iff_ne.mpr d2
              have hg := HG2.out
              rw [if_neg d2] at hg
              obtain ⟨rz, hz, hg⟩ := Option.bind_eq_some_iff.mp hg
              have HZ := Aside0.mk hz
              have HG3 := Aside0.mk hg
              obtain ⟨cx0, cx1, fx0, fx1⟩ := bc2_ HX
              clear HG2 hg d2 hz
              gi_wp2
              refine ⟨trivial, rfl, ?_⟩
              cases rz with
              | error p =>
                refine (CallsIn.inRound l (callsIn_wide.2 (num_ratio_num.throws k _ _ p w5 HZ.out))).mono ?_
                rintro e w6 ⟨rfl, hb⟩
                have hg := HG3.out
                simp only [exc, Option.some.injEq, Prod.mk.injEq] at hg
                obtain ⟨rfl, rfl, rfl⟩ := hg
                exact ⟨rfl, fun k hk1 hk2 => (hb.block k (by have := HW5.out; omega)).trans (HKE.out k hk2), ⟨rfl, rfl, rfl, rfl⟩, X, Y, blk_below HX.out hb, blk_below HE.out hb, below_step HB.out hb⟩
              | ok r =>
                refine (CallsIn.inRound l (callsIn_wide.2 (num_ratio_num.calls k _ _ r.1 r.2 w5 HZ.out))).mono ?_
                rintro e w6 ⟨rfl, hb⟩
                have hg := HG3.out
                simp only [exc] at hg
                have HG4 := Aside0.mk hg
                have hx6 := blk_below HX.out hb
                have hl6 := blk_lt hx6
                obtain ⟨cx0, cx1, fx0, fx1⟩ := bc2_ (Aside0.mk hx6)
                have HO := Aside0.mk (num_Of.put hx6 (blk_below HE.out hb) (blk_below HL.out hb) hne (by omega) (below_step HB.out hb) (Nat.le_refl _) r.1 r.2)
                have HK6 := Aside0.mk (show ∀ k, k < w4.heap.size + 2 → w6.heap[k]? = W.heap[k]? from fun k hk2 => (hb.block k (by have := HW5.out; omega)).trans (HKE.out k hk2))
                have HBW6 := Aside0.mk (HBW.out.trans (hb.mono (by have := HW5.out; have := HLT.out; omega)))
                clear HG3 hg hx6 hb HX HE HL HB HKE HBW HZ
                gi_wp2
                obtain ⟨o1, o2, o3, o4, o5, o6⟩ := HO.out
                refine ⟨fun k hk1 hk2 => (o5 k (by have := HLT.out; omega)).trans (HK6.out k hk2), ⟨o6 _ _ (Nat.le_refl _) HBW6.out, (o5 _ (by omega)).trans (HK6.out _ (by have := HLT.out; omega))⟩, r.1, r.2, o1, o2, o3, o4, ?_⟩
                rw [HN.out]
                exact HG4.out
          · rw [decide_eq_false d1]
            have hg := HG.out
            rw [if_neg d1] at hg
            simp only [Option.some.injEq, Prod.mk.injEq] at hg
            obtain ⟨rfl, rfl, rfl⟩ := hg
            clear HG d1
            gi_wp2
            exact ⟨rfl, fun k hk1 hk2 => HWW.out.block k (by have := HSZ.out; omega), rfl, ⟨_, _, HX.out⟩, HE.out, HB.out⟩
        case done =>
          rintro W ⟨X, Y, hx, he, hl, hB, hgo⟩ hD
          rw [show l0.length - (bw l0).length = 0 by unfold bw; simp] at hgo
          simp only [num_Of.go, Option.some.injEq, Prod.mk.injEq] at hgo
          obtain ⟨rfl, rfl, rfl⟩ := hgo
          obtain ⟨cx0, cx1, fx0, fx1⟩ := bc2_ (Aside0.mk hx)
          obtain ⟨ce0, fe0⟩ := bc1_ (Aside0.mk he)
          have HO := Aside0.mk (num_Of.out hx he hne hB (Nat.le_refl _) (Nat.le_succ _) X Y 0)
          have HD := Aside0.mk (show (((W.setCell ⟨w.heap.size, 0, none⟩ (.int .i64 X)).setCell ⟨w.heap.size, 1, none⟩ (.int .i64 Y)).setCell ⟨w.heap.size + 1, 0, none⟩ (.int .i64 0)).heap[w4.heap.size]? = some (.deferred (some [])) from (Below.heap_setCell _ _ _ _ (show w4.heap.size ≠ w.heap.size + 1 by omega)).trans ((Below.heap_setCell _ _ _ _ (show w4.heap.size ≠ w.heap.size by omega)).trans ((Below.heap_setCell _ _ _ _ (show w4.heap.size ≠ w.heap.size by omega)).trans hD)))
          refine wpE_of ?_
          clear hx he hl hB hD
          go_wp2
          exact num_catch.doorE_ok rfl _ _ _ _ _ _ _ _ _ rfl rfl HO.out.1 HO.out.2.1 HO.out.2.2 HD.out (by omega)
        case panic =>
          rintro ch W ⟨⟨rfl, rfl, rfl, rfl⟩, X, Y, hx, he, hB⟩ hD
          exact num_catch.doorE_caught rfl _ _ _ _ _ _ _ _ _ rfl rfl hx he hne hB (Nat.le_refl _) (Nat.le_succ _) hD (by omega)
      obtain ⟨cl0, fl0⟩ := bc1_ HL
      by_cases c3 : 0 < last
      · have d3 : decide (0 < last) = true := decide_eq_true c3
        obtain ⟨ad, e1, hx⟩ := Kd.at_int HR.out last (by omega) (by have := HLA.out; omega)
        cases e1
        have hx1 := (HB.out.cell (World.block_lt_of_cell? w _ hx)).trans hx
        have hq0 : 0 ≤ last := by omega
        have hq1 : last < (l0.length : Int) := by have := HLA.out; omega
        clear hx
        obtain ⟨z, hz⟩ : ∃ z : Int, z = rd l0 last := ⟨_, rfl⟩
        rw [← hz] at hx1 H
        by_cases c4 : z = 1
        · have d4 : (z == 1) = true := beq_iff_eq.mpr c4
          have H' := H.out
          rw [if_pos ⟨c3, c4⟩] at H'
          simp only [Option.some.injEq, Prod.mk.injEq] at H'
          obtain ⟨rfl, rfl, rfl⟩ := H'
          obtain ⟨cx0, cx1, fx0, fx1⟩ := bc2_ HX
          obtain ⟨ce0, fe0⟩ := bc1_ HE
          have HO := Aside0.mk (num_Of.out HX.out HE.out hne HB.out (Nat.le_refl _) (Nat.le_succ _) 0 0 1)
          clear H HX HE HB c4 hz tail
          go_wp2
          exact .inr (num_catch.door_ret rfl _ _ _ _ _ _ _ _ rfl rfl HO.out.1 HO.out.2.1 HO.out.2.2)
        · have d4 : (z == 1) = false := beq_eq_false_iff_ne.mpr c4
          rw [if_neg (fun h => c4 h.2)] at H
          have T := Aside0.mk (tail H.out)
          clear tail hK H
          go_wp2
          exact T.out _ _ _ _ _ _ _ _ _ _ _ _ _ _ _ _ _ _ _ _ _ _ _ _ _ _ _ _ _ _ _ _ _ _ _ _ _ _ _ _ _ _ _ _ _ _ _ _ _ _ _ _
      · have d3 : decide (0 < last) = false := decide_eq_false c3
        rw [if_neg (fun h => c3 h.1)] at H
        have T := Aside0.mk (tail H.out)
        clear tail hK H
        go_wp2
        exact T.out _ _ _ _ _ _ _ _ _ _ _ _ _ _ _ _ _ _ _ _ _ _ _ _ _ _ _ _ _ _ _ _ _ _ _ _ _ _ _ _ _ _ _ _ _ _ _ _ _ _ _ _
  · rw [decide_eq_false c1]
    have H' := H.out
    rw [if_neg c1] at H'
    simp only [Option.some.injEq, Prod.mk.injEq] at H'
    obtain ⟨rfl, rfl, rfl⟩ := H'
    obtain ⟨cx0, cx1, fx0, fx1⟩ := bc2_ HX
    obtain ⟨ce0, fe0⟩ := bc1_ HE
    have HO := Aside0.mk (num_Of.out HX.out HE.out hne HB.out (Nat.le_refl _) (Nat.le_succ _) 0 0 4)
    clear H c1 HX HE HB
    go_wp2
    exact .inr (num_catch.door_ret rfl _ _ _ _ _ _ _ _ rfl rfl HO.out.1 HO.out.2.1 HO.out.2.2)
/-! ### withyref01_between: function 110 -/
mutual
def withyref01_between.j0 : Nat → Int → Bool → Int → Int → Int → Int → Option (Int × Int)
  | 0, _, _, _, _, _, _ => none
  | k + 1, x6, x26, x953000, x953001, x954000, x954001 => if x26 = true then (if x953000 < 0 then (withyref01_between.j1 k x6 (decide (x954000 > 0)) x953000 x953001 x954000 x954001) else (withyref01_between.j1 k x6 false x953000 x953001 x954000 x954001)) else ((withyref01_between.f k x954001 (wrap64 (x954000 - (wrap64 (x6 * x954001)))) x953001 (wrap64 (x953000 - (wrap64 (x6 * x953001))))).bind fun bt956 => (some (wrap64 (bt956.2 + (wrap64 (x6 * bt956.1))), bt956.1)))
def withyref01_between.j1 : Nat → Int → Bool → Int → Int → Int → Int → Option (Int × Int)
  | 0, _, _, _, _, _, _ => none
  | k + 1, x6, x34, x953000, x953001, x954000, x954001 => if x34 = true then (some (0, 1)) else (if x953000 ≥ 0 then (withyref01_between.j2 k x6 true x954000 x954001) else (withyref01_between.j2 k x6 (x954001 == 0) x954000 x954001))
def withyref01_between.j2 : Nat → Int → Bool → Int → Int → Option (Int × Int)
  | 0, _, _, _, _ => none
  | k + 1, x6, x42, x954000, x954001 => if x42 = true then (some (wrap64 (x6 + 1), 1)) else ((withyref01_under.f (wrap64 (-x954000)) x954001).bind fun t955 => (some (wrap64 ((wrap64 (-t955)) - 1), 1)))
def withyref01_between.f : Nat → Int → Int → Int → Int → Option (Int × Int)
  | 0, _, _, _, _ => none
  | k + 1, a0_0, a0_1, a1_0, a1_1 => (withyref01_under.f a0_0 a0_1).bind fun t954 => (if a1_1 = 0 then (withyref01_between.j0 k t954 true a0_0 a0_1 a1_0 a1_1) else (withyref01_between.j0 k t954 (decide ((wrap64 ((wrap64 (t954 + 1)) * a1_1)) < a1_0)) a0_0 a0_1 a1_0 a1_1))
end
theorem withyref01_between.mono_l : ∀ k, (∀ y0 y1 y2 y3, LeO (withyref01_between.f k y0 y1 y2 y3) (withyref01_between.f (k + 1) y0 y1 y2 y3)) ∧ (∀ y0 y1 y2 y3 y4 y5, LeO (withyref01_between.j0 k y0 y1 y2 y3 y4 y5) (withyref01_between.j0 (k + 1) y0 y1 y2 y3 y4 y5)) ∧ (∀ y0 y1 y2 y3 y4 y5, LeO (withyref01_between.j1 k y0 y1 y2 y3 y4 y5) (withyref01_between.j1 (k + 1) y0 y1 y2 y3 y4 y5)) ∧ (∀ y0 y1 y2 y3, LeO (withyref01_between.j2 k y0 y1 y2 y3) (withyref01_between.j2 (k + 1) y0 y1 y2 y3))
  | 0 => ⟨fun _ _ _ _ r h => by simp [withyref01_between.f] at h, fun _ _ _ _ _ _ r h => by simp [withyref01_between.j0] at h, fun _ _ _ _ _ _ r h => by simp [withyref01_between.j1] at h, fun _ _ _ _ r h => by simp [withyref01_between.j2] at h⟩
  | k + 1 => by
    obtain ⟨ih0, ih1, ih2, ih3⟩ := withyref01_between.mono_l k
    refine ⟨?_, ?_, ?_, ?_⟩
    · intro y0 y1 y2 y3
      unfold withyref01_between.f
      repeat' first
      | (with_reducible exact ih0 _ _ _ _)
      | (with_reducible exact ih1 _ _ _ _ _ _)
      | (with_reducible exact ih2 _ _ _ _ _ _)
      | (with_reducible exact ih3 _ _ _ _)
      | (with_reducible exact LeO.refl _)
      | (with_reducible exact LeO.none _)
      | (with_reducible refine LeO.ite ?_ ?_)
      | (with_reducible refine LeO.bind ?_ (fun _ => ?_))
      | (with_reducible refine LeO.exc (fun _ => ?_) (fun _ => ?_))
      | exact ih0 _ _ _ _
      | exact ih1 _ _ _ _ _ _
      | exact ih2 _ _ _ _ _ _
      | exact ih3 _ _ _ _
      | exact LeO.none _
      | refine LeO.ite ?_ ?_
      | refine LeO.bind ?_ (fun _ => ?_)
    · intro y0 y1 y2 y3 y4 y5
      unfold withyref01_between.j0
      repeat' first
      | (with_reducible exact ih0 _ _ _ _)
      | (with_reducible exact ih1 _ _ _ _ _ _)
      | (with_reducible exact ih2 _ _ _ _ _ _)
      | (with_reducible exact ih3 _ _ _ _)
      | (with_reducible exact LeO.refl _)
      | (with_reducible exact LeO.none _)
      | (with_reducible refine LeO.ite ?_ ?_)
      | (with_reducible refine LeO.bind ?_ (fun _ => ?_))
      | (with_reducible refine LeO.exc (fun _ => ?_) (fun _ => ?_))
      | exact ih0 _ _ _ _
      | exact ih1 _ _ _ _ _ _
      | exact ih2 _ _ _ _ _ _
      | exact ih3 _ _ _ _
      | exact LeO.none _
      | refine LeO.ite ?_ ?_
      | refine LeO.bind ?_ (fun _ => ?_)
    · intro y0 y1 y2 y3 y4 y5
      unfold withyref01_between.j1
      repeat' first
      | (with_reducible exact ih0 _ _ _ _)
      | (with_reducible exact ih1 _ _ _ _ _ _)
      | (with_reducible exact ih2 _ _ _ _ _ _)
      | (with_reducible exact ih3 _ _ _ _)
      | (with_reducible exact LeO.refl _)
      | (with_reducible exact LeO.none _)
      | (with_reducible refine LeO.ite ?_ ?_)
      | (with_reducible refine LeO.bind ?_ (fun _ => ?_))
      | (with_reducible refine LeO.exc (fun _ => ?_) (fun _ => ?_))
      | exact ih0 _ _ _ _
      | exact ih1 _ _ _ _ _ _
      | exact ih2 _ _ _ _ _ _
      | exact ih3 _ _ _ _
      | exact LeO.none _
      | refine LeO.ite ?_ ?_
      | refine LeO.bind ?_ (fun _ => ?_)
    · intro y0 y1 y2 y3
      unfold withyref01_between.j2
      repeat' first
      | (with_reducible exact ih0 _ _ _ _)
      | (with_reducible exact ih1 _ _ _ _ _ _)
      | (with_reducible exact ih2 _ _ _ _ _ _)
      | (with_reducible exact ih3 _ _ _ _)
      | (with_reducible exact LeO.refl _)
      | (with_reducible exact LeO.none _)
      | (with_reducible refine LeO.ite ?_ ?_)
      | (with_reducible refine LeO.bind ?_ (fun _ => ?_))
      | (with_reducible refine LeO.exc (fun _ => ?_) (fun _ => ?_))
      | exact ih0 _ _ _ _
      | exact ih1 _ _ _ _ _ _
      | exact ih2 _ _ _ _ _ _
      | exact ih3 _ _ _ _
      | exact LeO.none _
      | refine LeO.ite ?_ ?_
      | refine LeO.bind ?_ (fun _ => ?_)
theorem withyref01_between.mono : ∀ a0 a1 a2 a3 k, LeO (withyref01_between.f k a0 a1 a2 a3) (withyref01_between.f (k + 1) a0 a1 a2 a3) := by
  intro a0 a1 a2 a3 k
  obtain ⟨ih0, ih1, ih2, ih3⟩ := withyref01_between.mono_l k
  exact ih0 a0 a1 a2 a3
set_option maxHeartbeats 8000000 in
set_option maxRecDepth 100000 in
theorem withyref01_between.calls (k : Nat) : ∀ (a0_0 : Int) (a0_1 : Int) (a1_0 : Int) (a1_1 : Int) (r1 : Int) (r2 : Int) (w : World) (h : withyref01_between.f k a0_0 a0_1 a1_0 a1_1 = some (r1, r2)),
    Calls Try.prog 110 #[.agg #[.int .i64 a0_0, .int .i64 a0_1], .agg #[.int .i64 a1_0, .int .i64 a1_1]] w fun e w' => e = .returned (.tuple #[.int .i64 r1, .int .i64 r2]) ∧ Below w.heap.size w w' := by
 induction k using Nat.strongRecOn with
 | _ k ih =>
 intro a0_0 a0_1 a1_0 a1_1 r1 r2 w h
 cases k with
 | zero => exact absurd h (by simp [withyref01_between.f])
 | succ k =>
 simp only [withyref01_between.f] at h
 have hu23 := Try.underlying23
 have HB := Aside0.mk (Below.refl w.heap.size w)
 have H : ((withyref01_under.f a0_0 a0_1).bind fun t954 => (if a1_1 = 0 then (withyref01_between.j0 k t954 true a0_0 a0_1 a1_0 a1_1) else (withyref01_between.j0 k t954 (decide ((wrap64 ((wrap64 (t954 + 1)) * a1_1)) < a1_0)) a0_0 a0_1 a1_0 a1_1))) = some (r1, r2) := h
 clear h
 replace H := Option.bind_eq_some_iff.mp H
 obtain ⟨t954, A30, H⟩ := H
 replace H : (if a1_1 = 0 then (withyref01_between.j0 k t954 true a0_0 a0_1 a1_0 a1_1) else (withyref01_between.j0 k t954 (decide ((wrap64 ((wrap64 (t954 + 1)) * a1_1)) < a1_0)) a0_0 a0_1 a1_0 a1_1)) = some (r1, r2) := H
 have A3 := Aside0.mk A30
 clear A30
 have HC4 := Aside0.mk H
 clear H
 go_enter Try.func110, Try.ntmps110
 go_upto_region 2 with (first | ((with_reducible refine gate_dst (N := 2) rfl ?_); refine box_event ?hg (N := 2) ?hd (cs := #[.int .i64 a0_0, .int .i64 a0_1]) (t := 23) ?hr ?_; (case hd => rfl); (case hg => rfl); (case hr => first | (go_simp; done) | (go_simp; rfl)); intro gb952 hg w5 hbox hb; have BK952 := Aside0.mk hbox; have GW952 := bwg_ HB hg; have GE952 := bwg_ HB hg; replace HB := bws_ HB hb; clear hb hbox hg) | ((with_reducible refine gate_dst (N := 3) rfl ?_); refine box_event ?hg (N := 3) ?hd (cs := #[.int .i64 a1_0, .int .i64 a1_1]) (t := 23) ?hr ?_; (case hd => rfl); (case hg => rfl); (case hr => first | (go_simp; done) | (go_simp; rfl)); intro gb953 hg w6 hbox hb; have BK953 := Aside0.mk hbox; have GW953 := bwg_ HB hg; have GE953 := bwg_ HB hg; replace HB := bws_ HB hb; have NB952_953 := bkl_ BK952 hg; have NB953_952 := bkr_ BK952 hg; replace BK952 := bkb_ BK952 hb; clear hb hbox hg; have hnb7 := NB952_953.out; have hnc7 := NB953_952.out; obtain ⟨hcz8_0, hcz8_1, hfz8_0, hfz8_1⟩ := bc2_ BK952) | ((with_reducible refine gate_callee (f := 76) rfl ?_); refine gla_ (some 13) Try.func76 #[.int .i64 a0_0, .int .i64 a0_1] ?_; (with_reducible refine (withyref01_under.calls a0_0 a0_1 t954 _ A3.out).mono ?_); rintro e w' ⟨rfl, ⟨nd, rfl⟩⟩; refine ⟨_, rfl, ?_⟩))
 (try simp only [Act.put, List.setIfInBounds_toArray, List.set_cons_zero, List.set_cons_succ])
 go_cut [26] (fun v26 wc => ∃ (kq : Nat) (x26_3 : Bool), v26 = .bool x26_3 ∧ Aside0 (withyref01_between.j0 kq t954 x26_3 a0_0 a0_1 a1_0 a1_1 = some (r1, r2)) ∧ Aside0 (kq ≤ k) ∧ Aside0 (wc.heap[gb952]? = some (.cells #[.int .i64 a0_0, .int .i64 a0_1] 23 (0, 0))) ∧ Aside0 (wc.heap[gb953]? = some (.cells #[.int .i64 a1_0, .int .i64 a1_1] 23 (0, 0))) ∧ Aside0 (Below w.heap.size w wc))
 case first =>
  have H := HC4.out
  clear HC4
  by_cases c9 : a1_1 = 0
  · rw [if_pos c9] at H
    have c9b0 : (a1_1 == 0) = true := beq_iff_eq.mpr c9
    have c9b1 : (a1_1 != 0) = false := bne_eq_false_iff_eq.mpr c9
    clear c9
    (first | rw [c9b0] | (simp only [i64_w, i32_w]; rw [c9b0]) | skip)
    have H' := Aside0.mk H
    clear H
    have hnb10 := NB953_952.out
    have hnc10 := NB952_953.out
    obtain ⟨hcz11_0, hcz11_1, hfz11_0, hfz11_1⟩ := bc2_ BK953
    go_wp2
    go_meet
    case rel => exact ⟨_, (true), (by first | rfl | (simp; done) | (simp [*]; done)), H', ⟨by first | omega | exact Nat.le_refl _⟩, ⟨by exact bk_ BK952⟩, ⟨by exact bk_ BK953⟩, ⟨bw_ HB⟩⟩
  · rw [if_neg c9] at H
    have c9b0 : (a1_1 == 0) = false := beq_eq_false_iff_ne.mpr c9
    have c9b1 : (a1_1 != 0) = true := bne_iff_ne.mpr c9
    (first | rw [c9b0] | (simp only [i64_w, i32_w]; rw [c9b0]) | skip)
    have H' := Aside0.mk H
    clear H
    have hnb12 := NB953_952.out
    have hnc12 := NB952_953.out
    obtain ⟨hcz13_0, hcz13_1, hfz13_0, hfz13_1⟩ := bc2_ BK953
    go_wp2
    go_meet
    case rel => exact ⟨_, (decide ((wrap64 ((wrap64 (t954 + 1)) * a1_1)) < a1_0)), (by first | rfl | (simp; done) | (simp [*]; done)), H', ⟨by first | omega | exact Nat.le_refl _⟩, ⟨by exact bk_ BK952⟩, ⟨by exact bk_ BK953⟩, ⟨bw_ HB⟩⟩
 case rest =>
  clear HC4
  try clear c1
  try clear p2
  try clear p6
  try clear c7
  try clear c9
  try clear c9b0
  try clear c9b1
  try clear c10
  try clear c11
  try clear c12
  try clear hcz11_0
  try clear hcz11_1
  try clear hcz13_0
  try clear hcz13_1
  try clear hcz8_0
  try clear hcz8_1
  try clear hfz11_0
  try clear hfz11_1
  try clear hfz13_0
  try clear hfz13_1
  try clear hfz8_0
  try clear hfz8_1
  obtain ⟨kq, x26_3, rfl, HA, HJ3, BK952, BK953, HB⟩ := hcut
  cases kq with
  | zero => exact absurd HA.out (by simp [withyref01_between.j0])
  | succ kj3 =>
   have H := HA.out
   clear HA
   simp only [withyref01_between.j0] at H
   by_cases c14 : x26_3 = true
   · subst c14
     have H1 : (if a0_0 < 0 then (withyref01_between.j1 kj3 t954 (decide (a1_0 > 0)) a0_0 a0_1 a1_0 a1_1) else (withyref01_between.j1 kj3 t954 false a0_0 a0_1 a1_0 a1_1)) = some (r1, r2) := by rw [if_pos rfl] at H; exact H
     clear H
     have H := H1
     clear H1
     have HC15 := Aside0.mk H
     clear H
     go_upto_region 3 with (fail)
     go_cut [34] (fun v34 wc => ∃ (kq : Nat) (x34_14 : Bool), v34 = .bool x34_14 ∧ Aside0 (withyref01_between.j1 kq t954 x34_14 a0_0 a0_1 a1_0 a1_1 = some (r1, r2)) ∧ Aside0 (kq ≤ kj3) ∧ Aside0 (wc.heap[gb952]? = some (.cells #[.int .i64 a0_0, .int .i64 a0_1] 23 (0, 0))) ∧ Aside0 (wc.heap[gb953]? = some (.cells #[.int .i64 a1_0, .int .i64 a1_1] 23 (0, 0))) ∧ Aside0 (Below w.heap.size w wc))
     case first =>
      have H := HC15.out
      clear HC15
      by_cases c16 : a0_0 < 0
      · rw [if_pos c16] at H
        have c16b0 : decide (a0_0 < 0) = true := decide_eq_true c16
        clear c16
        (first | rw [c16b0] | (simp only [i64_w, i32_w]; rw [c16b0]) | skip)
        have H' := Aside0.mk H
        clear H
        have hnb17 := NB952_953.out
        have hnc17 := NB953_952.out
        obtain ⟨hcz18_0, hcz18_1, hfz18_0, hfz18_1⟩ := bc2_ BK952
        obtain ⟨hcz19_0, hcz19_1, hfz19_0, hfz19_1⟩ := bc2_ BK953
        go_wp2
        go_meet
        case rel => exact ⟨_, (decide (a1_0 > 0)), (by first | rfl | (simp; done) | (simp [*]; done)), H', ⟨by have := HJ3.out; first | omega | exact Nat.le_refl _⟩, ⟨by exact bk_ BK952⟩, ⟨by exact bk_ BK953⟩, ⟨bw_ HB⟩⟩
      · rw [if_neg c16] at H
        have c16b0 : decide (a0_0 < 0) = false := decide_eq_false c16
        clear c16
        (first | rw [c16b0] | (simp only [i64_w, i32_w]; rw [c16b0]) | skip)
        have H' := Aside0.mk H
        clear H
        have hnb20 := NB952_953.out
        have hnc20 := NB953_952.out
        obtain ⟨hcz21_0, hcz21_1, hfz21_0, hfz21_1⟩ := bc2_ BK952
        go_wp2
        go_meet
        case rel => exact ⟨_, (false), (by first | rfl | (simp; done) | (simp [*]; done)), H', ⟨by have := HJ3.out; first | omega | exact Nat.le_refl _⟩, ⟨by exact bk_ BK952⟩, ⟨by exact bk_ BK953⟩, ⟨bw_ HB⟩⟩
     case rest =>
      clear HC15
      try clear c1
      try clear c2
      try clear p2
      try clear p6
      try clear c7
      try clear c9
      try clear c9b0
      try clear c9b1
      try clear c10
      try clear c11
      try clear c12
      try clear c14
      try clear c16
      try clear c16b0
      try clear c17
      try clear c20
      try clear hcz11_0
      try clear hcz11_1
      try clear hcz13_0
      try clear hcz13_1
      try clear hcz18_0
      try clear hcz18_1
      try clear hcz19_0
      try clear hcz19_1
      try clear hcz21_0
      try clear hcz21_1
      try clear hcz8_0
      try clear hcz8_1
      try clear hfz11_0
      try clear hfz11_1
      try clear hfz13_0
      try clear hfz13_1
      try clear hfz18_0
      try clear hfz18_1
      try clear hfz19_0
      try clear hfz19_1
      try clear hfz21_0
      try clear hfz21_1
      try clear hfz8_0
      try clear hfz8_1
      try clear p2
      try clear p6
      obtain ⟨kq, x34_14, rfl, HA, HJ14, BK952, BK953, HB⟩ := hcut
      cases kq with
      | zero => exact absurd HA.out (by simp [withyref01_between.j1])
      | succ kj14 =>
       have H := HA.out
       clear HA
       simp only [withyref01_between.j1] at H
       by_cases c22 : x34_14 = true
       · subst c22
         have H1 : (some (0, 1)) = some (r1, r2) := by rw [if_pos rfl] at H; exact H
         clear H
         have H := H1
         clear H1
         simp only [Option.some.injEq, Prod.mk.injEq] at H
         obtain ⟨rfl, rfl⟩ := H
         go_wp2
         go_ret2
         exact ⟨by first | rfl | (simp [*] <;> rfl), bw_ HB⟩
       · replace c22 := Bool.eq_false_iff.mpr c22
         subst c22
         have H1 : (if a0_0 ≥ 0 then (withyref01_between.j2 kj14 t954 true a1_0 a1_1) else (withyref01_between.j2 kj14 t954 (a1_1 == 0) a1_0 a1_1)) = some (r1, r2) := by rw [if_neg (show ¬ (false = true) by decide)] at H; exact H
         clear H
         have H := H1
         clear H1
         have HC23 := Aside0.mk H
         clear H
         go_upto_region 5 with (fail)
         go_cut [42] (fun v42 wc => ∃ (kq : Nat) (x42_22 : Bool), v42 = .bool x42_22 ∧ Aside0 (withyref01_between.j2 kq t954 x42_22 a1_0 a1_1 = some (r1, r2)) ∧ Aside0 (kq ≤ kj14) ∧ Aside0 (wc.heap[gb952]? = some (.cells #[.int .i64 a0_0, .int .i64 a0_1] 23 (0, 0))) ∧ Aside0 (wc.heap[gb953]? = some (.cells #[.int .i64 a1_0, .int .i64 a1_1] 23 (0, 0))) ∧ Aside0 (Below w.heap.size w wc))
         case first =>
          have H := HC23.out
          clear HC23
          by_cases c24 : a0_0 ≥ 0
          · rw [if_pos c24] at H
            have c24b0 : decide (0 ≤ a0_0) = true := decide_eq_true c24
            clear c24
            (first | rw [c24b0] | (simp only [i64_w, i32_w]; rw [c24b0]) | skip)
            have H' := Aside0.mk H
            clear H
            have hnb25 := NB952_953.out
            have hnc25 := NB953_952.out
            obtain ⟨hcz26_0, hcz26_1, hfz26_0, hfz26_1⟩ := bc2_ BK952
            go_wp2
            go_meet
            case rel => exact ⟨_, (true), (by first | rfl | (simp; done) | (simp [*]; done)), H', ⟨by have := HJ3.out; have := HJ14.out; first | omega | exact Nat.le_refl _⟩, ⟨by exact bk_ BK952⟩, ⟨by exact bk_ BK953⟩, ⟨bw_ HB⟩⟩
          · rw [if_neg c24] at H
            have c24b0 : decide (0 ≤ a0_0) = false := decide_eq_false c24
            clear c24
            (first | rw [c24b0] | (simp only [i64_w, i32_w]; rw [c24b0]) | skip)
            have H' := Aside0.mk H
            clear H
            have hnb27 := NB952_953.out
            have hnc27 := NB953_952.out
            obtain ⟨hcz28_0, hcz28_1, hfz28_0, hfz28_1⟩ := bc2_ BK952
            obtain ⟨hcz29_0, hcz29_1, hfz29_0, hfz29_1⟩ := bc2_ BK953
            go_wp2
            go_meet
            case rel => exact ⟨_, ((a1_1 == 0)), (by first | rfl | (simp; done) | (simp [*]; done)), H', ⟨by have := HJ3.out; have := HJ14.out; first | omega | exact Nat.le_refl _⟩, ⟨by exact bk_ BK952⟩, ⟨by exact bk_ BK953⟩, ⟨bw_ HB⟩⟩
         case rest =>
          clear HC23
          try clear c1
          try clear c2
          try clear p2
          try clear p6
          try clear c7
          try clear c9
          try clear c9b0
          try clear c9b1
          try clear c10
          try clear c11
          try clear c12
          try clear c14
          try clear c16
          try clear c16b0
          try clear c17
          try clear c20
          try clear c22
          try clear c24
          try clear c24b0
          try clear c25
          try clear c27
          try clear hcz11_0
          try clear hcz11_1
          try clear hcz13_0
          try clear hcz13_1
          try clear hcz18_0
          try clear hcz18_1
          try clear hcz19_0
          try clear hcz19_1
          try clear hcz21_0
          try clear hcz21_1
          try clear hcz26_0
          try clear hcz26_1
          try clear hcz28_0
          try clear hcz28_1
          try clear hcz29_0
          try clear hcz29_1
          try clear hcz8_0
          try clear hcz8_1
          try clear hfz11_0
          try clear hfz11_1
          try clear hfz13_0
          try clear hfz13_1
          try clear hfz18_0
          try clear hfz18_1
          try clear hfz19_0
          try clear hfz19_1
          try clear hfz21_0
          try clear hfz21_1
          try clear hfz26_0
          try clear hfz26_1
          try clear hfz28_0
          try clear hfz28_1
          try clear hfz29_0
          try clear hfz29_1
          try clear hfz8_0
          try clear hfz8_1
          try clear p2
          try clear p6
          obtain ⟨kq, x42_22, rfl, HA, HJ22, BK952, BK953, HB⟩ := hcut
          cases kq with
          | zero => exact absurd HA.out (by simp [withyref01_between.j2])
          | succ kj22 =>
           have H := HA.out
           clear HA
           simp only [withyref01_between.j2] at H
           by_cases c30 : x42_22 = true
           · subst c30
             have H1 : (some (wrap64 (t954 + 1), 1)) = some (r1, r2) := by rw [if_pos rfl] at H; exact H
             clear H
             have H := H1
             clear H1
             simp only [Option.some.injEq, Prod.mk.injEq] at H
             obtain ⟨rfl, rfl⟩ := H
             go_wp2
             go_ret2
             exact ⟨by first | rfl | (simp [*] <;> rfl), bw_ HB⟩
           · replace c30 := Bool.eq_false_iff.mpr c30
             subst c30
             have H1 : ((withyref01_under.f (wrap64 (-a1_0)) a1_1).bind fun t955 => (some (wrap64 ((wrap64 (-t955)) - 1), 1))) = some (r1, r2) := by rw [if_neg (show ¬ (false = true) by decide)] at H; exact H
             clear H
             have H := H1
             clear H1
             replace H := Option.bind_eq_some_iff.mp H
             obtain ⟨t955, A310, H⟩ := H
             replace H : (some (wrap64 ((wrap64 (-t955)) - 1), 1)) = some (r1, r2) := H
             have A31 := Aside0.mk A310
             clear A310
             simp only [Option.some.injEq, Prod.mk.injEq] at H
             obtain ⟨rfl, rfl⟩ := H
             have hnb32 := NB953_952.out
             have hnc32 := NB952_953.out
             obtain ⟨hcz33_0, hcz33_1, hfz33_0, hfz33_1⟩ := bc2_ BK953
             go_wp2_with (first | ((with_reducible refine gate_callee (f := 76) rfl ?_); refine gla_ (some 50) Try.func76 #[.int .i64 (wrap64 (-a1_0)), .int .i64 a1_1] ?_; (with_reducible refine (withyref01_under.calls (wrap64 (-a1_0)) a1_1 t955 _ A31.out).mono ?_); rintro e w' ⟨rfl, ⟨nd, rfl⟩⟩; refine ⟨_, rfl, ?_⟩))
             go_ret2
             exact ⟨by first | rfl | (simp [*] <;> rfl), bw_ HB⟩
   · replace c14 := Bool.eq_false_iff.mpr c14
     subst c14
     have H1 : ((withyref01_between.f kj3 a1_1 (wrap64 (a1_0 - (wrap64 (t954 * a1_1)))) a0_1 (wrap64 (a0_0 - (wrap64 (t954 * a0_1))))).bind fun bt956 => (some (wrap64 (bt956.2 + (wrap64 (t954 * bt956.1))), bt956.1))) = some (r1, r2) := by rw [if_neg (show ¬ (false = true) by decide)] at H; exact H
     clear H
     have H := H1
     clear H1
     replace H := Option.bind_eq_some_iff.mp H
     obtain ⟨⟨t956, t957⟩, A340, H⟩ := H
     replace H : (some (wrap64 (t957 + (wrap64 (t954 * t956))), t956)) = some (r1, r2) := H
     have A34 := Aside0.mk A340
     clear A340
     simp only [Option.some.injEq, Prod.mk.injEq] at H
     obtain ⟨rfl, rfl⟩ := H
     have hnb35 := NB953_952.out
     have hnc35 := NB952_953.out
     obtain ⟨hcz36_0, hcz36_1, hfz36_0, hfz36_1⟩ := bc2_ BK953
     obtain ⟨hcz37_0, hcz37_1, hfz37_0, hfz37_1⟩ := bc2_ BK952
     go_wp2_with (first | ((with_reducible refine gate_callee (f := 110) rfl ?_); refine gla_ (some 74) Try.func110 #[.agg #[.int .i64 a1_1, .int .i64 (wrap64 (a1_0 - (wrap64 (t954 * a1_1))))], .agg #[.int .i64 a0_1, .int .i64 (wrap64 (a0_0 - (wrap64 (t954 * a0_1))))]] ?_; (with_reducible refine (ih kj3 (by have := HJ3.out; omega) a1_1 (wrap64 (a1_0 - (wrap64 (t954 * a1_1)))) a0_1 (wrap64 (a0_0 - (wrap64 (t954 * a0_1)))) t956 t957 _ A34.out).mono ?_); rintro e w38 ⟨rfl, hb⟩; refine ⟨_, rfl, ?_⟩; replace BK952 := bkb_ BK952 hb; replace BK953 := bkb_ BK953 hb; replace HB := bws_ HB hb; (try clear hb); (try clear hb2); (try clear hk); (try clear hi)))
     go_ret2
     exact ⟨by first | rfl | (simp [*] <;> rfl), bw_ HB⟩
/-! ### withyref01_Simplest: function 63 -/
def withyref01_Simplest.f (k : Nat) (a0_0 : Int) (a0_1 : Int) (a1_0 : Int) (a1_1 : Int) : Option (Int × Int × Int) := (withyref01_both.f k a0_0 a0_1 a1_0 a1_1).bind fun t961 => (if t961 = 0 then ((withyref01_Less.f a0_0 a0_1 a1_0 a1_1).bind fun t962 => (if t962 = true then ((withyref01_between.f k a0_0 a0_1 a1_0 a1_1).bind fun bt963 => ((withyref01_low.f k bt963.1 bt963.2).bind fun bt965 => (some (bt965.1, bt965.2.1, bt965.2.2)))) else (some (0, 0, 10)))) else (some (0, 0, t961)))
theorem withyref01_Simplest.mono : ∀ a0 a1 a2 a3 k, LeO (withyref01_Simplest.f k a0 a1 a2 a3) (withyref01_Simplest.f (k + 1) a0 a1 a2 a3) := by
  intro a0 a1 a2 a3 k
  unfold withyref01_Simplest.f
  repeat' first
      | (with_reducible exact withyref01_between.mono _ _ _ _ _)
      | (with_reducible exact withyref01_both.mono _ _ _ _ _)
      | (with_reducible exact withyref01_low.mono _ _ _)
      | (with_reducible exact LeO.refl _)
      | (with_reducible exact LeO.none _)
      | (with_reducible refine LeO.ite ?_ ?_)
      | (with_reducible refine LeO.bind ?_ (fun _ => ?_))
      | (with_reducible refine LeO.exc (fun _ => ?_) (fun _ => ?_))
      | exact withyref01_between.mono _ _ _ _ _
      | exact withyref01_both.mono _ _ _ _ _
      | exact withyref01_low.mono _ _ _
      | exact LeO.none _
      | refine LeO.ite ?_ ?_
      | refine LeO.bind ?_ (fun _ => ?_)
set_option maxHeartbeats 8000000 in
set_option maxRecDepth 100000 in
theorem withyref01_Simplest.calls (k : Nat) (a0_0 : Int) (a0_1 : Int) (a1_0 : Int) (a1_1 : Int) (r1 : Int) (r2 : Int) (r3 : Int) (w : World) (h : withyref01_Simplest.f k a0_0 a0_1 a1_0 a1_1 = some (r1, r2, r3)) :
    Calls Try.prog 63 #[.agg #[.int .i64 a0_0, .int .i64 a0_1], .agg #[.int .i64 a1_0, .int .i64 a1_1]] w fun e w' => e = .returned (.tuple #[.agg #[.int .i64 r1, .int .i64 r2], .int .i64 r3]) ∧ Below w.heap.size w w' := by
 have hu23 := Try.underlying23
 have HB := Aside0.mk (Below.refl w.heap.size w)
 have H : ((withyref01_both.f k a0_0 a0_1 a1_0 a1_1).bind fun t961 => (if t961 = 0 then ((withyref01_Less.f a0_0 a0_1 a1_0 a1_1).bind fun t962 => (if t962 = true then ((withyref01_between.f k a0_0 a0_1 a1_0 a1_1).bind fun bt963 => ((withyref01_low.f k bt963.1 bt963.2).bind fun bt965 => (some (bt965.1, bt965.2.1, bt965.2.2)))) else (some (0, 0, 10)))) else (some (0, 0, t961)))) = some (r1, r2, r3) := h
 clear h
 replace H := Option.bind_eq_some_iff.mp H
 obtain ⟨t961, A30, H⟩ := H
 replace H : (if t961 = 0 then ((withyref01_Less.f a0_0 a0_1 a1_0 a1_1).bind fun t962 => (if t962 = true then ((withyref01_between.f k a0_0 a0_1 a1_0 a1_1).bind fun bt963 => ((withyref01_low.f k bt963.1 bt963.2).bind fun bt965 => (some (bt965.1, bt965.2.1, bt965.2.2)))) else (some (0, 0, 10)))) else (some (0, 0, t961))) = some (r1, r2, r3) := H
 have A3 := Aside0.mk A30
 clear A30
 by_cases c4 : t961 = 0
 · rw [if_pos c4] at H
   have c4b0 : (t961 == 0) = true := beq_iff_eq.mpr c4
   have c4b1 : (t961 != 0) = false := bne_eq_false_iff_eq.mpr c4
   clear c4
   replace H := Option.bind_eq_some_iff.mp H
   obtain ⟨t962, A50, H⟩ := H
   replace H : (if t962 = true then ((withyref01_between.f k a0_0 a0_1 a1_0 a1_1).bind fun bt963 => ((withyref01_low.f k bt963.1 bt963.2).bind fun bt965 => (some (bt965.1, bt965.2.1, bt965.2.2)))) else (some (0, 0, 10))) = some (r1, r2, r3) := H
   have A5 := Aside0.mk A50
   clear A50
   by_cases c6 : t962 = true
   · subst c6
     have H1 : ((withyref01_between.f k a0_0 a0_1 a1_0 a1_1).bind fun bt963 => ((withyref01_low.f k bt963.1 bt963.2).bind fun bt965 => (some (bt965.1, bt965.2.1, bt965.2.2)))) = some (r1, r2, r3) := by rw [if_pos rfl] at H; exact H
     clear H
     have H := H1
     clear H1
     replace H := Option.bind_eq_some_iff.mp H
     obtain ⟨⟨t963, t964⟩, A70, H⟩ := H
     replace H : ((withyref01_low.f k t963 t964).bind fun bt965 => (some (bt965.1, bt965.2.1, bt965.2.2))) = some (r1, r2, r3) := H
     have A7 := Aside0.mk A70
     clear A70
     replace H := Option.bind_eq_some_iff.mp H
     obtain ⟨⟨t965, t966, t967⟩, A80, H⟩ := H
     replace H : (some (t965, t966, t967)) = some (r1, r2, r3) := H
     have A8 := Aside0.mk A80
     clear A80
     simp only [Option.some.injEq, Prod.mk.injEq] at H
     obtain ⟨rfl, rfl, rfl⟩ := H
     go_enter Try.func63, Try.ntmps63
     go_wp2_with (first | ((with_reducible refine gate_dst (N := 2) rfl ?_); refine box_event ?hg (N := 2) ?hd (cs := #[.int .i64 a0_0, .int .i64 a0_1]) (t := 23) ?hr ?_; (case hd => rfl); (case hg => rfl); (case hr => first | (go_simp; done) | (go_simp; rfl)); intro gb958 hg w9 hbox hb; have BK958 := Aside0.mk hbox; have GW958 := bwg_ HB hg; have GE958 := bwg_ HB hg; replace HB := bws_ HB hb; clear hb hbox hg) | ((with_reducible refine gate_dst (N := 3) rfl ?_); refine box_event ?hg (N := 3) ?hd (cs := #[.int .i64 a1_0, .int .i64 a1_1]) (t := 23) ?hr ?_; (case hd => rfl); (case hg => rfl); (case hr => first | (go_simp; done) | (go_simp; rfl)); intro gb959 hg w10 hbox hb; have BK959 := Aside0.mk hbox; have GW959 := bwg_ HB hg; have GE959 := bwg_ HB hg; replace HB := bws_ HB hb; have NB958_959 := bkl_ BK958 hg; have NB959_958 := bkr_ BK958 hg; replace BK958 := bkb_ BK958 hb; clear hb hbox hg) | ((with_reducible refine gate_dst (N := 4) rfl ?_); refine box_event ?hg (N := 4) ?hd (cs := #[.int .i64 0, .int .i64 0]) (t := 23) ?hr ?_; (case hd => rfl); (case hg => rfl); (case hr => first | (go_simp; done) | (go_simp; rfl)); intro gb960 hg w11 hbox hb; have BK960 := Aside0.mk hbox; have GW960 := bwg_ HB hg; have GE960 := bwg_ HB hg; replace HB := bws_ HB hb; have NB958_960 := bkl_ BK958 hg; have NB960_958 := bkr_ BK958 hg; replace BK958 := bkb_ BK958 hb; have NB959_960 := bkl_ BK959 hg; have NB960_959 := bkr_ BK959 hg; replace BK959 := bkb_ BK959 hb; clear hb hbox hg; have hnb12 := NB958_959.out; have hnc12 := NB959_958.out; have hnb13 := NB958_960.out; have hnc13 := NB960_958.out; obtain ⟨hcz14_0, hcz14_1, hfz14_0, hfz14_1⟩ := bc2_ BK958; have hnb15 := NB959_960.out; have hnc15 := NB960_959.out; obtain ⟨hcz16_0, hcz16_1, hfz16_0, hfz16_1⟩ := bc2_ BK959) | ((with_reducible refine gate_callee (f := 97) rfl ?_); refine gla_ (some 9) Try.func97 #[.agg #[.int .i64 a0_0, .int .i64 a0_1], .agg #[.int .i64 a1_0, .int .i64 a1_1]] ?_; (with_reducible refine (withyref01_both.calls k a0_0 a0_1 a1_0 a1_1 t961 _ A3.out).mono ?_); rintro e w17 ⟨rfl, hb⟩; refine ⟨_, rfl, ?_⟩; replace BK958 := bkb_ BK958 hb; replace BK959 := bkb_ BK959 hb; replace BK960 := bkb_ BK960 hb; replace HB := bws_ HB hb; (try clear hb); (try clear hb2); (try clear hk); (try clear hi); obtain ⟨hcz18_0, hcz18_1, hfz18_0, hfz18_1⟩ := bc2_ BK958; obtain ⟨hcz19_0, hcz19_1, hfz19_0, hfz19_1⟩ := bc2_ BK959) | ((with_reducible refine gate_callee (f := 98) rfl ?_); refine gla_ (some 16) Try.func98 #[.agg #[.int .i64 a0_0, .int .i64 a0_1], .agg #[.int .i64 a1_0, .int .i64 a1_1]] ?_; (with_reducible refine (withyref01_Less.calls a0_0 a0_1 a1_0 a1_1 true _ A5.out).mono ?_); rintro e w20 ⟨rfl, hb⟩; refine ⟨_, rfl, ?_⟩; replace BK958 := bkb_ BK958 hb; replace BK959 := bkb_ BK959 hb; replace BK960 := bkb_ BK960 hb; replace HB := bws_ HB hb; (try clear hb); (try clear hb2); (try clear hk); (try clear hi); obtain ⟨hcz21_0, hcz21_1, hfz21_0, hfz21_1⟩ := bc2_ BK958; obtain ⟨hcz22_0, hcz22_1, hfz22_0, hfz22_1⟩ := bc2_ BK959) | ((with_reducible refine gate_callee (f := 110) rfl ?_); refine gla_ (some 21) Try.func110 #[.agg #[.int .i64 a0_0, .int .i64 a0_1], .agg #[.int .i64 a1_0, .int .i64 a1_1]] ?_; (with_reducible refine (withyref01_between.calls k a0_0 a0_1 a1_0 a1_1 t963 t964 _ A7.out).mono ?_); rintro e w23 ⟨rfl, hb⟩; refine ⟨_, rfl, ?_⟩; replace BK958 := bkb_ BK958 hb; replace BK959 := bkb_ BK959 hb; replace BK960 := bkb_ BK960 hb; replace HB := bws_ HB hb; (try clear hb); (try clear hb2); (try clear hk); (try clear hi)) | ((with_reducible refine gate_callee (f := 96) rfl ?_); refine gla_ (some 24) Try.func96 #[.int .i64 t963, .int .i64 t964] ?_; (with_reducible refine (withyref01_low.calls k t963 t964 t965 t966 t967 _ A8.out).mono ?_); rintro e w24 ⟨rfl, hb⟩; refine ⟨_, rfl, ?_⟩; replace BK958 := bkb_ BK958 hb; replace BK959 := bkb_ BK959 hb; replace BK960 := bkb_ BK960 hb; replace HB := bws_ HB hb; (try clear hb); (try clear hb2); (try clear hk); (try clear hi); obtain ⟨hcz25_0, hcz25_1, hfz25_0, hfz25_1⟩ := bc2_ BK960))
     refine bodyPost_ret (results_ct rfl _ _ gb960 23 #[.int .i64 t965, .int .i64 t966] (0, 0) _ rfl (by refine bp_ (cs := #[.int .i64 t965, .int .i64 0]) ?_ 1; refine bp_ (cs := #[.int .i64 0, .int .i64 0]) ?_ 0; exact bk_ BK960) Try.underlying23 rfl (by kernel_rfl)) rfl ?_
     exact ⟨by first | rfl | (simp [*] <;> rfl), bw_ HB⟩
   · replace c6 := Bool.eq_false_iff.mpr c6
     subst c6
     have H1 : (some (0, 0, 10)) = some (r1, r2, r3) := by rw [if_neg (show ¬ (false = true) by decide)] at H; exact H
     clear H
     have H := H1
     clear H1
     simp only [Option.some.injEq, Prod.mk.injEq] at H
     obtain ⟨rfl, rfl, rfl⟩ := H
     go_enter Try.func63, Try.ntmps63
     go_wp2_with (first | ((with_reducible refine gate_dst (N := 2) rfl ?_); refine box_event ?hg (N := 2) ?hd (cs := #[.int .i64 a0_0, .int .i64 a0_1]) (t := 23) ?hr ?_; (case hd => rfl); (case hg => rfl); (case hr => first | (go_simp; done) | (go_simp; rfl)); intro gb958 hg w26 hbox hb; have BK958 := Aside0.mk hbox; have GW958 := bwg_ HB hg; have GE958 := bwg_ HB hg; replace HB := bws_ HB hb; clear hb hbox hg) | ((with_reducible refine gate_dst (N := 3) rfl ?_); refine box_event ?hg (N := 3) ?hd (cs := #[.int .i64 a1_0, .int .i64 a1_1]) (t := 23) ?hr ?_; (case hd => rfl); (case hg => rfl); (case hr => first | (go_simp; done) | (go_simp; rfl)); intro gb959 hg w27 hbox hb; have BK959 := Aside0.mk hbox; have GW959 := bwg_ HB hg; have GE959 := bwg_ HB hg; replace HB := bws_ HB hb; have NB958_959 := bkl_ BK958 hg; have NB959_958 := bkr_ BK958 hg; replace BK958 := bkb_ BK958 hb; clear hb hbox hg) | ((with_reducible refine gate_dst (N := 4) rfl ?_); refine box_event ?hg (N := 4) ?hd (cs := #[.int .i64 0, .int .i64 0]) (t := 23) ?hr ?_; (case hd => rfl); (case hg => rfl); (case hr => first | (go_simp; done) | (go_simp; rfl)); intro gb960 hg w28 hbox hb; have BK960 := Aside0.mk hbox; have GW960 := bwg_ HB hg; have GE960 := bwg_ HB hg; replace HB := bws_ HB hb; have NB958_960 := bkl_ BK958 hg; have NB960_958 := bkr_ BK958 hg; replace BK958 := bkb_ BK958 hb; have NB959_960 := bkl_ BK959 hg; have NB960_959 := bkr_ BK959 hg; replace BK959 := bkb_ BK959 hb; clear hb hbox hg; have hnb29 := NB958_959.out; have hnc29 := NB959_958.out; have hnb30 := NB958_960.out; have hnc30 := NB960_958.out; obtain ⟨hcz31_0, hcz31_1, hfz31_0, hfz31_1⟩ := bc2_ BK958; have hnb32 := NB959_960.out; have hnc32 := NB960_959.out; obtain ⟨hcz33_0, hcz33_1, hfz33_0, hfz33_1⟩ := bc2_ BK959) | ((with_reducible refine gate_callee (f := 97) rfl ?_); refine gla_ (some 9) Try.func97 #[.agg #[.int .i64 a0_0, .int .i64 a0_1], .agg #[.int .i64 a1_0, .int .i64 a1_1]] ?_; (with_reducible refine (withyref01_both.calls k a0_0 a0_1 a1_0 a1_1 t961 _ A3.out).mono ?_); rintro e w34 ⟨rfl, hb⟩; refine ⟨_, rfl, ?_⟩; replace BK958 := bkb_ BK958 hb; replace BK959 := bkb_ BK959 hb; replace BK960 := bkb_ BK960 hb; replace HB := bws_ HB hb; (try clear hb); (try clear hb2); (try clear hk); (try clear hi); obtain ⟨hcz35_0, hcz35_1, hfz35_0, hfz35_1⟩ := bc2_ BK958; obtain ⟨hcz36_0, hcz36_1, hfz36_0, hfz36_1⟩ := bc2_ BK959) | ((with_reducible refine gate_callee (f := 98) rfl ?_); refine gla_ (some 16) Try.func98 #[.agg #[.int .i64 a0_0, .int .i64 a0_1], .agg #[.int .i64 a1_0, .int .i64 a1_1]] ?_; (with_reducible refine (withyref01_Less.calls a0_0 a0_1 a1_0 a1_1 false _ A5.out).mono ?_); rintro e w37 ⟨rfl, hb⟩; refine ⟨_, rfl, ?_⟩; replace BK958 := bkb_ BK958 hb; replace BK959 := bkb_ BK959 hb; replace BK960 := bkb_ BK960 hb; replace HB := bws_ HB hb; (try clear hb); (try clear hb2); (try clear hk); (try clear hi); obtain ⟨hcz38_0, hcz38_1, hfz38_0, hfz38_1⟩ := bc2_ BK960))
     refine bodyPost_ret (results_ct rfl _ _ gb960 23 #[.int .i64 0, .int .i64 0] (0, 0) _ rfl (by refine bp_ (cs := #[.int .i64 0, .int .i64 0]) ?_ 1; refine bp_ (cs := #[.int .i64 0, .int .i64 0]) ?_ 0; exact bk_ BK960) Try.underlying23 rfl (by kernel_rfl)) rfl ?_
     exact ⟨by first | rfl | (simp [*] <;> rfl), bw_ HB⟩
 · rw [if_neg c4] at H
   have c4b0 : (t961 == 0) = false := beq_eq_false_iff_ne.mpr c4
   have c4b1 : (t961 != 0) = true := bne_iff_ne.mpr c4
   simp only [Option.some.injEq, Prod.mk.injEq] at H
   obtain ⟨rfl, rfl, rfl⟩ := H
   go_enter Try.func63, Try.ntmps63
   go_wp2_with (first | ((with_reducible refine gate_dst (N := 2) rfl ?_); refine box_event ?hg (N := 2) ?hd (cs := #[.int .i64 a0_0, .int .i64 a0_1]) (t := 23) ?hr ?_; (case hd => rfl); (case hg => rfl); (case hr => first | (go_simp; done) | (go_simp; rfl)); intro gb958 hg w39 hbox hb; have BK958 := Aside0.mk hbox; have GW958 := bwg_ HB hg; have GE958 := bwg_ HB hg; replace HB := bws_ HB hb; clear hb hbox hg) | ((with_reducible refine gate_dst (N := 3) rfl ?_); refine box_event ?hg (N := 3) ?hd (cs := #[.int .i64 a1_0, .int .i64 a1_1]) (t := 23) ?hr ?_; (case hd => rfl); (case hg => rfl); (case hr => first | (go_simp; done) | (go_simp; rfl)); intro gb959 hg w40 hbox hb; have BK959 := Aside0.mk hbox; have GW959 := bwg_ HB hg; have GE959 := bwg_ HB hg; replace HB := bws_ HB hb; have NB958_959 := bkl_ BK958 hg; have NB959_958 := bkr_ BK958 hg; replace BK958 := bkb_ BK958 hb; clear hb hbox hg) | ((with_reducible refine gate_dst (N := 4) rfl ?_); refine box_event ?hg (N := 4) ?hd (cs := #[.int .i64 0, .int .i64 0]) (t := 23) ?hr ?_; (case hd => rfl); (case hg => rfl); (case hr => first | (go_simp; done) | (go_simp; rfl)); intro gb960 hg w41 hbox hb; have BK960 := Aside0.mk hbox; have GW960 := bwg_ HB hg; have GE960 := bwg_ HB hg; replace HB := bws_ HB hb; have NB958_960 := bkl_ BK958 hg; have NB960_958 := bkr_ BK958 hg; replace BK958 := bkb_ BK958 hb; have NB959_960 := bkl_ BK959 hg; have NB960_959 := bkr_ BK959 hg; replace BK959 := bkb_ BK959 hb; clear hb hbox hg; have hnb42 := NB958_959.out; have hnc42 := NB959_958.out; have hnb43 := NB958_960.out; have hnc43 := NB960_958.out; obtain ⟨hcz44_0, hcz44_1, hfz44_0, hfz44_1⟩ := bc2_ BK958; have hnb45 := NB959_960.out; have hnc45 := NB960_959.out; obtain ⟨hcz46_0, hcz46_1, hfz46_0, hfz46_1⟩ := bc2_ BK959) | ((with_reducible refine gate_callee (f := 97) rfl ?_); refine gla_ (some 9) Try.func97 #[.agg #[.int .i64 a0_0, .int .i64 a0_1], .agg #[.int .i64 a1_0, .int .i64 a1_1]] ?_; (with_reducible refine (withyref01_both.calls k a0_0 a0_1 a1_0 a1_1 t961 _ A3.out).mono ?_); rintro e w47 ⟨rfl, hb⟩; refine ⟨_, rfl, ?_⟩; replace BK958 := bkb_ BK958 hb; replace BK959 := bkb_ BK959 hb; replace BK960 := bkb_ BK960 hb; replace HB := bws_ HB hb; (try clear hb); (try clear hb2); (try clear hk); (try clear hi); obtain ⟨hcz48_0, hcz48_1, hfz48_0, hfz48_1⟩ := bc2_ BK960))
   refine bodyPost_ret (results_ct rfl _ _ gb960 23 #[.int .i64 0, .int .i64 0] (0, 0) _ rfl (by refine bp_ (cs := #[.int .i64 0, .int .i64 0]) ?_ 1; refine bp_ (cs := #[.int .i64 0, .int .i64 0]) ?_ 0; exact bk_ BK960) Try.underlying23 rfl (by kernel_rfl)) rfl ?_
   exact ⟨by first | rfl | (simp [*] <;> rfl), bw_ HB⟩
/-! ### withyref01_gap: function 111 -/
def withyref01_gap.f (a0_0 : Int) (a0_1 : Int) (a1 : Int) (a2 : Int) : Option (Int) := if (wrap64 ((wrap64 (a0_0 * a2)) - (wrap64 (a1 * a0_1)))) < 0 then (some (wrap64 (-(wrap64 ((wrap64 (a0_0 * a2)) - (wrap64 (a1 * a0_1))))))) else (some (wrap64 ((wrap64 (a0_0 * a2)) - (wrap64 (a1 * a0_1)))))
set_option maxHeartbeats 8000000 in
set_option maxRecDepth 100000 in
theorem withyref01_gap.calls (a0_0 : Int) (a0_1 : Int) (a1 : Int) (a2 : Int) (r : Int) (w : World) (h : withyref01_gap.f a0_0 a0_1 a1 a2 = some r) :
    Calls Try.prog 111 #[.agg #[.int .i64 a0_0, .int .i64 a0_1], .int .i64 a1, .int .i64 a2] w fun e w' => e = .returned (.int .i64 r) ∧ Below w.heap.size w w' := by
  have hu23 := Try.underlying23
  have HB := Aside0.mk (Below.refl w.heap.size w)
  have H : (if (wrap64 ((wrap64 (a0_0 * a2)) - (wrap64 (a1 * a0_1)))) < 0 then (some (wrap64 (-(wrap64 ((wrap64 (a0_0 * a2)) - (wrap64 (a1 * a0_1))))))) else (some (wrap64 ((wrap64 (a0_0 * a2)) - (wrap64 (a1 * a0_1)))))) = some r := h
  clear h
  by_cases c4 : (wrap64 ((wrap64 (a0_0 * a2)) - (wrap64 (a1 * a0_1)))) < 0
  · rw [if_pos c4] at H
    have c4b0 : decide ((wrap64 ((wrap64 (a0_0 * a2)) - (wrap64 (a1 * a0_1)))) < 0) = true := decide_eq_true c4
    clear c4
    obtain rfl := Option.some.inj H
    go_enter Try.func111, Try.ntmps111
    go_wp2_with (first | ((with_reducible refine gate_dst (N := 3) rfl ?_); refine box_event ?hg (N := 3) ?hd (cs := #[.int .i64 a0_0, .int .i64 a0_1]) (t := 23) ?hr ?_; (case hd => rfl); (case hg => rfl); (case hr => first | (go_simp; done) | (go_simp; rfl)); intro gb968 hg w5 hbox hb; have BK968 := Aside0.mk hbox; have GW968 := bwg_ HB hg; have GE968 := bwg_ HB hg; replace HB := bws_ HB hb; clear hb hbox hg; obtain ⟨hcz6_0, hcz6_1, hfz6_0, hfz6_1⟩ := bc2_ BK968))
    go_ret
    exact ⟨by first | rfl | (simp [*] <;> rfl), bw_ HB⟩
  · rw [if_neg c4] at H
    have c4b0 : decide ((wrap64 ((wrap64 (a0_0 * a2)) - (wrap64 (a1 * a0_1)))) < 0) = false := decide_eq_false c4
    clear c4
    obtain rfl := Option.some.inj H
    go_enter Try.func111, Try.ntmps111
    go_wp2_with (first | ((with_reducible refine gate_dst (N := 3) rfl ?_); refine box_event ?hg (N := 3) ?hd (cs := #[.int .i64 a0_0, .int .i64 a0_1]) (t := 23) ?hr ?_; (case hd => rfl); (case hg => rfl); (case hr => first | (go_simp; done) | (go_simp; rfl)); intro gb968 hg w7 hbox hb; have BK968 := Aside0.mk hbox; have GW968 := bwg_ HB hg; have GE968 := bwg_ HB hg; replace HB := bws_ HB hb; clear hb hbox hg; obtain ⟨hcz8_0, hcz8_1, hfz8_0, hfz8_1⟩ := bc2_ BK968))
    go_ret
    exact ⟨by first | rfl | (simp [*] <;> rfl), bw_ HB⟩
end Go.Proofs.Ytakcdoahpbeckaa.H
