/- NumSums: the printed functions it reaches, with their walks. Laid by wip/claimpack.py out of what wip/hprint.py printed. -/
import Derived.Test.YtakcdoahpbeckaaKNumSums2
namespace Go.Proofs.Ytakcdoahpbeckaa.H
open Go.RowKit Go.Proofs.YtakcdoahpbeckaaW.PrintWords Go.Proofs.YtakcdoahpbeckaaW.PrintLast Go.Proofs.YtakcdoahpbeckaaW.PrintMore
attribute [local go_sem] max2_int min2_int max_two min_two max_three min_three max_four min_four   -- for this text's walks alone
set_option linter.unusedVariables false
set_option linter.unusedSimpArgs false

/-! ### num_total: function 99 -/
def num_total.l0 : Nat → List (S23) → Int → Int → Int → Int → Option (Except Int (Int × Int))
  | 0, _, _, _, _, _ => none
  | k + 1, x7, x8, x9, x753000, x753001 => if x9 < x8 then (if 0 ≤ x9 then (if x9 < (x7.length : Int) then ((num_of.f x753000 x753001).bind fun bt755 => ((num_of.f ((rd_T23 x7 x9).f0) ((rd_T23 x7 x9).f1)).bind fun bt757 => ((num_ratio_plus.f bt755.1 bt755.2 bt757.1 bt757.2).bind fun bt759 => ((num_ratio_num.f k bt759.1 bt759.2).bind fun tz_ => exc tz_ (fun tp763 => (some (Except.error (tp763 : Int)))) (fun bt761 => (num_total.l0 k x7 x8 (wrap64 (x9 + 1)) bt761.1 bt761.2)))))) else (none)) else (none)) else (some (Except.ok (ε := Int) (x753000, x753001)))
def num_total.f (k : Nat) (l0 : List (S23)) : Option (Except Int (Int × Int)) := num_total.l0 k l0 (l0.length : Int) 0 0 1
theorem num_total.mono_l : ∀ k, (∀ y0 y1 y2 y3 y4, LeO (num_total.l0 k y0 y1 y2 y3 y4) (num_total.l0 (k + 1) y0 y1 y2 y3 y4))
  | 0 => fun _ _ _ _ _ r h => by simp [num_total.l0] at h
  | k + 1 => by
    have ih0 := num_total.mono_l k
    · intro y0 y1 y2 y3 y4
      unfold num_total.l0
      repeat' first
      | (with_reducible exact ih0 _ _ _ _ _)
      | (with_reducible exact num_ratio_num.mono _ _ _)
      | (with_reducible exact LeO.refl _)
      | (with_reducible exact LeO.none _)
      | (with_reducible refine LeO.ite ?_ ?_)
      | (with_reducible refine LeO.bind ?_ (fun _ => ?_))
      | (with_reducible refine LeO.exc (fun _ => ?_) (fun _ => ?_))
      | exact ih0 _ _ _ _ _
      | exact num_ratio_num.mono _ _ _
      | exact LeO.none _
      | refine LeO.ite ?_ ?_
      | refine LeO.bind ?_ (fun _ => ?_)
theorem num_total.mono : ∀ a0 k, LeO (num_total.f k a0) (num_total.f (k + 1) a0) := by
  intro a0 k
  have ih0 := num_total.mono_l k
  unfold num_total.f
  repeat' first
      | (with_reducible exact ih0 _ _ _ _ _)
      | (with_reducible exact num_ratio_num.mono _ _ _)
      | (with_reducible exact LeO.refl _)
      | (with_reducible exact LeO.none _)
      | (with_reducible refine LeO.ite ?_ ?_)
      | (with_reducible refine LeO.bind ?_ (fun _ => ?_))
      | (with_reducible refine LeO.exc (fun _ => ?_) (fun _ => ?_))
      | exact ih0 _ _ _ _ _
      | exact num_ratio_num.mono _ _ _
      | exact LeO.none _
      | refine LeO.ite ?_ ?_
      | refine LeO.bind ?_ (fun _ => ?_)
set_option maxHeartbeats 8000000 in
set_option maxRecDepth 100000 in
theorem num_total.calls (k : Nat) (A0 : Option Addr) (c0 : Nat) (l0 : List (S23)) (r1 : Int) (r2 : Int) (w : World) (hr0 : Kd.C k23 w A0 l0.length l0) (hc0 : l0.length ≤ c0) (h : num_total.f k l0 = some (Except.ok (r1, r2) : Except Int (Int × Int))) :
    Calls Try.prog 99 #[.slice A0 l0.length c0] w fun e w' => e = .returned (.agg #[.int .i64 r1, .int .i64 r2]) ∧ Below w.heap.size w w' := by
  have hu23 := Try.underlying23
  have HR0 := Aside0.mk hr0
  have HC0 := Aside0.mk hc0
  clear hr0 hc0
  have HB := Aside0.mk (Below.refl w.heap.size w)
  have H : (num_total.l0 k l0 (l0.length : Int) 0 0 1) = some (Except.ok (r1, r2) : Except Int (Int × Int)) := h
  clear h
  have H' := Aside0.mk H
  clear H
  go_enter Try.func99, Try.ntmps99
  go_wp2_with (first | ((with_reducible refine gate_dst (N := 2) rfl ?_); refine box_event ?hg (N := 2) ?hd (cs := #[.int .i64 0, .int .i64 0]) (t := 23) ?hr ?_; (case hd => rfl); (case hg => rfl); (case hr => first | (go_simp; done) | (go_simp; rfl)); intro gb751 hg w2 hbox hb; have BK751 := Aside0.mk hbox; have GW751 := bwg_ HB hg; have GE751 := bwg_ HB hg; replace HB := bws_ HB hb; clear hb hbox hg) | ((with_reducible refine gate_dst (N := 3) rfl ?_); refine box_event ?hg (N := 3) ?hd (cs := #[.int .i64 0, .int .i64 0]) (t := 23) ?hr ?_; (case hd => rfl); (case hg => rfl); (case hr => first | (go_simp; done) | (go_simp; rfl)); intro gb752 hg w3 hbox hb; have BK752 := Aside0.mk hbox; have GW752 := bwg_ HB hg; have GE752 := bwg_ HB hg; replace HB := bws_ HB hb; have NB751_752 := bkl_ BK751 hg; have NB752_751 := bkr_ BK751 hg; replace BK751 := bkb_ BK751 hb; clear hb hbox hg; have hnb4 := NB752_751.out; have hnc4 := NB751_752.out; obtain ⟨hcz5_0, hcz5_1, hfz5_0, hfz5_1⟩ := bc2_ BK752))
  go_loopg [9] k (fun kq v9 w' => ∃ (x9_1 : Int) (x753000_1 : Int) (x753001_1 : Int), v9 = .int .i64 x9_1 ∧ Aside0 (num_total.l0 kq l0 (l0.length : Int) x9_1 x753000_1 x753001_1 = some (Except.ok (r1, r2) : Except Int (Int × Int))) ∧ Aside0 (kq ≤ k) ∧ Aside0 (w'.heap[gb751]? = some (.cells #[.int .i64 0, .int .i64 0] 23 (0, 0))) ∧ Aside0 (w'.heap[gb752]? = some (.cells #[.int .i64 x753000_1, .int .i64 x753001_1] 23 (0, 0))) ∧ Aside0 (Below w.heap.size w w'))
  case atStart => exact ⟨(0), (0), (1), (by first | rfl | (simp; done) | (simp [*]; done)), H', ⟨Nat.le_refl _⟩, ⟨by refine bf_ ?_ NB751_752; refine bf_ ?_ NB751_752; exact bk_ BK751⟩, ⟨by refine bp_ (cs := #[.int .i64 0, .int .i64 0]) ?_ 1; refine bp_ (cs := #[.int .i64 0, .int .i64 0]) ?_ 0; exact bk_ BK752⟩, ⟨bw_ HB⟩⟩
  case round =>
    clear H'
    try clear p2
    try clear c4
    try clear hcz5_0
    try clear hcz5_1
    try clear hfz5_0
    try clear hfz5_1
    obtain ⟨x9_1, x753000_1, x753001_1, rfl, HA, HK1, BK751, BK752, HB⟩ := hrel
    cases gk with
    | zero => exact absurd HA.out (by simp [num_total.l0])
    | succ k1 =>
      have H := HA.out
      clear HA
      simp only [num_total.l0] at H
      by_cases c6 : x9_1 < (l0.length : Int)
      · rw [if_pos c6] at H
        have c6b0 : decide (x9_1 < (l0.length : Int)) = true := decide_eq_true c6
        clear c6
        by_cases c7 : 0 ≤ x9_1
        · rw [if_pos c7] at H
          have c7b0 : decide (0 ≤ x9_1) = true := decide_eq_true c7
          clear c7
          by_cases c8 : x9_1 < (l0.length : Int)
          · rw [if_pos c8] at H
            have c8b0 : decide (x9_1 < (l0.length : Int)) = true := decide_eq_true c8
            clear c8
            replace H := Option.bind_eq_some_iff.mp H
            obtain ⟨⟨t755, t756⟩, A90, H⟩ := H
            replace H : ((num_of.f ((rd_T23 l0 x9_1).f0) ((rd_T23 l0 x9_1).f1)).bind fun bt757 => ((num_ratio_plus.f t755 t756 bt757.1 bt757.2).bind fun bt759 => ((num_ratio_num.f k1 bt759.1 bt759.2).bind fun tz_ => exc tz_ (fun tp763 => (some (Except.error (tp763 : Int)))) (fun bt761 => (num_total.l0 k1 l0 (l0.length : Int) (wrap64 (x9_1 + 1)) bt761.1 bt761.2))))) = some (Except.ok (r1, r2) : Except Int (Int × Int)) := H
            have A9 := Aside0.mk A90
            clear A90
            replace H := Option.bind_eq_some_iff.mp H
            obtain ⟨⟨t757, t758⟩, A100, H⟩ := H
            replace H : ((num_ratio_plus.f t755 t756 t757 t758).bind fun bt759 => ((num_ratio_num.f k1 bt759.1 bt759.2).bind fun tz_ => exc tz_ (fun tp763 => (some (Except.error (tp763 : Int)))) (fun bt761 => (num_total.l0 k1 l0 (l0.length : Int) (wrap64 (x9_1 + 1)) bt761.1 bt761.2)))) = some (Except.ok (r1, r2) : Except Int (Int × Int)) := H
            have A10 := Aside0.mk A100
            clear A100
            replace H := Option.bind_eq_some_iff.mp H
            obtain ⟨⟨t759, t760⟩, A110, H⟩ := H
            replace H : ((num_ratio_num.f k1 t759 t760).bind fun tz_ => exc tz_ (fun tp763 => (some (Except.error (tp763 : Int)))) (fun bt761 => (num_total.l0 k1 l0 (l0.length : Int) (wrap64 (x9_1 + 1)) bt761.1 bt761.2))) = some (Except.ok (r1, r2) : Except Int (Int × Int)) := H
            have A11 := Aside0.mk A110
            clear A110
            replace H := Option.bind_eq_some_iff.mp H
            obtain ⟨tz_, A120, H⟩ := H
            cases tz_ with
            | error tp763 =>
              replace H : (some (Except.error (tp763 : Int))) = some (Except.ok (r1, r2) : Except Int (Int × Int)) := H
              have A12 := Aside0.mk A120
              clear A120
              exact absurd H (by simp)
            | ok bt761 =>
              obtain ⟨t761, t762⟩ := bt761
              replace H : (num_total.l0 k1 l0 (l0.length : Int) (wrap64 (x9_1 + 1)) t761 t762) = some (Except.ok (r1, r2) : Except Int (Int × Int)) := H
              have A12 := Aside0.mk A120
              clear A120
              have H' := Aside0.mk H
              clear H
              have p753 : 0 ≤ (x9_1 : Int) := of_decide_eq_true (by first | (with_reducible assumption) | assumption)
              have q753 : x9_1 < (l0.length : Int) := of_decide_eq_true (by first | (with_reducible assumption) | assumption)
              obtain ⟨ad753, e753, hx753_0, hx753_1⟩ := at_T23 HR0.out x9_1 p753 q753
              cases e753
              replace hx753_0 := (HB.out.cell (World.block_lt_of_cell? w _ hx753_0)).trans hx753_0
              replace hx753_1 := (HB.out.cell (World.block_lt_of_cell? w _ hx753_1)).trans hx753_1
              replace p753 := eq_true p753
              replace q753 := eq_true q753
              try go_wp2_with (first | ((with_reducible refine gate_dst (N := 5) rfl ?_); refine box_event ?hg (N := 5) ?hd (cs := #[.int .i64 0, .int .i64 0]) (t := 23) ?hr ?_; (case hd => rfl); (case hg => rfl); (case hr => first | (go_simp; done) | (go_simp; rfl)); intro gb754 hg w13 hbox hb; have BK754 := Aside0.mk hbox; have GW754 := bwg_ HB hg; have GE754 := bwg_ HB hg; replace HB := bws_ HB hb; have NB751_754 := bkl_ BK751 hg; have NB754_751 := bkr_ BK751 hg; replace BK751 := bkb_ BK751 hb; have NB752_754 := bkl_ BK752 hg; have NB754_752 := bkr_ BK752 hg; replace BK752 := bkb_ BK752 hb; clear hb hbox hg; have hnb14 := NB754_751.out; have hnc14 := NB751_754.out; have hnb15 := NB754_752.out; have hnc15 := NB752_754.out; obtain ⟨hcz16_0, hcz16_1, hfz16_0, hfz16_1⟩ := bc2_ BK754))
              have n0_ : Aside0 (((w13.setCell ⟨gb754, 0, none⟩ (.int .i64 ((rd_T23 l0 x9_1).f0))).setCell ⟨gb754, 1, none⟩ (.int .i64 ((rd_T23 l0 x9_1).f1))).heap[gb751]? = some (.cells #[.int .i64 0, .int .i64 0] 23 (0, 0))) := ⟨by refine bf_ ?_ NB751_754; refine bf_ ?_ NB751_754; exact bk_ BK751⟩
              have n1_ : Aside0 (((w13.setCell ⟨gb754, 0, none⟩ (.int .i64 ((rd_T23 l0 x9_1).f0))).setCell ⟨gb754, 1, none⟩ (.int .i64 ((rd_T23 l0 x9_1).f1))).heap[gb752]? = some (.cells #[.int .i64 x753000_1, .int .i64 x753001_1] 23 (0, 0))) := ⟨by refine bf_ ?_ NB752_754; refine bf_ ?_ NB752_754; exact bk_ BK752⟩
              have n2_ : Aside0 (((w13.setCell ⟨gb754, 0, none⟩ (.int .i64 ((rd_T23 l0 x9_1).f0))).setCell ⟨gb754, 1, none⟩ (.int .i64 ((rd_T23 l0 x9_1).f1))).heap[gb754]? = some (.cells #[.int .i64 ((rd_T23 l0 x9_1).f0), .int .i64 ((rd_T23 l0 x9_1).f1)] 23 (0, 0))) := ⟨by refine bp_ (cs := #[.int .i64 ((rd_T23 l0 x9_1).f0), .int .i64 0]) ?_ 1; refine bp_ (cs := #[.int .i64 0, .int .i64 0]) ?_ 0; exact bk_ BK754⟩
              have n3_ : Aside0 (Below w.heap.size w ((w13.setCell ⟨gb754, 0, none⟩ (.int .i64 ((rd_T23 l0 x9_1).f0))).setCell ⟨gb754, 1, none⟩ (.int .i64 ((rd_T23 l0 x9_1).f1)))) := ⟨bw_ HB⟩
              (try clear BK751)
              (try clear BK752)
              (try clear BK754)
              (try clear HB)
              generalize ((w13.setCell ⟨gb754, 0, none⟩ (.int .i64 ((rd_T23 l0 x9_1).f0))).setCell ⟨gb754, 1, none⟩ (.int .i64 ((rd_T23 l0 x9_1).f1))) = w17 at n0_ n1_ n2_ n3_ ⊢
              have BK751 := n0_
              have BK752 := n1_
              have BK754 := n2_
              have HB := n3_
              clear n0_ n1_ n2_ n3_
              replace BK751 := Aside0.mk (blk_drew BK751.out)
              replace BK752 := Aside0.mk (blk_drew BK752.out)
              replace BK754 := Aside0.mk (blk_drew BK754.out)
              replace HB := Aside0.mk (below_drew1 HB.out)
              refine start_ (n := 7) (S := fun w' => w'.cell? ⟨gb752, 0, none⟩ = some (.int .i64 x753000_1) ∧ w'.cell? ⟨gb752, 1, none⟩ = some (.int .i64 x753001_1) ∧ w'.cell? ⟨gb754, 0, none⟩ = some (.int .i64 ((rd_T23 l0 x9_1).f0)) ∧ w'.cell? ⟨gb754, 1, none⟩ = some (.int .i64 ((rd_T23 l0 x9_1).f1))) (ds := [6]) #[false, false, false, false, false, false, false] (by kernel_rfl) rfl rfl ⟨(blk_cell BK752.out 0).trans rfl, (blk_cell BK752.out 1).trans rfl, (blk_cell BK754.out 0).trans rfl, (blk_cell BK754.out 1).trans rfl⟩ (fun hHeld => ?_)
              generalize w17.drew = w18 at BK751 BK752 BK754 HB hHeld ⊢
              refine take_ (i := 0) (N := some 13) (v := ?_) (a' := ?_) #[true, false, false, false, false, false, false] rfl rfl (by kernel_rfl) (fun _ _ _ h => h) (Or.inl ⟨by rfl, ?_⟩) hHeld ?_ ?_
              rotate_left
              · rintro w' ⟨s0, s1, s2, s3⟩
                go_simp
                with_reducible rfl
              rotate_left
              · simp only [Act.put, List.setIfInBounds_toArray, List.set_cons_zero, List.set_cons_succ, i64_w, i32_w]
                rfl
              refine take_ (i := 2) (N := some 15) (v := ?_) (a' := ?_) #[true, false, true, false, false, false, false] rfl rfl (by kernel_rfl) (fun _ _ _ h => h) (Or.inl ⟨by rfl, ?_⟩) hHeld ?_ ?_
              rotate_left
              · rintro w' ⟨s0, s1, s2, s3⟩
                go_simp
                with_reducible rfl
              rotate_left
              · simp only [Act.put, List.setIfInBounds_toArray, List.set_cons_zero, List.set_cons_succ, i64_w, i32_w]
                rfl
              refine one_ (i := 1) (N := some 14) #[true, true, true, false, false, false, false] rfl rfl (by kernel_rfl) (by decide) (fun K hK => ?_)
              refine gos_ Try.func69 #[.agg #[.int .i64 x753000_1, .int .i64 x753001_1]] ?_
              with_reducible refine (num_of.calls x753000_1 x753001_1 t755 t756 _ A9.out).mono ?_
              rintro e w19 ⟨rfl, hb⟩
              refine ⟨_, rfl, ?_⟩
              replace BK751 := bkb_ BK751 hb
              replace BK752 := bkb_ BK752 hb
              replace BK754 := bkb_ BK754 hb
              replace HB := bws_ HB hb
              (try clear hb)
              (try clear hb2)
              (try clear hk)
              (try clear hi)
              refine hK.out _ _ ⟨(blk_cell BK752.out 0).trans rfl, (blk_cell BK752.out 1).trans rfl, (blk_cell BK754.out 0).trans rfl, (blk_cell BK754.out 1).trans rfl⟩ (fun hHeld => ?_)
              clear hK K
              refine norm_ (a' := ?_) ?_ ?_
              rotate_left
              · show Act.put _ (some 14) _ = _
                simp only [Act.put, List.setIfInBounds_toArray, List.set_cons_zero, List.set_cons_succ, i64_w, i32_w]
                rfl
              refine one_ (i := 3) (N := some 16) #[true, true, true, true, false, false, false] rfl rfl (by kernel_rfl) (by decide) (fun K hK => ?_)
              refine gos_ Try.func69 #[.agg #[.int .i64 ((rd_T23 l0 x9_1).f0), .int .i64 ((rd_T23 l0 x9_1).f1)]] ?_
              with_reducible refine (num_of.calls ((rd_T23 l0 x9_1).f0) ((rd_T23 l0 x9_1).f1) t757 t758 _ A10.out).mono ?_
              rintro e w20 ⟨rfl, hb⟩
              refine ⟨_, rfl, ?_⟩
              replace BK751 := bkb_ BK751 hb
              replace BK752 := bkb_ BK752 hb
              replace BK754 := bkb_ BK754 hb
              replace HB := bws_ HB hb
              (try clear hb)
              (try clear hb2)
              (try clear hk)
              (try clear hi)
              refine hK.out _ _ ⟨(blk_cell BK752.out 0).trans rfl, (blk_cell BK752.out 1).trans rfl, (blk_cell BK754.out 0).trans rfl, (blk_cell BK754.out 1).trans rfl⟩ (fun hHeld => ?_)
              clear hK K
              refine norm_ (a' := ?_) ?_ ?_
              rotate_left
              · show Act.put _ (some 16) _ = _
                simp only [Act.put, List.setIfInBounds_toArray, List.set_cons_zero, List.set_cons_succ, i64_w, i32_w]
                rfl
              refine one_ (i := 4) (N := some 17) #[true, true, true, true, true, false, false] rfl rfl (by kernel_rfl) (by decide) (fun K hK => ?_)
              refine gos_ Try.func118 #[.agg #[.int .i64 t755, .int .i64 t756], .agg #[.int .i64 t757, .int .i64 t758]] ?_
              with_reducible refine (num_ratio_plus.calls t755 t756 t757 t758 t759 t760 _ A11.out).mono ?_
              rintro e w21 ⟨rfl, hb⟩
              refine ⟨_, rfl, ?_⟩
              replace BK751 := bkb_ BK751 hb
              replace BK752 := bkb_ BK752 hb
              replace BK754 := bkb_ BK754 hb
              replace HB := bws_ HB hb
              (try clear hb)
              (try clear hb2)
              (try clear hk)
              (try clear hi)
              refine hK.out _ _ ⟨(blk_cell BK752.out 0).trans rfl, (blk_cell BK752.out 1).trans rfl, (blk_cell BK754.out 0).trans rfl, (blk_cell BK754.out 1).trans rfl⟩ (fun hHeld => ?_)
              clear hK K
              refine norm_ (a' := ?_) ?_ ?_
              rotate_left
              · show Act.put _ (some 17) _ = _
                simp only [Act.put, List.setIfInBounds_toArray, List.set_cons_zero, List.set_cons_succ, i64_w, i32_w]
                rfl
              refine one_ (i := 5) (N := some 18) #[true, true, true, true, true, true, false] rfl rfl (by kernel_rfl) (by decide) (fun K hK => ?_)
              refine gos_ Try.func73 #[.agg #[.int .i64 t759, .int .i64 t760]] ?_
              with_reducible refine (num_ratio_num.calls k1 t759 t760 t761 t762 _ A12.out).mono ?_
              rintro e w22 ⟨rfl, hb⟩
              refine ⟨_, rfl, ?_⟩
              replace BK751 := bkb_ BK751 hb
              replace BK752 := bkb_ BK752 hb
              replace BK754 := bkb_ BK754 hb
              replace HB := bws_ HB hb
              (try clear hb)
              (try clear hb2)
              (try clear hk)
              (try clear hi)
              refine hK.out _ _ ⟨(blk_cell BK752.out 0).trans rfl, (blk_cell BK752.out 1).trans rfl, (blk_cell BK754.out 0).trans rfl, (blk_cell BK754.out 1).trans rfl⟩ (fun hHeld => ?_)
              clear hK K
              refine norm_ (a' := ?_) ?_ ?_
              rotate_left
              · show Act.put _ (some 18) _ = _
                simp only [Act.put, List.setIfInBounds_toArray, List.set_cons_zero, List.set_cons_succ, i64_w, i32_w]
                rfl
              refine last_ (i := 6) (N := none) #[true, true, true, true, true, true, true] rfl rfl (by kernel_rfl) (by decide) (fun K hK => ?_)
              have hs23 : w22.cell? ⟨gb752, 0, none⟩ = some (.int .i64 x753000_1) := (blk_cell BK752.out 0).trans rfl
              have hfs23 := blk_frozen BK752.out 0
              have hns23_0 := NB751_752.out
              have hns23_2 := NB754_752.out
              have hms23_0 := NB752_751.out
              have hms23_2 := NB752_754.out
              have hs24 : w22.cell? ⟨gb752, 1, none⟩ = some (.int .i64 x753001_1) := (blk_cell BK752.out 1).trans rfl
              have hfs24 := blk_frozen BK752.out 1
              have hns24_0 := NB751_752.out
              have hns24_2 := NB754_752.out
              have hms24_0 := NB752_751.out
              have hms24_2 := NB752_754.out
              refine skip_ (w1 := ?_) (by rfl) rfl ?_ ?_
              rotate_left
              · go_simp
                rfl
              refine hK.out _ _ ?_
              clear hK K
              refine done_ (by kernel_rfl) ?_
              try go_wp2
              go_roundg k1
              case measure => have := HK1.out; omega
              case rel => exact ⟨(wrap64 (x9_1 + 1)), (t761), (t762), (by first | rfl | (simp; done) | (simp [*]; done)), H', ⟨by have := HK1.out; omega⟩, ⟨by refine bf_ ?_ NB751_752; refine bf_ ?_ NB751_752; exact bk_ BK751⟩, ⟨by refine bp_ (cs := #[.int .i64 t761, .int .i64 x753001_1]) ?_ 1; refine bp_ (cs := #[.int .i64 x753000_1, .int .i64 x753001_1]) ?_ 0; exact bk_ BK752⟩, ⟨bw_ HB⟩⟩
          · rw [if_neg c8] at H
            exact absurd H (by simp)
        · rw [if_neg c7] at H
          exact absurd H (by simp)
      · rw [if_neg c6] at H
        have c6b0 : decide (x9_1 < (l0.length : Int)) = false := decide_eq_false c6
        clear c6
        simp only [Option.some.injEq, Except.ok.injEq, Prod.mk.injEq] at H
        obtain ⟨rfl, rfl⟩ := H
        have hnb25 := NB752_751.out
        have hnc25 := NB751_752.out
        obtain ⟨hcz26_0, hcz26_1, hfz26_0, hfz26_1⟩ := bc2_ BK752
        obtain ⟨hcz27_0, hcz27_1, hfz27_0, hfz27_1⟩ := bc2_ BK751
        go_wp2
        refine bodyPost_ret (results_cell_row rfl _ _ gb751 23 #[.int .i64 x753000_1, .int .i64 x753001_1] (0, 0) _ rfl (by refine bp_ (cs := #[.int .i64 x753000_1, .int .i64 0]) ?_ 1; refine bp_ (cs := #[.int .i64 0, .int .i64 0]) ?_ 0; exact bk_ BK751) Try.underlying23 rfl (by kernel_rfl)) rfl ?_
        exact ⟨by first | rfl | (simp [*] <;> rfl), bw_ HB⟩

set_option maxHeartbeats 8000000 in
set_option maxRecDepth 100000 in
theorem num_total.throws (k : Nat) (A0 : Option Addr) (c0 : Nat) (l0 : List (S23)) (p_ : Int) (w : World) (hr0 : Kd.C k23 w A0 l0.length l0) (hc0 : l0.length ≤ c0) (h : num_total.f k l0 = some (Except.error p_ : Except Int (Int × Int))) :
    Calls Try.prog 99 #[.slice A0 l0.length c0] w fun e w' => e = .panicked [{ v := .iface 108 (.agg #[]), recovered := false }] ∧ Below w.heap.size w w' := by
  have hu23 := Try.underlying23
  have HR0 := Aside0.mk hr0
  have HC0 := Aside0.mk hc0
  clear hr0 hc0
  have HB := Aside0.mk (Below.refl w.heap.size w)
  have H : (num_total.l0 k l0 (l0.length : Int) 0 0 1) = some (Except.error p_ : Except Int (Int × Int)) := h
  clear h
  have H' := Aside0.mk H
  clear H
  go_enter Try.func99, Try.ntmps99
  go_wp2_with (first | ((with_reducible refine gate_dst (N := 2) rfl ?_); refine box_event ?hg (N := 2) ?hd (cs := #[.int .i64 0, .int .i64 0]) (t := 23) ?hr ?_; (case hd => rfl); (case hg => rfl); (case hr => first | (go_simp; done) | (go_simp; rfl)); intro gb764 hg w2 hbox hb; have BK764 := Aside0.mk hbox; have GW764 := bwg_ HB hg; have GE764 := bwg_ HB hg; replace HB := bws_ HB hb; clear hb hbox hg) | ((with_reducible refine gate_dst (N := 3) rfl ?_); refine box_event ?hg (N := 3) ?hd (cs := #[.int .i64 0, .int .i64 0]) (t := 23) ?hr ?_; (case hd => rfl); (case hg => rfl); (case hr => first | (go_simp; done) | (go_simp; rfl)); intro gb765 hg w3 hbox hb; have BK765 := Aside0.mk hbox; have GW765 := bwg_ HB hg; have GE765 := bwg_ HB hg; replace HB := bws_ HB hb; have NB764_765 := bkl_ BK764 hg; have NB765_764 := bkr_ BK764 hg; replace BK764 := bkb_ BK764 hb; clear hb hbox hg; have hnb4 := NB765_764.out; have hnc4 := NB764_765.out; obtain ⟨hcz5_0, hcz5_1, hfz5_0, hfz5_1⟩ := bc2_ BK765))
  go_loopg [9] k (fun kq v9 w' => ∃ (x9_1 : Int) (x766000_1 : Int) (x766001_1 : Int), v9 = .int .i64 x9_1 ∧ Aside0 (num_total.l0 kq l0 (l0.length : Int) x9_1 x766000_1 x766001_1 = some (Except.error p_ : Except Int (Int × Int))) ∧ Aside0 (kq ≤ k) ∧ Aside0 (w'.heap[gb764]? = some (.cells #[.int .i64 0, .int .i64 0] 23 (0, 0))) ∧ Aside0 (w'.heap[gb765]? = some (.cells #[.int .i64 x766000_1, .int .i64 x766001_1] 23 (0, 0))) ∧ Aside0 (Below w.heap.size w w'))
  case atStart => exact ⟨(0), (0), (1), (by first | rfl | (simp; done) | (simp [*]; done)), H', ⟨Nat.le_refl _⟩, ⟨by refine bf_ ?_ NB764_765; refine bf_ ?_ NB764_765; exact bk_ BK764⟩, ⟨by refine bp_ (cs := #[.int .i64 0, .int .i64 0]) ?_ 1; refine bp_ (cs := #[.int .i64 0, .int .i64 0]) ?_ 0; exact bk_ BK765⟩, ⟨bw_ HB⟩⟩
  case round =>
    clear H'
    try clear p2
    try clear c4
    try clear hcz5_0
    try clear hcz5_1
    try clear hfz5_0
    try clear hfz5_1
    obtain ⟨x9_1, x766000_1, x766001_1, rfl, HA, HK1, BK764, BK765, HB⟩ := hrel
    cases gk with
    | zero => exact absurd HA.out (by simp [num_total.l0])
    | succ k1 =>
      have H := HA.out
      clear HA
      simp only [num_total.l0] at H
      by_cases c6 : x9_1 < (l0.length : Int)
      · rw [if_pos c6] at H
        have c6b0 : decide (x9_1 < (l0.length : Int)) = true := decide_eq_true c6
        clear c6
        by_cases c7 : 0 ≤ x9_1
        · rw [if_pos c7] at H
          have c7b0 : decide (0 ≤ x9_1) = true := decide_eq_true c7
          clear c7
          by_cases c8 : x9_1 < (l0.length : Int)
          · rw [if_pos c8] at H
            have c8b0 : decide (x9_1 < (l0.length : Int)) = true := decide_eq_true c8
            clear c8
            replace H := Option.bind_eq_some_iff.mp H
            obtain ⟨⟨t768, t769⟩, A90, H⟩ := H
            replace H : ((num_of.f ((rd_T23 l0 x9_1).f0) ((rd_T23 l0 x9_1).f1)).bind fun bt770 => ((num_ratio_plus.f t768 t769 bt770.1 bt770.2).bind fun bt772 => ((num_ratio_num.f k1 bt772.1 bt772.2).bind fun tz_ => exc tz_ (fun tp776 => (some (Except.error (tp776 : Int)))) (fun bt774 => (num_total.l0 k1 l0 (l0.length : Int) (wrap64 (x9_1 + 1)) bt774.1 bt774.2))))) = some (Except.error p_ : Except Int (Int × Int)) := H
            have A9 := Aside0.mk A90
            clear A90
            replace H := Option.bind_eq_some_iff.mp H
            obtain ⟨⟨t770, t771⟩, A100, H⟩ := H
            replace H : ((num_ratio_plus.f t768 t769 t770 t771).bind fun bt772 => ((num_ratio_num.f k1 bt772.1 bt772.2).bind fun tz_ => exc tz_ (fun tp776 => (some (Except.error (tp776 : Int)))) (fun bt774 => (num_total.l0 k1 l0 (l0.length : Int) (wrap64 (x9_1 + 1)) bt774.1 bt774.2)))) = some (Except.error p_ : Except Int (Int × Int)) := H
            have A10 := Aside0.mk A100
            clear A100
            replace H := Option.bind_eq_some_iff.mp H
            obtain ⟨⟨t772, t773⟩, A110, H⟩ := H
            replace H : ((num_ratio_num.f k1 t772 t773).bind fun tz_ => exc tz_ (fun tp776 => (some (Except.error (tp776 : Int)))) (fun bt774 => (num_total.l0 k1 l0 (l0.length : Int) (wrap64 (x9_1 + 1)) bt774.1 bt774.2))) = some (Except.error p_ : Except Int (Int × Int)) := H
            have A11 := Aside0.mk A110
            clear A110
            replace H := Option.bind_eq_some_iff.mp H
            obtain ⟨tz_, A120, H⟩ := H
            cases tz_ with
            | error tp776 =>
              replace H : (some (Except.error (tp776 : Int))) = some (Except.error p_ : Except Int (Int × Int)) := H
              have A12 := Aside0.mk A120
              clear A120
              obtain rfl := Except.error.inj (Option.some.inj H)
              have p766 : 0 ≤ (x9_1 : Int) := of_decide_eq_true (by first | (with_reducible assumption) | assumption)
              have q766 : x9_1 < (l0.length : Int) := of_decide_eq_true (by first | (with_reducible assumption) | assumption)
              obtain ⟨ad766, e766, hx766_0, hx766_1⟩ := at_T23 HR0.out x9_1 p766 q766
              cases e766
              replace hx766_0 := (HB.out.cell (World.block_lt_of_cell? w _ hx766_0)).trans hx766_0
              replace hx766_1 := (HB.out.cell (World.block_lt_of_cell? w _ hx766_1)).trans hx766_1
              replace p766 := eq_true p766
              replace q766 := eq_true q766
              try go_wp2_with (first | ((with_reducible refine gate_dst (N := 5) rfl ?_); refine box_event ?hg (N := 5) ?hd (cs := #[.int .i64 0, .int .i64 0]) (t := 23) ?hr ?_; (case hd => rfl); (case hg => rfl); (case hr => first | (go_simp; done) | (go_simp; rfl)); intro gb767 hg w13 hbox hb; have BK767 := Aside0.mk hbox; have GW767 := bwg_ HB hg; have GE767 := bwg_ HB hg; replace HB := bws_ HB hb; have NB764_767 := bkl_ BK764 hg; have NB767_764 := bkr_ BK764 hg; replace BK764 := bkb_ BK764 hb; have NB765_767 := bkl_ BK765 hg; have NB767_765 := bkr_ BK765 hg; replace BK765 := bkb_ BK765 hb; clear hb hbox hg; have hnb14 := NB767_764.out; have hnc14 := NB764_767.out; have hnb15 := NB767_765.out; have hnc15 := NB765_767.out; obtain ⟨hcz16_0, hcz16_1, hfz16_0, hfz16_1⟩ := bc2_ BK767))
              have n0_ : Aside0 (((w13.setCell ⟨gb767, 0, none⟩ (.int .i64 ((rd_T23 l0 x9_1).f0))).setCell ⟨gb767, 1, none⟩ (.int .i64 ((rd_T23 l0 x9_1).f1))).heap[gb764]? = some (.cells #[.int .i64 0, .int .i64 0] 23 (0, 0))) := ⟨by refine bf_ ?_ NB764_767; refine bf_ ?_ NB764_767; exact bk_ BK764⟩
              have n1_ : Aside0 (((w13.setCell ⟨gb767, 0, none⟩ (.int .i64 ((rd_T23 l0 x9_1).f0))).setCell ⟨gb767, 1, none⟩ (.int .i64 ((rd_T23 l0 x9_1).f1))).heap[gb765]? = some (.cells #[.int .i64 x766000_1, .int .i64 x766001_1] 23 (0, 0))) := ⟨by refine bf_ ?_ NB765_767; refine bf_ ?_ NB765_767; exact bk_ BK765⟩
              have n2_ : Aside0 (((w13.setCell ⟨gb767, 0, none⟩ (.int .i64 ((rd_T23 l0 x9_1).f0))).setCell ⟨gb767, 1, none⟩ (.int .i64 ((rd_T23 l0 x9_1).f1))).heap[gb767]? = some (.cells #[.int .i64 ((rd_T23 l0 x9_1).f0), .int .i64 ((rd_T23 l0 x9_1).f1)] 23 (0, 0))) := ⟨by refine bp_ (cs := #[.int .i64 ((rd_T23 l0 x9_1).f0), .int .i64 0]) ?_ 1; refine bp_ (cs := #[.int .i64 0, .int .i64 0]) ?_ 0; exact bk_ BK767⟩
              have n3_ : Aside0 (Below w.heap.size w ((w13.setCell ⟨gb767, 0, none⟩ (.int .i64 ((rd_T23 l0 x9_1).f0))).setCell ⟨gb767, 1, none⟩ (.int .i64 ((rd_T23 l0 x9_1).f1)))) := ⟨bw_ HB⟩
              (try clear BK764)
              (try clear BK765)
              (try clear BK767)
              (try clear HB)
              generalize ((w13.setCell ⟨gb767, 0, none⟩ (.int .i64 ((rd_T23 l0 x9_1).f0))).setCell ⟨gb767, 1, none⟩ (.int .i64 ((rd_T23 l0 x9_1).f1))) = w17 at n0_ n1_ n2_ n3_ ⊢
              have BK764 := n0_
              have BK765 := n1_
              have BK767 := n2_
              have HB := n3_
              clear n0_ n1_ n2_ n3_
              replace BK764 := Aside0.mk (blk_drew BK764.out)
              replace BK765 := Aside0.mk (blk_drew BK765.out)
              replace BK767 := Aside0.mk (blk_drew BK767.out)
              replace HB := Aside0.mk (below_drew1 HB.out)
              refine start_ (n := 7) (S := fun w' => w'.cell? ⟨gb765, 0, none⟩ = some (.int .i64 x766000_1) ∧ w'.cell? ⟨gb765, 1, none⟩ = some (.int .i64 x766001_1) ∧ w'.cell? ⟨gb767, 0, none⟩ = some (.int .i64 ((rd_T23 l0 x9_1).f0)) ∧ w'.cell? ⟨gb767, 1, none⟩ = some (.int .i64 ((rd_T23 l0 x9_1).f1))) (ds := [6]) #[false, false, false, false, false, false, false] (by kernel_rfl) rfl rfl ⟨(blk_cell BK765.out 0).trans rfl, (blk_cell BK765.out 1).trans rfl, (blk_cell BK767.out 0).trans rfl, (blk_cell BK767.out 1).trans rfl⟩ (fun hHeld => ?_)
              generalize w17.drew = w18 at BK764 BK765 BK767 HB hHeld ⊢
              refine take_ (i := 0) (N := some 13) (v := ?_) (a' := ?_) #[true, false, false, false, false, false, false] rfl rfl (by kernel_rfl) (fun _ _ _ h => h) (Or.inl ⟨by rfl, ?_⟩) hHeld ?_ ?_
              rotate_left
              · rintro w' ⟨s0, s1, s2, s3⟩
                go_simp
                with_reducible rfl
              rotate_left
              · simp only [Act.put, List.setIfInBounds_toArray, List.set_cons_zero, List.set_cons_succ, i64_w, i32_w]
                rfl
              refine take_ (i := 2) (N := some 15) (v := ?_) (a' := ?_) #[true, false, true, false, false, false, false] rfl rfl (by kernel_rfl) (fun _ _ _ h => h) (Or.inl ⟨by rfl, ?_⟩) hHeld ?_ ?_
              rotate_left
              · rintro w' ⟨s0, s1, s2, s3⟩
                go_simp
                with_reducible rfl
              rotate_left
              · simp only [Act.put, List.setIfInBounds_toArray, List.set_cons_zero, List.set_cons_succ, i64_w, i32_w]
                rfl
              refine one_ (i := 1) (N := some 14) #[true, true, true, false, false, false, false] rfl rfl (by kernel_rfl) (by decide) (fun K hK => ?_)
              refine gos_ Try.func69 #[.agg #[.int .i64 x766000_1, .int .i64 x766001_1]] ?_
              with_reducible refine (num_of.calls x766000_1 x766001_1 t768 t769 _ A9.out).mono ?_
              rintro e w19 ⟨rfl, hb⟩
              refine ⟨_, rfl, ?_⟩
              replace BK764 := bkb_ BK764 hb
              replace BK765 := bkb_ BK765 hb
              replace BK767 := bkb_ BK767 hb
              replace HB := bws_ HB hb
              (try clear hb)
              (try clear hb2)
              (try clear hk)
              (try clear hi)
              refine hK.out _ _ ⟨(blk_cell BK765.out 0).trans rfl, (blk_cell BK765.out 1).trans rfl, (blk_cell BK767.out 0).trans rfl, (blk_cell BK767.out 1).trans rfl⟩ (fun hHeld => ?_)
              clear hK K
              refine norm_ (a' := ?_) ?_ ?_
              rotate_left
              · show Act.put _ (some 14) _ = _
                simp only [Act.put, List.setIfInBounds_toArray, List.set_cons_zero, List.set_cons_succ, i64_w, i32_w]
                rfl
              refine one_ (i := 3) (N := some 16) #[true, true, true, true, false, false, false] rfl rfl (by kernel_rfl) (by decide) (fun K hK => ?_)
              refine gos_ Try.func69 #[.agg #[.int .i64 ((rd_T23 l0 x9_1).f0), .int .i64 ((rd_T23 l0 x9_1).f1)]] ?_
              with_reducible refine (num_of.calls ((rd_T23 l0 x9_1).f0) ((rd_T23 l0 x9_1).f1) t770 t771 _ A10.out).mono ?_
              rintro e w20 ⟨rfl, hb⟩
              refine ⟨_, rfl, ?_⟩
              replace BK764 := bkb_ BK764 hb
              replace BK765 := bkb_ BK765 hb
              replace BK767 := bkb_ BK767 hb
              replace HB := bws_ HB hb
              (try clear hb)
              (try clear hb2)
              (try clear hk)
              (try clear hi)
              refine hK.out _ _ ⟨(blk_cell BK765.out 0).trans rfl, (blk_cell BK765.out 1).trans rfl, (blk_cell BK767.out 0).trans rfl, (blk_cell BK767.out 1).trans rfl⟩ (fun hHeld => ?_)
              clear hK K
              refine norm_ (a' := ?_) ?_ ?_
              rotate_left
              · show Act.put _ (some 16) _ = _
                simp only [Act.put, List.setIfInBounds_toArray, List.set_cons_zero, List.set_cons_succ, i64_w, i32_w]
                rfl
              refine one_ (i := 4) (N := some 17) #[true, true, true, true, true, false, false] rfl rfl (by kernel_rfl) (by decide) (fun K hK => ?_)
              refine gos_ Try.func118 #[.agg #[.int .i64 t768, .int .i64 t769], .agg #[.int .i64 t770, .int .i64 t771]] ?_
              with_reducible refine (num_ratio_plus.calls t768 t769 t770 t771 t772 t773 _ A11.out).mono ?_
              rintro e w21 ⟨rfl, hb⟩
              refine ⟨_, rfl, ?_⟩
              replace BK764 := bkb_ BK764 hb
              replace BK765 := bkb_ BK765 hb
              replace BK767 := bkb_ BK767 hb
              replace HB := bws_ HB hb
              (try clear hb)
              (try clear hb2)
              (try clear hk)
              (try clear hi)
              refine hK.out _ _ ⟨(blk_cell BK765.out 0).trans rfl, (blk_cell BK765.out 1).trans rfl, (blk_cell BK767.out 0).trans rfl, (blk_cell BK767.out 1).trans rfl⟩ (fun hHeld => ?_)
              clear hK K
              refine norm_ (a' := ?_) ?_ ?_
              rotate_left
              · show Act.put _ (some 17) _ = _
                simp only [Act.put, List.setIfInBounds_toArray, List.set_cons_zero, List.set_cons_succ, i64_w, i32_w]
                rfl
              refine one_ (i := 5) (N := some 18) #[true, true, true, true, true, true, false] rfl rfl (by kernel_rfl) (by decide) (fun K hK => ?_)
              refine goesT_ Try.func73 (by kernel_rfl) rfl #[.agg #[.int .i64 t772, .int .i64 t773]] (by rfl) (by rfl) (by (try simp only [List.map_toArray, List.map_cons, List.map_nil]); first | done | rfl | (simp only [List.length_drop, List.length_take]; rfl)) ?_
              with_reducible refine (num_ratio_num.throws k1 t772 t773 tp776 _ A12.out).mono ?_
              rintro e w22 ⟨rfl, hb⟩
              refine ⟨_, rfl, ?_⟩
              replace BK764 := bkb_ BK764 hb
              replace BK765 := bkb_ BK765 hb
              replace BK767 := bkb_ BK767 hb
              replace HB := bws_ HB hb
              (try clear hb)
              (try clear hb2)
              (try clear hk)
              (try clear hi)
              refine ⟨rfl, ?_⟩
              show _ ∧ Below _ _ _
              exact ⟨by first | rfl | (simp; done) | (simp [*]; done), bw_ HB⟩
            | ok bt774 =>
              obtain ⟨t774, t775⟩ := bt774
              replace H : (num_total.l0 k1 l0 (l0.length : Int) (wrap64 (x9_1 + 1)) t774 t775) = some (Except.error p_ : Except Int (Int × Int)) := H
              have A12 := Aside0.mk A120
              clear A120
              have H' := Aside0.mk H
              clear H
              have p766 : 0 ≤ (x9_1 : Int) := of_decide_eq_true (by first | (with_reducible assumption) | assumption)
              have q766 : x9_1 < (l0.length : Int) := of_decide_eq_true (by first | (with_reducible assumption) | assumption)
              obtain ⟨ad766, e766, hx766_0, hx766_1⟩ := at_T23 HR0.out x9_1 p766 q766
              cases e766
              replace hx766_0 := (HB.out.cell (World.block_lt_of_cell? w _ hx766_0)).trans hx766_0
              replace hx766_1 := (HB.out.cell (World.block_lt_of_cell? w _ hx766_1)).trans hx766_1
              replace p766 := eq_true p766
              replace q766 := eq_true q766
              try go_wp2_with (first | ((with_reducible refine gate_dst (N := 5) rfl ?_); refine box_event ?hg (N := 5) ?hd (cs := #[.int .i64 0, .int .i64 0]) (t := 23) ?hr ?_; (case hd => rfl); (case hg => rfl); (case hr => first | (go_simp; done) | (go_simp; rfl)); intro gb767 hg w25 hbox hb; have BK767 := Aside0.mk hbox; have GW767 := bwg_ HB hg; have GE767 := bwg_ HB hg; replace HB := bws_ HB hb; have NB764_767 := bkl_ BK764 hg; have NB767_764 := bkr_ BK764 hg; replace BK764 := bkb_ BK764 hb; have NB765_767 := bkl_ BK765 hg; have NB767_765 := bkr_ BK765 hg; replace BK765 := bkb_ BK765 hb; clear hb hbox hg; have hnb26 := NB767_764.out; have hnc26 := NB764_767.out; have hnb27 := NB767_765.out; have hnc27 := NB765_767.out; obtain ⟨hcz28_0, hcz28_1, hfz28_0, hfz28_1⟩ := bc2_ BK767))
              have n0_ : Aside0 (((w25.setCell ⟨gb767, 0, none⟩ (.int .i64 ((rd_T23 l0 x9_1).f0))).setCell ⟨gb767, 1, none⟩ (.int .i64 ((rd_T23 l0 x9_1).f1))).heap[gb764]? = some (.cells #[.int .i64 0, .int .i64 0] 23 (0, 0))) := ⟨by refine bf_ ?_ NB764_767; refine bf_ ?_ NB764_767; exact bk_ BK764⟩
              have n1_ : Aside0 (((w25.setCell ⟨gb767, 0, none⟩ (.int .i64 ((rd_T23 l0 x9_1).f0))).setCell ⟨gb767, 1, none⟩ (.int .i64 ((rd_T23 l0 x9_1).f1))).heap[gb765]? = some (.cells #[.int .i64 x766000_1, .int .i64 x766001_1] 23 (0, 0))) := ⟨by refine bf_ ?_ NB765_767; refine bf_ ?_ NB765_767; exact bk_ BK765⟩
              have n2_ : Aside0 (((w25.setCell ⟨gb767, 0, none⟩ (.int .i64 ((rd_T23 l0 x9_1).f0))).setCell ⟨gb767, 1, none⟩ (.int .i64 ((rd_T23 l0 x9_1).f1))).heap[gb767]? = some (.cells #[.int .i64 ((rd_T23 l0 x9_1).f0), .int .i64 ((rd_T23 l0 x9_1).f1)] 23 (0, 0))) := ⟨by refine bp_ (cs := #[.int .i64 ((rd_T23 l0 x9_1).f0), .int .i64 0]) ?_ 1; refine bp_ (cs := #[.int .i64 0, .int .i64 0]) ?_ 0; exact bk_ BK767⟩
              have n3_ : Aside0 (Below w.heap.size w ((w25.setCell ⟨gb767, 0, none⟩ (.int .i64 ((rd_T23 l0 x9_1).f0))).setCell ⟨gb767, 1, none⟩ (.int .i64 ((rd_T23 l0 x9_1).f1)))) := ⟨bw_ HB⟩
              (try clear BK764)
              (try clear BK765)
              (try clear BK767)
              (try clear HB)
              generalize ((w25.setCell ⟨gb767, 0, none⟩ (.int .i64 ((rd_T23 l0 x9_1).f0))).setCell ⟨gb767, 1, none⟩ (.int .i64 ((rd_T23 l0 x9_1).f1))) = w29 at n0_ n1_ n2_ n3_ ⊢
              have BK764 := n0_
              have BK765 := n1_
              have BK767 := n2_
              have HB := n3_
              clear n0_ n1_ n2_ n3_
              replace BK764 := Aside0.mk (blk_drew BK764.out)
              replace BK765 := Aside0.mk (blk_drew BK765.out)
              replace BK767 := Aside0.mk (blk_drew BK767.out)
              replace HB := Aside0.mk (below_drew1 HB.out)
              refine start_ (n := 7) (S := fun w' => w'.cell? ⟨gb765, 0, none⟩ = some (.int .i64 x766000_1) ∧ w'.cell? ⟨gb765, 1, none⟩ = some (.int .i64 x766001_1) ∧ w'.cell? ⟨gb767, 0, none⟩ = some (.int .i64 ((rd_T23 l0 x9_1).f0)) ∧ w'.cell? ⟨gb767, 1, none⟩ = some (.int .i64 ((rd_T23 l0 x9_1).f1))) (ds := [6]) #[false, false, false, false, false, false, false] (by kernel_rfl) rfl rfl ⟨(blk_cell BK765.out 0).trans rfl, (blk_cell BK765.out 1).trans rfl, (blk_cell BK767.out 0).trans rfl, (blk_cell BK767.out 1).trans rfl⟩ (fun hHeld => ?_)
              generalize w29.drew = w30 at BK764 BK765 BK767 HB hHeld ⊢
              refine take_ (i := 0) (N := some 13) (v := ?_) (a' := ?_) #[true, false, false, false, false, false, false] rfl rfl (by kernel_rfl) (fun _ _ _ h => h) (Or.inl ⟨by rfl, ?_⟩) hHeld ?_ ?_
              rotate_left
              · rintro w' ⟨s0, s1, s2, s3⟩
                go_simp
                with_reducible rfl
              rotate_left
              · simp only [Act.put, List.setIfInBounds_toArray, List.set_cons_zero, List.set_cons_succ, i64_w, i32_w]
                rfl
              refine take_ (i := 2) (N := some 15) (v := ?_) (a' := ?_) #[true, false, true, false, false, false, false] rfl rfl (by kernel_rfl) (fun _ _ _ h => h) (Or.inl ⟨by rfl, ?_⟩) hHeld ?_ ?_
              rotate_left
              · rintro w' ⟨s0, s1, s2, s3⟩
                go_simp
                with_reducible rfl
              rotate_left
              · simp only [Act.put, List.setIfInBounds_toArray, List.set_cons_zero, List.set_cons_succ, i64_w, i32_w]
                rfl
              refine one_ (i := 1) (N := some 14) #[true, true, true, false, false, false, false] rfl rfl (by kernel_rfl) (by decide) (fun K hK => ?_)
              refine gos_ Try.func69 #[.agg #[.int .i64 x766000_1, .int .i64 x766001_1]] ?_
              with_reducible refine (num_of.calls x766000_1 x766001_1 t768 t769 _ A9.out).mono ?_
              rintro e w31 ⟨rfl, hb⟩
              refine ⟨_, rfl, ?_⟩
              replace BK764 := bkb_ BK764 hb
              replace BK765 := bkb_ BK765 hb
              replace BK767 := bkb_ BK767 hb
              replace HB := bws_ HB hb
              (try clear hb)
              (try clear hb2)
              (try clear hk)
              (try clear hi)
              refine hK.out _ _ ⟨(blk_cell BK765.out 0).trans rfl, (blk_cell BK765.out 1).trans rfl, (blk_cell BK767.out 0).trans rfl, (blk_cell BK767.out 1).trans rfl⟩ (fun hHeld => ?_)
              clear hK K
              refine norm_ (a' := ?_) ?_ ?_
              rotate_left
              · show Act.put _ (some 14) _ = _
                simp only [Act.put, List.setIfInBounds_toArray, List.set_cons_zero, List.set_cons_succ, i64_w, i32_w]
                rfl
              refine one_ (i := 3) (N := some 16) #[true, true, true, true, false, false, false] rfl rfl (by kernel_rfl) (by decide) (fun K hK => ?_)
              refine gos_ Try.func69 #[.agg #[.int .i64 ((rd_T23 l0 x9_1).f0), .int .i64 ((rd_T23 l0 x9_1).f1)]] ?_
              with_reducible refine (num_of.calls ((rd_T23 l0 x9_1).f0) ((rd_T23 l0 x9_1).f1) t770 t771 _ A10.out).mono ?_
              rintro e w32 ⟨rfl, hb⟩
              refine ⟨_, rfl, ?_⟩
              replace BK764 := bkb_ BK764 hb
              replace BK765 := bkb_ BK765 hb
              replace BK767 := bkb_ BK767 hb
              replace HB := bws_ HB hb
              (try clear hb)
              (try clear hb2)
              (try clear hk)
              (try clear hi)
              refine hK.out _ _ ⟨(blk_cell BK765.out 0).trans rfl, (blk_cell BK765.out 1).trans rfl, (blk_cell BK767.out 0).trans rfl, (blk_cell BK767.out 1).trans rfl⟩ (fun hHeld => ?_)
              clear hK K
              refine norm_ (a' := ?_) ?_ ?_
              rotate_left
              · show Act.put _ (some 16) _ = _
                simp only [Act.put, List.setIfInBounds_toArray, List.set_cons_zero, List.set_cons_succ, i64_w, i32_w]
                rfl
              refine one_ (i := 4) (N := some 17) #[true, true, true, true, true, false, false] rfl rfl (by kernel_rfl) (by decide) (fun K hK => ?_)
              refine gos_ Try.func118 #[.agg #[.int .i64 t768, .int .i64 t769], .agg #[.int .i64 t770, .int .i64 t771]] ?_
              with_reducible refine (num_ratio_plus.calls t768 t769 t770 t771 t772 t773 _ A11.out).mono ?_
              rintro e w33 ⟨rfl, hb⟩
              refine ⟨_, rfl, ?_⟩
              replace BK764 := bkb_ BK764 hb
              replace BK765 := bkb_ BK765 hb
              replace BK767 := bkb_ BK767 hb
              replace HB := bws_ HB hb
              (try clear hb)
              (try clear hb2)
              (try clear hk)
              (try clear hi)
              refine hK.out _ _ ⟨(blk_cell BK765.out 0).trans rfl, (blk_cell BK765.out 1).trans rfl, (blk_cell BK767.out 0).trans rfl, (blk_cell BK767.out 1).trans rfl⟩ (fun hHeld => ?_)
              clear hK K
              refine norm_ (a' := ?_) ?_ ?_
              rotate_left
              · show Act.put _ (some 17) _ = _
                simp only [Act.put, List.setIfInBounds_toArray, List.set_cons_zero, List.set_cons_succ, i64_w, i32_w]
                rfl
              refine one_ (i := 5) (N := some 18) #[true, true, true, true, true, true, false] rfl rfl (by kernel_rfl) (by decide) (fun K hK => ?_)
              refine gos_ Try.func73 #[.agg #[.int .i64 t772, .int .i64 t773]] ?_
              with_reducible refine (num_ratio_num.calls k1 t772 t773 t774 t775 _ A12.out).mono ?_
              rintro e w34 ⟨rfl, hb⟩
              refine ⟨_, rfl, ?_⟩
              replace BK764 := bkb_ BK764 hb
              replace BK765 := bkb_ BK765 hb
              replace BK767 := bkb_ BK767 hb
              replace HB := bws_ HB hb
              (try clear hb)
              (try clear hb2)
              (try clear hk)
              (try clear hi)
              refine hK.out _ _ ⟨(blk_cell BK765.out 0).trans rfl, (blk_cell BK765.out 1).trans rfl, (blk_cell BK767.out 0).trans rfl, (blk_cell BK767.out 1).trans rfl⟩ (fun hHeld => ?_)
              clear hK K
              refine norm_ (a' := ?_) ?_ ?_
              rotate_left
              · show Act.put _ (some 18) _ = _
                simp only [Act.put, List.setIfInBounds_toArray, List.set_cons_zero, List.set_cons_succ, i64_w, i32_w]
                rfl
              refine last_ (i := 6) (N := none) #[true, true, true, true, true, true, true] rfl rfl (by kernel_rfl) (by decide) (fun K hK => ?_)
              have hs35 : w34.cell? ⟨gb765, 0, none⟩ = some (.int .i64 x766000_1) := (blk_cell BK765.out 0).trans rfl
              have hfs35 := blk_frozen BK765.out 0
              have hns35_0 := NB764_765.out
              have hns35_2 := NB767_765.out
              have hms35_0 := NB765_764.out
              have hms35_2 := NB765_767.out
              have hs36 : w34.cell? ⟨gb765, 1, none⟩ = some (.int .i64 x766001_1) := (blk_cell BK765.out 1).trans rfl
              have hfs36 := blk_frozen BK765.out 1
              have hns36_0 := NB764_765.out
              have hns36_2 := NB767_765.out
              have hms36_0 := NB765_764.out
              have hms36_2 := NB765_767.out
              refine skip_ (w1 := ?_) (by rfl) rfl ?_ ?_
              rotate_left
              · go_simp
                rfl
              refine hK.out _ _ ?_
              clear hK K
              refine done_ (by kernel_rfl) ?_
              try go_wp2
              go_roundg k1
              case measure => have := HK1.out; omega
              case rel => exact ⟨(wrap64 (x9_1 + 1)), (t774), (t775), (by first | rfl | (simp; done) | (simp [*]; done)), H', ⟨by have := HK1.out; omega⟩, ⟨by refine bf_ ?_ NB764_765; refine bf_ ?_ NB764_765; exact bk_ BK764⟩, ⟨by refine bp_ (cs := #[.int .i64 t774, .int .i64 x766001_1]) ?_ 1; refine bp_ (cs := #[.int .i64 x766000_1, .int .i64 x766001_1]) ?_ 0; exact bk_ BK765⟩, ⟨bw_ HB⟩⟩
          · rw [if_neg c8] at H
            exact absurd H (by simp)
        · rw [if_neg c7] at H
          exact absurd H (by simp)
      · rw [if_neg c6] at H
        have c6b0 : decide (x9_1 < (l0.length : Int)) = false := decide_eq_false c6
        clear c6
        exact absurd H (by simp)
/-! ### num_Sum: function 56 -/
def num_Sum.f (k : Nat) (l0 : List (S23)) : Option (Int × Int × Int) := (num_checked.f k l0).bind fun t779 => (if t779 = 0 then ((num_total.f k l0).bind fun tz_ => exc tz_ (fun tp782 => (some (0, 0, 8))) (fun bt780 => (some (bt780.1, bt780.2, 0)))) else (some (0, 0, t779)))
theorem num_Sum.mono : ∀ a0 k, LeO (num_Sum.f k a0) (num_Sum.f (k + 1) a0) := by
  intro a0 k
  unfold num_Sum.f
  repeat' first
      | (with_reducible exact num_checked.mono _ _)
      | (with_reducible exact num_total.mono _ _)
      | (with_reducible exact LeO.refl _)
      | (with_reducible exact LeO.none _)
      | (with_reducible refine LeO.ite ?_ ?_)
      | (with_reducible refine LeO.bind ?_ (fun _ => ?_))
      | (with_reducible refine LeO.exc (fun _ => ?_) (fun _ => ?_))
      | exact num_checked.mono _ _
      | exact num_total.mono _ _
      | exact LeO.none _
      | refine LeO.ite ?_ ?_
      | refine LeO.bind ?_ (fun _ => ?_)
set_option maxHeartbeats 8000000 in
set_option maxRecDepth 100000 in
theorem num_Sum.calls (k : Nat) (A0 : Option Addr) (c0 : Nat) (l0 : List (S23)) (r1 : Int) (r2 : Int) (r3 : Int) (w : World) (hr0 : Kd.C k23 w A0 l0.length l0) (hc0 : l0.length ≤ c0) (h : num_Sum.f k l0 = some (r1, r2, r3)) :
    Calls Try.prog 56 #[.slice A0 l0.length c0] w fun e w' => e = .returned (.tuple #[.agg #[.int .i64 r1, .int .i64 r2], .int .i64 r3]) ∧ Below w.heap.size w w' := by
  have hu23 := Try.underlying23
  have HR0 := Aside0.mk hr0
  have HC0 := Aside0.mk hc0
  clear hr0 hc0
  have HB := Aside0.mk (Below.refl w.heap.size w)
  have H : ((num_checked.f k l0).bind fun t779 => (if t779 = 0 then ((num_total.f k l0).bind fun tz_ => exc tz_ (fun tp782 => (some (0, 0, 8))) (fun bt780 => (some (bt780.1, bt780.2, 0)))) else (some (0, 0, t779)))) = some (r1, r2, r3) := h
  clear h
  replace H := Option.bind_eq_some_iff.mp H
  obtain ⟨t779, A20, H⟩ := H
  replace H : (if t779 = 0 then ((num_total.f k l0).bind fun tz_ => exc tz_ (fun tp782 => (some (0, 0, 8))) (fun bt780 => (some (bt780.1, bt780.2, 0)))) else (some (0, 0, t779))) = some (r1, r2, r3) := H
  have A2 := Aside0.mk A20
  clear A20
  by_cases c3 : t779 = 0
  · rw [if_pos c3] at H
    have c3b0 : (t779 == 0) = true := beq_iff_eq.mpr c3
    have c3b1 : (t779 != 0) = false := bne_eq_false_iff_eq.mpr c3
    clear c3
    replace H := Option.bind_eq_some_iff.mp H
    obtain ⟨tz_, A40, H⟩ := H
    cases tz_ with
    | error tp782 =>
      replace H : (some (0, 0, 8)) = some (r1, r2, r3) := H
      have A4 := Aside0.mk A40
      clear A40
      simp only [Option.some.injEq, Prod.mk.injEq] at H
      obtain ⟨rfl, rfl, rfl⟩ := H
      go_enter_defers Try.func56, Try.ntmps56
      go_wp2_with (first | ((with_reducible refine gate_dst (N := 2) rfl ?_); refine box_event ?hg (N := 2) ?hd (cs := #[.int .i64 0, .int .i64 0]) (t := 23) ?hr ?_; (case hd => rfl); (case hg => rfl); (case hr => first | (go_simp; done) | (go_simp; rfl)); intro gb777 hg w5 hbox hb; have BK777 := Aside0.mk hbox; have GW777 := bwg_ HB hg; have GE777 := bwg_ HB hg; replace HB := bws_ HB hb; clear hb hbox hg) | ((with_reducible refine gate_dst (N := 3) rfl ?_); refine box_event ?hg (N := 3) ?hd (cs := #[.int .i64 0]) (t := 26) ?hr ?_; (case hd => rfl); (case hg => rfl); (case hr => first | (go_simp; done) | (go_simp; rfl)); intro gb778 hg w6 hbox hb; have BK778 := Aside0.mk hbox; have GW778 := bwg_ HB hg; have GE778 := bwg_ HB hg; replace HB := bws_ HB hb; have NB777_778 := bkl_ BK777 hg; have NB778_777 := bkr_ BK777 hg; replace BK777 := bkb_ BK777 hb; clear hb hbox hg) | ((with_reducible refine gate_callee (f := 68) rfl ?_); refine gla_ (some 6) Try.func68 #[.slice A0 l0.length c0] ?_; (with_reducible refine (num_checked.calls k _ _ l0 t779 _ ?side1 ?side2 A2.out).mono ?_); (case side1 => repeat (first | exact (Kd.C_below HR0.out HB.out) | (with_reducible refine Kd.C_alloc ?_ _) | (with_reducible refine Kd.C_drewN ?_ _) | (with_reducible refine Kd.C_drew ?_))); (case side2 => exact HC0.out); rintro e w7 ⟨rfl, hb⟩; refine ⟨_, rfl, ?_⟩; replace BK777 := bkb_ BK777 hb; replace BK778 := bkb_ BK778 hb; replace HB := bws_ HB hb; (try clear hb); (try clear hb2); (try clear hk); (try clear hi)) | (go_at_call 99; (with_reducible refine (num_total.throws k _ _ l0 tp782 _ ?side1 ?side2 A4.out).mono ?_); (case side1 => repeat (first | exact (Kd.C_below HR0.out HB.out) | (with_reducible refine Kd.C_alloc ?_ _) | (with_reducible refine Kd.C_drewN ?_ _) | (with_reducible refine Kd.C_drew ?_))); (case side2 => exact HC0.out); rintro e w8 ⟨rfl, hb⟩; replace BK777 := bkb_ BK777 hb; replace BK778 := bkb_ BK778 hb; replace HB := bws_ HB hb; (try clear hb); (try clear hb2); (try clear hk); (try clear hi)))
      show Leaves _ _ _ _ _ _ _
      exact num_catch.door_caught rfl _ _ _ gb777 gb778 _ _ _ rfl rfl (bk_ BK777) (bk_ BK778) NB777_778.out (bw_ HB) GE777.out GE778.out
    | ok bt780 =>
      obtain ⟨t780, t781⟩ := bt780
      replace H : (some (t780, t781, 0)) = some (r1, r2, r3) := H
      have A4 := Aside0.mk A40
      clear A40
      simp only [Option.some.injEq, Prod.mk.injEq] at H
      obtain ⟨rfl, rfl, rfl⟩ := H
      go_enter_defers Try.func56, Try.ntmps56
      go_wp2_with (first | ((with_reducible refine gate_dst (N := 2) rfl ?_); refine box_event ?hg (N := 2) ?hd (cs := #[.int .i64 0, .int .i64 0]) (t := 23) ?hr ?_; (case hd => rfl); (case hg => rfl); (case hr => first | (go_simp; done) | (go_simp; rfl)); intro gb777 hg w9 hbox hb; have BK777 := Aside0.mk hbox; have GW777 := bwg_ HB hg; have GE777 := bwg_ HB hg; replace HB := bws_ HB hb; clear hb hbox hg) | ((with_reducible refine gate_dst (N := 3) rfl ?_); refine box_event ?hg (N := 3) ?hd (cs := #[.int .i64 0]) (t := 26) ?hr ?_; (case hd => rfl); (case hg => rfl); (case hr => first | (go_simp; done) | (go_simp; rfl)); intro gb778 hg w10 hbox hb; have BK778 := Aside0.mk hbox; have GW778 := bwg_ HB hg; have GE778 := bwg_ HB hg; replace HB := bws_ HB hb; have NB777_778 := bkl_ BK777 hg; have NB778_777 := bkr_ BK777 hg; replace BK777 := bkb_ BK777 hb; clear hb hbox hg) | ((with_reducible refine gate_callee (f := 68) rfl ?_); refine gla_ (some 6) Try.func68 #[.slice A0 l0.length c0] ?_; (with_reducible refine (num_checked.calls k _ _ l0 t779 _ ?side1 ?side2 A2.out).mono ?_); (case side1 => repeat (first | exact (Kd.C_below HR0.out HB.out) | (with_reducible refine Kd.C_alloc ?_ _) | (with_reducible refine Kd.C_drewN ?_ _) | (with_reducible refine Kd.C_drew ?_))); (case side2 => exact HC0.out); rintro e w11 ⟨rfl, hb⟩; refine ⟨_, rfl, ?_⟩; replace BK777 := bkb_ BK777 hb; replace BK778 := bkb_ BK778 hb; replace HB := bws_ HB hb; (try clear hb); (try clear hb2); (try clear hk); (try clear hi)) | ((with_reducible refine gate_callee (f := 99) rfl ?_); refine gla_ (some 12) Try.func99 #[.slice A0 l0.length c0] ?_; (with_reducible refine (num_total.calls k _ _ l0 t780 t781 _ ?side1 ?side2 A4.out).mono ?_); (case side1 => repeat (first | exact (Kd.C_below HR0.out HB.out) | (with_reducible refine Kd.C_alloc ?_ _) | (with_reducible refine Kd.C_drewN ?_ _) | (with_reducible refine Kd.C_drew ?_))); (case side2 => exact HC0.out); rintro e w12 ⟨rfl, hb⟩; refine ⟨_, rfl, ?_⟩; replace BK777 := bkb_ BK777 hb; replace BK778 := bkb_ BK778 hb; replace HB := bws_ HB hb; (try clear hb); (try clear hb2); (try clear hk); (try clear hi); have hnb13 := NB777_778.out; have hnc13 := NB778_777.out; obtain ⟨hcz14_0, hcz14_1, hfz14_0, hfz14_1⟩ := bc2_ BK777; obtain ⟨hcz15_0, hfz15_0⟩ := bc1_ BK778))
      show Leaves _ _ _ _ _ _ _
      exact num_catch.door_ok rfl _ _ _ gb777 gb778 _ _ _ rfl rfl (by refine bf_ ?_ NB777_778; refine bp_ (cs := #[.int .i64 t780, .int .i64 0]) ?_ 1; refine bp_ (cs := #[.int .i64 0, .int .i64 0]) ?_ 0; exact bk_ BK777) (by refine bp_ (cs := #[.int .i64 0]) ?_ 0; refine bf_ ?_ NB778_777; refine bf_ ?_ NB778_777; exact bk_ BK778) (bw_ HB)
  · rw [if_neg c3] at H
    have c3b0 : (t779 == 0) = false := beq_eq_false_iff_ne.mpr c3
    have c3b1 : (t779 != 0) = true := bne_iff_ne.mpr c3
    simp only [Option.some.injEq, Prod.mk.injEq] at H
    obtain ⟨rfl, rfl, rfl⟩ := H
    go_enter_defers Try.func56, Try.ntmps56
    go_wp2_with (first | ((with_reducible refine gate_dst (N := 2) rfl ?_); refine box_event ?hg (N := 2) ?hd (cs := #[.int .i64 0, .int .i64 0]) (t := 23) ?hr ?_; (case hd => rfl); (case hg => rfl); (case hr => first | (go_simp; done) | (go_simp; rfl)); intro gb777 hg w16 hbox hb; have BK777 := Aside0.mk hbox; have GW777 := bwg_ HB hg; have GE777 := bwg_ HB hg; replace HB := bws_ HB hb; clear hb hbox hg) | ((with_reducible refine gate_dst (N := 3) rfl ?_); refine box_event ?hg (N := 3) ?hd (cs := #[.int .i64 0]) (t := 26) ?hr ?_; (case hd => rfl); (case hg => rfl); (case hr => first | (go_simp; done) | (go_simp; rfl)); intro gb778 hg w17 hbox hb; have BK778 := Aside0.mk hbox; have GW778 := bwg_ HB hg; have GE778 := bwg_ HB hg; replace HB := bws_ HB hb; have NB777_778 := bkl_ BK777 hg; have NB778_777 := bkr_ BK777 hg; replace BK777 := bkb_ BK777 hb; clear hb hbox hg) | ((with_reducible refine gate_callee (f := 68) rfl ?_); refine gla_ (some 6) Try.func68 #[.slice A0 l0.length c0] ?_; (with_reducible refine (num_checked.calls k _ _ l0 t779 _ ?side1 ?side2 A2.out).mono ?_); (case side1 => repeat (first | exact (Kd.C_below HR0.out HB.out) | (with_reducible refine Kd.C_alloc ?_ _) | (with_reducible refine Kd.C_drewN ?_ _) | (with_reducible refine Kd.C_drew ?_))); (case side2 => exact HC0.out); rintro e w18 ⟨rfl, hb⟩; refine ⟨_, rfl, ?_⟩; replace BK777 := bkb_ BK777 hb; replace BK778 := bkb_ BK778 hb; replace HB := bws_ HB hb; (try clear hb); (try clear hb2); (try clear hk); (try clear hi); have hnb19 := NB777_778.out; have hnc19 := NB778_777.out; obtain ⟨hcz20_0, hcz20_1, hfz20_0, hfz20_1⟩ := bc2_ BK777; obtain ⟨hcz21_0, hfz21_0⟩ := bc1_ BK778))
    show Leaves _ _ _ _ _ _ _
    exact num_catch.door_ret rfl _ _ _ gb777 gb778 _ _ _ rfl rfl (by refine bf_ ?_ NB777_778; refine bp_ (cs := #[.int .i64 0, .int .i64 0]) ?_ 1; refine bp_ (cs := #[.int .i64 0, .int .i64 0]) ?_ 0; exact bk_ BK777) (by refine bp_ (cs := #[.int .i64 0]) ?_ 0; refine bf_ ?_ NB778_777; refine bf_ ?_ NB778_777; exact bk_ BK778) (bw_ HB)
/-! ### withyref01_Int: function 100 -/
def withyref01_Int.f (a0 : Int) : Option (Int × Int) := some (a0, 1)
set_option maxHeartbeats 8000000 in
set_option maxRecDepth 100000 in
theorem withyref01_Int.calls (a0 : Int) (r1 : Int) (r2 : Int) (w : World) (h : withyref01_Int.f a0 = some (r1, r2)) :
    Calls Try.prog 100 #[.int .i64 a0] w fun e w' => e = .returned (.agg #[.int .i64 r1, .int .i64 r2]) ∧ Below w.heap.size w w' := by
  have hu23 := Try.underlying23
  have HB := Aside0.mk (Below.refl w.heap.size w)
  have H : (some (a0, 1)) = some (r1, r2) := h
  clear h
  simp only [Option.some.injEq, Prod.mk.injEq] at H
  obtain ⟨rfl, rfl⟩ := H
  go_enter Try.func100, Try.ntmps100
  go_wp2_with (first | ((with_reducible refine gate_dst (N := 2) rfl ?_); refine box_event ?hg (N := 2) ?hd (cs := #[.int .i64 0, .int .i64 0]) (t := 23) ?hr ?_; (case hd => rfl); (case hg => rfl); (case hr => first | (go_simp; done) | (go_simp; rfl)); intro gb783 hg w2 hbox hb; have BK783 := Aside0.mk hbox; have GW783 := bwg_ HB hg; have GE783 := bwg_ HB hg; replace HB := bws_ HB hb; clear hb hbox hg; obtain ⟨hcz3_0, hcz3_1, hfz3_0, hfz3_1⟩ := bc2_ BK783))
  refine bodyPost_ret (results_cell_row rfl _ _ gb783 23 #[.int .i64 a0, .int .i64 1] (0, 0) _ rfl (by refine bp_ (cs := #[.int .i64 a0, .int .i64 0]) ?_ 1; refine bp_ (cs := #[.int .i64 0, .int .i64 0]) ?_ 0; exact bk_ BK783) Try.underlying23 rfl (by kernel_rfl)) rfl ?_
  exact ⟨by first | rfl | (simp [*] <;> rfl), bw_ HB⟩
/-! ### withyref01_Sum: function 57 -/
mutual
def withyref01_Sum.l0 : Nat → List (S23) → Int → Option (Int × Int × Int)
  | 0, _, _ => none
  | k + 1, x0, x4 => if x4 < (x0.length : Int) then (if 0 ≤ x4 then ((withyref01_Check.f k ((rd_T23 x0 x4).f0) ((rd_T23 x0 x4).f1)).bind fun t786 => (if t786 = 0 then (withyref01_Sum.l0 k x0 (wrap64 (x4 + 1))) else (some (0, 0, t786)))) else (none)) else ((withyref01_Int.f 0).bind fun bt787 => (withyref01_Sum.l1 k x0 0 bt787.1 bt787.2))
def withyref01_Sum.l1 : Nat → List (S23) → Int → Int → Int → Option (Int × Int × Int)
  | 0, _, _, _, _ => none
  | k + 1, x0, x7, x790000, x790001 => if x7 < (x0.length : Int) then (if 0 ≤ x7 then ((withyref01_Add.f k x790000 x790001 ((rd_T23 x0 x7).f0) ((rd_T23 x0 x7).f1)).bind fun bt791 => (if bt791.2.2 = 0 then (withyref01_Sum.l1 k x0 (wrap64 (x7 + 1)) bt791.1 bt791.2.1) else (some (0, 0, bt791.2.2)))) else (none)) else (some (x790000, x790001, 0))
end
def withyref01_Sum.f (k : Nat) (l0 : List (S23)) : Option (Int × Int × Int) := withyref01_Sum.l0 k l0 0
theorem withyref01_Sum.mono_l : ∀ k, (∀ y0 y1, LeO (withyref01_Sum.l0 k y0 y1) (withyref01_Sum.l0 (k + 1) y0 y1)) ∧ (∀ y0 y1 y2 y3, LeO (withyref01_Sum.l1 k y0 y1 y2 y3) (withyref01_Sum.l1 (k + 1) y0 y1 y2 y3))
  | 0 => ⟨fun _ _ r h => by simp [withyref01_Sum.l0] at h, fun _ _ _ _ r h => by simp [withyref01_Sum.l1] at h⟩
  | k + 1 => by
    obtain ⟨ih0, ih1⟩ := withyref01_Sum.mono_l k
    refine ⟨?_, ?_⟩
    · intro y0 y1
      unfold withyref01_Sum.l0
      repeat' first
      | (with_reducible exact ih0 _ _)
      | (with_reducible exact ih1 _ _ _ _)
      | (with_reducible exact withyref01_Add.mono _ _ _ _ _)
      | (with_reducible exact withyref01_Check.mono _ _ _)
      | (with_reducible exact LeO.refl _)
      | (with_reducible exact LeO.none _)
      | (with_reducible refine LeO.ite ?_ ?_)
      | (with_reducible refine LeO.bind ?_ (fun _ => ?_))
      | (with_reducible refine LeO.exc (fun _ => ?_) (fun _ => ?_))
      | exact ih0 _ _
      | exact ih1 _ _ _ _
      | exact withyref01_Add.mono _ _ _ _ _
      | exact withyref01_Check.mono _ _ _
      | exact LeO.none _
      | refine LeO.ite ?_ ?_
      | refine LeO.bind ?_ (fun _ => ?_)
    · intro y0 y1 y2 y3
      unfold withyref01_Sum.l1
      repeat' first
      | (with_reducible exact ih0 _ _)
      | (with_reducible exact ih1 _ _ _ _)
      | (with_reducible exact withyref01_Add.mono _ _ _ _ _)
      | (with_reducible exact withyref01_Check.mono _ _ _)
      | (with_reducible exact LeO.refl _)
      | (with_reducible exact LeO.none _)
      | (with_reducible refine LeO.ite ?_ ?_)
      | (with_reducible refine LeO.bind ?_ (fun _ => ?_))
      | (with_reducible refine LeO.exc (fun _ => ?_) (fun _ => ?_))
      | exact ih0 _ _
      | exact ih1 _ _ _ _
      | exact withyref01_Add.mono _ _ _ _ _
      | exact withyref01_Check.mono _ _ _
      | exact LeO.none _
      | refine LeO.ite ?_ ?_
      | refine LeO.bind ?_ (fun _ => ?_)
theorem withyref01_Sum.mono : ∀ a0 k, LeO (withyref01_Sum.f k a0) (withyref01_Sum.f (k + 1) a0) := by
  intro a0 k
  obtain ⟨ih0, ih1⟩ := withyref01_Sum.mono_l k
  unfold withyref01_Sum.f
  repeat' first
      | (with_reducible exact ih0 _ _)
      | (with_reducible exact ih1 _ _ _ _)
      | (with_reducible exact withyref01_Add.mono _ _ _ _ _)
      | (with_reducible exact withyref01_Check.mono _ _ _)
      | (with_reducible exact LeO.refl _)
      | (with_reducible exact LeO.none _)
      | (with_reducible refine LeO.ite ?_ ?_)
      | (with_reducible refine LeO.bind ?_ (fun _ => ?_))
      | (with_reducible refine LeO.exc (fun _ => ?_) (fun _ => ?_))
      | exact ih0 _ _
      | exact ih1 _ _ _ _
      | exact withyref01_Add.mono _ _ _ _ _
      | exact withyref01_Check.mono _ _ _
      | exact LeO.none _
      | refine LeO.ite ?_ ?_
      | refine LeO.bind ?_ (fun _ => ?_)
def withyref01_Sum.T11 : Bool × List (List Nat × List Nat) := (true, [([], []), ([], []), ([], []), ([1, 2], [1, 2]), ([3], [3]), ([0, 4], [0, 4]), ([5], [5]), ([6], [6]), ([6], [6]), ([], []), ([9, 7, 5, 0, 1, 2, 3, 4, 5, 6, 7, 9], [7, 9]), ([8, 10, 0, 1, 2, 3, 4, 5, 6, 7, 8, 9, 10], [8])])
def withyref01_Sum.B11 : List Nat := [0, 0, 0, 6, 14, 31, 63, 127, 127, 0, 767, 2047]
theorem withyref01_Sum.tab11 : rtab .any (opsOf Try.f57 11) = withyref01_Sum.T11 := by kernel_rfl
theorem withyref01_Sum.bits11 : waitsOk withyref01_Sum.T11.2 withyref01_Sum.B11 = true := by kernel_rfl
set_option maxHeartbeats 8000000 in
set_option maxRecDepth 100000 in
theorem withyref01_Sum.calls (k : Nat) (A0 : Option Addr) (c0 : Nat) (l0 : List (S23)) (r1 : Int) (r2 : Int) (r3 : Int) (w : World) (hr0 : Kd.C k23 w A0 l0.length l0) (hc0 : l0.length ≤ c0) (h : withyref01_Sum.f k l0 = some (r1, r2, r3)) :
    Calls Try.prog 57 #[.slice A0 l0.length c0] w fun e w' => e = .returned (.tuple #[.agg #[.int .i64 r1, .int .i64 r2], .int .i64 r3]) ∧ Below w.heap.size w w' := by
  have hu23 := Try.underlying23
  have HR0 := Aside0.mk hr0
  have HC0 := Aside0.mk hc0
  clear hr0 hc0
  have HB := Aside0.mk (Below.refl w.heap.size w)
  have H : (withyref01_Sum.l0 k l0 0) = some (r1, r2, r3) := h
  clear h
  have H' := Aside0.mk H
  clear H
  go_enter Try.func57, Try.ntmps57
  go_wp2_with (first | ((with_reducible refine gate_dst (N := 2) rfl ?_); refine box_event ?hg (N := 2) ?hd (cs := #[.int .i64 0, .int .i64 0]) (t := 23) ?hr ?_; (case hd => rfl); (case hg => rfl); (case hr => first | (go_simp; done) | (go_simp; rfl)); intro gb784 hg w2 hbox hb; have BK784 := Aside0.mk hbox; have GW784 := bwg_ HB hg; have GE784 := bwg_ HB hg; replace HB := bws_ HB hb; clear hb hbox hg))
  go_loopg [4] k (fun kq v4 w' => ∃ (x4_1 : Int) (x785000_1 : Int) (x785001_1 : Int), v4 = .int .i64 x4_1 ∧ Aside0 (withyref01_Sum.l0 kq l0 x4_1 = some (r1, r2, r3)) ∧ Aside0 (kq ≤ k) ∧ Aside0 (w'.heap[gb784]? = some (.cells #[.int .i64 x785000_1, .int .i64 x785001_1] 23 (0, 0))) ∧ Aside0 (Below w.heap.size w w'))
  case atStart => exact ⟨(0), (0), (0), (by first | rfl | (simp; done) | (simp [*]; done)), H', ⟨Nat.le_refl _⟩, ⟨by exact bk_ BK784⟩, ⟨bw_ HB⟩⟩
  case round =>
    clear H'
    try clear p2
    obtain ⟨x4_1, x785000_1, x785001_1, rfl, HA, HK1, BK784, HB⟩ := hrel
    cases gk with
    | zero => exact absurd HA.out (by simp [withyref01_Sum.l0])
    | succ k1 =>
      have H := HA.out
      clear HA
      simp only [withyref01_Sum.l0] at H
      by_cases c3 : x4_1 < (l0.length : Int)
      · rw [if_pos c3] at H
        have c3b0 : decide (x4_1 < (l0.length : Int)) = true := decide_eq_true c3
        clear c3
        by_cases c4 : 0 ≤ x4_1
        · rw [if_pos c4] at H
          have c4b0 : decide (0 ≤ x4_1) = true := decide_eq_true c4
          clear c4
          replace H := Option.bind_eq_some_iff.mp H
          obtain ⟨t786, A50, H⟩ := H
          replace H : (if t786 = 0 then (withyref01_Sum.l0 k1 l0 (wrap64 (x4_1 + 1))) else (some (0, 0, t786))) = some (r1, r2, r3) := H
          have A5 := Aside0.mk A50
          clear A50
          by_cases c6 : t786 = 0
          · rw [if_pos c6] at H
            have c6b0 : (t786 == 0) = true := beq_iff_eq.mpr c6
            have c6b1 : (t786 != 0) = false := bne_eq_false_iff_eq.mpr c6
            clear c6
            have H' := Aside0.mk H
            clear H
            have p785 : 0 ≤ (x4_1 : Int) := of_decide_eq_true (by first | (with_reducible assumption) | assumption)
            have q785 : x4_1 < (l0.length : Int) := of_decide_eq_true (by first | (with_reducible assumption) | assumption)
            obtain ⟨ad785, e785, hx785_0, hx785_1⟩ := at_T23 HR0.out x4_1 p785 q785
            cases e785
            replace hx785_0 := (HB.out.cell (World.block_lt_of_cell? w _ hx785_0)).trans hx785_0
            replace hx785_1 := (HB.out.cell (World.block_lt_of_cell? w _ hx785_1)).trans hx785_1
            replace p785 := eq_true p785
            replace q785 := eq_true q785
            go_wp2_with (first | ((with_reducible refine gate_callee (f := 41) rfl ?_); refine gla_ (some 20) Try.func41 #[.agg #[.int .i64 ((rd_T23 l0 x4_1).f0), .int .i64 ((rd_T23 l0 x4_1).f1)]] ?_; (with_reducible refine (withyref01_Check.calls k1 ((rd_T23 l0 x4_1).f0) ((rd_T23 l0 x4_1).f1) t786 _ A5.out).mono ?_); rintro e w7 ⟨rfl, hb⟩; refine ⟨_, rfl, ?_⟩; replace BK784 := bkb_ BK784 hb; replace HB := bws_ HB hb; (try clear hb); (try clear hb2); (try clear hk); (try clear hi)))
            go_roundg k1
            case measure => have := HK1.out; omega
            case rel => exact ⟨(wrap64 (x4_1 + 1)), (x785000_1), (x785001_1), (by first | rfl | (simp; done) | (simp [*]; done)), H', ⟨by have := HK1.out; omega⟩, ⟨by exact bk_ BK784⟩, ⟨bw_ HB⟩⟩
          · rw [if_neg c6] at H
            have c6b0 : (t786 == 0) = false := beq_eq_false_iff_ne.mpr c6
            have c6b1 : (t786 != 0) = true := bne_iff_ne.mpr c6
            simp only [Option.some.injEq, Prod.mk.injEq] at H
            obtain ⟨rfl, rfl, rfl⟩ := H
            have p785 : 0 ≤ (x4_1 : Int) := of_decide_eq_true (by first | (with_reducible assumption) | assumption)
            have q785 : x4_1 < (l0.length : Int) := of_decide_eq_true (by first | (with_reducible assumption) | assumption)
            obtain ⟨ad785, e785, hx785_0, hx785_1⟩ := at_T23 HR0.out x4_1 p785 q785
            cases e785
            replace hx785_0 := (HB.out.cell (World.block_lt_of_cell? w _ hx785_0)).trans hx785_0
            replace hx785_1 := (HB.out.cell (World.block_lt_of_cell? w _ hx785_1)).trans hx785_1
            replace p785 := eq_true p785
            replace q785 := eq_true q785
            go_wp2_with (first | ((with_reducible refine gate_callee (f := 41) rfl ?_); refine gla_ (some 20) Try.func41 #[.agg #[.int .i64 ((rd_T23 l0 x4_1).f0), .int .i64 ((rd_T23 l0 x4_1).f1)]] ?_; (with_reducible refine (withyref01_Check.calls k1 ((rd_T23 l0 x4_1).f0) ((rd_T23 l0 x4_1).f1) t786 _ A5.out).mono ?_); rintro e w8 ⟨rfl, hb⟩; refine ⟨_, rfl, ?_⟩; replace BK784 := bkb_ BK784 hb; replace HB := bws_ HB hb; (try clear hb); (try clear hb2); (try clear hk); (try clear hi); obtain ⟨hcz9_0, hcz9_1, hfz9_0, hfz9_1⟩ := bc2_ BK784))
            refine bodyPost_ret (results_ct rfl _ _ gb784 23 #[.int .i64 0, .int .i64 0] (0, 0) _ rfl (by refine bp_ (cs := #[.int .i64 0, .int .i64 x785001_1]) ?_ 1; refine bp_ (cs := #[.int .i64 x785000_1, .int .i64 x785001_1]) ?_ 0; exact bk_ BK784) Try.underlying23 rfl (by kernel_rfl)) rfl ?_
            exact ⟨by first | rfl | (simp [*] <;> rfl), bw_ HB⟩
        · rw [if_neg c4] at H
          exact absurd H (by simp)
      · rw [if_neg c3] at H
        have c3b0 : decide (x4_1 < (l0.length : Int)) = false := decide_eq_false c3
        clear c3
        replace H := Option.bind_eq_some_iff.mp H
        obtain ⟨⟨t787, t788⟩, A100, H⟩ := H
        replace H : (withyref01_Sum.l1 k1 l0 0 t787 t788) = some (r1, r2, r3) := H
        have A10 := Aside0.mk A100
        clear A100
        have H' := Aside0.mk H
        clear H
        go_wp2_with (first | ((with_reducible refine gate_callee (f := 100) rfl ?_); refine gla_ (some 25) Try.func100 #[.int .i64 0] ?_; (with_reducible refine (withyref01_Int.calls 0 t787 t788 _ A10.out).mono ?_); rintro e w11 ⟨rfl, hb⟩; refine ⟨_, rfl, ?_⟩; replace BK784 := bkb_ BK784 hb; replace HB := bws_ HB hb; (try clear hb); (try clear hb2); (try clear hk); (try clear hi)) | ((with_reducible refine gate_dst (N := 6) rfl ?_); refine box_event ?hg (N := 6) ?hd (cs := #[.int .i64 0, .int .i64 0]) (t := 23) ?hr ?_; (case hd => rfl); (case hg => rfl); (case hr => first | (go_simp; done) | (go_simp; rfl)); intro gb789 hg w12 hbox hb; have BK789 := Aside0.mk hbox; have GW789 := bwg_ HB hg; have GE789 := bwg_ HB hg; replace HB := bws_ HB hb; have NB784_789 := bkl_ BK784 hg; have NB789_784 := bkr_ BK784 hg; replace BK784 := bkb_ BK784 hb; clear hb hbox hg; have hnb13 := NB789_784.out; have hnc13 := NB784_789.out; obtain ⟨hcz14_0, hcz14_1, hfz14_0, hfz14_1⟩ := bc2_ BK789))
        go_loopg [7] k1 (fun kq v7 w' => ∃ (x7_2 : Int) (x785000_2 : Int) (x785001_2 : Int) (x790000_2 : Int) (x790001_2 : Int), v7 = .int .i64 x7_2 ∧ Aside0 (withyref01_Sum.l1 kq l0 x7_2 x790000_2 x790001_2 = some (r1, r2, r3)) ∧ Aside0 (kq ≤ k1) ∧ Aside0 (w'.heap[gb784]? = some (.cells #[.int .i64 x785000_2, .int .i64 x785001_2] 23 (0, 0))) ∧ Aside0 (w'.heap[gb789]? = some (.cells #[.int .i64 x790000_2, .int .i64 x790001_2] 23 (0, 0))) ∧ Aside0 (Below w.heap.size w w'))
        case atStart => exact ⟨(0), (x785000_1), (x785001_1), (t787), (t788), (by first | rfl | (simp; done) | (simp [*]; done)), H', ⟨Nat.le_refl _⟩, ⟨by refine bf_ ?_ NB784_789; refine bf_ ?_ NB784_789; exact bk_ BK784⟩, ⟨by refine bp_ (cs := #[.int .i64 t787, .int .i64 0]) ?_ 1; refine bp_ (cs := #[.int .i64 0, .int .i64 0]) ?_ 0; exact bk_ BK789⟩, ⟨bw_ HB⟩⟩
        case round =>
          clear H'
          try clear c1
          try clear p2
          try clear c3
          try clear c3b0
          try clear c4
          try clear c4b0
          try clear c5
          try clear c6
          try clear c6b0
          try clear c6b1
          try clear p6
          try clear p7
          try clear q7
          try clear hx7
          try clear c10
          try clear c13
          try clear hcz14_0
          try clear hcz14_1
          try clear hcz9_0
          try clear hcz9_1
          try clear hfz14_0
          try clear hfz14_1
          try clear hfz9_0
          try clear hfz9_1
          try clear hx785_0
          try clear hx785_1
          try clear p2
          try clear p785
          try clear q785
          obtain ⟨x7_2, x785000_2, x785001_2, x790000_2, x790001_2, rfl, HA, HK2, BK784, BK789, HB⟩ := hrel
          cases gk with
          | zero => exact absurd HA.out (by simp [withyref01_Sum.l1])
          | succ k2 =>
            have H := HA.out
            clear HA
            simp only [withyref01_Sum.l1] at H
            by_cases c15 : x7_2 < (l0.length : Int)
            · rw [if_pos c15] at H
              have c15b0 : decide (x7_2 < (l0.length : Int)) = true := decide_eq_true c15
              clear c15
              by_cases c16 : 0 ≤ x7_2
              · rw [if_pos c16] at H
                have c16b0 : decide (0 ≤ x7_2) = true := decide_eq_true c16
                clear c16
                replace H := Option.bind_eq_some_iff.mp H
                obtain ⟨⟨t791, t792, t793⟩, A170, H⟩ := H
                replace H : (if t793 = 0 then (withyref01_Sum.l1 k2 l0 (wrap64 (x7_2 + 1)) t791 t792) else (some (0, 0, t793))) = some (r1, r2, r3) := H
                have A17 := Aside0.mk A170
                clear A170
                by_cases c18 : t793 = 0
                · rw [if_pos c18] at H
                  have c18b0 : (t793 == 0) = true := beq_iff_eq.mpr c18
                  have c18b1 : (t793 != 0) = false := bne_eq_false_iff_eq.mpr c18
                  clear c18
                  have H' := Aside0.mk H
                  clear H
                  try go_wp2
                  replace BK784 := Aside0.mk (blk_drew BK784.out)
                  replace BK789 := Aside0.mk (blk_drew BK789.out)
                  replace HB := Aside0.mk (below_drew1 HB.out)
                  have p790 : 0 ≤ (x7_2 : Int) := of_decide_eq_true (by first | (with_reducible assumption) | assumption)
                  have q790 : x7_2 < (l0.length : Int) := of_decide_eq_true (by first | (with_reducible assumption) | assumption)
                  obtain ⟨ad790, e790, hx790_0, hx790_1⟩ := at_T23 HR0.out x7_2 p790 q790
                  have hw790_1 := hx790_1
                  have hw790_0 := hx790_0
                  cases e790
                  replace hx790_0 := (HB.out.cell (World.block_lt_of_cell? w _ hx790_0)).trans hx790_0
                  replace hx790_1 := (HB.out.cell (World.block_lt_of_cell? w _ hx790_1)).trans hx790_1
                  replace p790 := eq_true p790
                  replace q790 := eq_true q790
                  refine start_ (n := 12) (S := fun w' => w'.cell? ⟨gb789, 0, none⟩ = some (.int .i64 x790000_2) ∧ w'.cell? ⟨gb789, 1, none⟩ = some (.int .i64 x790001_2) ∧ w'.cell? (ad790.add ((x7_2).toNat * 2)) = some (.int .i64 ((rd_T23 l0 x7_2).f0)) ∧ w'.cell? ⟨(ad790.add ((x7_2).toNat * 2)).block, (ad790.add ((x7_2).toNat * 2)).off + 1, none⟩ = some (.int .i64 ((rd_T23 l0 x7_2).f1))) (ds := []) #[false, false, false, false, false, false, false, false, false, false, false, false] (by kernel_rfl) rfl rfl ⟨(blk_cell BK789.out 0).trans rfl, (blk_cell BK789.out 1).trans rfl, ((HB.out.cell (World.block_lt_of_cell? w _ hw790_0)).trans hw790_0), ((HB.out.cell (World.block_lt_of_cell? w _ hw790_1)).trans hw790_1)⟩ (fun hHeld => ?_); refine with_tabW withyref01_Sum.tab11 withyref01_Sum.bits11 (fun HT_ HW_ => ?_)
                  generalize wr.drew = w19 at BK784 BK789 HB hx790_0 hx790_1 hHeld ⊢
                  refine pure_ (i := 1) (N := some 34) (v := ?_) (a' := ?_) #[false, true, false, false, false, false, false, false, false, false, false, false] rfl rfl (any_of HT_.out (by kernel_rfl)) (fun _ _ _ h => h) (Or.inl ⟨by rfl, ?_⟩) ?_ ?_
                  rotate_left
                  · intro w'
                    go_simp
                    with_reducible rfl
                  rotate_left
                  · simp only [Act.put, List.setIfInBounds_toArray, List.set_cons_zero, List.set_cons_succ, i64_w, i32_w]
                    rfl
                  refine pure_ (i := 2) (N := some 35) (v := ?_) (a' := ?_) #[false, true, true, false, false, false, false, false, false, false, false, false] rfl rfl (any_of HT_.out (by kernel_rfl)) (fun _ _ _ h => h) (Or.inl ⟨by rfl, ?_⟩) ?_ ?_
                  rotate_left
                  · intro w'
                    go_simp
                    with_reducible rfl
                  rotate_left
                  · simp only [Act.put, List.setIfInBounds_toArray, List.set_cons_zero, List.set_cons_succ, i64_w, i32_w]
                    rfl
                  refine pure_ (i := 3) (N := some 36) (v := ?_) (a' := ?_) #[false, true, true, true, false, false, false, false, false, false, false, false] rfl rfl (any_of HT_.out (by kernel_rfl)) (fun _ _ _ h => h) (Or.inl ⟨by rfl, ?_⟩) ?_ ?_
                  rotate_left
                  · intro w'
                    go_simp
                    with_reducible rfl
                  rotate_left
                  · simp only [Act.put, List.setIfInBounds_toArray, List.set_cons_zero, List.set_cons_succ, i64_w, i32_w]
                    rfl
                  refine take_ (i := 0) (N := some 33) (v := ?_) (a' := ?_) #[true, true, true, true, false, false, false, false, false, false, false, false] rfl rfl (take_ofW HT_.out HW_.out (by kernel_rfl)) (fun _ _ _ h => h) (Or.inl ⟨by rfl, ?_⟩) hHeld ?_ ?_
                  rotate_left
                  · rintro w' ⟨s0, s1, s2, s3⟩
                    go_simp
                    with_reducible rfl
                  rotate_left
                  · simp only [Act.put, List.setIfInBounds_toArray, List.set_cons_zero, List.set_cons_succ, i64_w, i32_w]
                    rfl
                  refine take_ (i := 4) (N := some 37) (v := ?_) (a' := ?_) #[true, true, true, true, true, false, false, false, false, false, false, false] rfl rfl (take_ofW HT_.out HW_.out (by kernel_rfl)) (fun _ _ _ h => h) (Or.inl ⟨by rfl, ?_⟩) hHeld ?_ ?_
                  rotate_left
                  · rintro w' ⟨s0, s1, s2, s3⟩
                    go_simp
                    with_reducible rfl
                  rotate_left
                  · simp only [Act.put, List.setIfInBounds_toArray, List.set_cons_zero, List.set_cons_succ, i64_w, i32_w]
                    rfl
                  refine join_ (σ := Nat) 2 #[true, true, true, true, true, true, true, true, true, true, false, false] (fun s_ => [(38, .tuple #[.agg #[.int .i64 t791, .int .i64 t792], .int .i64 t793]), (8, .pointer (some ⟨s_, 0, none⟩)), (32, .tuple #[.agg #[.int .i64 t791, .int .i64 t792], .int .i64 t793]), (39, .agg #[.int .i64 t791, .int .i64 t792]), (40, .int .i64 t793)]) (fun s_ w' => (w'.cell? ⟨gb789, 0, none⟩ = some (.int .i64 x790000_2) ∧ w'.cell? ⟨gb789, 1, none⟩ = some (.int .i64 x790001_2) ∧ w'.cell? (ad790.add ((x7_2).toNat * 2)) = some (.int .i64 ((rd_T23 l0 x7_2).f0)) ∧ w'.cell? ⟨(ad790.add ((x7_2).toNat * 2)).block, (ad790.add ((x7_2).toNat * 2)).off + 1, none⟩ = some (.int .i64 ((rd_T23 l0 x7_2).f1))) ∧ (w'.heap[gb784]? = some (.cells #[.int .i64 x785000_2, .int .i64 x785001_2] 23 (0, 0))) ∧ (w'.heap[gb789]? = some (.cells #[.int .i64 x790000_2, .int .i64 x790001_2] 23 (0, 0))) ∧ (w'.heap[s_]? = some (.cells #[.int .i64 0, .int .i64 0] 23 (0, 0))) ∧ (w.heap.size ≤ s_) ∧ (w.heap.size ≤ s_) ∧ (gb784 ≠ s_) ∧ (s_ ≠ gb784) ∧ (gb789 ≠ s_) ∧ (s_ ≠ gb789) ∧ (Below w.heap.size w w')) ?_ ?_
                  rotate_left
                  · intro hCont
                    refine two_ (i := 5) (j := 9) (Ni := some 38) (Nj := some 8) #[true, true, true, true, true, true, false, false, false, false, false, false] #[true, true, true, true, true, false, false, false, false, true, false, false] rfl rfl rfl rfl (two_of HT_.out (by kernel_rfl)) (by decide) (by decide) (fun K hK => ?_) (fun K hK => ?_)
                    · skip
                      refine gos_ Try.func52 #[.agg #[.int .i64 x790000_2, .int .i64 x790001_2], .agg #[.int .i64 ((rd_T23 l0 x7_2).f0), .int .i64 ((rd_T23 l0 x7_2).f1)]] ?_
                      with_reducible refine (withyref01_Add.calls k2 x790000_2 x790001_2 ((rd_T23 l0 x7_2).f0) ((rd_T23 l0 x7_2).f1) t791 t792 t793 _ A17.out).mono ?_
                      rintro e w20 ⟨rfl, hb⟩
                      refine ⟨_, rfl, ?_⟩
                      replace BK784 := bkb_ BK784 hb
                      replace BK789 := bkb_ BK789 hb
                      replace HB := bws_ HB hb
                      (try clear hb)
                      (try clear hb2)
                      (try clear hk)
                      (try clear hi)
                      refine hK.out _ _ ⟨(blk_cell BK789.out 0).trans rfl, (blk_cell BK789.out 1).trans rfl, ((HB.out.cell (World.block_lt_of_cell? w _ hw790_0)).trans hw790_0), ((HB.out.cell (World.block_lt_of_cell? w _ hw790_1)).trans hw790_1)⟩ (fun hHeld => ?_)
                      clear hK K
                      refine norm_ (a' := ?_) ?_ ?_
                      rotate_left
                      · show Act.put _ (some 38) _ = _
                        simp only [Act.put, List.setIfInBounds_toArray, List.set_cons_zero, List.set_cons_succ, i64_w, i32_w]
                        rfl
                      refine pure_ (i := 6) (N := some 32) (v := ?_) (a' := ?_) #[true, true, true, true, true, true, true, false, false, false, false, false] rfl rfl (any_of HT_.out (by kernel_rfl)) (fun _ _ _ h => h) (Or.inl ⟨by rfl, ?_⟩) ?_ ?_
                      rotate_left
                      · intro w'
                        go_simp
                        with_reducible rfl
                      rotate_left
                      · simp only [Act.put, List.setIfInBounds_toArray, List.set_cons_zero, List.set_cons_succ, i64_w, i32_w]
                        rfl
                      refine pure_ (i := 7) (N := some 39) (v := ?_) (a' := ?_) #[true, true, true, true, true, true, true, true, false, false, false, false] rfl rfl (any_of HT_.out (by kernel_rfl)) (fun _ _ _ h => h) (Or.inl ⟨by rfl, ?_⟩) ?_ ?_
                      rotate_left
                      · intro w'
                        go_simp
                        with_reducible rfl
                      rotate_left
                      · simp only [Act.put, List.setIfInBounds_toArray, List.set_cons_zero, List.set_cons_succ, i64_w, i32_w]
                        rfl
                      refine pure_ (i := 8) (N := some 40) (v := ?_) (a' := ?_) #[true, true, true, true, true, true, true, true, true, false, false, false] rfl rfl (any_of HT_.out (by kernel_rfl)) (fun _ _ _ h => h) (Or.inl ⟨by rfl, ?_⟩) ?_ ?_
                      rotate_left
                      · intro w'
                        go_simp
                        with_reducible rfl
                      rotate_left
                      · simp only [Act.put, List.setIfInBounds_toArray, List.set_cons_zero, List.set_cons_succ, i64_w, i32_w]
                        rfl
                      refine one_ (i := 9) (N := some 8) #[true, true, true, true, true, true, true, true, true, true, false, false] rfl rfl (one_of HT_.out (by kernel_rfl)) (by decide) (fun K hK => ?_)
                      refine box_step ?hg (N := 8) ?hd (cs := #[.int .i64 0, .int .i64 0]) (t := 23) ?hr ?_; (case hd => rfl); (case hg => rfl); (case hr => first | (go_simp; done) | (go_simp; rfl))
                      intro gb794 hg w21 hbox hb
                      have BK794 := Aside0.mk hbox
                      have GW794 := bwg_ HB hg
                      have GE794 := bwg_ HB hg
                      replace HB := bws_ HB hb
                      have NB784_794 := bkl_ BK784 hg
                      have NB794_784 := bkr_ BK784 hg
                      replace BK784 := bkb_ BK784 hb
                      have NB789_794 := bkl_ BK789 hg
                      have NB794_789 := bkr_ BK789 hg
                      replace BK789 := bkb_ BK789 hb
                      clear hb hbox hg
                      refine hK.out _ _ ⟨(blk_cell BK789.out 0).trans rfl, (blk_cell BK789.out 1).trans rfl, ((HB.out.cell (World.block_lt_of_cell? w _ hw790_0)).trans hw790_0), ((HB.out.cell (World.block_lt_of_cell? w _ hw790_1)).trans hw790_1)⟩ (fun hHeld => ?_)
                      clear hK K
                      refine norm_ (a' := ?_) ?_ ?_
                      rotate_left
                      · show Act.put _ (some 8) _ = _
                        simp only [Act.put, List.setIfInBounds_toArray, List.set_cons_zero, List.set_cons_succ, i64_w, i32_w]
                        rfl
                      exact norm_ (by simp only [putAll, Act.put, List.setIfInBounds_toArray, List.set_cons_zero, List.set_cons_succ]) (hCont (gb794) _ ⟨hHeld, (bk_ BK784), (bk_ BK789), (bk_ BK794), GW794.out, GE794.out, NB784_794.out, NB794_784.out, NB789_794.out, NB794_789.out, (bw_ HB)⟩)
                    · skip
                      refine box_step ?hg (N := 8) ?hd (cs := #[.int .i64 0, .int .i64 0]) (t := 23) ?hr ?_; (case hd => rfl); (case hg => rfl); (case hr => first | (go_simp; done) | (go_simp; rfl))
                      intro gb794 hg w20 hbox hb
                      have BK794 := Aside0.mk hbox
                      have GW794 := bwg_ HB hg
                      have GE794 := bwg_ HB hg
                      replace HB := bws_ HB hb
                      have NB784_794 := bkl_ BK784 hg
                      have NB794_784 := bkr_ BK784 hg
                      replace BK784 := bkb_ BK784 hb
                      have NB789_794 := bkl_ BK789 hg
                      have NB794_789 := bkr_ BK789 hg
                      replace BK789 := bkb_ BK789 hb
                      clear hb hbox hg
                      refine hK.out _ _ ⟨(blk_cell BK789.out 0).trans rfl, (blk_cell BK789.out 1).trans rfl, ((HB.out.cell (World.block_lt_of_cell? w _ hw790_0)).trans hw790_0), ((HB.out.cell (World.block_lt_of_cell? w _ hw790_1)).trans hw790_1)⟩ (fun hHeld => ?_)
                      clear hK K
                      refine norm_ (a' := ?_) ?_ ?_
                      rotate_left
                      · show Act.put _ (some 8) _ = _
                        simp only [Act.put, List.setIfInBounds_toArray, List.set_cons_zero, List.set_cons_succ, i64_w, i32_w]
                        rfl
                      refine one_ (i := 5) (N := some 38) #[true, true, true, true, true, true, false, false, false, true, false, false] rfl rfl (one_of HT_.out (by kernel_rfl)) (by decide) (fun K hK => ?_)
                      refine gos_ Try.func52 #[.agg #[.int .i64 x790000_2, .int .i64 x790001_2], .agg #[.int .i64 ((rd_T23 l0 x7_2).f0), .int .i64 ((rd_T23 l0 x7_2).f1)]] ?_
                      with_reducible refine (withyref01_Add.calls k2 x790000_2 x790001_2 ((rd_T23 l0 x7_2).f0) ((rd_T23 l0 x7_2).f1) t791 t792 t793 _ A17.out).mono ?_
                      rintro e w21 ⟨rfl, hb⟩
                      refine ⟨_, rfl, ?_⟩
                      replace BK784 := bkb_ BK784 hb
                      replace BK789 := bkb_ BK789 hb
                      replace BK794 := bkb_ BK794 hb
                      replace HB := bws_ HB hb
                      (try clear hb)
                      (try clear hb2)
                      (try clear hk)
                      (try clear hi)
                      refine hK.out _ _ ⟨(blk_cell BK789.out 0).trans rfl, (blk_cell BK789.out 1).trans rfl, ((HB.out.cell (World.block_lt_of_cell? w _ hw790_0)).trans hw790_0), ((HB.out.cell (World.block_lt_of_cell? w _ hw790_1)).trans hw790_1)⟩ (fun hHeld => ?_)
                      clear hK K
                      refine norm_ (a' := ?_) ?_ ?_
                      rotate_left
                      · show Act.put _ (some 38) _ = _
                        simp only [Act.put, List.setIfInBounds_toArray, List.set_cons_zero, List.set_cons_succ, i64_w, i32_w]
                        rfl
                      refine pure_ (i := 6) (N := some 32) (v := ?_) (a' := ?_) #[true, true, true, true, true, true, true, false, false, true, false, false] rfl rfl (any_of HT_.out (by kernel_rfl)) (fun _ _ _ h => h) (Or.inl ⟨by rfl, ?_⟩) ?_ ?_
                      rotate_left
                      · intro w'
                        go_simp
                        with_reducible rfl
                      rotate_left
                      · simp only [Act.put, List.setIfInBounds_toArray, List.set_cons_zero, List.set_cons_succ, i64_w, i32_w]
                        rfl
                      refine pure_ (i := 7) (N := some 39) (v := ?_) (a' := ?_) #[true, true, true, true, true, true, true, true, false, true, false, false] rfl rfl (any_of HT_.out (by kernel_rfl)) (fun _ _ _ h => h) (Or.inl ⟨by rfl, ?_⟩) ?_ ?_
                      rotate_left
                      · intro w'
                        go_simp
                        with_reducible rfl
                      rotate_left
                      · simp only [Act.put, List.setIfInBounds_toArray, List.set_cons_zero, List.set_cons_succ, i64_w, i32_w]
                        rfl
                      refine pure_ (i := 8) (N := some 40) (v := ?_) (a' := ?_) #[true, true, true, true, true, true, true, true, true, true, false, false] rfl rfl (any_of HT_.out (by kernel_rfl)) (fun _ _ _ h => h) (Or.inl ⟨by rfl, ?_⟩) ?_ ?_
                      rotate_left
                      · intro w'
                        go_simp
                        with_reducible rfl
                      rotate_left
                      · simp only [Act.put, List.setIfInBounds_toArray, List.set_cons_zero, List.set_cons_succ, i64_w, i32_w]
                        rfl
                      exact norm_ (by simp only [putAll, Act.put, List.setIfInBounds_toArray, List.set_cons_zero, List.set_cons_succ]) (hCont (gb794) _ ⟨hHeld, (bk_ BK784), (bk_ BK789), (bk_ BK794), GW794.out, GE794.out, NB784_794.out, NB794_784.out, NB789_794.out, NB794_789.out, (bw_ HB)⟩)
                  rintro gb794 w22 ⟨hS_, h0_, h1_, h2_, h3_, h4_, h5_, h6_, h7_, h8_, h9_⟩
                  have n0_ : Aside0 (w22.heap[gb784]? = some (.cells #[.int .i64 x785000_2, .int .i64 x785001_2] 23 (0, 0))) := ⟨h0_⟩
                  have n1_ : Aside0 (w22.heap[gb789]? = some (.cells #[.int .i64 x790000_2, .int .i64 x790001_2] 23 (0, 0))) := ⟨h1_⟩
                  have n2_ : Aside0 (w22.heap[gb794]? = some (.cells #[.int .i64 0, .int .i64 0] 23 (0, 0))) := ⟨h2_⟩
                  have n3_ : Aside0 (w.heap.size ≤ gb794) := ⟨h3_⟩
                  have n4_ : Aside0 (w.heap.size ≤ gb794) := ⟨h4_⟩
                  have n5_ : Aside0 (gb784 ≠ gb794) := ⟨h5_⟩
                  have n6_ : Aside0 (gb794 ≠ gb784) := ⟨h6_⟩
                  have n7_ : Aside0 (gb789 ≠ gb794) := ⟨h7_⟩
                  have n8_ : Aside0 (gb794 ≠ gb789) := ⟨h8_⟩
                  have n9_ : Aside0 (Below w.heap.size w w22) := ⟨h9_⟩
                  clear BK784
                  clear BK789
                  clear HB
                  clear h0_ h1_ h2_ h3_ h4_ h5_ h6_ h7_ h8_ h9_
                  have BK784 := n0_
                  have BK789 := n1_
                  have BK794 := n2_
                  have GW794 := n3_
                  have GE794 := n4_
                  have NB784_794 := n5_
                  have NB794_784 := n6_
                  have NB789_794 := n7_
                  have NB794_789 := n8_
                  have HB := n9_
                  clear n0_ n1_ n2_ n3_ n4_ n5_ n6_ n7_ n8_ n9_
                  have hHeld : w22.cell? ⟨gb789, 0, none⟩ = some (.int .i64 x790000_2) ∧ w22.cell? ⟨gb789, 1, none⟩ = some (.int .i64 x790001_2) ∧ w22.cell? (ad790.add ((x7_2).toNat * 2)) = some (.int .i64 ((rd_T23 l0 x7_2).f0)) ∧ w22.cell? ⟨(ad790.add ((x7_2).toNat * 2)).block, (ad790.add ((x7_2).toNat * 2)).off + 1, none⟩ = some (.int .i64 ((rd_T23 l0 x7_2).f1)) := hS_
                  refine norm_ (a' := ?_) ?_ ?_
                  rotate_left
                  · simp only [putAll, Act.put, List.setIfInBounds_toArray, List.set_cons_zero, List.set_cons_succ]
                    rfl
                  refine one_ (i := 10) (N := none) #[true, true, true, true, true, true, true, true, true, true, true, false] rfl rfl (one_of HT_.out (by kernel_rfl)) (by decide) (fun K hK => ?_)
                  have hs23 : w22.cell? ⟨gb794, 0, none⟩ = some (.int .i64 0) := (blk_cell BK794.out 0).trans rfl
                  have hfs23 := blk_frozen BK794.out 0
                  have hns23_0 := NB784_794.out
                  have hns23_1 := NB789_794.out
                  have hms23_0 := NB794_784.out
                  have hms23_1 := NB794_789.out
                  have hs24 : w22.cell? ⟨gb794, 1, none⟩ = some (.int .i64 0) := (blk_cell BK794.out 1).trans rfl
                  have hfs24 := blk_frozen BK794.out 1
                  have hns24_0 := NB784_794.out
                  have hns24_1 := NB789_794.out
                  have hms24_0 := NB794_784.out
                  have hms24_1 := NB794_789.out
                  refine skip_ (w1 := ?_) (by rfl) rfl ?_ ?_
                  rotate_left
                  · go_simp
                    rfl
                  refine hK.out _ _ ⟨((cell_far (p := ⟨gb794, _, none⟩) NB789_794.out _).trans (((cell_far (p := ⟨gb794, _, none⟩) NB789_794.out _).trans (hHeld.1)))), ((cell_far (p := ⟨gb794, _, none⟩) NB789_794.out _).trans (((cell_far (p := ⟨gb794, _, none⟩) NB789_794.out _).trans (hHeld.2.1)))), ((cell_far (p := ⟨gb794, _, none⟩) (by first | exact Nat.ne_of_lt (Nat.lt_of_lt_of_le (by have := World.block_lt_of_cell? _ _ hw790_0; first | rwa [add_block] at this | exact this) GW794.out) | (rw [add_block]; exact Nat.ne_of_lt (Nat.lt_of_lt_of_le (by have := World.block_lt_of_cell? _ _ hw790_0; first | rwa [add_block] at this | exact this) GW794.out)) | (show (Addr.add _ _).block ≠ _; rw [add_block]; exact Nat.ne_of_lt (Nat.lt_of_lt_of_le (by have := World.block_lt_of_cell? _ _ hw790_0; first | rwa [add_block] at this | exact this) GW794.out)) | (dsimp only; exact Nat.ne_of_lt (Nat.lt_of_lt_of_le (by have := World.block_lt_of_cell? _ _ hw790_0; first | rwa [add_block] at this | exact this) GW794.out))) _).trans (((cell_far (p := ⟨gb794, _, none⟩) (by first | exact Nat.ne_of_lt (Nat.lt_of_lt_of_le (by have := World.block_lt_of_cell? _ _ hw790_0; first | rwa [add_block] at this | exact this) GW794.out) | (rw [add_block]; exact Nat.ne_of_lt (Nat.lt_of_lt_of_le (by have := World.block_lt_of_cell? _ _ hw790_0; first | rwa [add_block] at this | exact this) GW794.out)) | (show (Addr.add _ _).block ≠ _; rw [add_block]; exact Nat.ne_of_lt (Nat.lt_of_lt_of_le (by have := World.block_lt_of_cell? _ _ hw790_0; first | rwa [add_block] at this | exact this) GW794.out)) | (dsimp only; exact Nat.ne_of_lt (Nat.lt_of_lt_of_le (by have := World.block_lt_of_cell? _ _ hw790_0; first | rwa [add_block] at this | exact this) GW794.out))) _).trans (hHeld.2.2.1)))), ((cell_far (p := ⟨gb794, _, none⟩) (by first | exact Nat.ne_of_lt (Nat.lt_of_lt_of_le (by have := World.block_lt_of_cell? _ _ hw790_1; first | rwa [add_block] at this | exact this) GW794.out) | (rw [add_block]; exact Nat.ne_of_lt (Nat.lt_of_lt_of_le (by have := World.block_lt_of_cell? _ _ hw790_1; first | rwa [add_block] at this | exact this) GW794.out)) | (show (Addr.add _ _).block ≠ _; rw [add_block]; exact Nat.ne_of_lt (Nat.lt_of_lt_of_le (by have := World.block_lt_of_cell? _ _ hw790_1; first | rwa [add_block] at this | exact this) GW794.out)) | (dsimp only; exact Nat.ne_of_lt (Nat.lt_of_lt_of_le (by have := World.block_lt_of_cell? _ _ hw790_1; first | rwa [add_block] at this | exact this) GW794.out))) _).trans (((cell_far (p := ⟨gb794, _, none⟩) (by first | exact Nat.ne_of_lt (Nat.lt_of_lt_of_le (by have := World.block_lt_of_cell? _ _ hw790_1; first | rwa [add_block] at this | exact this) GW794.out) | (rw [add_block]; exact Nat.ne_of_lt (Nat.lt_of_lt_of_le (by have := World.block_lt_of_cell? _ _ hw790_1; first | rwa [add_block] at this | exact this) GW794.out)) | (show (Addr.add _ _).block ≠ _; rw [add_block]; exact Nat.ne_of_lt (Nat.lt_of_lt_of_le (by have := World.block_lt_of_cell? _ _ hw790_1; first | rwa [add_block] at this | exact this) GW794.out)) | (dsimp only; exact Nat.ne_of_lt (Nat.lt_of_lt_of_le (by have := World.block_lt_of_cell? _ _ hw790_1; first | rwa [add_block] at this | exact this) GW794.out))) _).trans (hHeld.2.2.2))))⟩ (fun hHeld => ?_)
                  clear hK K
                  refine pure_ (i := 11) (N := some 9) (v := ?_) (a' := ?_) #[true, true, true, true, true, true, true, true, true, true, true, true] rfl rfl (any_of HT_.out (by kernel_rfl)) (fun _ _ _ h => h) (Or.inl ⟨by rfl, ?_⟩) ?_ ?_
                  rotate_left
                  · intro w'
                    go_simp
                    with_reducible rfl
                  rotate_left
                  · simp only [Act.put, List.setIfInBounds_toArray, List.set_cons_zero, List.set_cons_succ, i64_w, i32_w]
                    rfl
                  refine done_ (done_of HT_.out (by kernel_rfl)) ?_
                  have hnb25 := NB794_784.out
                  have hnc25 := NB784_794.out
                  have hnb26 := NB794_789.out
                  have hnc26 := NB789_794.out
                  obtain ⟨hcz27_0, hcz27_1, hfz27_0, hfz27_1⟩ := bc2_ BK794
                  have hnb28 := NB789_784.out
                  have hnc28 := NB784_789.out
                  obtain ⟨hcz29_0, hcz29_1, hfz29_0, hfz29_1⟩ := bc2_ BK789
                  try go_wp2
                  go_roundg k2
                  case measure => have := HK1.out; have := HK2.out; omega
                  case rel => exact ⟨(wrap64 (x7_2 + 1)), (x785000_2), (x785001_2), (t791), (t792), (by first | rfl | (simp; done) | (simp [*]; done)), H', ⟨by have := HK1.out; have := HK2.out; omega⟩, ⟨by refine bf_ ?_ NB784_789; refine bf_ ?_ NB784_789; refine bf_ ?_ NB784_794; refine bf_ ?_ NB784_794; exact bk_ BK784⟩, ⟨by refine bp_ (cs := #[.int .i64 t791, .int .i64 x790001_2]) ?_ 1; refine bp_ (cs := #[.int .i64 x790000_2, .int .i64 x790001_2]) ?_ 0; refine bf_ ?_ NB789_794; refine bf_ ?_ NB789_794; exact bk_ BK789⟩, ⟨bw_ HB⟩⟩
                · rw [if_neg c18] at H
                  have c18b0 : (t793 == 0) = false := beq_eq_false_iff_ne.mpr c18
                  have c18b1 : (t793 != 0) = true := bne_iff_ne.mpr c18
                  simp only [Option.some.injEq, Prod.mk.injEq] at H
                  obtain ⟨rfl, rfl, rfl⟩ := H
                  try go_wp2
                  replace BK784 := Aside0.mk (blk_drew BK784.out)
                  replace BK789 := Aside0.mk (blk_drew BK789.out)
                  replace HB := Aside0.mk (below_drew1 HB.out)
                  have p790 : 0 ≤ (x7_2 : Int) := of_decide_eq_true (by first | (with_reducible assumption) | assumption)
                  have q790 : x7_2 < (l0.length : Int) := of_decide_eq_true (by first | (with_reducible assumption) | assumption)
                  obtain ⟨ad790, e790, hx790_0, hx790_1⟩ := at_T23 HR0.out x7_2 p790 q790
                  have hw790_1 := hx790_1
                  have hw790_0 := hx790_0
                  cases e790
                  replace hx790_0 := (HB.out.cell (World.block_lt_of_cell? w _ hx790_0)).trans hx790_0
                  replace hx790_1 := (HB.out.cell (World.block_lt_of_cell? w _ hx790_1)).trans hx790_1
                  replace p790 := eq_true p790
                  replace q790 := eq_true q790
                  refine start_ (n := 12) (S := fun w' => w'.cell? ⟨gb789, 0, none⟩ = some (.int .i64 x790000_2) ∧ w'.cell? ⟨gb789, 1, none⟩ = some (.int .i64 x790001_2) ∧ w'.cell? (ad790.add ((x7_2).toNat * 2)) = some (.int .i64 ((rd_T23 l0 x7_2).f0)) ∧ w'.cell? ⟨(ad790.add ((x7_2).toNat * 2)).block, (ad790.add ((x7_2).toNat * 2)).off + 1, none⟩ = some (.int .i64 ((rd_T23 l0 x7_2).f1))) (ds := []) #[false, false, false, false, false, false, false, false, false, false, false, false] (by kernel_rfl) rfl rfl ⟨(blk_cell BK789.out 0).trans rfl, (blk_cell BK789.out 1).trans rfl, ((HB.out.cell (World.block_lt_of_cell? w _ hw790_0)).trans hw790_0), ((HB.out.cell (World.block_lt_of_cell? w _ hw790_1)).trans hw790_1)⟩ (fun hHeld => ?_); refine with_tabW withyref01_Sum.tab11 withyref01_Sum.bits11 (fun HT_ HW_ => ?_)
                  generalize wr.drew = w30 at BK784 BK789 HB hx790_0 hx790_1 hHeld ⊢
                  refine pure_ (i := 1) (N := some 34) (v := ?_) (a' := ?_) #[false, true, false, false, false, false, false, false, false, false, false, false] rfl rfl (any_of HT_.out (by kernel_rfl)) (fun _ _ _ h => h) (Or.inl ⟨by rfl, ?_⟩) ?_ ?_
                  rotate_left
                  · intro w'
                    go_simp
                    with_reducible rfl
                  rotate_left
                  · simp only [Act.put, List.setIfInBounds_toArray, List.set_cons_zero, List.set_cons_succ, i64_w, i32_w]
                    rfl
                  refine pure_ (i := 2) (N := some 35) (v := ?_) (a' := ?_) #[false, true, true, false, false, false, false, false, false, false, false, false] rfl rfl (any_of HT_.out (by kernel_rfl)) (fun _ _ _ h => h) (Or.inl ⟨by rfl, ?_⟩) ?_ ?_
                  rotate_left
                  · intro w'
                    go_simp
                    with_reducible rfl
                  rotate_left
                  · simp only [Act.put, List.setIfInBounds_toArray, List.set_cons_zero, List.set_cons_succ, i64_w, i32_w]
                    rfl
                  refine pure_ (i := 3) (N := some 36) (v := ?_) (a' := ?_) #[false, true, true, true, false, false, false, false, false, false, false, false] rfl rfl (any_of HT_.out (by kernel_rfl)) (fun _ _ _ h => h) (Or.inl ⟨by rfl, ?_⟩) ?_ ?_
                  rotate_left
                  · intro w'
                    go_simp
                    with_reducible rfl
                  rotate_left
                  · simp only [Act.put, List.setIfInBounds_toArray, List.set_cons_zero, List.set_cons_succ, i64_w, i32_w]
                    rfl
                  refine take_ (i := 0) (N := some 33) (v := ?_) (a' := ?_) #[true, true, true, true, false, false, false, false, false, false, false, false] rfl rfl (take_ofW HT_.out HW_.out (by kernel_rfl)) (fun _ _ _ h => h) (Or.inl ⟨by rfl, ?_⟩) hHeld ?_ ?_
                  rotate_left
                  · rintro w' ⟨s0, s1, s2, s3⟩
                    go_simp
                    with_reducible rfl
                  rotate_left
                  · simp only [Act.put, List.setIfInBounds_toArray, List.set_cons_zero, List.set_cons_succ, i64_w, i32_w]
                    rfl
                  refine take_ (i := 4) (N := some 37) (v := ?_) (a' := ?_) #[true, true, true, true, true, false, false, false, false, false, false, false] rfl rfl (take_ofW HT_.out HW_.out (by kernel_rfl)) (fun _ _ _ h => h) (Or.inl ⟨by rfl, ?_⟩) hHeld ?_ ?_
                  rotate_left
                  · rintro w' ⟨s0, s1, s2, s3⟩
                    go_simp
                    with_reducible rfl
                  rotate_left
                  · simp only [Act.put, List.setIfInBounds_toArray, List.set_cons_zero, List.set_cons_succ, i64_w, i32_w]
                    rfl
                  refine join_ (σ := Nat) 2 #[true, true, true, true, true, true, true, true, true, true, false, false] (fun s_ => [(38, .tuple #[.agg #[.int .i64 t791, .int .i64 t792], .int .i64 t793]), (8, .pointer (some ⟨s_, 0, none⟩)), (32, .tuple #[.agg #[.int .i64 t791, .int .i64 t792], .int .i64 t793]), (39, .agg #[.int .i64 t791, .int .i64 t792]), (40, .int .i64 t793)]) (fun s_ w' => (w'.cell? ⟨gb789, 0, none⟩ = some (.int .i64 x790000_2) ∧ w'.cell? ⟨gb789, 1, none⟩ = some (.int .i64 x790001_2) ∧ w'.cell? (ad790.add ((x7_2).toNat * 2)) = some (.int .i64 ((rd_T23 l0 x7_2).f0)) ∧ w'.cell? ⟨(ad790.add ((x7_2).toNat * 2)).block, (ad790.add ((x7_2).toNat * 2)).off + 1, none⟩ = some (.int .i64 ((rd_T23 l0 x7_2).f1))) ∧ (w'.heap[gb784]? = some (.cells #[.int .i64 x785000_2, .int .i64 x785001_2] 23 (0, 0))) ∧ (w'.heap[gb789]? = some (.cells #[.int .i64 x790000_2, .int .i64 x790001_2] 23 (0, 0))) ∧ (w'.heap[s_]? = some (.cells #[.int .i64 0, .int .i64 0] 23 (0, 0))) ∧ (w.heap.size ≤ s_) ∧ (w.heap.size ≤ s_) ∧ (gb784 ≠ s_) ∧ (s_ ≠ gb784) ∧ (gb789 ≠ s_) ∧ (s_ ≠ gb789) ∧ (Below w.heap.size w w')) ?_ ?_
                  rotate_left
                  · intro hCont
                    refine two_ (i := 5) (j := 9) (Ni := some 38) (Nj := some 8) #[true, true, true, true, true, true, false, false, false, false, false, false] #[true, true, true, true, true, false, false, false, false, true, false, false] rfl rfl rfl rfl (two_of HT_.out (by kernel_rfl)) (by decide) (by decide) (fun K hK => ?_) (fun K hK => ?_)
                    · skip
                      refine gos_ Try.func52 #[.agg #[.int .i64 x790000_2, .int .i64 x790001_2], .agg #[.int .i64 ((rd_T23 l0 x7_2).f0), .int .i64 ((rd_T23 l0 x7_2).f1)]] ?_
                      with_reducible refine (withyref01_Add.calls k2 x790000_2 x790001_2 ((rd_T23 l0 x7_2).f0) ((rd_T23 l0 x7_2).f1) t791 t792 t793 _ A17.out).mono ?_
                      rintro e w31 ⟨rfl, hb⟩
                      refine ⟨_, rfl, ?_⟩
                      replace BK784 := bkb_ BK784 hb
                      replace BK789 := bkb_ BK789 hb
                      replace HB := bws_ HB hb
                      (try clear hb)
                      (try clear hb2)
                      (try clear hk)
                      (try clear hi)
                      refine hK.out _ _ ⟨(blk_cell BK789.out 0).trans rfl, (blk_cell BK789.out 1).trans rfl, ((HB.out.cell (World.block_lt_of_cell? w _ hw790_0)).trans hw790_0), ((HB.out.cell (World.block_lt_of_cell? w _ hw790_1)).trans hw790_1)⟩ (fun hHeld => ?_)
                      clear hK K
                      refine norm_ (a' := ?_) ?_ ?_
                      rotate_left
                      · show Act.put _ (some 38) _ = _
                        simp only [Act.put, List.setIfInBounds_toArray, List.set_cons_zero, List.set_cons_succ, i64_w, i32_w]
                        rfl
                      refine pure_ (i := 6) (N := some 32) (v := ?_) (a' := ?_) #[true, true, true, true, true, true, true, false, false, false, false, false] rfl rfl (any_of HT_.out (by kernel_rfl)) (fun _ _ _ h => h) (Or.inl ⟨by rfl, ?_⟩) ?_ ?_
                      rotate_left
                      · intro w'
                        go_simp
                        with_reducible rfl
                      rotate_left
                      · simp only [Act.put, List.setIfInBounds_toArray, List.set_cons_zero, List.set_cons_succ, i64_w, i32_w]
                        rfl
                      refine pure_ (i := 7) (N := some 39) (v := ?_) (a' := ?_) #[true, true, true, true, true, true, true, true, false, false, false, false] rfl rfl (any_of HT_.out (by kernel_rfl)) (fun _ _ _ h => h) (Or.inl ⟨by rfl, ?_⟩) ?_ ?_
                      rotate_left
                      · intro w'
                        go_simp
                        with_reducible rfl
                      rotate_left
                      · simp only [Act.put, List.setIfInBounds_toArray, List.set_cons_zero, List.set_cons_succ, i64_w, i32_w]
                        rfl
                      refine pure_ (i := 8) (N := some 40) (v := ?_) (a' := ?_) #[true, true, true, true, true, true, true, true, true, false, false, false] rfl rfl (any_of HT_.out (by kernel_rfl)) (fun _ _ _ h => h) (Or.inl ⟨by rfl, ?_⟩) ?_ ?_
                      rotate_left
                      · intro w'
                        go_simp
                        with_reducible rfl
                      rotate_left
                      · simp only [Act.put, List.setIfInBounds_toArray, List.set_cons_zero, List.set_cons_succ, i64_w, i32_w]
                        rfl
                      refine one_ (i := 9) (N := some 8) #[true, true, true, true, true, true, true, true, true, true, false, false] rfl rfl (one_of HT_.out (by kernel_rfl)) (by decide) (fun K hK => ?_)
                      refine box_step ?hg (N := 8) ?hd (cs := #[.int .i64 0, .int .i64 0]) (t := 23) ?hr ?_; (case hd => rfl); (case hg => rfl); (case hr => first | (go_simp; done) | (go_simp; rfl))
                      intro gb794 hg w32 hbox hb
                      have BK794 := Aside0.mk hbox
                      have GW794 := bwg_ HB hg
                      have GE794 := bwg_ HB hg
                      replace HB := bws_ HB hb
                      have NB784_794 := bkl_ BK784 hg
                      have NB794_784 := bkr_ BK784 hg
                      replace BK784 := bkb_ BK784 hb
                      have NB789_794 := bkl_ BK789 hg
                      have NB794_789 := bkr_ BK789 hg
                      replace BK789 := bkb_ BK789 hb
                      clear hb hbox hg
                      refine hK.out _ _ ⟨(blk_cell BK789.out 0).trans rfl, (blk_cell BK789.out 1).trans rfl, ((HB.out.cell (World.block_lt_of_cell? w _ hw790_0)).trans hw790_0), ((HB.out.cell (World.block_lt_of_cell? w _ hw790_1)).trans hw790_1)⟩ (fun hHeld => ?_)
                      clear hK K
                      refine norm_ (a' := ?_) ?_ ?_
                      rotate_left
                      · show Act.put _ (some 8) _ = _
                        simp only [Act.put, List.setIfInBounds_toArray, List.set_cons_zero, List.set_cons_succ, i64_w, i32_w]
                        rfl
                      exact norm_ (by simp only [putAll, Act.put, List.setIfInBounds_toArray, List.set_cons_zero, List.set_cons_succ]) (hCont (gb794) _ ⟨hHeld, (bk_ BK784), (bk_ BK789), (bk_ BK794), GW794.out, GE794.out, NB784_794.out, NB794_784.out, NB789_794.out, NB794_789.out, (bw_ HB)⟩)
                    · skip
                      refine box_step ?hg (N := 8) ?hd (cs := #[.int .i64 0, .int .i64 0]) (t := 23) ?hr ?_; (case hd => rfl); (case hg => rfl); (case hr => first | (go_simp; done) | (go_simp; rfl))
                      intro gb794 hg w31 hbox hb
                      have BK794 := Aside0.mk hbox
                      have GW794 := bwg_ HB hg
                      have GE794 := bwg_ HB hg
                      replace HB := bws_ HB hb
                      have NB784_794 := bkl_ BK784 hg
                      have NB794_784 := bkr_ BK784 hg
                      replace BK784 := bkb_ BK784 hb
                      have NB789_794 := bkl_ BK789 hg
                      have NB794_789 := bkr_ BK789 hg
                      replace BK789 := bkb_ BK789 hb
                      clear hb hbox hg
                      refine hK.out _ _ ⟨(blk_cell BK789.out 0).trans rfl, (blk_cell BK789.out 1).trans rfl, ((HB.out.cell (World.block_lt_of_cell? w _ hw790_0)).trans hw790_0), ((HB.out.cell (World.block_lt_of_cell? w _ hw790_1)).trans hw790_1)⟩ (fun hHeld => ?_)
                      clear hK K
                      refine norm_ (a' := ?_) ?_ ?_
                      rotate_left
                      · show Act.put _ (some 8) _ = _
                        simp only [Act.put, List.setIfInBounds_toArray, List.set_cons_zero, List.set_cons_succ, i64_w, i32_w]
                        rfl
                      refine one_ (i := 5) (N := some 38) #[true, true, true, true, true, true, false, false, false, true, false, false] rfl rfl (one_of HT_.out (by kernel_rfl)) (by decide) (fun K hK => ?_)
                      refine gos_ Try.func52 #[.agg #[.int .i64 x790000_2, .int .i64 x790001_2], .agg #[.int .i64 ((rd_T23 l0 x7_2).f0), .int .i64 ((rd_T23 l0 x7_2).f1)]] ?_
                      with_reducible refine (withyref01_Add.calls k2 x790000_2 x790001_2 ((rd_T23 l0 x7_2).f0) ((rd_T23 l0 x7_2).f1) t791 t792 t793 _ A17.out).mono ?_
                      rintro e w32 ⟨rfl, hb⟩
                      refine ⟨_, rfl, ?_⟩
                      replace BK784 := bkb_ BK784 hb
                      replace BK789 := bkb_ BK789 hb
                      replace BK794 := bkb_ BK794 hb
                      replace HB := bws_ HB hb
                      (try clear hb)
                      (try clear hb2)
                      (try clear hk)
                      (try clear hi)
                      refine hK.out _ _ ⟨(blk_cell BK789.out 0).trans rfl, (blk_cell BK789.out 1).trans rfl, ((HB.out.cell (World.block_lt_of_cell? w _ hw790_0)).trans hw790_0), ((HB.out.cell (World.block_lt_of_cell? w _ hw790_1)).trans hw790_1)⟩ (fun hHeld => ?_)
                      clear hK K
                      refine norm_ (a' := ?_) ?_ ?_
                      rotate_left
                      · show Act.put _ (some 38) _ = _
                        simp only [Act.put, List.setIfInBounds_toArray, List.set_cons_zero, List.set_cons_succ, i64_w, i32_w]
                        rfl
                      refine pure_ (i := 6) (N := some 32) (v := ?_) (a' := ?_) #[true, true, true, true, true, true, true, false, false, true, false, false] rfl rfl (any_of HT_.out (by kernel_rfl)) (fun _ _ _ h => h) (Or.inl ⟨by rfl, ?_⟩) ?_ ?_
                      rotate_left
                      · intro w'
                        go_simp
                        with_reducible rfl
                      rotate_left
                      · simp only [Act.put, List.setIfInBounds_toArray, List.set_cons_zero, List.set_cons_succ, i64_w, i32_w]
                        rfl
                      refine pure_ (i := 7) (N := some 39) (v := ?_) (a' := ?_) #[true, true, true, true, true, true, true, true, false, true, false, false] rfl rfl (any_of HT_.out (by kernel_rfl)) (fun _ _ _ h => h) (Or.inl ⟨by rfl, ?_⟩) ?_ ?_
                      rotate_left
                      · intro w'
                        go_simp
                        with_reducible rfl
                      rotate_left
                      · simp only [Act.put, List.setIfInBounds_toArray, List.set_cons_zero, List.set_cons_succ, i64_w, i32_w]
                        rfl
                      refine pure_ (i := 8) (N := some 40) (v := ?_) (a' := ?_) #[true, true, true, true, true, true, true, true, true, true, false, false] rfl rfl (any_of HT_.out (by kernel_rfl)) (fun _ _ _ h => h) (Or.inl ⟨by rfl, ?_⟩) ?_ ?_
                      rotate_left
                      · intro w'
                        go_simp
                        with_reducible rfl
                      rotate_left
                      · simp only [Act.put, List.setIfInBounds_toArray, List.set_cons_zero, List.set_cons_succ, i64_w, i32_w]
                        rfl
                      exact norm_ (by simp only [putAll, Act.put, List.setIfInBounds_toArray, List.set_cons_zero, List.set_cons_succ]) (hCont (gb794) _ ⟨hHeld, (bk_ BK784), (bk_ BK789), (bk_ BK794), GW794.out, GE794.out, NB784_794.out, NB794_784.out, NB789_794.out, NB794_789.out, (bw_ HB)⟩)
                  rintro gb794 w33 ⟨hS_, h0_, h1_, h2_, h3_, h4_, h5_, h6_, h7_, h8_, h9_⟩
                  have n0_ : Aside0 (w33.heap[gb784]? = some (.cells #[.int .i64 x785000_2, .int .i64 x785001_2] 23 (0, 0))) := ⟨h0_⟩
                  have n1_ : Aside0 (w33.heap[gb789]? = some (.cells #[.int .i64 x790000_2, .int .i64 x790001_2] 23 (0, 0))) := ⟨h1_⟩
                  have n2_ : Aside0 (w33.heap[gb794]? = some (.cells #[.int .i64 0, .int .i64 0] 23 (0, 0))) := ⟨h2_⟩
                  have n3_ : Aside0 (w.heap.size ≤ gb794) := ⟨h3_⟩
                  have n4_ : Aside0 (w.heap.size ≤ gb794) := ⟨h4_⟩
                  have n5_ : Aside0 (gb784 ≠ gb794) := ⟨h5_⟩
                  have n6_ : Aside0 (gb794 ≠ gb784) := ⟨h6_⟩
                  have n7_ : Aside0 (gb789 ≠ gb794) := ⟨h7_⟩
                  have n8_ : Aside0 (gb794 ≠ gb789) := ⟨h8_⟩
                  have n9_ : Aside0 (Below w.heap.size w w33) := ⟨h9_⟩
                  clear BK784
                  clear BK789
                  clear HB
                  clear h0_ h1_ h2_ h3_ h4_ h5_ h6_ h7_ h8_ h9_
                  have BK784 := n0_
                  have BK789 := n1_
                  have BK794 := n2_
                  have GW794 := n3_
                  have GE794 := n4_
                  have NB784_794 := n5_
                  have NB794_784 := n6_
                  have NB789_794 := n7_
                  have NB794_789 := n8_
                  have HB := n9_
                  clear n0_ n1_ n2_ n3_ n4_ n5_ n6_ n7_ n8_ n9_
                  have hHeld : w33.cell? ⟨gb789, 0, none⟩ = some (.int .i64 x790000_2) ∧ w33.cell? ⟨gb789, 1, none⟩ = some (.int .i64 x790001_2) ∧ w33.cell? (ad790.add ((x7_2).toNat * 2)) = some (.int .i64 ((rd_T23 l0 x7_2).f0)) ∧ w33.cell? ⟨(ad790.add ((x7_2).toNat * 2)).block, (ad790.add ((x7_2).toNat * 2)).off + 1, none⟩ = some (.int .i64 ((rd_T23 l0 x7_2).f1)) := hS_
                  refine norm_ (a' := ?_) ?_ ?_
                  rotate_left
                  · simp only [putAll, Act.put, List.setIfInBounds_toArray, List.set_cons_zero, List.set_cons_succ]
                    rfl
                  refine one_ (i := 10) (N := none) #[true, true, true, true, true, true, true, true, true, true, true, false] rfl rfl (one_of HT_.out (by kernel_rfl)) (by decide) (fun K hK => ?_)
                  have hs34 : w33.cell? ⟨gb794, 0, none⟩ = some (.int .i64 0) := (blk_cell BK794.out 0).trans rfl
                  have hfs34 := blk_frozen BK794.out 0
                  have hns34_0 := NB784_794.out
                  have hns34_1 := NB789_794.out
                  have hms34_0 := NB794_784.out
                  have hms34_1 := NB794_789.out
                  have hs35 : w33.cell? ⟨gb794, 1, none⟩ = some (.int .i64 0) := (blk_cell BK794.out 1).trans rfl
                  have hfs35 := blk_frozen BK794.out 1
                  have hns35_0 := NB784_794.out
                  have hns35_1 := NB789_794.out
                  have hms35_0 := NB794_784.out
                  have hms35_1 := NB794_789.out
                  refine skip_ (w1 := ?_) (by rfl) rfl ?_ ?_
                  rotate_left
                  · go_simp
                    rfl
                  refine hK.out _ _ ⟨((cell_far (p := ⟨gb794, _, none⟩) NB789_794.out _).trans (((cell_far (p := ⟨gb794, _, none⟩) NB789_794.out _).trans (hHeld.1)))), ((cell_far (p := ⟨gb794, _, none⟩) NB789_794.out _).trans (((cell_far (p := ⟨gb794, _, none⟩) NB789_794.out _).trans (hHeld.2.1)))), ((cell_far (p := ⟨gb794, _, none⟩) (by first | exact Nat.ne_of_lt (Nat.lt_of_lt_of_le (by have := World.block_lt_of_cell? _ _ hw790_0; first | rwa [add_block] at this | exact this) GW794.out) | (rw [add_block]; exact Nat.ne_of_lt (Nat.lt_of_lt_of_le (by have := World.block_lt_of_cell? _ _ hw790_0; first | rwa [add_block] at this | exact this) GW794.out)) | (show (Addr.add _ _).block ≠ _; rw [add_block]; exact Nat.ne_of_lt (Nat.lt_of_lt_of_le (by have := World.block_lt_of_cell? _ _ hw790_0; first | rwa [add_block] at this | exact this) GW794.out)) | (dsimp only; exact Nat.ne_of_lt (Nat.lt_of_lt_of_le (by have := World.block_lt_of_cell? _ _ hw790_0; first | rwa [add_block] at this | exact this) GW794.out))) _).trans (((cell_far (p := ⟨gb794, _, none⟩) (by first | exact Nat.ne_of_lt (Nat.lt_of_lt_of_le (by have := World.block_lt_of_cell? _ _ hw790_0; first | rwa [add_block] at this | exact this) GW794.out) | (rw [add_block]; exact Nat.ne_of_lt (Nat.lt_of_lt_of_le (by have := World.block_lt_of_cell? _ _ hw790_0; first | rwa [add_block] at this | exact this) GW794.out)) | (show (Addr.add _ _).block ≠ _; rw [add_block]; exact Nat.ne_of_lt (Nat.lt_of_lt_of_le (by have := World.block_lt_of_cell? _ _ hw790_0; first | rwa [add_block] at this | exact this) GW794.out)) | (dsimp only; exact Nat.ne_of_lt (Nat.lt_of_lt_of_le (by have := World.block_lt_of_cell? _ _ hw790_0; first | rwa [add_block] at this | exact this) GW794.out))) _).trans (hHeld.2.2.1)))), ((cell_far (p := ⟨gb794, _, none⟩) (by first | exact Nat.ne_of_lt (Nat.lt_of_lt_of_le (by have := World.block_lt_of_cell? _ _ hw790_1; first | rwa [add_block] at this | exact this) GW794.out) | (rw [add_block]; exact Nat.ne_of_lt (Nat.lt_of_lt_of_le (by have := World.block_lt_of_cell? _ _ hw790_1; first | rwa [add_block] at this | exact this) GW794.out)) | (show (Addr.add _ _).block ≠ _; rw [add_block]; exact Nat.ne_of_lt (Nat.lt_of_lt_of_le (by have := World.block_lt_of_cell? _ _ hw790_1; first | rwa [add_block] at this | exact this) GW794.out)) | (dsimp only; exact Nat.ne_of_lt (Nat.lt_of_lt_of_le (by have := World.block_lt_of_cell? _ _ hw790_1; first | rwa [add_block] at this | exact this) GW794.out))) _).trans (((cell_far (p := ⟨gb794, _, none⟩) (by first | exact Nat.ne_of_lt (Nat.lt_of_lt_of_le (by have := World.block_lt_of_cell? _ _ hw790_1; first | rwa [add_block] at this | exact this) GW794.out) | (rw [add_block]; exact Nat.ne_of_lt (Nat.lt_of_lt_of_le (by have := World.block_lt_of_cell? _ _ hw790_1; first | rwa [add_block] at this | exact this) GW794.out)) | (show (Addr.add _ _).block ≠ _; rw [add_block]; exact Nat.ne_of_lt (Nat.lt_of_lt_of_le (by have := World.block_lt_of_cell? _ _ hw790_1; first | rwa [add_block] at this | exact this) GW794.out)) | (dsimp only; exact Nat.ne_of_lt (Nat.lt_of_lt_of_le (by have := World.block_lt_of_cell? _ _ hw790_1; first | rwa [add_block] at this | exact this) GW794.out))) _).trans (hHeld.2.2.2))))⟩ (fun hHeld => ?_)
                  clear hK K
                  refine pure_ (i := 11) (N := some 9) (v := ?_) (a' := ?_) #[true, true, true, true, true, true, true, true, true, true, true, true] rfl rfl (any_of HT_.out (by kernel_rfl)) (fun _ _ _ h => h) (Or.inl ⟨by rfl, ?_⟩) ?_ ?_
                  rotate_left
                  · intro w'
                    go_simp
                    with_reducible rfl
                  rotate_left
                  · simp only [Act.put, List.setIfInBounds_toArray, List.set_cons_zero, List.set_cons_succ, i64_w, i32_w]
                    rfl
                  refine done_ (done_of HT_.out (by kernel_rfl)) ?_
                  have hnb36 := NB784_789.out
                  have hnc36 := NB789_784.out
                  have hnb37 := NB784_794.out
                  have hnc37 := NB794_784.out
                  obtain ⟨hcz38_0, hcz38_1, hfz38_0, hfz38_1⟩ := bc2_ BK784
                  try go_wp2
                  refine bodyPost_ret (results_ct rfl _ _ gb784 23 #[.int .i64 0, .int .i64 0] (0, 0) _ rfl (by refine bp_ (cs := #[.int .i64 0, .int .i64 x785001_2]) ?_ 1; refine bp_ (cs := #[.int .i64 x785000_2, .int .i64 x785001_2]) ?_ 0; refine bf_ ?_ NB784_794; refine bf_ ?_ NB784_794; exact bk_ BK784) Try.underlying23 rfl (by kernel_rfl)) rfl ?_
                  exact ⟨by first | rfl | (simp [*] <;> rfl), bw_ HB⟩
              · rw [if_neg c16] at H
                exact absurd H (by simp)
            · rw [if_neg c15] at H
              have c15b0 : decide (x7_2 < (l0.length : Int)) = false := decide_eq_false c15
              clear c15
              simp only [Option.some.injEq, Prod.mk.injEq] at H
              obtain ⟨rfl, rfl, rfl⟩ := H
              have hnb39 := NB789_784.out
              have hnc39 := NB784_789.out
              obtain ⟨hcz40_0, hcz40_1, hfz40_0, hfz40_1⟩ := bc2_ BK789
              obtain ⟨hcz41_0, hcz41_1, hfz41_0, hfz41_1⟩ := bc2_ BK784
              go_wp2
              refine bodyPost_ret (results_ct rfl _ _ gb784 23 #[.int .i64 x790000_2, .int .i64 x790001_2] (0, 0) _ rfl (by refine bp_ (cs := #[.int .i64 x790000_2, .int .i64 x785001_2]) ?_ 1; refine bp_ (cs := #[.int .i64 x785000_2, .int .i64 x785001_2]) ?_ 0; exact bk_ BK784) Try.underlying23 rfl (by kernel_rfl)) rfl ?_
              exact ⟨by first | rfl | (simp [*] <;> rfl), bw_ HB⟩
/-! ### withyref01_Pow: function 58 -/
def withyref01_Pow.l0 : Nat → Int → Int → Int → Int → Int → Int → Option (Int × Int × Int)
  | 0, _, _, _, _, _, _ => none
  | k + 1, x1, x8, x796000, x796001, x802000, x802001 => if x8 < x1 then ((withyref01_Mul.f k x802000 x802001 x796000 x796001).bind fun bt802 => (if bt802.2.2 = 0 then (withyref01_Pow.l0 k x1 (wrap64 (x8 + 1)) x796000 x796001 bt802.1 bt802.2.1) else (some (0, 0, bt802.2.2)))) else (some (x802000, x802001, 0))
def withyref01_Pow.f (k : Nat) (a0_0 : Int) (a0_1 : Int) (a1 : Int) : Option (Int × Int × Int) := (withyref01_Check.f k a0_0 a0_1).bind fun t797 => (if t797 = 0 then ((withyref01_In.f a1 0 30).bind fun t798 => (if t798 = true then ((withyref01_Int.f 1).bind fun bt799 => (withyref01_Pow.l0 k a1 0 a0_0 a0_1 bt799.1 bt799.2)) else (some (0, 0, 3)))) else (some (0, 0, t797)))
theorem withyref01_Pow.mono_l : ∀ k, (∀ y0 y1 y2 y3 y4 y5, LeO (withyref01_Pow.l0 k y0 y1 y2 y3 y4 y5) (withyref01_Pow.l0 (k + 1) y0 y1 y2 y3 y4 y5))
  | 0 => fun _ _ _ _ _ _ r h => by simp [withyref01_Pow.l0] at h
  | k + 1 => by
    have ih0 := withyref01_Pow.mono_l k
    · intro y0 y1 y2 y3 y4 y5
      unfold withyref01_Pow.l0
      repeat' first
      | (with_reducible exact ih0 _ _ _ _ _ _)
      | (with_reducible exact withyref01_Check.mono _ _ _)
      | (with_reducible exact withyref01_Mul.mono _ _ _ _ _)
      | (with_reducible exact LeO.refl _)
      | (with_reducible exact LeO.none _)
      | (with_reducible refine LeO.ite ?_ ?_)
      | (with_reducible refine LeO.bind ?_ (fun _ => ?_))
      | (with_reducible refine LeO.exc (fun _ => ?_) (fun _ => ?_))
      | exact ih0 _ _ _ _ _ _
      | exact withyref01_Check.mono _ _ _
      | exact withyref01_Mul.mono _ _ _ _ _
      | exact LeO.none _
      | refine LeO.ite ?_ ?_
      | refine LeO.bind ?_ (fun _ => ?_)
theorem withyref01_Pow.mono : ∀ a0 a1 a2 k, LeO (withyref01_Pow.f k a0 a1 a2) (withyref01_Pow.f (k + 1) a0 a1 a2) := by
  intro a0 a1 a2 k
  have ih0 := withyref01_Pow.mono_l k
  unfold withyref01_Pow.f
  repeat' first
      | (with_reducible exact ih0 _ _ _ _ _ _)
      | (with_reducible exact withyref01_Check.mono _ _ _)
      | (with_reducible exact withyref01_Mul.mono _ _ _ _ _)
      | (with_reducible exact LeO.refl _)
      | (with_reducible exact LeO.none _)
      | (with_reducible refine LeO.ite ?_ ?_)
      | (with_reducible refine LeO.bind ?_ (fun _ => ?_))
      | (with_reducible refine LeO.exc (fun _ => ?_) (fun _ => ?_))
      | exact ih0 _ _ _ _ _ _
      | exact withyref01_Check.mono _ _ _
      | exact withyref01_Mul.mono _ _ _ _ _
      | exact LeO.none _
      | refine LeO.ite ?_ ?_
      | refine LeO.bind ?_ (fun _ => ?_)
set_option maxHeartbeats 8000000 in
set_option maxRecDepth 100000 in
theorem withyref01_Pow.calls (k : Nat) (a0_0 : Int) (a0_1 : Int) (a1 : Int) (r1 : Int) (r2 : Int) (r3 : Int) (w : World) (h : withyref01_Pow.f k a0_0 a0_1 a1 = some (r1, r2, r3)) :
    Calls Try.prog 58 #[.agg #[.int .i64 a0_0, .int .i64 a0_1], .int .i64 a1] w fun e w' => e = .returned (.tuple #[.agg #[.int .i64 r1, .int .i64 r2], .int .i64 r3]) ∧ Below w.heap.size w w' := by
  have hu23 := Try.underlying23
  have HB := Aside0.mk (Below.refl w.heap.size w)
  have H : ((withyref01_Check.f k a0_0 a0_1).bind fun t797 => (if t797 = 0 then ((withyref01_In.f a1 0 30).bind fun t798 => (if t798 = true then ((withyref01_Int.f 1).bind fun bt799 => (withyref01_Pow.l0 k a1 0 a0_0 a0_1 bt799.1 bt799.2)) else (some (0, 0, 3)))) else (some (0, 0, t797)))) = some (r1, r2, r3) := h
  clear h
  replace H := Option.bind_eq_some_iff.mp H
  obtain ⟨t797, A30, H⟩ := H
  replace H : (if t797 = 0 then ((withyref01_In.f a1 0 30).bind fun t798 => (if t798 = true then ((withyref01_Int.f 1).bind fun bt799 => (withyref01_Pow.l0 k a1 0 a0_0 a0_1 bt799.1 bt799.2)) else (some (0, 0, 3)))) else (some (0, 0, t797))) = some (r1, r2, r3) := H
  have A3 := Aside0.mk A30
  clear A30
  by_cases c4 : t797 = 0
  · rw [if_pos c4] at H
    have c4b0 : (t797 == 0) = true := beq_iff_eq.mpr c4
    have c4b1 : (t797 != 0) = false := bne_eq_false_iff_eq.mpr c4
    clear c4
    replace H := Option.bind_eq_some_iff.mp H
    obtain ⟨t798, A50, H⟩ := H
    replace H : (if t798 = true then ((withyref01_Int.f 1).bind fun bt799 => (withyref01_Pow.l0 k a1 0 a0_0 a0_1 bt799.1 bt799.2)) else (some (0, 0, 3))) = some (r1, r2, r3) := H
    have A5 := Aside0.mk A50
    clear A50
    by_cases c6 : t798 = true
    · subst c6
      have H1 : ((withyref01_Int.f 1).bind fun bt799 => (withyref01_Pow.l0 k a1 0 a0_0 a0_1 bt799.1 bt799.2)) = some (r1, r2, r3) := by rw [if_pos rfl] at H; exact H
      clear H
      have H := H1
      clear H1
      replace H := Option.bind_eq_some_iff.mp H
      obtain ⟨⟨t799, t800⟩, A70, H⟩ := H
      replace H : (withyref01_Pow.l0 k a1 0 a0_0 a0_1 t799 t800) = some (r1, r2, r3) := H
      have A7 := Aside0.mk A70
      clear A70
      have H' := Aside0.mk H
      clear H
      go_enter Try.func58, Try.ntmps58
      go_wp2_with (first | ((with_reducible refine gate_dst (N := 2) rfl ?_); refine box_event ?hg (N := 2) ?hd (cs := #[.int .i64 a0_0, .int .i64 a0_1]) (t := 23) ?hr ?_; (case hd => rfl); (case hg => rfl); (case hr => first | (go_simp; done) | (go_simp; rfl)); intro gb795 hg w8 hbox hb; have BK795 := Aside0.mk hbox; have GW795 := bwg_ HB hg; have GE795 := bwg_ HB hg; replace HB := bws_ HB hb; clear hb hbox hg) | ((with_reducible refine gate_dst (N := 4) rfl ?_); refine box_event ?hg (N := 4) ?hd (cs := #[.int .i64 0, .int .i64 0]) (t := 23) ?hr ?_; (case hd => rfl); (case hg => rfl); (case hr => first | (go_simp; done) | (go_simp; rfl)); intro gb796 hg w9 hbox hb; have BK796 := Aside0.mk hbox; have GW796 := bwg_ HB hg; have GE796 := bwg_ HB hg; replace HB := bws_ HB hb; have NB795_796 := bkl_ BK795 hg; have NB796_795 := bkr_ BK795 hg; replace BK795 := bkb_ BK795 hb; clear hb hbox hg; have hnb10 := NB795_796.out; have hnc10 := NB796_795.out; obtain ⟨hcz11_0, hcz11_1, hfz11_0, hfz11_1⟩ := bc2_ BK795) | ((with_reducible refine gate_callee (f := 41) rfl ?_); refine gla_ (some 12) Try.func41 #[.agg #[.int .i64 a0_0, .int .i64 a0_1]] ?_; (with_reducible refine (withyref01_Check.calls k a0_0 a0_1 t797 _ A3.out).mono ?_); rintro e w12 ⟨rfl, hb⟩; refine ⟨_, rfl, ?_⟩; replace BK795 := bkb_ BK795 hb; replace BK796 := bkb_ BK796 hb; replace HB := bws_ HB hb; (try clear hb); (try clear hb2); (try clear hk); (try clear hi)) | ((with_reducible refine gate_callee (f := 42) rfl ?_); refine gla_ (some 18) Try.func42 #[.int .i64 a1, .int .i64 0, .int .i64 30] ?_; (with_reducible refine (withyref01_In.calls a1 0 30 true _ A5.out).mono ?_); rintro e w' ⟨rfl, ⟨nd, rfl⟩⟩; refine ⟨_, rfl, ?_⟩; (try (rw [drewN_self w12]; generalize hq_ : World.drewN w12 _ = w12; have n0_ : Aside0 (w12.heap[gb795]? = some (.cells #[.int .i64 a0_0, .int .i64 a0_1] 23 (0, 0))) := ⟨by rw [← hq_]; exact (bk_ BK795)⟩; have n1_ : Aside0 (w12.heap[gb796]? = some (.cells #[.int .i64 0, .int .i64 0] 23 (0, 0))) := ⟨by rw [← hq_]; exact (bk_ BK796)⟩; have n2_ : Aside0 (Below w.heap.size w w12) := ⟨by rw [← hq_]; exact (bw_ HB)⟩; clear BK795 BK796 HB hq_; have BK795 := n0_; have BK796 := n1_; have HB := n2_; clear n0_ n1_ n2_))) | ((with_reducible refine gate_callee (f := 100) rfl ?_); refine gla_ (some 21) Try.func100 #[.int .i64 1] ?_; (with_reducible refine (withyref01_Int.calls 1 t799 t800 _ A7.out).mono ?_); rintro e w13 ⟨rfl, hb⟩; refine ⟨_, rfl, ?_⟩; replace BK795 := bkb_ BK795 hb; replace BK796 := bkb_ BK796 hb; replace HB := bws_ HB hb; (try clear hb); (try clear hb2); (try clear hk); (try clear hi)) | ((with_reducible refine gate_dst (N := 7) rfl ?_); refine box_event ?hg (N := 7) ?hd (cs := #[.int .i64 0, .int .i64 0]) (t := 23) ?hr ?_; (case hd => rfl); (case hg => rfl); (case hr => first | (go_simp; done) | (go_simp; rfl)); intro gb801 hg w14 hbox hb; have BK801 := Aside0.mk hbox; have GW801 := bwg_ HB hg; have GE801 := bwg_ HB hg; replace HB := bws_ HB hb; have NB795_801 := bkl_ BK795 hg; have NB801_795 := bkr_ BK795 hg; replace BK795 := bkb_ BK795 hb; have NB796_801 := bkl_ BK796 hg; have NB801_796 := bkr_ BK796 hg; replace BK796 := bkb_ BK796 hb; clear hb hbox hg; have hnb15 := NB801_795.out; have hnc15 := NB795_801.out; have hnb16 := NB801_796.out; have hnc16 := NB796_801.out; obtain ⟨hcz17_0, hcz17_1, hfz17_0, hfz17_1⟩ := bc2_ BK801))
      go_loopg [8] k (fun kq v8 w' => ∃ (x8_1 : Int) (x797000_1 : Int) (x797001_1 : Int) (x802000_1 : Int) (x802001_1 : Int), v8 = .int .i64 x8_1 ∧ Aside0 (withyref01_Pow.l0 kq a1 x8_1 a0_0 a0_1 x802000_1 x802001_1 = some (r1, r2, r3)) ∧ Aside0 (kq ≤ k) ∧ Aside0 (w'.heap[gb795]? = some (.cells #[.int .i64 a0_0, .int .i64 a0_1] 23 (0, 0))) ∧ Aside0 (w'.heap[gb796]? = some (.cells #[.int .i64 x797000_1, .int .i64 x797001_1] 23 (0, 0))) ∧ Aside0 (w'.heap[gb801]? = some (.cells #[.int .i64 x802000_1, .int .i64 x802001_1] 23 (0, 0))) ∧ Aside0 (Below w.heap.size w w'))
      case atStart => exact ⟨(0), (0), (0), (t799), (t800), (by first | rfl | (simp; done) | (simp [*]; done)), H', ⟨Nat.le_refl _⟩, ⟨by refine bf_ ?_ NB795_801; refine bf_ ?_ NB795_801; exact bk_ BK795⟩, ⟨by refine bf_ ?_ NB796_801; refine bf_ ?_ NB796_801; exact bk_ BK796⟩, ⟨by refine bp_ (cs := #[.int .i64 t799, .int .i64 0]) ?_ 1; refine bp_ (cs := #[.int .i64 0, .int .i64 0]) ?_ 0; exact bk_ BK801⟩, ⟨bw_ HB⟩⟩
      case round =>
        clear H'
        try clear c1
        try clear p2
        try clear c4
        try clear c4b0
        try clear c4b1
        try clear c5
        try clear c6
        try clear c10
        try clear c15
        try clear c16
        try clear hcz11_0
        try clear hcz11_1
        try clear hcz17_0
        try clear hcz17_1
        try clear hfz11_0
        try clear hfz11_1
        try clear hfz17_0
        try clear hfz17_1
        obtain ⟨x8_1, x797000_1, x797001_1, x802000_1, x802001_1, rfl, HA, HK1, BK795, BK796, BK801, HB⟩ := hrel
        cases gk with
        | zero => exact absurd HA.out (by simp [withyref01_Pow.l0])
        | succ k1 =>
          have H := HA.out
          clear HA
          simp only [withyref01_Pow.l0] at H
          by_cases c18 : x8_1 < a1
          · rw [if_pos c18] at H
            have c18b0 : decide (x8_1 < a1) = true := decide_eq_true c18
            clear c18
            replace H := Option.bind_eq_some_iff.mp H
            obtain ⟨⟨t802, t803, t804⟩, A190, H⟩ := H
            replace H : (if t804 = 0 then (withyref01_Pow.l0 k1 a1 (wrap64 (x8_1 + 1)) a0_0 a0_1 t802 t803) else (some (0, 0, t804))) = some (r1, r2, r3) := H
            have A19 := Aside0.mk A190
            clear A190
            by_cases c20 : t804 = 0
            · rw [if_pos c20] at H
              have c20b0 : (t804 == 0) = true := beq_iff_eq.mpr c20
              have c20b1 : (t804 != 0) = false := bne_eq_false_iff_eq.mpr c20
              clear c20
              have H' := Aside0.mk H
              clear H
              have hnb21 := NB801_795.out
              have hnc21 := NB795_801.out
              have hnb22 := NB801_796.out
              have hnc22 := NB796_801.out
              obtain ⟨hcz23_0, hcz23_1, hfz23_0, hfz23_1⟩ := bc2_ BK801
              have hnb24 := NB795_796.out
              have hnc24 := NB796_795.out
              obtain ⟨hcz25_0, hcz25_1, hfz25_0, hfz25_1⟩ := bc2_ BK795
              go_wp2_with (first | ((with_reducible refine gate_callee (f := 54) rfl ?_); refine gla_ (some 30) Try.func54 #[.agg #[.int .i64 x802000_1, .int .i64 x802001_1], .agg #[.int .i64 a0_0, .int .i64 a0_1]] ?_; (with_reducible refine (withyref01_Mul.calls k1 x802000_1 x802001_1 a0_0 a0_1 t802 t803 t804 _ A19.out).mono ?_); rintro e w26 ⟨rfl, hb⟩; refine ⟨_, rfl, ?_⟩; replace BK795 := bkb_ BK795 hb; replace BK796 := bkb_ BK796 hb; replace BK801 := bkb_ BK801 hb; replace HB := bws_ HB hb; (try clear hb); (try clear hb2); (try clear hk); (try clear hi)) | ((with_reducible refine gate_dst (N := 9) rfl ?_); refine box_event ?hg (N := 9) ?hd (cs := #[.int .i64 0, .int .i64 0]) (t := 23) ?hr ?_; (case hd => rfl); (case hg => rfl); (case hr => first | (go_simp; done) | (go_simp; rfl)); intro gb805 hg w27 hbox hb; have BK805 := Aside0.mk hbox; have GW805 := bwg_ HB hg; have GE805 := bwg_ HB hg; replace HB := bws_ HB hb; have NB795_805 := bkl_ BK795 hg; have NB805_795 := bkr_ BK795 hg; replace BK795 := bkb_ BK795 hb; have NB796_805 := bkl_ BK796 hg; have NB805_796 := bkr_ BK796 hg; replace BK796 := bkb_ BK796 hb; have NB801_805 := bkl_ BK801 hg; have NB805_801 := bkr_ BK801 hg; replace BK801 := bkb_ BK801 hb; clear hb hbox hg; have hnb28 := NB805_795.out; have hnc28 := NB795_805.out; have hnb29 := NB805_796.out; have hnc29 := NB796_805.out; have hnb30 := NB805_801.out; have hnc30 := NB801_805.out; obtain ⟨hcz31_0, hcz31_1, hfz31_0, hfz31_1⟩ := bc2_ BK805; obtain ⟨hcz32_0, hcz32_1, hfz32_0, hfz32_1⟩ := bc2_ BK801))
              go_roundg k1
              case measure => have := HK1.out; omega
              case rel => exact ⟨(wrap64 (x8_1 + 1)), (x797000_1), (x797001_1), (t802), (t803), (by first | rfl | (simp; done) | (simp [*]; done)), H', ⟨by have := HK1.out; omega⟩, ⟨by refine bf_ ?_ NB795_801; refine bf_ ?_ NB795_801; refine bf_ ?_ NB795_805; refine bf_ ?_ NB795_805; exact bk_ BK795⟩, ⟨by refine bf_ ?_ NB796_801; refine bf_ ?_ NB796_801; refine bf_ ?_ NB796_805; refine bf_ ?_ NB796_805; exact bk_ BK796⟩, ⟨by refine bp_ (cs := #[.int .i64 t802, .int .i64 x802001_1]) ?_ 1; refine bp_ (cs := #[.int .i64 x802000_1, .int .i64 x802001_1]) ?_ 0; refine bf_ ?_ NB801_805; refine bf_ ?_ NB801_805; exact bk_ BK801⟩, ⟨bw_ HB⟩⟩
            · rw [if_neg c20] at H
              have c20b0 : (t804 == 0) = false := beq_eq_false_iff_ne.mpr c20
              have c20b1 : (t804 != 0) = true := bne_iff_ne.mpr c20
              simp only [Option.some.injEq, Prod.mk.injEq] at H
              obtain ⟨rfl, rfl, rfl⟩ := H
              have hnb33 := NB801_795.out
              have hnc33 := NB795_801.out
              have hnb34 := NB801_796.out
              have hnc34 := NB796_801.out
              obtain ⟨hcz35_0, hcz35_1, hfz35_0, hfz35_1⟩ := bc2_ BK801
              have hnb36 := NB795_796.out
              have hnc36 := NB796_795.out
              obtain ⟨hcz37_0, hcz37_1, hfz37_0, hfz37_1⟩ := bc2_ BK795
              go_wp2_with (first | ((with_reducible refine gate_callee (f := 54) rfl ?_); refine gla_ (some 30) Try.func54 #[.agg #[.int .i64 x802000_1, .int .i64 x802001_1], .agg #[.int .i64 a0_0, .int .i64 a0_1]] ?_; (with_reducible refine (withyref01_Mul.calls k1 x802000_1 x802001_1 a0_0 a0_1 t802 t803 t804 _ A19.out).mono ?_); rintro e w38 ⟨rfl, hb⟩; refine ⟨_, rfl, ?_⟩; replace BK795 := bkb_ BK795 hb; replace BK796 := bkb_ BK796 hb; replace BK801 := bkb_ BK801 hb; replace HB := bws_ HB hb; (try clear hb); (try clear hb2); (try clear hk); (try clear hi)) | ((with_reducible refine gate_dst (N := 9) rfl ?_); refine box_event ?hg (N := 9) ?hd (cs := #[.int .i64 0, .int .i64 0]) (t := 23) ?hr ?_; (case hd => rfl); (case hg => rfl); (case hr => first | (go_simp; done) | (go_simp; rfl)); intro gb805 hg w39 hbox hb; have BK805 := Aside0.mk hbox; have GW805 := bwg_ HB hg; have GE805 := bwg_ HB hg; replace HB := bws_ HB hb; have NB795_805 := bkl_ BK795 hg; have NB805_795 := bkr_ BK795 hg; replace BK795 := bkb_ BK795 hb; have NB796_805 := bkl_ BK796 hg; have NB805_796 := bkr_ BK796 hg; replace BK796 := bkb_ BK796 hb; have NB801_805 := bkl_ BK801 hg; have NB805_801 := bkr_ BK801 hg; replace BK801 := bkb_ BK801 hb; clear hb hbox hg; have hnb40 := NB805_795.out; have hnc40 := NB795_805.out; have hnb41 := NB805_796.out; have hnc41 := NB796_805.out; have hnb42 := NB805_801.out; have hnc42 := NB801_805.out; obtain ⟨hcz43_0, hcz43_1, hfz43_0, hfz43_1⟩ := bc2_ BK805; obtain ⟨hcz44_0, hcz44_1, hfz44_0, hfz44_1⟩ := bc2_ BK796))
              refine bodyPost_ret (results_ct rfl _ _ gb796 23 #[.int .i64 0, .int .i64 0] (0, 0) _ rfl (by refine bp_ (cs := #[.int .i64 0, .int .i64 x797001_1]) ?_ 1; refine bp_ (cs := #[.int .i64 x797000_1, .int .i64 x797001_1]) ?_ 0; refine bf_ ?_ NB796_805; refine bf_ ?_ NB796_805; exact bk_ BK796) Try.underlying23 rfl (by kernel_rfl)) rfl ?_
              exact ⟨by first | rfl | (simp [*] <;> rfl), bw_ HB⟩
          · rw [if_neg c18] at H
            have c18b0 : decide (x8_1 < a1) = false := decide_eq_false c18
            clear c18
            simp only [Option.some.injEq, Prod.mk.injEq] at H
            obtain ⟨rfl, rfl, rfl⟩ := H
            have hnb45 := NB801_795.out
            have hnc45 := NB795_801.out
            have hnb46 := NB801_796.out
            have hnc46 := NB796_801.out
            obtain ⟨hcz47_0, hcz47_1, hfz47_0, hfz47_1⟩ := bc2_ BK801
            have hnb48 := NB796_795.out
            have hnc48 := NB795_796.out
            obtain ⟨hcz49_0, hcz49_1, hfz49_0, hfz49_1⟩ := bc2_ BK796
            go_wp2
            refine bodyPost_ret (results_ct rfl _ _ gb796 23 #[.int .i64 x802000_1, .int .i64 x802001_1] (0, 0) _ rfl (by refine bp_ (cs := #[.int .i64 x802000_1, .int .i64 x797001_1]) ?_ 1; refine bp_ (cs := #[.int .i64 x797000_1, .int .i64 x797001_1]) ?_ 0; exact bk_ BK796) Try.underlying23 rfl (by kernel_rfl)) rfl ?_
            exact ⟨by first | rfl | (simp [*] <;> rfl), bw_ HB⟩
    · replace c6 := Bool.eq_false_iff.mpr c6
      subst c6
      have H1 : (some (0, 0, 3)) = some (r1, r2, r3) := by rw [if_neg (show ¬ (false = true) by decide)] at H; exact H
      clear H
      have H := H1
      clear H1
      simp only [Option.some.injEq, Prod.mk.injEq] at H
      obtain ⟨rfl, rfl, rfl⟩ := H
      go_enter Try.func58, Try.ntmps58
      go_wp2_with (first | ((with_reducible refine gate_dst (N := 2) rfl ?_); refine box_event ?hg (N := 2) ?hd (cs := #[.int .i64 a0_0, .int .i64 a0_1]) (t := 23) ?hr ?_; (case hd => rfl); (case hg => rfl); (case hr => first | (go_simp; done) | (go_simp; rfl)); intro gb795 hg w50 hbox hb; have BK795 := Aside0.mk hbox; have GW795 := bwg_ HB hg; have GE795 := bwg_ HB hg; replace HB := bws_ HB hb; clear hb hbox hg) | ((with_reducible refine gate_dst (N := 4) rfl ?_); refine box_event ?hg (N := 4) ?hd (cs := #[.int .i64 0, .int .i64 0]) (t := 23) ?hr ?_; (case hd => rfl); (case hg => rfl); (case hr => first | (go_simp; done) | (go_simp; rfl)); intro gb796 hg w51 hbox hb; have BK796 := Aside0.mk hbox; have GW796 := bwg_ HB hg; have GE796 := bwg_ HB hg; replace HB := bws_ HB hb; have NB795_796 := bkl_ BK795 hg; have NB796_795 := bkr_ BK795 hg; replace BK795 := bkb_ BK795 hb; clear hb hbox hg; have hnb52 := NB795_796.out; have hnc52 := NB796_795.out; obtain ⟨hcz53_0, hcz53_1, hfz53_0, hfz53_1⟩ := bc2_ BK795) | ((with_reducible refine gate_callee (f := 41) rfl ?_); refine gla_ (some 12) Try.func41 #[.agg #[.int .i64 a0_0, .int .i64 a0_1]] ?_; (with_reducible refine (withyref01_Check.calls k a0_0 a0_1 t797 _ A3.out).mono ?_); rintro e w54 ⟨rfl, hb⟩; refine ⟨_, rfl, ?_⟩; replace BK795 := bkb_ BK795 hb; replace BK796 := bkb_ BK796 hb; replace HB := bws_ HB hb; (try clear hb); (try clear hb2); (try clear hk); (try clear hi)) | ((with_reducible refine gate_callee (f := 42) rfl ?_); refine gla_ (some 18) Try.func42 #[.int .i64 a1, .int .i64 0, .int .i64 30] ?_; (with_reducible refine (withyref01_In.calls a1 0 30 false _ A5.out).mono ?_); rintro e w' ⟨rfl, ⟨nd, rfl⟩⟩; refine ⟨_, rfl, ?_⟩; (try (rw [drewN_self w54]; generalize hq_ : World.drewN w54 _ = w54; have n0_ : Aside0 (w54.heap[gb795]? = some (.cells #[.int .i64 a0_0, .int .i64 a0_1] 23 (0, 0))) := ⟨by rw [← hq_]; exact (bk_ BK795)⟩; have n1_ : Aside0 (w54.heap[gb796]? = some (.cells #[.int .i64 0, .int .i64 0] 23 (0, 0))) := ⟨by rw [← hq_]; exact (bk_ BK796)⟩; have n2_ : Aside0 (Below w.heap.size w w54) := ⟨by rw [← hq_]; exact (bw_ HB)⟩; clear BK795 BK796 HB hq_; have BK795 := n0_; have BK796 := n1_; have HB := n2_; clear n0_ n1_ n2_)); obtain ⟨hcz55_0, hcz55_1, hfz55_0, hfz55_1⟩ := bc2_ BK796))
      refine bodyPost_ret (results_ct rfl _ _ gb796 23 #[.int .i64 0, .int .i64 0] (0, 0) _ rfl (by refine bp_ (cs := #[.int .i64 0, .int .i64 0]) ?_ 1; refine bp_ (cs := #[.int .i64 0, .int .i64 0]) ?_ 0; exact bk_ BK796) Try.underlying23 rfl (by kernel_rfl)) rfl ?_
      exact ⟨by first | rfl | (simp [*] <;> rfl), bw_ HB⟩
  · rw [if_neg c4] at H
    have c4b0 : (t797 == 0) = false := beq_eq_false_iff_ne.mpr c4
    have c4b1 : (t797 != 0) = true := bne_iff_ne.mpr c4
    simp only [Option.some.injEq, Prod.mk.injEq] at H
    obtain ⟨rfl, rfl, rfl⟩ := H
    go_enter Try.func58, Try.ntmps58
    go_wp2_with (first | ((with_reducible refine gate_dst (N := 2) rfl ?_); refine box_event ?hg (N := 2) ?hd (cs := #[.int .i64 a0_0, .int .i64 a0_1]) (t := 23) ?hr ?_; (case hd => rfl); (case hg => rfl); (case hr => first | (go_simp; done) | (go_simp; rfl)); intro gb795 hg w56 hbox hb; have BK795 := Aside0.mk hbox; have GW795 := bwg_ HB hg; have GE795 := bwg_ HB hg; replace HB := bws_ HB hb; clear hb hbox hg) | ((with_reducible refine gate_dst (N := 4) rfl ?_); refine box_event ?hg (N := 4) ?hd (cs := #[.int .i64 0, .int .i64 0]) (t := 23) ?hr ?_; (case hd => rfl); (case hg => rfl); (case hr => first | (go_simp; done) | (go_simp; rfl)); intro gb796 hg w57 hbox hb; have BK796 := Aside0.mk hbox; have GW796 := bwg_ HB hg; have GE796 := bwg_ HB hg; replace HB := bws_ HB hb; have NB795_796 := bkl_ BK795 hg; have NB796_795 := bkr_ BK795 hg; replace BK795 := bkb_ BK795 hb; clear hb hbox hg; have hnb58 := NB795_796.out; have hnc58 := NB796_795.out; obtain ⟨hcz59_0, hcz59_1, hfz59_0, hfz59_1⟩ := bc2_ BK795) | ((with_reducible refine gate_callee (f := 41) rfl ?_); refine gla_ (some 12) Try.func41 #[.agg #[.int .i64 a0_0, .int .i64 a0_1]] ?_; (with_reducible refine (withyref01_Check.calls k a0_0 a0_1 t797 _ A3.out).mono ?_); rintro e w60 ⟨rfl, hb⟩; refine ⟨_, rfl, ?_⟩; replace BK795 := bkb_ BK795 hb; replace BK796 := bkb_ BK796 hb; replace HB := bws_ HB hb; (try clear hb); (try clear hb2); (try clear hk); (try clear hi); obtain ⟨hcz61_0, hcz61_1, hfz61_0, hfz61_1⟩ := bc2_ BK796))
    refine bodyPost_ret (results_ct rfl _ _ gb796 23 #[.int .i64 0, .int .i64 0] (0, 0) _ rfl (by refine bp_ (cs := #[.int .i64 0, .int .i64 0]) ?_ 1; refine bp_ (cs := #[.int .i64 0, .int .i64 0]) ?_ 0; exact bk_ BK796) Try.underlying23 rfl (by kernel_rfl)) rfl ?_
    exact ⟨by first | rfl | (simp [*] <;> rfl), bw_ HB⟩
end Go.Proofs.Ytakcdoahpbeckaa.H
