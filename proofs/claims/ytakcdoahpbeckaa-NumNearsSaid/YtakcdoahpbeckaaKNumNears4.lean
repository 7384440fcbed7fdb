/- NumNears: the printed functions it reaches, with their walks. Laid by wip/claimpack.py out of what wip/hprint.py printed. -/
import Derived.Test.YtakcdoahpbeckaaKNumNears3
namespace Go.Proofs.Ytakcdoahpbeckaa.H
open Go.RowKit Go.Proofs.YtakcdoahpbeckaaW.PrintWords Go.Proofs.YtakcdoahpbeckaaW.PrintLast Go.Proofs.YtakcdoahpbeckaaW.PrintMore
attribute [local go_sem] max2_int min2_int max_two min_two max_three min_three max_four min_four   -- for this text's walks alone
set_option linter.unusedVariables false
set_option linter.unusedSimpArgs false

/-! ### withyref01_Near: function 64 -/
mutual
def withyref01_Near.l0 : Nat → Int → Int → Int → Int → Int → Int → Option (Int × Int × Int)
  | 0, _, _, _, _, _, _ => none
  | k + 1, x1, x8, x970000, x970001, x974000, x974001 => if x8 ≤ x1 then ((withyref01_under.f (wrap64 (x970000 * x8)) x970001).bind fun t977 => (withyref01_Near.l1 k x1 x8 t977 t977 x970000 x970001 x974000 x974001)) else ((withyref01_low.f k x974000 x974001).bind fun bt974 => (some (bt974.1, bt974.2.1, bt974.2.2)))
def withyref01_Near.l1 : Nat → Int → Int → Int → Int → Int → Int → Int → Int → Option (Int × Int × Int)
  | 0, _, _, _, _, _, _, _, _ => none
  | k + 1, x1, x8, x9, x10, x970000, x970001, x974000, x974001 => if x10 ≤ (wrap64 (x9 + 1)) then ((withyref01_gap.f x970000 x970001 x10 x8).bind fun t978 => ((withyref01_gap.f x970000 x970001 x974000 x974001).bind fun t979 => (if x974001 = 0 then (withyref01_Near.l1 k x1 x8 x9 (wrap64 (x10 + 1)) x970000 x970001 x10 x8) else (if (wrap64 (t978 * x974001)) < (wrap64 (t979 * x8)) then (withyref01_Near.l1 k x1 x8 x9 (wrap64 (x10 + 1)) x970000 x970001 x10 x8) else (if (wrap64 (t978 * x974001)) = (wrap64 (t979 * x8)) then ((withyref01_Simpler.f x10 x8 x974000 x974001).bind fun t980 => (if t980 = true then (withyref01_Near.l1 k x1 x8 x9 (wrap64 (x10 + 1)) x970000 x970001 x10 x8) else (withyref01_Near.l1 k x1 x8 x9 (wrap64 (x10 + 1)) x970000 x970001 x974000 x974001))) else (withyref01_Near.l1 k x1 x8 x9 (wrap64 (x10 + 1)) x970000 x970001 x974000 x974001)))))) else (withyref01_Near.l0 k x1 (wrap64 (x8 + 1)) x970000 x970001 x974000 x974001)
end
def withyref01_Near.f (k : Nat) (a0_0 : Int) (a0_1 : Int) (a1 : Int) : Option (Int × Int × Int) := (withyref01_Check.f k a0_0 a0_1).bind fun t971 => (if t971 = 0 then ((withyref01_In.f a1 1 1000).bind fun t972 => (if t972 = true then (if a0_1 ≤ a1 then (some (a0_0, a0_1, 0)) else (withyref01_Near.l0 k a1 1 a0_0 a0_1 0 0)) else (some (0, 0, 3)))) else (some (0, 0, t971)))
theorem withyref01_Near.mono_l : ∀ k, (∀ y0 y1 y2 y3 y4 y5, LeO (withyref01_Near.l0 k y0 y1 y2 y3 y4 y5) (withyref01_Near.l0 (k + 1) y0 y1 y2 y3 y4 y5)) ∧ (∀ y0 y1 y2 y3 y4 y5 y6 y7, LeO (withyref01_Near.l1 k y0 y1 y2 y3 y4 y5 y6 y7) (withyref01_Near.l1 (k + 1) y0 y1 y2 y3 y4 y5 y6 y7))
  | 0 => ⟨fun _ _ _ _ _ _ r h => by simp [withyref01_Near.l0] at h, fun _ _ _ _ _ _ _ _ r h => by simp [withyref01_Near.l1] at h⟩
  | k + 1 => by
    obtain ⟨ih0, ih1⟩ := withyref01_Near.mono_l k
    refine ⟨?_, ?_⟩
    · intro y0 y1 y2 y3 y4 y5
      unfold withyref01_Near.l0
      repeat' first
      | (with_reducible exact ih0 _ _ _ _ _ _)
      | (with_reducible exact ih1 _ _ _ _ _ _ _ _)
      | (with_reducible exact withyref01_Check.mono _ _ _)
      | (with_reducible exact withyref01_low.mono _ _ _)
      | (with_reducible exact LeO.refl _)
      | (with_reducible exact LeO.none _)
      | (with_reducible refine LeO.ite ?_ ?_)
      | (with_reducible refine LeO.bind ?_ (fun _ => ?_))
      | (with_reducible refine LeO.exc (fun _ => ?_) (fun _ => ?_))
      | exact ih0 _ _ _ _ _ _
      | exact ih1 _ _ _ _ _ _ _ _
      | exact withyref01_Check.mono _ _ _
      | exact withyref01_low.mono _ _ _
      | exact LeO.none _
      | refine LeO.ite ?_ ?_
      | refine LeO.bind ?_ (fun _ => ?_)
    · intro y0 y1 y2 y3 y4 y5 y6 y7
      unfold withyref01_Near.l1
      repeat' first
      | (with_reducible exact ih0 _ _ _ _ _ _)
      | (with_reducible exact ih1 _ _ _ _ _ _ _ _)
      | (with_reducible exact withyref01_Check.mono _ _ _)
      | (with_reducible exact withyref01_low.mono _ _ _)
      | (with_reducible exact LeO.refl _)
      | (with_reducible exact LeO.none _)
      | (with_reducible refine LeO.ite ?_ ?_)
      | (with_reducible refine LeO.bind ?_ (fun _ => ?_))
      | (with_reducible refine LeO.exc (fun _ => ?_) (fun _ => ?_))
      | exact ih0 _ _ _ _ _ _
      | exact ih1 _ _ _ _ _ _ _ _
      | exact withyref01_Check.mono _ _ _
      | exact withyref01_low.mono _ _ _
      | exact LeO.none _
      | refine LeO.ite ?_ ?_
      | refine LeO.bind ?_ (fun _ => ?_)
theorem withyref01_Near.mono : ∀ a0 a1 a2 k, LeO (withyref01_Near.f k a0 a1 a2) (withyref01_Near.f (k + 1) a0 a1 a2) := by
  intro a0 a1 a2 k
  obtain ⟨ih0, ih1⟩ := withyref01_Near.mono_l k
  unfold withyref01_Near.f
  repeat' first
      | (with_reducible exact ih0 _ _ _ _ _ _)
      | (with_reducible exact ih1 _ _ _ _ _ _ _ _)
      | (with_reducible exact withyref01_Check.mono _ _ _)
      | (with_reducible exact withyref01_low.mono _ _ _)
      | (with_reducible exact LeO.refl _)
      | (with_reducible exact LeO.none _)
      | (with_reducible refine LeO.ite ?_ ?_)
      | (with_reducible refine LeO.bind ?_ (fun _ => ?_))
      | (with_reducible refine LeO.exc (fun _ => ?_) (fun _ => ?_))
      | exact ih0 _ _ _ _ _ _
      | exact ih1 _ _ _ _ _ _ _ _
      | exact withyref01_Check.mono _ _ _
      | exact withyref01_low.mono _ _ _
      | exact LeO.none _
      | refine LeO.ite ?_ ?_
      | refine LeO.bind ?_ (fun _ => ?_)
def withyref01_Near.T16 : Bool × List (List Nat × List Nat) := (true, [([], []), ([], []), ([], []), ([0, 1, 2], [0, 1, 2]), ([], []), ([4], [4]), ([3, 5], [3, 5]), ([], []), ([], []), ([8], [8]), ([], []), ([10], [10]), ([7, 9, 11, 3], [7, 9, 11]), ([], []), ([12, 13], [12, 13]), ([6, 12, 0, 1, 2, 3, 4, 5, 6], [6]), ([14, 15, 0, 1, 2, 3, 4, 5, 6, 7, 8, 9, 10, 11, 12, 13, 14, 15], [14])])
def withyref01_Near.B16 : List Nat := [0, 0, 0, 7, 0, 16, 63, 0, 0, 256, 0, 1024, 3983, 0, 16271, 8191, 65535]
theorem withyref01_Near.tab16 : rtab .any (opsOf Try.f64 16) = withyref01_Near.T16 := by kernel_rfl
theorem withyref01_Near.bits16 : waitsOk withyref01_Near.T16.2 withyref01_Near.B16 = true := by kernel_rfl
set_option maxHeartbeats 8000000 in
set_option maxRecDepth 100000 in
theorem withyref01_Near.calls (k : Nat) (a0_0 : Int) (a0_1 : Int) (a1 : Int) (r1 : Int) (r2 : Int) (r3 : Int) (w : World) (h : withyref01_Near.f k a0_0 a0_1 a1 = some (r1, r2, r3)) :
    Calls Try.prog 64 #[.agg #[.int .i64 a0_0, .int .i64 a0_1], .int .i64 a1] w fun e w' => e = .returned (.tuple #[.agg #[.int .i64 r1, .int .i64 r2], .int .i64 r3]) ∧ Below w.heap.size w w' := by
 have hu23 := Try.underlying23
 have HB := Aside0.mk (Below.refl w.heap.size w)
 have H : ((withyref01_Check.f k a0_0 a0_1).bind fun t971 => (if t971 = 0 then ((withyref01_In.f a1 1 1000).bind fun t972 => (if t972 = true then (if a0_1 ≤ a1 then (some (a0_0, a0_1, 0)) else (withyref01_Near.l0 k a1 1 a0_0 a0_1 0 0)) else (some (0, 0, 3)))) else (some (0, 0, t971)))) = some (r1, r2, r3) := h
 clear h
 replace H := Option.bind_eq_some_iff.mp H
 obtain ⟨t971, A30, H⟩ := H
 replace H : (if t971 = 0 then ((withyref01_In.f a1 1 1000).bind fun t972 => (if t972 = true then (if a0_1 ≤ a1 then (some (a0_0, a0_1, 0)) else (withyref01_Near.l0 k a1 1 a0_0 a0_1 0 0)) else (some (0, 0, 3)))) else (some (0, 0, t971))) = some (r1, r2, r3) := H
 have A3 := Aside0.mk A30
 clear A30
 by_cases c4 : t971 = 0
 · rw [if_pos c4] at H
   have c4b0 : (t971 == 0) = true := beq_iff_eq.mpr c4
   have c4b1 : (t971 != 0) = false := bne_eq_false_iff_eq.mpr c4
   clear c4
   replace H := Option.bind_eq_some_iff.mp H
   obtain ⟨t972, A50, H⟩ := H
   replace H : (if t972 = true then (if a0_1 ≤ a1 then (some (a0_0, a0_1, 0)) else (withyref01_Near.l0 k a1 1 a0_0 a0_1 0 0)) else (some (0, 0, 3))) = some (r1, r2, r3) := H
   have A5 := Aside0.mk A50
   clear A50
   by_cases c6 : t972 = true
   · subst c6
     have H1 : (if a0_1 ≤ a1 then (some (a0_0, a0_1, 0)) else (withyref01_Near.l0 k a1 1 a0_0 a0_1 0 0)) = some (r1, r2, r3) := by rw [if_pos rfl] at H; exact H
     clear H
     have H := H1
     clear H1
     by_cases c7 : a0_1 ≤ a1
     · rw [if_pos c7] at H
       have c7b0 : decide (a0_1 ≤ a1) = true := decide_eq_true c7
       clear c7
       simp only [Option.some.injEq, Prod.mk.injEq] at H
       obtain ⟨rfl, rfl, rfl⟩ := H
       as_aux_lemma =>
        go_enter Try.func64, Try.ntmps64
        go_wp2_with (first | ((with_reducible refine gate_dst (N := 2) rfl ?_); refine box_event ?hg (N := 2) ?hd (cs := #[.int .i64 a0_0, .int .i64 a0_1]) (t := 23) ?hr ?_; (case hd => rfl); (case hg => rfl); (case hr => first | (go_simp; done) | (go_simp; rfl)); intro gb969 hg w8 hbox hb; have BK969 := Aside0.mk hbox; have GW969 := bwg_ HB hg; have GE969 := bwg_ HB hg; replace HB := bws_ HB hb; clear hb hbox hg) | ((with_reducible refine gate_dst (N := 4) rfl ?_); refine box_event ?hg (N := 4) ?hd (cs := #[.int .i64 0, .int .i64 0]) (t := 23) ?hr ?_; (case hd => rfl); (case hg => rfl); (case hr => first | (go_simp; done) | (go_simp; rfl)); intro gb970 hg w9 hbox hb; have BK970 := Aside0.mk hbox; have GW970 := bwg_ HB hg; have GE970 := bwg_ HB hg; replace HB := bws_ HB hb; have NB969_970 := bkl_ BK969 hg; have NB970_969 := bkr_ BK969 hg; replace BK969 := bkb_ BK969 hb; clear hb hbox hg; have hnb10 := NB969_970.out; have hnc10 := NB970_969.out; obtain ⟨hcz11_0, hcz11_1, hfz11_0, hfz11_1⟩ := bc2_ BK969) | ((with_reducible refine gate_callee (f := 41) rfl ?_); refine gla_ (some 14) Try.func41 #[.agg #[.int .i64 a0_0, .int .i64 a0_1]] ?_; (with_reducible refine (withyref01_Check.calls k a0_0 a0_1 t971 _ A3.out).mono ?_); rintro e w12 ⟨rfl, hb⟩; refine ⟨_, rfl, ?_⟩; replace BK969 := bkb_ BK969 hb; replace BK970 := bkb_ BK970 hb; replace HB := bws_ HB hb; (try clear hb); (try clear hb2); (try clear hk); (try clear hi)) | ((with_reducible refine gate_callee (f := 42) rfl ?_); refine gla_ (some 20) Try.func42 #[.int .i64 a1, .int .i64 1, .int .i64 1000] ?_; (with_reducible refine (withyref01_In.calls a1 1 1000 true _ A5.out).mono ?_); rintro e w' ⟨rfl, ⟨nd, rfl⟩⟩; refine ⟨_, rfl, ?_⟩; (try (rw [drewN_self w12]; generalize hq_ : World.drewN w12 _ = w12; have n0_ : Aside0 (w12.heap[gb969]? = some (.cells #[.int .i64 a0_0, .int .i64 a0_1] 23 (0, 0))) := ⟨by rw [← hq_]; exact (bk_ BK969)⟩; have n1_ : Aside0 (w12.heap[gb970]? = some (.cells #[.int .i64 0, .int .i64 0] 23 (0, 0))) := ⟨by rw [← hq_]; exact (bk_ BK970)⟩; have n2_ : Aside0 (Below w.heap.size w w12) := ⟨by rw [← hq_]; exact (bw_ HB)⟩; clear BK969 BK970 HB hq_; have BK969 := n0_; have BK970 := n1_; have HB := n2_; clear n0_ n1_ n2_)); obtain ⟨hcz13_0, hcz13_1, hfz13_0, hfz13_1⟩ := bc2_ BK969; obtain ⟨hcz14_0, hcz14_1, hfz14_0, hfz14_1⟩ := bc2_ BK970))
        refine bodyPost_ret (results_ct rfl _ _ gb970 23 #[.int .i64 a0_0, .int .i64 a0_1] (0, 0) _ rfl (by refine bp_ (cs := #[.int .i64 a0_0, .int .i64 0]) ?_ 1; refine bp_ (cs := #[.int .i64 0, .int .i64 0]) ?_ 0; exact bk_ BK970) Try.underlying23 rfl (by kernel_rfl)) rfl ?_
        exact ⟨by first | rfl | (simp [*] <;> rfl), bw_ HB⟩
     · rw [if_neg c7] at H
       have c7b0 : decide (a0_1 ≤ a1) = false := decide_eq_false c7
       clear c7
       have H' := Aside0.mk H
       clear H
       as_aux_lemma =>
        go_enter Try.func64, Try.ntmps64
        go_wp2_with (first | ((with_reducible refine gate_dst (N := 2) rfl ?_); refine box_event ?hg (N := 2) ?hd (cs := #[.int .i64 a0_0, .int .i64 a0_1]) (t := 23) ?hr ?_; (case hd => rfl); (case hg => rfl); (case hr => first | (go_simp; done) | (go_simp; rfl)); intro gb969 hg w15 hbox hb; have BK969 := Aside0.mk hbox; have GW969 := bwg_ HB hg; have GE969 := bwg_ HB hg; replace HB := bws_ HB hb; clear hb hbox hg) | ((with_reducible refine gate_dst (N := 4) rfl ?_); refine box_event ?hg (N := 4) ?hd (cs := #[.int .i64 0, .int .i64 0]) (t := 23) ?hr ?_; (case hd => rfl); (case hg => rfl); (case hr => first | (go_simp; done) | (go_simp; rfl)); intro gb970 hg w16 hbox hb; have BK970 := Aside0.mk hbox; have GW970 := bwg_ HB hg; have GE970 := bwg_ HB hg; replace HB := bws_ HB hb; have NB969_970 := bkl_ BK969 hg; have NB970_969 := bkr_ BK969 hg; replace BK969 := bkb_ BK969 hb; clear hb hbox hg; have hnb17 := NB969_970.out; have hnc17 := NB970_969.out; obtain ⟨hcz18_0, hcz18_1, hfz18_0, hfz18_1⟩ := bc2_ BK969) | ((with_reducible refine gate_callee (f := 41) rfl ?_); refine gla_ (some 14) Try.func41 #[.agg #[.int .i64 a0_0, .int .i64 a0_1]] ?_; (with_reducible refine (withyref01_Check.calls k a0_0 a0_1 t971 _ A3.out).mono ?_); rintro e w19 ⟨rfl, hb⟩; refine ⟨_, rfl, ?_⟩; replace BK969 := bkb_ BK969 hb; replace BK970 := bkb_ BK970 hb; replace HB := bws_ HB hb; (try clear hb); (try clear hb2); (try clear hk); (try clear hi)) | ((with_reducible refine gate_callee (f := 42) rfl ?_); refine gla_ (some 20) Try.func42 #[.int .i64 a1, .int .i64 1, .int .i64 1000] ?_; (with_reducible refine (withyref01_In.calls a1 1 1000 true _ A5.out).mono ?_); rintro e w' ⟨rfl, ⟨nd, rfl⟩⟩; refine ⟨_, rfl, ?_⟩; obtain ⟨hcz20_0, hcz20_1, hfz20_0, hfz20_1⟩ := bc2_ BK969) | ((with_reducible refine gate_dst (N := 7) rfl ?_); refine box_event ?hg (N := 7) ?hd (cs := #[.int .i64 0, .int .i64 0]) (t := 23) ?hr ?_; (case hd => rfl); (case hg => rfl); (case hr => first | (go_simp; done) | (go_simp; rfl)); intro gb973 hg w21 hbox hb; have BK973 := Aside0.mk hbox; have GW973 := bwg_ HB hg; have GE973 := bwg_ HB hg; replace HB := bws_ HB hb; have NB969_973 := bkl_ BK969 hg; have NB973_969 := bkr_ BK969 hg; replace BK969 := bkb_ BK969 hb; have NB970_973 := bkl_ BK970 hg; have NB973_970 := bkr_ BK970 hg; replace BK970 := bkb_ BK970 hb; clear hb hbox hg))
        go_loopg [8] k (fun kq v8 w' => ∃ (x8_1 : Int) (x974000_1 : Int) (x974001_1 : Int), v8 = .int .i64 x8_1 ∧ Aside0 (withyref01_Near.l0 kq a1 x8_1 a0_0 a0_1 x974000_1 x974001_1 = some (r1, r2, r3)) ∧ Aside0 (kq ≤ k) ∧ Aside0 (w'.heap[gb969]? = some (.cells #[.int .i64 a0_0, .int .i64 a0_1] 23 (0, 0))) ∧ Aside0 (w'.heap[gb970]? = some (.cells #[.int .i64 0, .int .i64 0] 23 (0, 0))) ∧ Aside0 (w'.heap[gb973]? = some (.cells #[.int .i64 x974000_1, .int .i64 x974001_1] 23 (0, 0))) ∧ Aside0 (Below w.heap.size w w'))
        case atStart => exact ⟨(1), (0), (0), (by first | rfl | (simp; done) | (simp [*]; done)), H', ⟨Nat.le_refl _⟩, ⟨by exact bk_ BK969⟩, ⟨by exact bk_ BK970⟩, ⟨by exact bk_ BK973⟩, ⟨bw_ HB⟩⟩
        case round =>
         clear H'
         try clear c1
         try clear p2
         try clear c4
         try clear c4b0
         try clear c4b1
         try clear c6
         try clear c7
         try clear c7b0
         try clear c10
         try clear c17
         try clear hcz11_0
         try clear hcz11_1
         try clear hcz13_0
         try clear hcz13_1
         try clear hcz14_0
         try clear hcz14_1
         try clear hcz18_0
         try clear hcz18_1
         try clear hcz20_0
         try clear hcz20_1
         try clear hfz11_0
         try clear hfz11_1
         try clear hfz13_0
         try clear hfz13_1
         try clear hfz14_0
         try clear hfz14_1
         try clear hfz18_0
         try clear hfz18_1
         try clear hfz20_0
         try clear hfz20_1
         obtain ⟨x8_1, x974000_1, x974001_1, rfl, HA, HK1, BK969, BK970, BK973, HB⟩ := hrel
         cases gk with
         | zero => exact absurd HA.out (by simp [withyref01_Near.l0])
         | succ k1 =>
          have H := HA.out
          clear HA
          simp only [withyref01_Near.l0] at H
          by_cases c22 : x8_1 ≤ a1
          · rw [if_pos c22] at H
            have c22b0 : decide (x8_1 ≤ a1) = true := decide_eq_true c22
            clear c22
            replace H := Option.bind_eq_some_iff.mp H
            obtain ⟨t977, A230, H⟩ := H
            replace H : (withyref01_Near.l1 k1 a1 x8_1 t977 t977 a0_0 a0_1 x974000_1 x974001_1) = some (r1, r2, r3) := H
            have A23 := Aside0.mk A230
            clear A230
            have H' := Aside0.mk H
            clear H
            have hnb24 := NB969_970.out
            have hnc24 := NB970_969.out
            have hnb25 := NB969_973.out
            have hnc25 := NB973_969.out
            obtain ⟨hcz26_0, hcz26_1, hfz26_0, hfz26_1⟩ := bc2_ BK969
            go_wp2_with (first | ((with_reducible refine gate_callee (f := 76) rfl ?_); refine gla_ (some 39) Try.func76 #[.int .i64 (wrap64 (a0_0 * x8_1)), .int .i64 a0_1] ?_; (with_reducible refine (withyref01_under.calls (wrap64 (a0_0 * x8_1)) a0_1 t977 _ A23.out).mono ?_); rintro e w' ⟨rfl, ⟨nd, rfl⟩⟩; refine ⟨_, rfl, ?_⟩))
            go_loopg [10] k1 (fun kq v10 w' => ∃ (x10_2 : Int) (x974000_2 : Int) (x974001_2 : Int), v10 = .int .i64 x10_2 ∧ Aside0 (withyref01_Near.l1 kq a1 x8_1 t977 x10_2 a0_0 a0_1 x974000_2 x974001_2 = some (r1, r2, r3)) ∧ Aside0 (kq ≤ k1) ∧ Aside0 (w'.heap[gb969]? = some (.cells #[.int .i64 a0_0, .int .i64 a0_1] 23 (0, 0))) ∧ Aside0 (w'.heap[gb970]? = some (.cells #[.int .i64 0, .int .i64 0] 23 (0, 0))) ∧ Aside0 (w'.heap[gb973]? = some (.cells #[.int .i64 x974000_2, .int .i64 x974001_2] 23 (0, 0))) ∧ Aside0 (Below w.heap.size w w'))
            case atStart => exact ⟨(t977), (x974000_1), (x974001_1), (by first | rfl | (simp; done) | (simp [*]; done)), H', ⟨Nat.le_refl _⟩, ⟨by exact bk_ BK969⟩, ⟨by exact bk_ BK970⟩, ⟨by exact bk_ BK973⟩, ⟨bw_ HB⟩⟩
            case round =>
             clear H'
             try clear c1
             try clear c2
             try clear p2
             try clear c4
             try clear c4b0
             try clear c4b1
             try clear c6
             try clear p6
             try clear c7
             try clear c7b0
             try clear c10
             try clear c17
             try clear c22
             try clear c22b0
             try clear c24
             try clear c25
             try clear hcz11_0
             try clear hcz11_1
             try clear hcz13_0
             try clear hcz13_1
             try clear hcz14_0
             try clear hcz14_1
             try clear hcz18_0
             try clear hcz18_1
             try clear hcz20_0
             try clear hcz20_1
             try clear hcz26_0
             try clear hcz26_1
             try clear hfz11_0
             try clear hfz11_1
             try clear hfz13_0
             try clear hfz13_1
             try clear hfz14_0
             try clear hfz14_1
             try clear hfz18_0
             try clear hfz18_1
             try clear hfz20_0
             try clear hfz20_1
             try clear hfz26_0
             try clear hfz26_1
             try clear p2
             obtain ⟨x10_2, x974000_2, x974001_2, rfl, HA, HK2, BK969, BK970, BK973, HB⟩ := hrel
             cases gk with
             | zero => exact absurd HA.out (by simp [withyref01_Near.l1])
             | succ k2 =>
              have H := HA.out
              clear HA
              simp only [withyref01_Near.l1] at H
              by_cases c27 : x10_2 ≤ (wrap64 (t977 + 1))
              · rw [if_pos c27] at H
                have c27b0 : decide (x10_2 ≤ (wrap64 (t977 + 1))) = true := decide_eq_true c27
                clear c27
                replace H := Option.bind_eq_some_iff.mp H
                obtain ⟨t978, A280, H⟩ := H
                replace H : ((withyref01_gap.f a0_0 a0_1 x974000_2 x974001_2).bind fun t979 => (if x974001_2 = 0 then (withyref01_Near.l1 k2 a1 x8_1 t977 (wrap64 (x10_2 + 1)) a0_0 a0_1 x10_2 x8_1) else (if (wrap64 (t978 * x974001_2)) < (wrap64 (t979 * x8_1)) then (withyref01_Near.l1 k2 a1 x8_1 t977 (wrap64 (x10_2 + 1)) a0_0 a0_1 x10_2 x8_1) else (if (wrap64 (t978 * x974001_2)) = (wrap64 (t979 * x8_1)) then ((withyref01_Simpler.f x10_2 x8_1 x974000_2 x974001_2).bind fun t980 => (if t980 = true then (withyref01_Near.l1 k2 a1 x8_1 t977 (wrap64 (x10_2 + 1)) a0_0 a0_1 x10_2 x8_1) else (withyref01_Near.l1 k2 a1 x8_1 t977 (wrap64 (x10_2 + 1)) a0_0 a0_1 x974000_2 x974001_2))) else (withyref01_Near.l1 k2 a1 x8_1 t977 (wrap64 (x10_2 + 1)) a0_0 a0_1 x974000_2 x974001_2))))) = some (r1, r2, r3) := H
                have A28 := Aside0.mk A280
                clear A280
                replace H := Option.bind_eq_some_iff.mp H
                obtain ⟨t979, A290, H⟩ := H
                replace H : (if x974001_2 = 0 then (withyref01_Near.l1 k2 a1 x8_1 t977 (wrap64 (x10_2 + 1)) a0_0 a0_1 x10_2 x8_1) else (if (wrap64 (t978 * x974001_2)) < (wrap64 (t979 * x8_1)) then (withyref01_Near.l1 k2 a1 x8_1 t977 (wrap64 (x10_2 + 1)) a0_0 a0_1 x10_2 x8_1) else (if (wrap64 (t978 * x974001_2)) = (wrap64 (t979 * x8_1)) then ((withyref01_Simpler.f x10_2 x8_1 x974000_2 x974001_2).bind fun t980 => (if t980 = true then (withyref01_Near.l1 k2 a1 x8_1 t977 (wrap64 (x10_2 + 1)) a0_0 a0_1 x10_2 x8_1) else (withyref01_Near.l1 k2 a1 x8_1 t977 (wrap64 (x10_2 + 1)) a0_0 a0_1 x974000_2 x974001_2))) else (withyref01_Near.l1 k2 a1 x8_1 t977 (wrap64 (x10_2 + 1)) a0_0 a0_1 x974000_2 x974001_2)))) = some (r1, r2, r3) := H
                have A29 := Aside0.mk A290
                clear A290
                by_cases c30 : x974001_2 = 0
                · rw [if_pos c30] at H
                  have c30b0 : (x974001_2 == 0) = true := beq_iff_eq.mpr c30
                  have c30b1 : (x974001_2 != 0) = false := bne_eq_false_iff_eq.mpr c30
                  clear c30
                  have H' := Aside0.mk H
                  clear H
                  try go_wp2
                  replace BK969 := Aside0.mk (blk_drew BK969.out)
                  replace BK970 := Aside0.mk (blk_drew BK970.out)
                  replace BK973 := Aside0.mk (blk_drew BK973.out)
                  replace HB := Aside0.mk (below_drew1 HB.out)
                  refine start_ (n := 17) (S := fun w' => w'.cell? ⟨gb969, 0, none⟩ = some (.int .i64 a0_0) ∧ w'.cell? ⟨gb969, 1, none⟩ = some (.int .i64 a0_1) ∧ w'.cell? ⟨gb973, 0, none⟩ = some (.int .i64 x974000_2) ∧ w'.cell? ⟨gb973, 1, none⟩ = some (.int .i64 x974001_2)) (ds := []) #[false, false, false, false, false, false, false, false, false, false, false, false, false, false, false, false, false] (by kernel_rfl) rfl rfl ⟨(blk_cell BK969.out 0).trans rfl, (blk_cell BK969.out 1).trans rfl, (blk_cell BK973.out 0).trans rfl, (blk_cell BK973.out 1).trans rfl⟩ (fun hHeld => ?_); refine with_tabW withyref01_Near.tab16 withyref01_Near.bits16 (fun HT_ HW_ => ?_)
                  generalize wr.drew = w31 at BK969 BK970 BK973 HB hHeld ⊢
                  refine pure_ (i := 1) (N := some 48) (v := ?_) (a' := ?_) #[false, true, false, false, false, false, false, false, false, false, false, false, false, false, false, false, false] rfl rfl (any_of HT_.out (by kernel_rfl)) (fun _ _ _ h => h) (Or.inl ⟨by rfl, ?_⟩) ?_ ?_
                  rotate_left
                  · intro w'
                    go_simp
                    with_reducible rfl
                  rotate_left
                  · simp only [Act.put, List.setIfInBounds_toArray, List.set_cons_zero, List.set_cons_succ, i64_w, i32_w]
                    rfl
                  refine pure_ (i := 2) (N := some 49) (v := ?_) (a' := ?_) #[false, true, true, false, false, false, false, false, false, false, false, false, false, false, false, false, false] rfl rfl (any_of HT_.out (by kernel_rfl)) (fun _ _ _ h => h) (Or.inl ⟨by rfl, ?_⟩) ?_ ?_
                  rotate_left
                  · intro w'
                    go_simp
                    with_reducible rfl
                  rotate_left
                  · simp only [Act.put, List.setIfInBounds_toArray, List.set_cons_zero, List.set_cons_succ, i64_w, i32_w]
                    rfl
                  refine pure_ (i := 4) (N := some 51) (v := ?_) (a' := ?_) #[false, true, true, false, true, false, false, false, false, false, false, false, false, false, false, false, false] rfl rfl (any_of HT_.out (by kernel_rfl)) (fun _ _ _ h => h) (Or.inl ⟨by rfl, ?_⟩) ?_ ?_
                  rotate_left
                  · intro w'
                    go_simp
                    with_reducible rfl
                  rotate_left
                  · simp only [Act.put, List.setIfInBounds_toArray, List.set_cons_zero, List.set_cons_succ, i64_w, i32_w]
                    rfl
                  refine pure_ (i := 8) (N := some 55) (v := ?_) (a' := ?_) #[false, true, true, false, true, false, false, false, true, false, false, false, false, false, false, false, false] rfl rfl (any_of HT_.out (by kernel_rfl)) (fun _ _ _ h => h) (Or.inl ⟨by rfl, ?_⟩) ?_ ?_
                  rotate_left
                  · intro w'
                    go_simp
                    with_reducible rfl
                  rotate_left
                  · simp only [Act.put, List.setIfInBounds_toArray, List.set_cons_zero, List.set_cons_succ, i64_w, i32_w]
                    rfl
                  refine pure_ (i := 10) (N := some 57) (v := ?_) (a' := ?_) #[false, true, true, false, true, false, false, false, true, false, true, false, false, false, false, false, false] rfl rfl (any_of HT_.out (by kernel_rfl)) (fun _ _ _ h => h) (Or.inl ⟨by rfl, ?_⟩) ?_ ?_
                  rotate_left
                  · intro w'
                    go_simp
                    with_reducible rfl
                  rotate_left
                  · simp only [Act.put, List.setIfInBounds_toArray, List.set_cons_zero, List.set_cons_succ, i64_w, i32_w]
                    rfl
                  refine pure_ (i := 13) (N := some 60) (v := ?_) (a' := ?_) #[false, true, true, false, true, false, false, false, true, false, true, false, false, true, false, false, false] rfl rfl (any_of HT_.out (by kernel_rfl)) (fun _ _ _ h => h) (Or.inl ⟨by rfl, ?_⟩) ?_ ?_
                  rotate_left
                  · intro w'
                    go_simp
                    with_reducible rfl
                  rotate_left
                  · simp only [Act.put, List.setIfInBounds_toArray, List.set_cons_zero, List.set_cons_succ, i64_w, i32_w]
                    rfl
                  refine take_ (i := 0) (N := some 47) (v := ?_) (a' := ?_) #[true, true, true, false, true, false, false, false, true, false, true, false, false, true, false, false, false] rfl rfl (take_ofW HT_.out HW_.out (by kernel_rfl)) (fun _ _ _ h => h) (Or.inl ⟨by rfl, ?_⟩) hHeld ?_ ?_
                  rotate_left
                  · rintro w' ⟨s0, s1, s2, s3⟩
                    go_simp
                    with_reducible rfl
                  rotate_left
                  · simp only [Act.put, List.setIfInBounds_toArray, List.set_cons_zero, List.set_cons_succ, i64_w, i32_w]
                    rfl
                  refine take_ (i := 5) (N := some 52) (v := ?_) (a' := ?_) #[true, true, true, false, true, true, false, false, true, false, true, false, false, true, false, false, false] rfl rfl (take_ofW HT_.out HW_.out (by kernel_rfl)) (fun _ _ _ h => h) (Or.inl ⟨by rfl, ?_⟩) hHeld ?_ ?_
                  rotate_left
                  · rintro w' ⟨s0, s1, s2, s3⟩
                    go_simp
                    with_reducible rfl
                  rotate_left
                  · simp only [Act.put, List.setIfInBounds_toArray, List.set_cons_zero, List.set_cons_succ, i64_w, i32_w]
                    rfl
                  refine take_ (i := 7) (N := some 54) (v := ?_) (a' := ?_) #[true, true, true, false, true, true, false, true, true, false, true, false, false, true, false, false, false] rfl rfl (take_ofW HT_.out HW_.out (by kernel_rfl)) (fun _ _ _ h => h) (Or.inl ⟨by rfl, ?_⟩) hHeld ?_ ?_
                  rotate_left
                  · rintro w' ⟨s0, s1, s2, s3⟩
                    go_simp
                    with_reducible rfl
                  rotate_left
                  · simp only [Act.put, List.setIfInBounds_toArray, List.set_cons_zero, List.set_cons_succ, i64_w, i32_w]
                    rfl
                  refine take_ (i := 9) (N := some 56) (v := ?_) (a' := ?_) #[true, true, true, false, true, true, false, true, true, true, true, false, false, true, false, false, false] rfl rfl (take_ofW HT_.out HW_.out (by kernel_rfl)) (fun _ _ _ h => h) (Or.inl ⟨by rfl, ?_⟩) hHeld ?_ ?_
                  rotate_left
                  · rintro w' ⟨s0, s1, s2, s3⟩
                    go_simp
                    with_reducible rfl
                  rotate_left
                  · simp only [Act.put, List.setIfInBounds_toArray, List.set_cons_zero, List.set_cons_succ, i64_w, i32_w]
                    rfl
                  refine take_ (i := 11) (N := some 58) (v := ?_) (a' := ?_) #[true, true, true, false, true, true, false, true, true, true, true, true, false, true, false, false, false] rfl rfl (take_ofW HT_.out HW_.out (by kernel_rfl)) (fun _ _ _ h => h) (Or.inl ⟨by rfl, ?_⟩) hHeld ?_ ?_
                  rotate_left
                  · rintro w' ⟨s0, s1, s2, s3⟩
                    go_simp
                    with_reducible rfl
                  rotate_left
                  · simp only [Act.put, List.setIfInBounds_toArray, List.set_cons_zero, List.set_cons_succ, i64_w, i32_w]
                    rfl
                  refine one_ (i := 3) (N := some 50) #[true, true, true, true, true, true, false, true, true, true, true, true, false, true, false, false, false] rfl rfl (one_of HT_.out (by kernel_rfl)) (by decide) (fun K hK => ?_)
                  refine gos_ Try.func111 #[.agg #[.int .i64 a0_0, .int .i64 a0_1], .int .i64 x10_2, .int .i64 x8_1] ?_
                  with_reducible refine (withyref01_gap.calls a0_0 a0_1 x10_2 x8_1 t978 _ A28.out).mono ?_
                  rintro e w32 ⟨rfl, hb⟩
                  refine ⟨_, rfl, ?_⟩
                  replace BK969 := bkb_ BK969 hb
                  replace BK970 := bkb_ BK970 hb
                  replace BK973 := bkb_ BK973 hb
                  replace HB := bws_ HB hb
                  (try clear hb)
                  (try clear hb2)
                  (try clear hk)
                  (try clear hi)
                  refine hK.out _ _ ⟨(blk_cell BK969.out 0).trans rfl, (blk_cell BK969.out 1).trans rfl, (blk_cell BK973.out 0).trans rfl, (blk_cell BK973.out 1).trans rfl⟩ (fun hHeld => ?_)
                  clear hK K
                  refine norm_ (a' := ?_) ?_ ?_
                  rotate_left
                  · show Act.put _ (some 50) _ = _
                    simp only [Act.put, List.setIfInBounds_toArray, List.set_cons_zero, List.set_cons_succ, i64_w, i32_w]
                    rfl
                  refine pure_ (i := 6) (N := some 53) (v := ?_) (a' := ?_) #[true, true, true, true, true, true, true, true, true, true, true, true, false, true, false, false, false] rfl rfl (any_of HT_.out (by kernel_rfl)) (fun _ _ _ h => h) (Or.inl ⟨by rfl, ?_⟩) ?_ ?_
                  rotate_left
                  · intro w'
                    go_simp
                    with_reducible rfl
                  rotate_left
                  · simp only [Act.put, List.setIfInBounds_toArray, List.set_cons_zero, List.set_cons_succ, i64_w, i32_w]
                    rfl
                  refine one_ (i := 12) (N := some 59) #[true, true, true, true, true, true, true, true, true, true, true, true, true, true, false, false, false] rfl rfl (one_of HT_.out (by kernel_rfl)) (by decide) (fun K hK => ?_)
                  refine gos_ Try.func111 #[.agg #[.int .i64 a0_0, .int .i64 a0_1], .int .i64 x974000_2, .int .i64 x974001_2] ?_
                  with_reducible refine (withyref01_gap.calls a0_0 a0_1 x974000_2 x974001_2 t979 _ A29.out).mono ?_
                  rintro e w33 ⟨rfl, hb⟩
                  refine ⟨_, rfl, ?_⟩
                  replace BK969 := bkb_ BK969 hb
                  replace BK970 := bkb_ BK970 hb
                  replace BK973 := bkb_ BK973 hb
                  replace HB := bws_ HB hb
                  (try clear hb)
                  (try clear hb2)
                  (try clear hk)
                  (try clear hi)
                  refine hK.out _ _ ⟨(blk_cell BK969.out 0).trans rfl, (blk_cell BK969.out 1).trans rfl, (blk_cell BK973.out 0).trans rfl, (blk_cell BK973.out 1).trans rfl⟩ (fun hHeld => ?_)
                  clear hK K
                  refine norm_ (a' := ?_) ?_ ?_
                  rotate_left
                  · show Act.put _ (some 59) _ = _
                    simp only [Act.put, List.setIfInBounds_toArray, List.set_cons_zero, List.set_cons_succ, i64_w, i32_w]
                    rfl
                  refine pure_ (i := 14) (N := some 61) (v := ?_) (a' := ?_) #[true, true, true, true, true, true, true, true, true, true, true, true, true, true, true, false, false] rfl rfl (any_of HT_.out (by kernel_rfl)) (fun _ _ _ h => h) (Or.inl ⟨by rfl, ?_⟩) ?_ ?_
                  rotate_left
                  · intro w'
                    go_simp
                    with_reducible rfl
                  rotate_left
                  · simp only [Act.put, List.setIfInBounds_toArray, List.set_cons_zero, List.set_cons_succ, i64_w, i32_w]
                    rfl
                  refine pure_ (i := 15) (N := some 11) (v := ?_) (a' := ?_) #[true, true, true, true, true, true, true, true, true, true, true, true, true, true, true, true, false] rfl rfl (any_of HT_.out (by kernel_rfl)) (fun _ _ _ h => h) (Or.inl ⟨by rfl, ?_⟩) ?_ ?_
                  rotate_left
                  · intro w'
                    go_simp
                    with_reducible rfl
                  rotate_left
                  · simp only [Act.put, List.setIfInBounds_toArray, List.set_cons_zero, List.set_cons_succ, i64_w, i32_w]
                    rfl
                  refine pure_ (i := 16) (N := some 12) (v := ?_) (a' := ?_) #[true, true, true, true, true, true, true, true, true, true, true, true, true, true, true, true, true] rfl rfl (any_of HT_.out (by kernel_rfl)) (fun _ _ _ h => h) (Or.inl ⟨by rfl, ?_⟩) ?_ ?_
                  rotate_left
                  · intro w'
                    go_simp
                    with_reducible rfl
                  rotate_left
                  · simp only [Act.put, List.setIfInBounds_toArray, List.set_cons_zero, List.set_cons_succ, i64_w, i32_w]
                    rfl
                  refine done_ (done_of HT_.out (by kernel_rfl)) ?_
                  have hnb34 := NB973_969.out
                  have hnc34 := NB969_973.out
                  have hnb35 := NB973_970.out
                  have hnc35 := NB970_973.out
                  obtain ⟨hcz36_0, hcz36_1, hfz36_0, hfz36_1⟩ := bc2_ BK973
                  try go_wp2
                  go_roundg k2
                  case measure => have := HK1.out; have := HK2.out; omega
                  case rel => exact ⟨(wrap64 (x10_2 + 1)), (x10_2), (x8_1), (by first | rfl | (simp; done) | (simp [*]; done)), H', ⟨by have := HK1.out; have := HK2.out; omega⟩, ⟨by refine bf_ ?_ NB969_973; refine bf_ ?_ NB969_973; exact bk_ BK969⟩, ⟨by refine bf_ ?_ NB970_973; refine bf_ ?_ NB970_973; exact bk_ BK970⟩, ⟨by refine bp_ (cs := #[.int .i64 x10_2, .int .i64 x974001_2]) ?_ 1; refine bp_ (cs := #[.int .i64 x974000_2, .int .i64 x974001_2]) ?_ 0; exact bk_ BK973⟩, ⟨bw_ HB⟩⟩
                · rw [if_neg c30] at H
                  have c30b0 : (x974001_2 == 0) = false := beq_eq_false_iff_ne.mpr c30
                  have c30b1 : (x974001_2 != 0) = true := bne_iff_ne.mpr c30
                  by_cases c37 : (wrap64 (t978 * x974001_2)) < (wrap64 (t979 * x8_1))
                  · rw [if_pos c37] at H
                    have c37b0 : decide ((wrap64 (t978 * x974001_2)) < (wrap64 (t979 * x8_1))) = true := decide_eq_true c37
                    clear c37
                    have H' := Aside0.mk H
                    clear H
                    try go_wp2
                    replace BK969 := Aside0.mk (blk_drew BK969.out)
                    replace BK970 := Aside0.mk (blk_drew BK970.out)
                    replace BK973 := Aside0.mk (blk_drew BK973.out)
                    replace HB := Aside0.mk (below_drew1 HB.out)
                    refine start_ (n := 17) (S := fun w' => w'.cell? ⟨gb969, 0, none⟩ = some (.int .i64 a0_0) ∧ w'.cell? ⟨gb969, 1, none⟩ = some (.int .i64 a0_1) ∧ w'.cell? ⟨gb973, 0, none⟩ = some (.int .i64 x974000_2) ∧ w'.cell? ⟨gb973, 1, none⟩ = some (.int .i64 x974001_2)) (ds := []) #[false, false, false, false, false, false, false, false, false, false, false, false, false, false, false, false, false] (by kernel_rfl) rfl rfl ⟨(blk_cell BK969.out 0).trans rfl, (blk_cell BK969.out 1).trans rfl, (blk_cell BK973.out 0).trans rfl, (blk_cell BK973.out 1).trans rfl⟩ (fun hHeld => ?_); refine with_tabW withyref01_Near.tab16 withyref01_Near.bits16 (fun HT_ HW_ => ?_)
                    generalize wr.drew = w38 at BK969 BK970 BK973 HB hHeld ⊢
                    refine pure_ (i := 1) (N := some 48) (v := ?_) (a' := ?_) #[false, true, false, false, false, false, false, false, false, false, false, false, false, false, false, false, false] rfl rfl (any_of HT_.out (by kernel_rfl)) (fun _ _ _ h => h) (Or.inl ⟨by rfl, ?_⟩) ?_ ?_
                    rotate_left
                    · intro w'
                      go_simp
                      with_reducible rfl
                    rotate_left
                    · simp only [Act.put, List.setIfInBounds_toArray, List.set_cons_zero, List.set_cons_succ, i64_w, i32_w]
                      rfl
                    refine pure_ (i := 2) (N := some 49) (v := ?_) (a' := ?_) #[false, true, true, false, false, false, false, false, false, false, false, false, false, false, false, false, false] rfl rfl (any_of HT_.out (by kernel_rfl)) (fun _ _ _ h => h) (Or.inl ⟨by rfl, ?_⟩) ?_ ?_
                    rotate_left
                    · intro w'
                      go_simp
                      with_reducible rfl
                    rotate_left
                    · simp only [Act.put, List.setIfInBounds_toArray, List.set_cons_zero, List.set_cons_succ, i64_w, i32_w]
                      rfl
                    refine pure_ (i := 4) (N := some 51) (v := ?_) (a' := ?_) #[false, true, true, false, true, false, false, false, false, false, false, false, false, false, false, false, false] rfl rfl (any_of HT_.out (by kernel_rfl)) (fun _ _ _ h => h) (Or.inl ⟨by rfl, ?_⟩) ?_ ?_
                    rotate_left
                    · intro w'
                      go_simp
                      with_reducible rfl
                    rotate_left
                    · simp only [Act.put, List.setIfInBounds_toArray, List.set_cons_zero, List.set_cons_succ, i64_w, i32_w]
                      rfl
                    refine pure_ (i := 8) (N := some 55) (v := ?_) (a' := ?_) #[false, true, true, false, true, false, false, false, true, false, false, false, false, false, false, false, false] rfl rfl (any_of HT_.out (by kernel_rfl)) (fun _ _ _ h => h) (Or.inl ⟨by rfl, ?_⟩) ?_ ?_
                    rotate_left
                    · intro w'
                      go_simp
                      with_reducible rfl
                    rotate_left
                    · simp only [Act.put, List.setIfInBounds_toArray, List.set_cons_zero, List.set_cons_succ, i64_w, i32_w]
                      rfl
                    refine pure_ (i := 10) (N := some 57) (v := ?_) (a' := ?_) #[false, true, true, false, true, false, false, false, true, false, true, false, false, false, false, false, false] rfl rfl (any_of HT_.out (by kernel_rfl)) (fun _ _ _ h => h) (Or.inl ⟨by rfl, ?_⟩) ?_ ?_
                    rotate_left
                    · intro w'
                      go_simp
                      with_reducible rfl
                    rotate_left
                    · simp only [Act.put, List.setIfInBounds_toArray, List.set_cons_zero, List.set_cons_succ, i64_w, i32_w]
                      rfl
                    refine pure_ (i := 13) (N := some 60) (v := ?_) (a' := ?_) #[false, true, true, false, true, false, false, false, true, false, true, false, false, true, false, false, false] rfl rfl (any_of HT_.out (by kernel_rfl)) (fun _ _ _ h => h) (Or.inl ⟨by rfl, ?_⟩) ?_ ?_
                    rotate_left
                    · intro w'
                      go_simp
                      with_reducible rfl
                    rotate_left
                    · simp only [Act.put, List.setIfInBounds_toArray, List.set_cons_zero, List.set_cons_succ, i64_w, i32_w]
                      rfl
                    refine take_ (i := 0) (N := some 47) (v := ?_) (a' := ?_) #[true, true, true, false, true, false, false, false, true, false, true, false, false, true, false, false, false] rfl rfl (take_ofW HT_.out HW_.out (by kernel_rfl)) (fun _ _ _ h => h) (Or.inl ⟨by rfl, ?_⟩) hHeld ?_ ?_
                    rotate_left
                    · rintro w' ⟨s0, s1, s2, s3⟩
                      go_simp
                      with_reducible rfl
                    rotate_left
                    · simp only [Act.put, List.setIfInBounds_toArray, List.set_cons_zero, List.set_cons_succ, i64_w, i32_w]
                      rfl
                    refine take_ (i := 5) (N := some 52) (v := ?_) (a' := ?_) #[true, true, true, false, true, true, false, false, true, false, true, false, false, true, false, false, false] rfl rfl (take_ofW HT_.out HW_.out (by kernel_rfl)) (fun _ _ _ h => h) (Or.inl ⟨by rfl, ?_⟩) hHeld ?_ ?_
                    rotate_left
                    · rintro w' ⟨s0, s1, s2, s3⟩
                      go_simp
                      with_reducible rfl
                    rotate_left
                    · simp only [Act.put, List.setIfInBounds_toArray, List.set_cons_zero, List.set_cons_succ, i64_w, i32_w]
                      rfl
                    refine take_ (i := 7) (N := some 54) (v := ?_) (a' := ?_) #[true, true, true, false, true, true, false, true, true, false, true, false, false, true, false, false, false] rfl rfl (take_ofW HT_.out HW_.out (by kernel_rfl)) (fun _ _ _ h => h) (Or.inl ⟨by rfl, ?_⟩) hHeld ?_ ?_
                    rotate_left
                    · rintro w' ⟨s0, s1, s2, s3⟩
                      go_simp
                      with_reducible rfl
                    rotate_left
                    · simp only [Act.put, List.setIfInBounds_toArray, List.set_cons_zero, List.set_cons_succ, i64_w, i32_w]
                      rfl
                    refine take_ (i := 9) (N := some 56) (v := ?_) (a' := ?_) #[true, true, true, false, true, true, false, true, true, true, true, false, false, true, false, false, false] rfl rfl (take_ofW HT_.out HW_.out (by kernel_rfl)) (fun _ _ _ h => h) (Or.inl ⟨by rfl, ?_⟩) hHeld ?_ ?_
                    rotate_left
                    · rintro w' ⟨s0, s1, s2, s3⟩
                      go_simp
                      with_reducible rfl
                    rotate_left
                    · simp only [Act.put, List.setIfInBounds_toArray, List.set_cons_zero, List.set_cons_succ, i64_w, i32_w]
                      rfl
                    refine take_ (i := 11) (N := some 58) (v := ?_) (a' := ?_) #[true, true, true, false, true, true, false, true, true, true, true, true, false, true, false, false, false] rfl rfl (take_ofW HT_.out HW_.out (by kernel_rfl)) (fun _ _ _ h => h) (Or.inl ⟨by rfl, ?_⟩) hHeld ?_ ?_
                    rotate_left
                    · rintro w' ⟨s0, s1, s2, s3⟩
                      go_simp
                      with_reducible rfl
                    rotate_left
                    · simp only [Act.put, List.setIfInBounds_toArray, List.set_cons_zero, List.set_cons_succ, i64_w, i32_w]
                      rfl
                    refine one_ (i := 3) (N := some 50) #[true, true, true, true, true, true, false, true, true, true, true, true, false, true, false, false, false] rfl rfl (one_of HT_.out (by kernel_rfl)) (by decide) (fun K hK => ?_)
                    refine gos_ Try.func111 #[.agg #[.int .i64 a0_0, .int .i64 a0_1], .int .i64 x10_2, .int .i64 x8_1] ?_
                    with_reducible refine (withyref01_gap.calls a0_0 a0_1 x10_2 x8_1 t978 _ A28.out).mono ?_
                    rintro e w39 ⟨rfl, hb⟩
                    refine ⟨_, rfl, ?_⟩
                    replace BK969 := bkb_ BK969 hb
                    replace BK970 := bkb_ BK970 hb
                    replace BK973 := bkb_ BK973 hb
                    replace HB := bws_ HB hb
                    (try clear hb)
                    (try clear hb2)
                    (try clear hk)
                    (try clear hi)
                    refine hK.out _ _ ⟨(blk_cell BK969.out 0).trans rfl, (blk_cell BK969.out 1).trans rfl, (blk_cell BK973.out 0).trans rfl, (blk_cell BK973.out 1).trans rfl⟩ (fun hHeld => ?_)
                    clear hK K
                    refine norm_ (a' := ?_) ?_ ?_
                    rotate_left
                    · show Act.put _ (some 50) _ = _
                      simp only [Act.put, List.setIfInBounds_toArray, List.set_cons_zero, List.set_cons_succ, i64_w, i32_w]
                      rfl
                    refine pure_ (i := 6) (N := some 53) (v := ?_) (a' := ?_) #[true, true, true, true, true, true, true, true, true, true, true, true, false, true, false, false, false] rfl rfl (any_of HT_.out (by kernel_rfl)) (fun _ _ _ h => h) (Or.inl ⟨by rfl, ?_⟩) ?_ ?_
                    rotate_left
                    · intro w'
                      go_simp
                      with_reducible rfl
                    rotate_left
                    · simp only [Act.put, List.setIfInBounds_toArray, List.set_cons_zero, List.set_cons_succ, i64_w, i32_w]
                      rfl
                    refine one_ (i := 12) (N := some 59) #[true, true, true, true, true, true, true, true, true, true, true, true, true, true, false, false, false] rfl rfl (one_of HT_.out (by kernel_rfl)) (by decide) (fun K hK => ?_)
                    refine gos_ Try.func111 #[.agg #[.int .i64 a0_0, .int .i64 a0_1], .int .i64 x974000_2, .int .i64 x974001_2] ?_
                    with_reducible refine (withyref01_gap.calls a0_0 a0_1 x974000_2 x974001_2 t979 _ A29.out).mono ?_
                    rintro e w40 ⟨rfl, hb⟩
                    refine ⟨_, rfl, ?_⟩
                    replace BK969 := bkb_ BK969 hb
                    replace BK970 := bkb_ BK970 hb
                    replace BK973 := bkb_ BK973 hb
                    replace HB := bws_ HB hb
                    (try clear hb)
                    (try clear hb2)
                    (try clear hk)
                    (try clear hi)
                    refine hK.out _ _ ⟨(blk_cell BK969.out 0).trans rfl, (blk_cell BK969.out 1).trans rfl, (blk_cell BK973.out 0).trans rfl, (blk_cell BK973.out 1).trans rfl⟩ (fun hHeld => ?_)
                    clear hK K
                    refine norm_ (a' := ?_) ?_ ?_
                    rotate_left
                    · show Act.put _ (some 59) _ = _
                      simp only [Act.put, List.setIfInBounds_toArray, List.set_cons_zero, List.set_cons_succ, i64_w, i32_w]
                      rfl
                    refine pure_ (i := 14) (N := some 61) (v := ?_) (a' := ?_) #[true, true, true, true, true, true, true, true, true, true, true, true, true, true, true, false, false] rfl rfl (any_of HT_.out (by kernel_rfl)) (fun _ _ _ h => h) (Or.inl ⟨by rfl, ?_⟩) ?_ ?_
                    rotate_left
                    · intro w'
                      go_simp
                      with_reducible rfl
                    rotate_left
                    · simp only [Act.put, List.setIfInBounds_toArray, List.set_cons_zero, List.set_cons_succ, i64_w, i32_w]
                      rfl
                    refine pure_ (i := 15) (N := some 11) (v := ?_) (a' := ?_) #[true, true, true, true, true, true, true, true, true, true, true, true, true, true, true, true, false] rfl rfl (any_of HT_.out (by kernel_rfl)) (fun _ _ _ h => h) (Or.inl ⟨by rfl, ?_⟩) ?_ ?_
                    rotate_left
                    · intro w'
                      go_simp
                      with_reducible rfl
                    rotate_left
                    · simp only [Act.put, List.setIfInBounds_toArray, List.set_cons_zero, List.set_cons_succ, i64_w, i32_w]
                      rfl
                    refine pure_ (i := 16) (N := some 12) (v := ?_) (a' := ?_) #[true, true, true, true, true, true, true, true, true, true, true, true, true, true, true, true, true] rfl rfl (any_of HT_.out (by kernel_rfl)) (fun _ _ _ h => h) (Or.inl ⟨by rfl, ?_⟩) ?_ ?_
                    rotate_left
                    · intro w'
                      go_simp
                      with_reducible rfl
                    rotate_left
                    · simp only [Act.put, List.setIfInBounds_toArray, List.set_cons_zero, List.set_cons_succ, i64_w, i32_w]
                      rfl
                    refine done_ (done_of HT_.out (by kernel_rfl)) ?_
                    have hnb41 := NB973_969.out
                    have hnc41 := NB969_973.out
                    have hnb42 := NB973_970.out
                    have hnc42 := NB970_973.out
                    obtain ⟨hcz43_0, hcz43_1, hfz43_0, hfz43_1⟩ := bc2_ BK973
                    try go_wp2
                    go_roundg k2
                    case measure => have := HK1.out; have := HK2.out; omega
                    case rel => exact ⟨(wrap64 (x10_2 + 1)), (x10_2), (x8_1), (by first | rfl | (simp; done) | (simp [*]; done)), H', ⟨by have := HK1.out; have := HK2.out; omega⟩, ⟨by refine bf_ ?_ NB969_973; refine bf_ ?_ NB969_973; exact bk_ BK969⟩, ⟨by refine bf_ ?_ NB970_973; refine bf_ ?_ NB970_973; exact bk_ BK970⟩, ⟨by refine bp_ (cs := #[.int .i64 x10_2, .int .i64 x974001_2]) ?_ 1; refine bp_ (cs := #[.int .i64 x974000_2, .int .i64 x974001_2]) ?_ 0; exact bk_ BK973⟩, ⟨bw_ HB⟩⟩
                  · rw [if_neg c37] at H
                    have c37b0 : decide ((wrap64 (t978 * x974001_2)) < (wrap64 (t979 * x8_1))) = false := decide_eq_false c37
                    clear c37
                    by_cases c44 : (wrap64 (t978 * x974001_2)) = (wrap64 (t979 * x8_1))
                    · rw [if_pos c44] at H
                      have c44b0 : ((wrap64 (t978 * x974001_2)) == (wrap64 (t979 * x8_1))) = true := beq_iff_eq.mpr c44
                      have c44b1 : ((wrap64 (t978 * x974001_2)) != (wrap64 (t979 * x8_1))) = false := bne_eq_false_iff_eq.mpr c44
                      clear c44
                      replace H := Option.bind_eq_some_iff.mp H
                      obtain ⟨t980, A450, H⟩ := H
                      replace H : (if t980 = true then (withyref01_Near.l1 k2 a1 x8_1 t977 (wrap64 (x10_2 + 1)) a0_0 a0_1 x10_2 x8_1) else (withyref01_Near.l1 k2 a1 x8_1 t977 (wrap64 (x10_2 + 1)) a0_0 a0_1 x974000_2 x974001_2)) = some (r1, r2, r3) := H
                      have A45 := Aside0.mk A450
                      clear A450
                      by_cases c46 : t980 = true
                      · subst c46
                        have H1 : (withyref01_Near.l1 k2 a1 x8_1 t977 (wrap64 (x10_2 + 1)) a0_0 a0_1 x10_2 x8_1) = some (r1, r2, r3) := by rw [if_pos rfl] at H; exact H
                        clear H
                        have H := H1
                        clear H1
                        have H' := Aside0.mk H
                        clear H
                        try go_wp2
                        replace BK969 := Aside0.mk (blk_drew BK969.out)
                        replace BK970 := Aside0.mk (blk_drew BK970.out)
                        replace BK973 := Aside0.mk (blk_drew BK973.out)
                        replace HB := Aside0.mk (below_drew1 HB.out)
                        refine start_ (n := 17) (S := fun w' => w'.cell? ⟨gb969, 0, none⟩ = some (.int .i64 a0_0) ∧ w'.cell? ⟨gb969, 1, none⟩ = some (.int .i64 a0_1) ∧ w'.cell? ⟨gb973, 0, none⟩ = some (.int .i64 x974000_2) ∧ w'.cell? ⟨gb973, 1, none⟩ = some (.int .i64 x974001_2)) (ds := []) #[false, false, false, false, false, false, false, false, false, false, false, false, false, false, false, false, false] (by kernel_rfl) rfl rfl ⟨(blk_cell BK969.out 0).trans rfl, (blk_cell BK969.out 1).trans rfl, (blk_cell BK973.out 0).trans rfl, (blk_cell BK973.out 1).trans rfl⟩ (fun hHeld => ?_); refine with_tabW withyref01_Near.tab16 withyref01_Near.bits16 (fun HT_ HW_ => ?_)
                        generalize wr.drew = w47 at BK969 BK970 BK973 HB hHeld ⊢
                        refine pure_ (i := 1) (N := some 48) (v := ?_) (a' := ?_) #[false, true, false, false, false, false, false, false, false, false, false, false, false, false, false, false, false] rfl rfl (any_of HT_.out (by kernel_rfl)) (fun _ _ _ h => h) (Or.inl ⟨by rfl, ?_⟩) ?_ ?_
                        rotate_left
                        · intro w'
                          go_simp
                          with_reducible rfl
                        rotate_left
                        · simp only [Act.put, List.setIfInBounds_toArray, List.set_cons_zero, List.set_cons_succ, i64_w, i32_w]
                          rfl
                        refine pure_ (i := 2) (N := some 49) (v := ?_) (a' := ?_) #[false, true, true, false, false, false, false, false, false, false, false, false, false, false, false, false, false] rfl rfl (any_of HT_.out (by kernel_rfl)) (fun _ _ _ h => h) (Or.inl ⟨by rfl, ?_⟩) ?_ ?_
                        rotate_left
                        · intro w'
                          go_simp
                          with_reducible rfl
                        rotate_left
                        · simp only [Act.put, List.setIfInBounds_toArray, List.set_cons_zero, List.set_cons_succ, i64_w, i32_w]
                          rfl
                        refine pure_ (i := 4) (N := some 51) (v := ?_) (a' := ?_) #[false, true, true, false, true, false, false, false, false, false, false, false, false, false, false, false, false] rfl rfl (any_of HT_.out (by kernel_rfl)) (fun _ _ _ h => h) (Or.inl ⟨by rfl, ?_⟩) ?_ ?_
                        rotate_left
                        · intro w'
                          go_simp
                          with_reducible rfl
                        rotate_left
                        · simp only [Act.put, List.setIfInBounds_toArray, List.set_cons_zero, List.set_cons_succ, i64_w, i32_w]
                          rfl
                        refine pure_ (i := 8) (N := some 55) (v := ?_) (a' := ?_) #[false, true, true, false, true, false, false, false, true, false, false, false, false, false, false, false, false] rfl rfl (any_of HT_.out (by kernel_rfl)) (fun _ _ _ h => h) (Or.inl ⟨by rfl, ?_⟩) ?_ ?_
                        rotate_left
                        · intro w'
                          go_simp
                          with_reducible rfl
                        rotate_left
                        · simp only [Act.put, List.setIfInBounds_toArray, List.set_cons_zero, List.set_cons_succ, i64_w, i32_w]
                          rfl
                        refine pure_ (i := 10) (N := some 57) (v := ?_) (a' := ?_) #[false, true, true, false, true, false, false, false, true, false, true, false, false, false, false, false, false] rfl rfl (any_of HT_.out (by kernel_rfl)) (fun _ _ _ h => h) (Or.inl ⟨by rfl, ?_⟩) ?_ ?_
                        rotate_left
                        · intro w'
                          go_simp
                          with_reducible rfl
                        rotate_left
                        · simp only [Act.put, List.setIfInBounds_toArray, List.set_cons_zero, List.set_cons_succ, i64_w, i32_w]
                          rfl
                        refine pure_ (i := 13) (N := some 60) (v := ?_) (a' := ?_) #[false, true, true, false, true, false, false, false, true, false, true, false, false, true, false, false, false] rfl rfl (any_of HT_.out (by kernel_rfl)) (fun _ _ _ h => h) (Or.inl ⟨by rfl, ?_⟩) ?_ ?_
                        rotate_left
                        · intro w'
                          go_simp
                          with_reducible rfl
                        rotate_left
                        · simp only [Act.put, List.setIfInBounds_toArray, List.set_cons_zero, List.set_cons_succ, i64_w, i32_w]
                          rfl
                        refine take_ (i := 0) (N := some 47) (v := ?_) (a' := ?_) #[true, true, true, false, true, false, false, false, true, false, true, false, false, true, false, false, false] rfl rfl (take_ofW HT_.out HW_.out (by kernel_rfl)) (fun _ _ _ h => h) (Or.inl ⟨by rfl, ?_⟩) hHeld ?_ ?_
                        rotate_left
                        · rintro w' ⟨s0, s1, s2, s3⟩
                          go_simp
                          with_reducible rfl
                        rotate_left
                        · simp only [Act.put, List.setIfInBounds_toArray, List.set_cons_zero, List.set_cons_succ, i64_w, i32_w]
                          rfl
                        refine take_ (i := 5) (N := some 52) (v := ?_) (a' := ?_) #[true, true, true, false, true, true, false, false, true, false, true, false, false, true, false, false, false] rfl rfl (take_ofW HT_.out HW_.out (by kernel_rfl)) (fun _ _ _ h => h) (Or.inl ⟨by rfl, ?_⟩) hHeld ?_ ?_
                        rotate_left
                        · rintro w' ⟨s0, s1, s2, s3⟩
                          go_simp
                          with_reducible rfl
                        rotate_left
                        · simp only [Act.put, List.setIfInBounds_toArray, List.set_cons_zero, List.set_cons_succ, i64_w, i32_w]
                          rfl
                        refine take_ (i := 7) (N := some 54) (v := ?_) (a' := ?_) #[true, true, true, false, true, true, false, true, true, false, true, false, false, true, false, false, false] rfl rfl (take_ofW HT_.out HW_.out (by kernel_rfl)) (fun _ _ _ h => h) (Or.inl ⟨by rfl, ?_⟩) hHeld ?_ ?_
                        rotate_left
                        · rintro w' ⟨s0, s1, s2, s3⟩
                          go_simp
                          with_reducible rfl
                        rotate_left
                        · simp only [Act.put, List.setIfInBounds_toArray, List.set_cons_zero, List.set_cons_succ, i64_w, i32_w]
                          rfl
                        refine take_ (i := 9) (N := some 56) (v := ?_) (a' := ?_) #[true, true, true, false, true, true, false, true, true, true, true, false, false, true, false, false, false] rfl rfl (take_ofW HT_.out HW_.out (by kernel_rfl)) (fun _ _ _ h => h) (Or.inl ⟨by rfl, ?_⟩) hHeld ?_ ?_
                        rotate_left
                        · rintro w' ⟨s0, s1, s2, s3⟩
                          go_simp
                          with_reducible rfl
                        rotate_left
                        · simp only [Act.put, List.setIfInBounds_toArray, List.set_cons_zero, List.set_cons_succ, i64_w, i32_w]
                          rfl
                        refine take_ (i := 11) (N := some 58) (v := ?_) (a' := ?_) #[true, true, true, false, true, true, false, true, true, true, true, true, false, true, false, false, false] rfl rfl (take_ofW HT_.out HW_.out (by kernel_rfl)) (fun _ _ _ h => h) (Or.inl ⟨by rfl, ?_⟩) hHeld ?_ ?_
                        rotate_left
                        · rintro w' ⟨s0, s1, s2, s3⟩
                          go_simp
                          with_reducible rfl
                        rotate_left
                        · simp only [Act.put, List.setIfInBounds_toArray, List.set_cons_zero, List.set_cons_succ, i64_w, i32_w]
                          rfl
                        refine one_ (i := 3) (N := some 50) #[true, true, true, true, true, true, false, true, true, true, true, true, false, true, false, false, false] rfl rfl (one_of HT_.out (by kernel_rfl)) (by decide) (fun K hK => ?_)
                        refine gos_ Try.func111 #[.agg #[.int .i64 a0_0, .int .i64 a0_1], .int .i64 x10_2, .int .i64 x8_1] ?_
                        with_reducible refine (withyref01_gap.calls a0_0 a0_1 x10_2 x8_1 t978 _ A28.out).mono ?_
                        rintro e w48 ⟨rfl, hb⟩
                        refine ⟨_, rfl, ?_⟩
                        replace BK969 := bkb_ BK969 hb
                        replace BK970 := bkb_ BK970 hb
                        replace BK973 := bkb_ BK973 hb
                        replace HB := bws_ HB hb
                        (try clear hb)
                        (try clear hb2)
                        (try clear hk)
                        (try clear hi)
                        refine hK.out _ _ ⟨(blk_cell BK969.out 0).trans rfl, (blk_cell BK969.out 1).trans rfl, (blk_cell BK973.out 0).trans rfl, (blk_cell BK973.out 1).trans rfl⟩ (fun hHeld => ?_)
                        clear hK K
                        refine norm_ (a' := ?_) ?_ ?_
                        rotate_left
                        · show Act.put _ (some 50) _ = _
                          simp only [Act.put, List.setIfInBounds_toArray, List.set_cons_zero, List.set_cons_succ, i64_w, i32_w]
                          rfl
                        refine pure_ (i := 6) (N := some 53) (v := ?_) (a' := ?_) #[true, true, true, true, true, true, true, true, true, true, true, true, false, true, false, false, false] rfl rfl (any_of HT_.out (by kernel_rfl)) (fun _ _ _ h => h) (Or.inl ⟨by rfl, ?_⟩) ?_ ?_
                        rotate_left
                        · intro w'
                          go_simp
                          with_reducible rfl
                        rotate_left
                        · simp only [Act.put, List.setIfInBounds_toArray, List.set_cons_zero, List.set_cons_succ, i64_w, i32_w]
                          rfl
                        refine one_ (i := 12) (N := some 59) #[true, true, true, true, true, true, true, true, true, true, true, true, true, true, false, false, false] rfl rfl (one_of HT_.out (by kernel_rfl)) (by decide) (fun K hK => ?_)
                        refine gos_ Try.func111 #[.agg #[.int .i64 a0_0, .int .i64 a0_1], .int .i64 x974000_2, .int .i64 x974001_2] ?_
                        with_reducible refine (withyref01_gap.calls a0_0 a0_1 x974000_2 x974001_2 t979 _ A29.out).mono ?_
                        rintro e w49 ⟨rfl, hb⟩
                        refine ⟨_, rfl, ?_⟩
                        replace BK969 := bkb_ BK969 hb
                        replace BK970 := bkb_ BK970 hb
                        replace BK973 := bkb_ BK973 hb
                        replace HB := bws_ HB hb
                        (try clear hb)
                        (try clear hb2)
                        (try clear hk)
                        (try clear hi)
                        refine hK.out _ _ ⟨(blk_cell BK969.out 0).trans rfl, (blk_cell BK969.out 1).trans rfl, (blk_cell BK973.out 0).trans rfl, (blk_cell BK973.out 1).trans rfl⟩ (fun hHeld => ?_)
                        clear hK K
                        refine norm_ (a' := ?_) ?_ ?_
                        rotate_left
                        · show Act.put _ (some 59) _ = _
                          simp only [Act.put, List.setIfInBounds_toArray, List.set_cons_zero, List.set_cons_succ, i64_w, i32_w]
                          rfl
                        refine pure_ (i := 14) (N := some 61) (v := ?_) (a' := ?_) #[true, true, true, true, true, true, true, true, true, true, true, true, true, true, true, false, false] rfl rfl (any_of HT_.out (by kernel_rfl)) (fun _ _ _ h => h) (Or.inl ⟨by rfl, ?_⟩) ?_ ?_
                        rotate_left
                        · intro w'
                          go_simp
                          with_reducible rfl
                        rotate_left
                        · simp only [Act.put, List.setIfInBounds_toArray, List.set_cons_zero, List.set_cons_succ, i64_w, i32_w]
                          rfl
                        refine pure_ (i := 15) (N := some 11) (v := ?_) (a' := ?_) #[true, true, true, true, true, true, true, true, true, true, true, true, true, true, true, true, false] rfl rfl (any_of HT_.out (by kernel_rfl)) (fun _ _ _ h => h) (Or.inl ⟨by rfl, ?_⟩) ?_ ?_
                        rotate_left
                        · intro w'
                          go_simp
                          with_reducible rfl
                        rotate_left
                        · simp only [Act.put, List.setIfInBounds_toArray, List.set_cons_zero, List.set_cons_succ, i64_w, i32_w]
                          rfl
                        refine pure_ (i := 16) (N := some 12) (v := ?_) (a' := ?_) #[true, true, true, true, true, true, true, true, true, true, true, true, true, true, true, true, true] rfl rfl (any_of HT_.out (by kernel_rfl)) (fun _ _ _ h => h) (Or.inl ⟨by rfl, ?_⟩) ?_ ?_
                        rotate_left
                        · intro w'
                          go_simp
                          with_reducible rfl
                        rotate_left
                        · simp only [Act.put, List.setIfInBounds_toArray, List.set_cons_zero, List.set_cons_succ, i64_w, i32_w]
                          rfl
                        refine done_ (done_of HT_.out (by kernel_rfl)) ?_
                        have hnb50 := NB973_969.out
                        have hnc50 := NB969_973.out
                        have hnb51 := NB973_970.out
                        have hnc51 := NB970_973.out
                        obtain ⟨hcz52_0, hcz52_1, hfz52_0, hfz52_1⟩ := bc2_ BK973
                        try go_wp2_with (first | (go_at_call 28; (with_reducible refine (withyref01_Simpler.calls x10_2 x8_1 x974000_2 x974001_2 true _ A45.out).mono ?_); rintro e w53 ⟨rfl, hb⟩; replace BK969 := bkb_ BK969 hb; replace BK970 := bkb_ BK970 hb; replace BK973 := bkb_ BK973 hb; replace HB := bws_ HB hb; (try clear hb); (try clear hb2); (try clear hk); (try clear hi); obtain ⟨hcz54_0, hcz54_1, hfz54_0, hfz54_1⟩ := bc2_ BK973))
                        go_roundg k2
                        case measure => have := HK1.out; have := HK2.out; omega
                        case rel => exact ⟨(wrap64 (x10_2 + 1)), (x10_2), (x8_1), (by first | rfl | (simp; done) | (simp [*]; done)), H', ⟨by have := HK1.out; have := HK2.out; omega⟩, ⟨by refine bf_ ?_ NB969_973; refine bf_ ?_ NB969_973; exact bk_ BK969⟩, ⟨by refine bf_ ?_ NB970_973; refine bf_ ?_ NB970_973; exact bk_ BK970⟩, ⟨by refine bp_ (cs := #[.int .i64 x10_2, .int .i64 x974001_2]) ?_ 1; refine bp_ (cs := #[.int .i64 x974000_2, .int .i64 x974001_2]) ?_ 0; exact bk_ BK973⟩, ⟨bw_ HB⟩⟩
                      · replace c46 := Bool.eq_false_iff.mpr c46
                        subst c46
                        have H1 : (withyref01_Near.l1 k2 a1 x8_1 t977 (wrap64 (x10_2 + 1)) a0_0 a0_1 x974000_2 x974001_2) = some (r1, r2, r3) := by rw [if_neg (show ¬ (false = true) by decide)] at H; exact H
                        clear H
                        have H := H1
                        clear H1
                        have H' := Aside0.mk H
                        clear H
                        try go_wp2
                        replace BK969 := Aside0.mk (blk_drew BK969.out)
                        replace BK970 := Aside0.mk (blk_drew BK970.out)
                        replace BK973 := Aside0.mk (blk_drew BK973.out)
                        replace HB := Aside0.mk (below_drew1 HB.out)
                        refine start_ (n := 17) (S := fun w' => w'.cell? ⟨gb969, 0, none⟩ = some (.int .i64 a0_0) ∧ w'.cell? ⟨gb969, 1, none⟩ = some (.int .i64 a0_1) ∧ w'.cell? ⟨gb973, 0, none⟩ = some (.int .i64 x974000_2) ∧ w'.cell? ⟨gb973, 1, none⟩ = some (.int .i64 x974001_2)) (ds := []) #[false, false, false, false, false, false, false, false, false, false, false, false, false, false, false, false, false] (by kernel_rfl) rfl rfl ⟨(blk_cell BK969.out 0).trans rfl, (blk_cell BK969.out 1).trans rfl, (blk_cell BK973.out 0).trans rfl, (blk_cell BK973.out 1).trans rfl⟩ (fun hHeld => ?_); refine with_tabW withyref01_Near.tab16 withyref01_Near.bits16 (fun HT_ HW_ => ?_)
                        generalize wr.drew = w55 at BK969 BK970 BK973 HB hHeld ⊢
                        refine pure_ (i := 1) (N := some 48) (v := ?_) (a' := ?_) #[false, true, false, false, false, false, false, false, false, false, false, false, false, false, false, false, false] rfl rfl (any_of HT_.out (by kernel_rfl)) (fun _ _ _ h => h) (Or.inl ⟨by rfl, ?_⟩) ?_ ?_
                        rotate_left
                        · intro w'
                          go_simp
                          with_reducible rfl
                        rotate_left
                        · simp only [Act.put, List.setIfInBounds_toArray, List.set_cons_zero, List.set_cons_succ, i64_w, i32_w]
                          rfl
                        refine pure_ (i := 2) (N := some 49) (v := ?_) (a' := ?_) #[false, true, true, false, false, false, false, false, false, false, false, false, false, false, false, false, false] rfl rfl (any_of HT_.out (by kernel_rfl)) (fun _ _ _ h => h) (Or.inl ⟨by rfl, ?_⟩) ?_ ?_
                        rotate_left
                        · intro w'
                          go_simp
                          with_reducible rfl
                        rotate_left
                        · simp only [Act.put, List.setIfInBounds_toArray, List.set_cons_zero, List.set_cons_succ, i64_w, i32_w]
                          rfl
                        refine pure_ (i := 4) (N := some 51) (v := ?_) (a' := ?_) #[false, true, true, false, true, false, false, false, false, false, false, false, false, false, false, false, false] rfl rfl (any_of HT_.out (by kernel_rfl)) (fun _ _ _ h => h) (Or.inl ⟨by rfl, ?_⟩) ?_ ?_
                        rotate_left
                        · intro w'
                          go_simp
                          with_reducible rfl
                        rotate_left
                        · simp only [Act.put, List.setIfInBounds_toArray, List.set_cons_zero, List.set_cons_succ, i64_w, i32_w]
                          rfl
                        refine pure_ (i := 8) (N := some 55) (v := ?_) (a' := ?_) #[false, true, true, false, true, false, false, false, true, false, false, false, false, false, false, false, false] rfl rfl (any_of HT_.out (by kernel_rfl)) (fun _ _ _ h => h) (Or.inl ⟨by rfl, ?_⟩) ?_ ?_
                        rotate_left
                        · intro w'
                          go_simp
                          with_reducible rfl
                        rotate_left
                        · simp only [Act.put, List.setIfInBounds_toArray, List.set_cons_zero, List.set_cons_succ, i64_w, i32_w]
                          rfl
                        refine pure_ (i := 10) (N := some 57) (v := ?_) (a' := ?_) #[false, true, true, false, true, false, false, false, true, false, true, false, false, false, false, false, false] rfl rfl (any_of HT_.out (by kernel_rfl)) (fun _ _ _ h => h) (Or.inl ⟨by rfl, ?_⟩) ?_ ?_
                        rotate_left
                        · intro w'
                          go_simp
                          with_reducible rfl
                        rotate_left
                        · simp only [Act.put, List.setIfInBounds_toArray, List.set_cons_zero, List.set_cons_succ, i64_w, i32_w]
                          rfl
                        refine pure_ (i := 13) (N := some 60) (v := ?_) (a' := ?_) #[false, true, true, false, true, false, false, false, true, false, true, false, false, true, false, false, false] rfl rfl (any_of HT_.out (by kernel_rfl)) (fun _ _ _ h => h) (Or.inl ⟨by rfl, ?_⟩) ?_ ?_
                        rotate_left
                        · intro w'
                          go_simp
                          with_reducible rfl
                        rotate_left
                        · simp only [Act.put, List.setIfInBounds_toArray, List.set_cons_zero, List.set_cons_succ, i64_w, i32_w]
                          rfl
                        refine take_ (i := 0) (N := some 47) (v := ?_) (a' := ?_) #[true, true, true, false, true, false, false, false, true, false, true, false, false, true, false, false, false] rfl rfl (take_ofW HT_.out HW_.out (by kernel_rfl)) (fun _ _ _ h => h) (Or.inl ⟨by rfl, ?_⟩) hHeld ?_ ?_
                        rotate_left
                        · rintro w' ⟨s0, s1, s2, s3⟩
                          go_simp
                          with_reducible rfl
                        rotate_left
                        · simp only [Act.put, List.setIfInBounds_toArray, List.set_cons_zero, List.set_cons_succ, i64_w, i32_w]
                          rfl
                        refine take_ (i := 5) (N := some 52) (v := ?_) (a' := ?_) #[true, true, true, false, true, true, false, false, true, false, true, false, false, true, false, false, false] rfl rfl (take_ofW HT_.out HW_.out (by kernel_rfl)) (fun _ _ _ h => h) (Or.inl ⟨by rfl, ?_⟩) hHeld ?_ ?_
                        rotate_left
                        · rintro w' ⟨s0, s1, s2, s3⟩
                          go_simp
                          with_reducible rfl
                        rotate_left
                        · simp only [Act.put, List.setIfInBounds_toArray, List.set_cons_zero, List.set_cons_succ, i64_w, i32_w]
                          rfl
                        refine take_ (i := 7) (N := some 54) (v := ?_) (a' := ?_) #[true, true, true, false, true, true, false, true, true, false, true, false, false, true, false, false, false] rfl rfl (take_ofW HT_.out HW_.out (by kernel_rfl)) (fun _ _ _ h => h) (Or.inl ⟨by rfl, ?_⟩) hHeld ?_ ?_
                        rotate_left
                        · rintro w' ⟨s0, s1, s2, s3⟩
                          go_simp
                          with_reducible rfl
                        rotate_left
                        · simp only [Act.put, List.setIfInBounds_toArray, List.set_cons_zero, List.set_cons_succ, i64_w, i32_w]
                          rfl
                        refine take_ (i := 9) (N := some 56) (v := ?_) (a' := ?_) #[true, true, true, false, true, true, false, true, true, true, true, false, false, true, false, false, false] rfl rfl (take_ofW HT_.out HW_.out (by kernel_rfl)) (fun _ _ _ h => h) (Or.inl ⟨by rfl, ?_⟩) hHeld ?_ ?_
                        rotate_left
                        · rintro w' ⟨s0, s1, s2, s3⟩
                          go_simp
                          with_reducible rfl
                        rotate_left
                        · simp only [Act.put, List.setIfInBounds_toArray, List.set_cons_zero, List.set_cons_succ, i64_w, i32_w]
                          rfl
                        refine take_ (i := 11) (N := some 58) (v := ?_) (a' := ?_) #[true, true, true, false, true, true, false, true, true, true, true, true, false, true, false, false, false] rfl rfl (take_ofW HT_.out HW_.out (by kernel_rfl)) (fun _ _ _ h => h) (Or.inl ⟨by rfl, ?_⟩) hHeld ?_ ?_
                        rotate_left
                        · rintro w' ⟨s0, s1, s2, s3⟩
                          go_simp
                          with_reducible rfl
                        rotate_left
                        · simp only [Act.put, List.setIfInBounds_toArray, List.set_cons_zero, List.set_cons_succ, i64_w, i32_w]
                          rfl
                        refine one_ (i := 3) (N := some 50) #[true, true, true, true, true, true, false, true, true, true, true, true, false, true, false, false, false] rfl rfl (one_of HT_.out (by kernel_rfl)) (by decide) (fun K hK => ?_)
                        refine gos_ Try.func111 #[.agg #[.int .i64 a0_0, .int .i64 a0_1], .int .i64 x10_2, .int .i64 x8_1] ?_
                        with_reducible refine (withyref01_gap.calls a0_0 a0_1 x10_2 x8_1 t978 _ A28.out).mono ?_
                        rintro e w56 ⟨rfl, hb⟩
                        refine ⟨_, rfl, ?_⟩
                        replace BK969 := bkb_ BK969 hb
                        replace BK970 := bkb_ BK970 hb
                        replace BK973 := bkb_ BK973 hb
                        replace HB := bws_ HB hb
                        (try clear hb)
                        (try clear hb2)
                        (try clear hk)
                        (try clear hi)
                        refine hK.out _ _ ⟨(blk_cell BK969.out 0).trans rfl, (blk_cell BK969.out 1).trans rfl, (blk_cell BK973.out 0).trans rfl, (blk_cell BK973.out 1).trans rfl⟩ (fun hHeld => ?_)
                        clear hK K
                        refine norm_ (a' := ?_) ?_ ?_
                        rotate_left
                        · show Act.put _ (some 50) _ = _
                          simp only [Act.put, List.setIfInBounds_toArray, List.set_cons_zero, List.set_cons_succ, i64_w, i32_w]
                          rfl
                        refine pure_ (i := 6) (N := some 53) (v := ?_) (a' := ?_) #[true, true, true, true, true, true, true, true, true, true, true, true, false, true, false, false, false] rfl rfl (any_of HT_.out (by kernel_rfl)) (fun _ _ _ h => h) (Or.inl ⟨by rfl, ?_⟩) ?_ ?_
                        rotate_left
                        · intro w'
                          go_simp
                          with_reducible rfl
                        rotate_left
                        · simp only [Act.put, List.setIfInBounds_toArray, List.set_cons_zero, List.set_cons_succ, i64_w, i32_w]
                          rfl
                        refine one_ (i := 12) (N := some 59) #[true, true, true, true, true, true, true, true, true, true, true, true, true, true, false, false, false] rfl rfl (one_of HT_.out (by kernel_rfl)) (by decide) (fun K hK => ?_)
                        refine gos_ Try.func111 #[.agg #[.int .i64 a0_0, .int .i64 a0_1], .int .i64 x974000_2, .int .i64 x974001_2] ?_
                        with_reducible refine (withyref01_gap.calls a0_0 a0_1 x974000_2 x974001_2 t979 _ A29.out).mono ?_
                        rintro e w57 ⟨rfl, hb⟩
                        refine ⟨_, rfl, ?_⟩
                        replace BK969 := bkb_ BK969 hb
                        replace BK970 := bkb_ BK970 hb
                        replace BK973 := bkb_ BK973 hb
                        replace HB := bws_ HB hb
                        (try clear hb)
                        (try clear hb2)
                        (try clear hk)
                        (try clear hi)
                        refine hK.out _ _ ⟨(blk_cell BK969.out 0).trans rfl, (blk_cell BK969.out 1).trans rfl, (blk_cell BK973.out 0).trans rfl, (blk_cell BK973.out 1).trans rfl⟩ (fun hHeld => ?_)
                        clear hK K
                        refine norm_ (a' := ?_) ?_ ?_
                        rotate_left
                        · show Act.put _ (some 59) _ = _
                          simp only [Act.put, List.setIfInBounds_toArray, List.set_cons_zero, List.set_cons_succ, i64_w, i32_w]
                          rfl
                        refine pure_ (i := 14) (N := some 61) (v := ?_) (a' := ?_) #[true, true, true, true, true, true, true, true, true, true, true, true, true, true, true, false, false] rfl rfl (any_of HT_.out (by kernel_rfl)) (fun _ _ _ h => h) (Or.inl ⟨by rfl, ?_⟩) ?_ ?_
                        rotate_left
                        · intro w'
                          go_simp
                          with_reducible rfl
                        rotate_left
                        · simp only [Act.put, List.setIfInBounds_toArray, List.set_cons_zero, List.set_cons_succ, i64_w, i32_w]
                          rfl
                        refine pure_ (i := 15) (N := some 11) (v := ?_) (a' := ?_) #[true, true, true, true, true, true, true, true, true, true, true, true, true, true, true, true, false] rfl rfl (any_of HT_.out (by kernel_rfl)) (fun _ _ _ h => h) (Or.inl ⟨by rfl, ?_⟩) ?_ ?_
                        rotate_left
                        · intro w'
                          go_simp
                          with_reducible rfl
                        rotate_left
                        · simp only [Act.put, List.setIfInBounds_toArray, List.set_cons_zero, List.set_cons_succ, i64_w, i32_w]
                          rfl
                        refine pure_ (i := 16) (N := some 12) (v := ?_) (a' := ?_) #[true, true, true, true, true, true, true, true, true, true, true, true, true, true, true, true, true] rfl rfl (any_of HT_.out (by kernel_rfl)) (fun _ _ _ h => h) (Or.inl ⟨by rfl, ?_⟩) ?_ ?_
                        rotate_left
                        · intro w'
                          go_simp
                          with_reducible rfl
                        rotate_left
                        · simp only [Act.put, List.setIfInBounds_toArray, List.set_cons_zero, List.set_cons_succ, i64_w, i32_w]
                          rfl
                        refine done_ (done_of HT_.out (by kernel_rfl)) ?_
                        have hnb58 := NB973_969.out
                        have hnc58 := NB969_973.out
                        have hnb59 := NB973_970.out
                        have hnc59 := NB970_973.out
                        obtain ⟨hcz60_0, hcz60_1, hfz60_0, hfz60_1⟩ := bc2_ BK973
                        try go_wp2_with (first | (go_at_call 28; (with_reducible refine (withyref01_Simpler.calls x10_2 x8_1 x974000_2 x974001_2 false _ A45.out).mono ?_); rintro e w61 ⟨rfl, hb⟩; replace BK969 := bkb_ BK969 hb; replace BK970 := bkb_ BK970 hb; replace BK973 := bkb_ BK973 hb; replace HB := bws_ HB hb; (try clear hb); (try clear hb2); (try clear hk); (try clear hi)))
                        go_roundg k2
                        case measure => have := HK1.out; have := HK2.out; omega
                        case rel => exact ⟨(wrap64 (x10_2 + 1)), (x974000_2), (x974001_2), (by first | rfl | (simp; done) | (simp [*]; done)), H', ⟨by have := HK1.out; have := HK2.out; omega⟩, ⟨by exact bk_ BK969⟩, ⟨by exact bk_ BK970⟩, ⟨by exact bk_ BK973⟩, ⟨bw_ HB⟩⟩
                    · rw [if_neg c44] at H
                      have c44b0 : ((wrap64 (t978 * x974001_2)) == (wrap64 (t979 * x8_1))) = false := beq_eq_false_iff_ne.mpr c44
                      have c44b1 : ((wrap64 (t978 * x974001_2)) != (wrap64 (t979 * x8_1))) = true := bne_iff_ne.mpr c44
                      have H' := Aside0.mk H
                      clear H
                      try go_wp2
                      replace BK969 := Aside0.mk (blk_drew BK969.out)
                      replace BK970 := Aside0.mk (blk_drew BK970.out)
                      replace BK973 := Aside0.mk (blk_drew BK973.out)
                      replace HB := Aside0.mk (below_drew1 HB.out)
                      refine start_ (n := 17) (S := fun w' => w'.cell? ⟨gb969, 0, none⟩ = some (.int .i64 a0_0) ∧ w'.cell? ⟨gb969, 1, none⟩ = some (.int .i64 a0_1) ∧ w'.cell? ⟨gb973, 0, none⟩ = some (.int .i64 x974000_2) ∧ w'.cell? ⟨gb973, 1, none⟩ = some (.int .i64 x974001_2)) (ds := []) #[false, false, false, false, false, false, false, false, false, false, false, false, false, false, false, false, false] (by kernel_rfl) rfl rfl ⟨(blk_cell BK969.out 0).trans rfl, (blk_cell BK969.out 1).trans rfl, (blk_cell BK973.out 0).trans rfl, (blk_cell BK973.out 1).trans rfl⟩ (fun hHeld => ?_); refine with_tabW withyref01_Near.tab16 withyref01_Near.bits16 (fun HT_ HW_ => ?_)
                      generalize wr.drew = w62 at BK969 BK970 BK973 HB hHeld ⊢
                      refine pure_ (i := 1) (N := some 48) (v := ?_) (a' := ?_) #[false, true, false, false, false, false, false, false, false, false, false, false, false, false, false, false, false] rfl rfl (any_of HT_.out (by kernel_rfl)) (fun _ _ _ h => h) (Or.inl ⟨by rfl, ?_⟩) ?_ ?_
                      rotate_left
                      · intro w'
                        go_simp
                        with_reducible rfl
                      rotate_left
                      · simp only [Act.put, List.setIfInBounds_toArray, List.set_cons_zero, List.set_cons_succ, i64_w, i32_w]
                        rfl
                      refine pure_ (i := 2) (N := some 49) (v := ?_) (a' := ?_) #[false, true, true, false, false, false, false, false, false, false, false, false, false, false, false, false, false] rfl rfl (any_of HT_.out (by kernel_rfl)) (fun _ _ _ h => h) (Or.inl ⟨by rfl, ?_⟩) ?_ ?_
                      rotate_left
                      · intro w'
                        go_simp
                        with_reducible rfl
                      rotate_left
                      · simp only [Act.put, List.setIfInBounds_toArray, List.set_cons_zero, List.set_cons_succ, i64_w, i32_w]
                        rfl
                      refine pure_ (i := 4) (N := some 51) (v := ?_) (a' := ?_) #[false, true, true, false, true, false, false, false, false, false, false, false, false, false, false, false, false] rfl rfl (any_of HT_.out (by kernel_rfl)) (fun _ _ _ h => h) (Or.inl ⟨by rfl, ?_⟩) ?_ ?_
                      rotate_left
                      · intro w'
                        go_simp
                        with_reducible rfl
                      rotate_left
                      · simp only [Act.put, List.setIfInBounds_toArray, List.set_cons_zero, List.set_cons_succ, i64_w, i32_w]
                        rfl
                      refine pure_ (i := 8) (N := some 55) (v := ?_) (a' := ?_) #[false, true, true, false, true, false, false, false, true, false, false, false, false, false, false, false, false] rfl rfl (any_of HT_.out (by kernel_rfl)) (fun _ _ _ h => h) (Or.inl ⟨by rfl, ?_⟩) ?_ ?_
                      rotate_left
                      · intro w'
                        go_simp
                        with_reducible rfl
                      rotate_left
                      · simp only [Act.put, List.setIfInBounds_toArray, List.set_cons_zero, List.set_cons_succ, i64_w, i32_w]
                        rfl
                      refine pure_ (i := 10) (N := some 57) (v := ?_) (a' := ?_) #[false, true, true, false, true, false, false, false, true, false, true, false, false, false, false, false, false] rfl rfl (any_of HT_.out (by kernel_rfl)) (fun _ _ _ h => h) (Or.inl ⟨by rfl, ?_⟩) ?_ ?_
                      rotate_left
                      · intro w'
                        go_simp
                        with_reducible rfl
                      rotate_left
                      · simp only [Act.put, List.setIfInBounds_toArray, List.set_cons_zero, List.set_cons_succ, i64_w, i32_w]
                        rfl
                      refine pure_ (i := 13) (N := some 60) (v := ?_) (a' := ?_) #[false, true, true, false, true, false, false, false, true, false, true, false, false, true, false, false, false] rfl rfl (any_of HT_.out (by kernel_rfl)) (fun _ _ _ h => h) (Or.inl ⟨by rfl, ?_⟩) ?_ ?_
                      rotate_left
                      · intro w'
                        go_simp
                        with_reducible rfl
                      rotate_left
                      · simp only [Act.put, List.setIfInBounds_toArray, List.set_cons_zero, List.set_cons_succ, i64_w, i32_w]
                        rfl
                      refine take_ (i := 0) (N := some 47) (v := ?_) (a' := ?_) #[true, true, true, false, true, false, false, false, true, false, true, false, false, true, false, false, false] rfl rfl (take_ofW HT_.out HW_.out (by kernel_rfl)) (fun _ _ _ h => h) (Or.inl ⟨by rfl, ?_⟩) hHeld ?_ ?_
                      rotate_left
                      · rintro w' ⟨s0, s1, s2, s3⟩
                        go_simp
                        with_reducible rfl
                      rotate_left
                      · simp only [Act.put, List.setIfInBounds_toArray, List.set_cons_zero, List.set_cons_succ, i64_w, i32_w]
                        rfl
                      refine take_ (i := 5) (N := some 52) (v := ?_) (a' := ?_) #[true, true, true, false, true, true, false, false, true, false, true, false, false, true, false, false, false] rfl rfl (take_ofW HT_.out HW_.out (by kernel_rfl)) (fun _ _ _ h => h) (Or.inl ⟨by rfl, ?_⟩) hHeld ?_ ?_
                      rotate_left
                      · rintro w' ⟨s0, s1, s2, s3⟩
                        go_simp
                        with_reducible rfl
                      rotate_left
                      · simp only [Act.put, List.setIfInBounds_toArray, List.set_cons_zero, List.set_cons_succ, i64_w, i32_w]
                        rfl
                      refine take_ (i := 7) (N := some 54) (v := ?_) (a' := ?_) #[true, true, true, false, true, true, false, true, true, false, true, false, false, true, false, false, false] rfl rfl (take_ofW HT_.out HW_.out (by kernel_rfl)) (fun _ _ _ h => h) (Or.inl ⟨by rfl, ?_⟩) hHeld ?_ ?_
                      rotate_left
                      · rintro w' ⟨s0, s1, s2, s3⟩
                        go_simp
                        with_reducible rfl
                      rotate_left
                      · simp only [Act.put, List.setIfInBounds_toArray, List.set_cons_zero, List.set_cons_succ, i64_w, i32_w]
                        rfl
                      refine take_ (i := 9) (N := some 56) (v := ?_) (a' := ?_) #[true, true, true, false, true, true, false, true, true, true, true, false, false, true, false, false, false] rfl rfl (take_ofW HT_.out HW_.out (by kernel_rfl)) (fun _ _ _ h => h) (Or.inl ⟨by rfl, ?_⟩) hHeld ?_ ?_
                      rotate_left
                      · rintro w' ⟨s0, s1, s2, s3⟩
                        go_simp
                        with_reducible rfl
                      rotate_left
                      · simp only [Act.put, List.setIfInBounds_toArray, List.set_cons_zero, List.set_cons_succ, i64_w, i32_w]
                        rfl
                      refine take_ (i := 11) (N := some 58) (v := ?_) (a' := ?_) #[true, true, true, false, true, true, false, true, true, true, true, true, false, true, false, false, false] rfl rfl (take_ofW HT_.out HW_.out (by kernel_rfl)) (fun _ _ _ h => h) (Or.inl ⟨by rfl, ?_⟩) hHeld ?_ ?_
                      rotate_left
                      · rintro w' ⟨s0, s1, s2, s3⟩
                        go_simp
                        with_reducible rfl
                      rotate_left
                      · simp only [Act.put, List.setIfInBounds_toArray, List.set_cons_zero, List.set_cons_succ, i64_w, i32_w]
                        rfl
                      refine one_ (i := 3) (N := some 50) #[true, true, true, true, true, true, false, true, true, true, true, true, false, true, false, false, false] rfl rfl (one_of HT_.out (by kernel_rfl)) (by decide) (fun K hK => ?_)
                      refine gos_ Try.func111 #[.agg #[.int .i64 a0_0, .int .i64 a0_1], .int .i64 x10_2, .int .i64 x8_1] ?_
                      with_reducible refine (withyref01_gap.calls a0_0 a0_1 x10_2 x8_1 t978 _ A28.out).mono ?_
                      rintro e w63 ⟨rfl, hb⟩
                      refine ⟨_, rfl, ?_⟩
                      replace BK969 := bkb_ BK969 hb
                      replace BK970 := bkb_ BK970 hb
                      replace BK973 := bkb_ BK973 hb
                      replace HB := bws_ HB hb
                      (try clear hb)
                      (try clear hb2)
                      (try clear hk)
                      (try clear hi)
                      refine hK.out _ _ ⟨(blk_cell BK969.out 0).trans rfl, (blk_cell BK969.out 1).trans rfl, (blk_cell BK973.out 0).trans rfl, (blk_cell BK973.out 1).trans rfl⟩ (fun hHeld => ?_)
                      clear hK K
                      refine norm_ (a' := ?_) ?_ ?_
                      rotate_left
                      · show Act.put _ (some 50) _ = _
                        simp only [Act.put, List.setIfInBounds_toArray, List.set_cons_zero, List.set_cons_succ, i64_w, i32_w]
                        rfl
                      refine pure_ (i := 6) (N := some 53) (v := ?_) (a' := ?_) #[true, true, true, true, true, true, true, true, true, true, true, true, false, true, false, false, false] rfl rfl (any_of HT_.out (by kernel_rfl)) (fun _ _ _ h => h) (Or.inl ⟨by rfl, ?_⟩) ?_ ?_
                      rotate_left
                      · intro w'
                        go_simp
                        with_reducible rfl
                      rotate_left
                      · simp only [Act.put, List.setIfInBounds_toArray, List.set_cons_zero, List.set_cons_succ, i64_w, i32_w]
                        rfl
                      refine one_ (i := 12) (N := some 59) #[true, true, true, true, true, true, true, true, true, true, true, true, true, true, false, false, false] rfl rfl (one_of HT_.out (by kernel_rfl)) (by decide) (fun K hK => ?_)
                      refine gos_ Try.func111 #[.agg #[.int .i64 a0_0, .int .i64 a0_1], .int .i64 x974000_2, .int .i64 x974001_2] ?_
                      with_reducible refine (withyref01_gap.calls a0_0 a0_1 x974000_2 x974001_2 t979 _ A29.out).mono ?_
                      rintro e w64 ⟨rfl, hb⟩
                      refine ⟨_, rfl, ?_⟩
                      replace BK969 := bkb_ BK969 hb
                      replace BK970 := bkb_ BK970 hb
                      replace BK973 := bkb_ BK973 hb
                      replace HB := bws_ HB hb
                      (try clear hb)
                      (try clear hb2)
                      (try clear hk)
                      (try clear hi)
                      refine hK.out _ _ ⟨(blk_cell BK969.out 0).trans rfl, (blk_cell BK969.out 1).trans rfl, (blk_cell BK973.out 0).trans rfl, (blk_cell BK973.out 1).trans rfl⟩ (fun hHeld => ?_)
                      clear hK K
                      refine norm_ (a' := ?_) ?_ ?_
                      rotate_left
                      · show Act.put _ (some 59) _ = _
                        simp only [Act.put, List.setIfInBounds_toArray, List.set_cons_zero, List.set_cons_succ, i64_w, i32_w]
                        rfl
                      refine pure_ (i := 14) (N := some 61) (v := ?_) (a' := ?_) #[true, true, true, true, true, true, true, true, true, true, true, true, true, true, true, false, false] rfl rfl (any_of HT_.out (by kernel_rfl)) (fun _ _ _ h => h) (Or.inl ⟨by rfl, ?_⟩) ?_ ?_
                      rotate_left
                      · intro w'
                        go_simp
                        with_reducible rfl
                      rotate_left
                      · simp only [Act.put, List.setIfInBounds_toArray, List.set_cons_zero, List.set_cons_succ, i64_w, i32_w]
                        rfl
                      refine pure_ (i := 15) (N := some 11) (v := ?_) (a' := ?_) #[true, true, true, true, true, true, true, true, true, true, true, true, true, true, true, true, false] rfl rfl (any_of HT_.out (by kernel_rfl)) (fun _ _ _ h => h) (Or.inl ⟨by rfl, ?_⟩) ?_ ?_
                      rotate_left
                      · intro w'
                        go_simp
                        with_reducible rfl
                      rotate_left
                      · simp only [Act.put, List.setIfInBounds_toArray, List.set_cons_zero, List.set_cons_succ, i64_w, i32_w]
                        rfl
                      refine pure_ (i := 16) (N := some 12) (v := ?_) (a' := ?_) #[true, true, true, true, true, true, true, true, true, true, true, true, true, true, true, true, true] rfl rfl (any_of HT_.out (by kernel_rfl)) (fun _ _ _ h => h) (Or.inl ⟨by rfl, ?_⟩) ?_ ?_
                      rotate_left
                      · intro w'
                        go_simp
                        with_reducible rfl
                      rotate_left
                      · simp only [Act.put, List.setIfInBounds_toArray, List.set_cons_zero, List.set_cons_succ, i64_w, i32_w]
                        rfl
                      refine done_ (done_of HT_.out (by kernel_rfl)) ?_
                      have hnb65 := NB973_969.out
                      have hnc65 := NB969_973.out
                      have hnb66 := NB973_970.out
                      have hnc66 := NB970_973.out
                      obtain ⟨hcz67_0, hcz67_1, hfz67_0, hfz67_1⟩ := bc2_ BK973
                      try go_wp2
                      go_roundg k2
                      case measure => have := HK1.out; have := HK2.out; omega
                      case rel => exact ⟨(wrap64 (x10_2 + 1)), (x974000_2), (x974001_2), (by first | rfl | (simp; done) | (simp [*]; done)), H', ⟨by have := HK1.out; have := HK2.out; omega⟩, ⟨by exact bk_ BK969⟩, ⟨by exact bk_ BK970⟩, ⟨by exact bk_ BK973⟩, ⟨bw_ HB⟩⟩
              · rw [if_neg c27] at H
                have c27b0 : decide (x10_2 ≤ (wrap64 (t977 + 1))) = false := decide_eq_false c27
                clear c27
                have H' := Aside0.mk H
                clear H
                go_wp2
                go_roundg k2
                case measure => have := HK1.out; have := HK2.out; omega
                case rel => exact ⟨(wrap64 (x8_1 + 1)), (x974000_2), (x974001_2), (by first | rfl | (simp; done) | (simp [*]; done)), H', ⟨by have := HK1.out; have := HK2.out; omega⟩, ⟨by exact bk_ BK969⟩, ⟨by exact bk_ BK970⟩, ⟨by exact bk_ BK973⟩, ⟨bw_ HB⟩⟩
          · rw [if_neg c22] at H
            have c22b0 : decide (x8_1 ≤ a1) = false := decide_eq_false c22
            clear c22
            replace H := Option.bind_eq_some_iff.mp H
            obtain ⟨⟨t974, t975, t976⟩, A680, H⟩ := H
            replace H : (some (t974, t975, t976)) = some (r1, r2, r3) := H
            have A68 := Aside0.mk A680
            clear A680
            simp only [Option.some.injEq, Prod.mk.injEq] at H
            obtain ⟨rfl, rfl, rfl⟩ := H
            have hnb69 := NB973_969.out
            have hnc69 := NB969_973.out
            have hnb70 := NB973_970.out
            have hnc70 := NB970_973.out
            obtain ⟨hcz71_0, hcz71_1, hfz71_0, hfz71_1⟩ := bc2_ BK973
            go_wp2_with (first | ((with_reducible refine gate_callee (f := 96) rfl ?_); refine gla_ (some 89) Try.func96 #[.int .i64 x974000_1, .int .i64 x974001_1] ?_; (with_reducible refine (withyref01_low.calls k1 x974000_1 x974001_1 t974 t975 t976 _ A68.out).mono ?_); rintro e w72 ⟨rfl, hb⟩; refine ⟨_, rfl, ?_⟩; replace BK969 := bkb_ BK969 hb; replace BK970 := bkb_ BK970 hb; replace BK973 := bkb_ BK973 hb; replace HB := bws_ HB hb; (try clear hb); (try clear hb2); (try clear hk); (try clear hi); have hnb73 := NB970_969.out; have hnc73 := NB969_970.out; obtain ⟨hcz74_0, hcz74_1, hfz74_0, hfz74_1⟩ := bc2_ BK970))
            refine bodyPost_ret (results_ct rfl _ _ gb970 23 #[.int .i64 t974, .int .i64 t975] (0, 0) _ rfl (by refine bp_ (cs := #[.int .i64 t974, .int .i64 0]) ?_ 1; refine bp_ (cs := #[.int .i64 0, .int .i64 0]) ?_ 0; exact bk_ BK970) Try.underlying23 rfl (by kernel_rfl)) rfl ?_
            exact ⟨by first | rfl | (simp [*] <;> rfl), bw_ HB⟩
   · replace c6 := Bool.eq_false_iff.mpr c6
     subst c6
     have H1 : (some (0, 0, 3)) = some (r1, r2, r3) := by rw [if_neg (show ¬ (false = true) by decide)] at H; exact H
     clear H
     have H := H1
     clear H1
     simp only [Option.some.injEq, Prod.mk.injEq] at H
     obtain ⟨rfl, rfl, rfl⟩ := H
     as_aux_lemma =>
      go_enter Try.func64, Try.ntmps64
      go_wp2_with (first | ((with_reducible refine gate_dst (N := 2) rfl ?_); refine box_event ?hg (N := 2) ?hd (cs := #[.int .i64 a0_0, .int .i64 a0_1]) (t := 23) ?hr ?_; (case hd => rfl); (case hg => rfl); (case hr => first | (go_simp; done) | (go_simp; rfl)); intro gb969 hg w75 hbox hb; have BK969 := Aside0.mk hbox; have GW969 := bwg_ HB hg; have GE969 := bwg_ HB hg; replace HB := bws_ HB hb; clear hb hbox hg) | ((with_reducible refine gate_dst (N := 4) rfl ?_); refine box_event ?hg (N := 4) ?hd (cs := #[.int .i64 0, .int .i64 0]) (t := 23) ?hr ?_; (case hd => rfl); (case hg => rfl); (case hr => first | (go_simp; done) | (go_simp; rfl)); intro gb970 hg w76 hbox hb; have BK970 := Aside0.mk hbox; have GW970 := bwg_ HB hg; have GE970 := bwg_ HB hg; replace HB := bws_ HB hb; have NB969_970 := bkl_ BK969 hg; have NB970_969 := bkr_ BK969 hg; replace BK969 := bkb_ BK969 hb; clear hb hbox hg; have hnb77 := NB969_970.out; have hnc77 := NB970_969.out; obtain ⟨hcz78_0, hcz78_1, hfz78_0, hfz78_1⟩ := bc2_ BK969) | ((with_reducible refine gate_callee (f := 41) rfl ?_); refine gla_ (some 14) Try.func41 #[.agg #[.int .i64 a0_0, .int .i64 a0_1]] ?_; (with_reducible refine (withyref01_Check.calls k a0_0 a0_1 t971 _ A3.out).mono ?_); rintro e w79 ⟨rfl, hb⟩; refine ⟨_, rfl, ?_⟩; replace BK969 := bkb_ BK969 hb; replace BK970 := bkb_ BK970 hb; replace HB := bws_ HB hb; (try clear hb); (try clear hb2); (try clear hk); (try clear hi)) | ((with_reducible refine gate_callee (f := 42) rfl ?_); refine gla_ (some 20) Try.func42 #[.int .i64 a1, .int .i64 1, .int .i64 1000] ?_; (with_reducible refine (withyref01_In.calls a1 1 1000 false _ A5.out).mono ?_); rintro e w' ⟨rfl, ⟨nd, rfl⟩⟩; refine ⟨_, rfl, ?_⟩; (try (rw [drewN_self w79]; generalize hq_ : World.drewN w79 _ = w79; have n0_ : Aside0 (w79.heap[gb969]? = some (.cells #[.int .i64 a0_0, .int .i64 a0_1] 23 (0, 0))) := ⟨by rw [← hq_]; exact (bk_ BK969)⟩; have n1_ : Aside0 (w79.heap[gb970]? = some (.cells #[.int .i64 0, .int .i64 0] 23 (0, 0))) := ⟨by rw [← hq_]; exact (bk_ BK970)⟩; have n2_ : Aside0 (Below w.heap.size w w79) := ⟨by rw [← hq_]; exact (bw_ HB)⟩; clear BK969 BK970 HB hq_; have BK969 := n0_; have BK970 := n1_; have HB := n2_; clear n0_ n1_ n2_)); obtain ⟨hcz80_0, hcz80_1, hfz80_0, hfz80_1⟩ := bc2_ BK970))
      refine bodyPost_ret (results_ct rfl _ _ gb970 23 #[.int .i64 0, .int .i64 0] (0, 0) _ rfl (by refine bp_ (cs := #[.int .i64 0, .int .i64 0]) ?_ 1; refine bp_ (cs := #[.int .i64 0, .int .i64 0]) ?_ 0; exact bk_ BK970) Try.underlying23 rfl (by kernel_rfl)) rfl ?_
      exact ⟨by first | rfl | (simp [*] <;> rfl), bw_ HB⟩
 · rw [if_neg c4] at H
   have c4b0 : (t971 == 0) = false := beq_eq_false_iff_ne.mpr c4
   have c4b1 : (t971 != 0) = true := bne_iff_ne.mpr c4
   simp only [Option.some.injEq, Prod.mk.injEq] at H
   obtain ⟨rfl, rfl, rfl⟩ := H
   as_aux_lemma =>
    go_enter Try.func64, Try.ntmps64
    go_wp2_with (first | ((with_reducible refine gate_dst (N := 2) rfl ?_); refine box_event ?hg (N := 2) ?hd (cs := #[.int .i64 a0_0, .int .i64 a0_1]) (t := 23) ?hr ?_; (case hd => rfl); (case hg => rfl); (case hr => first | (go_simp; done) | (go_simp; rfl)); intro gb969 hg w81 hbox hb; have BK969 := Aside0.mk hbox; have GW969 := bwg_ HB hg; have GE969 := bwg_ HB hg; replace HB := bws_ HB hb; clear hb hbox hg) | ((with_reducible refine gate_dst (N := 4) rfl ?_); refine box_event ?hg (N := 4) ?hd (cs := #[.int .i64 0, .int .i64 0]) (t := 23) ?hr ?_; (case hd => rfl); (case hg => rfl); (case hr => first | (go_simp; done) | (go_simp; rfl)); intro gb970 hg w82 hbox hb; have BK970 := Aside0.mk hbox; have GW970 := bwg_ HB hg; have GE970 := bwg_ HB hg; replace HB := bws_ HB hb; have NB969_970 := bkl_ BK969 hg; have NB970_969 := bkr_ BK969 hg; replace BK969 := bkb_ BK969 hb; clear hb hbox hg; have hnb83 := NB969_970.out; have hnc83 := NB970_969.out; obtain ⟨hcz84_0, hcz84_1, hfz84_0, hfz84_1⟩ := bc2_ BK969) | ((with_reducible refine gate_callee (f := 41) rfl ?_); refine gla_ (some 14) Try.func41 #[.agg #[.int .i64 a0_0, .int .i64 a0_1]] ?_; (with_reducible refine (withyref01_Check.calls k a0_0 a0_1 t971 _ A3.out).mono ?_); rintro e w85 ⟨rfl, hb⟩; refine ⟨_, rfl, ?_⟩; replace BK969 := bkb_ BK969 hb; replace BK970 := bkb_ BK970 hb; replace HB := bws_ HB hb; (try clear hb); (try clear hb2); (try clear hk); (try clear hi); obtain ⟨hcz86_0, hcz86_1, hfz86_0, hfz86_1⟩ := bc2_ BK970))
    refine bodyPost_ret (results_ct rfl _ _ gb970 23 #[.int .i64 0, .int .i64 0] (0, 0) _ rfl (by refine bp_ (cs := #[.int .i64 0, .int .i64 0]) ?_ 1; refine bp_ (cs := #[.int .i64 0, .int .i64 0]) ?_ 0; exact bk_ BK970) Try.underlying23 rfl (by kernel_rfl)) rfl ?_
    exact ⟨by first | rfl | (simp [*] <;> rfl), bw_ HB⟩
/-! ### withyref01_Terms: function 65 -/
def withyref01_Terms.l0 : Nat → List Int → Int → Int → Option (List Int × Int)
  | 0, _, _, _ => none
  | k + 1, x5, x6, x7 => if x7 > 0 then ((withyref01_under.f x6 x7).bind fun t983 => (if x5.length < 17592186044416 then (withyref01_Terms.l0 k (x5 ++ [t983]) x7 (wrap64 (x6 - (wrap64 (t983 * x7))))) else (none))) else (some (x5, 0))
def withyref01_Terms.f (k : Nat) (a0_0 : Int) (a0_1 : Int) : Option (List Int × Int) := (withyref01_Check.f k a0_0 a0_1).bind fun t982 => (if t982 = 0 then (withyref01_Terms.l0 k ([] : List Int) a0_0 a0_1) else (some (([] : List Int), t982)))
theorem withyref01_Terms.mono_l : ∀ k, (∀ y0 y1 y2, LeO (withyref01_Terms.l0 k y0 y1 y2) (withyref01_Terms.l0 (k + 1) y0 y1 y2))
  | 0 => fun _ _ _ r h => by simp [withyref01_Terms.l0] at h
  | k + 1 => by
    have ih0 := withyref01_Terms.mono_l k
    · intro y0 y1 y2
      unfold withyref01_Terms.l0
      repeat' first
      | (with_reducible exact ih0 _ _ _)
      | (with_reducible exact withyref01_Check.mono _ _ _)
      | (with_reducible exact LeO.refl _)
      | (with_reducible exact LeO.none _)
      | (with_reducible refine LeO.ite ?_ ?_)
      | (with_reducible refine LeO.bind ?_ (fun _ => ?_))
      | (with_reducible refine LeO.exc (fun _ => ?_) (fun _ => ?_))
      | exact ih0 _ _ _
      | exact withyref01_Check.mono _ _ _
      | exact LeO.none _
      | refine LeO.ite ?_ ?_
      | refine LeO.bind ?_ (fun _ => ?_)
theorem withyref01_Terms.mono : ∀ a0 a1 k, LeO (withyref01_Terms.f k a0 a1) (withyref01_Terms.f (k + 1) a0 a1) := by
  intro a0 a1 k
  have ih0 := withyref01_Terms.mono_l k
  unfold withyref01_Terms.f
  repeat' first
      | (with_reducible exact ih0 _ _ _)
      | (with_reducible exact withyref01_Check.mono _ _ _)
      | (with_reducible exact LeO.refl _)
      | (with_reducible exact LeO.none _)
      | (with_reducible refine LeO.ite ?_ ?_)
      | (with_reducible refine LeO.bind ?_ (fun _ => ?_))
      | (with_reducible refine LeO.exc (fun _ => ?_) (fun _ => ?_))
      | exact ih0 _ _ _
      | exact withyref01_Check.mono _ _ _
      | exact LeO.none _
      | refine LeO.ite ?_ ?_
      | refine LeO.bind ?_ (fun _ => ?_)
set_option maxHeartbeats 8000000 in
set_option maxRecDepth 100000 in
theorem withyref01_Terms.calls (k : Nat) (a0_0 : Int) (a0_1 : Int) (r1 : List Int) (r2 : Int) (w : World) (h : withyref01_Terms.f k a0_0 a0_1 = some (r1, r2)) :
    Calls Try.prog 65 #[.agg #[.int .i64 a0_0, .int .i64 a0_1]] w fun e w' => ∃ v0_ : Value, e = .returned (.tuple #[v0_, .int .i64 r2]) ∧ Kd.R (Kd.int .i64) 3 w' w.heap.size (fun _ => True) v0_ r1 ∧ Below w.heap.size w w' := by
 have hu23 := Try.underlying23
 have HB := Aside0.mk (Below.refl w.heap.size w)
 have H : ((withyref01_Check.f k a0_0 a0_1).bind fun t982 => (if t982 = 0 then (withyref01_Terms.l0 k ([] : List Int) a0_0 a0_1) else (some (([] : List Int), t982)))) = some (r1, r2) := h
 clear h
 replace H := Option.bind_eq_some_iff.mp H
 obtain ⟨t982, A20, H⟩ := H
 replace H : (if t982 = 0 then (withyref01_Terms.l0 k ([] : List Int) a0_0 a0_1) else (some (([] : List Int), t982))) = some (r1, r2) := H
 have A2 := Aside0.mk A20
 clear A20
 by_cases c3 : t982 = 0
 · rw [if_pos c3] at H
   have c3b0 : (t982 == 0) = true := beq_iff_eq.mpr c3
   have c3b1 : (t982 != 0) = false := bne_eq_false_iff_eq.mpr c3
   clear c3
   have H' := Aside0.mk H
   clear H
   go_enter Try.func65, Try.ntmps65
   go_wp2_with (first | ((with_reducible refine gate_dst (N := 1) rfl ?_); refine box_event ?hg (N := 1) ?hd (cs := #[.int .i64 a0_0, .int .i64 a0_1]) (t := 23) ?hr ?_; (case hd => rfl); (case hg => rfl); (case hr => first | (go_simp; done) | (go_simp; rfl)); intro gb981 hg w4 hbox hb; have BK981 := Aside0.mk hbox; have GW981 := bwg_ HB hg; have GE981 := bwg_ HB hg; replace HB := bws_ HB hb; clear hb hbox hg; obtain ⟨hcz5_0, hcz5_1, hfz5_0, hfz5_1⟩ := bc2_ BK981) | (go_at_call 41; (with_reducible refine (withyref01_Check.calls k a0_0 a0_1 t982 _ A2.out).mono ?_); rintro e w6 ⟨rfl, hb⟩; replace BK981 := bkb_ BK981 hb; replace HB := bws_ HB hb; (try clear hb); (try clear hb2); (try clear hk); (try clear hi); obtain ⟨hcz7_0, hcz7_1, hfz7_0, hfz7_1⟩ := bc2_ BK981))
   repeat (go_quiet (first | ((with_reducible refine gate_dst (N := 1) rfl ?_); refine box_event ?hg (N := 1) ?hd (cs := #[.int .i64 a0_0, .int .i64 a0_1]) (t := 23) ?hr ?_; (case hd => rfl); (case hg => rfl); (case hr => first | (go_simp; done) | (go_simp; rfl)); intro gb981 hg w4 hbox hb; have BK981 := Aside0.mk hbox; have GW981 := bwg_ HB hg; have GE981 := bwg_ HB hg; replace HB := bws_ HB hb; clear hb hbox hg; obtain ⟨hcz5_0, hcz5_1, hfz5_0, hfz5_1⟩ := bc2_ BK981) | (go_at_call 41; (with_reducible refine (withyref01_Check.calls k a0_0 a0_1 t982 _ A2.out).mono ?_); rintro e w6 ⟨rfl, hb⟩; replace BK981 := bkb_ BK981 hb; replace HB := bws_ HB hb; (try clear hb); (try clear hb2); (try clear hk); (try clear hi); obtain ⟨hcz7_0, hcz7_1, hfz7_0, hfz7_1⟩ := bc2_ BK981)); try go_wp2_with (first | ((with_reducible refine gate_dst (N := 1) rfl ?_); refine box_event ?hg (N := 1) ?hd (cs := #[.int .i64 a0_0, .int .i64 a0_1]) (t := 23) ?hr ?_; (case hd => rfl); (case hg => rfl); (case hr => first | (go_simp; done) | (go_simp; rfl)); intro gb981 hg w4 hbox hb; have BK981 := Aside0.mk hbox; have GW981 := bwg_ HB hg; have GE981 := bwg_ HB hg; replace HB := bws_ HB hb; clear hb hbox hg; obtain ⟨hcz5_0, hcz5_1, hfz5_0, hfz5_1⟩ := bc2_ BK981) | (go_at_call 41; (with_reducible refine (withyref01_Check.calls k a0_0 a0_1 t982 _ A2.out).mono ?_); rintro e w6 ⟨rfl, hb⟩; replace BK981 := bkb_ BK981 hb; replace HB := bws_ HB hb; (try clear hb); (try clear hb2); (try clear hk); (try clear hi); obtain ⟨hcz7_0, hcz7_1, hfz7_0, hfz7_1⟩ := bc2_ BK981)))
   go_loopg [5, 6, 7] k (fun kq v5 v6 v7 w' => ∃ (x5_1 : List Int) (x6_1 : Int) (x7_1 : Int), v6 = .int .i64 x6_1 ∧ v7 = .int .i64 x7_1 ∧ Aside0 (withyref01_Terms.l0 kq x5_1 x6_1 x7_1 = some (r1, r2)) ∧ Aside0 (kq ≤ k) ∧ Aside0 (Kd.R (Kd.int .i64) 3 w' w.heap.size (fun _ => True) v5 x5_1) ∧ Aside0 (w'.heap[gb981]? = some (.cells #[.int .i64 a0_0, .int .i64 a0_1] 23 (0, 0))) ∧ Aside0 (Below w.heap.size w w'))
   case atStart => exact ⟨(([] : List Int)), (a0_0), (a0_1), (by first | rfl | (simp; done) | (simp [*]; done)), (by first | rfl | (simp; done) | (simp [*]; done)), H', ⟨Nat.le_refl _⟩, ⟨by first | exact Kd.R_nil _ _ _ _ _ | exact Kd.N_nil _ _ _ _ _ | exact Kd.V_nil _ _ _ _ _ | exact Kd.Q_nil _ _ _ _ _ | exact Kd.S_nil _ _ _ _ _⟩, ⟨by exact bk_ BK981⟩, ⟨bw_ HB⟩⟩
   case round =>
    clear H'
    try clear p2
    try clear c3
    try clear c3b0
    try clear c3b1
    try clear c6
    try clear hcz5_0
    try clear hcz5_1
    try clear hcz7_0
    try clear hcz7_1
    try clear hfz5_0
    try clear hfz5_1
    try clear hfz7_0
    try clear hfz7_1
    obtain ⟨x5_1, x6_1, x7_1, rfl, rfl, HA, HK1, HO_5, BK981, HB⟩ := hrel
    cases gk with
    | zero => exact absurd HA.out (by simp [withyref01_Terms.l0])
    | succ k1 =>
     have H := HA.out
     clear HA
     simp only [withyref01_Terms.l0] at H
     by_cases c8 : x7_1 > 0
     · rw [if_pos c8] at H
       have c8b0 : decide (0 < x7_1) = true := decide_eq_true c8
       clear c8
       replace H := Option.bind_eq_some_iff.mp H
       obtain ⟨t983, A90, H⟩ := H
       replace H : (if x5_1.length < 17592186044416 then (withyref01_Terms.l0 k1 (x5_1 ++ [t983]) x7_1 (wrap64 (x6_1 - (wrap64 (t983 * x7_1))))) else (none)) = some (r1, r2) := H
       have A9 := Aside0.mk A90
       clear A90
       by_cases c10 : x5_1.length < 17592186044416
       · rw [if_pos c10] at H
         have LMc10 := Aside0.mk c10
         clear c10
         obtain ⟨y984, hy984⟩ : ∃ y_ : List Int, y_ = (x5_1 ++ [t983]) := ⟨_, rfl⟩
         replace H : (withyref01_Terms.l0 k1 y984 x7_1 (wrap64 (x6_1 - (wrap64 (t983 * x7_1))))) = some (r1, r2) := by first | (rw [hy984]; with_reducible exact H) | (have H2_ := (Option.bind_some _ _).symm.trans H; rw [hy984]; with_reducible exact H2_) | (have H2_ := (Option.bind_some _ _).symm.trans H; with_reducible exact H2_) | with_reducible exact H | (rw [hy984]; exact H) | exact H
         have Ny984 := Aside0.mk hy984
         clear hy984
         have H' := Aside0.mk H
         clear H
         go_wp2_with (first | (go_at_call 76; (with_reducible refine (withyref01_under.calls x6_1 x7_1 t983 _ A9.out).mono ?_); rintro e w' ⟨rfl, ⟨nd, rfl⟩⟩; (try first | exact ⟨rfl, _, World.drewN_drewN _ _ _⟩ | exact ⟨rfl, _, Eq.trans (World.drewN_drewN _ _ _) (congrArg (World.drewN _) (Nat.add_assoc _ _ _))⟩)) | ((with_reducible refine gate_builtin (b := .append) (xs := #[.tmp 23, .tmp 25]) rfl ?_); at_builtin; refine Kd.R_append (Kd.int .i64) (w0 := w) w.heap.size rfl (.tmp 23) (.tmp 25) 55 3 (.int .i64 0) 8 rfl Try.underlying55 info3 rfl (by decide) (by omega) u5 x5_1 t983 [.int .i64 t983] (fun _ => True) (fun _ => False) rfl rfl ?aP (fun _ hk => hk.elim) ?aF ?aO ?aB ?aS ?aL ?_; (case aP => exact rfl); (case aB => exact (bw_ HB)); (case aF => exact (fun _ _ => trivial)); (case aO => exact (by (with_reducible repeat (first | apply Kd.R_alloc | apply Kd.R_drewN | apply Kd.R_drew)); exact HO_5.out)); (case aS => exact (below_size (bw_ HB))); (case aL => have := LMc10.out; omega); intro v985 w11 ho hb hg hat; rw [← Ny984.out] at ho; replace BK981 := Aside0.mk (blk_grown (bk_ BK981) hg (Kd.R_ne HO_5.out BK981.out (by decide))); replace HB := Aside0.mk hb; have HO986 := Aside0.mk ho; clear HO_5; clear ho hb hg hat))
         repeat (go_quiet (first | (go_at_call 76; (with_reducible refine (withyref01_under.calls x6_1 x7_1 t983 _ A9.out).mono ?_); rintro e w' ⟨rfl, ⟨nd, rfl⟩⟩; (try first | exact ⟨rfl, _, World.drewN_drewN _ _ _⟩ | exact ⟨rfl, _, Eq.trans (World.drewN_drewN _ _ _) (congrArg (World.drewN _) (Nat.add_assoc _ _ _))⟩)) | ((with_reducible refine gate_builtin (b := .append) (xs := #[.tmp 23, .tmp 25]) rfl ?_); at_builtin; refine Kd.R_append (Kd.int .i64) (w0 := w) w.heap.size rfl (.tmp 23) (.tmp 25) 55 3 (.int .i64 0) 8 rfl Try.underlying55 info3 rfl (by decide) (by omega) u5 x5_1 t983 [.int .i64 t983] (fun _ => True) (fun _ => False) rfl rfl ?aP (fun _ hk => hk.elim) ?aF ?aO ?aB ?aS ?aL ?_; (case aP => exact rfl); (case aB => exact (bw_ HB)); (case aF => exact (fun _ _ => trivial)); (case aO => exact (by (with_reducible repeat (first | apply Kd.R_alloc | apply Kd.R_drewN | apply Kd.R_drew)); exact HO_5.out)); (case aS => exact (below_size (bw_ HB))); (case aL => have := LMc10.out; omega); intro v985 w11 ho hb hg hat; rw [← Ny984.out] at ho; replace BK981 := Aside0.mk (blk_grown (bk_ BK981) hg (Kd.R_ne HO_5.out BK981.out (by decide))); replace HB := Aside0.mk hb; have HO986 := Aside0.mk ho; clear HO_5; clear ho hb hg hat)); try go_wp2_with (first | (go_at_call 76; (with_reducible refine (withyref01_under.calls x6_1 x7_1 t983 _ A9.out).mono ?_); rintro e w' ⟨rfl, ⟨nd, rfl⟩⟩; (try first | exact ⟨rfl, _, World.drewN_drewN _ _ _⟩ | exact ⟨rfl, _, Eq.trans (World.drewN_drewN _ _ _) (congrArg (World.drewN _) (Nat.add_assoc _ _ _))⟩)) | ((with_reducible refine gate_builtin (b := .append) (xs := #[.tmp 23, .tmp 25]) rfl ?_); at_builtin; refine Kd.R_append (Kd.int .i64) (w0 := w) w.heap.size rfl (.tmp 23) (.tmp 25) 55 3 (.int .i64 0) 8 rfl Try.underlying55 info3 rfl (by decide) (by omega) u5 x5_1 t983 [.int .i64 t983] (fun _ => True) (fun _ => False) rfl rfl ?aP (fun _ hk => hk.elim) ?aF ?aO ?aB ?aS ?aL ?_; (case aP => exact rfl); (case aB => exact (bw_ HB)); (case aF => exact (fun _ _ => trivial)); (case aO => exact (by (with_reducible repeat (first | apply Kd.R_alloc | apply Kd.R_drewN | apply Kd.R_drew)); exact HO_5.out)); (case aS => exact (below_size (bw_ HB))); (case aL => have := LMc10.out; omega); intro v985 w11 ho hb hg hat; rw [← Ny984.out] at ho; replace BK981 := Aside0.mk (blk_grown (bk_ BK981) hg (Kd.R_ne HO_5.out BK981.out (by decide))); replace HB := Aside0.mk hb; have HO986 := Aside0.mk ho; clear HO_5; clear ho hb hg hat)))
         go_roundg k1
         case measure => have := HK1.out; omega
         case rel => exact ⟨(y984), (x7_1), (wrap64 (x6_1 - (wrap64 (t983 * x7_1)))), (by first | rfl | (simp; done) | (simp [*]; done)), (by first | rfl | (simp; done) | (simp [*]; done)), H', ⟨by have := HK1.out; omega⟩, ⟨by (with_reducible repeat (first | apply Kd.R_alloc | apply Kd.R_drewN | apply Kd.R_drew)); exact HO986.out⟩, ⟨by exact bk_ BK981⟩, ⟨bw_ HB⟩⟩
       · rw [if_neg c10] at H
         exact absurd H (by simp)
     · rw [if_neg c8] at H
       have c8b0 : decide (0 < x7_1) = false := decide_eq_false c8
       clear c8
       simp only [Option.some.injEq, Prod.mk.injEq] at H
       obtain ⟨rfl, rfl⟩ := H
       go_wp2
       repeat (go_quiet (fail); try go_wp2)
       go_ret2
       exact ⟨_, by first | rfl | (simp [errW_none, errW_some] <;> rfl) | (simp [*, errW_none, errW_some] <;> rfl), by (with_reducible repeat (first | apply Kd.R_alloc | apply Kd.R_drewN | apply Kd.R_drew)); exact HO_5.out, bw_ HB⟩
 · rw [if_neg c3] at H
   have c3b0 : (t982 == 0) = false := beq_eq_false_iff_ne.mpr c3
   have c3b1 : (t982 != 0) = true := bne_iff_ne.mpr c3
   simp only [Option.some.injEq, Prod.mk.injEq] at H
   obtain ⟨rfl, rfl⟩ := H
   go_enter Try.func65, Try.ntmps65
   go_wp2_with (first | ((with_reducible refine gate_dst (N := 1) rfl ?_); refine box_event ?hg (N := 1) ?hd (cs := #[.int .i64 a0_0, .int .i64 a0_1]) (t := 23) ?hr ?_; (case hd => rfl); (case hg => rfl); (case hr => first | (go_simp; done) | (go_simp; rfl)); intro gb981 hg w12 hbox hb; have BK981 := Aside0.mk hbox; have GW981 := bwg_ HB hg; have GE981 := bwg_ HB hg; replace HB := bws_ HB hb; clear hb hbox hg; obtain ⟨hcz13_0, hcz13_1, hfz13_0, hfz13_1⟩ := bc2_ BK981) | (go_at_call 41; (with_reducible refine (withyref01_Check.calls k a0_0 a0_1 t982 _ A2.out).mono ?_); rintro e w14 ⟨rfl, hb⟩; replace BK981 := bkb_ BK981 hb; replace HB := bws_ HB hb; (try clear hb); (try clear hb2); (try clear hk); (try clear hi)))
   repeat (go_quiet (first | ((with_reducible refine gate_dst (N := 1) rfl ?_); refine box_event ?hg (N := 1) ?hd (cs := #[.int .i64 a0_0, .int .i64 a0_1]) (t := 23) ?hr ?_; (case hd => rfl); (case hg => rfl); (case hr => first | (go_simp; done) | (go_simp; rfl)); intro gb981 hg w12 hbox hb; have BK981 := Aside0.mk hbox; have GW981 := bwg_ HB hg; have GE981 := bwg_ HB hg; replace HB := bws_ HB hb; clear hb hbox hg; obtain ⟨hcz13_0, hcz13_1, hfz13_0, hfz13_1⟩ := bc2_ BK981) | (go_at_call 41; (with_reducible refine (withyref01_Check.calls k a0_0 a0_1 t982 _ A2.out).mono ?_); rintro e w14 ⟨rfl, hb⟩; replace BK981 := bkb_ BK981 hb; replace HB := bws_ HB hb; (try clear hb); (try clear hb2); (try clear hk); (try clear hi))); try go_wp2_with (first | ((with_reducible refine gate_dst (N := 1) rfl ?_); refine box_event ?hg (N := 1) ?hd (cs := #[.int .i64 a0_0, .int .i64 a0_1]) (t := 23) ?hr ?_; (case hd => rfl); (case hg => rfl); (case hr => first | (go_simp; done) | (go_simp; rfl)); intro gb981 hg w12 hbox hb; have BK981 := Aside0.mk hbox; have GW981 := bwg_ HB hg; have GE981 := bwg_ HB hg; replace HB := bws_ HB hb; clear hb hbox hg; obtain ⟨hcz13_0, hcz13_1, hfz13_0, hfz13_1⟩ := bc2_ BK981) | (go_at_call 41; (with_reducible refine (withyref01_Check.calls k a0_0 a0_1 t982 _ A2.out).mono ?_); rintro e w14 ⟨rfl, hb⟩; replace BK981 := bkb_ BK981 hb; replace HB := bws_ HB hb; (try clear hb); (try clear hb2); (try clear hk); (try clear hi))))
   go_ret2
   exact ⟨_, by first | rfl | (simp [errW_none, errW_some] <;> rfl) | (simp [*, errW_none, errW_some] <;> rfl), by first | exact Kd.R_nil _ _ _ _ _ | exact Kd.N_nil _ _ _ _ _ | exact Kd.V_nil _ _ _ _ _ | exact Kd.Q_nil _ _ _ _ _ | exact Kd.S_nil _ _ _ _ _, bw_ HB⟩
/-! ### withyref01_Of: function 66 -/
mutual
def withyref01_Of.l0 : Nat → List Int → Int → Int → Option (Int × Int × Int)
  | 0, _, _, _ => none
  | k + 1, x0, x4, x5 => if x5 ≤ x4 then (if 0 ≤ x5 then (if x5 < (x0.length : Int) then (if (rd x0 x5) < 1 then (some (0, 0, 3)) else (withyref01_Of.l0 k x0 x4 (wrap64 (x5 + 1)))) else (none)) else (none)) else (if x4 > 0 then (if 0 ≤ x4 then (if x4 < (x0.length : Int) then (withyref01_Of.j1 k x0 x4 ((rd x0 x4) == 1)) else (none)) else (none)) else (withyref01_Of.j1 k x0 x4 false))
def withyref01_Of.j1 : Nat → List Int → Int → Bool → Option (Int × Int × Int)
  | 0, _, _, _ => none
  | k + 1, x0, x4, x37 => if x37 = true then (some (0, 0, 1)) else (withyref01_Of.l1 k x0 x4 x4 0 0)
def withyref01_Of.l1 : Nat → List Int → Int → Int → Int → Int → Option (Int × Int × Int)
  | 0, _, _, _, _, _ => none
  | k + 1, x0, x4, x7, x992000, x992001 => if x7 ≥ 0 then (if 0 ≤ x7 then (if x7 < (x0.length : Int) then ((withyref01_In.f (rd x0 x7) (-1000000000) 1000000000).bind fun t993 => (if t993 = true then (if x7 = x4 then ((withyref01_Int.f (rd x0 x7)).bind fun bt995 => (withyref01_Of.l1 k x0 x4 (wrap64 (x7 - 1)) bt995.1 bt995.2)) else ((withyref01_low.f k (wrap64 ((wrap64 ((rd x0 x7) * x992000)) + x992001)) x992000).bind fun bt998 => (if bt998.2.2 = 0 then (withyref01_Of.l1 k x0 x4 (wrap64 (x7 - 1)) bt998.1 bt998.2.1) else (some (0, 0, bt998.2.2))))) else (some (0, 0, 8)))) else (none)) else (none)) else (some (x992000, x992001, 0))
end
def withyref01_Of.f (k : Nat) (l0 : List Int) : Option (Int × Int × Int) := (withyref01_In.f (l0.length : Int) 1 50).bind fun t988 => (if t988 = true then (withyref01_Of.l0 k l0 (wrap64 ((l0.length : Int) - 1)) 1) else (some (0, 0, 4)))
theorem withyref01_Of.mono_l : ∀ k, (∀ y0 y1 y2, LeO (withyref01_Of.l0 k y0 y1 y2) (withyref01_Of.l0 (k + 1) y0 y1 y2)) ∧ (∀ y0 y1 y2, LeO (withyref01_Of.j1 k y0 y1 y2) (withyref01_Of.j1 (k + 1) y0 y1 y2)) ∧ (∀ y0 y1 y2 y3 y4, LeO (withyref01_Of.l1 k y0 y1 y2 y3 y4) (withyref01_Of.l1 (k + 1) y0 y1 y2 y3 y4))
  | 0 => ⟨fun _ _ _ r h => by simp [withyref01_Of.l0] at h, fun _ _ _ r h => by simp [withyref01_Of.j1] at h, fun _ _ _ _ _ r h => by simp [withyref01_Of.l1] at h⟩
  | k + 1 => by
    obtain ⟨ih0, ih1, ih2⟩ := withyref01_Of.mono_l k
    refine ⟨?_, ?_, ?_⟩
    · intro y0 y1 y2
      unfold withyref01_Of.l0
      repeat' first
      | (with_reducible exact ih0 _ _ _)
      | (with_reducible exact ih1 _ _ _)
      | (with_reducible exact ih2 _ _ _ _ _)
      | (with_reducible exact withyref01_low.mono _ _ _)
      | (with_reducible exact LeO.refl _)
      | (with_reducible exact LeO.none _)
      | (with_reducible refine LeO.ite ?_ ?_)
      | (with_reducible refine LeO.bind ?_ (fun _ => ?_))
      | (with_reducible refine LeO.exc (fun _ => ?_) (fun _ => ?_))
      | exact ih0 _ _ _
      | exact ih1 _ _ _
      | exact ih2 _ _ _ _ _
      | exact withyref01_low.mono _ _ _
      | exact LeO.none _
      | refine LeO.ite ?_ ?_
      | refine LeO.bind ?_ (fun _ => ?_)
    · intro y0 y1 y2
      unfold withyref01_Of.j1
      repeat' first
      | (with_reducible exact ih0 _ _ _)
      | (with_reducible exact ih1 _ _ _)
      | (with_reducible exact ih2 _ _ _ _ _)
      | (with_reducible exact withyref01_low.mono _ _ _)
      | (with_reducible exact LeO.refl _)
      | (with_reducible exact LeO.none _)
      | (with_reducible refine LeO.ite ?_ ?_)
      | (with_reducible refine LeO.bind ?_ (fun _ => ?_))
      | (with_reducible refine LeO.exc (fun _ => ?_) (fun _ => ?_))
      | exact ih0 _ _ _
      | exact ih1 _ _ _
      | exact ih2 _ _ _ _ _
      | exact withyref01_low.mono _ _ _
      | exact LeO.none _
      | refine LeO.ite ?_ ?_
      | refine LeO.bind ?_ (fun _ => ?_)
    · intro y0 y1 y2 y3 y4
      unfold withyref01_Of.l1
      repeat' first
      | (with_reducible exact ih0 _ _ _)
      | (with_reducible exact ih1 _ _ _)
      | (with_reducible exact ih2 _ _ _ _ _)
      | (with_reducible exact withyref01_low.mono _ _ _)
      | (with_reducible exact LeO.refl _)
      | (with_reducible exact LeO.none _)
      | (with_reducible refine LeO.ite ?_ ?_)
      | (with_reducible refine LeO.bind ?_ (fun _ => ?_))
      | (with_reducible refine LeO.exc (fun _ => ?_) (fun _ => ?_))
      | exact ih0 _ _ _
      | exact ih1 _ _ _
      | exact ih2 _ _ _ _ _
      | exact withyref01_low.mono _ _ _
      | exact LeO.none _
      | refine LeO.ite ?_ ?_
      | refine LeO.bind ?_ (fun _ => ?_)
theorem withyref01_Of.mono : ∀ a0 k, LeO (withyref01_Of.f k a0) (withyref01_Of.f (k + 1) a0) := by
  intro a0 k
  obtain ⟨ih0, ih1, ih2⟩ := withyref01_Of.mono_l k
  unfold withyref01_Of.f
  repeat' first
      | (with_reducible exact ih0 _ _ _)
      | (with_reducible exact ih1 _ _ _)
      | (with_reducible exact ih2 _ _ _ _ _)
      | (with_reducible exact withyref01_low.mono _ _ _)
      | (with_reducible exact LeO.refl _)
      | (with_reducible exact LeO.none _)
      | (with_reducible refine LeO.ite ?_ ?_)
      | (with_reducible refine LeO.bind ?_ (fun _ => ?_))
      | (with_reducible refine LeO.exc (fun _ => ?_) (fun _ => ?_))
      | exact ih0 _ _ _
      | exact ih1 _ _ _
      | exact ih2 _ _ _ _ _
      | exact withyref01_low.mono _ _ _
      | exact LeO.none _
      | refine LeO.ite ?_ ?_
      | refine LeO.bind ?_ (fun _ => ?_)
def withyref01_Of.T19 : Bool × List (List Nat × List Nat) := (true, [([], []), ([], []), ([0, 1], [0, 1]), ([2], [2]), ([], []), ([4], [4]), ([3, 5], [3, 5]), ([], []), ([7], [7]), ([6, 8], [6, 8]), ([], []), ([10], [10]), ([9, 11], [9, 11]), ([12], [12]), ([13], [13]), ([13], [13]), ([], []), ([16, 14, 12, 0, 1, 2, 3, 4, 5, 6, 7, 8, 9, 10, 11, 12, 13, 14, 16], [14, 16]), ([15, 17, 0, 1, 2, 3, 4, 5, 6, 7, 8, 9, 10, 11, 12, 13, 14, 15, 16, 17], [15])])
def withyref01_Of.B19 : List Nat := [0, 0, 3, 7, 0, 16, 63, 0, 128, 511, 0, 1024, 4095, 8191, 16383, 16383, 0, 98303, 262143]
theorem withyref01_Of.tab19 : rtab .any (opsOf Try.f66 19) = withyref01_Of.T19 := by kernel_rfl
theorem withyref01_Of.bits19 : waitsOk withyref01_Of.T19.2 withyref01_Of.B19 = true := by kernel_rfl
set_option maxHeartbeats 8000000 in
set_option maxRecDepth 100000 in
theorem withyref01_Of.calls (k : Nat) (A0 : Option Addr) (c0 : Nat) (l0 : List Int) (r1 : Int) (r2 : Int) (r3 : Int) (w : World) (hr0 : Kd.C (Kd.int .i64) w A0 l0.length l0) (hc0 : l0.length ≤ c0) (h : withyref01_Of.f k l0 = some (r1, r2, r3)) :
    Calls Try.prog 66 #[.slice A0 l0.length c0] w fun e w' => e = .returned (.tuple #[.agg #[.int .i64 r1, .int .i64 r2], .int .i64 r3]) ∧ Below w.heap.size w w' := by
 have hu23 := Try.underlying23
 have HR0 := Aside0.mk hr0
 have HC0 := Aside0.mk hc0
 clear hr0 hc0
 have HB := Aside0.mk (Below.refl w.heap.size w)
 have H : ((withyref01_In.f (l0.length : Int) 1 50).bind fun t988 => (if t988 = true then (withyref01_Of.l0 k l0 (wrap64 ((l0.length : Int) - 1)) 1) else (some (0, 0, 4)))) = some (r1, r2, r3) := h
 clear h
 replace H := Option.bind_eq_some_iff.mp H
 obtain ⟨t988, A20, H⟩ := H
 replace H : (if t988 = true then (withyref01_Of.l0 k l0 (wrap64 ((l0.length : Int) - 1)) 1) else (some (0, 0, 4))) = some (r1, r2, r3) := H
 have A2 := Aside0.mk A20
 clear A20
 by_cases c3 : t988 = true
 · subst c3
   have H1 : (withyref01_Of.l0 k l0 (wrap64 ((l0.length : Int) - 1)) 1) = some (r1, r2, r3) := by rw [if_pos rfl] at H; exact H
   clear H
   have H := H1
   clear H1
   have H' := Aside0.mk H
   clear H
   as_aux_lemma =>
    go_enter Try.func66, Try.ntmps66
    go_wp2_with (first | ((with_reducible refine gate_dst (N := 2) rfl ?_); refine box_event ?hg (N := 2) ?hd (cs := #[.int .i64 0, .int .i64 0]) (t := 23) ?hr ?_; (case hd => rfl); (case hg => rfl); (case hr => first | (go_simp; done) | (go_simp; rfl)); intro gb987 hg w4 hbox hb; have BK987 := Aside0.mk hbox; have GW987 := bwg_ HB hg; have GE987 := bwg_ HB hg; replace HB := bws_ HB hb; clear hb hbox hg) | ((with_reducible refine gate_callee (f := 42) rfl ?_); refine gla_ (some 15) Try.func42 #[.int .i64 (l0.length : Int), .int .i64 1, .int .i64 50] ?_; (with_reducible refine (withyref01_In.calls (l0.length : Int) 1 50 true _ A2.out).mono ?_); rintro e w' ⟨rfl, ⟨nd, rfl⟩⟩; refine ⟨_, rfl, ?_⟩))
    go_loopg [5] k (fun kq v5 w' => ∃ (x5_1 : Int) (x988000_1 : Int) (x988001_1 : Int), v5 = .int .i64 x5_1 ∧ Aside0 (withyref01_Of.l0 kq l0 (wrap64 ((l0.length : Int) - 1)) x5_1 = some (r1, r2, r3)) ∧ Aside0 (kq ≤ k) ∧ Aside0 (w'.heap[gb987]? = some (.cells #[.int .i64 x988000_1, .int .i64 x988001_1] 23 (0, 0))) ∧ Aside0 (Below w.heap.size w w'))
    case atStart => exact ⟨(1), (0), (0), (by first | rfl | (simp; done) | (simp [*]; done)), H', ⟨Nat.le_refl _⟩, ⟨by exact bk_ BK987⟩, ⟨bw_ HB⟩⟩
    case round =>
     clear H'
     try clear p2
     try clear c3
     try clear c4
     obtain ⟨x5_1, x988000_1, x988001_1, rfl, HA, HK1, BK987, HB⟩ := hrel
     cases gk with
     | zero => exact absurd HA.out (by simp [withyref01_Of.l0])
     | succ k1 =>
      have H := HA.out
      clear HA
      simp only [withyref01_Of.l0] at H
      by_cases c5 : x5_1 ≤ (wrap64 ((l0.length : Int) - 1))
      · rw [if_pos c5] at H
        have c5b0 : decide (x5_1 ≤ (wrap64 ((l0.length : Int) - 1))) = true := decide_eq_true c5
        clear c5
        by_cases c6 : 0 ≤ x5_1
        · rw [if_pos c6] at H
          have c6b0 : decide (0 ≤ x5_1) = true := decide_eq_true c6
          clear c6
          by_cases c7 : x5_1 < (l0.length : Int)
          · rw [if_pos c7] at H
            have c7b0 : decide (x5_1 < (l0.length : Int)) = true := decide_eq_true c7
            clear c7
            by_cases c8 : (rd l0 x5_1) < 1
            · rw [if_pos c8] at H
              have c8b0 : decide ((rd l0 x5_1) < 1) = true := decide_eq_true c8
              clear c8
              simp only [Option.some.injEq, Prod.mk.injEq] at H
              obtain ⟨rfl, rfl, rfl⟩ := H
              have p989 : 0 ≤ (x5_1 : Int) := of_decide_eq_true (by first | (with_reducible assumption) | assumption)
              have q989 : x5_1 < (l0.length : Int) := of_decide_eq_true (by first | (with_reducible assumption) | assumption)
              obtain ⟨ad989, e989, hx989_0⟩ := Kd.at_int HR0.out x5_1 p989 q989
              cases e989
              replace hx989_0 := (HB.out.cell (World.block_lt_of_cell? w _ hx989_0)).trans hx989_0
              replace p989 := eq_true p989
              replace q989 := eq_true q989
              obtain ⟨hcz9_0, hcz9_1, hfz9_0, hfz9_1⟩ := bc2_ BK987
              go_wp2
              refine bodyPost_ret (results_ct rfl _ _ gb987 23 #[.int .i64 0, .int .i64 0] (0, 0) _ rfl (by refine bp_ (cs := #[.int .i64 0, .int .i64 x988001_1]) ?_ 1; refine bp_ (cs := #[.int .i64 x988000_1, .int .i64 x988001_1]) ?_ 0; exact bk_ BK987) Try.underlying23 rfl (by kernel_rfl)) rfl ?_
              exact ⟨by first | rfl | (simp [*] <;> rfl), bw_ HB⟩
            · rw [if_neg c8] at H
              have c8b0 : decide ((rd l0 x5_1) < 1) = false := decide_eq_false c8
              clear c8
              have H' := Aside0.mk H
              clear H
              have p989 : 0 ≤ (x5_1 : Int) := of_decide_eq_true (by first | (with_reducible assumption) | assumption)
              have q989 : x5_1 < (l0.length : Int) := of_decide_eq_true (by first | (with_reducible assumption) | assumption)
              obtain ⟨ad989, e989, hx989_0⟩ := Kd.at_int HR0.out x5_1 p989 q989
              cases e989
              replace hx989_0 := (HB.out.cell (World.block_lt_of_cell? w _ hx989_0)).trans hx989_0
              replace p989 := eq_true p989
              replace q989 := eq_true q989
              go_wp2
              go_roundg k1
              case measure => have := HK1.out; omega
              case rel => exact ⟨(wrap64 (x5_1 + 1)), (x988000_1), (x988001_1), (by first | rfl | (simp; done) | (simp [*]; done)), H', ⟨by have := HK1.out; omega⟩, ⟨by exact bk_ BK987⟩, ⟨bw_ HB⟩⟩
          · rw [if_neg c7] at H
            exact absurd H (by simp)
        · rw [if_neg c6] at H
          exact absurd H (by simp)
      · rw [if_neg c5] at H
        have c5b0 : decide (x5_1 ≤ (wrap64 ((l0.length : Int) - 1))) = false := decide_eq_false c5
        clear c5
        have HC10 := Aside0.mk H
        clear H
        go_upto_region 9 with (fail)
        go_cut [37] (fun v37 wc => ∃ (kq : Nat) (x37_9 : Bool), v37 = .bool x37_9 ∧ Aside0 (withyref01_Of.j1 kq l0 (wrap64 ((l0.length : Int) - 1)) x37_9 = some (r1, r2, r3)) ∧ Aside0 (kq ≤ k1) ∧ Aside0 (wc.heap[gb987]? = some (.cells #[.int .i64 x988000_1, .int .i64 x988001_1] 23 (0, 0))) ∧ Aside0 (Below w.heap.size w wc))
        case first =>
         as_aux_lemma =>
          have H := HC10.out
          clear HC10
          by_cases c11 : (wrap64 ((l0.length : Int) - 1)) > 0
          · rw [if_pos c11] at H
            have c11b0 : decide (0 < (wrap64 ((l0.length : Int) - 1))) = true := decide_eq_true c11
            clear c11
            (first | rw [c11b0] | (simp only [i64_w, i32_w]; rw [c11b0]) | skip)
            obtain ⟨ji12, hji12⟩ : ∃ j_ : Int, (wrap64 ((l0.length : Int) - 1)) = j_ := ⟨_, rfl⟩
            replace H : (if 0 ≤ (ji12) then (if (ji12) < (l0.length : Int) then (withyref01_Of.j1 k1 l0 (ji12) ((rd l0 (ji12)) == 1)) else (none)) else (none)) = some (r1, r2, r3) := by first | (rw [hji12] at H; exact H) | (simp only [hji12] at H ⊢; exact H)
            (try rw [hji12] at c5b0)
            (try rw [hji12] at c11b0)
            have hji12w : (IntKind.i64.wrap ((l0.length : Int) - 1)) = ji12 := (i64_w _).trans hji12
            by_cases c13 : 0 ≤ (ji12)
            · rw [if_pos c13] at H
              have c13b0 : decide (0 ≤ (ji12)) = true := decide_eq_true c13
              clear c13
              by_cases c14 : (ji12) < (l0.length : Int)
              · rw [if_pos c14] at H
                have c14b0 : decide ((ji12) < (l0.length : Int)) = true := decide_eq_true c14
                clear c14
                have H' := Aside0.mk H
                clear H
                have p990 : 0 ≤ ((ji12) : Int) := of_decide_eq_true (by first | (with_reducible assumption) | assumption)
                have q990 : (ji12) < (l0.length : Int) := of_decide_eq_true (by first | (with_reducible assumption) | assumption)
                obtain ⟨ad990, e990, hx990_0⟩ := Kd.at_int HR0.out (ji12) p990 q990
                cases e990
                replace hx990_0 := (HB.out.cell (World.block_lt_of_cell? w _ hx990_0)).trans hx990_0
                replace p990 := eq_true p990
                replace q990 := eq_true q990
                go_wp2
                go_meet
                case rel => exact ⟨_, (((rd l0 (ji12)) == 1)), (by first | rfl | (simp; done) | (simp only [← hji12] <;> (first | rfl | simp)) | (simp [*]; done)), (by first | exact H' | (rw [← hji12]; exact H') | (rw [hji12]; exact H') | (rw [hji12] at H'; exact H')), ⟨by have := HK1.out; first | omega | exact Nat.le_refl _⟩, ⟨by exact bk_ BK987⟩, ⟨bw_ HB⟩⟩
              · rw [if_neg c14] at H
                exact absurd H (by simp)
            · rw [if_neg c13] at H
              exact absurd H (by simp)
          · rw [if_neg c11] at H
            have c11b0 : decide (0 < (wrap64 ((l0.length : Int) - 1))) = false := decide_eq_false c11
            clear c11
            (first | rw [c11b0] | (simp only [i64_w, i32_w]; rw [c11b0]) | skip)
            have H' := Aside0.mk H
            clear H
            go_wp2
            go_meet
            case rel => exact ⟨_, (false), (by first | rfl | (simp; done) | (simp [*]; done)), H', ⟨by have := HK1.out; first | omega | exact Nat.le_refl _⟩, ⟨by exact bk_ BK987⟩, ⟨bw_ HB⟩⟩
        case rest =>
         as_aux_lemma =>
          clear HC10
          try clear c1
          try clear p2
          try clear c3
          try clear c4
          try clear c5
          try clear c5b0
          try clear c6
          try clear c6b0
          try clear p6
          try clear c7
          try clear c7b0
          try clear c8
          try clear c8b0
          try clear p9
          try clear q9
          try clear hx9
          try clear c11
          try clear c11b0
          try clear c13
          try clear c13b0
          try clear c14
          try clear c14b0
          try clear hcz9_0
          try clear hcz9_1
          try clear hfz9_0
          try clear hfz9_1
          try clear hx989_0
          try clear hx990_0
          try clear p2
          try clear p989
          try clear p990
          try clear q989
          try clear q990
          obtain ⟨kq, x37_9, rfl, HA, HJ9, BK987, HB⟩ := hcut
          cases kq with
          | zero => exact absurd HA.out (by simp [withyref01_Of.j1])
          | succ kj9 =>
           have H := HA.out
           clear HA
           simp only [withyref01_Of.j1] at H
           by_cases c15 : x37_9 = true
           · subst c15
             have H1 : (some (0, 0, 1)) = some (r1, r2, r3) := by rw [if_pos rfl] at H; exact H
             clear H
             have H := H1
             clear H1
             simp only [Option.some.injEq, Prod.mk.injEq] at H
             obtain ⟨rfl, rfl, rfl⟩ := H
             obtain ⟨hcz16_0, hcz16_1, hfz16_0, hfz16_1⟩ := bc2_ BK987
             go_wp2
             refine bodyPost_ret (results_ct rfl _ _ gb987 23 #[.int .i64 0, .int .i64 0] (0, 0) _ rfl (by refine bp_ (cs := #[.int .i64 0, .int .i64 x988001_1]) ?_ 1; refine bp_ (cs := #[.int .i64 x988000_1, .int .i64 x988001_1]) ?_ 0; exact bk_ BK987) Try.underlying23 rfl (by kernel_rfl)) rfl ?_
             exact ⟨by first | rfl | (simp [*] <;> rfl), bw_ HB⟩
           · replace c15 := Bool.eq_false_iff.mpr c15
             subst c15
             have H1 : (withyref01_Of.l1 kj9 l0 (wrap64 ((l0.length : Int) - 1)) (wrap64 ((l0.length : Int) - 1)) 0 0) = some (r1, r2, r3) := by rw [if_neg (show ¬ (false = true) by decide)] at H; exact H
             clear H
             have H := H1
             clear H1
             have H' := Aside0.mk H
             clear H
             go_wp2_with (first | ((with_reducible refine gate_dst (N := 6) rfl ?_); refine box_event ?hg (N := 6) ?hd (cs := #[.int .i64 0, .int .i64 0]) (t := 23) ?hr ?_; (case hd => rfl); (case hg => rfl); (case hr => first | (go_simp; done) | (go_simp; rfl)); intro gb991 hg w17 hbox hb; have BK991 := Aside0.mk hbox; have GW991 := bwg_ HB hg; have GE991 := bwg_ HB hg; replace HB := bws_ HB hb; have NB987_991 := bkl_ BK987 hg; have NB991_987 := bkr_ BK987 hg; replace BK987 := bkb_ BK987 hb; clear hb hbox hg))
             go_loopg [7] kj9 (fun kq v7 w' => ∃ (x7_3 : Int) (x988000_3 : Int) (x988001_3 : Int) (x992000_3 : Int) (x992001_3 : Int), v7 = .int .i64 x7_3 ∧ Aside0 (withyref01_Of.l1 kq l0 (wrap64 ((l0.length : Int) - 1)) x7_3 x992000_3 x992001_3 = some (r1, r2, r3)) ∧ Aside0 (kq ≤ kj9) ∧ Aside0 (w'.heap[gb987]? = some (.cells #[.int .i64 x988000_3, .int .i64 x988001_3] 23 (0, 0))) ∧ Aside0 (w'.heap[gb991]? = some (.cells #[.int .i64 x992000_3, .int .i64 x992001_3] 23 (0, 0))) ∧ Aside0 (Below w.heap.size w w'))
             case atStart => exact ⟨((wrap64 ((l0.length : Int) - 1))), (x988000_1), (x988001_1), (0), (0), (by first | rfl | (simp; done) | (simp [*]; done)), H', ⟨Nat.le_refl _⟩, ⟨by exact bk_ BK987⟩, ⟨by exact bk_ BK991⟩, ⟨bw_ HB⟩⟩
             case round =>
              clear H'
              try clear c1
              try clear p2
              try clear c3
              try clear c4
              try clear c5
              try clear c5b0
              try clear c6
              try clear c6b0
              try clear p6
              try clear c7
              try clear c7b0
              try clear c8
              try clear c8b0
              try clear p9
              try clear q9
              try clear hx9
              try clear c11
              try clear c11b0
              try clear c13
              try clear c13b0
              try clear c14
              try clear c14b0
              try clear c15
              try clear hcz16_0
              try clear hcz16_1
              try clear hcz9_0
              try clear hcz9_1
              try clear hfz16_0
              try clear hfz16_1
              try clear hfz9_0
              try clear hfz9_1
              try clear hx989_0
              try clear hx990_0
              try clear p2
              try clear p6
              try clear p9
              try clear p989
              try clear p990
              try clear q9
              try clear q989
              try clear q990
              obtain ⟨x7_3, x988000_3, x988001_3, x992000_3, x992001_3, rfl, HA, HK3, BK987, BK991, HB⟩ := hrel
              cases gk with
              | zero => exact absurd HA.out (by simp [withyref01_Of.l1])
              | succ k3 =>
               have H := HA.out
               clear HA
               simp only [withyref01_Of.l1] at H
               by_cases c18 : x7_3 ≥ 0
               · rw [if_pos c18] at H
                 have c18b0 : decide (0 ≤ x7_3) = true := decide_eq_true c18
                 clear c18
                 by_cases c19 : 0 ≤ x7_3
                 · rw [if_pos c19] at H
                   have c19b0 : decide (0 ≤ x7_3) = true := decide_eq_true c19
                   clear c19
                   by_cases c20 : x7_3 < (l0.length : Int)
                   · rw [if_pos c20] at H
                     have c20b0 : decide (x7_3 < (l0.length : Int)) = true := decide_eq_true c20
                     clear c20
                     replace H := Option.bind_eq_some_iff.mp H
                     obtain ⟨t993, A210, H⟩ := H
                     replace H : (if t993 = true then (if x7_3 = (wrap64 ((l0.length : Int) - 1)) then ((withyref01_Int.f (rd l0 x7_3)).bind fun bt995 => (withyref01_Of.l1 k3 l0 (wrap64 ((l0.length : Int) - 1)) (wrap64 (x7_3 - 1)) bt995.1 bt995.2)) else ((withyref01_low.f k3 (wrap64 ((wrap64 ((rd l0 x7_3) * x992000_3)) + x992001_3)) x992000_3).bind fun bt998 => (if bt998.2.2 = 0 then (withyref01_Of.l1 k3 l0 (wrap64 ((l0.length : Int) - 1)) (wrap64 (x7_3 - 1)) bt998.1 bt998.2.1) else (some (0, 0, bt998.2.2))))) else (some (0, 0, 8))) = some (r1, r2, r3) := H
                     have A21 := Aside0.mk A210
                     clear A210
                     by_cases c22 : t993 = true
                     · subst c22
                       have H1 : (if x7_3 = (wrap64 ((l0.length : Int) - 1)) then ((withyref01_Int.f (rd l0 x7_3)).bind fun bt995 => (withyref01_Of.l1 k3 l0 (wrap64 ((l0.length : Int) - 1)) (wrap64 (x7_3 - 1)) bt995.1 bt995.2)) else ((withyref01_low.f k3 (wrap64 ((wrap64 ((rd l0 x7_3) * x992000_3)) + x992001_3)) x992000_3).bind fun bt998 => (if bt998.2.2 = 0 then (withyref01_Of.l1 k3 l0 (wrap64 ((l0.length : Int) - 1)) (wrap64 (x7_3 - 1)) bt998.1 bt998.2.1) else (some (0, 0, bt998.2.2))))) = some (r1, r2, r3) := by rw [if_pos rfl] at H; exact H
                       clear H
                       have H := H1
                       clear H1
                       by_cases c23 : x7_3 = (wrap64 ((l0.length : Int) - 1))
                       · rw [if_pos c23] at H
                         have c23b0 : (x7_3 == (wrap64 ((l0.length : Int) - 1))) = true := beq_iff_eq.mpr c23
                         have c23b1 : (x7_3 != (wrap64 ((l0.length : Int) - 1))) = false := bne_eq_false_iff_eq.mpr c23
                         clear c23
                         replace H := Option.bind_eq_some_iff.mp H
                         obtain ⟨⟨t995, t996⟩, A240, H⟩ := H
                         replace H : (withyref01_Of.l1 k3 l0 (wrap64 ((l0.length : Int) - 1)) (wrap64 (x7_3 - 1)) t995 t996) = some (r1, r2, r3) := H
                         have A24 := Aside0.mk A240
                         clear A240
                         have H' := Aside0.mk H
                         clear H
                         have p992 : 0 ≤ (x7_3 : Int) := of_decide_eq_true (by first | (with_reducible assumption) | assumption)
                         have q992 : x7_3 < (l0.length : Int) := of_decide_eq_true (by first | (with_reducible assumption) | assumption)
                         obtain ⟨ad992, e992, hx992_0⟩ := Kd.at_int HR0.out x7_3 p992 q992
                         cases e992
                         replace hx992_0 := (HB.out.cell (World.block_lt_of_cell? w _ hx992_0)).trans hx992_0
                         replace p992 := eq_true p992
                         replace q992 := eq_true q992
                         go_wp2_with (first | ((with_reducible refine gate_callee (f := 42) rfl ?_); refine gla_ (some 48) Try.func42 #[.int .i64 (rd l0 x7_3), .int .i64 (-1000000000), .int .i64 1000000000] ?_; (with_reducible refine (withyref01_In.calls (rd l0 x7_3) (-1000000000) 1000000000 true _ A21.out).mono ?_); rintro e w' ⟨rfl, ⟨nd, rfl⟩⟩; refine ⟨_, rfl, ?_⟩; (try (rw [drewN_self wr]; generalize hq_ : World.drewN wr _ = wr; have n0_ : Aside0 (wr.heap[gb987]? = some (.cells #[.int .i64 x988000_3, .int .i64 x988001_3] 23 (0, 0))) := ⟨by rw [← hq_]; exact (bk_ BK987)⟩; have n1_ : Aside0 (wr.heap[gb991]? = some (.cells #[.int .i64 x992000_3, .int .i64 x992001_3] 23 (0, 0))) := ⟨by rw [← hq_]; exact (bk_ BK991)⟩; have n2_ : Aside0 (Below w.heap.size w wr) := ⟨by rw [← hq_]; exact (bw_ HB)⟩; clear BK987 BK991 HB hq_; have BK987 := n0_; have BK991 := n1_; have HB := n2_; clear n0_ n1_ n2_)); have p994 : 0 ≤ (x7_3 : Int) := of_decide_eq_true (by first | (with_reducible assumption) | assumption); have q994 : x7_3 < (l0.length : Int) := of_decide_eq_true (by first | (with_reducible assumption) | assumption); obtain ⟨ad994, e994, hx994_0⟩ := Kd.at_int HR0.out x7_3 p994 q994; obtain rfl : ad992 = ad994 := (by injection e994); replace hx994_0 := (HB.out.cell (World.block_lt_of_cell? w _ hx994_0)).trans hx994_0; replace p994 := eq_true p994; replace q994 := eq_true q994) | ((with_reducible refine gate_callee (f := 100) rfl ?_); refine gla_ (some 58) Try.func100 #[.int .i64 (rd l0 x7_3)] ?_; (with_reducible refine (withyref01_Int.calls (rd l0 x7_3) t995 t996 _ A24.out).mono ?_); rintro e w25 ⟨rfl, hb⟩; refine ⟨_, rfl, ?_⟩; replace BK987 := bkb_ BK987 hb; replace BK991 := bkb_ BK991 hb; replace HB := bws_ HB hb; (try clear hb); (try clear hb2); (try clear hk); (try clear hi); have hnb26 := NB991_987.out; have hnc26 := NB987_991.out; obtain ⟨hcz27_0, hcz27_1, hfz27_0, hfz27_1⟩ := bc2_ BK991))
                         go_roundg k3
                         case measure => have := HK1.out; have := HJ9.out; have := HK3.out; omega
                         case rel => exact ⟨(wrap64 (x7_3 - 1)), (x988000_3), (x988001_3), (t995), (t996), (by first | rfl | (simp; done) | (simp [*]; done)), H', ⟨by have := HK1.out; have := HJ9.out; have := HK3.out; omega⟩, ⟨by refine bf_ ?_ NB987_991; refine bf_ ?_ NB987_991; exact bk_ BK987⟩, ⟨by refine bp_ (cs := #[.int .i64 t995, .int .i64 x992001_3]) ?_ 1; refine bp_ (cs := #[.int .i64 x992000_3, .int .i64 x992001_3]) ?_ 0; exact bk_ BK991⟩, ⟨bw_ HB⟩⟩
                       · rw [if_neg c23] at H
                         have c23b0 : (x7_3 == (wrap64 ((l0.length : Int) - 1))) = false := beq_eq_false_iff_ne.mpr c23
                         have c23b1 : (x7_3 != (wrap64 ((l0.length : Int) - 1))) = true := bne_iff_ne.mpr c23
                         replace H := Option.bind_eq_some_iff.mp H
                         obtain ⟨⟨t998, t999, t1000⟩, A280, H⟩ := H
                         replace H : (if t1000 = 0 then (withyref01_Of.l1 k3 l0 (wrap64 ((l0.length : Int) - 1)) (wrap64 (x7_3 - 1)) t998 t999) else (some (0, 0, t1000))) = some (r1, r2, r3) := H
                         have A28 := Aside0.mk A280
                         clear A280
                         by_cases c29 : t1000 = 0
                         · rw [if_pos c29] at H
                           have c29b0 : (t1000 == 0) = true := beq_iff_eq.mpr c29
                           have c29b1 : (t1000 != 0) = false := bne_eq_false_iff_eq.mpr c29
                           clear c29
                           have H' := Aside0.mk H
                           clear H
                           have p992 : 0 ≤ (x7_3 : Int) := of_decide_eq_true (by first | (with_reducible assumption) | assumption)
                           have q992 : x7_3 < (l0.length : Int) := of_decide_eq_true (by first | (with_reducible assumption) | assumption)
                           obtain ⟨ad992, e992, hx992_0⟩ := Kd.at_int HR0.out x7_3 p992 q992
                           cases e992
                           replace hx992_0 := (HB.out.cell (World.block_lt_of_cell? w _ hx992_0)).trans hx992_0
                           replace p992 := eq_true p992
                           replace q992 := eq_true q992
                           try go_wp2_with (first | ((with_reducible refine gate_callee (f := 42) rfl ?_); refine gla_ (some 48) Try.func42 #[.int .i64 (rd l0 x7_3), .int .i64 (-1000000000), .int .i64 1000000000] ?_; (with_reducible refine (withyref01_In.calls (rd l0 x7_3) (-1000000000) 1000000000 true _ A21.out).mono ?_); rintro e w' ⟨rfl, ⟨nd, rfl⟩⟩; refine ⟨_, rfl, ?_⟩; (try (rw [drewN_self wr]; generalize hq_ : World.drewN wr _ = wr; have n0_ : Aside0 (wr.heap[gb987]? = some (.cells #[.int .i64 x988000_3, .int .i64 x988001_3] 23 (0, 0))) := ⟨by rw [← hq_]; exact (bk_ BK987)⟩; have n1_ : Aside0 (wr.heap[gb991]? = some (.cells #[.int .i64 x992000_3, .int .i64 x992001_3] 23 (0, 0))) := ⟨by rw [← hq_]; exact (bk_ BK991)⟩; have n2_ : Aside0 (Below w.heap.size w wr) := ⟨by rw [← hq_]; exact (bw_ HB)⟩; clear BK987 BK991 HB hq_; have BK987 := n0_; have BK991 := n1_; have HB := n2_; clear n0_ n1_ n2_))))
                           replace BK987 := Aside0.mk (blk_drew BK987.out)
                           replace BK991 := Aside0.mk (blk_drew BK991.out)
                           replace HB := Aside0.mk (below_drew1 HB.out)
                           have p997 : 0 ≤ (x7_3 : Int) := of_decide_eq_true (by first | (with_reducible assumption) | assumption)
                           have q997 : x7_3 < (l0.length : Int) := of_decide_eq_true (by first | (with_reducible assumption) | assumption)
                           obtain ⟨ad997, e997, hx997_0⟩ := Kd.at_int HR0.out x7_3 p997 q997
                           have hw997_0 := hx997_0
                           obtain rfl : ad992 = ad997 := (by injection e997)
                           replace hx997_0 := (HB.out.cell (World.block_lt_of_cell? w _ hx997_0)).trans hx997_0
                           replace p997 := eq_true p997
                           replace q997 := eq_true q997
                           refine start_ (n := 19) (S := fun w' => w'.cell? ⟨gb991, 0, none⟩ = some (.int .i64 x992000_3) ∧ w'.cell? ⟨gb991, 1, none⟩ = some (.int .i64 x992001_3) ∧ w'.cell? (ad992.add (x7_3).toNat) = some (.int .i64 (rd l0 x7_3))) (ds := []) #[false, false, false, false, false, false, false, false, false, false, false, false, false, false, false, false, false, false, false] (by kernel_rfl) rfl rfl ⟨(blk_cell BK991.out 0).trans rfl, (blk_cell BK991.out 1).trans rfl, ((HB.out.cell (World.block_lt_of_cell? w _ hw997_0)).trans hw997_0)⟩ (fun hHeld => ?_); refine with_tabW withyref01_Of.tab19 withyref01_Of.bits19 (fun HT_ HW_ => ?_)
                           generalize wr.drew = w30 at BK987 BK991 HB hx997_0 hHeld ⊢
                           refine pure_ (i := 0) (N := some 60) (v := ?_) (a' := ?_) #[true, false, false, false, false, false, false, false, false, false, false, false, false, false, false, false, false, false, false] rfl rfl (any_of HT_.out (by kernel_rfl)) (fun _ _ _ h => h) (Or.inl ⟨by rfl, ?_⟩) ?_ ?_
                           rotate_left
                           · intro w'
                             go_simp
                             with_reducible rfl
                           rotate_left
                           · simp only [Act.put, List.setIfInBounds_toArray, List.set_cons_zero, List.set_cons_succ, i64_w, i32_w]
                             rfl
                           refine pure_ (i := 1) (N := some 61) (v := ?_) (a' := ?_) #[true, true, false, false, false, false, false, false, false, false, false, false, false, false, false, false, false, false, false] rfl rfl (any_of HT_.out (by kernel_rfl)) (fun _ _ _ h => h) (Or.inl ⟨by rfl, ?_⟩) ?_ ?_
                           rotate_left
                           · intro w'
                             go_simp
                             with_reducible rfl
                           rotate_left
                           · simp only [Act.put, List.setIfInBounds_toArray, List.set_cons_zero, List.set_cons_succ, i64_w, i32_w]
                             rfl
                           refine pure_ (i := 2) (N := some 62) (v := ?_) (a' := ?_) #[true, true, true, false, false, false, false, false, false, false, false, false, false, false, false, false, false, false, false] rfl rfl (any_of HT_.out (by kernel_rfl)) (fun _ _ _ h => h) (Or.inl ⟨by rfl, ?_⟩) ?_ ?_
                           rotate_left
                           · intro w'
                             go_simp
                             with_reducible rfl
                           rotate_left
                           · simp only [Act.put, List.setIfInBounds_toArray, List.set_cons_zero, List.set_cons_succ, i64_w, i32_w]
                             rfl
                           refine pure_ (i := 4) (N := some 64) (v := ?_) (a' := ?_) #[true, true, true, false, true, false, false, false, false, false, false, false, false, false, false, false, false, false, false] rfl rfl (any_of HT_.out (by kernel_rfl)) (fun _ _ _ h => h) (Or.inl ⟨by rfl, ?_⟩) ?_ ?_
                           rotate_left
                           · intro w'
                             go_simp
                             with_reducible rfl
                           rotate_left
                           · simp only [Act.put, List.setIfInBounds_toArray, List.set_cons_zero, List.set_cons_succ, i64_w, i32_w]
                             rfl
                           refine pure_ (i := 7) (N := some 67) (v := ?_) (a' := ?_) #[true, true, true, false, true, false, false, true, false, false, false, false, false, false, false, false, false, false, false] rfl rfl (any_of HT_.out (by kernel_rfl)) (fun _ _ _ h => h) (Or.inl ⟨by rfl, ?_⟩) ?_ ?_
                           rotate_left
                           · intro w'
                             go_simp
                             with_reducible rfl
                           rotate_left
                           · simp only [Act.put, List.setIfInBounds_toArray, List.set_cons_zero, List.set_cons_succ, i64_w, i32_w]
                             rfl
                           refine pure_ (i := 10) (N := some 70) (v := ?_) (a' := ?_) #[true, true, true, false, true, false, false, true, false, false, true, false, false, false, false, false, false, false, false] rfl rfl (any_of HT_.out (by kernel_rfl)) (fun _ _ _ h => h) (Or.inl ⟨by rfl, ?_⟩) ?_ ?_
                           rotate_left
                           · intro w'
                             go_simp
                             with_reducible rfl
                           rotate_left
                           · simp only [Act.put, List.setIfInBounds_toArray, List.set_cons_zero, List.set_cons_succ, i64_w, i32_w]
                             rfl
                           refine take_ (i := 3) (N := some 63) (v := ?_) (a' := ?_) #[true, true, true, true, true, false, false, true, false, false, true, false, false, false, false, false, false, false, false] rfl rfl (take_ofW HT_.out HW_.out (by kernel_rfl)) (fun _ _ _ h => h) (Or.inl ⟨by rfl, ?_⟩) hHeld ?_ ?_
                           rotate_left
                           · rintro w' ⟨s0, s1, s2⟩
                             go_simp
                             with_reducible rfl
                           rotate_left
                           · simp only [Act.put, List.setIfInBounds_toArray, List.set_cons_zero, List.set_cons_succ, i64_w, i32_w]
                             rfl
                           refine take_ (i := 5) (N := some 65) (v := ?_) (a' := ?_) #[true, true, true, true, true, true, false, true, false, false, true, false, false, false, false, false, false, false, false] rfl rfl (take_ofW HT_.out HW_.out (by kernel_rfl)) (fun _ _ _ h => h) (Or.inl ⟨by rfl, ?_⟩) hHeld ?_ ?_
                           rotate_left
                           · rintro w' ⟨s0, s1, s2⟩
                             go_simp
                             with_reducible rfl
                           rotate_left
                           · simp only [Act.put, List.setIfInBounds_toArray, List.set_cons_zero, List.set_cons_succ, i64_w, i32_w]
                             rfl
                           refine pure_ (i := 6) (N := some 66) (v := ?_) (a' := ?_) #[true, true, true, true, true, true, true, true, false, false, true, false, false, false, false, false, false, false, false] rfl rfl (any_of HT_.out (by kernel_rfl)) (fun _ _ _ h => h) (Or.inl ⟨by rfl, ?_⟩) ?_ ?_
                           rotate_left
                           · intro w'
                             go_simp
                             with_reducible rfl
                           rotate_left
                           · simp only [Act.put, List.setIfInBounds_toArray, List.set_cons_zero, List.set_cons_succ, i64_w, i32_w]
                             rfl
                           refine take_ (i := 8) (N := some 68) (v := ?_) (a' := ?_) #[true, true, true, true, true, true, true, true, true, false, true, false, false, false, false, false, false, false, false] rfl rfl (take_ofW HT_.out HW_.out (by kernel_rfl)) (fun _ _ _ h => h) (Or.inl ⟨by rfl, ?_⟩) hHeld ?_ ?_
                           rotate_left
                           · rintro w' ⟨s0, s1, s2⟩
                             go_simp
                             with_reducible rfl
                           rotate_left
                           · simp only [Act.put, List.setIfInBounds_toArray, List.set_cons_zero, List.set_cons_succ, i64_w, i32_w]
                             rfl
                           refine pure_ (i := 9) (N := some 69) (v := ?_) (a' := ?_) #[true, true, true, true, true, true, true, true, true, true, true, false, false, false, false, false, false, false, false] rfl rfl (any_of HT_.out (by kernel_rfl)) (fun _ _ _ h => h) (Or.inl ⟨by rfl, ?_⟩) ?_ ?_
                           rotate_left
                           · intro w'
                             go_simp
                             with_reducible rfl
                           rotate_left
                           · simp only [Act.put, List.setIfInBounds_toArray, List.set_cons_zero, List.set_cons_succ, i64_w, i32_w]
                             rfl
                           refine take_ (i := 11) (N := some 71) (v := ?_) (a' := ?_) #[true, true, true, true, true, true, true, true, true, true, true, true, false, false, false, false, false, false, false] rfl rfl (take_ofW HT_.out HW_.out (by kernel_rfl)) (fun _ _ _ h => h) (Or.inl ⟨by rfl, ?_⟩) hHeld ?_ ?_
                           rotate_left
                           · rintro w' ⟨s0, s1, s2⟩
                             go_simp
                             with_reducible rfl
                           rotate_left
                           · simp only [Act.put, List.setIfInBounds_toArray, List.set_cons_zero, List.set_cons_succ, i64_w, i32_w]
                             rfl
                           refine join_ (σ := Nat) 2 #[true, true, true, true, true, true, true, true, true, true, true, true, true, true, true, true, true, false, false] (fun s_ => [(72, .tuple #[.agg #[.int .i64 t998, .int .i64 t999], .int .i64 t1000]), (8, .pointer (some ⟨s_, 0, none⟩)), (59, .tuple #[.agg #[.int .i64 t998, .int .i64 t999], .int .i64 t1000]), (73, .agg #[.int .i64 t998, .int .i64 t999]), (74, .int .i64 t1000)]) (fun s_ w' => (w'.cell? ⟨gb991, 0, none⟩ = some (.int .i64 x992000_3) ∧ w'.cell? ⟨gb991, 1, none⟩ = some (.int .i64 x992001_3) ∧ w'.cell? (ad992.add (x7_3).toNat) = some (.int .i64 (rd l0 x7_3))) ∧ (w'.heap[s_]? = some (.cells #[.int .i64 0, .int .i64 0] 23 (0, 0))) ∧ (w'.heap[gb987]? = some (.cells #[.int .i64 x988000_3, .int .i64 x988001_3] 23 (0, 0))) ∧ (w'.heap[gb991]? = some (.cells #[.int .i64 x992000_3, .int .i64 x992001_3] 23 (0, 0))) ∧ (w.heap.size ≤ s_) ∧ (w.heap.size ≤ s_) ∧ (gb987 ≠ s_) ∧ (s_ ≠ gb987) ∧ (gb991 ≠ s_) ∧ (s_ ≠ gb991) ∧ (Below w.heap.size w w')) ?_ ?_
                           rotate_left
                           · intro hCont
                             refine two_ (i := 12) (j := 16) (Ni := some 72) (Nj := some 8) #[true, true, true, true, true, true, true, true, true, true, true, true, true, false, false, false, false, false, false] #[true, true, true, true, true, true, true, true, true, true, true, true, false, false, false, false, true, false, false] rfl rfl rfl rfl (two_of HT_.out (by kernel_rfl)) (by decide) (by decide) (fun K hK => ?_) (fun K hK => ?_)
                             · skip
                               refine gos_ Try.func96 #[.int .i64 (wrap64 ((wrap64 ((rd l0 x7_3) * x992000_3)) + x992001_3)), .int .i64 x992000_3] ?_
                               with_reducible refine (withyref01_low.calls k3 (wrap64 ((wrap64 ((rd l0 x7_3) * x992000_3)) + x992001_3)) x992000_3 t998 t999 t1000 _ A28.out).mono ?_
                               rintro e w31 ⟨rfl, hb⟩
                               refine ⟨_, rfl, ?_⟩
                               replace BK987 := bkb_ BK987 hb
                               replace BK991 := bkb_ BK991 hb
                               replace HB := bws_ HB hb
                               (try clear hb)
                               (try clear hb2)
                               (try clear hk)
                               (try clear hi)
                               refine hK.out _ _ ⟨(blk_cell BK991.out 0).trans rfl, (blk_cell BK991.out 1).trans rfl, ((HB.out.cell (World.block_lt_of_cell? w _ hw997_0)).trans hw997_0)⟩ (fun hHeld => ?_)
                               clear hK K
                               refine norm_ (a' := ?_) ?_ ?_
                               rotate_left
                               · show Act.put _ (some 72) _ = _
                                 simp only [Act.put, List.setIfInBounds_toArray, List.set_cons_zero, List.set_cons_succ, i64_w, i32_w]
                                 rfl
                               refine pure_ (i := 13) (N := some 59) (v := ?_) (a' := ?_) #[true, true, true, true, true, true, true, true, true, true, true, true, true, true, false, false, false, false, false] rfl rfl (any_of HT_.out (by kernel_rfl)) (fun _ _ _ h => h) (Or.inl ⟨by rfl, ?_⟩) ?_ ?_
                               rotate_left
                               · intro w'
                                 go_simp
                                 with_reducible rfl
                               rotate_left
                               · simp only [Act.put, List.setIfInBounds_toArray, List.set_cons_zero, List.set_cons_succ, i64_w, i32_w]
                                 rfl
                               refine pure_ (i := 14) (N := some 73) (v := ?_) (a' := ?_) #[true, true, true, true, true, true, true, true, true, true, true, true, true, true, true, false, false, false, false] rfl rfl (any_of HT_.out (by kernel_rfl)) (fun _ _ _ h => h) (Or.inl ⟨by rfl, ?_⟩) ?_ ?_
                               rotate_left
                               · intro w'
                                 go_simp
                                 with_reducible rfl
                               rotate_left
                               · simp only [Act.put, List.setIfInBounds_toArray, List.set_cons_zero, List.set_cons_succ, i64_w, i32_w]
                                 rfl
                               refine pure_ (i := 15) (N := some 74) (v := ?_) (a' := ?_) #[true, true, true, true, true, true, true, true, true, true, true, true, true, true, true, true, false, false, false] rfl rfl (any_of HT_.out (by kernel_rfl)) (fun _ _ _ h => h) (Or.inl ⟨by rfl, ?_⟩) ?_ ?_
                               rotate_left
                               · intro w'
                                 go_simp
                                 with_reducible rfl
                               rotate_left
                               · simp only [Act.put, List.setIfInBounds_toArray, List.set_cons_zero, List.set_cons_succ, i64_w, i32_w]
                                 rfl
                               refine one_ (i := 16) (N := some 8) #[true, true, true, true, true, true, true, true, true, true, true, true, true, true, true, true, true, false, false] rfl rfl (one_of HT_.out (by kernel_rfl)) (by decide) (fun K hK => ?_)
                               refine box_step ?hg (N := 8) ?hd (cs := #[.int .i64 0, .int .i64 0]) (t := 23) ?hr ?_; (case hd => rfl); (case hg => rfl); (case hr => first | (go_simp; done) | (go_simp; rfl))
                               intro gb1001 hg w32 hbox hb
                               have BK1001 := Aside0.mk hbox
                               have GW1001 := bwg_ HB hg
                               have GE1001 := bwg_ HB hg
                               replace HB := bws_ HB hb
                               have NB987_1001 := bkl_ BK987 hg
                               have NB1001_987 := bkr_ BK987 hg
                               replace BK987 := bkb_ BK987 hb
                               have NB991_1001 := bkl_ BK991 hg
                               have NB1001_991 := bkr_ BK991 hg
                               replace BK991 := bkb_ BK991 hb
                               clear hb hbox hg
                               refine hK.out _ _ ⟨(blk_cell BK991.out 0).trans rfl, (blk_cell BK991.out 1).trans rfl, ((HB.out.cell (World.block_lt_of_cell? w _ hw997_0)).trans hw997_0)⟩ (fun hHeld => ?_)
                               clear hK K
                               refine norm_ (a' := ?_) ?_ ?_
                               rotate_left
                               · show Act.put _ (some 8) _ = _
                                 simp only [Act.put, List.setIfInBounds_toArray, List.set_cons_zero, List.set_cons_succ, i64_w, i32_w]
                                 rfl
                               exact norm_ (by simp only [putAll, Act.put, List.setIfInBounds_toArray, List.set_cons_zero, List.set_cons_succ]) (hCont (gb1001) _ ⟨hHeld, (bk_ BK1001), (bk_ BK987), (bk_ BK991), GW1001.out, GE1001.out, NB987_1001.out, NB1001_987.out, NB991_1001.out, NB1001_991.out, (bw_ HB)⟩)
                             · skip
                               refine box_step ?hg (N := 8) ?hd (cs := #[.int .i64 0, .int .i64 0]) (t := 23) ?hr ?_; (case hd => rfl); (case hg => rfl); (case hr => first | (go_simp; done) | (go_simp; rfl))
                               intro gb1001 hg w31 hbox hb
                               have BK1001 := Aside0.mk hbox
                               have GW1001 := bwg_ HB hg
                               have GE1001 := bwg_ HB hg
                               replace HB := bws_ HB hb
                               have NB987_1001 := bkl_ BK987 hg
                               have NB1001_987 := bkr_ BK987 hg
                               replace BK987 := bkb_ BK987 hb
                               have NB991_1001 := bkl_ BK991 hg
                               have NB1001_991 := bkr_ BK991 hg
                               replace BK991 := bkb_ BK991 hb
                               clear hb hbox hg
                               refine hK.out _ _ ⟨(blk_cell BK991.out 0).trans rfl, (blk_cell BK991.out 1).trans rfl, ((HB.out.cell (World.block_lt_of_cell? w _ hw997_0)).trans hw997_0)⟩ (fun hHeld => ?_)
                               clear hK K
                               refine norm_ (a' := ?_) ?_ ?_
                               rotate_left
                               · show Act.put _ (some 8) _ = _
                                 simp only [Act.put, List.setIfInBounds_toArray, List.set_cons_zero, List.set_cons_succ, i64_w, i32_w]
                                 rfl
                               refine one_ (i := 12) (N := some 72) #[true, true, true, true, true, true, true, true, true, true, true, true, true, false, false, false, true, false, false] rfl rfl (one_of HT_.out (by kernel_rfl)) (by decide) (fun K hK => ?_)
                               refine gos_ Try.func96 #[.int .i64 (wrap64 ((wrap64 ((rd l0 x7_3) * x992000_3)) + x992001_3)), .int .i64 x992000_3] ?_
                               with_reducible refine (withyref01_low.calls k3 (wrap64 ((wrap64 ((rd l0 x7_3) * x992000_3)) + x992001_3)) x992000_3 t998 t999 t1000 _ A28.out).mono ?_
                               rintro e w32 ⟨rfl, hb⟩
                               refine ⟨_, rfl, ?_⟩
                               replace BK987 := bkb_ BK987 hb
                               replace BK991 := bkb_ BK991 hb
                               replace BK1001 := bkb_ BK1001 hb
                               replace HB := bws_ HB hb
                               (try clear hb)
                               (try clear hb2)
                               (try clear hk)
                               (try clear hi)
                               refine hK.out _ _ ⟨(blk_cell BK991.out 0).trans rfl, (blk_cell BK991.out 1).trans rfl, ((HB.out.cell (World.block_lt_of_cell? w _ hw997_0)).trans hw997_0)⟩ (fun hHeld => ?_)
                               clear hK K
                               refine norm_ (a' := ?_) ?_ ?_
                               rotate_left
                               · show Act.put _ (some 72) _ = _
                                 simp only [Act.put, List.setIfInBounds_toArray, List.set_cons_zero, List.set_cons_succ, i64_w, i32_w]
                                 rfl
                               refine pure_ (i := 13) (N := some 59) (v := ?_) (a' := ?_) #[true, true, true, true, true, true, true, true, true, true, true, true, true, true, false, false, true, false, false] rfl rfl (any_of HT_.out (by kernel_rfl)) (fun _ _ _ h => h) (Or.inl ⟨by rfl, ?_⟩) ?_ ?_
                               rotate_left
                               · intro w'
                                 go_simp
                                 with_reducible rfl
                               rotate_left
                               · simp only [Act.put, List.setIfInBounds_toArray, List.set_cons_zero, List.set_cons_succ, i64_w, i32_w]
                                 rfl
                               refine pure_ (i := 14) (N := some 73) (v := ?_) (a' := ?_) #[true, true, true, true, true, true, true, true, true, true, true, true, true, true, true, false, true, false, false] rfl rfl (any_of HT_.out (by kernel_rfl)) (fun _ _ _ h => h) (Or.inl ⟨by rfl, ?_⟩) ?_ ?_
                               rotate_left
                               · intro w'
                                 go_simp
                                 with_reducible rfl
                               rotate_left
                               · simp only [Act.put, List.setIfInBounds_toArray, List.set_cons_zero, List.set_cons_succ, i64_w, i32_w]
                                 rfl
                               refine pure_ (i := 15) (N := some 74) (v := ?_) (a' := ?_) #[true, true, true, true, true, true, true, true, true, true, true, true, true, true, true, true, true, false, false] rfl rfl (any_of HT_.out (by kernel_rfl)) (fun _ _ _ h => h) (Or.inl ⟨by rfl, ?_⟩) ?_ ?_
                               rotate_left
                               · intro w'
                                 go_simp
                                 with_reducible rfl
                               rotate_left
                               · simp only [Act.put, List.setIfInBounds_toArray, List.set_cons_zero, List.set_cons_succ, i64_w, i32_w]
                                 rfl
                               exact norm_ (by simp only [putAll, Act.put, List.setIfInBounds_toArray, List.set_cons_zero, List.set_cons_succ]) (hCont (gb1001) _ ⟨hHeld, (bk_ BK1001), (bk_ BK987), (bk_ BK991), GW1001.out, GE1001.out, NB987_1001.out, NB1001_987.out, NB991_1001.out, NB1001_991.out, (bw_ HB)⟩)
                           rintro gb1001 w33 ⟨hS_, h0_, h1_, h2_, h3_, h4_, h5_, h6_, h7_, h8_, h9_⟩
                           have n0_ : Aside0 (w33.heap[gb1001]? = some (.cells #[.int .i64 0, .int .i64 0] 23 (0, 0))) := ⟨h0_⟩
                           have n1_ : Aside0 (w33.heap[gb987]? = some (.cells #[.int .i64 x988000_3, .int .i64 x988001_3] 23 (0, 0))) := ⟨h1_⟩
                           have n2_ : Aside0 (w33.heap[gb991]? = some (.cells #[.int .i64 x992000_3, .int .i64 x992001_3] 23 (0, 0))) := ⟨h2_⟩
                           have n3_ : Aside0 (w.heap.size ≤ gb1001) := ⟨h3_⟩
                           have n4_ : Aside0 (w.heap.size ≤ gb1001) := ⟨h4_⟩
                           have n5_ : Aside0 (gb987 ≠ gb1001) := ⟨h5_⟩
                           have n6_ : Aside0 (gb1001 ≠ gb987) := ⟨h6_⟩
                           have n7_ : Aside0 (gb991 ≠ gb1001) := ⟨h7_⟩
                           have n8_ : Aside0 (gb1001 ≠ gb991) := ⟨h8_⟩
                           have n9_ : Aside0 (Below w.heap.size w w33) := ⟨h9_⟩
                           clear BK987
                           clear BK991
                           clear HB
                           clear h0_ h1_ h2_ h3_ h4_ h5_ h6_ h7_ h8_ h9_
                           have BK1001 := n0_
                           have BK987 := n1_
                           have BK991 := n2_
                           have GW1001 := n3_
                           have GE1001 := n4_
                           have NB987_1001 := n5_
                           have NB1001_987 := n6_
                           have NB991_1001 := n7_
                           have NB1001_991 := n8_
                           have HB := n9_
                           clear n0_ n1_ n2_ n3_ n4_ n5_ n6_ n7_ n8_ n9_
                           have hHeld : w33.cell? ⟨gb991, 0, none⟩ = some (.int .i64 x992000_3) ∧ w33.cell? ⟨gb991, 1, none⟩ = some (.int .i64 x992001_3) ∧ w33.cell? (ad992.add (x7_3).toNat) = some (.int .i64 (rd l0 x7_3)) := hS_
                           refine norm_ (a' := ?_) ?_ ?_
                           rotate_left
                           · simp only [putAll, Act.put, List.setIfInBounds_toArray, List.set_cons_zero, List.set_cons_succ]
                             rfl
                           refine one_ (i := 17) (N := none) #[true, true, true, true, true, true, true, true, true, true, true, true, true, true, true, true, true, true, false] rfl rfl (one_of HT_.out (by kernel_rfl)) (by decide) (fun K hK => ?_)
                           have hs34 : w33.cell? ⟨gb1001, 0, none⟩ = some (.int .i64 0) := (blk_cell BK1001.out 0).trans rfl
                           have hfs34 := blk_frozen BK1001.out 0
                           have hns34_0 := NB987_1001.out
                           have hns34_1 := NB991_1001.out
                           have hms34_0 := NB1001_987.out
                           have hms34_1 := NB1001_991.out
                           have hs35 : w33.cell? ⟨gb1001, 1, none⟩ = some (.int .i64 0) := (blk_cell BK1001.out 1).trans rfl
                           have hfs35 := blk_frozen BK1001.out 1
                           have hns35_0 := NB987_1001.out
                           have hns35_1 := NB991_1001.out
                           have hms35_0 := NB1001_987.out
                           have hms35_1 := NB1001_991.out
                           refine skip_ (w1 := ?_) (by rfl) rfl ?_ ?_
                           rotate_left
                           · go_simp
                             rfl
                           refine hK.out _ _ ⟨((cell_far (p := ⟨gb1001, _, none⟩) NB991_1001.out _).trans (((cell_far (p := ⟨gb1001, _, none⟩) NB991_1001.out _).trans (hHeld.1)))), ((cell_far (p := ⟨gb1001, _, none⟩) NB991_1001.out _).trans (((cell_far (p := ⟨gb1001, _, none⟩) NB991_1001.out _).trans (hHeld.2.1)))), ((cell_far (p := ⟨gb1001, _, none⟩) (by first | exact Nat.ne_of_lt (Nat.lt_of_lt_of_le (by have := World.block_lt_of_cell? _ _ hw997_0; first | rwa [add_block] at this | exact this) GW1001.out) | (rw [add_block]; exact Nat.ne_of_lt (Nat.lt_of_lt_of_le (by have := World.block_lt_of_cell? _ _ hw997_0; first | rwa [add_block] at this | exact this) GW1001.out)) | (show (Addr.add _ _).block ≠ _; rw [add_block]; exact Nat.ne_of_lt (Nat.lt_of_lt_of_le (by have := World.block_lt_of_cell? _ _ hw997_0; first | rwa [add_block] at this | exact this) GW1001.out)) | (dsimp only; exact Nat.ne_of_lt (Nat.lt_of_lt_of_le (by have := World.block_lt_of_cell? _ _ hw997_0; first | rwa [add_block] at this | exact this) GW1001.out))) _).trans (((cell_far (p := ⟨gb1001, _, none⟩) (by first | exact Nat.ne_of_lt (Nat.lt_of_lt_of_le (by have := World.block_lt_of_cell? _ _ hw997_0; first | rwa [add_block] at this | exact this) GW1001.out) | (rw [add_block]; exact Nat.ne_of_lt (Nat.lt_of_lt_of_le (by have := World.block_lt_of_cell? _ _ hw997_0; first | rwa [add_block] at this | exact this) GW1001.out)) | (show (Addr.add _ _).block ≠ _; rw [add_block]; exact Nat.ne_of_lt (Nat.lt_of_lt_of_le (by have := World.block_lt_of_cell? _ _ hw997_0; first | rwa [add_block] at this | exact this) GW1001.out)) | (dsimp only; exact Nat.ne_of_lt (Nat.lt_of_lt_of_le (by have := World.block_lt_of_cell? _ _ hw997_0; first | rwa [add_block] at this | exact this) GW1001.out))) _).trans (hHeld.2.2))))⟩ (fun hHeld => ?_)
                           clear hK K
                           refine pure_ (i := 18) (N := some 9) (v := ?_) (a' := ?_) #[true, true, true, true, true, true, true, true, true, true, true, true, true, true, true, true, true, true, true] rfl rfl (any_of HT_.out (by kernel_rfl)) (fun _ _ _ h => h) (Or.inl ⟨by rfl, ?_⟩) ?_ ?_
                           rotate_left
                           · intro w'
                             go_simp
                             with_reducible rfl
                           rotate_left
                           · simp only [Act.put, List.setIfInBounds_toArray, List.set_cons_zero, List.set_cons_succ, i64_w, i32_w]
                             rfl
                           refine done_ (done_of HT_.out (by kernel_rfl)) ?_
                           have hnb36 := NB1001_987.out
                           have hnc36 := NB987_1001.out
                           have hnb37 := NB1001_991.out
                           have hnc37 := NB991_1001.out
                           obtain ⟨hcz38_0, hcz38_1, hfz38_0, hfz38_1⟩ := bc2_ BK1001
                           have hnb39 := NB991_987.out
                           have hnc39 := NB987_991.out
                           obtain ⟨hcz40_0, hcz40_1, hfz40_0, hfz40_1⟩ := bc2_ BK991
                           try go_wp2
                           go_roundg k3
                           case measure => have := HK1.out; have := HJ9.out; have := HK3.out; omega
                           case rel => exact ⟨(wrap64 (x7_3 - 1)), (x988000_3), (x988001_3), (t998), (t999), (by first | rfl | (simp; done) | (simp [*]; done)), H', ⟨by have := HK1.out; have := HJ9.out; have := HK3.out; omega⟩, ⟨by refine bf_ ?_ NB987_991; refine bf_ ?_ NB987_991; refine bf_ ?_ NB987_1001; refine bf_ ?_ NB987_1001; exact bk_ BK987⟩, ⟨by refine bp_ (cs := #[.int .i64 t998, .int .i64 x992001_3]) ?_ 1; refine bp_ (cs := #[.int .i64 x992000_3, .int .i64 x992001_3]) ?_ 0; refine bf_ ?_ NB991_1001; refine bf_ ?_ NB991_1001; exact bk_ BK991⟩, ⟨bw_ HB⟩⟩
                         · rw [if_neg c29] at H
                           have c29b0 : (t1000 == 0) = false := beq_eq_false_iff_ne.mpr c29
                           have c29b1 : (t1000 != 0) = true := bne_iff_ne.mpr c29
                           simp only [Option.some.injEq, Prod.mk.injEq] at H
                           obtain ⟨rfl, rfl, rfl⟩ := H
                           have p992 : 0 ≤ (x7_3 : Int) := of_decide_eq_true (by first | (with_reducible assumption) | assumption)
                           have q992 : x7_3 < (l0.length : Int) := of_decide_eq_true (by first | (with_reducible assumption) | assumption)
                           obtain ⟨ad992, e992, hx992_0⟩ := Kd.at_int HR0.out x7_3 p992 q992
                           cases e992
                           replace hx992_0 := (HB.out.cell (World.block_lt_of_cell? w _ hx992_0)).trans hx992_0
                           replace p992 := eq_true p992
                           replace q992 := eq_true q992
                           try go_wp2_with (first | ((with_reducible refine gate_callee (f := 42) rfl ?_); refine gla_ (some 48) Try.func42 #[.int .i64 (rd l0 x7_3), .int .i64 (-1000000000), .int .i64 1000000000] ?_; (with_reducible refine (withyref01_In.calls (rd l0 x7_3) (-1000000000) 1000000000 true _ A21.out).mono ?_); rintro e w' ⟨rfl, ⟨nd, rfl⟩⟩; refine ⟨_, rfl, ?_⟩; (try (rw [drewN_self wr]; generalize hq_ : World.drewN wr _ = wr; have n0_ : Aside0 (wr.heap[gb987]? = some (.cells #[.int .i64 x988000_3, .int .i64 x988001_3] 23 (0, 0))) := ⟨by rw [← hq_]; exact (bk_ BK987)⟩; have n1_ : Aside0 (wr.heap[gb991]? = some (.cells #[.int .i64 x992000_3, .int .i64 x992001_3] 23 (0, 0))) := ⟨by rw [← hq_]; exact (bk_ BK991)⟩; have n2_ : Aside0 (Below w.heap.size w wr) := ⟨by rw [← hq_]; exact (bw_ HB)⟩; clear BK987 BK991 HB hq_; have BK987 := n0_; have BK991 := n1_; have HB := n2_; clear n0_ n1_ n2_))))
                           replace BK987 := Aside0.mk (blk_drew BK987.out)
                           replace BK991 := Aside0.mk (blk_drew BK991.out)
                           replace HB := Aside0.mk (below_drew1 HB.out)
                           have p997 : 0 ≤ (x7_3 : Int) := of_decide_eq_true (by first | (with_reducible assumption) | assumption)
                           have q997 : x7_3 < (l0.length : Int) := of_decide_eq_true (by first | (with_reducible assumption) | assumption)
                           obtain ⟨ad997, e997, hx997_0⟩ := Kd.at_int HR0.out x7_3 p997 q997
                           have hw997_0 := hx997_0
                           obtain rfl : ad992 = ad997 := (by injection e997)
                           replace hx997_0 := (HB.out.cell (World.block_lt_of_cell? w _ hx997_0)).trans hx997_0
                           replace p997 := eq_true p997
                           replace q997 := eq_true q997
                           refine start_ (n := 19) (S := fun w' => w'.cell? ⟨gb991, 0, none⟩ = some (.int .i64 x992000_3) ∧ w'.cell? ⟨gb991, 1, none⟩ = some (.int .i64 x992001_3) ∧ w'.cell? (ad992.add (x7_3).toNat) = some (.int .i64 (rd l0 x7_3))) (ds := []) #[false, false, false, false, false, false, false, false, false, false, false, false, false, false, false, false, false, false, false] (by kernel_rfl) rfl rfl ⟨(blk_cell BK991.out 0).trans rfl, (blk_cell BK991.out 1).trans rfl, ((HB.out.cell (World.block_lt_of_cell? w _ hw997_0)).trans hw997_0)⟩ (fun hHeld => ?_); refine with_tabW withyref01_Of.tab19 withyref01_Of.bits19 (fun HT_ HW_ => ?_)
                           generalize wr.drew = w41 at BK987 BK991 HB hx997_0 hHeld ⊢
                           refine pure_ (i := 0) (N := some 60) (v := ?_) (a' := ?_) #[true, false, false, false, false, false, false, false, false, false, false, false, false, false, false, false, false, false, false] rfl rfl (any_of HT_.out (by kernel_rfl)) (fun _ _ _ h => h) (Or.inl ⟨by rfl, ?_⟩) ?_ ?_
                           rotate_left
                           · intro w'
                             go_simp
                             with_reducible rfl
                           rotate_left
                           · simp only [Act.put, List.setIfInBounds_toArray, List.set_cons_zero, List.set_cons_succ, i64_w, i32_w]
                             rfl
                           refine pure_ (i := 1) (N := some 61) (v := ?_) (a' := ?_) #[true, true, false, false, false, false, false, false, false, false, false, false, false, false, false, false, false, false, false] rfl rfl (any_of HT_.out (by kernel_rfl)) (fun _ _ _ h => h) (Or.inl ⟨by rfl, ?_⟩) ?_ ?_
                           rotate_left
                           · intro w'
                             go_simp
                             with_reducible rfl
                           rotate_left
                           · simp only [Act.put, List.setIfInBounds_toArray, List.set_cons_zero, List.set_cons_succ, i64_w, i32_w]
                             rfl
                           refine pure_ (i := 2) (N := some 62) (v := ?_) (a' := ?_) #[true, true, true, false, false, false, false, false, false, false, false, false, false, false, false, false, false, false, false] rfl rfl (any_of HT_.out (by kernel_rfl)) (fun _ _ _ h => h) (Or.inl ⟨by rfl, ?_⟩) ?_ ?_
                           rotate_left
                           · intro w'
                             go_simp
                             with_reducible rfl
                           rotate_left
                           · simp only [Act.put, List.setIfInBounds_toArray, List.set_cons_zero, List.set_cons_succ, i64_w, i32_w]
                             rfl
                           refine pure_ (i := 4) (N := some 64) (v := ?_) (a' := ?_) #[true, true, true, false, true, false, false, false, false, false, false, false, false, false, false, false, false, false, false] rfl rfl (any_of HT_.out (by kernel_rfl)) (fun _ _ _ h => h) (Or.inl ⟨by rfl, ?_⟩) ?_ ?_
                           rotate_left
                           · intro w'
                             go_simp
                             with_reducible rfl
                           rotate_left
                           · simp only [Act.put, List.setIfInBounds_toArray, List.set_cons_zero, List.set_cons_succ, i64_w, i32_w]
                             rfl
                           refine pure_ (i := 7) (N := some 67) (v := ?_) (a' := ?_) #[true, true, true, false, true, false, false, true, false, false, false, false, false, false, false, false, false, false, false] rfl rfl (any_of HT_.out (by kernel_rfl)) (fun _ _ _ h => h) (Or.inl ⟨by rfl, ?_⟩) ?_ ?_
                           rotate_left
                           · intro w'
                             go_simp
                             with_reducible rfl
                           rotate_left
                           · simp only [Act.put, List.setIfInBounds_toArray, List.set_cons_zero, List.set_cons_succ, i64_w, i32_w]
                             rfl
                           refine pure_ (i := 10) (N := some 70) (v := ?_) (a' := ?_) #[true, true, true, false, true, false, false, true, false, false, true, false, false, false, false, false, false, false, false] rfl rfl (any_of HT_.out (by kernel_rfl)) (fun _ _ _ h => h) (Or.inl ⟨by rfl, ?_⟩) ?_ ?_
                           rotate_left
                           · intro w'
                             go_simp
                             with_reducible rfl
                           rotate_left
                           · simp only [Act.put, List.setIfInBounds_toArray, List.set_cons_zero, List.set_cons_succ, i64_w, i32_w]
                             rfl
                           refine take_ (i := 3) (N := some 63) (v := ?_) (a' := ?_) #[true, true, true, true, true, false, false, true, false, false, true, false, false, false, false, false, false, false, false] rfl rfl (take_ofW HT_.out HW_.out (by kernel_rfl)) (fun _ _ _ h => h) (Or.inl ⟨by rfl, ?_⟩) hHeld ?_ ?_
                           rotate_left
                           · rintro w' ⟨s0, s1, s2⟩
                             go_simp
                             with_reducible rfl
                           rotate_left
                           · simp only [Act.put, List.setIfInBounds_toArray, List.set_cons_zero, List.set_cons_succ, i64_w, i32_w]
                             rfl
                           refine take_ (i := 5) (N := some 65) (v := ?_) (a' := ?_) #[true, true, true, true, true, true, false, true, false, false, true, false, false, false, false, false, false, false, false] rfl rfl (take_ofW HT_.out HW_.out (by kernel_rfl)) (fun _ _ _ h => h) (Or.inl ⟨by rfl, ?_⟩) hHeld ?_ ?_
                           rotate_left
                           · rintro w' ⟨s0, s1, s2⟩
                             go_simp
                             with_reducible rfl
                           rotate_left
                           · simp only [Act.put, List.setIfInBounds_toArray, List.set_cons_zero, List.set_cons_succ, i64_w, i32_w]
                             rfl
                           refine pure_ (i := 6) (N := some 66) (v := ?_) (a' := ?_) #[true, true, true, true, true, true, true, true, false, false, true, false, false, false, false, false, false, false, false] rfl rfl (any_of HT_.out (by kernel_rfl)) (fun _ _ _ h => h) (Or.inl ⟨by rfl, ?_⟩) ?_ ?_
                           rotate_left
                           · intro w'
                             go_simp
                             with_reducible rfl
                           rotate_left
                           · simp only [Act.put, List.setIfInBounds_toArray, List.set_cons_zero, List.set_cons_succ, i64_w, i32_w]
                             rfl
                           refine take_ (i := 8) (N := some 68) (v := ?_) (a' := ?_) #[true, true, true, true, true, true, true, true, true, false, true, false, false, false, false, false, false, false, false] rfl rfl (take_ofW HT_.out HW_.out (by kernel_rfl)) (fun _ _ _ h => h) (Or.inl ⟨by rfl, ?_⟩) hHeld ?_ ?_
                           rotate_left
                           · rintro w' ⟨s0, s1, s2⟩
                             go_simp
                             with_reducible rfl
                           rotate_left
                           · simp only [Act.put, List.setIfInBounds_toArray, List.set_cons_zero, List.set_cons_succ, i64_w, i32_w]
                             rfl
                           refine pure_ (i := 9) (N := some 69) (v := ?_) (a' := ?_) #[true, true, true, true, true, true, true, true, true, true, true, false, false, false, false, false, false, false, false] rfl rfl (any_of HT_.out (by kernel_rfl)) (fun _ _ _ h => h) (Or.inl ⟨by rfl, ?_⟩) ?_ ?_
                           rotate_left
                           · intro w'
                             go_simp
                             with_reducible rfl
                           rotate_left
                           · simp only [Act.put, List.setIfInBounds_toArray, List.set_cons_zero, List.set_cons_succ, i64_w, i32_w]
                             rfl
                           refine take_ (i := 11) (N := some 71) (v := ?_) (a' := ?_) #[true, true, true, true, true, true, true, true, true, true, true, true, false, false, false, false, false, false, false] rfl rfl (take_ofW HT_.out HW_.out (by kernel_rfl)) (fun _ _ _ h => h) (Or.inl ⟨by rfl, ?_⟩) hHeld ?_ ?_
                           rotate_left
                           · rintro w' ⟨s0, s1, s2⟩
                             go_simp
                             with_reducible rfl
                           rotate_left
                           · simp only [Act.put, List.setIfInBounds_toArray, List.set_cons_zero, List.set_cons_succ, i64_w, i32_w]
                             rfl
                           refine join_ (σ := Nat) 2 #[true, true, true, true, true, true, true, true, true, true, true, true, true, true, true, true, true, false, false] (fun s_ => [(72, .tuple #[.agg #[.int .i64 t998, .int .i64 t999], .int .i64 t1000]), (8, .pointer (some ⟨s_, 0, none⟩)), (59, .tuple #[.agg #[.int .i64 t998, .int .i64 t999], .int .i64 t1000]), (73, .agg #[.int .i64 t998, .int .i64 t999]), (74, .int .i64 t1000)]) (fun s_ w' => (w'.cell? ⟨gb991, 0, none⟩ = some (.int .i64 x992000_3) ∧ w'.cell? ⟨gb991, 1, none⟩ = some (.int .i64 x992001_3) ∧ w'.cell? (ad992.add (x7_3).toNat) = some (.int .i64 (rd l0 x7_3))) ∧ (w'.heap[s_]? = some (.cells #[.int .i64 0, .int .i64 0] 23 (0, 0))) ∧ (w'.heap[gb987]? = some (.cells #[.int .i64 x988000_3, .int .i64 x988001_3] 23 (0, 0))) ∧ (w'.heap[gb991]? = some (.cells #[.int .i64 x992000_3, .int .i64 x992001_3] 23 (0, 0))) ∧ (w.heap.size ≤ s_) ∧ (w.heap.size ≤ s_) ∧ (gb987 ≠ s_) ∧ (s_ ≠ gb987) ∧ (gb991 ≠ s_) ∧ (s_ ≠ gb991) ∧ (Below w.heap.size w w')) ?_ ?_
                           rotate_left
                           · intro hCont
                             refine two_ (i := 12) (j := 16) (Ni := some 72) (Nj := some 8) #[true, true, true, true, true, true, true, true, true, true, true, true, true, false, false, false, false, false, false] #[true, true, true, true, true, true, true, true, true, true, true, true, false, false, false, false, true, false, false] rfl rfl rfl rfl (two_of HT_.out (by kernel_rfl)) (by decide) (by decide) (fun K hK => ?_) (fun K hK => ?_)
                             · skip
                               refine gos_ Try.func96 #[.int .i64 (wrap64 ((wrap64 ((rd l0 x7_3) * x992000_3)) + x992001_3)), .int .i64 x992000_3] ?_
                               with_reducible refine (withyref01_low.calls k3 (wrap64 ((wrap64 ((rd l0 x7_3) * x992000_3)) + x992001_3)) x992000_3 t998 t999 t1000 _ A28.out).mono ?_
                               rintro e w42 ⟨rfl, hb⟩
                               refine ⟨_, rfl, ?_⟩
                               replace BK987 := bkb_ BK987 hb
                               replace BK991 := bkb_ BK991 hb
                               replace HB := bws_ HB hb
                               (try clear hb)
                               (try clear hb2)
                               (try clear hk)
                               (try clear hi)
                               refine hK.out _ _ ⟨(blk_cell BK991.out 0).trans rfl, (blk_cell BK991.out 1).trans rfl, ((HB.out.cell (World.block_lt_of_cell? w _ hw997_0)).trans hw997_0)⟩ (fun hHeld => ?_)
                               clear hK K
                               refine norm_ (a' := ?_) ?_ ?_
                               rotate_left
                               · show Act.put _ (some 72) _ = _
                                 simp only [Act.put, List.setIfInBounds_toArray, List.set_cons_zero, List.set_cons_succ, i64_w, i32_w]
                                 rfl
                               refine pure_ (i := 13) (N := some 59) (v := ?_) (a' := ?_) #[true, true, true, true, true, true, true, true, true, true, true, true, true, true, false, false, false, false, false] rfl rfl (any_of HT_.out (by kernel_rfl)) (fun _ _ _ h => h) (Or.inl ⟨by rfl, ?_⟩) ?_ ?_
                               rotate_left
                               · intro w'
                                 go_simp
                                 with_reducible rfl
                               rotate_left
                               · simp only [Act.put, List.setIfInBounds_toArray, List.set_cons_zero, List.set_cons_succ, i64_w, i32_w]
                                 rfl
                               refine pure_ (i := 14) (N := some 73) (v := ?_) (a' := ?_) #[true, true, true, true, true, true, true, true, true, true, true, true, true, true, true, false, false, false, false] rfl rfl (any_of HT_.out (by kernel_rfl)) (fun _ _ _ h => h) (Or.inl ⟨by rfl, ?_⟩) ?_ ?_
                               rotate_left
                               · intro w'
                                 go_simp
                                 with_reducible rfl
                               rotate_left
                               · simp only [Act.put, List.setIfInBounds_toArray, List.set_cons_zero, List.set_cons_succ, i64_w, i32_w]
                                 rfl
                               refine pure_ (i := 15) (N := some 74) (v := ?_) (a' := ?_) #[true, true, true, true, true, true, true, true, true, true, true, true, true, true, true, true, false, false, false] rfl rfl (any_of HT_.out (by kernel_rfl)) (fun _ _ _ h => h) (Or.inl ⟨by rfl, ?_⟩) ?_ ?_
                               rotate_left
                               · intro w'
                                 go_simp
                                 with_reducible rfl
                               rotate_left
                               · simp only [Act.put, List.setIfInBounds_toArray, List.set_cons_zero, List.set_cons_succ, i64_w, i32_w]
                                 rfl
                               refine one_ (i := 16) (N := some 8) #[true, true, true, true, true, true, true, true, true, true, true, true, true, true, true, true, true, false, false] rfl rfl (one_of HT_.out (by kernel_rfl)) (by decide) (fun K hK => ?_)
                               refine box_step ?hg (N := 8) ?hd (cs := #[.int .i64 0, .int .i64 0]) (t := 23) ?hr ?_; (case hd => rfl); (case hg => rfl); (case hr => first | (go_simp; done) | (go_simp; rfl))
                               intro gb1001 hg w43 hbox hb
                               have BK1001 := Aside0.mk hbox
                               have GW1001 := bwg_ HB hg
                               have GE1001 := bwg_ HB hg
                               replace HB := bws_ HB hb
                               have NB987_1001 := bkl_ BK987 hg
                               have NB1001_987 := bkr_ BK987 hg
                               replace BK987 := bkb_ BK987 hb
                               have NB991_1001 := bkl_ BK991 hg
                               have NB1001_991 := bkr_ BK991 hg
                               replace BK991 := bkb_ BK991 hb
                               clear hb hbox hg
                               refine hK.out _ _ ⟨(blk_cell BK991.out 0).trans rfl, (blk_cell BK991.out 1).trans rfl, ((HB.out.cell (World.block_lt_of_cell? w _ hw997_0)).trans hw997_0)⟩ (fun hHeld => ?_)
                               clear hK K
                               refine norm_ (a' := ?_) ?_ ?_
                               rotate_left
                               · show Act.put _ (some 8) _ = _
                                 simp only [Act.put, List.setIfInBounds_toArray, List.set_cons_zero, List.set_cons_succ, i64_w, i32_w]
                                 rfl
                               exact norm_ (by simp only [putAll, Act.put, List.setIfInBounds_toArray, List.set_cons_zero, List.set_cons_succ]) (hCont (gb1001) _ ⟨hHeld, (bk_ BK1001), (bk_ BK987), (bk_ BK991), GW1001.out, GE1001.out, NB987_1001.out, NB1001_987.out, NB991_1001.out, NB1001_991.out, (bw_ HB)⟩)
                             · skip
                               refine box_step ?hg (N := 8) ?hd (cs := #[.int .i64 0, .int .i64 0]) (t := 23) ?hr ?_; (case hd => rfl); (case hg => rfl); (case hr => first | (go_simp; done) | (go_simp; rfl))
                               intro gb1001 hg w42 hbox hb
                               have BK1001 := Aside0.mk hbox
                               have GW1001 := bwg_ HB hg
                               have GE1001 := bwg_ HB hg
                               replace HB := bws_ HB hb
                               have NB987_1001 := bkl_ BK987 hg
                               have NB1001_987 := bkr_ BK987 hg
                               replace BK987 := bkb_ BK987 hb
                               have NB991_1001 := bkl_ BK991 hg
                               have NB1001_991 := bkr_ BK991 hg
                               replace BK991 := bkb_ BK991 hb
                               clear hb hbox hg
                               refine hK.out _ _ ⟨(blk_cell BK991.out 0).trans rfl, (blk_cell BK991.out 1).trans rfl, ((HB.out.cell (World.block_lt_of_cell? w _ hw997_0)).trans hw997_0)⟩ (fun hHeld => ?_)
                               clear hK K
                               refine norm_ (a' := ?_) ?_ ?_
                               rotate_left
                               · show Act.put _ (some 8) _ = _
                                 simp only [Act.put, List.setIfInBounds_toArray, List.set_cons_zero, List.set_cons_succ, i64_w, i32_w]
                                 rfl
                               refine one_ (i := 12) (N := some 72) #[true, true, true, true, true, true, true, true, true, true, true, true, true, false, false, false, true, false, false] rfl rfl (one_of HT_.out (by kernel_rfl)) (by decide) (fun K hK => ?_)
                               refine gos_ Try.func96 #[.int .i64 (wrap64 ((wrap64 ((rd l0 x7_3) * x992000_3)) + x992001_3)), .int .i64 x992000_3] ?_
                               with_reducible refine (withyref01_low.calls k3 (wrap64 ((wrap64 ((rd l0 x7_3) * x992000_3)) + x992001_3)) x992000_3 t998 t999 t1000 _ A28.out).mono ?_
                               rintro e w43 ⟨rfl, hb⟩
                               refine ⟨_, rfl, ?_⟩
                               replace BK987 := bkb_ BK987 hb
                               replace BK991 := bkb_ BK991 hb
                               replace BK1001 := bkb_ BK1001 hb
                               replace HB := bws_ HB hb
                               (try clear hb)
                               (try clear hb2)
                               (try clear hk)
                               (try clear hi)
                               refine hK.out _ _ ⟨(blk_cell BK991.out 0).trans rfl, (blk_cell BK991.out 1).trans rfl, ((HB.out.cell (World.block_lt_of_cell? w _ hw997_0)).trans hw997_0)⟩ (fun hHeld => ?_)
                               clear hK K
                               refine norm_ (a' := ?_) ?_ ?_
                               rotate_left
                               · show Act.put _ (some 72) _ = _
                                 simp only [Act.put, List.setIfInBounds_toArray, List.set_cons_zero, List.set_cons_succ, i64_w, i32_w]
                                 rfl
                               refine pure_ (i := 13) (N := some 59) (v := ?_) (a' := ?_) #[true, true, true, true, true, true, true, true, true, true, true, true, true, true, false, false, true, false, false] rfl rfl (any_of HT_.out (by kernel_rfl)) (fun _ _ _ h => h) (Or.inl ⟨by rfl, ?_⟩) ?_ ?_
                               rotate_left
                               · intro w'
                                 go_simp
                                 with_reducible rfl
                               rotate_left
                               · simp only [Act.put, List.setIfInBounds_toArray, List.set_cons_zero, List.set_cons_succ, i64_w, i32_w]
                                 rfl
                               refine pure_ (i := 14) (N := some 73) (v := ?_) (a' := ?_) #[true, true, true, true, true, true, true, true, true, true, true, true, true, true, true, false, true, false, false] rfl rfl (any_of HT_.out (by kernel_rfl)) (fun _ _ _ h => h) (Or.inl ⟨by rfl, ?_⟩) ?_ ?_
                               rotate_left
                               · intro w'
                                 go_simp
                                 with_reducible rfl
                               rotate_left
                               · simp only [Act.put, List.setIfInBounds_toArray, List.set_cons_zero, List.set_cons_succ, i64_w, i32_w]
                                 rfl
                               refine pure_ (i := 15) (N := some 74) (v := ?_) (a' := ?_) #[true, true, true, true, true, true, true, true, true, true, true, true, true, true, true, true, true, false, false] rfl rfl (any_of HT_.out (by kernel_rfl)) (fun _ _ _ h => h) (Or.inl ⟨by rfl, ?_⟩) ?_ ?_
                               rotate_left
                               · intro w'
                                 go_simp
                                 with_reducible rfl
                               rotate_left
                               · simp only [Act.put, List.setIfInBounds_toArray, List.set_cons_zero, List.set_cons_succ, i64_w, i32_w]
                                 rfl
                               exact norm_ (by simp only [putAll, Act.put, List.setIfInBounds_toArray, List.set_cons_zero, List.set_cons_succ]) (hCont (gb1001) _ ⟨hHeld, (bk_ BK1001), (bk_ BK987), (bk_ BK991), GW1001.out, GE1001.out, NB987_1001.out, NB1001_987.out, NB991_1001.out, NB1001_991.out, (bw_ HB)⟩)
                           rintro gb1001 w44 ⟨hS_, h0_, h1_, h2_, h3_, h4_, h5_, h6_, h7_, h8_, h9_⟩
                           have n0_ : Aside0 (w44.heap[gb1001]? = some (.cells #[.int .i64 0, .int .i64 0] 23 (0, 0))) := ⟨h0_⟩
                           have n1_ : Aside0 (w44.heap[gb987]? = some (.cells #[.int .i64 x988000_3, .int .i64 x988001_3] 23 (0, 0))) := ⟨h1_⟩
                           have n2_ : Aside0 (w44.heap[gb991]? = some (.cells #[.int .i64 x992000_3, .int .i64 x992001_3] 23 (0, 0))) := ⟨h2_⟩
                           have n3_ : Aside0 (w.heap.size ≤ gb1001) := ⟨h3_⟩
                           have n4_ : Aside0 (w.heap.size ≤ gb1001) := ⟨h4_⟩
                           have n5_ : Aside0 (gb987 ≠ gb1001) := ⟨h5_⟩
                           have n6_ : Aside0 (gb1001 ≠ gb987) := ⟨h6_⟩
                           have n7_ : Aside0 (gb991 ≠ gb1001) := ⟨h7_⟩
                           have n8_ : Aside0 (gb1001 ≠ gb991) := ⟨h8_⟩
                           have n9_ : Aside0 (Below w.heap.size w w44) := ⟨h9_⟩
                           clear BK987
                           clear BK991
                           clear HB
                           clear h0_ h1_ h2_ h3_ h4_ h5_ h6_ h7_ h8_ h9_
                           have BK1001 := n0_
                           have BK987 := n1_
                           have BK991 := n2_
                           have GW1001 := n3_
                           have GE1001 := n4_
                           have NB987_1001 := n5_
                           have NB1001_987 := n6_
                           have NB991_1001 := n7_
                           have NB1001_991 := n8_
                           have HB := n9_
                           clear n0_ n1_ n2_ n3_ n4_ n5_ n6_ n7_ n8_ n9_
                           have hHeld : w44.cell? ⟨gb991, 0, none⟩ = some (.int .i64 x992000_3) ∧ w44.cell? ⟨gb991, 1, none⟩ = some (.int .i64 x992001_3) ∧ w44.cell? (ad992.add (x7_3).toNat) = some (.int .i64 (rd l0 x7_3)) := hS_
                           refine norm_ (a' := ?_) ?_ ?_
                           rotate_left
                           · simp only [putAll, Act.put, List.setIfInBounds_toArray, List.set_cons_zero, List.set_cons_succ]
                             rfl
                           refine one_ (i := 17) (N := none) #[true, true, true, true, true, true, true, true, true, true, true, true, true, true, true, true, true, true, false] rfl rfl (one_of HT_.out (by kernel_rfl)) (by decide) (fun K hK => ?_)
                           have hs45 : w44.cell? ⟨gb1001, 0, none⟩ = some (.int .i64 0) := (blk_cell BK1001.out 0).trans rfl
                           have hfs45 := blk_frozen BK1001.out 0
                           have hns45_0 := NB987_1001.out
                           have hns45_1 := NB991_1001.out
                           have hms45_0 := NB1001_987.out
                           have hms45_1 := NB1001_991.out
                           have hs46 : w44.cell? ⟨gb1001, 1, none⟩ = some (.int .i64 0) := (blk_cell BK1001.out 1).trans rfl
                           have hfs46 := blk_frozen BK1001.out 1
                           have hns46_0 := NB987_1001.out
                           have hns46_1 := NB991_1001.out
                           have hms46_0 := NB1001_987.out
                           have hms46_1 := NB1001_991.out
                           refine skip_ (w1 := ?_) (by rfl) rfl ?_ ?_
                           rotate_left
                           · go_simp
                             rfl
                           refine hK.out _ _ ⟨((cell_far (p := ⟨gb1001, _, none⟩) NB991_1001.out _).trans (((cell_far (p := ⟨gb1001, _, none⟩) NB991_1001.out _).trans (hHeld.1)))), ((cell_far (p := ⟨gb1001, _, none⟩) NB991_1001.out _).trans (((cell_far (p := ⟨gb1001, _, none⟩) NB991_1001.out _).trans (hHeld.2.1)))), ((cell_far (p := ⟨gb1001, _, none⟩) (by first | exact Nat.ne_of_lt (Nat.lt_of_lt_of_le (by have := World.block_lt_of_cell? _ _ hw997_0; first | rwa [add_block] at this | exact this) GW1001.out) | (rw [add_block]; exact Nat.ne_of_lt (Nat.lt_of_lt_of_le (by have := World.block_lt_of_cell? _ _ hw997_0; first | rwa [add_block] at this | exact this) GW1001.out)) | (show (Addr.add _ _).block ≠ _; rw [add_block]; exact Nat.ne_of_lt (Nat.lt_of_lt_of_le (by have := World.block_lt_of_cell? _ _ hw997_0; first | rwa [add_block] at this | exact this) GW1001.out)) | (dsimp only; exact Nat.ne_of_lt (Nat.lt_of_lt_of_le (by have := World.block_lt_of_cell? _ _ hw997_0; first | rwa [add_block] at this | exact this) GW1001.out))) _).trans (((cell_far (p := ⟨gb1001, _, none⟩) (by first | exact Nat.ne_of_lt (Nat.lt_of_lt_of_le (by have := World.block_lt_of_cell? _ _ hw997_0; first | rwa [add_block] at this | exact this) GW1001.out) | (rw [add_block]; exact Nat.ne_of_lt (Nat.lt_of_lt_of_le (by have := World.block_lt_of_cell? _ _ hw997_0; first | rwa [add_block] at this | exact this) GW1001.out)) | (show (Addr.add _ _).block ≠ _; rw [add_block]; exact Nat.ne_of_lt (Nat.lt_of_lt_of_le (by have := World.block_lt_of_cell? _ _ hw997_0; first | rwa [add_block] at this | exact this) GW1001.out)) | (dsimp only; exact Nat.ne_of_lt (Nat.lt_of_lt_of_le (by have := World.block_lt_of_cell? _ _ hw997_0; first | rwa [add_block] at this | exact this) GW1001.out))) _).trans (hHeld.2.2))))⟩ (fun hHeld => ?_)
                           clear hK K
                           refine pure_ (i := 18) (N := some 9) (v := ?_) (a' := ?_) #[true, true, true, true, true, true, true, true, true, true, true, true, true, true, true, true, true, true, true] rfl rfl (any_of HT_.out (by kernel_rfl)) (fun _ _ _ h => h) (Or.inl ⟨by rfl, ?_⟩) ?_ ?_
                           rotate_left
                           · intro w'
                             go_simp
                             with_reducible rfl
                           rotate_left
                           · simp only [Act.put, List.setIfInBounds_toArray, List.set_cons_zero, List.set_cons_succ, i64_w, i32_w]
                             rfl
                           refine done_ (done_of HT_.out (by kernel_rfl)) ?_
                           have hnb47 := NB987_991.out
                           have hnc47 := NB991_987.out
                           have hnb48 := NB987_1001.out
                           have hnc48 := NB1001_987.out
                           obtain ⟨hcz49_0, hcz49_1, hfz49_0, hfz49_1⟩ := bc2_ BK987
                           try go_wp2
                           refine bodyPost_ret (results_ct rfl _ _ gb987 23 #[.int .i64 0, .int .i64 0] (0, 0) _ rfl (by refine bp_ (cs := #[.int .i64 0, .int .i64 x988001_3]) ?_ 1; refine bp_ (cs := #[.int .i64 x988000_3, .int .i64 x988001_3]) ?_ 0; refine bf_ ?_ NB987_1001; refine bf_ ?_ NB987_1001; exact bk_ BK987) Try.underlying23 rfl (by kernel_rfl)) rfl ?_
                           exact ⟨by first | rfl | (simp [*] <;> rfl), bw_ HB⟩
                     · replace c22 := Bool.eq_false_iff.mpr c22
                       subst c22
                       have H1 : (some (0, 0, 8)) = some (r1, r2, r3) := by rw [if_neg (show ¬ (false = true) by decide)] at H; exact H
                       clear H
                       have H := H1
                       clear H1
                       simp only [Option.some.injEq, Prod.mk.injEq] at H
                       obtain ⟨rfl, rfl, rfl⟩ := H
                       have p992 : 0 ≤ (x7_3 : Int) := of_decide_eq_true (by first | (with_reducible assumption) | assumption)
                       have q992 : x7_3 < (l0.length : Int) := of_decide_eq_true (by first | (with_reducible assumption) | assumption)
                       obtain ⟨ad992, e992, hx992_0⟩ := Kd.at_int HR0.out x7_3 p992 q992
                       cases e992
                       replace hx992_0 := (HB.out.cell (World.block_lt_of_cell? w _ hx992_0)).trans hx992_0
                       replace p992 := eq_true p992
                       replace q992 := eq_true q992
                       go_wp2_with (first | ((with_reducible refine gate_callee (f := 42) rfl ?_); refine gla_ (some 48) Try.func42 #[.int .i64 (rd l0 x7_3), .int .i64 (-1000000000), .int .i64 1000000000] ?_; (with_reducible refine (withyref01_In.calls (rd l0 x7_3) (-1000000000) 1000000000 false _ A21.out).mono ?_); rintro e w' ⟨rfl, ⟨nd, rfl⟩⟩; refine ⟨_, rfl, ?_⟩; (try (rw [drewN_self wr]; generalize hq_ : World.drewN wr _ = wr; have n0_ : Aside0 (wr.heap[gb987]? = some (.cells #[.int .i64 x988000_3, .int .i64 x988001_3] 23 (0, 0))) := ⟨by rw [← hq_]; exact (bk_ BK987)⟩; have n1_ : Aside0 (wr.heap[gb991]? = some (.cells #[.int .i64 x992000_3, .int .i64 x992001_3] 23 (0, 0))) := ⟨by rw [← hq_]; exact (bk_ BK991)⟩; have n2_ : Aside0 (Below w.heap.size w wr) := ⟨by rw [← hq_]; exact (bw_ HB)⟩; clear BK987 BK991 HB hq_; have BK987 := n0_; have BK991 := n1_; have HB := n2_; clear n0_ n1_ n2_)); have hnb50 := NB987_991.out; have hnc50 := NB991_987.out; obtain ⟨hcz51_0, hcz51_1, hfz51_0, hfz51_1⟩ := bc2_ BK987))
                       refine bodyPost_ret (results_ct rfl _ _ gb987 23 #[.int .i64 0, .int .i64 0] (0, 0) _ rfl (by refine bp_ (cs := #[.int .i64 0, .int .i64 x988001_3]) ?_ 1; refine bp_ (cs := #[.int .i64 x988000_3, .int .i64 x988001_3]) ?_ 0; exact bk_ BK987) Try.underlying23 rfl (by kernel_rfl)) rfl ?_
                       exact ⟨by first | rfl | (simp [*] <;> rfl), bw_ HB⟩
                   · rw [if_neg c20] at H
                     exact absurd H (by simp)
                 · rw [if_neg c19] at H
                   exact absurd H (by simp)
               · rw [if_neg c18] at H
                 have c18b0 : decide (0 ≤ x7_3) = false := decide_eq_false c18
                 clear c18
                 simp only [Option.some.injEq, Prod.mk.injEq] at H
                 obtain ⟨rfl, rfl, rfl⟩ := H
                 have hnb52 := NB991_987.out
                 have hnc52 := NB987_991.out
                 obtain ⟨hcz53_0, hcz53_1, hfz53_0, hfz53_1⟩ := bc2_ BK991
                 obtain ⟨hcz54_0, hcz54_1, hfz54_0, hfz54_1⟩ := bc2_ BK987
                 go_wp2
                 refine bodyPost_ret (results_ct rfl _ _ gb987 23 #[.int .i64 x992000_3, .int .i64 x992001_3] (0, 0) _ rfl (by refine bp_ (cs := #[.int .i64 x992000_3, .int .i64 x988001_3]) ?_ 1; refine bp_ (cs := #[.int .i64 x988000_3, .int .i64 x988001_3]) ?_ 0; exact bk_ BK987) Try.underlying23 rfl (by kernel_rfl)) rfl ?_
                 exact ⟨by first | rfl | (simp [*] <;> rfl), bw_ HB⟩
 · replace c3 := Bool.eq_false_iff.mpr c3
   subst c3
   have H1 : (some (0, 0, 4)) = some (r1, r2, r3) := by rw [if_neg (show ¬ (false = true) by decide)] at H; exact H
   clear H
   have H := H1
   clear H1
   simp only [Option.some.injEq, Prod.mk.injEq] at H
   obtain ⟨rfl, rfl, rfl⟩ := H
   as_aux_lemma =>
    go_enter Try.func66, Try.ntmps66
    go_wp2_with (first | ((with_reducible refine gate_dst (N := 2) rfl ?_); refine box_event ?hg (N := 2) ?hd (cs := #[.int .i64 0, .int .i64 0]) (t := 23) ?hr ?_; (case hd => rfl); (case hg => rfl); (case hr => first | (go_simp; done) | (go_simp; rfl)); intro gb987 hg w55 hbox hb; have BK987 := Aside0.mk hbox; have GW987 := bwg_ HB hg; have GE987 := bwg_ HB hg; replace HB := bws_ HB hb; clear hb hbox hg) | ((with_reducible refine gate_callee (f := 42) rfl ?_); refine gla_ (some 15) Try.func42 #[.int .i64 (l0.length : Int), .int .i64 1, .int .i64 50] ?_; (with_reducible refine (withyref01_In.calls (l0.length : Int) 1 50 false _ A2.out).mono ?_); rintro e w' ⟨rfl, ⟨nd, rfl⟩⟩; refine ⟨_, rfl, ?_⟩; (try (rw [drewN_self w55]; generalize hq_ : World.drewN w55 _ = w55; have n0_ : Aside0 (w55.heap[gb987]? = some (.cells #[.int .i64 0, .int .i64 0] 23 (0, 0))) := ⟨by rw [← hq_]; exact (bk_ BK987)⟩; have n1_ : Aside0 (Below w.heap.size w w55) := ⟨by rw [← hq_]; exact (bw_ HB)⟩; clear BK987 HB hq_; have BK987 := n0_; have HB := n1_; clear n0_ n1_)); obtain ⟨hcz56_0, hcz56_1, hfz56_0, hfz56_1⟩ := bc2_ BK987))
    refine bodyPost_ret (results_ct rfl _ _ gb987 23 #[.int .i64 0, .int .i64 0] (0, 0) _ rfl (by refine bp_ (cs := #[.int .i64 0, .int .i64 0]) ?_ 1; refine bp_ (cs := #[.int .i64 0, .int .i64 0]) ?_ 0; exact bk_ BK987) Try.underlying23 rfl (by kernel_rfl)) rfl ?_
    exact ⟨by first | rfl | (simp [*] <;> rfl), bw_ HB⟩
end Go.Proofs.Ytakcdoahpbeckaa.H
