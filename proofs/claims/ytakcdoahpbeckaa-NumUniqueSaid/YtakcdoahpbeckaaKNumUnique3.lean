/- NumUnique: the printed functions it reaches, with their walks. Laid by wip/claimpack.py out of what wip/hprint.py printed. -/
import Derived.Test.YtakcdoahpbeckaaKNumUnique2
namespace Go.Proofs.Ytakcdoahpbeckaa.H
open Go.RowKit Go.Proofs.YtakcdoahpbeckaaW.PrintWords Go.Proofs.YtakcdoahpbeckaaW.PrintLast Go.Proofs.YtakcdoahpbeckaaW.PrintMore
attribute [local go_sem] max2_int min2_int max_two min_two max_three min_three max_four min_four   -- for this text's walks alone
set_option linter.unusedVariables false
set_option linter.unusedSimpArgs false

/-! ### withyref01_Of: function 66 -/
mutual
def withyref01_Of.l0 : Nat → List Int → Int → Int → Option (Int × Int × Int)
  | 0, _, _, _ => none
  | k + 1, x0, x4, x5 => if x5 ≤ x4 then (if 0 ≤ x5 then (if x5 < (x0.length : Int) then (if (rd x0 x5) < 1 then (some (0, 0, 3)) else (withyref01_Of.l0 k x0 x4 (wrap64 (x5 + 1)))) else (none)) else (none)) else (if x4 > 0 then (if 0 ≤ x4 then (if x4 < (x0.length : Int) then (withyref01_Of.j1 k x0 x4 ((rd x0 x4) == 1)) else (none)) else (none)) else (withyref01_Of.j1 k x0 x4 false))
def withyref01_Of.j1 : Nat → List Int → Int → Bool → Option (Int × Int × Int)
  | 0, _, _, _ => none
  | k + 1, x0, x4, x37 => if x37 = true then (some (0, 0, 1)) else (withyref01_Of.l1 k x0 x4 x4 0 0)
def withyref01_Of.l1 : Nat → List Int → Int → Int → Int → Int → Option (Int × Int × Int)
  | 0, _, _, _, _, _ => none
  | k + 1, x0, x4, x7, x992000, x992001 => if x7 ≥ 0 then (if 0 ≤ x7 then (if x7 < (x0.length : Int) then ((withyref01_In.f (rd x0 x7) (-1000000000) 1000000000).bind fun t993 => (if t993 = true then (if x7 = x4 then ((withyref01_Int.f (rd x0 x7)).bind fun bt995 => (withyref01_Of.l1 k x0 x4 (wrap64 (x7 - 1)) bt995.1 bt995.2)) else ((withyref01_low.f k (wrap64 ((wrap64 ((rd x0 x7) * x992000)) + x992001)) x992000).bind fun bt998 => (if bt998.2.2 = 0 then (withyref01_Of.l1 k x0 x4 (wrap64 (x7 - 1)) bt998.1 bt998.2.1) else (some (0, 0, bt998.2.2))))) else (some (0, 0, 8)))) else (none)) else (none)) else (some (x992000, x992001, 0))
end
def withyref01_Of.f (k : Nat) (l0 : List Int) : Option (Int × Int × Int) := (withyref01_In.f (l0.length : Int) 1 50).bind fun t988 => (if t988 = true then (withyref01_Of.l0 k l0 (wrap64 ((l0.length : Int) - 1)) 1) else (some (0, 0, 4)))
theorem withyref01_Of.mono_l : ∀ k, (∀ y0 y1 y2, LeO (withyref01_Of.l0 k y0 y1 y2) (withyref01_Of.l0 (k + 1) y0 y1 y2)) ∧ (∀ y0 y1 y2, LeO (withyref01_Of.j1 k y0 y1 y2) (withyref01_Of.j1 (k + 1) y0 y1 y2)) ∧ (∀ y0 y1 y2 y3 y4, LeO (withyref01_Of.l1 k y0 y1 y2 y3 y4) (withyref01_Of.l1 (k + 1) y0 y1 y2 y3 y4))
  | 0 => ⟨fun _ _ _ r h => by simp [withyref01_Of.l0] at h, fun _ _ _ r h => by simp [withyref01_Of.j1] at h, fun _ _ _ _ _ r h => by simp [withyref01_Of.l1] at h⟩
  | k + 1 => by
    obtain ⟨ih0, ih1, ih2⟩ := withyref01_Of.mono_l k
    refine ⟨?_, ?_, ?_⟩
    · intro y0 y1 y2
      unfold withyref01_Of.l0
      repeat' first
      | (with_reducible exact ih0 _ _ _)
      | (with_reducible exact ih1 _ _ _)
      | (with_reducible exact ih2 _ _ _ _ _)
      | (with_reducible exact withyref01_low.mono _ _ _)
      | (with_reducible exact LeO.refl _)
      | (with_reducible exact LeO.none _)
      | (with_reducible refine LeO.ite ?_ ?_)
      | (with_reducible refine LeO.bind ?_ (fun _ => ?_))
      | (with_reducible refine LeO.exc (fun _ => ?_) (fun _ => ?_))
      | exact ih0 _ _ _
      | exact ih1 _ _ _
      | exact ih2 _ _ _ _ _
      | exact withyref01_low.mono _ _ _
      | exact LeO.none _
      | refine LeO.ite ?_ ?_
      | refine LeO.bind ?_ (fun _ => ?_)
    · intro y0 y1 y2
      unfold withyref01_Of.j1
      repeat' first
      | (with_reducible exact ih0 _ _ _)
      | (with_reducible exact ih1 _ _ _)
      | (with_reducible exact ih2 _ _ _ _ _)
      | (with_reducible exact withyref01_low.mono _ _ _)
      | (with_reducible exact LeO.refl _)
      | (with_reducible exact LeO.none _)
      | (with_reducible refine LeO.ite ?_ ?_)
      | (with_reducible refine LeO.bind ?_ (fun _ => ?_))
      | (with_reducible refine LeO.exc (fun _ => ?_) (fun _ => ?_))
      | exact ih0 _ _ _
      | exact ih1 _ _ _
      | exact ih2 _ _ _ _ _
      | exact withyref01_low.mono _ _ _
      | exact LeO.none _
      | refine LeO.ite ?_ ?_
      | refine LeO.bind ?_ (fun _ => ?_)
    · intro y0 y1 y2 y3 y4
      unfold withyref01_Of.l1
      repeat' first
      | (with_reducible exact ih0 _ _ _)
      | (with_reducible exact ih1 _ _ _)
      | (with_reducible exact ih2 _ _ _ _ _)
      | (with_reducible exact withyref01_low.mono _ _ _)
      | (with_reducible exact LeO.refl _)
      | (with_reducible exact LeO.none _)
      | (with_reducible refine LeO.ite ?_ ?_)
      | (with_reducible refine LeO.bind ?_ (fun _ => ?_))
      | (with_reducible refine LeO.exc (fun _ => ?_) (fun _ => ?_))
      | exact ih0 _ _ _
      | exact ih1 _ _ _
      | exact ih2 _ _ _ _ _
      | exact withyref01_low.mono _ _ _
      | exact LeO.none _
      | refine LeO.ite ?_ ?_
      | refine LeO.bind ?_ (fun _ => ?_)
theorem withyref01_Of.mono : ∀ a0 k, LeO (withyref01_Of.f k a0) (withyref01_Of.f (k + 1) a0) := by
  intro a0 k
  obtain ⟨ih0, ih1, ih2⟩ := withyref01_Of.mono_l k
  unfold withyref01_Of.f
  repeat' first
      | (with_reducible exact ih0 _ _ _)
      | (with_reducible exact ih1 _ _ _)
      | (with_reducible exact ih2 _ _ _ _ _)
      | (with_reducible exact withyref01_low.mono _ _ _)
      | (with_reducible exact LeO.refl _)
      | (with_reducible exact LeO.none _)
      | (with_reducible refine LeO.ite ?_ ?_)
      | (with_reducible refine LeO.bind ?_ (fun _ => ?_))
      | (with_reducible refine LeO.exc (fun _ => ?_) (fun _ => ?_))
      | exact ih0 _ _ _
      | exact ih1 _ _ _
      | exact ih2 _ _ _ _ _
      | exact withyref01_low.mono _ _ _
      | exact LeO.none _
      | refine LeO.ite ?_ ?_
      | refine LeO.bind ?_ (fun _ => ?_)
def withyref01_Of.T19 : Bool × List (List Nat × List Nat) := (true, [([], []), ([], []), ([0, 1], [0, 1]), ([2], [2]), ([], []), ([4], [4]), ([3, 5], [3, 5]), ([], []), ([7], [7]), ([6, 8], [6, 8]), ([], []), ([10], [10]), ([9, 11], [9, 11]), ([12], [12]), ([13], [13]), ([13], [13]), ([], []), ([16, 14, 12, 0, 1, 2, 3, 4, 5, 6, 7, 8, 9, 10, 11, 12, 13, 14, 16], [14, 16]), ([15, 17, 0, 1, 2, 3, 4, 5, 6, 7, 8, 9, 10, 11, 12, 13, 14, 15, 16, 17], [15])])
def withyref01_Of.B19 : List Nat := [0, 0, 3, 7, 0, 16, 63, 0, 128, 511, 0, 1024, 4095, 8191, 16383, 16383, 0, 98303, 262143]
theorem withyref01_Of.tab19 : rtab .any (opsOf Try.f66 19) = withyref01_Of.T19 := by kernel_rfl
theorem withyref01_Of.bits19 : waitsOk withyref01_Of.T19.2 withyref01_Of.B19 = true := by kernel_rfl
set_option maxHeartbeats 8000000 in
set_option maxRecDepth 100000 in
theorem withyref01_Of.calls (k : Nat) (A0 : Option Addr) (c0 : Nat) (l0 : List Int) (r1 : Int) (r2 : Int) (r3 : Int) (w : World) (hr0 : Kd.C (Kd.int .i64) w A0 l0.length l0) (hc0 : l0.length ≤ c0) (h : withyref01_Of.f k l0 = some (r1, r2, r3)) :
    Calls Try.prog 66 #[.slice A0 l0.length c0] w fun e w' => e = .returned (.tuple #[.agg #[.int .i64 r1, .int .i64 r2], .int .i64 r3]) ∧ Below w.heap.size w w' := by
 have hu23 := Try.underlying23
 have HR0 := Aside0.mk hr0
 have HC0 := Aside0.mk hc0
 clear hr0 hc0
 have HB := Aside0.mk (Below.refl w.heap.size w)
 have H : ((withyref01_In.f (l0.length : Int) 1 50).bind fun t988 => (if t988 = true then (withyref01_Of.l0 k l0 (wrap64 ((l0.length : Int) - 1)) 1) else (some (0, 0, 4)))) = some (r1, r2, r3) := h
 clear h
 replace H := Option.bind_eq_some_iff.mp H
 obtain ⟨t988, A20, H⟩ := H
 replace H : (if t988 = true then (withyref01_Of.l0 k l0 (wrap64 ((l0.length : Int) - 1)) 1) else (some (0, 0, 4))) = some (r1, r2, r3) := H
 have A2 := Aside0.mk A20
 clear A20
 by_cases c3 : t988 = true
 · subst c3
   have H1 : (withyref01_Of.l0 k l0 (wrap64 ((l0.length : Int) - 1)) 1) = some (r1, r2, r3) := by rw [if_pos rfl] at H; exact H
   clear H
   have H := H1
   clear H1
   have H' := Aside0.mk H
   clear H
   as_aux_lemma =>
    go_enter Try.func66, Try.ntmps66
    go_wp2_with (first | ((with_reducible refine gate_dst (N := 2) rfl ?_); refine box_event ?hg (N := 2) ?hd (cs := #[.int .i64 0, .int .i64 0]) (t := 23) ?hr ?_; (case hd => rfl); (case hg => rfl); (case hr => first | (go_simp; done) | (go_simp; rfl)); intro gb987 hg w4 hbox hb; have BK987 := Aside0.mk hbox; have GW987 := bwg_ HB hg; have GE987 := bwg_ HB hg; replace HB := bws_ HB hb; clear hb hbox hg) | ((with_reducible refine gate_callee (f := 42) rfl ?_); refine gla_ (some 15) Try.func42 #[.int .i64 (l0.length : Int), .int .i64 1, .int .i64 50] ?_; (with_reducible refine (withyref01_In.calls (l0.length : Int) 1 50 true _ A2.out).mono ?_); rintro e w' ⟨rfl, ⟨nd, rfl⟩⟩; refine ⟨_, rfl, ?_⟩))
    go_loopg [5] k (fun kq v5 w' => ∃ (x5_1 : Int) (x988000_1 : Int) (x988001_1 : Int), v5 = .int .i64 x5_1 ∧ Aside0 (withyref01_Of.l0 kq l0 (wrap64 ((l0.length : Int) - 1)) x5_1 = some (r1, r2, r3)) ∧ Aside0 (kq ≤ k) ∧ Aside0 (w'.heap[gb987]? = some (.cells #[.int .i64 x988000_1, .int .i64 x988001_1] 23 (0, 0))) ∧ Aside0 (Below w.heap.size w w'))
    case atStart => exact ⟨(1), (0), (0), (by first | rfl | (simp; done) | (simp [*]; done)), H', ⟨Nat.le_refl _⟩, ⟨by exact bk_ BK987⟩, ⟨bw_ HB⟩⟩
    case round =>
     clear H'
     try clear p2
     try clear c3
     try clear c4
     obtain ⟨x5_1, x988000_1, x988001_1, rfl, HA, HK1, BK987, HB⟩ := hrel
     cases gk with
     | zero => exact absurd HA.out (by simp [withyref01_Of.l0])
     | succ k1 =>
      have H := HA.out
      clear HA
      simp only [withyref01_Of.l0] at H
      by_cases c5 : x5_1 ≤ (wrap64 ((l0.length : Int) - 1))
      · rw [if_pos c5] at H
        have c5b0 : decide (x5_1 ≤ (wrap64 ((l0.length : Int) - 1))) = true := decide_eq_true c5
        clear c5
        by_cases c6 : 0 ≤ x5_1
        · rw [if_pos c6] at H
          have c6b0 : decide (0 ≤ x5_1) = true := decide_eq_true c6
          clear c6
          by_cases c7 : x5_1 < (l0.length : Int)
          · rw [if_pos c7] at H
            have c7b0 : decide (x5_1 < (l0.length : Int)) = true := decide_eq_true c7
            clear c7
            by_cases c8 : (rd l0 x5_1) < 1
            · rw [if_pos c8] at H
              have c8b0 : decide ((rd l0 x5_1) < 1) = true := decide_eq_true c8
              clear c8
              simp only [Option.some.injEq, Prod.mk.injEq] at H
              obtain ⟨rfl, rfl, rfl⟩ := H
              have p989 : 0 ≤ (x5_1 : Int) := of_decide_eq_true (by first | (with_reducible assumption) | assumption)
              have q989 : x5_1 < (l0.length : Int) := of_decide_eq_true (by first | (with_reducible assumption) | assumption)
              obtain ⟨ad989, e989, hx989_0⟩ := Kd.at_int HR0.out x5_1 p989 q989
              cases e989
              replace hx989_0 := (HB.out.cell (World.block_lt_of_cell? w _ hx989_0)).trans hx989_0
              replace p989 := eq_true p989
              replace q989 := eq_true q989
              obtain ⟨hcz9_0, hcz9_1, hfz9_0, hfz9_1⟩ := bc2_ BK987
              go_wp2
              refine bodyPost_ret (results_ct rfl _ _ gb987 23 #[.int .i64 0, .int .i64 0] (0, 0) _ rfl (by refine bp_ (cs := #[.int .i64 0, .int .i64 x988001_1]) ?_ 1; refine bp_ (cs := #[.int .i64 x988000_1, .int .i64 x988001_1]) ?_ 0; exact bk_ BK987) Try.underlying23 rfl (by kernel_rfl)) rfl ?_
              exact ⟨by first | rfl | (simp [*] <;> rfl), bw_ HB⟩
            · rw [if_neg c8] at H
              have c8b0 : decide ((rd l0 x5_1) < 1) = false := decide_eq_false c8
              clear c8
              have H' := Aside0.mk H
              clear H
              have p989 : 0 ≤ (x5_1 : Int) := of_decide_eq_true (by first | (with_reducible assumption) | assumption)
              have q989 : x5_1 < (l0.length : Int) := of_decide_eq_true (by first | (with_reducible assumption) | assumption)
              obtain ⟨ad989, e989, hx989_0⟩ := Kd.at_int HR0.out x5_1 p989 q989
              cases e989
              replace hx989_0 := (HB.out.cell (World.block_lt_of_cell? w _ hx989_0)).trans hx989_0
              replace p989 := eq_true p989
              replace q989 := eq_true q989
              go_wp2
              go_roundg k1
              case measure => have := HK1.out; omega
              case rel => exact ⟨(wrap64 (x5_1 + 1)), (x988000_1), (x988001_1), (by first | rfl | (simp; done) | (simp [*]; done)), H', ⟨by have := HK1.out; omega⟩, ⟨by exact bk_ BK987⟩, ⟨bw_ HB⟩⟩
          · rw [if_neg c7] at H
            exact absurd H (by simp)
        · rw [if_neg c6] at H
          exact absurd H (by simp)
      · rw [if_neg c5] at H
        have c5b0 : decide (x5_1 ≤ (wrap64 ((l0.length : Int) - 1))) = false := decide_eq_false c5
        clear c5
        have HC10 := Aside0.mk H
        clear H
        go_upto_region 9 with (fail)
        go_cut [37] (fun v37 wc => ∃ (kq : Nat) (x37_9 : Bool), v37 = .bool x37_9 ∧ Aside0 (withyref01_Of.j1 kq l0 (wrap64 ((l0.length : Int) - 1)) x37_9 = some (r1, r2, r3)) ∧ Aside0 (kq ≤ k1) ∧ Aside0 (wc.heap[gb987]? = some (.cells #[.int .i64 x988000_1, .int .i64 x988001_1] 23 (0, 0))) ∧ Aside0 (Below w.heap.size w wc))
        case first =>
         as_aux_lemma =>
          have H := HC10.out
          clear HC10
          by_cases c11 : (wrap64 ((l0.length : Int) - 1)) > 0
          · rw [if_pos c11] at H
            have c11b0 : decide (0 < (wrap64 ((l0.length : Int) - 1))) = true := decide_eq_true c11
            clear c11
            (first | rw [c11b0] | (simp only [i64_w, i32_w]; rw [c11b0]) | skip)
            obtain ⟨ji12, hji12⟩ : ∃ j_ : Int, (wrap64 ((l0.length : Int) - 1)) = j_ := ⟨_, rfl⟩
            replace H : (if 0 ≤ (ji12) then (if (ji12) < (l0.length : Int) then (withyref01_Of.j1 k1 l0 (ji12) ((rd l0 (ji12)) == 1)) else (none)) else (none)) = some (r1, r2, r3) := by first | (rw [hji12] at H; exact H) | (simp only [hji12] at H ⊢; exact H)
            (try rw [hji12] at c5b0)
            (try rw [hji12] at c11b0)
            have hji12w : (IntKind.i64.wrap ((l0.length : Int) - 1)) = ji12 := (i64_w _).trans hji12
            by_cases c13 : 0 ≤ (ji12)
            · rw [if_pos c13] at H
              have c13b0 : decide (0 ≤ (ji12)) = true := decide_eq_true c13
              clear c13
              by_cases c14 : (ji12) < (l0.length : Int)
              · rw [if_pos c14] at H
                have c14b0 : decide ((ji12) < (l0.length : Int)) = true := decide_eq_true c14
                clear c14
                have H' := Aside0.mk H
                clear H
                have p990 : 0 ≤ ((ji12) : Int) := of_decide_eq_true (by first | (with_reducible assumption) | assumption)
                have q990 : (ji12) < (l0.length : Int) := of_decide_eq_true (by first | (with_reducible assumption) | assumption)
                obtain ⟨ad990, e990, hx990_0⟩ := Kd.at_int HR0.out (ji12) p990 q990
                cases e990
                replace hx990_0 := (HB.out.cell (World.block_lt_of_cell? w _ hx990_0)).trans hx990_0
                replace p990 := eq_true p990
                replace q990 := eq_true q990
                go_wp2
                go_meet
                case rel => exact ⟨_, (((rd l0 (ji12)) == 1)), (by first | rfl | (simp; done) | (simp only [← hji12] <;> (first | rfl | simp)) | (simp [*]; done)), (by first | exact H' | (rw [← hji12]; exact H') | (rw [hji12]; exact H') | (rw [hji12] at H'; exact H')), ⟨by have := HK1.out; first | omega | exact Nat.le_refl _⟩, ⟨by exact bk_ BK987⟩, ⟨bw_ HB⟩⟩
              · rw [if_neg c14] at H
                exact absurd H (by simp)
            · rw [if_neg c13] at H
              exact absurd H (by simp)
          · rw [if_neg c11] at H
            have c11b0 : decide (0 < (wrap64 ((l0.length : Int) - 1))) = false := decide_eq_false c11
            clear c11
            (first | rw [c11b0] | (simp only [i64_w, i32_w]; rw [c11b0]) | skip)
            have H' := Aside0.mk H
            clear H
            go_wp2
            go_meet
            case rel => exact ⟨_, (false), (by first | rfl | (simp; done) | (simp [*]; done)), H', ⟨by have := HK1.out; first | omega | exact Nat.le_refl _⟩, ⟨by exact bk_ BK987⟩, ⟨bw_ HB⟩⟩
        case rest =>
         as_aux_lemma =>
          clear HC10
          try clear c1
          try clear p2
          try clear c3
          try clear c4
          try clear c5
          try clear c5b0
          try clear c6
          try clear c6b0
          try clear p6
          try clear c7
          try clear c7b0
          try clear c8
          try clear c8b0
          try clear p9
          try clear q9
          try clear hx9
          try clear c11
          try clear c11b0
          try clear c13
          try clear c13b0
          try clear c14
          try clear c14b0
          try clear hcz9_0
          try clear hcz9_1
          try clear hfz9_0
          try clear hfz9_1
          try clear hx989_0
          try clear hx990_0
          try clear p2
          try clear p989
          try clear p990
          try clear q989
          try clear q990
          obtain ⟨kq, x37_9, rfl, HA, HJ9, BK987, HB⟩ := hcut
          cases kq with
          | zero => exact absurd HA.out (by simp [withyref01_Of.j1])
          | succ kj9 =>
           have H := HA.out
           clear HA
           simp only [withyref01_Of.j1] at H
           by_cases c15 : x37_9 = true
           · subst c15
             have H1 : (some (0, 0, 1)) = some (r1, r2, r3) := by rw [if_pos rfl] at H; exact H
             clear H
             have H := H1
             clear H1
             simp only [Option.some.injEq, Prod.mk.injEq] at H
             obtain ⟨rfl, rfl, rfl⟩ := H
             obtain ⟨hcz16_0, hcz16_1, hfz16_0, hfz16_1⟩ := bc2_ BK987
             go_wp2
             refine bodyPost_ret (results_ct rfl _ _ gb987 23 #[.int .i64 0, .int .i64 0] (0, 0) _ rfl (by refine bp_ (cs := #[.int .i64 0, .int .i64 x988001_1]) ?_ 1; refine bp_ (cs := #[.int .i64 x988000_1, .int .i64 x988001_1]) ?_ 0; exact bk_ BK987) Try.underlying23 rfl (by kernel_rfl)) rfl ?_
             exact ⟨by first | rfl | (simp [*] <;> rfl), bw_ HB⟩
           · replace c15 := Bool.eq_false_iff.mpr c15
             subst c15
             have H1 : (withyref01_Of.l1 kj9 l0 (wrap64 ((l0.length : Int) - 1)) (wrap64 ((l0.length : Int) - 1)) 0 0) = some (r1, r2, r3) := by rw [if_neg (show ¬ (false = true) by decide)] at H; exact H
             clear H
             have H := H1
             clear H1
             have H' := Aside0.mk H
             clear H
             go_wp2_with (first | ((with_reducible refine gate_dst (N := 6) rfl ?_); refine box_event ?hg (N := 6) ?hd (cs := #[.int .i64 0, .int .i64 0]) (t := 23) ?hr ?_; (case hd => rfl); (case hg => rfl); (case hr => first | (go_simp; done) | (go_simp; rfl)); intro gb991 hg w17 hbox hb; have BK991 := Aside0.mk hbox; have GW991 := bwg_ HB hg; have GE991 := bwg_ HB hg; replace HB := bws_ HB hb; have NB987_991 := bkl_ BK987 hg; have NB991_987 := bkr_ BK987 hg; replace BK987 := bkb_ BK987 hb; clear hb hbox hg))
             go_loopg [7] kj9 (fun kq v7 w' => ∃ (x7_3 : Int) (x988000_3 : Int) (x988001_3 : Int) (x992000_3 : Int) (x992001_3 : Int), v7 = .int .i64 x7_3 ∧ Aside0 (withyref01_Of.l1 kq l0 (wrap64 ((l0.length : Int) - 1)) x7_3 x992000_3 x992001_3 = some (r1, r2, r3)) ∧ Aside0 (kq ≤ kj9) ∧ Aside0 (w'.heap[gb987]? = some (.cells #[.int .i64 x988000_3, .int .i64 x988001_3] 23 (0, 0))) ∧ Aside0 (w'.heap[gb991]? = some (.cells #[.int .i64 x992000_3, .int .i64 x992001_3] 23 (0, 0))) ∧ Aside0 (Below w.heap.size w w'))
             case atStart => exact ⟨((wrap64 ((l0.length : Int) - 1))), (x988000_1), (x988001_1), (0), (0), (by first | rfl | (simp; done) | (simp [*]; done)), H', ⟨Nat.le_refl _⟩, ⟨by exact bk_ BK987⟩, ⟨by exact bk_ BK991⟩, ⟨bw_ HB⟩⟩
             case round =>
              clear H'
              try clear c1
              try clear p2
              try clear c3
              try clear c4
              try clear c5
              try clear c5b0
              try clear c6
              try clear c6b0
              try clear p6
              try clear c7
              try clear c7b0
              try clear c8
              try clear c8b0
              try clear p9
              try clear q9
              try clear hx9
              try clear c11
              try clear c11b0
              try clear c13
              try clear c13b0
              try clear c14
              try clear c14b0
              try clear c15
              try clear hcz16_0
              try clear hcz16_1
              try clear hcz9_0
              try clear hcz9_1
              try clear hfz16_0
              try clear hfz16_1
              try clear hfz9_0
              try clear hfz9_1
              try clear hx989_0
              try clear hx990_0
              try clear p2
              try clear p6
              try clear p9
              try clear p989
              try clear p990
              try clear q9
              try clear q989
              try clear q990
              obtain ⟨x7_3, x988000_3, x988001_3, x992000_3, x992001_3, rfl, HA, HK3, BK987, BK991, HB⟩ := hrel
              cases gk with
              | zero => exact absurd HA.out (by simp [withyref01_Of.l1])
              | succ k3 =>
               have H := HA.out
               clear HA
               simp only [withyref01_Of.l1] at H
               by_cases c18 : x7_3 ≥ 0
               · rw [if_pos c18] at H
                 have c18b0 : decide (0 ≤ x7_3) = true := decide_eq_true c18
                 clear c18
                 by_cases c19 : 0 ≤ x7_3
                 · rw [if_pos c19] at H
                   have c19b0 : decide (0 ≤ x7_3) = true := decide_eq_true c19
                   clear c19
                   by_cases c20 : x7_3 < (l0.length : Int)
                   · rw [if_pos c20] at H
                     have c20b0 : decide (x7_3 < (l0.length : Int)) = true := decide_eq_true c20
                     clear c20
                     replace H := Option.bind_eq_some_iff.mp H
                     obtain ⟨t993, A210, H⟩ := H
                     replace H : (if t993 = true then (if x7_3 = (wrap64 ((l0.length : Int) - 1)) then ((withyref01_Int.f (rd l0 x7_3)).bind fun bt995 => (withyref01_Of.l1 k3 l0 (wrap64 ((l0.length : Int) - 1)) (wrap64 (x7_3 - 1)) bt995.1 bt995.2)) else ((withyref01_low.f k3 (wrap64 ((wrap64 ((rd l0 x7_3) * x992000_3)) + x992001_3)) x992000_3).bind fun bt998 => (if bt998.2.2 = 0 then (withyref01_Of.l1 k3 l0 (wrap64 ((l0.length : Int) - 1)) (wrap64 (x7_3 - 1)) bt998.1 bt998.2.1) else (some (0, 0, bt998.2.2))))) else (some (0, 0, 8))) = some (r1, r2, r3) := H
                     have A21 := Aside0.mk A210
                     clear A210
                     by_cases c22 : t993 = true
                     · subst c22
                       have H1 : (if x7_3 = (wrap64 ((l0.length : Int) - 1)) then ((withyref01_Int.f (rd l0 x7_3)).bind fun bt995 => (withyref01_Of.l1 k3 l0 (wrap64 ((l0.length : Int) - 1)) (wrap64 (x7_3 - 1)) bt995.1 bt995.2)) else ((withyref01_low.f k3 (wrap64 ((wrap64 ((rd l0 x7_3) * x992000_3)) + x992001_3)) x992000_3).bind fun bt998 => (if bt998.2.2 = 0 then (withyref01_Of.l1 k3 l0 (wrap64 ((l0.length : Int) - 1)) (wrap64 (x7_3 - 1)) bt998.1 bt998.2.1) else (some (0, 0, bt998.2.2))))) = some (r1, r2, r3) := by rw [if_pos rfl] at H; exact H
                       clear H
                       have H := H1
                       clear H1
                       by_cases c23 : x7_3 = (wrap64 ((l0.length : Int) - 1))
                       · rw [if_pos c23] at H
                         have c23b0 : (x7_3 == (wrap64 ((l0.length : Int) - 1))) = true := beq_iff_eq.mpr c23
                         have c23b1 : (x7_3 != (wrap64 ((l0.length : Int) - 1))) = false := bne_eq_false_iff_eq.mpr c23
                         clear c23
                         replace H := Option.bind_eq_some_iff.mp H
                         obtain ⟨⟨t995, t996⟩, A240, H⟩ := H
                         replace H : (withyref01_Of.l1 k3 l0 (wrap64 ((l0.length : Int) - 1)) (wrap64 (x7_3 - 1)) t995 t996) = some (r1, r2, r3) := H
                         have A24 := Aside0.mk A240
                         clear A240
                         have H' := Aside0.mk H
                         clear H
                         have p992 : 0 ≤ (x7_3 : Int) := of_decide_eq_true (by first | (with_reducible assumption) | assumption)
                         have q992 : x7_3 < (l0.length : Int) := of_decide_eq_true (by first | (with_reducible assumption) | assumption)
                         obtain ⟨ad992, e992, hx992_0⟩ := Kd.at_int HR0.out x7_3 p992 q992
                         cases e992
                         replace hx992_0 := (HB.out.cell (World.block_lt_of_cell? w _ hx992_0)).trans hx992_0
                         replace p992 := eq_true p992
                         replace q992 := eq_true q992
                         go_wp2_with (first | ((with_reducible refine gate_callee (f := 42) rfl ?_); refine gla_ (some 48) Try.func42 #[.int .i64 (rd l0 x7_3), .int .i64 (-1000000000), .int .i64 1000000000] ?_; (with_reducible refine (withyref01_In.calls (rd l0 x7_3) (-1000000000) 1000000000 true _ A21.out).mono ?_); rintro e w' ⟨rfl, ⟨nd, rfl⟩⟩; refine ⟨_, rfl, ?_⟩; (try (rw [drewN_self wr]; generalize hq_ : World.drewN wr _ = wr; have n0_ : Aside0 (wr.heap[gb987]? = some (.cells #[.int .i64 x988000_3, .int .i64 x988001_3] 23 (0, 0))) := ⟨by rw [← hq_]; exact (bk_ BK987)⟩; have n1_ : Aside0 (wr.heap[gb991]? = some (.cells #[.int .i64 x992000_3, .int .i64 x992001_3] 23 (0, 0))) := ⟨by rw [← hq_]; exact (bk_ BK991)⟩; have n2_ : Aside0 (Below w.heap.size w wr) := ⟨by rw [← hq_]; exact (bw_ HB)⟩; clear BK987 BK991 HB hq_; have BK987 := n0_; have BK991 := n1_; have HB := n2_; clear n0_ n1_ n2_)); have p994 : 0 ≤ (x7_3 : Int) := of_decide_eq_true (by first | (with_reducible assumption) | assumption); have q994 : x7_3 < (l0.length : Int) := of_decide_eq_true (by first | (with_reducible assumption) | assumption); obtain ⟨ad994, e994, hx994_0⟩ := Kd.at_int HR0.out x7_3 p994 q994; obtain rfl : ad992 = ad994 := (by injection e994); replace hx994_0 := (HB.out.cell (World.block_lt_of_cell? w _ hx994_0)).trans hx994_0; replace p994 := eq_true p994; replace q994 := eq_true q994) | ((with_reducible refine gate_callee (f := 100) rfl ?_); refine gla_ (some 58) Try.func100 #[.int .i64 (rd l0 x7_3)] ?_; (with_reducible refine (withyref01_Int.calls (rd l0 x7_3) t995 t996 _ A24.out).mono ?_); rintro e w25 ⟨rfl, hb⟩; refine ⟨_, rfl, ?_⟩; replace BK987 := bkb_ BK987 hb; replace BK991 := bkb_ BK991 hb; replace HB := bws_ HB hb; (try clear hb); (try clear hb2); (try clear hk); (try clear hi); have hnb26 := NB991_987.out; have hnc26 := NB987_991.out; obtain ⟨hcz27_0, hcz27_1, hfz27_0, hfz27_1⟩ := bc2_ BK991))
                         go_roundg k3
                         case measure => have := HK1.out; have := HJ9.out; have := HK3.out; omega
                         case rel => exact ⟨(wrap64 (x7_3 - 1)), (x988000_3), (x988001_3), (t995), (t996), (by first | rfl | (simp; done) | (simp [*]; done)), H', ⟨by have := HK1.out; have := HJ9.out; have := HK3.out; omega⟩, ⟨by refine bf_ ?_ NB987_991; refine bf_ ?_ NB987_991; exact bk_ BK987⟩, ⟨by refine bp_ (cs := #[.int .i64 t995, .int .i64 x992001_3]) ?_ 1; refine bp_ (cs := #[.int .i64 x992000_3, .int .i64 x992001_3]) ?_ 0; exact bk_ BK991⟩, ⟨bw_ HB⟩⟩
                       · rw [if_neg c23] at H
                         have c23b0 : (x7_3 == (wrap64 ((l0.length : Int) - 1))) = false := beq_eq_false_iff_ne.mpr c23
                         have c23b1 : (x7_3 != (wrap64 ((l0.length : Int) - 1))) = true := bne_iff_ne.mpr c23
                         replace H := Option.bind_eq_some_iff.mp H
                         obtain ⟨⟨t998, t999, t1000⟩, A280, H⟩ := H
                         replace H : (if t1000 = 0 then (withyref01_Of.l1 k3 l0 (wrap64 ((l0.length : Int) - 1)) (wrap64 (x7_3 - 1)) t998 t999) else (some (0, 0, t1000))) = some (r1, r2, r3) := H
                         have A28 := Aside0.mk A280
                         clear A280
                         by_cases c29 : t1000 = 0
                         · rw [if_pos c29] at H
                           have c29b0 : (t1000 == 0) = true := beq_iff_eq.mpr c29
                           have c29b1 : (t1000 != 0) = false := bne_eq_false_iff_eq.mpr c29
                           clear c29
                           have H' := Aside0.mk H
                           clear H
                           have p992 : 0 ≤ (x7_3 : Int) := of_decide_eq_true (by first | (with_reducible assumption) | assumption)
                           have q992 : x7_3 < (l0.length : Int) := of_decide_eq_true (by first | (with_reducible assumption) | assumption)
                           obtain ⟨ad992, e992, hx992_0⟩ := Kd.at_int HR0.out x7_3 p992 q992
                           cases e992
                           replace hx992_0 := (HB.out.cell (World.block_lt_of_cell? w _ hx992_0)).trans hx992_0
                           replace p992 := eq_true p992
                           replace q992 := eq_true q992
                           try go_wp2_with (first | ((with_reducible refine gate_callee (f := 42) rfl ?_); refine gla_ (some 48) Try.func42 #[.int .i64 (rd l0 x7_3), .int .i64 (-1000000000), .int .i64 1000000000] ?_; (with_reducible refine (withyref01_In.calls (rd l0 x7_3) (-1000000000) 1000000000 true _ A21.out).mono ?_); rintro e w' ⟨rfl, ⟨nd, rfl⟩⟩; refine ⟨_, rfl, ?_⟩; (try (rw [drewN_self wr]; generalize hq_ : World.drewN wr _ = wr; have n0_ : Aside0 (wr.heap[gb987]? = some (.cells #[.int .i64 x988000_3, .int .i64 x988001_3] 23 (0, 0))) := ⟨by rw [← hq_]; exact (bk_ BK987)⟩; have n1_ : Aside0 (wr.heap[gb991]? = some (.cells #[.int .i64 x992000_3, .int .i64 x992001_3] 23 (0, 0))) := ⟨by rw [← hq_]; exact (bk_ BK991)⟩; have n2_ : Aside0 (Below w.heap.size w wr) := ⟨by rw [← hq_]; exact (bw_ HB)⟩; clear BK987 BK991 HB hq_; have BK987 := n0_; have BK991 := n1_; have HB := n2_; clear n0_ n1_ n2_))))
                           replace BK987 := Aside0.mk (blk_drew BK987.out)
                           replace BK991 := Aside0.mk (blk_drew BK991.out)
                           replace HB := Aside0.mk (below_drew1 HB.out)
                           have p997 : 0 ≤ (x7_3 : Int) := of_decide_eq_true (by first | (with_reducible assumption) | assumption)
                           have q997 : x7_3 < (l0.length : Int) := of_decide_eq_true (by first | (with_reducible assumption) | assumption)
                           obtain ⟨ad997, e997, hx997_0⟩ := Kd.at_int HR0.out x7_3 p997 q997
                           have hw997_0 := hx997_0
                           obtain rfl : ad992 = ad997 := (by injection e997)
                           replace hx997_0 := (HB.out.cell (World.block_lt_of_cell? w _ hx997_0)).trans hx997_0
                           replace p997 := eq_true p997
                           replace q997 := eq_true q997
                           refine start_ (n := 19) (S := fun w' => w'.cell? ⟨gb991, 0, none⟩ = some (.int .i64 x992000_3) ∧ w'.cell? ⟨gb991, 1, none⟩ = some (.int .i64 x992001_3) ∧ w'.cell? (ad992.add (x7_3).toNat) = some (.int .i64 (rd l0 x7_3))) (ds := []) #[false, false, false, false, false, false, false, false, false, false, false, false, false, false, false, false, false, false, false] (by kernel_rfl) rfl rfl ⟨(blk_cell BK991.out 0).trans rfl, (blk_cell BK991.out 1).trans rfl, ((HB.out.cell (World.block_lt_of_cell? w _ hw997_0)).trans hw997_0)⟩ (fun hHeld => ?_); refine with_tabW withyref01_Of.tab19 withyref01_Of.bits19 (fun HT_ HW_ => ?_)
                           generalize wr.drew = w30 at BK987 BK991 HB hx997_0 hHeld ⊢
                           refine pure_ (i := 0) (N := some 60) (v := ?_) (a' := ?_) #[true, false, false, false, false, false, false, false, false, false, false, false, false, false, false, false, false, false, false] rfl rfl (any_of HT_.out (by kernel_rfl)) (fun _ _ _ h => h) (Or.inl ⟨by rfl, ?_⟩) ?_ ?_
                           rotate_left
                           · intro w'
                             go_simp
                             with_reducible rfl
                           rotate_left
                           · simp only [Act.put, List.setIfInBounds_toArray, List.set_cons_zero, List.set_cons_succ, i64_w, i32_w]
                             rfl
                           refine pure_ (i := 1) (N := some 61) (v := ?_) (a' := ?_) #[true, true, false, false, false, false, false, false, false, false, false, false, false, false, false, false, false, false, false] rfl rfl (any_of HT_.out (by kernel_rfl)) (fun _ _ _ h => h) (Or.inl ⟨by rfl, ?_⟩) ?_ ?_
                           rotate_left
                           · intro w'
                             go_simp
                             with_reducible rfl
                           rotate_left
                           · simp only [Act.put, List.setIfInBounds_toArray, List.set_cons_zero, List.set_cons_succ, i64_w, i32_w]
                             rfl
                           refine pure_ (i := 2) (N := some 62) (v := ?_) (a' := ?_) #[true, true, true, false, false, false, false, false, false, false, false, false, false, false, false, false, false, false, false] rfl rfl (any_of HT_.out (by kernel_rfl)) (fun _ _ _ h => h) (Or.inl ⟨by rfl, ?_⟩) ?_ ?_
                           rotate_left
                           · intro w'
                             go_simp
                             with_reducible rfl
                           rotate_left
                           · simp only [Act.put, List.setIfInBounds_toArray, List.set_cons_zero, List.set_cons_succ, i64_w, i32_w]
                             rfl
                           refine pure_ (i := 4) (N := some 64) (v := ?_) (a' := ?_) #[true, true, true, false, true, false, false, false, false, false, false, false, false, false, false, false, false, false, false] rfl rfl (any_of HT_.out (by kernel_rfl)) (fun _ _ _ h => h) (Or.inl ⟨by rfl, ?_⟩) ?_ ?_
                           rotate_left
                           · intro w'
                             go_simp
                             with_reducible rfl
                           rotate_left
                           · simp only [Act.put, List.setIfInBounds_toArray, List.set_cons_zero, List.set_cons_succ, i64_w, i32_w]
                             rfl
                           refine pure_ (i := 7) (N := some 67) (v := ?_) (a' := ?_) #[true, true, true, false, true, false, false, true, false, false, false, false, false, false, false, false, false, false, false] rfl rfl (any_of HT_.out (by kernel_rfl)) (fun _ _ _ h => h) (Or.inl ⟨by rfl, ?_⟩) ?_ ?_
                           rotate_left
                           · intro w'
                             go_simp
                             with_reducible rfl
                           rotate_left
                           · simp only [Act.put, List.setIfInBounds_toArray, List.set_cons_zero, List.set_cons_succ, i64_w, i32_w]
                             rfl
                           refine pure_ (i := 10) (N := some 70) (v := ?_) (a' := ?_) #[true, true, true, false, true, false, false, true, false, false, true, false, false, false, false, false, false, false, false] rfl rfl (any_of HT_.out (by kernel_rfl)) (fun _ _ _ h => h) (Or.inl ⟨by rfl, ?_⟩) ?_ ?_
                           rotate_left
                           · intro w'
                             go_simp
                             with_reducible rfl
                           rotate_left
                           · simp only [Act.put, List.setIfInBounds_toArray, List.set_cons_zero, List.set_cons_succ, i64_w, i32_w]
                             rfl
                           refine take_ (i := 3) (N := some 63) (v := ?_) (a' := ?_) #[true, true, true, true, true, false, false, true, false, false, true, false, false, false, false, false, false, false, false] rfl rfl (take_ofW HT_.out HW_.out (by kernel_rfl)) (fun _ _ _ h => h) (Or.inl ⟨by rfl, ?_⟩) hHeld ?_ ?_
                           rotate_left
                           · rintro w' ⟨s0, s1, s2⟩
                             go_simp
                             with_reducible rfl
                           rotate_left
                           · simp only [Act.put, List.setIfInBounds_toArray, List.set_cons_zero, List.set_cons_succ, i64_w, i32_w]
                             rfl
                           refine take_ (i := 5) (N := some 65) (v := ?_) (a' := ?_) #[true, true, true, true, true, true, false, true, false, false, true, false, false, false, false, false, false, false, false] rfl rfl (take_ofW HT_.out HW_.out (by kernel_rfl)) (fun _ _ _ h => h) (Or.inl ⟨by rfl, ?_⟩) hHeld ?_ ?_
                           rotate_left
                           · rintro w' ⟨s0, s1, s2⟩
                             go_simp
                             with_reducible rfl
                           rotate_left
                           · simp only [Act.put, List.setIfInBounds_toArray, List.set_cons_zero, List.set_cons_succ, i64_w, i32_w]
                             rfl
                           refine pure_ (i := 6) (N := some 66) (v := ?_) (a' := ?_) #[true, true, true, true, true, true, true, true, false, false, true, false, false, false, false, false, false, false, false] rfl rfl (any_of HT_.out (by kernel_rfl)) (fun _ _ _ h => h) (Or.inl ⟨by rfl, ?_⟩) ?_ ?_
                           rotate_left
                           · intro w'
                             go_simp
                             with_reducible rfl
                           rotate_left
                           · simp only [Act.put, List.setIfInBounds_toArray, List.set_cons_zero, List.set_cons_succ, i64_w, i32_w]
                             rfl
                           refine take_ (i := 8) (N := some 68) (v := ?_) (a' := ?_) #[true, true, true, true, true, true, true, true, true, false, true, false, false, false, false, false, false, false, false] rfl rfl (take_ofW HT_.out HW_.out (by kernel_rfl)) (fun _ _ _ h => h) (Or.inl ⟨by rfl, ?_⟩) hHeld ?_ ?_
                           rotate_left
                           · rintro w' ⟨s0, s1, s2⟩
                             go_simp
                             with_reducible rfl
                           rotate_left
                           · simp only [Act.put, List.setIfInBounds_toArray, List.set_cons_zero, List.set_cons_succ, i64_w, i32_w]
                             rfl
                           refine pure_ (i := 9) (N := some 69) (v := ?_) (a' := ?_) #[true, true, true, true, true, true, true, true, true, true, true, false, false, false, false, false, false, false, false] rfl rfl (any_of HT_.out (by kernel_rfl)) (fun _ _ _ h => h) (Or.inl ⟨by rfl, ?_⟩) ?_ ?_
                           rotate_left
                           · intro w'
                             go_simp
                             with_reducible rfl
                           rotate_left
                           · simp only [Act.put, List.setIfInBounds_toArray, List.set_cons_zero, List.set_cons_succ, i64_w, i32_w]
                             rfl
                           refine take_ (i := 11) (N := some 71) (v := ?_) (a' := ?_) #[true, true, true, true, true, true, true, true, true, true, true, true, false, false, false, false, false, false, false] rfl rfl (take_ofW HT_.out HW_.out (by kernel_rfl)) (fun _ _ _ h => h) (Or.inl ⟨by rfl, ?_⟩) hHeld ?_ ?_
                           rotate_left
                           · rintro w' ⟨s0, s1, s2⟩
                             go_simp
                             with_reducible rfl
                           rotate_left
                           · simp only [Act.put, List.setIfInBounds_toArray, List.set_cons_zero, List.set_cons_succ, i64_w, i32_w]
                             rfl
                           refine join_ (σ := Nat) 2 #[true, true, true, true, true, true, true, true, true, true, true, true, true, true, true, true, true, false, false] (fun s_ => [(72, .tuple #[.agg #[.int .i64 t998, .int .i64 t999], .int .i64 t1000]), (8, .pointer (some ⟨s_, 0, none⟩)), (59, .tuple #[.agg #[.int .i64 t998, .int .i64 t999], .int .i64 t1000]), (73, .agg #[.int .i64 t998, .int .i64 t999]), (74, .int .i64 t1000)]) (fun s_ w' => (w'.cell? ⟨gb991, 0, none⟩ = some (.int .i64 x992000_3) ∧ w'.cell? ⟨gb991, 1, none⟩ = some (.int .i64 x992001_3) ∧ w'.cell? (ad992.add (x7_3).toNat) = some (.int .i64 (rd l0 x7_3))) ∧ (w'.heap[s_]? = some (.cells #[.int .i64 0, .int .i64 0] 23 (0, 0))) ∧ (w'.heap[gb987]? = some (.cells #[.int .i64 x988000_3, .int .i64 x988001_3] 23 (0, 0))) ∧ (w'.heap[gb991]? = some (.cells #[.int .i64 x992000_3, .int .i64 x992001_3] 23 (0, 0))) ∧ (w.heap.size ≤ s_) ∧ (w.heap.size ≤ s_) ∧ (gb987 ≠ s_) ∧ (s_ ≠ gb987) ∧ (gb991 ≠ s_) ∧ (s_ ≠ gb991) ∧ (Below w.heap.size w w')) ?_ ?_
                           rotate_left
                           · intro hCont
                             refine two_ (i := 12) (j := 16) (Ni := some 72) (Nj := some 8) #[true, true, true, true, true, true, true, true, true, true, true, true, true, false, false, false, false, false, false] #[true, true, true, true, true, true, true, true, true, true, true, true, false, false, false, false, true, false, false] rfl rfl rfl rfl (two_of HT_.out (by kernel_rfl)) (by decide) (by decide) (fun K hK => ?_) (fun K hK => ?_)
                             · skip
                               refine gos_ Try.func96 #[.int .i64 (wrap64 ((wrap64 ((rd l0 x7_3) * x992000_3)) + x992001_3)), .int .i64 x992000_3] ?_
                               with_reducible refine (withyref01_low.calls k3 (wrap64 ((wrap64 ((rd l0 x7_3) * x992000_3)) + x992001_3)) x992000_3 t998 t999 t1000 _ A28.out).mono ?_
                               rintro e w31 ⟨rfl, hb⟩
                               refine ⟨_, rfl, ?_⟩
                               replace BK987 := bkb_ BK987 hb
                               replace BK991 := bkb_ BK991 hb
                               replace HB := bws_ HB hb
                               (try clear hb)
                               (try clear hb2)
                               (try clear hk)
                               (try clear hi)
                               refine hK.out _ _ ⟨(blk_cell BK991.out 0).trans rfl, (blk_cell BK991.out 1).trans rfl, ((HB.out.cell (World.block_lt_of_cell? w _ hw997_0)).trans hw997_0)⟩ (fun hHeld => ?_)
                               clear hK K
                               refine norm_ (a' := ?_) ?_ ?_
                               rotate_left
                               · show Act.put _ (some 72) _ = _
                                 simp only [Act.put, List.setIfInBounds_toArray, List.set_cons_zero, List.set_cons_succ, i64_w, i32_w]
                                 rfl
                               refine pure_ (i := 13) (N := some 59) (v := ?_) (a' := ?_) #[true, true, true, true, true, true, true, true, true, true, true, true, true, true, false, false, false, false, false] rfl rfl (any_of HT_.out (by kernel_rfl)) (fun _ _ _ h => h) (Or.inl ⟨by rfl, ?_⟩) ?_ ?_
                               rotate_left
                               · intro w'
                                 go_simp
                                 with_reducible rfl
                               rotate_left
                               · simp only [Act.put, List.setIfInBounds_toArray, List.set_cons_zero, List.set_cons_succ, i64_w, i32_w]
                                 rfl
                               refine pure_ (i := 14) (N := some 73) (v := ?_) (a' := ?_) #[true, true, true, true, true, true, true, true, true, true, true, true, true, true, true, false, false, false, false] rfl rfl (any_of HT_.out (by kernel_rfl)) (fun _ _ _ h => h) (Or.inl ⟨by rfl, ?_⟩) ?_ ?_
                               rotate_left
                               · intro w'
                                 go_simp
                                 with_reducible rfl
                               rotate_left
                               · simp only [Act.put, List.setIfInBounds_toArray, List.set_cons_zero, List.set_cons_succ, i64_w, i32_w]
                                 rfl
                               refine pure_ (i := 15) (N := some 74) (v := ?_) (a' := ?_) #[true, true, true, true, true, true, true, true, true, true, true, true, true, true, true, true, false, false, false] rfl rfl (any_of HT_.out (by kernel_rfl)) (fun _ _ _ h => h) (Or.inl ⟨by rfl, ?_⟩) ?_ ?_
                               rotate_left
                               · intro w'
                                 go_simp
                                 with_reducible rfl
                               rotate_left
                               · simp only [Act.put, List.setIfInBounds_toArray, List.set_cons_zero, List.set_cons_succ, i64_w, i32_w]
                                 rfl
                               refine one_ (i := 16) (N := some 8) #[true, true, true, true, true, true, true, true, true, true, true, true, true, true, true, true, true, false, false] rfl rfl (one_of HT_.out (by kernel_rfl)) (by decide) (fun K hK => ?_)
                               refine box_step ?hg (N := 8) ?hd (cs := #[.int .i64 0, .int .i64 0]) (t := 23) ?hr ?_; (case hd => rfl); (case hg => rfl); (case hr => first | (go_simp; done) | (go_simp; rfl))
                               intro gb1001 hg w32 hbox hb
                               have BK1001 := Aside0.mk hbox
                               have GW1001 := bwg_ HB hg
                               have GE1001 := bwg_ HB hg
                               replace HB := bws_ HB hb
                               have NB987_1001 := bkl_ BK987 hg
                               have NB1001_987 := bkr_ BK987 hg
                               replace BK987 := bkb_ BK987 hb
                               have NB991_1001 := bkl_ BK991 hg
                               have NB1001_991 := bkr_ BK991 hg
                               replace BK991 := bkb_ BK991 hb
                               clear hb hbox hg
                               refine hK.out _ _ ⟨(blk_cell BK991.out 0).trans rfl, (blk_cell BK991.out 1).trans rfl, ((HB.out.cell (World.block_lt_of_cell? w _ hw997_0)).trans hw997_0)⟩ (fun hHeld => ?_)
                               clear hK K
                               refine norm_ (a' := ?_) ?_ ?_
                               rotate_left
                               · show Act.put _ (some 8) _ = _
                                 simp only [Act.put, List.setIfInBounds_toArray, List.set_cons_zero, List.set_cons_succ, i64_w, i32_w]
                                 rfl
                               exact norm_ (by simp only [putAll, Act.put, List.setIfInBounds_toArray, List.set_cons_zero, List.set_cons_succ]) (hCont (gb1001) _ ⟨hHeld, (bk_ BK1001), (bk_ BK987), (bk_ BK991), GW1001.out, GE1001.out, NB987_1001.out, NB1001_987.out, NB991_1001.out, NB1001_991.out, (bw_ HB)⟩)
                             · skip
                               refine box_step ?hg (N := 8) ?hd (cs := #[.int .i64 0, .int .i64 0]) (t := 23) ?hr ?_; (case hd => rfl); (case hg => rfl); (case hr => first | (go_simp; done) | (go_simp; rfl))
                               intro gb1001 hg w31 hbox hb
                               have BK1001 := Aside0.mk hbox
                               have GW1001 := bwg_ HB hg
                               have GE1001 := bwg_ HB hg
                               replace HB := bws_ HB hb
                               have NB987_1001 := bkl_ BK987 hg
                               have NB1001_987 := bkr_ BK987 hg
                               replace BK987 := bkb_ BK987 hb
                               have NB991_1001 := bkl_ BK991 hg
                               have NB1001_991 := bkr_ BK991 hg
                               replace BK991 := bkb_ BK991 hb
                               clear hb hbox hg
                               refine hK.out _ _ ⟨(blk_cell BK991.out 0).trans rfl, (blk_cell BK991.out 1).trans rfl, ((HB.out.cell (World.block_lt_of_cell? w _ hw997_0)).trans hw997_0)⟩ (fun hHeld => ?_)
                               clear hK K
                               refine norm_ (a' := ?_) ?_ ?_
                               rotate_left
                               · show Act.put _ (some 8) _ = _
                                 simp only [Act.put, List.setIfInBounds_toArray, List.set_cons_zero, List.set_cons_succ, i64_w, i32_w]
                                 rfl
                               refine one_ (i := 12) (N := some 72) #[true, true, true, true, true, true, true, true, true, true, true, true, true, false, false, false, true, false, false] rfl rfl (one_of HT_.out (by kernel_rfl)) (by decide) (fun K hK => ?_)
                               refine gos_ Try.func96 #[.int .i64 (wrap64 ((wrap64 ((rd l0 x7_3) * x992000_3)) + x992001_3)), .int .i64 x992000_3] ?_
                               with_reducible refine (withyref01_low.calls k3 (wrap64 ((wrap64 ((rd l0 x7_3) * x992000_3)) + x992001_3)) x992000_3 t998 t999 t1000 _ A28.out).mono ?_
                               rintro e w32 ⟨rfl, hb⟩
                               refine ⟨_, rfl, ?_⟩
                               replace BK987 := bkb_ BK987 hb
                               replace BK991 := bkb_ BK991 hb
                               replace BK1001 := bkb_ BK1001 hb
                               replace HB := bws_ HB hb
                               (try clear hb)
                               (try clear hb2)
                               (try clear hk)
                               (try clear hi)
                               refine hK.out _ _ ⟨(blk_cell BK991.out 0).trans rfl, (blk_cell BK991.out 1).trans rfl, ((HB.out.cell (World.block_lt_of_cell? w _ hw997_0)).trans hw997_0)⟩ (fun hHeld => ?_)
                               clear hK K
                               refine norm_ (a' := ?_) ?_ ?_
                               rotate_left
                               · show Act.put _ (some 72) _ = _
                                 simp only [Act.put, List.setIfInBounds_toArray, List.set_cons_zero, List.set_cons_succ, i64_w, i32_w]
                                 rfl
                               refine pure_ (i := 13) (N := some 59) (v := ?_) (a' := ?_) #[true, true, true, true, true, true, true, true, true, true, true, true, true, true, false, false, true, false, false] rfl rfl (any_of HT_.out (by kernel_rfl)) (fun _ _ _ h => h) (Or.inl ⟨by rfl, ?_⟩) ?_ ?_
                               rotate_left
                               · intro w'
                                 go_simp
                                 with_reducible rfl
                               rotate_left
                               · simp only [Act.put, List.setIfInBounds_toArray, List.set_cons_zero, List.set_cons_succ, i64_w, i32_w]
                                 rfl
                               refine pure_ (i := 14) (N := some 73) (v := ?_) (a' := ?_) #[true, true, true, true, true, true, true, true, true, true, true, true, true, true, true, false, true, false, false] rfl rfl (any_of HT_.out (by kernel_rfl)) (fun _ _ _ h => h) (Or.inl ⟨by rfl, ?_⟩) ?_ ?_
                               rotate_left
                               · intro w'
                                 go_simp
                                 with_reducible rfl
                               rotate_left
                               · simp only [Act.put, List.setIfInBounds_toArray, List.set_cons_zero, List.set_cons_succ, i64_w, i32_w]
                                 rfl
                               refine pure_ (i := 15) (N := some 74) (v := ?_) (a' := ?_) #[true, true, true, true, true, true, true, true, true, true, true, true, true, true, true, true, true, false, false] rfl rfl (any_of HT_.out (by kernel_rfl)) (fun _ _ _ h => h) (Or.inl ⟨by rfl, ?_⟩) ?_ ?_
                               rotate_left
                               · intro w'
                                 go_simp
                                 with_reducible rfl
                               rotate_left
                               · simp only [Act.put, List.setIfInBounds_toArray, List.set_cons_zero, List.set_cons_succ, i64_w, i32_w]
                                 rfl
                               exact norm_ (by simp only [putAll, Act.put, List.setIfInBounds_toArray, List.set_cons_zero, List.set_cons_succ]) (hCont (gb1001) _ ⟨hHeld, (bk_ BK1001), (bk_ BK987), (bk_ BK991), GW1001.out, GE1001.out, NB987_1001.out, NB1001_987.out, NB991_1001.out, NB1001_991.out, (bw_ HB)⟩)
                           rintro gb1001 w33 ⟨hS_, h0_, h1_, h2_, h3_, h4_, h5_, h6_, h7_, h8_, h9_⟩
                           have n0_ : Aside0 (w33.heap[gb1001]? = some (.cells #[.int .i64 0, .int .i64 0] 23 (0, 0))) := ⟨h0_⟩
                           have n1_ : Aside0 (w33.heap[gb987]? = some (.cells #[.int .i64 x988000_3, .int .i64 x988001_3] 23 (0, 0))) := ⟨h1_⟩
                           have n2_ : Aside0 (w33.heap[gb991]? = some (.cells #[.int .i64 x992000_3, .int .i64 x992001_3] 23 (0, 0))) := ⟨h2_⟩
                           have n3_ : Aside0 (w.heap.size ≤ gb1001) := ⟨h3_⟩
                           have n4_ : Aside0 (w.heap.size ≤ gb1001) := ⟨h4_⟩
                           have n5_ : Aside0 (gb987 ≠ gb1001) := ⟨h5_⟩
                           have n6_ : Aside0 (gb1001 ≠ gb987) := ⟨h6_⟩
                           have n7_ : Aside0 (gb991 ≠ gb1001) := ⟨h7_⟩
                           have n8_ : Aside0 (gb1001 ≠ gb991) := ⟨h8_⟩
                           have n9_ : Aside0 (Below w.heap.size w w33) := ⟨h9_⟩
                           clear BK987
                           clear BK991
                           clear HB
                           clear h0_ h1_ h2_ h3_ h4_ h5_ h6_ h7_ h8_ h9_
                           have BK1001 := n0_
                           have BK987 := n1_
                           have BK991 := n2_
                           have GW1001 := n3_
                           have GE1001 := n4_
                           have NB987_1001 := n5_
                           have NB1001_987 := n6_
                           have NB991_1001 := n7_
                           have NB1001_991 := n8_
                           have HB := n9_
                           clear n0_ n1_ n2_ n3_ n4_ n5_ n6_ n7_ n8_ n9_
                           have hHeld : w33.cell? ⟨gb991, 0, none⟩ = some (.int .i64 x992000_3) ∧ w33.cell? ⟨gb991, 1, none⟩ = some (.int .i64 x992001_3) ∧ w33.cell? (ad992.add (x7_3).toNat) = some (.int .i64 (rd l0 x7_3)) := hS_
                           refine norm_ (a' := ?_) ?_ ?_
                           rotate_left
                           · simp only [putAll, Act.put, List.setIfInBounds_toArray, List.set_cons_zero, List.set_cons_succ]
                             rfl
                           refine one_ (i := 17) (N := none) #[true, true, true, true, true, true, true, true, true, true, true, true, true, true, true, true, true, true, false] rfl rfl (one_of HT_.out (by kernel_rfl)) (by decide) (fun K hK => ?_)
                           have hs34 : w33.cell? ⟨gb1001, 0, none⟩ = some (.int .i64 0) := (blk_cell BK1001.out 0).trans rfl
                           have hfs34 := blk_frozen BK1001.out 0
                           have hns34_0 := NB987_1001.out
                           have hns34_1 := NB991_1001.out
                           have hms34_0 := NB1001_987.out
                           have hms34_1 := NB1001_991.out
                           have hs35 : w33.cell? ⟨gb1001, 1, none⟩ = some (.int .i64 0) := (blk_cell BK1001.out 1).trans rfl
                           have hfs35 := blk_frozen BK1001.out 1
                           have hns35_0 := NB987_1001.out
                           have hns35_1 := NB991_1001.out
                           have hms35_0 := NB1001_987.out
                           have hms35_1 := NB1001_991.out
                           refine skip_ (w1 := ?_) (by rfl) rfl ?_ ?_
                           rotate_left
                           · go_simp
                             rfl
                           refine hK.out _ _ ⟨((cell_far (p := ⟨gb1001, _, none⟩) NB991_1001.out _).trans (((cell_far (p := ⟨gb1001, _, none⟩) NB991_1001.out _).trans (hHeld.1)))), ((cell_far (p := ⟨gb1001, _, none⟩) NB991_1001.out _).trans (((cell_far (p := ⟨gb1001, _, none⟩) NB991_1001.out _).trans (hHeld.2.1)))), ((cell_far (p := ⟨gb1001, _, none⟩) (by first | exact Nat.ne_of_lt (Nat.lt_of_lt_of_le (by have := World.block_lt_of_cell? _ _ hw997_0; first | rwa [add_block] at this | exact this) GW1001.out) | (rw [add_block]; exact Nat.ne_of_lt (Nat.lt_of_lt_of_le (by have := World.block_lt_of_cell? _ _ hw997_0; first | rwa [add_block] at this | exact this) GW1001.out)) | (show (Addr.add _ _).block ≠ _; rw [add_block]; exact Nat.ne_of_lt (Nat.lt_of_lt_of_le (by have := World.block_lt_of_cell? _ _ hw997_0; first | rwa [add_block] at this | exact this) GW1001.out)) | (dsimp only; exact Nat.ne_of_lt (Nat.lt_of_lt_of_le (by have := World.block_lt_of_cell? _ _ hw997_0; first | rwa [add_block] at this | exact this) GW1001.out))) _).trans (((cell_far (p := ⟨gb1001, _, none⟩) (by first | exact Nat.ne_of_lt (Nat.lt_of_lt_of_le (by have := World.block_lt_of_cell? _ _ hw997_0; first | rwa [add_block] at this | exact this) GW1001.out) | (rw [add_block]; exact Nat.ne_of_lt (Nat.lt_of_lt_of_le (by have := World.block_lt_of_cell? _ _ hw997_0; first | rwa [add_block] at this | exact this) GW1001.out)) | (show (Addr.add _ _).block ≠ _; rw [add_block]; exact Nat.ne_of_lt (Nat.lt_of_lt_of_le (by have := World.block_lt_of_cell? _ _ hw997_0; first | rwa [add_block] at this | exact this) GW1001.out)) | (dsimp only; exact Nat.ne_of_lt (Nat.lt_of_lt_of_le (by have := World.block_lt_of_cell? _ _ hw997_0; first | rwa [add_block] at this | exact this) GW1001.out))) _).trans (hHeld.2.2))))⟩ (fun hHeld => ?_)
                           clear hK K
                           refine pure_ (i := 18) (N := some 9) (v := ?_) (a' := ?_) #[true, true, true, true, true, true, true, true, true, true, true, true, true, true, true, true, true, true, true] rfl rfl (any_of HT_.out (by kernel_rfl)) (fun _ _ _ h => h) (Or.inl ⟨by rfl, ?_⟩) ?_ ?_
                           rotate_left
                           · intro w'
                             go_simp
                             with_reducible rfl
                           rotate_left
                           · simp only [Act.put, List.setIfInBounds_toArray, List.set_cons_zero, List.set_cons_succ, i64_w, i32_w]
                             rfl
                           refine done_ (done_of HT_.out (by kernel_rfl)) ?_
                           have hnb36 := NB1001_987.out
                           have hnc36 := NB987_1001.out
                           have hnb37 := NB1001_991.out
                           have hnc37 := NB991_1001.out
                           obtain ⟨hcz38_0, hcz38_1, hfz38_0, hfz38_1⟩ := bc2_ BK1001
                           have hnb39 := NB991_987.out
                           have hnc39 := NB987_991.out
                           obtain ⟨hcz40_0, hcz40_1, hfz40_0, hfz40_1⟩ := bc2_ BK991
                           try go_wp2
                           go_roundg k3
                           case measure => have := HK1.out; have := HJ9.out; have := HK3.out; omega
                           case rel => exact ⟨(wrap64 (x7_3 - 1)), (x988000_3), (x988001_3), (t998), (t999), (by first | rfl | (simp; done) | (simp [*]; done)), H', ⟨by have := HK1.out; have := HJ9.out; have := HK3.out; omega⟩, ⟨by refine bf_ ?_ NB987_991; refine bf_ ?_ NB987_991; refine bf_ ?_ NB987_1001; refine bf_ ?_ NB987_1001; exact bk_ BK987⟩, ⟨by refine bp_ (cs := #[.int .i64 t998, .int .i64 x992001_3]) ?_ 1; refine bp_ (cs := #[.int .i64 x992000_3, .int .i64 x992001_3]) ?_ 0; refine bf_ ?_ NB991_1001; refine bf_ ?_ NB991_1001; exact bk_ BK991⟩, ⟨bw_ HB⟩⟩
                         · rw [if_neg c29] at H
                           have c29b0 : (t1000 == 0) = false := beq_eq_false_iff_ne.mpr c29
                           have c29b1 : (t1000 != 0) = true := bne_iff_ne.mpr c29
                           simp only [Option.some.injEq, Prod.mk.injEq] at H
                           obtain ⟨rfl, rfl, rfl⟩ := H
                           have p992 : 0 ≤ (x7_3 : Int) := of_decide_eq_true (by first | (with_reducible assumption) | assumption)
                           have q992 : x7_3 < (l0.length : Int) := of_decide_eq_true (by first | (with_reducible assumption) | assumption)
                           obtain ⟨ad992, e992, hx992_0⟩ := Kd.at_int HR0.out x7_3 p992 q992
                           cases e992
                           replace hx992_0 := (HB.out.cell (World.block_lt_of_cell? w _ hx992_0)).trans hx992_0
                           replace p992 := eq_true p992
                           replace q992 := eq_true q992
                           try go_wp2_with (first | ((with_reducible refine gate_callee (f := 42) rfl ?_); refine gla_ (some 48) Try.func42 #[.int .i64 (rd l0 x7_3), .int .i64 (-1000000000), .int .i64 1000000000] ?_; (with_reducible refine (withyref01_In.calls (rd l0 x7_3) (-1000000000) 1000000000 true _ A21.out).mono ?_); rintro e w' ⟨rfl, ⟨nd, rfl⟩⟩; refine ⟨_, rfl, ?_⟩; (try (rw [drewN_self wr]; generalize hq_ : World.drewN wr _ = wr; have n0_ : Aside0 (wr.heap[gb987]? = some (.cells #[.int .i64 x988000_3, .int .i64 x988001_3] 23 (0, 0))) := ⟨by rw [← hq_]; exact (bk_ BK987)⟩; have n1_ : Aside0 (wr.heap[gb991]? = some (.cells #[.int .i64 x992000_3, .int .i64 x992001_3] 23 (0, 0))) := ⟨by rw [← hq_]; exact (bk_ BK991)⟩; have n2_ : Aside0 (Below w.heap.size w wr) := ⟨by rw [← hq_]; exact (bw_ HB)⟩; clear BK987 BK991 HB hq_; have BK987 := n0_; have BK991 := n1_; have HB := n2_; clear n0_ n1_ n2_))))
                           replace BK987 := Aside0.mk (blk_drew BK987.out)
                           replace BK991 := Aside0.mk (blk_drew BK991.out)
                           replace HB := Aside0.mk (below_drew1 HB.out)
                           have p997 : 0 ≤ (x7_3 : Int) := of_decide_eq_true (by first | (with_reducible assumption) | assumption)
                           have q997 : x7_3 < (l0.length : Int) := of_decide_eq_true (by first | (with_reducible assumption) | assumption)
                           obtain ⟨ad997, e997, hx997_0⟩ := Kd.at_int HR0.out x7_3 p997 q997
                           have hw997_0 := hx997_0
                           obtain rfl : ad992 = ad997 := (by injection e997)
                           replace hx997_0 := (HB.out.cell (World.block_lt_of_cell? w _ hx997_0)).trans hx997_0
                           replace p997 := eq_true p997
                           replace q997 := eq_true q997
                           refine start_ (n := 19) (S := fun w' => w'.cell? ⟨gb991, 0, none⟩ = some (.int .i64 x992000_3) ∧ w'.cell? ⟨gb991, 1, none⟩ = some (.int .i64 x992001_3) ∧ w'.cell? (ad992.add (x7_3).toNat) = some (.int .i64 (rd l0 x7_3))) (ds := []) #[false, false, false, false, false, false, false, false, false, false, false, false, false, false, false, false, false, false, false] (by kernel_rfl) rfl rfl ⟨(blk_cell BK991.out 0).trans rfl, (blk_cell BK991.out 1).trans rfl, ((HB.out.cell (World.block_lt_of_cell? w _ hw997_0)).trans hw997_0)⟩ (fun hHeld => ?_); refine with_tabW withyref01_Of.tab19 withyref01_Of.bits19 (fun HT_ HW_ => ?_)
                           generalize wr.drew = w41 at BK987 BK991 HB hx997_0 hHeld ⊢
                           refine pure_ (i := 0) (N := some 60) (v := ?_) (a' := ?_) #[true, false, false, false, false, false, false, false, false, false, false, false, false, false, false, false, false, false, false] rfl rfl (any_of HT_.out (by kernel_rfl)) (fun _ _ _ h => h) (Or.inl ⟨by rfl, ?_⟩) ?_ ?_
                           rotate_left
                           · intro w'
                             go_simp
                             with_reducible rfl
                           rotate_left
                           · simp only [Act.put, List.setIfInBounds_toArray, List.set_cons_zero, List.set_cons_succ, i64_w, i32_w]
                             rfl
                           refine pure_ (i := 1) (N := some 61) (v := ?_) (a' := ?_) #[true, true, false, false, false, false, false, false, false, false, false, false, false, false, false, false, false, false, false] rfl rfl (any_of HT_.out (by kernel_rfl)) (fun _ _ _ h => h) (Or.inl ⟨by rfl, ?_⟩) ?_ ?_
                           rotate_left
                           · intro w'
                             go_simp
                             with_reducible rfl
                           rotate_left
                           · simp only [Act.put, List.setIfInBounds_toArray, List.set_cons_zero, List.set_cons_succ, i64_w, i32_w]
                             rfl
                           refine pure_ (i := 2) (N := some 62) (v := ?_) (a' := ?_) #[true, true, true, false, false, false, false, false, false, false, false, false, false, false, false, false, false, false, false] rfl rfl (any_of HT_.out (by kernel_rfl)) (fun _ _ _ h => h) (Or.inl ⟨by rfl, ?_⟩) ?_ ?_
                           rotate_left
                           · intro w'
                             go_simp
                             with_reducible rfl
                           rotate_left
                           · simp only [Act.put, List.setIfInBounds_toArray, List.set_cons_zero, List.set_cons_succ, i64_w, i32_w]
                             rfl
                           refine pure_ (i := 4) (N := some 64) (v := ?_) (a' := ?_) #[true, true, true, false, true, false, false, false, false, false, false, false, false, false, false, false, false, false, false] rfl rfl (any_of HT_.out (by kernel_rfl)) (fun _ _ _ h => h) (Or.inl ⟨by rfl, ?_⟩) ?_ ?_
                           rotate_left
                           · intro w'
                             go_simp
                             with_reducible rfl
                           rotate_left
                           · simp only [Act.put, List.setIfInBounds_toArray, List.set_cons_zero, List.set_cons_succ, i64_w, i32_w]
                             rfl
                           refine pure_ (i := 7) (N := some 67) (v := ?_) (a' := ?_) #[true, true, true, false, true, false, false, true, false, false, false, false, false, false, false, false, false, false, false] rfl rfl (any_of HT_.out (by kernel_rfl)) (fun _ _ _ h => h) (Or.inl ⟨by rfl, ?_⟩) ?_ ?_
                           rotate_left
                           · intro w'
                             go_simp
                             with_reducible rfl
                           rotate_left
                           · simp only [Act.put, List.setIfInBounds_toArray, List.set_cons_zero, List.set_cons_succ, i64_w, i32_w]
                             rfl
                           refine pure_ (i := 10) (N := some 70) (v := ?_) (a' := ?_) #[true, true, true, false, true, false, false, true, false, false, true, false, false, false, false, false, false, false, false] rfl rfl (any_of HT_.out (by kernel_rfl)) (fun _ _ _ h => h) (Or.inl ⟨by rfl, ?_⟩) ?_ ?_
                           rotate_left
                           · intro w'
                             go_simp
                             with_reducible rfl
                           rotate_left
                           · simp only [Act.put, List.setIfInBounds_toArray, List.set_cons_zero, List.set_cons_succ, i64_w, i32_w]
                             rfl
                           refine take_ (i := 3) (N := some 63) (v := ?_) (a' := ?_) #[true, true, true, true, true, false, false, true, false, false, true, false, false, false, false, false, false, false, false] rfl rfl (take_ofW HT_.out HW_.out (by kernel_rfl)) (fun _ _ _ h => h) (Or.inl ⟨by rfl, ?_⟩) hHeld ?_ ?_
                           rotate_left
                           · rintro w' ⟨s0, s1, s2⟩
                             go_simp
                             with_reducible rfl
                           rotate_left
                           · simp only [Act.put, List.setIfInBounds_toArray, List.set_cons_zero, List.set_cons_succ, i64_w, i32_w]
                             rfl
                           refine take_ (i := 5) (N := some 65) (v := ?_) (a' := ?_) #[true, true, true, true, true, true, false, true, false, false, true, false, false, false, false, false, false, false, false] rfl rfl (take_ofW HT_.out HW_.out (by kernel_rfl)) (fun _ _ _ h => h) (Or.inl ⟨by rfl, ?_⟩) hHeld ?_ ?_
                           rotate_left
                           · rintro w' ⟨s0, s1, s2⟩
                             go_simp
                             with_reducible rfl
                           rotate_left
                           · simp only [Act.put, List.setIfInBounds_toArray, List.set_cons_zero, List.set_cons_succ, i64_w, i32_w]
                             rfl
                           refine pure_ (i := 6) (N := some 66) (v := ?_) (a' := ?_) #[true, true, true, true, true, true, true, true, false, false, true, false, false, false, false, false, false, false, false] rfl rfl (any_of HT_.out (by kernel_rfl)) (fun _ _ _ h => h) (Or.inl ⟨by rfl, ?_⟩) ?_ ?_
                           rotate_left
                           · intro w'
                             go_simp
                             with_reducible rfl
                           rotate_left
                           · simp only [Act.put, List.setIfInBounds_toArray, List.set_cons_zero, List.set_cons_succ, i64_w, i32_w]
                             rfl
                           refine take_ (i := 8) (N := some 68) (v := ?_) (a' := ?_) #[true, true, true, true, true, true, true, true, true, false, true, false, false, false, false, false, false, false, false] rfl rfl (take_ofW HT_.out HW_.out (by kernel_rfl)) (fun _ _ _ h => h) (Or.inl ⟨by rfl, ?_⟩) hHeld ?_ ?_
                           rotate_left
                           · rintro w' ⟨s0, s1, s2⟩
                             go_simp
                             with_reducible rfl
                           rotate_left
                           · simp only [Act.put, List.setIfInBounds_toArray, List.set_cons_zero, List.set_cons_succ, i64_w, i32_w]
                             rfl
                           refine pure_ (i := 9) (N := some 69) (v := ?_) (a' := ?_) #[true, true, true, true, true, true, true, true, true, true, true, false, false, false, false, false, false, false, false] rfl rfl (any_of HT_.out (by kernel_rfl)) (fun _ _ _ h => h) (Or.inl ⟨by rfl, ?_⟩) ?_ ?_
                           rotate_left
                           · intro w'
                             go_simp
                             with_reducible rfl
                           rotate_left
                           · simp only [Act.put, List.setIfInBounds_toArray, List.set_cons_zero, List.set_cons_succ, i64_w, i32_w]
                             rfl
                           refine take_ (i := 11) (N := some 71) (v := ?_) (a' := ?_) #[true, true, true, true, true, true, true, true, true, true, true, true, false, false, false, false, false, false, false] rfl rfl (take_ofW HT_.out HW_.out (by kernel_rfl)) (fun _ _ _ h => h) (Or.inl ⟨by rfl, ?_⟩) hHeld ?_ ?_
                           rotate_left
                           · rintro w' ⟨s0, s1, s2⟩
                             go_simp
                             with_reducible rfl
                           rotate_left
                           · simp only [Act.put, List.setIfInBounds_toArray, List.set_cons_zero, List.set_cons_succ, i64_w, i32_w]
                             rfl
                           refine join_ (σ := Nat) 2 #[true, true, true, true, true, true, true, true, true, true, true, true, true, true, true, true, true, false, false] (fun s_ => [(72, .tuple #[.agg #[.int .i64 t998, .int .i64 t999], .int .i64 t1000]), (8, .pointer (some ⟨s_, 0, none⟩)), (59, .tuple #[.agg #[.int .i64 t998, .int .i64 t999], .int .i64 t1000]), (73, .agg #[.int .i64 t998, .int .i64 t999]), (74, .int .i64 t1000)]) (fun s_ w' => (w'.cell? ⟨gb991, 0, none⟩ = some (.int .i64 x992000_3) ∧ w'.cell? ⟨gb991, 1, none⟩ = some (.int .i64 x992001_3) ∧ w'.cell? (ad992.add (x7_3).toNat) = some (.int .i64 (rd l0 x7_3))) ∧ (w'.heap[s_]? = some (.cells #[.int .i64 0, .int .i64 0] 23 (0, 0))) ∧ (w'.heap[gb987]? = some (.cells #[.int .i64 x988000_3, .int .i64 x988001_3] 23 (0, 0))) ∧ (w'.heap[gb991]? = some (.cells #[.int .i64 x992000_3, .int .i64 x992001_3] 23 (0, 0))) ∧ (w.heap.size ≤ s_) ∧ (w.heap.size ≤ s_) ∧ (gb987 ≠ s_) ∧ (s_ ≠ gb987) ∧ (gb991 ≠ s_) ∧ (s_ ≠ gb991) ∧ (Below w.heap.size w w')) ?_ ?_
                           rotate_left
                           · intro hCont
                             refine two_ (i := 12) (j := 16) (Ni := some 72) (Nj := some 8) #[true, true, true, true, true, true, true, true, true, true, true, true, true, false, false, false, false, false, false] #[true, true, true, true, true, true, true, true, true, true, true, true, false, false, false, false, true, false, false] rfl rfl rfl rfl (two_of HT_.out (by kernel_rfl)) (by decide) (by decide) (fun K hK => ?_) (fun K hK => ?_)
                             · skip
                               refine gos_ Try.func96 #[.int .i64 (wrap64 ((wrap64 ((rd l0 x7_3) * x992000_3)) + x992001_3)), .int .i64 x992000_3] ?_
                               with_reducible refine (withyref01_low.calls k3 (wrap64 ((wrap64 ((rd l0 x7_3) * x992000_3)) + x992001_3)) x992000_3 t998 t999 t1000 _ A28.out).mono ?_
                               rintro e w42 ⟨rfl, hb⟩
                               refine ⟨_, rfl, ?_⟩
                               replace BK987 := bkb_ BK987 hb
                               replace BK991 := bkb_ BK991 hb
                               replace HB := bws_ HB hb
                               (try clear hb)
                               (try clear hb2)
                               (try clear hk)
                               (try clear hi)
                               refine hK.out _ _ ⟨(blk_cell BK991.out 0).trans rfl, (blk_cell BK991.out 1).trans rfl, ((HB.out.cell (World.block_lt_of_cell? w _ hw997_0)).trans hw997_0)⟩ (fun hHeld => ?_)
                               clear hK K
                               refine norm_ (a' := ?_) ?_ ?_
                               rotate_left
                               · show Act.put _ (some 72) _ = _
                                 simp only [Act.put, List.setIfInBounds_toArray, List.set_cons_zero, List.set_cons_succ, i64_w, i32_w]
                                 rfl
                               refine pure_ (i := 13) (N := some 59) (v := ?_) (a' := ?_) #[true, true, true, true, true, true, true, true, true, true, true, true, true, true, false, false, false, false, false] rfl rfl (any_of HT_.out (by kernel_rfl)) (fun _ _ _ h => h) (Or.inl ⟨by rfl, ?_⟩) ?_ ?_
                               rotate_left
                               · intro w'
                                 go_simp
                                 with_reducible rfl
                               rotate_left
                               · simp only [Act.put, List.setIfInBounds_toArray, List.set_cons_zero, List.set_cons_succ, i64_w, i32_w]
                                 rfl
                               refine pure_ (i := 14) (N := some 73) (v := ?_) (a' := ?_) #[true, true, true, true, true, true, true, true, true, true, true, true, true, true, true, false, false, false, false] rfl rfl (any_of HT_.out (by kernel_rfl)) (fun _ _ _ h => h) (Or.inl ⟨by rfl, ?_⟩) ?_ ?_
                               rotate_left
                               · intro w'
                                 go_simp
                                 with_reducible rfl
                               rotate_left
                               · simp only [Act.put, List.setIfInBounds_toArray, List.set_cons_zero, List.set_cons_succ, i64_w, i32_w]
                                 rfl
                               refine pure_ (i := 15) (N := some 74) (v := ?_) (a' := ?_) #[true, true, true, true, true, true, true, true, true, true, true, true, true, true, true, true, false, false, false] rfl rfl (any_of HT_.out (by kernel_rfl)) (fun _ _ _ h => h) (Or.inl ⟨by rfl, ?_⟩) ?_ ?_
                               rotate_left
                               · intro w'
                                 go_simp
                                 with_reducible rfl
                               rotate_left
                               · simp only [Act.put, List.setIfInBounds_toArray, List.set_cons_zero, List.set_cons_succ, i64_w, i32_w]
                                 rfl
                               refine one_ (i := 16) (N := some 8) #[true, true, true, true, true, true, true, true, true, true, true, true, true, true, true, true, true, false, false] rfl rfl (one_of HT_.out (by kernel_rfl)) (by decide) (fun K hK => ?_)
                               refine box_step ?hg (N := 8) ?hd (cs := #[.int .i64 0, .int .i64 0]) (t := 23) ?hr ?_; (case hd => rfl); (case hg => rfl); (case hr => first | (go_simp; done) | (go_simp; rfl))
                               intro gb1001 hg w43 hbox hb
                               have BK1001 := Aside0.mk hbox
                               have GW1001 := bwg_ HB hg
                               have GE1001 := bwg_ HB hg
                               replace HB := bws_ HB hb
                               have NB987_1001 := bkl_ BK987 hg
                               have NB1001_987 := bkr_ BK987 hg
                               replace BK987 := bkb_ BK987 hb
                               have NB991_1001 := bkl_ BK991 hg
                               have NB1001_991 := bkr_ BK991 hg
                               replace BK991 := bkb_ BK991 hb
                               clear hb hbox hg
                               refine hK.out _ _ ⟨(blk_cell BK991.out 0).trans rfl, (blk_cell BK991.out 1).trans rfl, ((HB.out.cell (World.block_lt_of_cell? w _ hw997_0)).trans hw997_0)⟩ (fun hHeld => ?_)
                               clear hK K
                               refine norm_ (a' := ?_) ?_ ?_
                               rotate_left
                               · show Act.put _ (some 8) _ = _
                                 simp only [Act.put, List.setIfInBounds_toArray, List.set_cons_zero, List.set_cons_succ, i64_w, i32_w]
                                 rfl
                               exact norm_ (by simp only [putAll, Act.put, List.setIfInBounds_toArray, List.set_cons_zero, List.set_cons_succ]) (hCont (gb1001) _ ⟨hHeld, (bk_ BK1001), (bk_ BK987), (bk_ BK991), GW1001.out, GE1001.out, NB987_1001.out, NB1001_987.out, NB991_1001.out, NB1001_991.out, (bw_ HB)⟩)
                             · skip
                               refine box_step ?hg (N := 8) ?hd (cs := #[.int .i64 0, .int .i64 0]) (t := 23) ?hr ?_; (case hd => rfl); (case hg => rfl); (case hr => first | (go_simp; done) | (go_simp; rfl))
                               intro gb1001 hg w42 hbox hb
                               have BK1001 := Aside0.mk hbox
                               have GW1001 := bwg_ HB hg
                               have GE1001 := bwg_ HB hg
                               replace HB := bws_ HB hb
                               have NB987_1001 := bkl_ BK987 hg
                               have NB1001_987 := bkr_ BK987 hg
                               replace BK987 := bkb_ BK987 hb
                               have NB991_1001 := bkl_ BK991 hg
                               have NB1001_991 := bkr_ BK991 hg
                               replace BK991 := bkb_ BK991 hb
                               clear hb hbox hg
                               refine hK.out _ _ ⟨(blk_cell BK991.out 0).trans rfl, (blk_cell BK991.out 1).trans rfl, ((HB.out.cell (World.block_lt_of_cell? w _ hw997_0)).trans hw997_0)⟩ (fun hHeld => ?_)
                               clear hK K
                               refine norm_ (a' := ?_) ?_ ?_
                               rotate_left
                               · show Act.put _ (some 8) _ = _
                                 simp only [Act.put, List.setIfInBounds_toArray, List.set_cons_zero, List.set_cons_succ, i64_w, i32_w]
                                 rfl
                               refine one_ (i := 12) (N := some 72) #[true, true, true, true, true, true, true, true, true, true, true, true, true, false, false, false, true, false, false] rfl rfl (one_of HT_.out (by kernel_rfl)) (by decide) (fun K hK => ?_)
                               refine gos_ Try.func96 #[.int .i64 (wrap64 ((wrap64 ((rd l0 x7_3) * x992000_3)) + x992001_3)), .int .i64 x992000_3] ?_
                               with_reducible refine (withyref01_low.calls k3 (wrap64 ((wrap64 ((rd l0 x7_3) * x992000_3)) + x992001_3)) x992000_3 t998 t999 t1000 _ A28.out).mono ?_
                               rintro e w43 ⟨rfl, hb⟩
                               refine ⟨_, rfl, ?_⟩
                               replace BK987 := bkb_ BK987 hb
                               replace BK991 := bkb_ BK991 hb
                               replace BK1001 := bkb_ BK1001 hb
                               replace HB := bws_ HB hb
                               (try clear hb)
                               (try clear hb2)
                               (try clear hk)
                               (try clear hi)
                               refine hK.out _ _ ⟨(blk_cell BK991.out 0).trans rfl, (blk_cell BK991.out 1).trans rfl, ((HB.out.cell (World.block_lt_of_cell? w _ hw997_0)).trans hw997_0)⟩ (fun hHeld => ?_)
                               clear hK K
                               refine norm_ (a' := ?_) ?_ ?_
                               rotate_left
                               · show Act.put _ (some 72) _ = _
                                 simp only [Act.put, List.setIfInBounds_toArray, List.set_cons_zero, List.set_cons_succ, i64_w, i32_w]
                                 rfl
                               refine pure_ (i := 13) (N := some 59) (v := ?_) (a' := ?_) #[true, true, true, true, true, true, true, true, true, true, true, true, true, true, false, false, true, false, false] rfl rfl (any_of HT_.out (by kernel_rfl)) (fun _ _ _ h => h) (Or.inl ⟨by rfl, ?_⟩) ?_ ?_
                               rotate_left
                               · intro w'
                                 go_simp
                                 with_reducible rfl
                               rotate_left
                               · simp only [Act.put, List.setIfInBounds_toArray, List.set_cons_zero, List.set_cons_succ, i64_w, i32_w]
                                 rfl
                               refine pure_ (i := 14) (N := some 73) (v := ?_) (a' := ?_) #[true, true, true, true, true, true, true, true, true, true, true, true, true, true, true, false, true, false, false] rfl rfl (any_of HT_.out (by kernel_rfl)) (fun _ _ _ h => h) (Or.inl ⟨by rfl, ?_⟩) ?_ ?_
                               rotate_left
                               · intro w'
                                 go_simp
                                 with_reducible rfl
                               rotate_left
                               · simp only [Act.put, List.setIfInBounds_toArray, List.set_cons_zero, List.set_cons_succ, i64_w, i32_w]
                                 rfl
                               refine pure_ (i := 15) (N := some 74) (v := ?_) (a' := ?_) #[true, true, true, true, true, true, true, true, true, true, true, true, true, true, true, true, true, false, false] rfl rfl (any_of HT_.out (by kernel_rfl)) (fun _ _ _ h => h) (Or.inl ⟨by rfl, ?_⟩) ?_ ?_
                               rotate_left
                               · intro w'
                                 go_simp
                                 with_reducible rfl
                               rotate_left
                               · simp only [Act.put, List.setIfInBounds_toArray, List.set_cons_zero, List.set_cons_succ, i64_w, i32_w]
                                 rfl
                               exact norm_ (by simp only [putAll, Act.put, List.setIfInBounds_toArray, List.set_cons_zero, List.set_cons_succ]) (hCont (gb1001) _ ⟨hHeld, (bk_ BK1001), (bk_ BK987), (bk_ BK991), GW1001.out, GE1001.out, NB987_1001.out, NB1001_987.out, NB991_1001.out, NB1001_991.out, (bw_ HB)⟩)
                           rintro gb1001 w44 ⟨hS_, h0_, h1_, h2_, h3_, h4_, h5_, h6_, h7_, h8_, h9_⟩
                           have n0_ : Aside0 (w44.heap[gb1001]? = some (.cells #[.int .i64 0, .int .i64 0] 23 (0, 0))) := ⟨h0_⟩
                           have n1_ : Aside0 (w44.heap[gb987]? = some (.cells #[.int .i64 x988000_3, .int .i64 x988001_3] 23 (0, 0))) := ⟨h1_⟩
                           have n2_ : Aside0 (w44.heap[gb991]? = some (.cells #[.int .i64 x992000_3, .int .i64 x992001_3] 23 (0, 0))) := ⟨h2_⟩
                           have n3_ : Aside0 (w.heap.size ≤ gb1001) := ⟨h3_⟩
                           have n4_ : Aside0 (w.heap.size ≤ gb1001) := ⟨h4_⟩
                           have n5_ : Aside0 (gb987 ≠ gb1001) := ⟨h5_⟩
                           have n6_ : Aside0 (gb1001 ≠ gb987) := ⟨h6_⟩
                           have n7_ : Aside0 (gb991 ≠ gb1001) := ⟨h7_⟩
                           have n8_ : Aside0 (gb1001 ≠ gb991) := ⟨h8_⟩
                           have n9_ : Aside0 (Below w.heap.size w w44) := ⟨h9_⟩
                           clear BK987
                           clear BK991
                           clear HB
                           clear h0_ h1_ h2_ h3_ h4_ h5_ h6_ h7_ h8_ h9_
                           have BK1001 := n0_
                           have BK987 := n1_
                           have BK991 := n2_
                           have GW1001 := n3_
                           have GE1001 := n4_
                           have NB987_1001 := n5_
                           have NB1001_987 := n6_
                           have NB991_1001 := n7_
                           have NB1001_991 := n8_
                           have HB := n9_
                           clear n0_ n1_ n2_ n3_ n4_ n5_ n6_ n7_ n8_ n9_
                           have hHeld : w44.cell? ⟨gb991, 0, none⟩ = some (.int .i64 x992000_3) ∧ w44.cell? ⟨gb991, 1, none⟩ = some (.int .i64 x992001_3) ∧ w44.cell? (ad992.add (x7_3).toNat) = some (.int .i64 (rd l0 x7_3)) := hS_
                           refine norm_ (a' := ?_) ?_ ?_
                           rotate_left
                           · simp only [putAll, Act.put, List.setIfInBounds_toArray, List.set_cons_zero, List.set_cons_succ]
                             rfl
                           refine one_ (i := 17) (N := none) #[true, true, true, true, true, true, true, true, true, true, true, true, true, true, true, true, true, true, false] rfl rfl (one_of HT_.out (by kernel_rfl)) (by decide) (fun K hK => ?_)
                           have hs45 : w44.cell? ⟨gb1001, 0, none⟩ = some (.int .i64 0) := (blk_cell BK1001.out 0).trans rfl
                           have hfs45 := blk_frozen BK1001.out 0
                           have hns45_0 := NB987_1001.out
                           have hns45_1 := NB991_1001.out
                           have hms45_0 := NB1001_987.out
                           have hms45_1 := NB1001_991.out
                           have hs46 : w44.cell? ⟨gb1001, 1, none⟩ = some (.int .i64 0) := (blk_cell BK1001.out 1).trans rfl
                           have hfs46 := blk_frozen BK1001.out 1
                           have hns46_0 := NB987_1001.out
                           have hns46_1 := NB991_1001.out
                           have hms46_0 := NB1001_987.out
                           have hms46_1 := NB1001_991.out
                           refine skip_ (w1 := ?_) (by rfl) rfl ?_ ?_
                           rotate_left
                           · go_simp
                             rfl
                           refine hK.out _ _ ⟨((cell_far (p := ⟨gb1001, _, none⟩) NB991_1001.out _).trans (((cell_far (p := ⟨gb1001, _, none⟩) NB991_1001.out _).trans (hHeld.1)))), ((cell_far (p := ⟨gb1001, _, none⟩) NB991_1001.out _).trans (((cell_far (p := ⟨gb1001, _, none⟩) NB991_1001.out _).trans (hHeld.2.1)))), ((cell_far (p := ⟨gb1001, _, none⟩) (by first | exact Nat.ne_of_lt (Nat.lt_of_lt_of_le (by have := World.block_lt_of_cell? _ _ hw997_0; first | rwa [add_block] at this | exact this) GW1001.out) | (rw [add_block]; exact Nat.ne_of_lt (Nat.lt_of_lt_of_le (by have := World.block_lt_of_cell? _ _ hw997_0; first | rwa [add_block] at this | exact this) GW1001.out)) | (show (Addr.add _ _).block ≠ _; rw [add_block]; exact Nat.ne_of_lt (Nat.lt_of_lt_of_le (by have := World.block_lt_of_cell? _ _ hw997_0; first | rwa [add_block] at this | exact this) GW1001.out)) | (dsimp only; exact Nat.ne_of_lt (Nat.lt_of_lt_of_le (by have := World.block_lt_of_cell? _ _ hw997_0; first | rwa [add_block] at this | exact this) GW1001.out))) _).trans (((cell_far (p := ⟨gb1001, _, none⟩) (by first | exact Nat.ne_of_lt (Nat.lt_of_lt_of_le (by have := World.block_lt_of_cell? _ _ hw997_0; first | rwa [add_block] at this | exact this) GW1001.out) | (rw [add_block]; exact Nat.ne_of_lt (Nat.lt_of_lt_of_le (by have := World.block_lt_of_cell? _ _ hw997_0; first | rwa [add_block] at this | exact this) GW1001.out)) | (show (Addr.add _ _).block ≠ _; rw [add_block]; exact Nat.ne_of_lt (Nat.lt_of_lt_of_le (by have := World.block_lt_of_cell? _ _ hw997_0; first | rwa [add_block] at this | exact this) GW1001.out)) | (dsimp only; exact Nat.ne_of_lt (Nat.lt_of_lt_of_le (by have := World.block_lt_of_cell? _ _ hw997_0; first | rwa [add_block] at this | exact this) GW1001.out))) _).trans (hHeld.2.2))))⟩ (fun hHeld => ?_)
                           clear hK K
                           refine pure_ (i := 18) (N := some 9) (v := ?_) (a' := ?_) #[true, true, true, true, true, true, true, true, true, true, true, true, true, true, true, true, true, true, true] rfl rfl (any_of HT_.out (by kernel_rfl)) (fun _ _ _ h => h) (Or.inl ⟨by rfl, ?_⟩) ?_ ?_
                           rotate_left
                           · intro w'
                             go_simp
                             with_reducible rfl
                           rotate_left
                           · simp only [Act.put, List.setIfInBounds_toArray, List.set_cons_zero, List.set_cons_succ, i64_w, i32_w]
                             rfl
                           refine done_ (done_of HT_.out (by kernel_rfl)) ?_
                           have hnb47 := NB987_991.out
                           have hnc47 := NB991_987.out
                           have hnb48 := NB987_1001.out
                           have hnc48 := NB1001_987.out
                           obtain ⟨hcz49_0, hcz49_1, hfz49_0, hfz49_1⟩ := bc2_ BK987
                           try go_wp2
                           refine bodyPost_ret (results_ct rfl _ _ gb987 23 #[.int .i64 0, .int .i64 0] (0, 0) _ rfl (by refine bp_ (cs := #[.int .i64 0, .int .i64 x988001_3]) ?_ 1; refine bp_ (cs := #[.int .i64 x988000_3, .int .i64 x988001_3]) ?_ 0; refine bf_ ?_ NB987_1001; refine bf_ ?_ NB987_1001; exact bk_ BK987) Try.underlying23 rfl (by kernel_rfl)) rfl ?_
                           exact ⟨by first | rfl | (simp [*] <;> rfl), bw_ HB⟩
                     · replace c22 := Bool.eq_false_iff.mpr c22
                       subst c22
                       have H1 : (some (0, 0, 8)) = some (r1, r2, r3) := by rw [if_neg (show ¬ (false = true) by decide)] at H; exact H
                       clear H
                       have H := H1
                       clear H1
                       simp only [Option.some.injEq, Prod.mk.injEq] at H
                       obtain ⟨rfl, rfl, rfl⟩ := H
                       have p992 : 0 ≤ (x7_3 : Int) := of_decide_eq_true (by first | (with_reducible assumption) | assumption)
                       have q992 : x7_3 < (l0.length : Int) := of_decide_eq_true (by first | (with_reducible assumption) | assumption)
                       obtain ⟨ad992, e992, hx992_0⟩ := Kd.at_int HR0.out x7_3 p992 q992
                       cases e992
                       replace hx992_0 := (HB.out.cell (World.block_lt_of_cell? w _ hx992_0)).trans hx992_0
                       replace p992 := eq_true p992
                       replace q992 := eq_true q992
                       go_wp2_with (first | ((with_reducible refine gate_callee (f := 42) rfl ?_); refine gla_ (some 48) Try.func42 #[.int .i64 (rd l0 x7_3), .int .i64 (-1000000000), .int .i64 1000000000] ?_; (with_reducible refine (withyref01_In.calls (rd l0 x7_3) (-1000000000) 1000000000 false _ A21.out).mono ?_); rintro e w' ⟨rfl, ⟨nd, rfl⟩⟩; refine ⟨_, rfl, ?_⟩; (try (rw [drewN_self wr]; generalize hq_ : World.drewN wr _ = wr; have n0_ : Aside0 (wr.heap[gb987]? = some (.cells #[.int .i64 x988000_3, .int .i64 x988001_3] 23 (0, 0))) := ⟨by rw [← hq_]; exact (bk_ BK987)⟩; have n1_ : Aside0 (wr.heap[gb991]? = some (.cells #[.int .i64 x992000_3, .int .i64 x992001_3] 23 (0, 0))) := ⟨by rw [← hq_]; exact (bk_ BK991)⟩; have n2_ : Aside0 (Below w.heap.size w wr) := ⟨by rw [← hq_]; exact (bw_ HB)⟩; clear BK987 BK991 HB hq_; have BK987 := n0_; have BK991 := n1_; have HB := n2_; clear n0_ n1_ n2_)); have hnb50 := NB987_991.out; have hnc50 := NB991_987.out; obtain ⟨hcz51_0, hcz51_1, hfz51_0, hfz51_1⟩ := bc2_ BK987))
                       refine bodyPost_ret (results_ct rfl _ _ gb987 23 #[.int .i64 0, .int .i64 0] (0, 0) _ rfl (by refine bp_ (cs := #[.int .i64 0, .int .i64 x988001_3]) ?_ 1; refine bp_ (cs := #[.int .i64 x988000_3, .int .i64 x988001_3]) ?_ 0; exact bk_ BK987) Try.underlying23 rfl (by kernel_rfl)) rfl ?_
                       exact ⟨by first | rfl | (simp [*] <;> rfl), bw_ HB⟩
                   · rw [if_neg c20] at H
                     exact absurd H (by simp)
                 · rw [if_neg c19] at H
                   exact absurd H (by simp)
               · rw [if_neg c18] at H
                 have c18b0 : decide (0 ≤ x7_3) = false := decide_eq_false c18
                 clear c18
                 simp only [Option.some.injEq, Prod.mk.injEq] at H
                 obtain ⟨rfl, rfl, rfl⟩ := H
                 have hnb52 := NB991_987.out
                 have hnc52 := NB987_991.out
                 obtain ⟨hcz53_0, hcz53_1, hfz53_0, hfz53_1⟩ := bc2_ BK991
                 obtain ⟨hcz54_0, hcz54_1, hfz54_0, hfz54_1⟩ := bc2_ BK987
                 go_wp2
                 refine bodyPost_ret (results_ct rfl _ _ gb987 23 #[.int .i64 x992000_3, .int .i64 x992001_3] (0, 0) _ rfl (by refine bp_ (cs := #[.int .i64 x992000_3, .int .i64 x988001_3]) ?_ 1; refine bp_ (cs := #[.int .i64 x988000_3, .int .i64 x988001_3]) ?_ 0; exact bk_ BK987) Try.underlying23 rfl (by kernel_rfl)) rfl ?_
                 exact ⟨by first | rfl | (simp [*] <;> rfl), bw_ HB⟩
 · replace c3 := Bool.eq_false_iff.mpr c3
   subst c3
   have H1 : (some (0, 0, 4)) = some (r1, r2, r3) := by rw [if_neg (show ¬ (false = true) by decide)] at H; exact H
   clear H
   have H := H1
   clear H1
   simp only [Option.some.injEq, Prod.mk.injEq] at H
   obtain ⟨rfl, rfl, rfl⟩ := H
   as_aux_lemma =>
    go_enter Try.func66, Try.ntmps66
    go_wp2_with (first | ((with_reducible refine gate_dst (N := 2) rfl ?_); refine box_event ?hg (N := 2) ?hd (cs := #[.int .i64 0, .int .i64 0]) (t := 23) ?hr ?_; (case hd => rfl); (case hg => rfl); (case hr => first | (go_simp; done) | (go_simp; rfl)); intro gb987 hg w55 hbox hb; have BK987 := Aside0.mk hbox; have GW987 := bwg_ HB hg; have GE987 := bwg_ HB hg; replace HB := bws_ HB hb; clear hb hbox hg) | ((with_reducible refine gate_callee (f := 42) rfl ?_); refine gla_ (some 15) Try.func42 #[.int .i64 (l0.length : Int), .int .i64 1, .int .i64 50] ?_; (with_reducible refine (withyref01_In.calls (l0.length : Int) 1 50 false _ A2.out).mono ?_); rintro e w' ⟨rfl, ⟨nd, rfl⟩⟩; refine ⟨_, rfl, ?_⟩; (try (rw [drewN_self w55]; generalize hq_ : World.drewN w55 _ = w55; have n0_ : Aside0 (w55.heap[gb987]? = some (.cells #[.int .i64 0, .int .i64 0] 23 (0, 0))) := ⟨by rw [← hq_]; exact (bk_ BK987)⟩; have n1_ : Aside0 (Below w.heap.size w w55) := ⟨by rw [← hq_]; exact (bw_ HB)⟩; clear BK987 HB hq_; have BK987 := n0_; have HB := n1_; clear n0_ n1_)); obtain ⟨hcz56_0, hcz56_1, hfz56_0, hfz56_1⟩ := bc2_ BK987))
    refine bodyPost_ret (results_ct rfl _ _ gb987 23 #[.int .i64 0, .int .i64 0] (0, 0) _ rfl (by refine bp_ (cs := #[.int .i64 0, .int .i64 0]) ?_ 1; refine bp_ (cs := #[.int .i64 0, .int .i64 0]) ?_ 0; exact bk_ BK987) Try.underlying23 rfl (by kernel_rfl)) rfl ?_
    exact ⟨by first | rfl | (simp [*] <;> rfl), bw_ HB⟩
end Go.Proofs.Ytakcdoahpbeckaa.H
