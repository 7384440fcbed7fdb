/- NumUnique: the printed functions it reaches, with their walks. Laid by wip/claimpack.py out of what wip/hprint.py printed. -/
import Derived.Test.YtakcdoahpbeckaaKNumUnique1
namespace Go.Proofs.Ytakcdoahpbeckaa.H
open Go.RowKit Go.Proofs.YtakcdoahpbeckaaW.PrintWords Go.Proofs.YtakcdoahpbeckaaW.PrintLast Go.Proofs.YtakcdoahpbeckaaW.PrintMore
attribute [local go_sem] max2_int min2_int max_two min_two max_three min_three max_four min_four   -- for this text's walks alone
set_option linter.unusedVariables false
set_option linter.unusedSimpArgs false

/-! ### num_ratio_nearest: function 78 -/
def num_ratio_nearest.f (a0_0 : Int) (a0_1 : Int) : Option (Int) := (num_ratio_floor.f a0_0 a0_1).bind fun t197 => (if (wrap64 (a0_0 - (wrap64 (t197 * a0_1)))) > (wrap64 (a0_1 - (wrap64 (a0_0 - (wrap64 (t197 * a0_1)))))) then (some (wrap64 (t197 + 1))) else (if (wrap64 (a0_0 - (wrap64 (t197 * a0_1)))) = (wrap64 (a0_1 - (wrap64 (a0_0 - (wrap64 (t197 * a0_1)))))) then (if (Int.tmod t197 2) = 0 then (some t197) else (some (wrap64 (t197 + 1)))) else (some t197)))
set_option maxHeartbeats 8000000 in
set_option maxRecDepth 100000 in
theorem num_ratio_nearest.calls (a0_0 : Int) (a0_1 : Int) (r : Int) (w : World) (h : num_ratio_nearest.f a0_0 a0_1 = some r) :
    Calls Try.prog 78 #[.agg #[.int .i64 a0_0, .int .i64 a0_1]] w fun e w' => e = .returned (.int .i64 r) ∧ Below w.heap.size w w' := by
  have hu65 := Try.underlying65
  have HB := Aside0.mk (Below.refl w.heap.size w)
  have H : ((num_ratio_floor.f a0_0 a0_1).bind fun t197 => (if (wrap64 (a0_0 - (wrap64 (t197 * a0_1)))) > (wrap64 (a0_1 - (wrap64 (a0_0 - (wrap64 (t197 * a0_1)))))) then (some (wrap64 (t197 + 1))) else (if (wrap64 (a0_0 - (wrap64 (t197 * a0_1)))) = (wrap64 (a0_1 - (wrap64 (a0_0 - (wrap64 (t197 * a0_1)))))) then (if (Int.tmod t197 2) = 0 then (some t197) else (some (wrap64 (t197 + 1)))) else (some t197)))) = some r := h
  clear h
  replace H := Option.bind_eq_some_iff.mp H
  obtain ⟨t197, A20, H⟩ := H
  replace H : (if (wrap64 (a0_0 - (wrap64 (t197 * a0_1)))) > (wrap64 (a0_1 - (wrap64 (a0_0 - (wrap64 (t197 * a0_1)))))) then (some (wrap64 (t197 + 1))) else (if (wrap64 (a0_0 - (wrap64 (t197 * a0_1)))) = (wrap64 (a0_1 - (wrap64 (a0_0 - (wrap64 (t197 * a0_1)))))) then (if (Int.tmod t197 2) = 0 then (some t197) else (some (wrap64 (t197 + 1)))) else (some t197))) = some r := H
  have A2 := Aside0.mk A20
  clear A20
  by_cases c3 : (wrap64 (a0_0 - (wrap64 (t197 * a0_1)))) > (wrap64 (a0_1 - (wrap64 (a0_0 - (wrap64 (t197 * a0_1))))))
  · rw [if_pos c3] at H
    have c3b0 : decide ((wrap64 (a0_1 - (wrap64 (a0_0 - (wrap64 (t197 * a0_1)))))) < (wrap64 (a0_0 - (wrap64 (t197 * a0_1))))) = true := decide_eq_true c3
    clear c3
    obtain rfl := Option.some.inj H
    go_enter Try.func78, Try.ntmps78
    go_wp2_with (first | ((with_reducible refine gate_dst (N := 1) rfl ?_); refine box_event ?hg (N := 1) ?hd (cs := #[.int .i64 a0_0, .int .i64 a0_1]) (t := 65) ?hr ?_; (case hd => rfl); (case hg => rfl); (case hr => first | (go_simp; done) | (go_simp; rfl)); intro gb196 hg w4 hbox hb; have BK196 := Aside0.mk hbox; have GW196 := bwg_ HB hg; have GE196 := bwg_ HB hg; replace HB := bws_ HB hb; clear hb hbox hg; obtain ⟨hcz5_0, hcz5_1, hfz5_0, hfz5_1⟩ := bc2_ BK196) | ((with_reducible refine gate_callee (f := 75) rfl ?_); refine gla_ (some 7) Try.func75 #[.agg #[.int .i64 a0_0, .int .i64 a0_1]] ?_; (with_reducible refine (num_ratio_floor.calls a0_0 a0_1 t197 _ A2.out).mono ?_); rintro e w6 ⟨rfl, hb⟩; refine ⟨_, rfl, ?_⟩; replace BK196 := bkb_ BK196 hb; replace HB := bws_ HB hb; (try clear hb); (try clear hb2); (try clear hk); (try clear hi); obtain ⟨hcz7_0, hcz7_1, hfz7_0, hfz7_1⟩ := bc2_ BK196))
    go_ret
    exact ⟨by first | rfl | (simp [*] <;> rfl), bw_ HB⟩
  · rw [if_neg c3] at H
    have c3b0 : decide ((wrap64 (a0_1 - (wrap64 (a0_0 - (wrap64 (t197 * a0_1)))))) < (wrap64 (a0_0 - (wrap64 (t197 * a0_1))))) = false := decide_eq_false c3
    clear c3
    by_cases c8 : (wrap64 (a0_0 - (wrap64 (t197 * a0_1)))) = (wrap64 (a0_1 - (wrap64 (a0_0 - (wrap64 (t197 * a0_1))))))
    · rw [if_pos c8] at H
      have c8b0 : ((wrap64 (a0_0 - (wrap64 (t197 * a0_1)))) == (wrap64 (a0_1 - (wrap64 (a0_0 - (wrap64 (t197 * a0_1))))))) = true := beq_iff_eq.mpr c8
      have c8b1 : ((wrap64 (a0_0 - (wrap64 (t197 * a0_1)))) != (wrap64 (a0_1 - (wrap64 (a0_0 - (wrap64 (t197 * a0_1))))))) = false := bne_eq_false_iff_eq.mpr c8
      clear c8
      by_cases c9 : (Int.tmod t197 2) = 0
      · rw [if_pos c9] at H
        have c9b0 : ((Int.tmod t197 2) == 0) = true := beq_iff_eq.mpr c9
        have c9b1 : ((Int.tmod t197 2) != 0) = false := bne_eq_false_iff_eq.mpr c9
        clear c9
        obtain rfl := Option.some.inj H
        go_enter Try.func78, Try.ntmps78
        go_wp2_with (first | ((with_reducible refine gate_dst (N := 1) rfl ?_); refine box_event ?hg (N := 1) ?hd (cs := #[.int .i64 a0_0, .int .i64 a0_1]) (t := 65) ?hr ?_; (case hd => rfl); (case hg => rfl); (case hr => first | (go_simp; done) | (go_simp; rfl)); intro gb196 hg w10 hbox hb; have BK196 := Aside0.mk hbox; have GW196 := bwg_ HB hg; have GE196 := bwg_ HB hg; replace HB := bws_ HB hb; clear hb hbox hg; obtain ⟨hcz11_0, hcz11_1, hfz11_0, hfz11_1⟩ := bc2_ BK196) | ((with_reducible refine gate_callee (f := 75) rfl ?_); refine gla_ (some 7) Try.func75 #[.agg #[.int .i64 a0_0, .int .i64 a0_1]] ?_; (with_reducible refine (num_ratio_floor.calls a0_0 a0_1 t197 _ A2.out).mono ?_); rintro e w12 ⟨rfl, hb⟩; refine ⟨_, rfl, ?_⟩; replace BK196 := bkb_ BK196 hb; replace HB := bws_ HB hb; (try clear hb); (try clear hb2); (try clear hk); (try clear hi); obtain ⟨hcz13_0, hcz13_1, hfz13_0, hfz13_1⟩ := bc2_ BK196))
        go_ret
        exact ⟨by first | rfl | (simp [*] <;> rfl), bw_ HB⟩
      · rw [if_neg c9] at H
        have c9b0 : ((Int.tmod t197 2) == 0) = false := beq_eq_false_iff_ne.mpr c9
        have c9b1 : ((Int.tmod t197 2) != 0) = true := bne_iff_ne.mpr c9
        obtain rfl := Option.some.inj H
        go_enter Try.func78, Try.ntmps78
        go_wp2_with (first | ((with_reducible refine gate_dst (N := 1) rfl ?_); refine box_event ?hg (N := 1) ?hd (cs := #[.int .i64 a0_0, .int .i64 a0_1]) (t := 65) ?hr ?_; (case hd => rfl); (case hg => rfl); (case hr => first | (go_simp; done) | (go_simp; rfl)); intro gb196 hg w14 hbox hb; have BK196 := Aside0.mk hbox; have GW196 := bwg_ HB hg; have GE196 := bwg_ HB hg; replace HB := bws_ HB hb; clear hb hbox hg; obtain ⟨hcz15_0, hcz15_1, hfz15_0, hfz15_1⟩ := bc2_ BK196) | ((with_reducible refine gate_callee (f := 75) rfl ?_); refine gla_ (some 7) Try.func75 #[.agg #[.int .i64 a0_0, .int .i64 a0_1]] ?_; (with_reducible refine (num_ratio_floor.calls a0_0 a0_1 t197 _ A2.out).mono ?_); rintro e w16 ⟨rfl, hb⟩; refine ⟨_, rfl, ?_⟩; replace BK196 := bkb_ BK196 hb; replace HB := bws_ HB hb; (try clear hb); (try clear hb2); (try clear hk); (try clear hi); obtain ⟨hcz17_0, hcz17_1, hfz17_0, hfz17_1⟩ := bc2_ BK196))
        go_ret
        exact ⟨by first | rfl | (simp [*] <;> rfl), bw_ HB⟩
    · rw [if_neg c8] at H
      have c8b0 : ((wrap64 (a0_0 - (wrap64 (t197 * a0_1)))) == (wrap64 (a0_1 - (wrap64 (a0_0 - (wrap64 (t197 * a0_1))))))) = false := beq_eq_false_iff_ne.mpr c8
      have c8b1 : ((wrap64 (a0_0 - (wrap64 (t197 * a0_1)))) != (wrap64 (a0_1 - (wrap64 (a0_0 - (wrap64 (t197 * a0_1))))))) = true := bne_iff_ne.mpr c8
      obtain rfl := Option.some.inj H
      go_enter Try.func78, Try.ntmps78
      go_wp2_with (first | ((with_reducible refine gate_dst (N := 1) rfl ?_); refine box_event ?hg (N := 1) ?hd (cs := #[.int .i64 a0_0, .int .i64 a0_1]) (t := 65) ?hr ?_; (case hd => rfl); (case hg => rfl); (case hr => first | (go_simp; done) | (go_simp; rfl)); intro gb196 hg w18 hbox hb; have BK196 := Aside0.mk hbox; have GW196 := bwg_ HB hg; have GE196 := bwg_ HB hg; replace HB := bws_ HB hb; clear hb hbox hg; obtain ⟨hcz19_0, hcz19_1, hfz19_0, hfz19_1⟩ := bc2_ BK196) | ((with_reducible refine gate_callee (f := 75) rfl ?_); refine gla_ (some 7) Try.func75 #[.agg #[.int .i64 a0_0, .int .i64 a0_1]] ?_; (with_reducible refine (num_ratio_floor.calls a0_0 a0_1 t197 _ A2.out).mono ?_); rintro e w20 ⟨rfl, hb⟩; refine ⟨_, rfl, ?_⟩; replace BK196 := bkb_ BK196 hb; replace HB := bws_ HB hb; (try clear hb); (try clear hb2); (try clear hk); (try clear hi); obtain ⟨hcz21_0, hcz21_1, hfz21_0, hfz21_1⟩ := bc2_ BK196))
      go_ret
      exact ⟨by first | rfl | (simp [*] <;> rfl), bw_ HB⟩
/-! ### num_power: function 81 -/
def num_power.l0 : Nat → Int → Int → Int → Option (Int)
  | 0, _, _, _ => none
  | k + 1, x3, x4, x5 => if x5 < x4 then (num_power.l0 k (wrap64 (x3 * 10)) x4 (wrap64 (x5 + 1))) else (some x3)
def num_power.f (k : Nat) (a0 : Int) : Option (Int) := num_power.l0 k 1 a0 0
theorem num_power.mono_l : ∀ k, (∀ y0 y1 y2, LeO (num_power.l0 k y0 y1 y2) (num_power.l0 (k + 1) y0 y1 y2))
  | 0 => fun _ _ _ r h => by simp [num_power.l0] at h
  | k + 1 => by
    have ih0 := num_power.mono_l k
    · intro y0 y1 y2
      unfold num_power.l0
      repeat' first
      | (with_reducible exact ih0 _ _ _)
      | (with_reducible exact LeO.refl _)
      | (with_reducible exact LeO.none _)
      | (with_reducible refine LeO.ite ?_ ?_)
      | (with_reducible refine LeO.bind ?_ (fun _ => ?_))
      | (with_reducible refine LeO.exc (fun _ => ?_) (fun _ => ?_))
      | exact ih0 _ _ _
      | exact LeO.none _
      | refine LeO.ite ?_ ?_
      | refine LeO.bind ?_ (fun _ => ?_)
theorem num_power.mono : ∀ a0 k, LeO (num_power.f k a0) (num_power.f (k + 1) a0) := by
  intro a0 k
  have ih0 := num_power.mono_l k
  unfold num_power.f
  repeat' first
      | (with_reducible exact ih0 _ _ _)
      | (with_reducible exact LeO.refl _)
      | (with_reducible exact LeO.none _)
      | (with_reducible refine LeO.ite ?_ ?_)
      | (with_reducible refine LeO.bind ?_ (fun _ => ?_))
      | (with_reducible refine LeO.exc (fun _ => ?_) (fun _ => ?_))
      | exact ih0 _ _ _
      | exact LeO.none _
      | refine LeO.ite ?_ ?_
      | refine LeO.bind ?_ (fun _ => ?_)
set_option maxHeartbeats 8000000 in
set_option maxRecDepth 100000 in
theorem num_power.calls (k : Nat) (a0 : Int) (r : Int) (w : World) (h : num_power.f k a0 = some r) :
    Calls Try.prog 81 #[.int .i64 a0] w fun e w' => e = .returned (.int .i64 r) ∧ Drawn0 w w' := by
  have H : (num_power.l0 k 1 a0 0) = some r := h
  clear h
  have H' := Aside0.mk H
  clear H
  go_enter Try.func81, Try.ntmps81
  go_wp2
  go_loopg [3, 5] k (fun kq v3 v5 w' => ∃ (x3_1 : Int) (x5_1 : Int), v3 = .int .i64 x3_1 ∧ v5 = .int .i64 x5_1 ∧ Aside0 (num_power.l0 kq x3_1 a0 x5_1 = some r) ∧ Aside0 (kq ≤ k) ∧ Drawn0 w w')
  case atStart => exact ⟨(1), (0), (by first | rfl | (simp; done) | (simp [*]; done)), (by first | rfl | (simp; done) | (simp [*]; done)), H', ⟨Nat.le_refl _⟩, by repeat (first | exact Drawn0.refl _ | apply Drawn0.step)⟩
  case round =>
    clear H'
    obtain ⟨x3_1, x5_1, rfl, rfl, HA, HK1, ⟨m1, rfl⟩⟩ := hrel
    cases gk with
    | zero => exact absurd HA.out (by simp [num_power.l0])
    | succ k1 =>
      have H := HA.out
      clear HA
      simp only [num_power.l0] at H
      by_cases c2 : x5_1 < a0
      · rw [if_pos c2] at H
        have c2b0 : decide (x5_1 < a0) = true := decide_eq_true c2
        clear c2
        have H' := Aside0.mk H
        clear H
        go_wp2
        go_roundg k1
        case measure => have := HK1.out; omega
        case rel => exact ⟨(wrap64 (x3_1 * 10)), (wrap64 (x5_1 + 1)), (by first | rfl | (simp; done) | (simp [*]; done)), (by first | rfl | (simp; done) | (simp [*]; done)), H', ⟨by have := HK1.out; omega⟩, by repeat (first | exact Drawn0.refl _ | apply Drawn0.step)⟩
      · rw [if_neg c2] at H
        have c2b0 : decide (x5_1 < a0) = false := decide_eq_false c2
        clear c2
        obtain rfl := Option.some.inj H
        go_wp2
        go_ret
        exact ⟨by first | rfl | (simp; done) | (simp [*]; done), by repeat (first | exact Drawn0.refl _ | apply Drawn0.step)⟩
/-! ### num_sign: function 82 -/
def num_sign.f (a0 : Int) : Option (ByteArray × Int) := if a0 < 0 then (some ((⟨#[45]⟩ : ByteArray), wrap64 (-a0))) else (some ((⟨#[]⟩ : ByteArray), a0))
set_option maxHeartbeats 8000000 in
set_option maxRecDepth 100000 in
theorem num_sign.calls (a0 : Int) (r1 : ByteArray) (r2 : Int) (w : World) (h : num_sign.f a0 = some (r1, r2)) :
    Calls Try.prog 82 #[.int .i64 a0] w fun e w' => e = .returned (.tuple #[.string r1, .int .i64 r2]) ∧ Drawn0 w w' := by
  have H : (if a0 < 0 then (some ((⟨#[45]⟩ : ByteArray), wrap64 (-a0))) else (some ((⟨#[]⟩ : ByteArray), a0))) = some (r1, r2) := h
  clear h
  by_cases c2 : a0 < 0
  · rw [if_pos c2] at H
    have c2b0 : decide (a0 < 0) = true := decide_eq_true c2
    clear c2
    simp only [Option.some.injEq, Prod.mk.injEq] at H
    obtain ⟨rfl, rfl⟩ := H
    go_enter Try.func82, Try.ntmps82
    go_wp2
    go_ret2
    exact ⟨by first | rfl | (simp; done) | (simp [*]; done), by repeat (first | exact Drawn0.refl _ | apply Drawn0.step)⟩
  · rw [if_neg c2] at H
    have c2b0 : decide (a0 < 0) = false := decide_eq_false c2
    clear c2
    simp only [Option.some.injEq, Prod.mk.injEq] at H
    obtain ⟨rfl, rfl⟩ := H
    go_enter Try.func82, Try.ntmps82
    go_wp2
    go_ret2
    exact ⟨by first | rfl | (simp; done) | (simp [*]; done), by repeat (first | exact Drawn0.refl _ | apply Drawn0.step)⟩
/-! ### num_told: function 83, by hand -/
/-- the digits of a number, written from behind: how many places are free, what is left, what is written -/
def num_told.go (least : Int) : Nat → Int → List Int → Option (List Int)
  | 0, n, l => if n > 0 ∨ (20 : Int) < least then none else some l
  | i + 1, n, l => if n > 0 ∨ (20 - ((i + 1 : Nat) : Int)) < least then num_told.go least i (n / 10) ((48 + n % 10) :: l) else some l
def num_told.f (a0 : Int) (a1 : Int) : Option ByteArray := if 0 ≤ a0 ∧ a0 ≤ 9223372036854775807 ∧ a1 ≤ 20 then (num_told.go a1 20 a0 []).map strOfNums else none
set_option maxHeartbeats 4000000 in
set_option maxRecDepth 100000 in
theorem num_told.calls (a0 : Int) (a1 : Int) (r : ByteArray) (w : World) (h : num_told.f a0 a1 = some r) :
    Calls Try.prog 83 #[.int .i64 a0, .int .i64 a1] w fun e w' => e = .returned (.string r) ∧ Below w.heap.size w w' := by
  unfold num_told.f at h
  by_cases c : 0 ≤ a0 ∧ a0 ≤ 9223372036854775807 ∧ a1 ≤ 20
  case neg => rw [if_neg c] at h; exact absurd h (by simp)
  rw [if_pos c] at h
  obtain ⟨c0, c1, c2⟩ := c
  obtain ⟨lr, hl, rfl⟩ := Option.map_eq_some_iff.mp h
  clear h
  have HH := Aside0.mk hl
  clear hl
  go_enter Try.func83, Try.ntmps83
  go_wp2
  go_loopg [0, 6] 20 (fun kq v0 v6 w' => ∃ (i : Nat) (n : Int) (l : List Int) (C : Array Value), v0 = .int .i64 n ∧ v6 = .int .i64 i ∧ i ≤ 20 ∧ 0 ≤ n ∧ n ≤ 9223372036854775807 ∧ Aside0 (kq = i) ∧ Aside0 (num_told.go a1 i n l = some lr) ∧ Aside0 (w'.heap[w.heap.size]? = some (.cells C 115 (0, 0))) ∧ Aside0 (C.size = 20 ∧ C.toList.drop i = l.map (Value.int .u8)) ∧ Aside0 (Below w.heap.size w w'))
  case atStart => exact ⟨20, a0, [], _, rfl, rfl, by omega, c0, c1, ⟨rfl⟩, HH, ⟨blk_new _ _⟩, ⟨by simp⟩, ⟨below_alloc (Below.refl _ _) _⟩⟩
  case round =>
    clear HH
    obtain ⟨i, n, l, C, rfl, rfl, hi, hn0, hn1, HK, HH, HC, HD, HB⟩ := hrel
    have hw : (n > 0 ∨ (20 : Int) - (i : Int) < a1) ∨ (¬ n > 0 ∧ ¬ (20 : Int) - (i : Int) < a1) := by omega
    rcases hw with hw | ⟨hw1, hw2⟩
    · -- a digit is written
      cases i with
      | zero =>
        have hh := HH.out
        simp only [num_told.go] at hh
        rw [if_pos (by simpa using hw)] at hh
        exact absurd hh (by simp)
      | succ j =>
        have hh := HH.out
        simp only [num_told.go] at hh
        rw [if_pos hw] at hh
        have HH := Aside0.mk hh
        clear hh
        have hj : j < C.size := by have := HD.out.1; omega
        have hx : wr.cell? ⟨w.heap.size, j, none⟩ = some C[j] := (blk_cell HC.out j).trans (Array.getElem?_eq_getElem hj)
        have hf := blk_frozen HC.out j
        have hm0 : 0 ≤ n % 10 := by omega
        have hm1 : n % 10 < 10 := by omega
        have hq0 : 0 ≤ n / 10 := by omega
        have hq1 : n / 10 ≤ 9223372036854775807 := by omega
        have hj0 : (0 : Int) ≤ (j : Int) := by omega
        have hj1 : (j : Int) < 20 := by omega
        have fin : Aside0 ((wr.setCell ⟨w.heap.size, j, none⟩ (.int .u8 (48 + n % 10))).heap[w.heap.size]? = some (.cells (C.setIfInBounds j (.int .u8 (48 + n % 10))) 115 (0, 0))) := ⟨blk_set HC.out j _⟩
        have fin2 : Aside0 ((C.setIfInBounds j (.int .u8 (48 + n % 10))).size = 20 ∧ (C.setIfInBounds j (.int .u8 (48 + n % 10))).toList.drop j = ((48 + n % 10) :: l).map (Value.int .u8)) := by
          refine ⟨by rw [Array.size_setIfInBounds]; exact HD.out.1, ?_⟩
          rw [Array.toList_setIfInBounds, List.drop_set, if_neg (by omega), Nat.sub_self, List.drop_eq_getElem_cons (by rw [Array.length_toList]; omega), List.set_cons_zero, HD.out.2, List.map_cons]
        have fin3 : Aside0 (Below w.heap.size w (wr.setCell ⟨w.heap.size, j, none⟩ (.int .u8 (48 + n % 10)))) := ⟨below_set HB.out (Nat.le_refl _)⟩
        by_cases hn : n > 0
        · have hb : decide (0 < n) = true := decide_eq_true hn
          clear hw
          go_wp2
          go_roundg j
          case measure => have := HK.out; omega
          case rel => exact ⟨j, n / 10, (48 + n % 10) :: l, _, rfl, rfl, by omega, hq0, hq1, ⟨rfl⟩, HH, fin, fin2, fin3⟩
        · have hb : decide (0 < n) = false := decide_eq_false hn
          have hw' : (20 : Int) - ((j : Int) + 1) < a1 := by omega
          have hb2 : decide ((20 : Int) - ((j : Int) + 1) < a1) = true := decide_eq_true hw'
          clear hw hw'
          go_wp2
          go_roundg j
          case measure => have := HK.out; omega
          case rel => exact ⟨j, n / 10, (48 + n % 10) :: l, _, rfl, rfl, by omega, hq0, hq1, ⟨rfl⟩, HH, fin, fin2, fin3⟩
    · -- all are written
      have hh := HH.out
      have hl : num_told.go a1 i n l = some l := by
        cases i with
        | zero => simp only [num_told.go]; rw [if_neg (by omega)]
        | succ j => simp only [num_told.go]; rw [if_neg (by omega)]
      rw [hl] at hh
      obtain rfl := Option.some.inj hh
      clear hh hl HH
      have hb : decide (0 < n) = false := decide_eq_false hw1
      have hb2 : decide ((20 : Int) - (i : Int) < a1) = false := decide_eq_false hw2
      have hn : l.length = 20 - i := by
        have := congrArg List.length HD.out.2
        rw [List.length_drop, Array.length_toList, HD.out.1, List.length_map] at this
        omega
      have hR : Kd.C (Kd.int .u8) wr (some ⟨w.heap.size, i, none⟩) (20 - i) l := by
        refine Kd.C_of_reads (d := 0) ⟨hn, by omega, fun _ => ⟨_, rfl, fun j hj => ?_⟩⟩
        have ea : (⟨w.heap.size, i, none⟩ : Addr).add j = ⟨w.heap.size, i + j, none⟩ := by
          unfold Addr.add
          by_cases hj0 : j = 0 <;> simp [hj0]
        rw [ea, blk_cell HC.out, ← Array.getElem?_toList, ← List.getElem?_drop, HD.out.2, List.getElem?_map, List.getD_eq_getElem?_getD, List.getElem?_eq_getElem (by omega)]
        rfl
      have hcv := fun (c : Nat) => Kd.C_string (P := Try.prog) (w := wr) (src := 116) (dst := 9) (c := c) Try.underlying116 Try.underlying5 Try.underlying9 hR
      have hsl := run_sliceAt_array_l (P := Try.prog) wr 115 ⟨w.heap.size, 0, none⟩ Try.underlying115 .i64 (i : Int) (by omega) (by rw [show Try.prog.arrayLen 115 = 20 by kernel_rfl]; omega)
      have hb3 : i = 20 → decide ((0 : Int) < a1) = false := fun e => decide_eq_false (by omega)
      clear hR hw1 hw2
      by_cases h20 : i = 20
      · subst h20
        have hb4 := hb3 rfl
        clear hb3
        have hcv0 : ∀ (c : Nat), (convert 116 9 (.slice (some ⟨w.heap.size, 0, none⟩) 0 c)).run Try.prog wr = .ok (.string (strOfNums l)) wr := fun c => by
          obtain rfl : l = [] := List.length_eq_zero_iff.mp (by simpa using hn)
          exact Kd.C_string (P := Try.prog) (w := wr) (src := 116) (dst := 9) (c := c) Try.underlying116 Try.underlying5 Try.underlying9 ⟨rfl, by omega, fun h => absurd h (by omega)⟩
        clear hcv hn
        go_wp2
        go_ret
        exact ⟨rfl, HB.out⟩
      · have h20' : (20 = i) = False := by simp; omega
        clear hn hb3
        go_wp2
        go_ret
        exact ⟨rfl, HB.out⟩
/-! ### num_Decimal: function 35 -/
def num_Decimal.f (k : Nat) (a0_0 : Int) (a0_1 : Int) (a1 : Int) : Option (ByteArray × Int) := (num_Check.f k a0_0 a0_1).bind fun t199 => (if t199 = 0 then ((num_within.f 0 9 (([a1] : List Int))).bind fun t203 => (if t203 = true then ((num_power.f k a1).bind fun t204 => ((num_ratio_nearest.f (wrap64 (a0_0 * t204)) a0_1).bind fun t205 => ((num_sign.f t205).bind fun bt206 => (if t204 = 0 then (none) else ((num_told.f (wrap64 (Int.tdiv bt206.2 t204)) 1).bind fun t208 => (if bt206.1.size + t208.size ≤ 9223372036854775807 then (if a1 > 0 then ((num_told.f (Int.tmod bt206.2 t204) a1).bind fun t209 => (if 1 + t209.size ≤ 9223372036854775807 then (if (bt206.1 ++ t208).size + ((⟨#[46]⟩ : ByteArray) ++ t209).size ≤ 9223372036854775807 then (some ((bt206.1 ++ t208) ++ ((⟨#[46]⟩ : ByteArray) ++ t209), 0)) else (none)) else (none))) else (some (bt206.1 ++ t208, 0))) else (none))))))) else (some ((⟨#[]⟩ : ByteArray), 3)))) else (some ((⟨#[]⟩ : ByteArray), t199)))
theorem num_Decimal.mono : ∀ a0 a1 a2 k, LeO (num_Decimal.f k a0 a1 a2) (num_Decimal.f (k + 1) a0 a1 a2) := by
  intro a0 a1 a2 k
  unfold num_Decimal.f
  repeat' first
      | (with_reducible exact num_Check.mono _ _ _)
      | (with_reducible exact num_power.mono _ _)
      | (with_reducible exact LeO.refl _)
      | (with_reducible exact LeO.none _)
      | (with_reducible refine LeO.ite ?_ ?_)
      | (with_reducible refine LeO.bind ?_ (fun _ => ?_))
      | (with_reducible refine LeO.exc (fun _ => ?_) (fun _ => ?_))
      | exact num_Check.mono _ _ _
      | exact num_power.mono _ _
      | exact LeO.none _
      | refine LeO.ite ?_ ?_
      | refine LeO.bind ?_ (fun _ => ?_)
set_option maxHeartbeats 8000000 in
set_option maxRecDepth 100000 in
theorem num_Decimal.calls (k : Nat) (a0_0 : Int) (a0_1 : Int) (a1 : Int) (r1 : ByteArray) (r2 : Int) (w : World) (h : num_Decimal.f k a0_0 a0_1 a1 = some (r1, r2)) :
    Calls Try.prog 35 #[.agg #[.int .i64 a0_0, .int .i64 a0_1], .int .i64 a1] w fun e w' => e = .returned (.tuple #[.string r1, .int .i64 r2]) ∧ Below w.heap.size w w' := by
  have hu23 := Try.underlying23
  have hu65 := Try.underlying65
  have HB := Aside0.mk (Below.refl w.heap.size w)
  have H : ((num_Check.f k a0_0 a0_1).bind fun t199 => (if t199 = 0 then ((num_within.f 0 9 (([a1] : List Int))).bind fun t203 => (if t203 = true then ((num_power.f k a1).bind fun t204 => ((num_ratio_nearest.f (wrap64 (a0_0 * t204)) a0_1).bind fun t205 => ((num_sign.f t205).bind fun bt206 => (if t204 = 0 then (none) else ((num_told.f (wrap64 (Int.tdiv bt206.2 t204)) 1).bind fun t208 => (if bt206.1.size + t208.size ≤ 9223372036854775807 then (if a1 > 0 then ((num_told.f (Int.tmod bt206.2 t204) a1).bind fun t209 => (if 1 + t209.size ≤ 9223372036854775807 then (if (bt206.1 ++ t208).size + ((⟨#[46]⟩ : ByteArray) ++ t209).size ≤ 9223372036854775807 then (some ((bt206.1 ++ t208) ++ ((⟨#[46]⟩ : ByteArray) ++ t209), 0)) else (none)) else (none))) else (some (bt206.1 ++ t208, 0))) else (none))))))) else (some ((⟨#[]⟩ : ByteArray), 3)))) else (some ((⟨#[]⟩ : ByteArray), t199)))) = some (r1, r2) := h
  clear h
  replace H := Option.bind_eq_some_iff.mp H
  obtain ⟨t199, A30, H⟩ := H
  replace H : (if t199 = 0 then ((num_within.f 0 9 (([a1] : List Int))).bind fun t203 => (if t203 = true then ((num_power.f k a1).bind fun t204 => ((num_ratio_nearest.f (wrap64 (a0_0 * t204)) a0_1).bind fun t205 => ((num_sign.f t205).bind fun bt206 => (if t204 = 0 then (none) else ((num_told.f (wrap64 (Int.tdiv bt206.2 t204)) 1).bind fun t208 => (if bt206.1.size + t208.size ≤ 9223372036854775807 then (if a1 > 0 then ((num_told.f (Int.tmod bt206.2 t204) a1).bind fun t209 => (if 1 + t209.size ≤ 9223372036854775807 then (if (bt206.1 ++ t208).size + ((⟨#[46]⟩ : ByteArray) ++ t209).size ≤ 9223372036854775807 then (some ((bt206.1 ++ t208) ++ ((⟨#[46]⟩ : ByteArray) ++ t209), 0)) else (none)) else (none))) else (some (bt206.1 ++ t208, 0))) else (none))))))) else (some ((⟨#[]⟩ : ByteArray), 3)))) else (some ((⟨#[]⟩ : ByteArray), t199))) = some (r1, r2) := H
  have A3 := Aside0.mk A30
  clear A30
  by_cases c4 : t199 = 0
  · rw [if_pos c4] at H
    have c4b0 : (t199 == 0) = true := beq_iff_eq.mpr c4
    have c4b1 : (t199 != 0) = false := bne_eq_false_iff_eq.mpr c4
    clear c4
    obtain ⟨y200, hy200⟩ : ∃ y_ : List Int, y_ = (([a1] : List Int)) := ⟨_, rfl⟩
    replace H : ((num_within.f 0 9 y200).bind fun t203 => (if t203 = true then ((num_power.f k a1).bind fun t204 => ((num_ratio_nearest.f (wrap64 (a0_0 * t204)) a0_1).bind fun t205 => ((num_sign.f t205).bind fun bt206 => (if t204 = 0 then (none) else ((num_told.f (wrap64 (Int.tdiv bt206.2 t204)) 1).bind fun t208 => (if bt206.1.size + t208.size ≤ 9223372036854775807 then (if a1 > 0 then ((num_told.f (Int.tmod bt206.2 t204) a1).bind fun t209 => (if 1 + t209.size ≤ 9223372036854775807 then (if (bt206.1 ++ t208).size + ((⟨#[46]⟩ : ByteArray) ++ t209).size ≤ 9223372036854775807 then (some ((bt206.1 ++ t208) ++ ((⟨#[46]⟩ : ByteArray) ++ t209), 0)) else (none)) else (none))) else (some (bt206.1 ++ t208, 0))) else (none))))))) else (some ((⟨#[]⟩ : ByteArray), 3)))) = some (r1, r2) := by first | (rw [hy200]; with_reducible exact H) | (have H2_ := (Option.bind_some _ _).symm.trans H; rw [hy200]; with_reducible exact H2_) | (have H2_ := (Option.bind_some _ _).symm.trans H; with_reducible exact H2_) | with_reducible exact H | (rw [hy200]; exact H) | exact H
    have Ny200 := Aside0.mk hy200
    clear hy200
    replace H := Option.bind_eq_some_iff.mp H
    obtain ⟨t203, A50, H⟩ := H
    replace H : (if t203 = true then ((num_power.f k a1).bind fun t204 => ((num_ratio_nearest.f (wrap64 (a0_0 * t204)) a0_1).bind fun t205 => ((num_sign.f t205).bind fun bt206 => (if t204 = 0 then (none) else ((num_told.f (wrap64 (Int.tdiv bt206.2 t204)) 1).bind fun t208 => (if bt206.1.size + t208.size ≤ 9223372036854775807 then (if a1 > 0 then ((num_told.f (Int.tmod bt206.2 t204) a1).bind fun t209 => (if 1 + t209.size ≤ 9223372036854775807 then (if (bt206.1 ++ t208).size + ((⟨#[46]⟩ : ByteArray) ++ t209).size ≤ 9223372036854775807 then (some ((bt206.1 ++ t208) ++ ((⟨#[46]⟩ : ByteArray) ++ t209), 0)) else (none)) else (none))) else (some (bt206.1 ++ t208, 0))) else (none))))))) else (some ((⟨#[]⟩ : ByteArray), 3))) = some (r1, r2) := H
    have A5 := Aside0.mk A50
    clear A50
    by_cases c6 : t203 = true
    · subst c6
      have H1 : ((num_power.f k a1).bind fun t204 => ((num_ratio_nearest.f (wrap64 (a0_0 * t204)) a0_1).bind fun t205 => ((num_sign.f t205).bind fun bt206 => (if t204 = 0 then (none) else ((num_told.f (wrap64 (Int.tdiv bt206.2 t204)) 1).bind fun t208 => (if bt206.1.size + t208.size ≤ 9223372036854775807 then (if a1 > 0 then ((num_told.f (Int.tmod bt206.2 t204) a1).bind fun t209 => (if 1 + t209.size ≤ 9223372036854775807 then (if (bt206.1 ++ t208).size + ((⟨#[46]⟩ : ByteArray) ++ t209).size ≤ 9223372036854775807 then (some ((bt206.1 ++ t208) ++ ((⟨#[46]⟩ : ByteArray) ++ t209), 0)) else (none)) else (none))) else (some (bt206.1 ++ t208, 0))) else (none))))))) = some (r1, r2) := by rw [if_pos rfl] at H; exact H
      clear H
      have H := H1
      clear H1
      replace H := Option.bind_eq_some_iff.mp H
      obtain ⟨t204, A70, H⟩ := H
      replace H : ((num_ratio_nearest.f (wrap64 (a0_0 * t204)) a0_1).bind fun t205 => ((num_sign.f t205).bind fun bt206 => (if t204 = 0 then (none) else ((num_told.f (wrap64 (Int.tdiv bt206.2 t204)) 1).bind fun t208 => (if bt206.1.size + t208.size ≤ 9223372036854775807 then (if a1 > 0 then ((num_told.f (Int.tmod bt206.2 t204) a1).bind fun t209 => (if 1 + t209.size ≤ 9223372036854775807 then (if (bt206.1 ++ t208).size + ((⟨#[46]⟩ : ByteArray) ++ t209).size ≤ 9223372036854775807 then (some ((bt206.1 ++ t208) ++ ((⟨#[46]⟩ : ByteArray) ++ t209), 0)) else (none)) else (none))) else (some (bt206.1 ++ t208, 0))) else (none)))))) = some (r1, r2) := H
      have A7 := Aside0.mk A70
      clear A70
      replace H := Option.bind_eq_some_iff.mp H
      obtain ⟨t205, A80, H⟩ := H
      replace H : ((num_sign.f t205).bind fun bt206 => (if t204 = 0 then (none) else ((num_told.f (wrap64 (Int.tdiv bt206.2 t204)) 1).bind fun t208 => (if bt206.1.size + t208.size ≤ 9223372036854775807 then (if a1 > 0 then ((num_told.f (Int.tmod bt206.2 t204) a1).bind fun t209 => (if 1 + t209.size ≤ 9223372036854775807 then (if (bt206.1 ++ t208).size + ((⟨#[46]⟩ : ByteArray) ++ t209).size ≤ 9223372036854775807 then (some ((bt206.1 ++ t208) ++ ((⟨#[46]⟩ : ByteArray) ++ t209), 0)) else (none)) else (none))) else (some (bt206.1 ++ t208, 0))) else (none))))) = some (r1, r2) := H
      have A8 := Aside0.mk A80
      clear A80
      replace H := Option.bind_eq_some_iff.mp H
      obtain ⟨⟨t206, t207⟩, A90, H⟩ := H
      replace H : (if t204 = 0 then (none) else ((num_told.f (wrap64 (Int.tdiv t207 t204)) 1).bind fun t208 => (if t206.size + t208.size ≤ 9223372036854775807 then (if a1 > 0 then ((num_told.f (Int.tmod t207 t204) a1).bind fun t209 => (if 1 + t209.size ≤ 9223372036854775807 then (if (t206 ++ t208).size + ((⟨#[46]⟩ : ByteArray) ++ t209).size ≤ 9223372036854775807 then (some ((t206 ++ t208) ++ ((⟨#[46]⟩ : ByteArray) ++ t209), 0)) else (none)) else (none))) else (some (t206 ++ t208, 0))) else (none)))) = some (r1, r2) := H
      have A9 := Aside0.mk A90
      clear A90
      by_cases c10 : t204 = 0
      · rw [if_pos c10] at H
        exact absurd H (by simp)
      · rw [if_neg c10] at H
        have c10b0 : (t204 == 0) = false := beq_eq_false_iff_ne.mpr c10
        have c10b1 : (t204 != 0) = true := bne_iff_ne.mpr c10
        replace H := Option.bind_eq_some_iff.mp H
        obtain ⟨t208, A110, H⟩ := H
        replace H : (if t206.size + t208.size ≤ 9223372036854775807 then (if a1 > 0 then ((num_told.f (Int.tmod t207 t204) a1).bind fun t209 => (if 1 + t209.size ≤ 9223372036854775807 then (if (t206 ++ t208).size + ((⟨#[46]⟩ : ByteArray) ++ t209).size ≤ 9223372036854775807 then (some ((t206 ++ t208) ++ ((⟨#[46]⟩ : ByteArray) ++ t209), 0)) else (none)) else (none))) else (some (t206 ++ t208, 0))) else (none)) = some (r1, r2) := H
        have A11 := Aside0.mk A110
        clear A110
        by_cases c12 : t206.size + t208.size ≤ 9223372036854775807
        · rw [if_pos c12] at H
          have c12b0 := eq_true c12
          have c12b1 : decide (t206.size + t208.size ≤ 9223372036854775807) = true := decide_eq_true c12
          try have c12b2 : (9223372036854775807 < t206.size + t208.size) = False := eq_false (Nat.not_lt.2 c12)
          by_cases c13 : a1 > 0
          · rw [if_pos c13] at H
            have c13b0 : decide (0 < a1) = true := decide_eq_true c13
            clear c13
            replace H := Option.bind_eq_some_iff.mp H
            obtain ⟨t209, A140, H⟩ := H
            replace H : (if 1 + t209.size ≤ 9223372036854775807 then (if (t206 ++ t208).size + ((⟨#[46]⟩ : ByteArray) ++ t209).size ≤ 9223372036854775807 then (some ((t206 ++ t208) ++ ((⟨#[46]⟩ : ByteArray) ++ t209), 0)) else (none)) else (none)) = some (r1, r2) := H
            have A14 := Aside0.mk A140
            clear A140
            by_cases c15 : 1 + t209.size ≤ 9223372036854775807
            · rw [if_pos c15] at H
              have c15b0 := eq_true c15
              have c15b1 : decide (1 + t209.size ≤ 9223372036854775807) = true := decide_eq_true c15
              try have c15b2 : (9223372036854775807 < 1 + t209.size) = False := eq_false (Nat.not_lt.2 c15)
              by_cases c16 : (t206 ++ t208).size + ((⟨#[46]⟩ : ByteArray) ++ t209).size ≤ 9223372036854775807
              · rw [if_pos c16] at H
                have c16b0 := eq_true c16
                have c16b1 : decide ((t206 ++ t208).size + ((⟨#[46]⟩ : ByteArray) ++ t209).size ≤ 9223372036854775807) = true := decide_eq_true c16
                try have c16b2 : (9223372036854775807 < (t206 ++ t208).size + ((⟨#[46]⟩ : ByteArray) ++ t209).size) = False := eq_false (Nat.not_lt.2 c16)
                have c16s := c16
                (try simp only [ByteArray.size_append, show (⟨#[46]⟩ : ByteArray).size = 1 from rfl] at c16s)
                have c16t := eq_true c16s
                (try have c16u := eq_false (Nat.not_lt.2 c16s))
                simp only [Option.some.injEq, Prod.mk.injEq] at H
                obtain ⟨rfl, rfl⟩ := H
                go_enter Try.func35, Try.ntmps35
                go_wp2_with (first | ((with_reducible refine gate_dst (N := 2) rfl ?_); refine box_event ?hg (N := 2) ?hd (cs := #[.int .i64 a0_0, .int .i64 a0_1]) (t := 23) ?hr ?_; (case hd => rfl); (case hg => rfl); (case hr => first | (go_simp; done) | (go_simp; rfl)); intro gb198 hg w17 hbox hb; have BK198 := Aside0.mk hbox; have GW198 := bwg_ HB hg; have GE198 := bwg_ HB hg; replace HB := bws_ HB hb; clear hb hbox hg; obtain ⟨hcz18_0, hcz18_1, hfz18_0, hfz18_1⟩ := bc2_ BK198) | ((with_reducible refine gate_callee (f := 46) rfl ?_); refine gla_ (some 11) Try.func46 #[.agg #[.int .i64 a0_0, .int .i64 a0_1]] ?_; (with_reducible refine (num_Check.calls k a0_0 a0_1 t199 _ A3.out).mono ?_); rintro e w19 ⟨rfl, hb⟩; refine ⟨_, rfl, ?_⟩; replace BK198 := bkb_ BK198 hb; replace HB := bws_ HB hb; (try clear hb); (try clear hb2); (try clear hk); (try clear hi)) | ((with_reducible refine gate_dst (N := 16) rfl ?_); refine Kd.R_lit (Kd.int .i64) _ 3 ?hg (N := 16) ?hd (xs := ([a1] : List Int)) (inner := [.int .i64 a1]) (ok := fun _ => True) (okp := fun _ => True) ?hr ?hp (fun _ hk => hk) trivial (Below.refl _ _) (Nat.le_refl _) (by simp) ?_; (case hd => rfl); (case hg => rfl); (case hr => first | (go_simp; done) | (go_simp; rfl)); (case hp => exact (Reps.one (show Kd.M (Kd.int .i64) _ _ _ a1 [.int .i64 a1] from rfl) (Reps.none _ _))); intro v201 w20 ho21 hb hg_ hnew_; clear hg_ hnew_; (first | rw [← Ny200.out] at ho21 | (simp only [Int.reduceToNat] at ho21; rw [← Ny200.out] at ho21)); have HO202 := Aside0.mk (Kd.R_lower ho21 (below_size (bw_ HB))); replace BK198 := bkb_ BK198 hb; replace HB := bws_ HB hb; clear hb ho21; obtain ⟨Ao22, co22, eo22⟩ := Kd.R_slice HO202.out; subst eo22) | ((with_reducible refine gate_callee (f := 80) rfl ?_); refine gla_ (some 17) Try.func80 #[.int .i64 0, .int .i64 9, .slice Ao22 y200.length co22] ?_; (with_reducible refine (num_within.calls 0 9 _ _ y200 true _ ?side1 ?side2 A5.out).mono ?_); (case side1 => repeat (first | exact (Kd.R_reads' HO202.out).2.2 | (with_reducible refine Kd.C_alloc ?_ _) | (with_reducible refine Kd.C_drewN ?_ _) | (with_reducible refine Kd.C_drew ?_))); (case side2 => exact (Kd.R_reads' HO202.out).2.1); rintro e w23 ⟨rfl, hb⟩; refine ⟨_, rfl, ?_⟩; replace HO202 := Aside0.mk (Kd.R_below (by (with_reducible repeat (first | apply Kd.R_alloc | apply Kd.R_drewN | apply Kd.R_drew)); exact HO202.out) hb); replace BK198 := bkb_ BK198 hb; replace HB := bws_ HB hb; (try clear hb); (try clear hb2); (try clear hk); (try clear hi)) | ((with_reducible refine gate_callee (f := 81) rfl ?_); refine gla_ (some 20) Try.func81 #[.int .i64 a1] ?_; (with_reducible refine (num_power.calls k a1 t204 _ A7.out).mono ?_); rintro e w' ⟨rfl, ⟨nd, rfl⟩⟩; refine ⟨_, rfl, ?_⟩; obtain ⟨hcz24_0, hcz24_1, hfz24_0, hfz24_1⟩ := bc2_ BK198) | ((with_reducible refine gate_callee (f := 78) rfl ?_); refine gla_ (some 29) Try.func78 #[.agg #[.int .i64 (wrap64 (a0_0 * t204)), .int .i64 a0_1]] ?_; (with_reducible refine (num_ratio_nearest.calls (wrap64 (a0_0 * t204)) a0_1 t205 _ A8.out).mono ?_); rintro e w25 ⟨rfl, hb⟩; refine ⟨_, rfl, ?_⟩; replace HO202 := Aside0.mk (Kd.R_below (by (with_reducible repeat (first | apply Kd.R_alloc | apply Kd.R_drewN | apply Kd.R_drew)); exact HO202.out) hb); replace BK198 := bkb_ BK198 hb; replace HB := bws_ HB hb; (try clear hb); (try clear hb2); (try clear hk); (try clear hi)) | ((with_reducible refine gate_callee (f := 82) rfl ?_); refine gla_ (some 30) Try.func82 #[.int .i64 t205] ?_; (with_reducible refine (num_sign.calls t205 t206 t207 _ A9.out).mono ?_); rintro e w' ⟨rfl, ⟨nd, rfl⟩⟩; refine ⟨_, rfl, ?_⟩) | ((with_reducible refine gate_callee (f := 83) rfl ?_); refine gla_ (some 37) Try.func83 #[.int .i64 (wrap64 (Int.tdiv t207 t204)), .int .i64 1] ?_; (with_reducible refine (num_told.calls (wrap64 (Int.tdiv t207 t204)) 1 t208 _ A11.out).mono ?_); rintro e w26 ⟨rfl, hb⟩; refine ⟨_, rfl, ?_⟩; replace HO202 := Aside0.mk (Kd.R_below (by (with_reducible repeat (first | apply Kd.R_alloc | apply Kd.R_drewN | apply Kd.R_drew)); exact HO202.out) hb); replace BK198 := bkb_ BK198 hb; replace HB := bws_ HB hb; (try clear hb); (try clear hb2); (try clear hk); (try clear hi)) | ((with_reducible refine gate_callee (f := 83) rfl ?_); refine gla_ (some 46) Try.func83 #[.int .i64 (Int.tmod t207 t204), .int .i64 a1] ?_; (with_reducible refine (num_told.calls (Int.tmod t207 t204) a1 t209 _ A14.out).mono ?_); rintro e w27 ⟨rfl, hb⟩; refine ⟨_, rfl, ?_⟩; replace HO202 := Aside0.mk (Kd.R_below (by (with_reducible repeat (first | apply Kd.R_alloc | apply Kd.R_drewN | apply Kd.R_drew)); exact HO202.out) hb); replace BK198 := bkb_ BK198 hb; replace HB := bws_ HB hb; (try clear hb); (try clear hb2); (try clear hk); (try clear hi)))
                go_ret2
                exact ⟨by first | rfl | (simp [*] <;> rfl), bw_ HB⟩
              · rw [if_neg c16] at H
                exact absurd H (by simp)
            · rw [if_neg c15] at H
              exact absurd H (by simp)
          · rw [if_neg c13] at H
            have c13b0 : decide (0 < a1) = false := decide_eq_false c13
            clear c13
            simp only [Option.some.injEq, Prod.mk.injEq] at H
            obtain ⟨rfl, rfl⟩ := H
            go_enter Try.func35, Try.ntmps35
            go_wp2_with (first | ((with_reducible refine gate_dst (N := 2) rfl ?_); refine box_event ?hg (N := 2) ?hd (cs := #[.int .i64 a0_0, .int .i64 a0_1]) (t := 23) ?hr ?_; (case hd => rfl); (case hg => rfl); (case hr => first | (go_simp; done) | (go_simp; rfl)); intro gb198 hg w28 hbox hb; have BK198 := Aside0.mk hbox; have GW198 := bwg_ HB hg; have GE198 := bwg_ HB hg; replace HB := bws_ HB hb; clear hb hbox hg; obtain ⟨hcz29_0, hcz29_1, hfz29_0, hfz29_1⟩ := bc2_ BK198) | ((with_reducible refine gate_callee (f := 46) rfl ?_); refine gla_ (some 11) Try.func46 #[.agg #[.int .i64 a0_0, .int .i64 a0_1]] ?_; (with_reducible refine (num_Check.calls k a0_0 a0_1 t199 _ A3.out).mono ?_); rintro e w30 ⟨rfl, hb⟩; refine ⟨_, rfl, ?_⟩; replace BK198 := bkb_ BK198 hb; replace HB := bws_ HB hb; (try clear hb); (try clear hb2); (try clear hk); (try clear hi)) | ((with_reducible refine gate_dst (N := 16) rfl ?_); refine Kd.R_lit (Kd.int .i64) _ 3 ?hg (N := 16) ?hd (xs := ([a1] : List Int)) (inner := [.int .i64 a1]) (ok := fun _ => True) (okp := fun _ => True) ?hr ?hp (fun _ hk => hk) trivial (Below.refl _ _) (Nat.le_refl _) (by simp) ?_; (case hd => rfl); (case hg => rfl); (case hr => first | (go_simp; done) | (go_simp; rfl)); (case hp => exact (Reps.one (show Kd.M (Kd.int .i64) _ _ _ a1 [.int .i64 a1] from rfl) (Reps.none _ _))); intro v201 w31 ho32 hb hg_ hnew_; clear hg_ hnew_; (first | rw [← Ny200.out] at ho32 | (simp only [Int.reduceToNat] at ho32; rw [← Ny200.out] at ho32)); have HO202 := Aside0.mk (Kd.R_lower ho32 (below_size (bw_ HB))); replace BK198 := bkb_ BK198 hb; replace HB := bws_ HB hb; clear hb ho32; obtain ⟨Ao33, co33, eo33⟩ := Kd.R_slice HO202.out; subst eo33) | ((with_reducible refine gate_callee (f := 80) rfl ?_); refine gla_ (some 17) Try.func80 #[.int .i64 0, .int .i64 9, .slice Ao33 y200.length co33] ?_; (with_reducible refine (num_within.calls 0 9 _ _ y200 true _ ?side1 ?side2 A5.out).mono ?_); (case side1 => repeat (first | exact (Kd.R_reads' HO202.out).2.2 | (with_reducible refine Kd.C_alloc ?_ _) | (with_reducible refine Kd.C_drewN ?_ _) | (with_reducible refine Kd.C_drew ?_))); (case side2 => exact (Kd.R_reads' HO202.out).2.1); rintro e w34 ⟨rfl, hb⟩; refine ⟨_, rfl, ?_⟩; replace HO202 := Aside0.mk (Kd.R_below (by (with_reducible repeat (first | apply Kd.R_alloc | apply Kd.R_drewN | apply Kd.R_drew)); exact HO202.out) hb); replace BK198 := bkb_ BK198 hb; replace HB := bws_ HB hb; (try clear hb); (try clear hb2); (try clear hk); (try clear hi)) | ((with_reducible refine gate_callee (f := 81) rfl ?_); refine gla_ (some 20) Try.func81 #[.int .i64 a1] ?_; (with_reducible refine (num_power.calls k a1 t204 _ A7.out).mono ?_); rintro e w' ⟨rfl, ⟨nd, rfl⟩⟩; refine ⟨_, rfl, ?_⟩; obtain ⟨hcz35_0, hcz35_1, hfz35_0, hfz35_1⟩ := bc2_ BK198) | ((with_reducible refine gate_callee (f := 78) rfl ?_); refine gla_ (some 29) Try.func78 #[.agg #[.int .i64 (wrap64 (a0_0 * t204)), .int .i64 a0_1]] ?_; (with_reducible refine (num_ratio_nearest.calls (wrap64 (a0_0 * t204)) a0_1 t205 _ A8.out).mono ?_); rintro e w36 ⟨rfl, hb⟩; refine ⟨_, rfl, ?_⟩; replace HO202 := Aside0.mk (Kd.R_below (by (with_reducible repeat (first | apply Kd.R_alloc | apply Kd.R_drewN | apply Kd.R_drew)); exact HO202.out) hb); replace BK198 := bkb_ BK198 hb; replace HB := bws_ HB hb; (try clear hb); (try clear hb2); (try clear hk); (try clear hi)) | ((with_reducible refine gate_callee (f := 82) rfl ?_); refine gla_ (some 30) Try.func82 #[.int .i64 t205] ?_; (with_reducible refine (num_sign.calls t205 t206 t207 _ A9.out).mono ?_); rintro e w' ⟨rfl, ⟨nd, rfl⟩⟩; refine ⟨_, rfl, ?_⟩) | ((with_reducible refine gate_callee (f := 83) rfl ?_); refine gla_ (some 37) Try.func83 #[.int .i64 (wrap64 (Int.tdiv t207 t204)), .int .i64 1] ?_; (with_reducible refine (num_told.calls (wrap64 (Int.tdiv t207 t204)) 1 t208 _ A11.out).mono ?_); rintro e w37 ⟨rfl, hb⟩; refine ⟨_, rfl, ?_⟩; replace HO202 := Aside0.mk (Kd.R_below (by (with_reducible repeat (first | apply Kd.R_alloc | apply Kd.R_drewN | apply Kd.R_drew)); exact HO202.out) hb); replace BK198 := bkb_ BK198 hb; replace HB := bws_ HB hb; (try clear hb); (try clear hb2); (try clear hk); (try clear hi)))
            go_ret2
            exact ⟨by first | rfl | (simp [*] <;> rfl), bw_ HB⟩
        · rw [if_neg c12] at H
          exact absurd H (by simp)
    · replace c6 := Bool.eq_false_iff.mpr c6
      subst c6
      have H1 : (some ((⟨#[]⟩ : ByteArray), 3)) = some (r1, r2) := by rw [if_neg (show ¬ (false = true) by decide)] at H; exact H
      clear H
      have H := H1
      clear H1
      simp only [Option.some.injEq, Prod.mk.injEq] at H
      obtain ⟨rfl, rfl⟩ := H
      go_enter Try.func35, Try.ntmps35
      go_wp2_with (first | ((with_reducible refine gate_dst (N := 2) rfl ?_); refine box_event ?hg (N := 2) ?hd (cs := #[.int .i64 a0_0, .int .i64 a0_1]) (t := 23) ?hr ?_; (case hd => rfl); (case hg => rfl); (case hr => first | (go_simp; done) | (go_simp; rfl)); intro gb198 hg w38 hbox hb; have BK198 := Aside0.mk hbox; have GW198 := bwg_ HB hg; have GE198 := bwg_ HB hg; replace HB := bws_ HB hb; clear hb hbox hg; obtain ⟨hcz39_0, hcz39_1, hfz39_0, hfz39_1⟩ := bc2_ BK198) | ((with_reducible refine gate_callee (f := 46) rfl ?_); refine gla_ (some 11) Try.func46 #[.agg #[.int .i64 a0_0, .int .i64 a0_1]] ?_; (with_reducible refine (num_Check.calls k a0_0 a0_1 t199 _ A3.out).mono ?_); rintro e w40 ⟨rfl, hb⟩; refine ⟨_, rfl, ?_⟩; replace BK198 := bkb_ BK198 hb; replace HB := bws_ HB hb; (try clear hb); (try clear hb2); (try clear hk); (try clear hi)) | ((with_reducible refine gate_dst (N := 16) rfl ?_); refine Kd.R_lit (Kd.int .i64) _ 3 ?hg (N := 16) ?hd (xs := ([a1] : List Int)) (inner := [.int .i64 a1]) (ok := fun _ => True) (okp := fun _ => True) ?hr ?hp (fun _ hk => hk) trivial (Below.refl _ _) (Nat.le_refl _) (by simp) ?_; (case hd => rfl); (case hg => rfl); (case hr => first | (go_simp; done) | (go_simp; rfl)); (case hp => exact (Reps.one (show Kd.M (Kd.int .i64) _ _ _ a1 [.int .i64 a1] from rfl) (Reps.none _ _))); intro v201 w41 ho42 hb hg_ hnew_; clear hg_ hnew_; (first | rw [← Ny200.out] at ho42 | (simp only [Int.reduceToNat] at ho42; rw [← Ny200.out] at ho42)); have HO202 := Aside0.mk (Kd.R_lower ho42 (below_size (bw_ HB))); replace BK198 := bkb_ BK198 hb; replace HB := bws_ HB hb; clear hb ho42; obtain ⟨Ao43, co43, eo43⟩ := Kd.R_slice HO202.out; subst eo43) | ((with_reducible refine gate_callee (f := 80) rfl ?_); refine gla_ (some 17) Try.func80 #[.int .i64 0, .int .i64 9, .slice Ao43 y200.length co43] ?_; (with_reducible refine (num_within.calls 0 9 _ _ y200 false _ ?side1 ?side2 A5.out).mono ?_); (case side1 => repeat (first | exact (Kd.R_reads' HO202.out).2.2 | (with_reducible refine Kd.C_alloc ?_ _) | (with_reducible refine Kd.C_drewN ?_ _) | (with_reducible refine Kd.C_drew ?_))); (case side2 => exact (Kd.R_reads' HO202.out).2.1); rintro e w44 ⟨rfl, hb⟩; refine ⟨_, rfl, ?_⟩; replace HO202 := Aside0.mk (Kd.R_below (by (with_reducible repeat (first | apply Kd.R_alloc | apply Kd.R_drewN | apply Kd.R_drew)); exact HO202.out) hb); replace BK198 := bkb_ BK198 hb; replace HB := bws_ HB hb; (try clear hb); (try clear hb2); (try clear hk); (try clear hi)))
      go_ret2
      exact ⟨by first | rfl | (simp [*] <;> rfl), bw_ HB⟩
  · rw [if_neg c4] at H
    have c4b0 : (t199 == 0) = false := beq_eq_false_iff_ne.mpr c4
    have c4b1 : (t199 != 0) = true := bne_iff_ne.mpr c4
    simp only [Option.some.injEq, Prod.mk.injEq] at H
    obtain ⟨rfl, rfl⟩ := H
    go_enter Try.func35, Try.ntmps35
    go_wp2_with (first | ((with_reducible refine gate_dst (N := 2) rfl ?_); refine box_event ?hg (N := 2) ?hd (cs := #[.int .i64 a0_0, .int .i64 a0_1]) (t := 23) ?hr ?_; (case hd => rfl); (case hg => rfl); (case hr => first | (go_simp; done) | (go_simp; rfl)); intro gb198 hg w45 hbox hb; have BK198 := Aside0.mk hbox; have GW198 := bwg_ HB hg; have GE198 := bwg_ HB hg; replace HB := bws_ HB hb; clear hb hbox hg; obtain ⟨hcz46_0, hcz46_1, hfz46_0, hfz46_1⟩ := bc2_ BK198) | ((with_reducible refine gate_callee (f := 46) rfl ?_); refine gla_ (some 11) Try.func46 #[.agg #[.int .i64 a0_0, .int .i64 a0_1]] ?_; (with_reducible refine (num_Check.calls k a0_0 a0_1 t199 _ A3.out).mono ?_); rintro e w47 ⟨rfl, hb⟩; refine ⟨_, rfl, ?_⟩; replace BK198 := bkb_ BK198 hb; replace HB := bws_ HB hb; (try clear hb); (try clear hb2); (try clear hk); (try clear hi)))
    go_ret2
    exact ⟨by first | rfl | (simp [*] <;> rfl), bw_ HB⟩
/-! ### stringslite_HasPrefix: function 127 -/
def stringslite_HasPrefix.f (a0 : ByteArray) (a1 : ByteArray) : Option (Bool) := if (a0.size : Int) ≥ (a1.size : Int) then (if 0 ≤ (a1.size : Int) then (if (a1.size : Int) ≤ (a0.size : Int) then (some ((a0.extract 0 ((a1.size : Int) : Int).toNat).toList == a1.toList)) else (none)) else (none)) else (some false)
set_option maxHeartbeats 8000000 in
set_option maxRecDepth 100000 in
theorem stringslite_HasPrefix.calls (a0 : ByteArray) (a1 : ByteArray) (r : Bool) (w : World) (h : stringslite_HasPrefix.f a0 a1 = some r) :
    Calls Try.prog 127 #[.string a0, .string a1] w fun e w' => e = .returned (.bool r) ∧ Drawn0 w w' := by
  have H : (if (a0.size : Int) ≥ (a1.size : Int) then (if 0 ≤ (a1.size : Int) then (if (a1.size : Int) ≤ (a0.size : Int) then (some ((a0.extract 0 ((a1.size : Int) : Int).toNat).toList == a1.toList)) else (none)) else (none)) else (some false)) = some r := h
  clear h
  by_cases c3 : (a0.size : Int) ≥ (a1.size : Int)
  · rw [if_pos c3] at H
    have c3b0 : decide ((a1.size : Int) ≤ (a0.size : Int)) = true := decide_eq_true c3
    have c3b1 : decide (a1.size ≤ a0.size) = true := decide_eq_true (Int.ofNat_le.mp c3)
    clear c3
    by_cases c4 : 0 ≤ (a1.size : Int)
    · rw [if_pos c4] at H
      have c4b0 := eq_true c4
      have c4b1 : decide (0 ≤ (a1.size : Int)) = true := decide_eq_true c4
      clear c4
      by_cases c5 : (a1.size : Int) ≤ (a0.size : Int)
      · rw [if_pos c5] at H
        have c5b0 := eq_true c5
        have c5b1 : decide ((a1.size : Int) ≤ (a0.size : Int)) = true := decide_eq_true c5
        clear c5
        obtain rfl := Option.some.inj H
        go_enter Try.func127, Try.ntmps127
        go_wp2
        go_ret
        exact ⟨by first | rfl | (simp; done) | (simp [*]; done), by repeat (first | exact Drawn0.refl _ | apply Drawn0.step)⟩
      · rw [if_neg c5] at H
        exact absurd H (by simp)
    · rw [if_neg c4] at H
      exact absurd H (by simp)
  · rw [if_neg c3] at H
    have c3b0 : decide ((a1.size : Int) ≤ (a0.size : Int)) = false := decide_eq_false c3
    have c3b1 : decide (a1.size ≤ a0.size) = false := decide_eq_false (fun h => c3 (Int.ofNat_le.mpr h))
    clear c3
    obtain rfl := Option.some.inj H
    go_enter Try.func127, Try.ntmps127
    go_wp2
    go_ret
    exact ⟨by first | rfl | (simp; done) | (simp [*]; done), by repeat (first | exact Drawn0.refl _ | apply Drawn0.step)⟩
/-! ### stringslite_CutPrefix: function 115 -/
def stringslite_CutPrefix.f (a0 : ByteArray) (a1 : ByteArray) : Option (ByteArray × Bool) := (stringslite_HasPrefix.f a0 a1).bind fun t210 => (if t210 = true then (if 0 ≤ (a1.size : Int) then (if (a1.size : Int) ≤ (a0.size : Int) then (some (a0.extract ((a1.size : Int) : Int).toNat a0.size, true)) else (none)) else (none)) else (some (a0, false)))
set_option maxHeartbeats 8000000 in
set_option maxRecDepth 100000 in
theorem stringslite_CutPrefix.calls (a0 : ByteArray) (a1 : ByteArray) (r1 : ByteArray) (r2 : Bool) (w : World) (h : stringslite_CutPrefix.f a0 a1 = some (r1, r2)) :
    Calls Try.prog 115 #[.string a0, .string a1] w fun e w' => e = .returned (.tuple #[.string r1, .bool r2]) ∧ Drawn0 w w' := by
  have H : ((stringslite_HasPrefix.f a0 a1).bind fun t210 => (if t210 = true then (if 0 ≤ (a1.size : Int) then (if (a1.size : Int) ≤ (a0.size : Int) then (some (a0.extract ((a1.size : Int) : Int).toNat a0.size, true)) else (none)) else (none)) else (some (a0, false)))) = some (r1, r2) := h
  clear h
  replace H := Option.bind_eq_some_iff.mp H
  obtain ⟨t210, A30, H⟩ := H
  replace H : (if t210 = true then (if 0 ≤ (a1.size : Int) then (if (a1.size : Int) ≤ (a0.size : Int) then (some (a0.extract ((a1.size : Int) : Int).toNat a0.size, true)) else (none)) else (none)) else (some (a0, false))) = some (r1, r2) := H
  have A3 := Aside0.mk A30
  clear A30
  by_cases c4 : t210 = true
  · subst c4
    have H1 : (if 0 ≤ (a1.size : Int) then (if (a1.size : Int) ≤ (a0.size : Int) then (some (a0.extract ((a1.size : Int) : Int).toNat a0.size, true)) else (none)) else (none)) = some (r1, r2) := by rw [if_pos rfl] at H; exact H
    clear H
    have H := H1
    clear H1
    by_cases c5 : 0 ≤ (a1.size : Int)
    · rw [if_pos c5] at H
      have c5b0 := eq_true c5
      have c5b1 : decide (0 ≤ (a1.size : Int)) = true := decide_eq_true c5
      clear c5
      by_cases c6 : (a1.size : Int) ≤ (a0.size : Int)
      · rw [if_pos c6] at H
        have c6b0 := eq_true c6
        have c6b1 : decide ((a1.size : Int) ≤ (a0.size : Int)) = true := decide_eq_true c6
        clear c6
        simp only [Option.some.injEq, Prod.mk.injEq] at H
        obtain ⟨rfl, rfl⟩ := H
        go_enter Try.func115, Try.ntmps115
        go_wp2_with (first | ((with_reducible refine gate_callee (f := 127) rfl ?_); refine gla_ (some 8) Try.func127 #[.string a0, .string a1] ?_; (with_reducible refine (stringslite_HasPrefix.calls a0 a1 true _ A3.out).mono ?_); rintro e w' ⟨rfl, ⟨nd, rfl⟩⟩; refine ⟨_, rfl, ?_⟩))
        go_ret2
        exact ⟨by first | rfl | (simp; done) | (simp [*]; done), by repeat (first | exact Drawn0.refl _ | apply Drawn0.step)⟩
      · rw [if_neg c6] at H
        exact absurd H (by simp)
    · rw [if_neg c5] at H
      exact absurd H (by simp)
  · replace c4 := Bool.eq_false_iff.mpr c4
    subst c4
    have H1 : (some (a0, false)) = some (r1, r2) := by rw [if_neg (show ¬ (false = true) by decide)] at H; exact H
    clear H
    have H := H1
    clear H1
    simp only [Option.some.injEq, Prod.mk.injEq] at H
    obtain ⟨rfl, rfl⟩ := H
    go_enter Try.func115, Try.ntmps115
    go_wp2_with (first | ((with_reducible refine gate_callee (f := 127) rfl ?_); refine gla_ (some 8) Try.func127 #[.string a0, .string a1] ?_; (with_reducible refine (stringslite_HasPrefix.calls a0 a1 false _ A3.out).mono ?_); rintro e w' ⟨rfl, ⟨nd, rfl⟩⟩; refine ⟨_, rfl, ?_⟩))
    go_ret2
    exact ⟨by first | rfl | (simp; done) | (simp [*]; done), by repeat (first | exact Drawn0.refl _ | apply Drawn0.step)⟩
/-! ### strings_CutPrefix: function 87 -/
def strings_CutPrefix.f (a0 : ByteArray) (a1 : ByteArray) : Option (ByteArray × Bool) := (stringslite_CutPrefix.f a0 a1).bind fun bt211 => (some (bt211.1, bt211.2))
set_option maxHeartbeats 8000000 in
set_option maxRecDepth 100000 in
theorem strings_CutPrefix.calls (a0 : ByteArray) (a1 : ByteArray) (r1 : ByteArray) (r2 : Bool) (w : World) (h : strings_CutPrefix.f a0 a1 = some (r1, r2)) :
    Calls Try.prog 87 #[.string a0, .string a1] w fun e w' => e = .returned (.tuple #[.string r1, .bool r2]) ∧ Drawn0 w w' := by
  have H : ((stringslite_CutPrefix.f a0 a1).bind fun bt211 => (some (bt211.1, bt211.2))) = some (r1, r2) := h
  clear h
  replace H := Option.bind_eq_some_iff.mp H
  obtain ⟨⟨t211, t212⟩, A30, H⟩ := H
  replace H : (some (t211, t212)) = some (r1, r2) := H
  have A3 := Aside0.mk A30
  clear A30
  simp only [Option.some.injEq, Prod.mk.injEq] at H
  obtain ⟨rfl, rfl⟩ := H
  go_enter Try.func87, Try.ntmps87
  go_wp2_with (first | ((with_reducible refine gate_callee (f := 115) rfl ?_); refine gla_ (some 8) Try.func115 #[.string a0, .string a1] ?_; (with_reducible refine (stringslite_CutPrefix.calls a0 a1 t211 t212 _ A3.out).mono ?_); rintro e w' ⟨rfl, ⟨nd, rfl⟩⟩; refine ⟨_, rfl, ?_⟩))
  go_ret2
  exact ⟨by first | rfl | (simp; done) | (simp [*]; done), by repeat (first | exact Drawn0.refl _ | apply Drawn0.step)⟩
/-! ### num_count: function 116, by hand -/
/-- the digits of a number, from some on -/
def num_count.go : List UInt8 → Int → Option Int
  | [], n => some n
  | c :: l, n => if (c.toNat : Int) < 48 then none else if (c.toNat : Int) > 57 then none else num_count.go l (wrap64 ((wrap64 (10 * n)) + ((c.toNat : Int) - 48)))
def num_count.f (a0 : ByteArray) (a1 : Int) : Option (Int × Bool) :=
  if 1 ≤ (a0.size : Int) ∧ (a0.size : Int) ≤ a1 then (if a0.size ≤ 9223372036854775807 then (match num_count.go a0.data.toList 0 with | some n => some (n, true) | none => some (0, false)) else none) else some (0, false)
theorem num_count.drop (s : ByteArray) (i : Nat) (n : Int) (h : i < s.size) : num_count.go (s.data.toList.drop i) n =
    if bt s i < 48 then none else if bt s i > 57 then none else num_count.go (s.data.toList.drop (i + 1)) (wrap64 ((wrap64 (10 * n)) + (bt s i - 48))) := by
  have h' : i < s.data.toList.length := by rw [data_length]; exact h
  rw [List.drop_eq_getElem_cons h']
  simp only [num_count.go]
  have e : bt s (i : Int) = (s.data.toList[i].toNat : Int) := by simp [bt, h]; rfl
  rw [e]
theorem num_count.lit (w : World) (n : Int) : Kd.C (Kd.int .i64) (w.alloc (.cells #[.int .i64 n] 3)) (some ⟨w.heap.size, 0, none⟩) 1 [n] := by
  refine Kd.C_of_reads (d := 0) ⟨rfl, by omega, fun _ => ⟨_, rfl, fun j hj => ?_⟩⟩
  obtain rfl : j = 0 := by omega
  simp [Addr.add]
set_option maxHeartbeats 4000000 in
set_option maxRecDepth 100000 in
theorem num_count.calls (a0 : ByteArray) (a1 : Int) (r1 : Int) (r2 : Bool) (w : World) (h : num_count.f a0 a1 = some (r1, r2)) :
    Calls Try.prog 116 #[.string a0, .int .i64 a1] w fun e w' => e = .returned (.tuple #[.int .i64 r1, .bool r2]) ∧ Below w.heap.size w w' := by
  have HL := num_count.lit w (a0.size : Int)
  have HC := num_within.calls 1 a1 (some ⟨w.heap.size, 0, none⟩) 1 [(a0.size : Int)] _ (w.alloc (.cells #[.int .i64 (a0.size : Int)] 3)) HL (by simp) rfl
  have hb : [(a0.size : Int)].all (fun n => decide (1 ≤ n) && decide (n ≤ a1)) = decide (1 ≤ (a0.size : Int) ∧ (a0.size : Int) ≤ a1) := by simp
  rw [hb] at HC
  have HC := Aside0.mk HC
  have HB := Aside0.mk (below_alloc (Below.refl w.heap.size w) (.cells #[.int .i64 (a0.size : Int)] 3))
  clear HL hb
  unfold num_count.f at h
  by_cases c : 1 ≤ (a0.size : Int) ∧ (a0.size : Int) ≤ a1
  · rw [if_pos c] at h
    have c0 : decide (1 ≤ (a0.size : Int) ∧ (a0.size : Int) ≤ a1) = true := decide_eq_true c
    rw [c0] at HC
    by_cases hs : a0.size ≤ 9223372036854775807
    case neg => rw [if_neg hs] at h; exact absurd h (by simp)
    rw [if_pos hs] at h
    clear c0 c
    have kb := fun W => print_bytes (P := Try.prog) 9 116 5 Try.underlying9 Try.underlying116 Try.underlying5 a0 W
    have HH := Aside0.mk h
    clear h
    go_enter Try.func116, Try.ntmps116
    go_wp2_with (fail)
    refine HC.out.mono ?_
    rintro e w1 ⟨rfl, hb⟩
    have HB1 := Aside0.mk (below_step HB.out hb)
    clear hb HC HB
    go_wp2
    go_loopg [6, 8, 18] a0.size (fun kq v6 v8 v18 w' => ∃ (i : Nat) (n : Int), v18 = .int .i64 i ∧ v6 = .int .i64 n ∧ Aside0 (kq + i = a0.size) ∧ Aside0 ((match num_count.go (a0.data.toList.drop i) n with | some n => some (n, true) | none => some (0, false)) = some (r1, r2)) ∧ Aside0 (Below w.heap.size w w') ∧ Aside0 (Below (Lib.bytesWorld w1 5 a0).heap.size (Lib.bytesWorld w1 5 a0) w'))
    case atStart => exact ⟨0, 0, rfl, rfl, ⟨by simp⟩, HH, ⟨bytes_below HB1.out HB1.out.size _ _⟩, ⟨Below.refl _ _⟩⟩
    case round =>
      clear HH
      obtain ⟨i, n, rfl, rfl, HK, HH, HB2, HB3⟩ := hrel
      by_cases hlt : i < a0.size
      · have hb0 : decide ((i : Int) < (a0.size : Int)) = true := by simp; exact hlt
        have hh := HH.out
        rw [num_count.drop a0 i n hlt] at hh
        have HR := Kd.C_below (Kd.C_of_reads (h1 := fun _ => rfl) (bytes_reads w1 5 a0 hs)) HB3.out
        obtain ⟨ad, e1, hx⟩ := Kd.at_int HR (i : Int) (by omega) (by omega)
        obtain rfl := Option.some.inj e1
        simp only [Int.toNat_natCast, rd_bytesOf, add_plain, Nat.zero_add] at hx
        have hbt := bt_range a0 (i : Int)
        clear HR e1 HH kb
        generalize bt a0 (i : Int) = x at *
        by_cases c1 : x < 48
        · rw [if_pos c1] at hh
          have c1b : decide (x < 48) = true := decide_eq_true c1
          simp only [Option.some.injEq, Prod.mk.injEq] at hh
          obtain ⟨rfl, rfl⟩ := hh
          go_wp2
          go_ret2
          exact ⟨rfl, HB2.out⟩
        · rw [if_neg c1] at hh
          have c1b : decide (x < 48) = false := decide_eq_false c1
          by_cases c2 : x > 57
          · rw [if_pos c2] at hh
            have c2b : decide (57 < x) = true := decide_eq_true c2
            simp only [Option.some.injEq, Prod.mk.injEq] at hh
            obtain ⟨rfl, rfl⟩ := hh
            go_wp2
            go_ret2
            exact ⟨rfl, HB2.out⟩
          · rw [if_neg c2] at hh
            have c2b : decide (57 < x) = false := decide_eq_false c2
            have HH := Aside0.mk hh
            clear hh
            go_wp2
            go_roundg (a0.size - (i + 1))
            case measure => have := HK.out; omega
            case rel => exact ⟨i + 1, _, by go_num, rfl, ⟨by omega⟩, HH, HB2, HB3⟩
      · have hb0 : decide ((i : Int) < (a0.size : Int)) = false := by simp; omega
        have hh := HH.out
        rw [List.drop_of_length_le (by rw [data_length]; omega)] at hh
        simp only [num_count.go, Option.some.injEq, Prod.mk.injEq] at hh
        obtain ⟨rfl, rfl⟩ := hh
        clear HH kb
        go_wp2
        go_ret2
        exact ⟨rfl, HB2.out⟩
  · rw [if_neg c] at h
    have c0 : decide (1 ≤ (a0.size : Int) ∧ (a0.size : Int) ≤ a1) = false := decide_eq_false c
    rw [c0] at HC
    simp only [Option.some.injEq, Prod.mk.injEq] at h
    obtain ⟨rfl, rfl⟩ := h
    clear c0 c
    go_enter Try.func116, Try.ntmps116
    go_wp2_with (fail)
    refine HC.out.mono ?_
    rintro e w1 ⟨rfl, hb⟩
    have HB1 := Aside0.mk (below_step HB.out hb)
    clear hb
    go_wp2
    go_ret2
    exact ⟨rfl, HB1.out⟩
/-! ### num_plain: function 89 -/
def num_plain.f (a0 : ByteArray) (a1 : Int) : Option (Int × Bool) := (num_count.f a0 a1).bind fun bt213 => (if bt213.2 = true then (if (a0.size : Int) = 1 then (some (bt213.1, true)) else (if 0 < (a0.size : Int) then (some (bt213.1, ((bt a0 0) != 48))) else (none))) else (some (bt213.1, false)))
set_option maxHeartbeats 8000000 in
set_option maxRecDepth 100000 in
theorem num_plain.calls (a0 : ByteArray) (a1 : Int) (r1 : Int) (r2 : Bool) (w : World) (h : num_plain.f a0 a1 = some (r1, r2)) :
    Calls Try.prog 89 #[.string a0, .int .i64 a1] w fun e w' => e = .returned (.tuple #[.int .i64 r1, .bool r2]) ∧ Below w.heap.size w w' := by
  have HB := Aside0.mk (Below.refl w.heap.size w)
  have H : ((num_count.f a0 a1).bind fun bt213 => (if bt213.2 = true then (if (a0.size : Int) = 1 then (some (bt213.1, true)) else (if 0 < (a0.size : Int) then (some (bt213.1, ((bt a0 0) != 48))) else (none))) else (some (bt213.1, false)))) = some (r1, r2) := h
  clear h
  replace H := Option.bind_eq_some_iff.mp H
  obtain ⟨⟨t213, t214⟩, A30, H⟩ := H
  replace H : (if t214 = true then (if (a0.size : Int) = 1 then (some (t213, true)) else (if 0 < (a0.size : Int) then (some (t213, ((bt a0 0) != 48))) else (none))) else (some (t213, false))) = some (r1, r2) := H
  have A3 := Aside0.mk A30
  clear A30
  by_cases c4 : t214 = true
  · subst c4
    have H1 : (if (a0.size : Int) = 1 then (some (t213, true)) else (if 0 < (a0.size : Int) then (some (t213, ((bt a0 0) != 48))) else (none))) = some (r1, r2) := by rw [if_pos rfl] at H; exact H
    clear H
    have H := H1
    clear H1
    by_cases c5 : (a0.size : Int) = 1
    · rw [if_pos c5] at H
      have c5b0 : ((a0.size : Int) == 1) = true := beq_iff_eq.mpr c5
      have c5b1 : ((a0.size : Int) != 1) = false := bne_eq_false_iff_eq.mpr c5
      clear c5
      simp only [Option.some.injEq, Prod.mk.injEq] at H
      obtain ⟨rfl, rfl⟩ := H
      go_enter Try.func89, Try.ntmps89
      go_wp2_with (first | (go_at_call 116; (with_reducible refine (num_count.calls a0 a1 t213 true _ A3.out).mono ?_); rintro e w6 ⟨rfl, hb⟩; replace HB := bws_ HB hb; (try clear hb); (try clear hb2); (try clear hk); (try clear hi)))
      repeat (go_quiet (first | (go_at_call 116; (with_reducible refine (num_count.calls a0 a1 t213 true _ A3.out).mono ?_); rintro e w6 ⟨rfl, hb⟩; replace HB := bws_ HB hb; (try clear hb); (try clear hb2); (try clear hk); (try clear hi))); try go_wp2_with (first | (go_at_call 116; (with_reducible refine (num_count.calls a0 a1 t213 true _ A3.out).mono ?_); rintro e w6 ⟨rfl, hb⟩; replace HB := bws_ HB hb; (try clear hb); (try clear hb2); (try clear hk); (try clear hi))))
      go_ret2
      exact ⟨by first | rfl | (simp [*] <;> rfl), bw_ HB⟩
    · rw [if_neg c5] at H
      have c5b0 : ((a0.size : Int) == 1) = false := beq_eq_false_iff_ne.mpr c5
      have c5b1 : ((a0.size : Int) != 1) = true := bne_iff_ne.mpr c5
      by_cases c7 : 0 < (a0.size : Int)
      · rw [if_pos c7] at H
        have c7b0 : decide (0 < (a0.size : Int)) = true := decide_eq_true c7
        have c7b1 : decide (0 < a0.size) = true := decide_eq_true (by omega)
        clear c7
        simp only [Option.some.injEq, Prod.mk.injEq] at H
        obtain ⟨rfl, rfl⟩ := H
        go_enter Try.func89, Try.ntmps89
        go_wp2_with (first | (go_at_call 116; (with_reducible refine (num_count.calls a0 a1 t213 true _ A3.out).mono ?_); rintro e w9 ⟨rfl, hb⟩; replace HB := bws_ HB hb; (try clear hb); (try clear hb2); (try clear hk); (try clear hi); have p8 : 0 ≤ (0 : Int) := (by omega); have q8 : 0 < a0.size := (by have : (0 : Int) < (a0.size : Int) := of_decide_eq_true (by first | (with_reducible assumption) | assumption); omega); have hx8 : ∀ h : 0 < a0.size, ((a0[0]'h).toNat : Int) = bt a0 0 := bt_at a0 0; clear p8; have qi8 : (0 < (a0.size : Int)) = True := eq_true (of_decide_eq_true (by first | (with_reducible assumption) | assumption)); replace q8 := eq_true q8))
        repeat (go_quiet (first | (go_at_call 116; (with_reducible refine (num_count.calls a0 a1 t213 true _ A3.out).mono ?_); rintro e w9 ⟨rfl, hb⟩; replace HB := bws_ HB hb; (try clear hb); (try clear hb2); (try clear hk); (try clear hi); have p8 : 0 ≤ (0 : Int) := (by omega); have q8 : 0 < a0.size := (by have : (0 : Int) < (a0.size : Int) := of_decide_eq_true (by first | (with_reducible assumption) | assumption); omega); have hx8 : ∀ h : 0 < a0.size, ((a0[0]'h).toNat : Int) = bt a0 0 := bt_at a0 0; clear p8; have qi8 : (0 < (a0.size : Int)) = True := eq_true (of_decide_eq_true (by first | (with_reducible assumption) | assumption)); replace q8 := eq_true q8)); try go_wp2_with (first | (go_at_call 116; (with_reducible refine (num_count.calls a0 a1 t213 true _ A3.out).mono ?_); rintro e w9 ⟨rfl, hb⟩; replace HB := bws_ HB hb; (try clear hb); (try clear hb2); (try clear hk); (try clear hi); have p8 : 0 ≤ (0 : Int) := (by omega); have q8 : 0 < a0.size := (by have : (0 : Int) < (a0.size : Int) := of_decide_eq_true (by first | (with_reducible assumption) | assumption); omega); have hx8 : ∀ h : 0 < a0.size, ((a0[0]'h).toNat : Int) = bt a0 0 := bt_at a0 0; clear p8; have qi8 : (0 < (a0.size : Int)) = True := eq_true (of_decide_eq_true (by first | (with_reducible assumption) | assumption)); replace q8 := eq_true q8)))
        go_ret2
        exact ⟨by first | rfl | (simp [*] <;> rfl), bw_ HB⟩
      · rw [if_neg c7] at H
        exact absurd H (by simp)
  · replace c4 := Bool.eq_false_iff.mpr c4
    subst c4
    have H1 : (some (t213, false)) = some (r1, r2) := by rw [if_neg (show ¬ (false = true) by decide)] at H; exact H
    clear H
    have H := H1
    clear H1
    simp only [Option.some.injEq, Prod.mk.injEq] at H
    obtain ⟨rfl, rfl⟩ := H
    go_enter Try.func89, Try.ntmps89
    go_wp2_with (first | (go_at_call 116; (with_reducible refine (num_count.calls a0 a1 t213 false _ A3.out).mono ?_); rintro e w10 ⟨rfl, hb⟩; replace HB := bws_ HB hb; (try clear hb); (try clear hb2); (try clear hk); (try clear hi)))
    repeat (go_quiet (first | (go_at_call 116; (with_reducible refine (num_count.calls a0 a1 t213 false _ A3.out).mono ?_); rintro e w10 ⟨rfl, hb⟩; replace HB := bws_ HB hb; (try clear hb); (try clear hb2); (try clear hk); (try clear hi))); try go_wp2_with (first | (go_at_call 116; (with_reducible refine (num_count.calls a0 a1 t213 false _ A3.out).mono ?_); rintro e w10 ⟨rfl, hb⟩; replace HB := bws_ HB hb; (try clear hb); (try clear hb2); (try clear hk); (try clear hi))))
    go_ret2
    exact ⟨by first | rfl | (simp [*] <;> rfl), bw_ HB⟩
/-! ### num_decimal: function 88 -/
def num_decimal.f (k : Nat) (a0 : ByteArray) (a1 : ByteArray) (a2 : Bool) : Option (Int × Int × Int) := (num_plain.f a0 9).bind fun bt217 => ((num_count.f a1 9).bind fun bt219 => (if bt217.2 = true then (if bt219.2 = true then ((num_power.f k (a1.size : Int)).bind fun t221 => (if a2 = true then ((num_ratio_num.f k (wrap64 (-(wrap64 ((wrap64 (bt217.1 * t221)) + bt219.1)))) t221).bind fun tz_ => exc tz_ (fun tp224 => (some (0, 0, 8))) (fun bt222 => (some (bt222.1, bt222.2, 0)))) else ((num_ratio_num.f k (wrap64 ((wrap64 (bt217.1 * t221)) + bt219.1)) t221).bind fun tz_ => exc tz_ (fun tp227 => (some (0, 0, 8))) (fun bt225 => (some (bt225.1, bt225.2, 0)))))) else (some (0, 0, 1))) else (some (0, 0, 1))))
theorem num_decimal.mono : ∀ a0 a1 a2 k, LeO (num_decimal.f k a0 a1 a2) (num_decimal.f (k + 1) a0 a1 a2) := by
  intro a0 a1 a2 k
  unfold num_decimal.f
  repeat' first
      | (with_reducible exact num_power.mono _ _)
      | (with_reducible exact num_ratio_num.mono _ _ _)
      | (with_reducible exact LeO.refl _)
      | (with_reducible exact LeO.none _)
      | (with_reducible refine LeO.ite ?_ ?_)
      | (with_reducible refine LeO.bind ?_ (fun _ => ?_))
      | (with_reducible refine LeO.exc (fun _ => ?_) (fun _ => ?_))
      | exact num_power.mono _ _
      | exact num_ratio_num.mono _ _ _
      | exact LeO.none _
      | refine LeO.ite ?_ ?_
      | refine LeO.bind ?_ (fun _ => ?_)
set_option maxHeartbeats 8000000 in
set_option maxRecDepth 100000 in
theorem num_decimal.calls (k : Nat) (a0 : ByteArray) (a1 : ByteArray) (a2 : Bool) (r1 : Int) (r2 : Int) (r3 : Int) (w : World) (h : num_decimal.f k a0 a1 a2 = some (r1, r2, r3)) :
    Calls Try.prog 88 #[.string a0, .string a1, .bool a2] w fun e w' => e = .returned (.tuple #[.agg #[.int .i64 r1, .int .i64 r2], .int .i64 r3]) ∧ Below w.heap.size w w' := by
  have hu23 := Try.underlying23
  have hu65 := Try.underlying65
  have HB := Aside0.mk (Below.refl w.heap.size w)
  have H : ((num_plain.f a0 9).bind fun bt217 => ((num_count.f a1 9).bind fun bt219 => (if bt217.2 = true then (if bt219.2 = true then ((num_power.f k (a1.size : Int)).bind fun t221 => (if a2 = true then ((num_ratio_num.f k (wrap64 (-(wrap64 ((wrap64 (bt217.1 * t221)) + bt219.1)))) t221).bind fun tz_ => exc tz_ (fun tp224 => (some (0, 0, 8))) (fun bt222 => (some (bt222.1, bt222.2, 0)))) else ((num_ratio_num.f k (wrap64 ((wrap64 (bt217.1 * t221)) + bt219.1)) t221).bind fun tz_ => exc tz_ (fun tp227 => (some (0, 0, 8))) (fun bt225 => (some (bt225.1, bt225.2, 0)))))) else (some (0, 0, 1))) else (some (0, 0, 1))))) = some (r1, r2, r3) := h
  clear h
  replace H := Option.bind_eq_some_iff.mp H
  obtain ⟨⟨t217, t218⟩, A40, H⟩ := H
  replace H : ((num_count.f a1 9).bind fun bt219 => (if t218 = true then (if bt219.2 = true then ((num_power.f k (a1.size : Int)).bind fun t221 => (if a2 = true then ((num_ratio_num.f k (wrap64 (-(wrap64 ((wrap64 (t217 * t221)) + bt219.1)))) t221).bind fun tz_ => exc tz_ (fun tp224 => (some (0, 0, 8))) (fun bt222 => (some (bt222.1, bt222.2, 0)))) else ((num_ratio_num.f k (wrap64 ((wrap64 (t217 * t221)) + bt219.1)) t221).bind fun tz_ => exc tz_ (fun tp227 => (some (0, 0, 8))) (fun bt225 => (some (bt225.1, bt225.2, 0)))))) else (some (0, 0, 1))) else (some (0, 0, 1)))) = some (r1, r2, r3) := H
  have A4 := Aside0.mk A40
  clear A40
  replace H := Option.bind_eq_some_iff.mp H
  obtain ⟨⟨t219, t220⟩, A50, H⟩ := H
  replace H : (if t218 = true then (if t220 = true then ((num_power.f k (a1.size : Int)).bind fun t221 => (if a2 = true then ((num_ratio_num.f k (wrap64 (-(wrap64 ((wrap64 (t217 * t221)) + t219)))) t221).bind fun tz_ => exc tz_ (fun tp224 => (some (0, 0, 8))) (fun bt222 => (some (bt222.1, bt222.2, 0)))) else ((num_ratio_num.f k (wrap64 ((wrap64 (t217 * t221)) + t219)) t221).bind fun tz_ => exc tz_ (fun tp227 => (some (0, 0, 8))) (fun bt225 => (some (bt225.1, bt225.2, 0)))))) else (some (0, 0, 1))) else (some (0, 0, 1))) = some (r1, r2, r3) := H
  have A5 := Aside0.mk A50
  clear A50
  by_cases c6 : t218 = true
  · subst c6
    have H1 : (if t220 = true then ((num_power.f k (a1.size : Int)).bind fun t221 => (if a2 = true then ((num_ratio_num.f k (wrap64 (-(wrap64 ((wrap64 (t217 * t221)) + t219)))) t221).bind fun tz_ => exc tz_ (fun tp224 => (some (0, 0, 8))) (fun bt222 => (some (bt222.1, bt222.2, 0)))) else ((num_ratio_num.f k (wrap64 ((wrap64 (t217 * t221)) + t219)) t221).bind fun tz_ => exc tz_ (fun tp227 => (some (0, 0, 8))) (fun bt225 => (some (bt225.1, bt225.2, 0)))))) else (some (0, 0, 1))) = some (r1, r2, r3) := by rw [if_pos rfl] at H; exact H
    clear H
    have H := H1
    clear H1
    by_cases c7 : t220 = true
    · subst c7
      have H1 : ((num_power.f k (a1.size : Int)).bind fun t221 => (if a2 = true then ((num_ratio_num.f k (wrap64 (-(wrap64 ((wrap64 (t217 * t221)) + t219)))) t221).bind fun tz_ => exc tz_ (fun tp224 => (some (0, 0, 8))) (fun bt222 => (some (bt222.1, bt222.2, 0)))) else ((num_ratio_num.f k (wrap64 ((wrap64 (t217 * t221)) + t219)) t221).bind fun tz_ => exc tz_ (fun tp227 => (some (0, 0, 8))) (fun bt225 => (some (bt225.1, bt225.2, 0)))))) = some (r1, r2, r3) := by rw [if_pos rfl] at H; exact H
      clear H
      have H := H1
      clear H1
      replace H := Option.bind_eq_some_iff.mp H
      obtain ⟨t221, A80, H⟩ := H
      replace H : (if a2 = true then ((num_ratio_num.f k (wrap64 (-(wrap64 ((wrap64 (t217 * t221)) + t219)))) t221).bind fun tz_ => exc tz_ (fun tp224 => (some (0, 0, 8))) (fun bt222 => (some (bt222.1, bt222.2, 0)))) else ((num_ratio_num.f k (wrap64 ((wrap64 (t217 * t221)) + t219)) t221).bind fun tz_ => exc tz_ (fun tp227 => (some (0, 0, 8))) (fun bt225 => (some (bt225.1, bt225.2, 0))))) = some (r1, r2, r3) := H
      have A8 := Aside0.mk A80
      clear A80
      by_cases c9 : a2 = true
      · subst c9
        have H1 : ((num_ratio_num.f k (wrap64 (-(wrap64 ((wrap64 (t217 * t221)) + t219)))) t221).bind fun tz_ => exc tz_ (fun tp224 => (some (0, 0, 8))) (fun bt222 => (some (bt222.1, bt222.2, 0)))) = some (r1, r2, r3) := by rw [if_pos rfl] at H; exact H
        clear H
        have H := H1
        clear H1
        replace H := Option.bind_eq_some_iff.mp H
        obtain ⟨tz_, A100, H⟩ := H
        cases tz_ with
        | error tp224 =>
          replace H : (some (0, 0, 8)) = some (r1, r2, r3) := H
          have A10 := Aside0.mk A100
          clear A100
          simp only [Option.some.injEq, Prod.mk.injEq] at H
          obtain ⟨rfl, rfl, rfl⟩ := H
          go_enter_defers Try.func88, Try.ntmps88
          go_wp2_with (first | ((with_reducible refine gate_dst (N := 6) rfl ?_); refine box_event ?hg (N := 6) ?hd (cs := #[.int .i64 0, .int .i64 0]) (t := 23) ?hr ?_; (case hd => rfl); (case hg => rfl); (case hr => first | (go_simp; done) | (go_simp; rfl)); intro gb215 hg w11 hbox hb; have BK215 := Aside0.mk hbox; have GW215 := bwg_ HB hg; have GE215 := bwg_ HB hg; replace HB := bws_ HB hb; clear hb hbox hg) | ((with_reducible refine gate_dst (N := 7) rfl ?_); refine box_event ?hg (N := 7) ?hd (cs := #[.int .i64 0]) (t := 26) ?hr ?_; (case hd => rfl); (case hg => rfl); (case hr => first | (go_simp; done) | (go_simp; rfl)); intro gb216 hg w12 hbox hb; have BK216 := Aside0.mk hbox; have GW216 := bwg_ HB hg; have GE216 := bwg_ HB hg; replace HB := bws_ HB hb; have NB215_216 := bkl_ BK215 hg; have NB216_215 := bkr_ BK215 hg; replace BK215 := bkb_ BK215 hb; clear hb hbox hg) | ((with_reducible refine gate_callee (f := 89) rfl ?_); refine gla_ (some 15) Try.func89 #[.string a0, .int .i64 9] ?_; (with_reducible refine (num_plain.calls a0 9 t217 true _ A4.out).mono ?_); rintro e w13 ⟨rfl, hb⟩; refine ⟨_, rfl, ?_⟩; replace BK215 := bkb_ BK215 hb; replace BK216 := bkb_ BK216 hb; replace HB := bws_ HB hb; (try clear hb); (try clear hb2); (try clear hk); (try clear hi)) | ((with_reducible refine gate_callee (f := 116) rfl ?_); refine gla_ (some 20) Try.func116 #[.string a1, .int .i64 9] ?_; (with_reducible refine (num_count.calls a1 9 t219 true _ A5.out).mono ?_); rintro e w14 ⟨rfl, hb⟩; refine ⟨_, rfl, ?_⟩; replace BK215 := bkb_ BK215 hb; replace BK216 := bkb_ BK216 hb; replace HB := bws_ HB hb; (try clear hb); (try clear hb2); (try clear hk); (try clear hi)) | ((with_reducible refine gate_callee (f := 81) rfl ?_); refine gla_ (some 32) Try.func81 #[.int .i64 (a1.size : Int)] ?_; (with_reducible refine (num_power.calls k (a1.size : Int) t221 _ A8.out).mono ?_); rintro e w' ⟨rfl, ⟨nd, rfl⟩⟩; refine ⟨_, rfl, ?_⟩) | (go_at_call 73; (with_reducible refine (num_ratio_num.throws k (wrap64 (-(wrap64 ((wrap64 (t217 * t221)) + t219)))) t221 tp224 _ A10.out).mono ?_); rintro e w15 ⟨rfl, hb⟩; replace BK215 := bkb_ BK215 hb; replace BK216 := bkb_ BK216 hb; replace HB := bws_ HB hb; (try clear hb); (try clear hb2); (try clear hk); (try clear hi)))
          show Leaves _ _ _ _ _ _ _
          exact num_catch.door_caught rfl _ _ _ gb215 gb216 _ _ _ rfl rfl (bk_ BK215) (bk_ BK216) NB215_216.out (bw_ HB) GE215.out GE216.out
        | ok bt222 =>
          obtain ⟨t222, t223⟩ := bt222
          replace H : (some (t222, t223, 0)) = some (r1, r2, r3) := H
          have A10 := Aside0.mk A100
          clear A100
          simp only [Option.some.injEq, Prod.mk.injEq] at H
          obtain ⟨rfl, rfl, rfl⟩ := H
          go_enter_defers Try.func88, Try.ntmps88
          go_wp2_with (first | ((with_reducible refine gate_dst (N := 6) rfl ?_); refine box_event ?hg (N := 6) ?hd (cs := #[.int .i64 0, .int .i64 0]) (t := 23) ?hr ?_; (case hd => rfl); (case hg => rfl); (case hr => first | (go_simp; done) | (go_simp; rfl)); intro gb215 hg w16 hbox hb; have BK215 := Aside0.mk hbox; have GW215 := bwg_ HB hg; have GE215 := bwg_ HB hg; replace HB := bws_ HB hb; clear hb hbox hg) | ((with_reducible refine gate_dst (N := 7) rfl ?_); refine box_event ?hg (N := 7) ?hd (cs := #[.int .i64 0]) (t := 26) ?hr ?_; (case hd => rfl); (case hg => rfl); (case hr => first | (go_simp; done) | (go_simp; rfl)); intro gb216 hg w17 hbox hb; have BK216 := Aside0.mk hbox; have GW216 := bwg_ HB hg; have GE216 := bwg_ HB hg; replace HB := bws_ HB hb; have NB215_216 := bkl_ BK215 hg; have NB216_215 := bkr_ BK215 hg; replace BK215 := bkb_ BK215 hb; clear hb hbox hg) | ((with_reducible refine gate_callee (f := 89) rfl ?_); refine gla_ (some 15) Try.func89 #[.string a0, .int .i64 9] ?_; (with_reducible refine (num_plain.calls a0 9 t217 true _ A4.out).mono ?_); rintro e w18 ⟨rfl, hb⟩; refine ⟨_, rfl, ?_⟩; replace BK215 := bkb_ BK215 hb; replace BK216 := bkb_ BK216 hb; replace HB := bws_ HB hb; (try clear hb); (try clear hb2); (try clear hk); (try clear hi)) | ((with_reducible refine gate_callee (f := 116) rfl ?_); refine gla_ (some 20) Try.func116 #[.string a1, .int .i64 9] ?_; (with_reducible refine (num_count.calls a1 9 t219 true _ A5.out).mono ?_); rintro e w19 ⟨rfl, hb⟩; refine ⟨_, rfl, ?_⟩; replace BK215 := bkb_ BK215 hb; replace BK216 := bkb_ BK216 hb; replace HB := bws_ HB hb; (try clear hb); (try clear hb2); (try clear hk); (try clear hi)) | ((with_reducible refine gate_callee (f := 81) rfl ?_); refine gla_ (some 32) Try.func81 #[.int .i64 (a1.size : Int)] ?_; (with_reducible refine (num_power.calls k (a1.size : Int) t221 _ A8.out).mono ?_); rintro e w' ⟨rfl, ⟨nd, rfl⟩⟩; refine ⟨_, rfl, ?_⟩; (try (rw [drewN_self w19]; generalize hq_ : World.drewN w19 _ = w19; have n0_ : Aside0 (w19.heap[gb215]? = some (.cells #[.int .i64 0, .int .i64 0] 23 (0, 0))) := ⟨by rw [← hq_]; exact (bk_ BK215)⟩; have n1_ : Aside0 (w19.heap[gb216]? = some (.cells #[.int .i64 0] 26 (0, 0))) := ⟨by rw [← hq_]; exact (bk_ BK216)⟩; have n2_ : Aside0 (Below w.heap.size w w19) := ⟨by rw [← hq_]; exact (bw_ HB)⟩; clear BK215 BK216 HB hq_; have BK215 := n0_; have BK216 := n1_; have HB := n2_; clear n0_ n1_ n2_))) | ((with_reducible refine gate_callee (f := 73) rfl ?_); refine gla_ (some 44) Try.func73 #[.agg #[.int .i64 (wrap64 (-(wrap64 ((wrap64 (t217 * t221)) + t219)))), .int .i64 t221]] ?_; (with_reducible refine (num_ratio_num.calls k (wrap64 (-(wrap64 ((wrap64 (t217 * t221)) + t219)))) t221 t222 t223 _ A10.out).mono ?_); rintro e w20 ⟨rfl, hb⟩; refine ⟨_, rfl, ?_⟩; replace BK215 := bkb_ BK215 hb; replace BK216 := bkb_ BK216 hb; replace HB := bws_ HB hb; (try clear hb); (try clear hb2); (try clear hk); (try clear hi); have hnb21 := NB215_216.out; have hnc21 := NB216_215.out; obtain ⟨hcz22_0, hcz22_1, hfz22_0, hfz22_1⟩ := bc2_ BK215; obtain ⟨hcz23_0, hfz23_0⟩ := bc1_ BK216))
          show Leaves _ _ _ _ _ _ _
          exact num_catch.door_ok rfl _ _ _ gb215 gb216 _ _ _ rfl rfl (by refine bf_ ?_ NB215_216; refine bp_ (cs := #[.int .i64 t222, .int .i64 0]) ?_ 1; refine bp_ (cs := #[.int .i64 0, .int .i64 0]) ?_ 0; exact bk_ BK215) (by refine bp_ (cs := #[.int .i64 0]) ?_ 0; refine bf_ ?_ NB216_215; refine bf_ ?_ NB216_215; exact bk_ BK216) (bw_ HB)
      · replace c9 := Bool.eq_false_iff.mpr c9
        subst c9
        have H1 : ((num_ratio_num.f k (wrap64 ((wrap64 (t217 * t221)) + t219)) t221).bind fun tz_ => exc tz_ (fun tp227 => (some (0, 0, 8))) (fun bt225 => (some (bt225.1, bt225.2, 0)))) = some (r1, r2, r3) := by rw [if_neg (show ¬ (false = true) by decide)] at H; exact H
        clear H
        have H := H1
        clear H1
        replace H := Option.bind_eq_some_iff.mp H
        obtain ⟨tz_, A240, H⟩ := H
        cases tz_ with
        | error tp227 =>
          replace H : (some (0, 0, 8)) = some (r1, r2, r3) := H
          have A24 := Aside0.mk A240
          clear A240
          simp only [Option.some.injEq, Prod.mk.injEq] at H
          obtain ⟨rfl, rfl, rfl⟩ := H
          go_enter_defers Try.func88, Try.ntmps88
          go_wp2_with (first | ((with_reducible refine gate_dst (N := 6) rfl ?_); refine box_event ?hg (N := 6) ?hd (cs := #[.int .i64 0, .int .i64 0]) (t := 23) ?hr ?_; (case hd => rfl); (case hg => rfl); (case hr => first | (go_simp; done) | (go_simp; rfl)); intro gb215 hg w25 hbox hb; have BK215 := Aside0.mk hbox; have GW215 := bwg_ HB hg; have GE215 := bwg_ HB hg; replace HB := bws_ HB hb; clear hb hbox hg) | ((with_reducible refine gate_dst (N := 7) rfl ?_); refine box_event ?hg (N := 7) ?hd (cs := #[.int .i64 0]) (t := 26) ?hr ?_; (case hd => rfl); (case hg => rfl); (case hr => first | (go_simp; done) | (go_simp; rfl)); intro gb216 hg w26 hbox hb; have BK216 := Aside0.mk hbox; have GW216 := bwg_ HB hg; have GE216 := bwg_ HB hg; replace HB := bws_ HB hb; have NB215_216 := bkl_ BK215 hg; have NB216_215 := bkr_ BK215 hg; replace BK215 := bkb_ BK215 hb; clear hb hbox hg) | ((with_reducible refine gate_callee (f := 89) rfl ?_); refine gla_ (some 15) Try.func89 #[.string a0, .int .i64 9] ?_; (with_reducible refine (num_plain.calls a0 9 t217 true _ A4.out).mono ?_); rintro e w27 ⟨rfl, hb⟩; refine ⟨_, rfl, ?_⟩; replace BK215 := bkb_ BK215 hb; replace BK216 := bkb_ BK216 hb; replace HB := bws_ HB hb; (try clear hb); (try clear hb2); (try clear hk); (try clear hi)) | ((with_reducible refine gate_callee (f := 116) rfl ?_); refine gla_ (some 20) Try.func116 #[.string a1, .int .i64 9] ?_; (with_reducible refine (num_count.calls a1 9 t219 true _ A5.out).mono ?_); rintro e w28 ⟨rfl, hb⟩; refine ⟨_, rfl, ?_⟩; replace BK215 := bkb_ BK215 hb; replace BK216 := bkb_ BK216 hb; replace HB := bws_ HB hb; (try clear hb); (try clear hb2); (try clear hk); (try clear hi)) | ((with_reducible refine gate_callee (f := 81) rfl ?_); refine gla_ (some 32) Try.func81 #[.int .i64 (a1.size : Int)] ?_; (with_reducible refine (num_power.calls k (a1.size : Int) t221 _ A8.out).mono ?_); rintro e w' ⟨rfl, ⟨nd, rfl⟩⟩; refine ⟨_, rfl, ?_⟩) | (go_at_call 73; (with_reducible refine (num_ratio_num.throws k (wrap64 ((wrap64 (t217 * t221)) + t219)) t221 tp227 _ A24.out).mono ?_); rintro e w29 ⟨rfl, hb⟩; replace BK215 := bkb_ BK215 hb; replace BK216 := bkb_ BK216 hb; replace HB := bws_ HB hb; (try clear hb); (try clear hb2); (try clear hk); (try clear hi)))
          show Leaves _ _ _ _ _ _ _
          exact num_catch.door_caught rfl _ _ _ gb215 gb216 _ _ _ rfl rfl (bk_ BK215) (bk_ BK216) NB215_216.out (bw_ HB) GE215.out GE216.out
        | ok bt225 =>
          obtain ⟨t225, t226⟩ := bt225
          replace H : (some (t225, t226, 0)) = some (r1, r2, r3) := H
          have A24 := Aside0.mk A240
          clear A240
          simp only [Option.some.injEq, Prod.mk.injEq] at H
          obtain ⟨rfl, rfl, rfl⟩ := H
          go_enter_defers Try.func88, Try.ntmps88
          go_wp2_with (first | ((with_reducible refine gate_dst (N := 6) rfl ?_); refine box_event ?hg (N := 6) ?hd (cs := #[.int .i64 0, .int .i64 0]) (t := 23) ?hr ?_; (case hd => rfl); (case hg => rfl); (case hr => first | (go_simp; done) | (go_simp; rfl)); intro gb215 hg w30 hbox hb; have BK215 := Aside0.mk hbox; have GW215 := bwg_ HB hg; have GE215 := bwg_ HB hg; replace HB := bws_ HB hb; clear hb hbox hg) | ((with_reducible refine gate_dst (N := 7) rfl ?_); refine box_event ?hg (N := 7) ?hd (cs := #[.int .i64 0]) (t := 26) ?hr ?_; (case hd => rfl); (case hg => rfl); (case hr => first | (go_simp; done) | (go_simp; rfl)); intro gb216 hg w31 hbox hb; have BK216 := Aside0.mk hbox; have GW216 := bwg_ HB hg; have GE216 := bwg_ HB hg; replace HB := bws_ HB hb; have NB215_216 := bkl_ BK215 hg; have NB216_215 := bkr_ BK215 hg; replace BK215 := bkb_ BK215 hb; clear hb hbox hg) | ((with_reducible refine gate_callee (f := 89) rfl ?_); refine gla_ (some 15) Try.func89 #[.string a0, .int .i64 9] ?_; (with_reducible refine (num_plain.calls a0 9 t217 true _ A4.out).mono ?_); rintro e w32 ⟨rfl, hb⟩; refine ⟨_, rfl, ?_⟩; replace BK215 := bkb_ BK215 hb; replace BK216 := bkb_ BK216 hb; replace HB := bws_ HB hb; (try clear hb); (try clear hb2); (try clear hk); (try clear hi)) | ((with_reducible refine gate_callee (f := 116) rfl ?_); refine gla_ (some 20) Try.func116 #[.string a1, .int .i64 9] ?_; (with_reducible refine (num_count.calls a1 9 t219 true _ A5.out).mono ?_); rintro e w33 ⟨rfl, hb⟩; refine ⟨_, rfl, ?_⟩; replace BK215 := bkb_ BK215 hb; replace BK216 := bkb_ BK216 hb; replace HB := bws_ HB hb; (try clear hb); (try clear hb2); (try clear hk); (try clear hi)) | ((with_reducible refine gate_callee (f := 81) rfl ?_); refine gla_ (some 32) Try.func81 #[.int .i64 (a1.size : Int)] ?_; (with_reducible refine (num_power.calls k (a1.size : Int) t221 _ A8.out).mono ?_); rintro e w' ⟨rfl, ⟨nd, rfl⟩⟩; refine ⟨_, rfl, ?_⟩; (try (rw [drewN_self w33]; generalize hq_ : World.drewN w33 _ = w33; have n0_ : Aside0 (w33.heap[gb215]? = some (.cells #[.int .i64 0, .int .i64 0] 23 (0, 0))) := ⟨by rw [← hq_]; exact (bk_ BK215)⟩; have n1_ : Aside0 (w33.heap[gb216]? = some (.cells #[.int .i64 0] 26 (0, 0))) := ⟨by rw [← hq_]; exact (bk_ BK216)⟩; have n2_ : Aside0 (Below w.heap.size w w33) := ⟨by rw [← hq_]; exact (bw_ HB)⟩; clear BK215 BK216 HB hq_; have BK215 := n0_; have BK216 := n1_; have HB := n2_; clear n0_ n1_ n2_))) | ((with_reducible refine gate_callee (f := 73) rfl ?_); refine gla_ (some 44) Try.func73 #[.agg #[.int .i64 (wrap64 ((wrap64 (t217 * t221)) + t219)), .int .i64 t221]] ?_; (with_reducible refine (num_ratio_num.calls k (wrap64 ((wrap64 (t217 * t221)) + t219)) t221 t225 t226 _ A24.out).mono ?_); rintro e w34 ⟨rfl, hb⟩; refine ⟨_, rfl, ?_⟩; replace BK215 := bkb_ BK215 hb; replace BK216 := bkb_ BK216 hb; replace HB := bws_ HB hb; (try clear hb); (try clear hb2); (try clear hk); (try clear hi); have hnb35 := NB215_216.out; have hnc35 := NB216_215.out; obtain ⟨hcz36_0, hcz36_1, hfz36_0, hfz36_1⟩ := bc2_ BK215; obtain ⟨hcz37_0, hfz37_0⟩ := bc1_ BK216))
          show Leaves _ _ _ _ _ _ _
          exact num_catch.door_ok rfl _ _ _ gb215 gb216 _ _ _ rfl rfl (by refine bf_ ?_ NB215_216; refine bp_ (cs := #[.int .i64 t225, .int .i64 0]) ?_ 1; refine bp_ (cs := #[.int .i64 0, .int .i64 0]) ?_ 0; exact bk_ BK215) (by refine bp_ (cs := #[.int .i64 0]) ?_ 0; refine bf_ ?_ NB216_215; refine bf_ ?_ NB216_215; exact bk_ BK216) (bw_ HB)
    · replace c7 := Bool.eq_false_iff.mpr c7
      subst c7
      have H1 : (some (0, 0, 1)) = some (r1, r2, r3) := by rw [if_neg (show ¬ (false = true) by decide)] at H; exact H
      clear H
      have H := H1
      clear H1
      simp only [Option.some.injEq, Prod.mk.injEq] at H
      obtain ⟨rfl, rfl, rfl⟩ := H
      go_enter_defers Try.func88, Try.ntmps88
      go_wp2_with (first | ((with_reducible refine gate_dst (N := 6) rfl ?_); refine box_event ?hg (N := 6) ?hd (cs := #[.int .i64 0, .int .i64 0]) (t := 23) ?hr ?_; (case hd => rfl); (case hg => rfl); (case hr => first | (go_simp; done) | (go_simp; rfl)); intro gb215 hg w38 hbox hb; have BK215 := Aside0.mk hbox; have GW215 := bwg_ HB hg; have GE215 := bwg_ HB hg; replace HB := bws_ HB hb; clear hb hbox hg) | ((with_reducible refine gate_dst (N := 7) rfl ?_); refine box_event ?hg (N := 7) ?hd (cs := #[.int .i64 0]) (t := 26) ?hr ?_; (case hd => rfl); (case hg => rfl); (case hr => first | (go_simp; done) | (go_simp; rfl)); intro gb216 hg w39 hbox hb; have BK216 := Aside0.mk hbox; have GW216 := bwg_ HB hg; have GE216 := bwg_ HB hg; replace HB := bws_ HB hb; have NB215_216 := bkl_ BK215 hg; have NB216_215 := bkr_ BK215 hg; replace BK215 := bkb_ BK215 hb; clear hb hbox hg) | ((with_reducible refine gate_callee (f := 89) rfl ?_); refine gla_ (some 15) Try.func89 #[.string a0, .int .i64 9] ?_; (with_reducible refine (num_plain.calls a0 9 t217 true _ A4.out).mono ?_); rintro e w40 ⟨rfl, hb⟩; refine ⟨_, rfl, ?_⟩; replace BK215 := bkb_ BK215 hb; replace BK216 := bkb_ BK216 hb; replace HB := bws_ HB hb; (try clear hb); (try clear hb2); (try clear hk); (try clear hi)) | ((with_reducible refine gate_callee (f := 116) rfl ?_); refine gla_ (some 20) Try.func116 #[.string a1, .int .i64 9] ?_; (with_reducible refine (num_count.calls a1 9 t219 false _ A5.out).mono ?_); rintro e w41 ⟨rfl, hb⟩; refine ⟨_, rfl, ?_⟩; replace BK215 := bkb_ BK215 hb; replace BK216 := bkb_ BK216 hb; replace HB := bws_ HB hb; (try clear hb); (try clear hb2); (try clear hk); (try clear hi); have hnb42 := NB215_216.out; have hnc42 := NB216_215.out; obtain ⟨hcz43_0, hcz43_1, hfz43_0, hfz43_1⟩ := bc2_ BK215; obtain ⟨hcz44_0, hfz44_0⟩ := bc1_ BK216))
      show Leaves _ _ _ _ _ _ _
      exact num_catch.door_ret rfl _ _ _ gb215 gb216 _ _ _ rfl rfl (by refine bf_ ?_ NB215_216; refine bp_ (cs := #[.int .i64 0, .int .i64 0]) ?_ 1; refine bp_ (cs := #[.int .i64 0, .int .i64 0]) ?_ 0; exact bk_ BK215) (by refine bp_ (cs := #[.int .i64 0]) ?_ 0; refine bf_ ?_ NB216_215; refine bf_ ?_ NB216_215; exact bk_ BK216) (bw_ HB)
  · replace c6 := Bool.eq_false_iff.mpr c6
    subst c6
    have H1 : (some (0, 0, 1)) = some (r1, r2, r3) := by rw [if_neg (show ¬ (false = true) by decide)] at H; exact H
    clear H
    have H := H1
    clear H1
    simp only [Option.some.injEq, Prod.mk.injEq] at H
    obtain ⟨rfl, rfl, rfl⟩ := H
    go_enter_defers Try.func88, Try.ntmps88
    go_wp2_with (first | ((with_reducible refine gate_dst (N := 6) rfl ?_); refine box_event ?hg (N := 6) ?hd (cs := #[.int .i64 0, .int .i64 0]) (t := 23) ?hr ?_; (case hd => rfl); (case hg => rfl); (case hr => first | (go_simp; done) | (go_simp; rfl)); intro gb215 hg w45 hbox hb; have BK215 := Aside0.mk hbox; have GW215 := bwg_ HB hg; have GE215 := bwg_ HB hg; replace HB := bws_ HB hb; clear hb hbox hg) | ((with_reducible refine gate_dst (N := 7) rfl ?_); refine box_event ?hg (N := 7) ?hd (cs := #[.int .i64 0]) (t := 26) ?hr ?_; (case hd => rfl); (case hg => rfl); (case hr => first | (go_simp; done) | (go_simp; rfl)); intro gb216 hg w46 hbox hb; have BK216 := Aside0.mk hbox; have GW216 := bwg_ HB hg; have GE216 := bwg_ HB hg; replace HB := bws_ HB hb; have NB215_216 := bkl_ BK215 hg; have NB216_215 := bkr_ BK215 hg; replace BK215 := bkb_ BK215 hb; clear hb hbox hg) | ((with_reducible refine gate_callee (f := 89) rfl ?_); refine gla_ (some 15) Try.func89 #[.string a0, .int .i64 9] ?_; (with_reducible refine (num_plain.calls a0 9 t217 false _ A4.out).mono ?_); rintro e w47 ⟨rfl, hb⟩; refine ⟨_, rfl, ?_⟩; replace BK215 := bkb_ BK215 hb; replace BK216 := bkb_ BK216 hb; replace HB := bws_ HB hb; (try clear hb); (try clear hb2); (try clear hk); (try clear hi)) | ((with_reducible refine gate_callee (f := 116) rfl ?_); refine gla_ (some 20) Try.func116 #[.string a1, .int .i64 9] ?_; (with_reducible refine (num_count.calls a1 9 t219 t220 _ A5.out).mono ?_); rintro e w48 ⟨rfl, hb⟩; refine ⟨_, rfl, ?_⟩; replace BK215 := bkb_ BK215 hb; replace BK216 := bkb_ BK216 hb; replace HB := bws_ HB hb; (try clear hb); (try clear hb2); (try clear hk); (try clear hi); have hnb49 := NB215_216.out; have hnc49 := NB216_215.out; obtain ⟨hcz50_0, hcz50_1, hfz50_0, hfz50_1⟩ := bc2_ BK215; obtain ⟨hcz51_0, hfz51_0⟩ := bc1_ BK216))
    show Leaves _ _ _ _ _ _ _
    exact num_catch.door_ret rfl _ _ _ gb215 gb216 _ _ _ rfl rfl (by refine bf_ ?_ NB215_216; refine bp_ (cs := #[.int .i64 0, .int .i64 0]) ?_ 1; refine bp_ (cs := #[.int .i64 0, .int .i64 0]) ?_ 0; exact bk_ BK215) (by refine bp_ (cs := #[.int .i64 0]) ?_ 0; refine bf_ ?_ NB216_215; refine bf_ ?_ NB216_215; exact bk_ BK216) (bw_ HB)
/-! ### num_Parse: function 39 -/
mutual
def num_Parse.j1 : Nat → ByteArray → Bool → Int → Option (Int × Int × Int)
  | 0, _, _, _ => none
  | k + 1, x4, x5, x6 => if x6 < (x4.size : Int) then (if 0 ≤ x6 then (num_Parse.j2 k x4 x5 x6 ((bt x4 x6) == 46)) else (none)) else (num_Parse.j2 k x4 x5 x6 false)
def num_Parse.j2 : Nat → ByteArray → Bool → Int → Bool → Option (Int × Int × Int)
  | 0, _, _, _, _ => none
  | k + 1, x4, x5, x6, x37 => if x37 = true then (if 0 ≤ x6 then (if x6 ≤ (x4.size : Int) then (if 0 ≤ (wrap64 (x6 + 1)) then (if (wrap64 (x6 + 1)) ≤ (x4.size : Int) then ((num_decimal.f k (x4.extract 0 (x6 : Int).toNat) (x4.extract ((wrap64 (x6 + 1)) : Int).toNat x4.size) x5).bind fun bt231 => (some (bt231.1, bt231.2.1, bt231.2.2))) else (none)) else (none)) else (none)) else (none)) else (if 0 ≤ x6 then (if x6 ≤ (x4.size : Int) then ((num_plain.f (x4.extract 0 (x6 : Int).toNat) 10).bind fun bt234 => (if x6 < (x4.size : Int) then (if 0 ≤ (wrap64 (x6 + 1)) then (if (wrap64 (x6 + 1)) ≤ (x4.size : Int) then ((num_plain.f (x4.extract ((wrap64 (x6 + 1)) : Int).toNat x4.size) 10).bind fun bt236 => (if bt234.2 = true then (if bt236.2 = true then (num_Parse.j3 k x5 bt234.1 (decide (bt236.1 > 1)) bt236.1) else (num_Parse.j3 k x5 bt234.1 false bt236.1)) else (num_Parse.j3 k x5 bt234.1 false bt236.1))) else (none)) else (none)) else (num_Parse.j3 k x5 bt234.1 bt234.2 1))) else (none)) else (none))
def num_Parse.j3 : Nat → Bool → Int → Bool → Int → Option (Int × Int × Int)
  | 0, _, _, _, _ => none
  | k + 1, x5, x7, x8, x9 => if x5 = true then (if x8 = true then (if (wrap64 (-x7)) = 0 then (some (0, 0, 1)) else ((num_Check.f k (wrap64 (-x7)) x9).bind fun t238 => (if t238 = 0 then (some (wrap64 (-x7), x9, 0)) else (some (0, 0, 1))))) else (some (0, 0, 1))) else (if x8 = true then ((num_Check.f k x7 x9).bind fun t239 => (if t239 = 0 then (some (x7, x9, 0)) else (some (0, 0, 1)))) else (some (0, 0, 1)))
def num_Parse.l0 : Nat → ByteArray → Bool → Int → Option (Int × Int × Int)
  | 0, _, _, _ => none
  | k + 1, x4, x5, x6 => if x6 < (x4.size : Int) then (if 0 ≤ x6 then (if (bt x4 x6) = 46 then (num_Parse.j1 k x4 x5 x6) else (if (bt x4 x6) = 47 then (num_Parse.j1 k x4 x5 x6) else (num_Parse.l0 k x4 x5 (wrap64 (x6 + 1))))) else (none)) else (num_Parse.j1 k x4 x5 x6)
end
def num_Parse.f (k : Nat) (a0 : ByteArray) : Option (Int × Int × Int) := (strings_CutPrefix.f a0 (⟨#[45]⟩ : ByteArray)).bind fun bt229 => (num_Parse.l0 k bt229.1 bt229.2 0)
theorem num_Parse.mono_l : ∀ k, (∀ y0 y1 y2, LeO (num_Parse.j1 k y0 y1 y2) (num_Parse.j1 (k + 1) y0 y1 y2)) ∧ (∀ y0 y1 y2 y3, LeO (num_Parse.j2 k y0 y1 y2 y3) (num_Parse.j2 (k + 1) y0 y1 y2 y3)) ∧ (∀ y0 y1 y2 y3, LeO (num_Parse.j3 k y0 y1 y2 y3) (num_Parse.j3 (k + 1) y0 y1 y2 y3)) ∧ (∀ y0 y1 y2, LeO (num_Parse.l0 k y0 y1 y2) (num_Parse.l0 (k + 1) y0 y1 y2))
  | 0 => ⟨fun _ _ _ r h => by simp [num_Parse.j1] at h, fun _ _ _ _ r h => by simp [num_Parse.j2] at h, fun _ _ _ _ r h => by simp [num_Parse.j3] at h, fun _ _ _ r h => by simp [num_Parse.l0] at h⟩
  | k + 1 => by
    obtain ⟨ih0, ih1, ih2, ih3⟩ := num_Parse.mono_l k
    refine ⟨?_, ?_, ?_, ?_⟩
    · intro y0 y1 y2
      unfold num_Parse.j1
      repeat' first
      | (with_reducible exact ih0 _ _ _)
      | (with_reducible exact ih1 _ _ _ _)
      | (with_reducible exact ih2 _ _ _ _)
      | (with_reducible exact ih3 _ _ _)
      | (with_reducible exact num_Check.mono _ _ _)
      | (with_reducible exact num_decimal.mono _ _ _ _)
      | (with_reducible exact LeO.refl _)
      | (with_reducible exact LeO.none _)
      | (with_reducible refine LeO.ite ?_ ?_)
      | (with_reducible refine LeO.bind ?_ (fun _ => ?_))
      | (with_reducible refine LeO.exc (fun _ => ?_) (fun _ => ?_))
      | exact ih0 _ _ _
      | exact ih1 _ _ _ _
      | exact ih2 _ _ _ _
      | exact ih3 _ _ _
      | exact num_Check.mono _ _ _
      | exact num_decimal.mono _ _ _ _
      | exact LeO.none _
      | refine LeO.ite ?_ ?_
      | refine LeO.bind ?_ (fun _ => ?_)
    · intro y0 y1 y2 y3
      unfold num_Parse.j2
      repeat' first
      | (with_reducible exact ih0 _ _ _)
      | (with_reducible exact ih1 _ _ _ _)
      | (with_reducible exact ih2 _ _ _ _)
      | (with_reducible exact ih3 _ _ _)
      | (with_reducible exact num_Check.mono _ _ _)
      | (with_reducible exact num_decimal.mono _ _ _ _)
      | (with_reducible exact LeO.refl _)
      | (with_reducible exact LeO.none _)
      | (with_reducible refine LeO.ite ?_ ?_)
      | (with_reducible refine LeO.bind ?_ (fun _ => ?_))
      | (with_reducible refine LeO.exc (fun _ => ?_) (fun _ => ?_))
      | exact ih0 _ _ _
      | exact ih1 _ _ _ _
      | exact ih2 _ _ _ _
      | exact ih3 _ _ _
      | exact num_Check.mono _ _ _
      | exact num_decimal.mono _ _ _ _
      | exact LeO.none _
      | refine LeO.ite ?_ ?_
      | refine LeO.bind ?_ (fun _ => ?_)
    · intro y0 y1 y2 y3
      unfold num_Parse.j3
      repeat' first
      | (with_reducible exact ih0 _ _ _)
      | (with_reducible exact ih1 _ _ _ _)
      | (with_reducible exact ih2 _ _ _ _)
      | (with_reducible exact ih3 _ _ _)
      | (with_reducible exact num_Check.mono _ _ _)
      | (with_reducible exact num_decimal.mono _ _ _ _)
      | (with_reducible exact LeO.refl _)
      | (with_reducible exact LeO.none _)
      | (with_reducible refine LeO.ite ?_ ?_)
      | (with_reducible refine LeO.bind ?_ (fun _ => ?_))
      | (with_reducible refine LeO.exc (fun _ => ?_) (fun _ => ?_))
      | exact ih0 _ _ _
      | exact ih1 _ _ _ _
      | exact ih2 _ _ _ _
      | exact ih3 _ _ _
      | exact num_Check.mono _ _ _
      | exact num_decimal.mono _ _ _ _
      | exact LeO.none _
      | refine LeO.ite ?_ ?_
      | refine LeO.bind ?_ (fun _ => ?_)
    · intro y0 y1 y2
      unfold num_Parse.l0
      repeat' first
      | (with_reducible exact ih0 _ _ _)
      | (with_reducible exact ih1 _ _ _ _)
      | (with_reducible exact ih2 _ _ _ _)
      | (with_reducible exact ih3 _ _ _)
      | (with_reducible exact num_Check.mono _ _ _)
      | (with_reducible exact num_decimal.mono _ _ _ _)
      | (with_reducible exact LeO.refl _)
      | (with_reducible exact LeO.none _)
      | (with_reducible refine LeO.ite ?_ ?_)
      | (with_reducible refine LeO.bind ?_ (fun _ => ?_))
      | (with_reducible refine LeO.exc (fun _ => ?_) (fun _ => ?_))
      | exact ih0 _ _ _
      | exact ih1 _ _ _ _
      | exact ih2 _ _ _ _
      | exact ih3 _ _ _
      | exact num_Check.mono _ _ _
      | exact num_decimal.mono _ _ _ _
      | exact LeO.none _
      | refine LeO.ite ?_ ?_
      | refine LeO.bind ?_ (fun _ => ?_)
theorem num_Parse.mono : ∀ a0 k, LeO (num_Parse.f k a0) (num_Parse.f (k + 1) a0) := by
  intro a0 k
  obtain ⟨ih0, ih1, ih2, ih3⟩ := num_Parse.mono_l k
  unfold num_Parse.f
  repeat' first
      | (with_reducible exact ih0 _ _ _)
      | (with_reducible exact ih1 _ _ _ _)
      | (with_reducible exact ih2 _ _ _ _)
      | (with_reducible exact ih3 _ _ _)
      | (with_reducible exact num_Check.mono _ _ _)
      | (with_reducible exact num_decimal.mono _ _ _ _)
      | (with_reducible exact LeO.refl _)
      | (with_reducible exact LeO.none _)
      | (with_reducible refine LeO.ite ?_ ?_)
      | (with_reducible refine LeO.bind ?_ (fun _ => ?_))
      | (with_reducible refine LeO.exc (fun _ => ?_) (fun _ => ?_))
      | exact ih0 _ _ _
      | exact ih1 _ _ _ _
      | exact ih2 _ _ _ _
      | exact ih3 _ _ _
      | exact num_Check.mono _ _ _
      | exact num_decimal.mono _ _ _ _
      | exact LeO.none _
      | refine LeO.ite ?_ ?_
      | refine LeO.bind ?_ (fun _ => ?_)
def num_Parse.T9 : Bool × List (List Nat × List Nat) := (true, [([], []), ([], []), ([0, 1], [0, 1]), ([], []), ([], []), ([4], [4]), ([3, 5], [3, 5]), ([], []), ([2, 6, 7], [2, 6, 7]), ([8], [8]), ([8], [8]), ([9, 8, 0, 1, 2, 3, 4, 5, 6, 7, 8, 9, 10], [9]), ([10, 11, 0, 1, 2, 3, 4, 5, 6, 7, 8, 9, 10, 11], [10])])
def num_Parse.B9 : List Nat := [0, 0, 3, 0, 0, 16, 56, 0, 255, 511, 511, 2047, 4095]
theorem num_Parse.tab9 : rtab .any (opsOf Try.f39 9) = num_Parse.T9 := by kernel_rfl
theorem num_Parse.bits9 : waitsOk num_Parse.T9.2 num_Parse.B9 = true := by kernel_rfl
set_option maxHeartbeats 8000000 in
set_option maxRecDepth 100000 in
theorem num_Parse.calls (k : Nat) (a0 : ByteArray) (r1 : Int) (r2 : Int) (r3 : Int) (w : World) (h : num_Parse.f k a0 = some (r1, r2, r3)) :
    Calls Try.prog 39 #[.string a0] w fun e w' => e = .returned (.tuple #[.agg #[.int .i64 r1, .int .i64 r2], .int .i64 r3]) ∧ Below w.heap.size w w' := by
  have hu23 := Try.underlying23
  have HB := Aside0.mk (Below.refl w.heap.size w)
  have H : ((strings_CutPrefix.f a0 (⟨#[45]⟩ : ByteArray)).bind fun bt229 => (num_Parse.l0 k bt229.1 bt229.2 0)) = some (r1, r2, r3) := h
  clear h
  replace H := Option.bind_eq_some_iff.mp H
  obtain ⟨⟨t229, t230⟩, A20, H⟩ := H
  replace H : (num_Parse.l0 k t229 t230 0) = some (r1, r2, r3) := H
  have A2 := Aside0.mk A20
  clear A20
  have HC3 := Aside0.mk H
  clear H
  go_enter Try.func39, Try.ntmps39
  go_wp2_with (first | ((with_reducible refine gate_dst (N := 2) rfl ?_); refine box_event ?hg (N := 2) ?hd (cs := #[.int .i64 0, .int .i64 0]) (t := 23) ?hr ?_; (case hd => rfl); (case hg => rfl); (case hr => first | (go_simp; done) | (go_simp; rfl)); intro gb228 hg w4 hbox hb; have BK228 := Aside0.mk hbox; have GW228 := bwg_ HB hg; have GE228 := bwg_ HB hg; replace HB := bws_ HB hb; clear hb hbox hg) | ((with_reducible refine gate_callee (f := 87) rfl ?_); refine gla_ (some 13) Try.func87 #[.string a0, .string (⟨#[45]⟩ : ByteArray)] ?_; (with_reducible refine (strings_CutPrefix.calls a0 (⟨#[45]⟩ : ByteArray) t229 t230 _ A2.out).mono ?_); rintro e w' ⟨rfl, ⟨nd, rfl⟩⟩; refine ⟨_, rfl, ?_⟩))
  go_step3
  go_wp2_with (first | ((with_reducible refine gate_dst (N := 2) rfl ?_); refine box_event ?hg (N := 2) ?hd (cs := #[.int .i64 0, .int .i64 0]) (t := 23) ?hr ?_; (case hd => rfl); (case hg => rfl); (case hr => first | (go_simp; done) | (go_simp; rfl)); intro gb228 hg w4 hbox hb; have BK228 := Aside0.mk hbox; have GW228 := bwg_ HB hg; have GE228 := bwg_ HB hg; replace HB := bws_ HB hb; clear hb hbox hg) | ((with_reducible refine gate_callee (f := 87) rfl ?_); refine gla_ (some 13) Try.func87 #[.string a0, .string (⟨#[45]⟩ : ByteArray)] ?_; (with_reducible refine (strings_CutPrefix.calls a0 (⟨#[45]⟩ : ByteArray) t229 t230 _ A2.out).mono ?_); rintro e w' ⟨rfl, ⟨nd, rfl⟩⟩; refine ⟨_, rfl, ?_⟩))
  go_step3
  go_upto_block 0 with (fail)
  (try simp only [Act.put, List.setIfInBounds_toArray, List.set_cons_zero, List.set_cons_succ])
  go_cut [6] (fun v6 wc => ∃ (kq : Nat) (x6_2 : Int), v6 = .int .i64 x6_2 ∧ Aside0 (num_Parse.j1 kq t229 t230 x6_2 = some (r1, r2, r3)) ∧ Aside0 (kq ≤ k) ∧ Aside0 (wc.heap[gb228]? = some (.cells #[.int .i64 0, .int .i64 0] 23 (0, 0))) ∧ Aside0 (Below w.heap.size w wc))
  case first =>
    have H := HC3.out
    clear HC3
    have H' := Aside0.mk H
    clear H
    go_wp2
    go_loopg [6] k (fun kq v6 w' => ∃ (x6_1 : Int), v6 = .int .i64 x6_1 ∧ Aside0 (num_Parse.l0 kq t229 t230 x6_1 = some (r1, r2, r3)) ∧ Aside0 (kq ≤ k) ∧ Aside0 (w'.heap[gb228]? = some (.cells #[.int .i64 0, .int .i64 0] 23 (0, 0))) ∧ Aside0 (Below w.heap.size w w'))
    case atStart => exact ⟨(0), (by first | rfl | (simp; done) | (simp [*]; done)), H', ⟨Nat.le_refl _⟩, ⟨by exact bk_ BK228⟩, ⟨bw_ HB⟩⟩
    case round =>
      clear H'
      try clear p2
      try clear c3
      obtain ⟨x6_1, rfl, HA, HK1, BK228, HB⟩ := hrel
      cases gk with
      | zero => exact absurd HA.out (by simp [num_Parse.l0])
      | succ k1 =>
        have H := HA.out
        clear HA
        simp only [num_Parse.l0] at H
        by_cases c5 : x6_1 < (t229.size : Int)
        · rw [if_pos c5] at H
          have c5b0 : decide (x6_1 < (t229.size : Int)) = true := decide_eq_true c5
          clear c5
          (first | rw [c5b0] | (simp only [i64_w, i32_w]; rw [c5b0]) | skip)
          by_cases c6 : 0 ≤ x6_1
          · rw [if_pos c6] at H
            have c6b0 : decide (0 ≤ x6_1) = true := decide_eq_true c6
            clear c6
            by_cases c8 : (bt t229 x6_1) = 46
            · rw [if_pos c8] at H
              have c8b0 : ((bt t229 x6_1) == 46) = true := beq_iff_eq.mpr c8
              have c8b1 : ((bt t229 x6_1) != 46) = false := bne_eq_false_iff_eq.mpr c8
              clear c8
              have H' := Aside0.mk H
              clear H
              have p7 : 0 ≤ (x6_1 : Int) := of_decide_eq_true (by first | (with_reducible assumption) | assumption)
              have q7 : x6_1 < (t229.size : Int) := of_decide_eq_true (by first | (with_reducible assumption) | assumption)
              have hx7 := bt_at t229 x6_1
              replace p7 := eq_true p7
              replace q7 := eq_true q7
              go_wp2
              go_meet
              case rel => exact ⟨_, (x6_1), (by first | rfl | (simp; done) | (simp [*]; done)), H', ⟨by have := HK1.out; first | omega | exact Nat.le_refl _⟩, ⟨by exact bk_ BK228⟩, ⟨bw_ HB⟩⟩
            · rw [if_neg c8] at H
              have c8b0 : ((bt t229 x6_1) == 46) = false := beq_eq_false_iff_ne.mpr c8
              have c8b1 : ((bt t229 x6_1) != 46) = true := bne_iff_ne.mpr c8
              by_cases c9 : (bt t229 x6_1) = 47
              · rw [if_pos c9] at H
                have c9b0 : ((bt t229 x6_1) == 47) = true := beq_iff_eq.mpr c9
                have c9b1 : ((bt t229 x6_1) != 47) = false := bne_eq_false_iff_eq.mpr c9
                clear c9
                have H' := Aside0.mk H
                clear H
                have p7 : 0 ≤ (x6_1 : Int) := of_decide_eq_true (by first | (with_reducible assumption) | assumption)
                have q7 : x6_1 < (t229.size : Int) := of_decide_eq_true (by first | (with_reducible assumption) | assumption)
                have hx7 := bt_at t229 x6_1
                replace p7 := eq_true p7
                replace q7 := eq_true q7
                go_wp2
                go_meet
                case rel => exact ⟨_, (x6_1), (by first | rfl | (simp; done) | (simp [*]; done)), H', ⟨by have := HK1.out; first | omega | exact Nat.le_refl _⟩, ⟨by exact bk_ BK228⟩, ⟨bw_ HB⟩⟩
              · rw [if_neg c9] at H
                have c9b0 : ((bt t229 x6_1) == 47) = false := beq_eq_false_iff_ne.mpr c9
                have c9b1 : ((bt t229 x6_1) != 47) = true := bne_iff_ne.mpr c9
                have H' := Aside0.mk H
                clear H
                have p7 : 0 ≤ (x6_1 : Int) := of_decide_eq_true (by first | (with_reducible assumption) | assumption)
                have q7 : x6_1 < (t229.size : Int) := of_decide_eq_true (by first | (with_reducible assumption) | assumption)
                have hx7 := bt_at t229 x6_1
                replace p7 := eq_true p7
                replace q7 := eq_true q7
                go_wp2
                go_roundg k1
                case measure => have := HK1.out; omega
                case rel => exact ⟨(wrap64 (x6_1 + 1)), (by first | rfl | (simp; done) | (simp [*]; done)), H', ⟨by have := HK1.out; omega⟩, ⟨by exact bk_ BK228⟩, ⟨bw_ HB⟩⟩
          · rw [if_neg c6] at H
            exact absurd H (by simp)
        · rw [if_neg c5] at H
          have c5b0 : decide (x6_1 < (t229.size : Int)) = false := decide_eq_false c5
          clear c5
          (first | rw [c5b0] | (simp only [i64_w, i32_w]; rw [c5b0]) | skip)
          have H' := Aside0.mk H
          clear H
          go_wp2
          go_meet
          case rel => exact ⟨_, (x6_1), (by first | rfl | (simp; done) | (simp [*]; done)), H', ⟨by have := HK1.out; first | omega | exact Nat.le_refl _⟩, ⟨by exact bk_ BK228⟩, ⟨bw_ HB⟩⟩
  case rest =>
    clear HC3
    try clear p2
    try clear c3
    try clear c5
    try clear c5b0
    try clear c6
    try clear c6b0
    try clear p6
    try clear p7
    try clear q7
    try clear hx7
    try clear c8
    try clear c8b0
    try clear c8b1
    try clear c9
    try clear c9b0
    try clear c9b1
    try clear p2
    try clear p7
    try clear q7
    obtain ⟨kq, x6_2, rfl, HA, HJ2, BK228, HB⟩ := hcut
    cases kq with
    | zero => exact absurd HA.out (by simp [num_Parse.j1])
    | succ kj2 =>
      have H := HA.out
      clear HA
      simp only [num_Parse.j1] at H
      have HC10 := Aside0.mk H
      clear H
      go_upto_region 8 with (fail)
      go_cut [37] (fun v37 wc => ∃ (kq : Nat) (x37_9 : Bool), v37 = .bool x37_9 ∧ Aside0 (num_Parse.j2 kq t229 t230 x6_2 x37_9 = some (r1, r2, r3)) ∧ Aside0 (kq ≤ kj2) ∧ Aside0 (wc.heap[gb228]? = some (.cells #[.int .i64 0, .int .i64 0] 23 (0, 0))) ∧ Aside0 (Below w.heap.size w wc))
      case first =>
        have H := HC10.out
        clear HC10
        by_cases c11 : x6_2 < (t229.size : Int)
        · rw [if_pos c11] at H
          have c11b0 : decide (x6_2 < (t229.size : Int)) = true := decide_eq_true c11
          clear c11
          (first | rw [c11b0] | (simp only [i64_w, i32_w]; rw [c11b0]) | skip)
          by_cases c12 : 0 ≤ x6_2
          · rw [if_pos c12] at H
            have c12b0 : decide (0 ≤ x6_2) = true := decide_eq_true c12
            clear c12
            have H' := Aside0.mk H
            clear H
            have p13 : 0 ≤ (x6_2 : Int) := of_decide_eq_true (by first | (with_reducible assumption) | assumption)
            have q13 : x6_2 < (t229.size : Int) := of_decide_eq_true (by first | (with_reducible assumption) | assumption)
            have hx13 := bt_at t229 x6_2
            replace p13 := eq_true p13
            replace q13 := eq_true q13
            go_wp2
            go_meet
            case rel => exact ⟨_, (((bt t229 x6_2) == 46)), (by first | rfl | (simp; done) | (simp [*]; done)), H', ⟨by have := HJ2.out; first | omega | exact Nat.le_refl _⟩, ⟨by exact bk_ BK228⟩, ⟨bw_ HB⟩⟩
          · rw [if_neg c12] at H
            exact absurd H (by simp)
        · rw [if_neg c11] at H
          have c11b0 : decide (x6_2 < (t229.size : Int)) = false := decide_eq_false c11
          clear c11
          (first | rw [c11b0] | (simp only [i64_w, i32_w]; rw [c11b0]) | skip)
          have H' := Aside0.mk H
          clear H
          go_wp2
          go_meet
          case rel => exact ⟨_, (false), (by first | rfl | (simp; done) | (simp [*]; done)), H', ⟨by have := HJ2.out; first | omega | exact Nat.le_refl _⟩, ⟨by exact bk_ BK228⟩, ⟨bw_ HB⟩⟩
      case rest =>
        clear HC10
        try clear c1
        try clear p1
        try clear q1
        try clear hx1
        try clear p2
        try clear c3
        try clear c5
        try clear c5b0
        try clear c6
        try clear c6b0
        try clear p6
        try clear p7
        try clear q7
        try clear hx7
        try clear c8
        try clear c8b0
        try clear c8b1
        try clear c9
        try clear c9b0
        try clear c9b1
        try clear c11
        try clear c11b0
        try clear c12
        try clear c12b0
        try clear p13
        try clear q13
        try clear hx13
        try clear p13
        try clear p2
        try clear p6
        try clear p7
        try clear q13
        try clear q7
        obtain ⟨kq, x37_9, rfl, HA, HJ9, BK228, HB⟩ := hcut
        cases kq with
        | zero => exact absurd HA.out (by simp [num_Parse.j2])
        | succ kj9 =>
          have H := HA.out
          clear HA
          simp only [num_Parse.j2] at H
          by_cases c14 : x37_9 = true
          · subst c14
            have H1 : (if 0 ≤ x6_2 then (if x6_2 ≤ (t229.size : Int) then (if 0 ≤ (wrap64 (x6_2 + 1)) then (if (wrap64 (x6_2 + 1)) ≤ (t229.size : Int) then ((num_decimal.f kj9 (t229.extract 0 (x6_2 : Int).toNat) (t229.extract ((wrap64 (x6_2 + 1)) : Int).toNat t229.size) t230).bind fun bt231 => (some (bt231.1, bt231.2.1, bt231.2.2))) else (none)) else (none)) else (none)) else (none)) = some (r1, r2, r3) := by rw [if_pos rfl] at H; exact H
            clear H
            have H := H1
            clear H1
            by_cases c15 : 0 ≤ x6_2
            · rw [if_pos c15] at H
              have c15b0 := eq_true c15
              have c15b1 : decide (0 ≤ x6_2) = true := decide_eq_true c15
              clear c15
              by_cases c16 : x6_2 ≤ (t229.size : Int)
              · rw [if_pos c16] at H
                have c16b0 := eq_true c16
                have c16b1 : decide (x6_2 ≤ (t229.size : Int)) = true := decide_eq_true c16
                clear c16
                obtain ⟨ji17, hji17⟩ : ∃ j_ : Int, (wrap64 (x6_2 + 1)) = j_ := ⟨_, rfl⟩
                replace H : (if 0 ≤ (ji17) then (if (ji17) ≤ (t229.size : Int) then ((num_decimal.f kj9 (t229.extract 0 (x6_2 : Int).toNat) (t229.extract ((ji17) : Int).toNat t229.size) t230).bind fun bt231 => (some (bt231.1, bt231.2.1, bt231.2.2))) else (none)) else (none)) = some (r1, r2, r3) := by first | (rw [hji17] at H; exact H) | (simp only [hji17] at H ⊢; exact H)
                have hji17w : (IntKind.i64.wrap (x6_2 + 1)) = ji17 := (i64_w _).trans hji17
                by_cases c18 : 0 ≤ (ji17)
                · rw [if_pos c18] at H
                  have c18b0 := eq_true c18
                  have c18b1 : decide (0 ≤ (ji17)) = true := decide_eq_true c18
                  clear c18
                  by_cases c19 : (ji17) ≤ (t229.size : Int)
                  · rw [if_pos c19] at H
                    have c19b0 := eq_true c19
                    have c19b1 : decide ((ji17) ≤ (t229.size : Int)) = true := decide_eq_true c19
                    clear c19
                    replace H := Option.bind_eq_some_iff.mp H
                    obtain ⟨⟨t231, t232, t233⟩, A200, H⟩ := H
                    replace H : (some (t231, t232, t233)) = some (r1, r2, r3) := H
                    have A20 := Aside0.mk A200
                    clear A200
                    simp only [Option.some.injEq, Prod.mk.injEq] at H
                    obtain ⟨rfl, rfl, rfl⟩ := H
                    try go_wp2
                    replace BK228 := Aside0.mk (blk_drew BK228.out)
                    replace HB := Aside0.mk (below_drew1 HB.out)
                    refine start_ (n := 13) (S := fun w' => True) (ds := []) #[false, false, false, false, false, false, false, false, false, false, false, false, false] (by kernel_rfl) rfl rfl trivial (fun hHeld => ?_); refine with_tabW num_Parse.tab9 num_Parse.bits9 (fun HT_ HW_ => ?_)
                    generalize wc.drew = w21 at BK228 HB hHeld ⊢
                    refine pure_ (i := 0) (N := some 38) (v := ?_) (a' := ?_) #[true, false, false, false, false, false, false, false, false, false, false, false, false] rfl rfl (any_of HT_.out (by kernel_rfl)) (fun _ _ _ h => h) (Or.inl ⟨by rfl, ?_⟩) ?_ ?_
                    rotate_left
                    · intro w'
                      go_simp
                      with_reducible rfl
                    rotate_left
                    · simp only [Act.put, List.setIfInBounds_toArray, List.set_cons_zero, List.set_cons_succ, i64_w, i32_w]
                      rfl
                    refine pure_ (i := 1) (N := some 39) (v := ?_) (a' := ?_) #[true, true, false, false, false, false, false, false, false, false, false, false, false] rfl rfl (any_of HT_.out (by kernel_rfl)) (fun _ _ _ h => h) (Or.inl ⟨by rfl, ?_⟩) ?_ ?_
                    rotate_left
                    · intro w'
                      go_simp
                      with_reducible rfl
                    rotate_left
                    · simp only [Act.put, List.setIfInBounds_toArray, List.set_cons_zero, List.set_cons_succ, i64_w, i32_w]
                      rfl
                    refine pure_ (i := 2) (N := some 40) (v := ?_) (a' := ?_) #[true, true, true, false, false, false, false, false, false, false, false, false, false] rfl rfl (any_of HT_.out (by kernel_rfl)) (fun _ _ _ h => h) (Or.inl ⟨by rfl, ?_⟩) ?_ ?_
                    rotate_left
                    · intro w'
                      go_simp
                      with_reducible rfl
                    rotate_left
                    · simp only [Act.put, List.setIfInBounds_toArray, List.set_cons_zero, List.set_cons_succ, i64_w, i32_w]
                      rfl
                    refine pure_ (i := 3) (N := some 41) (v := ?_) (a' := ?_) #[true, true, true, true, false, false, false, false, false, false, false, false, false] rfl rfl (any_of HT_.out (by kernel_rfl)) (fun _ _ _ h => h) (Or.inl ⟨by rfl, ?_⟩) ?_ ?_
                    rotate_left
                    · intro w'
                      go_simp
                      with_reducible rfl
                    rotate_left
                    · simp only [Act.put, List.setIfInBounds_toArray, List.set_cons_zero, List.set_cons_succ, i64_w, i32_w]
                      rfl
                    refine pure_ (i := 4) (N := some 42) (v := ?_) (a' := ?_) #[true, true, true, true, true, false, false, false, false, false, false, false, false] rfl rfl (any_of HT_.out (by kernel_rfl)) (fun _ _ _ h => h) (Or.inl ⟨by rfl, ?_⟩) ?_ ?_
                    rotate_left
                    · intro w'
                      go_simp
                      with_reducible rfl
                    rotate_left
                    · simp only [Act.put, List.setIfInBounds_toArray, List.set_cons_zero, List.set_cons_succ, i64_w, i32_w]
                      rfl
                    refine pure_ (i := 5) (N := some 43) (v := ?_) (a' := ?_) #[true, true, true, true, true, true, false, false, false, false, false, false, false] rfl rfl (any_of HT_.out (by kernel_rfl)) (fun _ _ _ h => h) (Or.inl ⟨by rfl, ?_⟩) ?_ ?_
                    rotate_left
                    · intro w'
                      go_simp
                      with_reducible rfl
                    rotate_left
                    · simp only [Act.put, List.setIfInBounds_toArray, List.set_cons_zero, List.set_cons_succ, i64_w, i32_w]
                      rfl
                    refine pure_ (i := 6) (N := some 44) (v := ?_) (a' := ?_) #[true, true, true, true, true, true, true, false, false, false, false, false, false] rfl rfl (any_of HT_.out (by kernel_rfl)) (fun _ _ _ h => h) (Or.inl ⟨by rfl, ?_⟩) ?_ ?_
                    rotate_left
                    · intro w'
                      go_simp
                      with_reducible rfl
                    rotate_left
                    · simp only [Act.put, List.setIfInBounds_toArray, List.set_cons_zero, List.set_cons_succ, i64_w, i32_w]
                      rfl
                    refine pure_ (i := 7) (N := some 45) (v := ?_) (a' := ?_) #[true, true, true, true, true, true, true, true, false, false, false, false, false] rfl rfl (any_of HT_.out (by kernel_rfl)) (fun _ _ _ h => h) (Or.inl ⟨by rfl, ?_⟩) ?_ ?_
                    rotate_left
                    · intro w'
                      go_simp
                      with_reducible rfl
                    rotate_left
                    · simp only [Act.put, List.setIfInBounds_toArray, List.set_cons_zero, List.set_cons_succ, i64_w, i32_w]
                      rfl
                    refine one_ (i := 8) (N := some 46) #[true, true, true, true, true, true, true, true, true, false, false, false, false] rfl rfl (one_of HT_.out (by kernel_rfl)) (by decide) (fun K hK => ?_)
                    refine goes_ Try.func88 (by kernel_rfl) rfl #[.string (t229.extract 0 (x6_2 : Int).toNat), .string (t229.extract ((ji17) : Int).toNat t229.size), .bool t230] (by rfl) rfl rfl (by (try simp only [List.map_toArray, List.map_cons, List.map_nil]); first | done | (simp only [hji17]; rfl) | rfl | (simp only [List.length_drop, List.length_take]; rfl)) ?_
                    with_reducible refine (num_decimal.calls kj9 (t229.extract 0 (x6_2 : Int).toNat) (t229.extract ((ji17) : Int).toNat t229.size) t230 t231 t232 t233 _ A20.out).mono ?_
                    rintro e w22 ⟨rfl, hb⟩
                    refine ⟨_, rfl, ?_⟩
                    replace BK228 := bkb_ BK228 hb
                    replace HB := bws_ HB hb
                    (try clear hb)
                    (try clear hb2)
                    (try clear hk)
                    (try clear hi)
                    refine hK.out _ _ trivial (fun hHeld => ?_)
                    clear hK K
                    refine norm_ (a' := ?_) ?_ ?_
                    rotate_left
                    · show Act.put _ (some 46) _ = _
                      simp only [Act.put, List.setIfInBounds_toArray, List.set_cons_zero, List.set_cons_succ, i64_w, i32_w]
                      rfl
                    refine pure_ (i := 9) (N := some 47) (v := ?_) (a' := ?_) #[true, true, true, true, true, true, true, true, true, true, false, false, false] rfl rfl (any_of HT_.out (by kernel_rfl)) (fun _ _ _ h => h) (Or.inl ⟨by rfl, ?_⟩) ?_ ?_
                    rotate_left
                    · intro w'
                      go_simp
                      with_reducible rfl
                    rotate_left
                    · simp only [Act.put, List.setIfInBounds_toArray, List.set_cons_zero, List.set_cons_succ, i64_w, i32_w]
                      rfl
                    refine pure_ (i := 10) (N := some 48) (v := ?_) (a' := ?_) #[true, true, true, true, true, true, true, true, true, true, true, false, false] rfl rfl (any_of HT_.out (by kernel_rfl)) (fun _ _ _ h => h) (Or.inl ⟨by rfl, ?_⟩) ?_ ?_
                    rotate_left
                    · intro w'
                      go_simp
                      with_reducible rfl
                    rotate_left
                    · simp only [Act.put, List.setIfInBounds_toArray, List.set_cons_zero, List.set_cons_succ, i64_w, i32_w]
                      rfl
                    refine one_ (i := 11) (N := none) #[true, true, true, true, true, true, true, true, true, true, true, true, false] rfl rfl (one_of HT_.out (by kernel_rfl)) (by decide) (fun K hK => ?_)
                    have hs23 : w22.cell? ⟨gb228, 0, none⟩ = some (.int .i64 0) := (blk_cell BK228.out 0).trans rfl
                    have hfs23 := blk_frozen BK228.out 0
                    have hs24 : w22.cell? ⟨gb228, 1, none⟩ = some (.int .i64 0) := (blk_cell BK228.out 1).trans rfl
                    have hfs24 := blk_frozen BK228.out 1
                    refine skip_ (w1 := ?_) (by rfl) rfl ?_ ?_
                    rotate_left
                    · go_simp
                      rfl
                    refine hK.out _ _ trivial (fun hHeld => ?_)
                    clear hK K
                    refine pure_ (i := 12) (N := some 3) (v := ?_) (a' := ?_) #[true, true, true, true, true, true, true, true, true, true, true, true, true] rfl rfl (any_of HT_.out (by kernel_rfl)) (fun _ _ _ h => h) (Or.inl ⟨by rfl, ?_⟩) ?_ ?_
                    rotate_left
                    · intro w'
                      go_simp
                      with_reducible rfl
                    rotate_left
                    · simp only [Act.put, List.setIfInBounds_toArray, List.set_cons_zero, List.set_cons_succ, i64_w, i32_w]
                      rfl
                    refine done_ (done_of HT_.out (by kernel_rfl)) ?_
                    try go_wp2
                    try rw [Exit.noGoto_ret]
                    refine bodyPost_ret (results_ct rfl _ _ gb228 23 #[.int .i64 t231, .int .i64 t232] (0, 0) _ rfl (by refine bp_ (cs := #[.int .i64 t231, .int .i64 0]) ?_ 1; refine bp_ (cs := #[.int .i64 0, .int .i64 0]) ?_ 0; exact bk_ BK228) Try.underlying23 rfl (by kernel_rfl)) rfl ?_
                    exact ⟨by first | rfl | (simp [errW_none, errW_some] <;> rfl) | (simp only [← hji17]; first | rfl | (simp [errW_none, errW_some] <;> rfl)) | (simp [*, errW_none, errW_some] <;> rfl), bw_ HB⟩
                  · rw [if_neg c19] at H
                    exact absurd H (by simp)
                · rw [if_neg c18] at H
                  exact absurd H (by simp)
              · rw [if_neg c16] at H
                exact absurd H (by simp)
            · rw [if_neg c15] at H
              exact absurd H (by simp)
          · replace c14 := Bool.eq_false_iff.mpr c14
            subst c14
            have H1 : (if 0 ≤ x6_2 then (if x6_2 ≤ (t229.size : Int) then ((num_plain.f (t229.extract 0 (x6_2 : Int).toNat) 10).bind fun bt234 => (if x6_2 < (t229.size : Int) then (if 0 ≤ (wrap64 (x6_2 + 1)) then (if (wrap64 (x6_2 + 1)) ≤ (t229.size : Int) then ((num_plain.f (t229.extract ((wrap64 (x6_2 + 1)) : Int).toNat t229.size) 10).bind fun bt236 => (if bt234.2 = true then (if bt236.2 = true then (num_Parse.j3 kj9 t230 bt234.1 (decide (bt236.1 > 1)) bt236.1) else (num_Parse.j3 kj9 t230 bt234.1 false bt236.1)) else (num_Parse.j3 kj9 t230 bt234.1 false bt236.1))) else (none)) else (none)) else (num_Parse.j3 kj9 t230 bt234.1 bt234.2 1))) else (none)) else (none)) = some (r1, r2, r3) := by rw [if_neg (show ¬ (false = true) by decide)] at H; exact H
            clear H
            have H := H1
            clear H1
            by_cases c25 : 0 ≤ x6_2
            · rw [if_pos c25] at H
              have c25b0 := eq_true c25
              have c25b1 : decide (0 ≤ x6_2) = true := decide_eq_true c25
              clear c25
              by_cases c26 : x6_2 ≤ (t229.size : Int)
              · rw [if_pos c26] at H
                have c26b0 := eq_true c26
                have c26b1 : decide (x6_2 ≤ (t229.size : Int)) = true := decide_eq_true c26
                clear c26
                replace H := Option.bind_eq_some_iff.mp H
                obtain ⟨⟨t234, t235⟩, A270, H⟩ := H
                replace H : (if x6_2 < (t229.size : Int) then (if 0 ≤ (wrap64 (x6_2 + 1)) then (if (wrap64 (x6_2 + 1)) ≤ (t229.size : Int) then ((num_plain.f (t229.extract ((wrap64 (x6_2 + 1)) : Int).toNat t229.size) 10).bind fun bt236 => (if t235 = true then (if bt236.2 = true then (num_Parse.j3 kj9 t230 t234 (decide (bt236.1 > 1)) bt236.1) else (num_Parse.j3 kj9 t230 t234 false bt236.1)) else (num_Parse.j3 kj9 t230 t234 false bt236.1))) else (none)) else (none)) else (num_Parse.j3 kj9 t230 t234 t235 1)) = some (r1, r2, r3) := H
                have A27 := Aside0.mk A270
                clear A270
                have HC28 := Aside0.mk H
                clear H
                go_upto_if 59 with (first | ((with_reducible refine gate_callee (f := 89) rfl ?_); refine gla_ (some 53) Try.func89 #[.string (t229.extract 0 (x6_2 : Int).toNat), .int .i64 10] ?_; (with_reducible refine (num_plain.calls (t229.extract 0 (x6_2 : Int).toNat) 10 t234 t235 _ A27.out).mono ?_); rintro e w29 ⟨rfl, hb⟩; refine ⟨_, rfl, ?_⟩; replace BK228 := bkb_ BK228 hb; replace HB := bws_ HB hb; (try clear hb); (try clear hb2); (try clear hk); (try clear hi)))
                (try simp only [Act.put, List.setIfInBounds_toArray, List.set_cons_zero, List.set_cons_succ])
                go_cut [8, 9] (fun v8 v9 wc => ∃ (kq : Nat) (x8_27 : Bool) (x9_27 : Int), v8 = .bool x8_27 ∧ v9 = .int .i64 x9_27 ∧ Aside0 (num_Parse.j3 kq t230 t234 x8_27 x9_27 = some (r1, r2, r3)) ∧ Aside0 (kq ≤ kj9) ∧ Aside0 (wc.heap[gb228]? = some (.cells #[.int .i64 0, .int .i64 0] 23 (0, 0))) ∧ Aside0 (Below w.heap.size w wc))
                case first =>
                  have H := HC28.out
                  clear HC28
                  by_cases c30 : x6_2 < (t229.size : Int)
                  · rw [if_pos c30] at H
                    have c30b0 : decide (x6_2 < (t229.size : Int)) = true := decide_eq_true c30
                    clear c30
                    (first | rw [c30b0] | (simp only [i64_w, i32_w]; rw [c30b0]) | skip)
                    obtain ⟨ji31, hji31⟩ : ∃ j_ : Int, (wrap64 (x6_2 + 1)) = j_ := ⟨_, rfl⟩
                    replace H : (if 0 ≤ (ji31) then (if (ji31) ≤ (t229.size : Int) then ((num_plain.f (t229.extract ((ji31) : Int).toNat t229.size) 10).bind fun bt236 => (if t235 = true then (if bt236.2 = true then (num_Parse.j3 kj9 t230 t234 (decide (bt236.1 > 1)) bt236.1) else (num_Parse.j3 kj9 t230 t234 false bt236.1)) else (num_Parse.j3 kj9 t230 t234 false bt236.1))) else (none)) else (none)) = some (r1, r2, r3) := by first | (rw [hji31] at H; exact H) | (simp only [hji31] at H ⊢; exact H)
                    have hji31w : (IntKind.i64.wrap (x6_2 + 1)) = ji31 := (i64_w _).trans hji31
                    by_cases c32 : 0 ≤ (ji31)
                    · rw [if_pos c32] at H
                      have c32b0 := eq_true c32
                      have c32b1 : decide (0 ≤ (ji31)) = true := decide_eq_true c32
                      clear c32
                      by_cases c33 : (ji31) ≤ (t229.size : Int)
                      · rw [if_pos c33] at H
                        have c33b0 := eq_true c33
                        have c33b1 : decide ((ji31) ≤ (t229.size : Int)) = true := decide_eq_true c33
                        clear c33
                        replace H := Option.bind_eq_some_iff.mp H
                        obtain ⟨⟨t236, t237⟩, A340, H⟩ := H
                        replace H : (if t235 = true then (if t237 = true then (num_Parse.j3 kj9 t230 t234 (decide (t236 > 1)) t236) else (num_Parse.j3 kj9 t230 t234 false t236)) else (num_Parse.j3 kj9 t230 t234 false t236)) = some (r1, r2, r3) := H
                        have A34 := Aside0.mk A340
                        clear A340
                        by_cases c35 : t235 = true
                        · subst c35
                          have H1 : (if t237 = true then (num_Parse.j3 kj9 t230 t234 (decide (t236 > 1)) t236) else (num_Parse.j3 kj9 t230 t234 false t236)) = some (r1, r2, r3) := by rw [if_pos rfl] at H; exact H
                          clear H
                          have H := H1
                          clear H1
                          by_cases c36 : t237 = true
                          · subst c36
                            have H1 : (num_Parse.j3 kj9 t230 t234 (decide (t236 > 1)) t236) = some (r1, r2, r3) := by rw [if_pos rfl] at H; exact H
                            clear H
                            have H := H1
                            clear H1
                            have H' := Aside0.mk H
                            clear H
                            go_wp2_with (first | ((with_reducible refine gate_callee (f := 89) rfl ?_); refine goesL_ (some 65) rfl rfl Try.func89 (by kernel_rfl) rfl #[.string (t229.extract ((ji31) : Int).toNat t229.size), .int .i64 10] rfl (by (try simp only [List.map_toArray, List.map_cons, List.map_nil]); first | done | (simp only [hji31]; rfl) | rfl | (simp only [List.length_drop, List.length_take]; rfl)) ?_; (with_reducible refine (num_plain.calls (t229.extract ((ji31) : Int).toNat t229.size) 10 t236 true _ A34.out).mono ?_); rintro e w37 ⟨rfl, hb⟩; refine ⟨_, rfl, ?_⟩; replace BK228 := bkb_ BK228 hb; replace HB := bws_ HB hb; (try clear hb); (try clear hb2); (try clear hk); (try clear hi)))
                            go_meet
                            case rel => exact ⟨_, (decide (t236 > 1)), (t236), (by first | rfl | (simp; done) | (simp [*]; done)), (by first | rfl | (simp; done) | (simp [*]; done)), H', ⟨by have := HJ2.out; have := HJ9.out; first | omega | exact Nat.le_refl _⟩, ⟨by exact bk_ BK228⟩, ⟨bw_ HB⟩⟩
                          · replace c36 := Bool.eq_false_iff.mpr c36
                            subst c36
                            have H1 : (num_Parse.j3 kj9 t230 t234 false t236) = some (r1, r2, r3) := by rw [if_neg (show ¬ (false = true) by decide)] at H; exact H
                            clear H
                            have H := H1
                            clear H1
                            have H' := Aside0.mk H
                            clear H
                            go_wp2_with (first | ((with_reducible refine gate_callee (f := 89) rfl ?_); refine goesL_ (some 65) rfl rfl Try.func89 (by kernel_rfl) rfl #[.string (t229.extract ((ji31) : Int).toNat t229.size), .int .i64 10] rfl (by (try simp only [List.map_toArray, List.map_cons, List.map_nil]); first | done | (simp only [hji31]; rfl) | rfl | (simp only [List.length_drop, List.length_take]; rfl)) ?_; (with_reducible refine (num_plain.calls (t229.extract ((ji31) : Int).toNat t229.size) 10 t236 false _ A34.out).mono ?_); rintro e w38 ⟨rfl, hb⟩; refine ⟨_, rfl, ?_⟩; replace BK228 := bkb_ BK228 hb; replace HB := bws_ HB hb; (try clear hb); (try clear hb2); (try clear hk); (try clear hi)))
                            go_meet
                            case rel => exact ⟨_, (false), (t236), (by first | rfl | (simp; done) | (simp [*]; done)), (by first | rfl | (simp; done) | (simp [*]; done)), H', ⟨by have := HJ2.out; have := HJ9.out; first | omega | exact Nat.le_refl _⟩, ⟨by exact bk_ BK228⟩, ⟨bw_ HB⟩⟩
                        · replace c35 := Bool.eq_false_iff.mpr c35
                          subst c35
                          have H1 : (num_Parse.j3 kj9 t230 t234 false t236) = some (r1, r2, r3) := by rw [if_neg (show ¬ (false = true) by decide)] at H; exact H
                          clear H
                          have H := H1
                          clear H1
                          have H' := Aside0.mk H
                          clear H
                          go_wp2_with (first | ((with_reducible refine gate_callee (f := 89) rfl ?_); refine goesL_ (some 65) rfl rfl Try.func89 (by kernel_rfl) rfl #[.string (t229.extract ((ji31) : Int).toNat t229.size), .int .i64 10] rfl (by (try simp only [List.map_toArray, List.map_cons, List.map_nil]); first | done | (simp only [hji31]; rfl) | rfl | (simp only [List.length_drop, List.length_take]; rfl)) ?_; (with_reducible refine (num_plain.calls (t229.extract ((ji31) : Int).toNat t229.size) 10 t236 t237 _ A34.out).mono ?_); rintro e w39 ⟨rfl, hb⟩; refine ⟨_, rfl, ?_⟩; replace BK228 := bkb_ BK228 hb; replace HB := bws_ HB hb; (try clear hb); (try clear hb2); (try clear hk); (try clear hi)))
                          go_meet
                          case rel => exact ⟨_, (false), (t236), (by first | rfl | (simp; done) | (simp [*]; done)), (by first | rfl | (simp; done) | (simp [*]; done)), H', ⟨by have := HJ2.out; have := HJ9.out; first | omega | exact Nat.le_refl _⟩, ⟨by exact bk_ BK228⟩, ⟨bw_ HB⟩⟩
                      · rw [if_neg c33] at H
                        exact absurd H (by simp)
                    · rw [if_neg c32] at H
                      exact absurd H (by simp)
                  · rw [if_neg c30] at H
                    have c30b0 : decide (x6_2 < (t229.size : Int)) = false := decide_eq_false c30
                    clear c30
                    (first | rw [c30b0] | (simp only [i64_w, i32_w]; rw [c30b0]) | skip)
                    have H' := Aside0.mk H
                    clear H
                    go_wp2
                    go_meet
                    case rel => exact ⟨_, (t235), (1), (by first | rfl | (simp; done) | (simp [*]; done)), (by first | rfl | (simp; done) | (simp [*]; done)), H', ⟨by have := HJ2.out; have := HJ9.out; first | omega | exact Nat.le_refl _⟩, ⟨by exact bk_ BK228⟩, ⟨bw_ HB⟩⟩
                case rest =>
                  clear HC28
                  try clear c1
                  try clear p1
                  try clear q1
                  try clear hx1
                  try clear c2
                  try clear p2
                  try clear c3
                  try clear c5
                  try clear c5b0
                  try clear c6
                  try clear c6b0
                  try clear p6
                  try clear p7
                  try clear q7
                  try clear hx7
                  try clear c8
                  try clear c8b0
                  try clear c8b1
                  try clear c9
                  try clear c9b0
                  try clear c9b1
                  try clear c11
                  try clear c11b0
                  try clear c12
                  try clear c12b0
                  try clear p13
                  try clear q13
                  try clear hx13
                  try clear c14
                  try clear c15
                  try clear c15b0
                  try clear c15b1
                  try clear c16
                  try clear c16b0
                  try clear c16b1
                  try clear c18
                  try clear c18b0
                  try clear c18b1
                  try clear c19
                  try clear c19b0
                  try clear c19b1
                  try clear c25
                  try clear c25b0
                  try clear c25b1
                  try clear c26
                  try clear c26b0
                  try clear c26b1
                  try clear c30
                  try clear c30b0
                  try clear c32
                  try clear c32b0
                  try clear c32b1
                  try clear c33
                  try clear c33b0
                  try clear c33b1
                  try clear c35
                  try clear c36
                  try clear c39
                  try clear p1
                  try clear p13
                  try clear p2
                  try clear p6
                  try clear p7
                  try clear q1
                  try clear q13
                  try clear q7
                  obtain ⟨kq, x8_27, x9_27, rfl, rfl, HA, HJ27, BK228, HB⟩ := hcut
                  cases kq with
                  | zero => exact absurd HA.out (by simp [num_Parse.j3])
                  | succ kj27 =>
                    have H := HA.out
                    clear HA
                    simp only [num_Parse.j3] at H
                    by_cases c40 : t230 = true
                    · subst c40
                      have H1 : (if x8_27 = true then (if (wrap64 (-t234)) = 0 then (some (0, 0, 1)) else ((num_Check.f kj27 (wrap64 (-t234)) x9_27).bind fun t238 => (if t238 = 0 then (some (wrap64 (-t234), x9_27, 0)) else (some (0, 0, 1))))) else (some (0, 0, 1))) = some (r1, r2, r3) := by rw [if_pos rfl] at H; exact H
                      clear H
                      have H := H1
                      clear H1
                      by_cases c41 : x8_27 = true
                      · subst c41
                        have H1 : (if (wrap64 (-t234)) = 0 then (some (0, 0, 1)) else ((num_Check.f kj27 (wrap64 (-t234)) x9_27).bind fun t238 => (if t238 = 0 then (some (wrap64 (-t234), x9_27, 0)) else (some (0, 0, 1))))) = some (r1, r2, r3) := by rw [if_pos rfl] at H; exact H
                        clear H
                        have H := H1
                        clear H1
                        by_cases c42 : (wrap64 (-t234)) = 0
                        · rw [if_pos c42] at H
                          have c42b0 : ((wrap64 (-t234)) == 0) = true := beq_iff_eq.mpr c42
                          have c42b1 : ((wrap64 (-t234)) != 0) = false := bne_eq_false_iff_eq.mpr c42
                          clear c42
                          simp only [Option.some.injEq, Prod.mk.injEq] at H
                          obtain ⟨rfl, rfl, rfl⟩ := H
                          obtain ⟨hcz43_0, hcz43_1, hfz43_0, hfz43_1⟩ := bc2_ BK228
                          go_wp2
                          try rw [Exit.noGoto_ret]
                          refine bodyPost_ret (results_ct rfl _ _ gb228 23 #[.int .i64 0, .int .i64 0] (0, 0) _ rfl (by refine bp_ (cs := #[.int .i64 0, .int .i64 x9_27]) ?_ 1; refine bp_ (cs := #[.int .i64 (wrap64 (-t234)), .int .i64 x9_27]) ?_ 0; refine bp_ (cs := #[.int .i64 (wrap64 (-t234)), .int .i64 0]) ?_ 1; refine bp_ (cs := #[.int .i64 0, .int .i64 0]) ?_ 0; exact bk_ BK228) Try.underlying23 rfl (by kernel_rfl)) rfl ?_
                          exact ⟨by first | rfl | (simp [*] <;> rfl), bw_ HB⟩
                        · rw [if_neg c42] at H
                          have c42b0 : ((wrap64 (-t234)) == 0) = false := beq_eq_false_iff_ne.mpr c42
                          have c42b1 : ((wrap64 (-t234)) != 0) = true := bne_iff_ne.mpr c42
                          replace H := Option.bind_eq_some_iff.mp H
                          obtain ⟨t238, A440, H⟩ := H
                          replace H : (if t238 = 0 then (some (wrap64 (-t234), x9_27, 0)) else (some (0, 0, 1))) = some (r1, r2, r3) := H
                          have A44 := Aside0.mk A440
                          clear A440
                          by_cases c45 : t238 = 0
                          · rw [if_pos c45] at H
                            have c45b0 : (t238 == 0) = true := beq_iff_eq.mpr c45
                            have c45b1 : (t238 != 0) = false := bne_eq_false_iff_eq.mpr c45
                            clear c45
                            simp only [Option.some.injEq, Prod.mk.injEq] at H
                            obtain ⟨rfl, rfl, rfl⟩ := H
                            obtain ⟨hcz46_0, hcz46_1, hfz46_0, hfz46_1⟩ := bc2_ BK228
                            go_wp2_with (first | (go_at_call 46; (with_reducible refine (num_Check.calls kj27 (wrap64 (-t234)) x9_27 t238 _ A44.out).mono ?_); rintro e w47 ⟨rfl, hb⟩; replace BK228 := Aside0.mk (blk_below (g := gb228) (o := .cells #[.int .i64 (wrap64 (-t234)), .int .i64 x9_27] 23 (0, 0)) (by refine bp_ (cs := #[.int .i64 (wrap64 (-t234)), .int .i64 0]) ?_ 1; refine bp_ (cs := #[.int .i64 0, .int .i64 0]) ?_ 0; exact bk_ BK228) hb); replace HB := bws_ HB hb; (try clear hb); (try clear hb2); (try clear hk); (try clear hi); obtain ⟨hcz48_0, hcz48_1, hfz48_0, hfz48_1⟩ := bc2_ BK228))
                            try rw [Exit.noGoto_ret]
                            refine bodyPost_ret (results_ct rfl _ _ gb228 23 #[.int .i64 (wrap64 (-t234)), .int .i64 x9_27] (0, 0) _ rfl (by refine bp_ (cs := #[.int .i64 (wrap64 (-t234)), .int .i64 x9_27]) ?_ 1; refine bp_ (cs := #[.int .i64 (wrap64 (-t234)), .int .i64 x9_27]) ?_ 0; exact bk_ BK228) Try.underlying23 rfl (by kernel_rfl)) rfl ?_
                            exact ⟨by first | rfl | (simp [*] <;> rfl), bw_ HB⟩
                          · rw [if_neg c45] at H
                            have c45b0 : (t238 == 0) = false := beq_eq_false_iff_ne.mpr c45
                            have c45b1 : (t238 != 0) = true := bne_iff_ne.mpr c45
                            simp only [Option.some.injEq, Prod.mk.injEq] at H
                            obtain ⟨rfl, rfl, rfl⟩ := H
                            obtain ⟨hcz49_0, hcz49_1, hfz49_0, hfz49_1⟩ := bc2_ BK228
                            go_wp2_with (first | (go_at_call 46; (with_reducible refine (num_Check.calls kj27 (wrap64 (-t234)) x9_27 t238 _ A44.out).mono ?_); rintro e w50 ⟨rfl, hb⟩; replace BK228 := Aside0.mk (blk_below (g := gb228) (o := .cells #[.int .i64 (wrap64 (-t234)), .int .i64 x9_27] 23 (0, 0)) (by refine bp_ (cs := #[.int .i64 (wrap64 (-t234)), .int .i64 0]) ?_ 1; refine bp_ (cs := #[.int .i64 0, .int .i64 0]) ?_ 0; exact bk_ BK228) hb); replace HB := bws_ HB hb; (try clear hb); (try clear hb2); (try clear hk); (try clear hi); obtain ⟨hcz51_0, hcz51_1, hfz51_0, hfz51_1⟩ := bc2_ BK228))
                            try rw [Exit.noGoto_ret]
                            refine bodyPost_ret (results_ct rfl _ _ gb228 23 #[.int .i64 0, .int .i64 0] (0, 0) _ rfl (by refine bp_ (cs := #[.int .i64 0, .int .i64 x9_27]) ?_ 1; refine bp_ (cs := #[.int .i64 (wrap64 (-t234)), .int .i64 x9_27]) ?_ 0; exact bk_ BK228) Try.underlying23 rfl (by kernel_rfl)) rfl ?_
                            exact ⟨by first | rfl | (simp [*] <;> rfl), bw_ HB⟩
                      · replace c41 := Bool.eq_false_iff.mpr c41
                        subst c41
                        have H1 : (some (0, 0, 1)) = some (r1, r2, r3) := by rw [if_neg (show ¬ (false = true) by decide)] at H; exact H
                        clear H
                        have H := H1
                        clear H1
                        simp only [Option.some.injEq, Prod.mk.injEq] at H
                        obtain ⟨rfl, rfl, rfl⟩ := H
                        obtain ⟨hcz52_0, hcz52_1, hfz52_0, hfz52_1⟩ := bc2_ BK228
                        go_wp2
                        try rw [Exit.noGoto_ret]
                        refine bodyPost_ret (results_ct rfl _ _ gb228 23 #[.int .i64 0, .int .i64 0] (0, 0) _ rfl (by refine bp_ (cs := #[.int .i64 0, .int .i64 x9_27]) ?_ 1; refine bp_ (cs := #[.int .i64 (wrap64 (-t234)), .int .i64 x9_27]) ?_ 0; refine bp_ (cs := #[.int .i64 (wrap64 (-t234)), .int .i64 0]) ?_ 1; refine bp_ (cs := #[.int .i64 0, .int .i64 0]) ?_ 0; exact bk_ BK228) Try.underlying23 rfl (by kernel_rfl)) rfl ?_
                        exact ⟨by first | rfl | (simp [*] <;> rfl), bw_ HB⟩
                    · replace c40 := Bool.eq_false_iff.mpr c40
                      subst c40
                      have H1 : (if x8_27 = true then ((num_Check.f kj27 t234 x9_27).bind fun t239 => (if t239 = 0 then (some (t234, x9_27, 0)) else (some (0, 0, 1)))) else (some (0, 0, 1))) = some (r1, r2, r3) := by rw [if_neg (show ¬ (false = true) by decide)] at H; exact H
                      clear H
                      have H := H1
                      clear H1
                      by_cases c53 : x8_27 = true
                      · subst c53
                        have H1 : ((num_Check.f kj27 t234 x9_27).bind fun t239 => (if t239 = 0 then (some (t234, x9_27, 0)) else (some (0, 0, 1)))) = some (r1, r2, r3) := by rw [if_pos rfl] at H; exact H
                        clear H
                        have H := H1
                        clear H1
                        replace H := Option.bind_eq_some_iff.mp H
                        obtain ⟨t239, A540, H⟩ := H
                        replace H : (if t239 = 0 then (some (t234, x9_27, 0)) else (some (0, 0, 1))) = some (r1, r2, r3) := H
                        have A54 := Aside0.mk A540
                        clear A540
                        by_cases c55 : t239 = 0
                        · rw [if_pos c55] at H
                          have c55b0 : (t239 == 0) = true := beq_iff_eq.mpr c55
                          have c55b1 : (t239 != 0) = false := bne_eq_false_iff_eq.mpr c55
                          clear c55
                          simp only [Option.some.injEq, Prod.mk.injEq] at H
                          obtain ⟨rfl, rfl, rfl⟩ := H
                          obtain ⟨hcz56_0, hcz56_1, hfz56_0, hfz56_1⟩ := bc2_ BK228
                          go_wp2_with (first | (go_at_call 46; (with_reducible refine (num_Check.calls kj27 t234 x9_27 t239 _ A54.out).mono ?_); rintro e w57 ⟨rfl, hb⟩; replace BK228 := Aside0.mk (blk_below (g := gb228) (o := .cells #[.int .i64 t234, .int .i64 x9_27] 23 (0, 0)) (by refine bp_ (cs := #[.int .i64 t234, .int .i64 0]) ?_ 1; refine bp_ (cs := #[.int .i64 0, .int .i64 0]) ?_ 0; exact bk_ BK228) hb); replace HB := bws_ HB hb; (try clear hb); (try clear hb2); (try clear hk); (try clear hi); obtain ⟨hcz58_0, hcz58_1, hfz58_0, hfz58_1⟩ := bc2_ BK228))
                          try rw [Exit.noGoto_ret]
                          refine bodyPost_ret (results_ct rfl _ _ gb228 23 #[.int .i64 t234, .int .i64 x9_27] (0, 0) _ rfl (by refine bp_ (cs := #[.int .i64 t234, .int .i64 x9_27]) ?_ 1; refine bp_ (cs := #[.int .i64 t234, .int .i64 x9_27]) ?_ 0; exact bk_ BK228) Try.underlying23 rfl (by kernel_rfl)) rfl ?_
                          exact ⟨by first | rfl | (simp [*] <;> rfl), bw_ HB⟩
                        · rw [if_neg c55] at H
                          have c55b0 : (t239 == 0) = false := beq_eq_false_iff_ne.mpr c55
                          have c55b1 : (t239 != 0) = true := bne_iff_ne.mpr c55
                          simp only [Option.some.injEq, Prod.mk.injEq] at H
                          obtain ⟨rfl, rfl, rfl⟩ := H
                          obtain ⟨hcz59_0, hcz59_1, hfz59_0, hfz59_1⟩ := bc2_ BK228
                          go_wp2_with (first | (go_at_call 46; (with_reducible refine (num_Check.calls kj27 t234 x9_27 t239 _ A54.out).mono ?_); rintro e w60 ⟨rfl, hb⟩; replace BK228 := Aside0.mk (blk_below (g := gb228) (o := .cells #[.int .i64 t234, .int .i64 x9_27] 23 (0, 0)) (by refine bp_ (cs := #[.int .i64 t234, .int .i64 0]) ?_ 1; refine bp_ (cs := #[.int .i64 0, .int .i64 0]) ?_ 0; exact bk_ BK228) hb); replace HB := bws_ HB hb; (try clear hb); (try clear hb2); (try clear hk); (try clear hi); obtain ⟨hcz61_0, hcz61_1, hfz61_0, hfz61_1⟩ := bc2_ BK228))
                          try rw [Exit.noGoto_ret]
                          refine bodyPost_ret (results_ct rfl _ _ gb228 23 #[.int .i64 0, .int .i64 0] (0, 0) _ rfl (by refine bp_ (cs := #[.int .i64 0, .int .i64 x9_27]) ?_ 1; refine bp_ (cs := #[.int .i64 t234, .int .i64 x9_27]) ?_ 0; exact bk_ BK228) Try.underlying23 rfl (by kernel_rfl)) rfl ?_
                          exact ⟨by first | rfl | (simp [*] <;> rfl), bw_ HB⟩
                      · replace c53 := Bool.eq_false_iff.mpr c53
                        subst c53
                        have H1 : (some (0, 0, 1)) = some (r1, r2, r3) := by rw [if_neg (show ¬ (false = true) by decide)] at H; exact H
                        clear H
                        have H := H1
                        clear H1
                        simp only [Option.some.injEq, Prod.mk.injEq] at H
                        obtain ⟨rfl, rfl, rfl⟩ := H
                        obtain ⟨hcz62_0, hcz62_1, hfz62_0, hfz62_1⟩ := bc2_ BK228
                        go_wp2
                        try rw [Exit.noGoto_ret]
                        refine bodyPost_ret (results_ct rfl _ _ gb228 23 #[.int .i64 0, .int .i64 0] (0, 0) _ rfl (by refine bp_ (cs := #[.int .i64 0, .int .i64 x9_27]) ?_ 1; refine bp_ (cs := #[.int .i64 t234, .int .i64 x9_27]) ?_ 0; refine bp_ (cs := #[.int .i64 t234, .int .i64 0]) ?_ 1; refine bp_ (cs := #[.int .i64 0, .int .i64 0]) ?_ 0; exact bk_ BK228) Try.underlying23 rfl (by kernel_rfl)) rfl ?_
                        exact ⟨by first | rfl | (simp [*] <;> rfl), bw_ HB⟩
              · rw [if_neg c26] at H
                exact absurd H (by simp)
            · rw [if_neg c25] at H
              exact absurd H (by simp)
/-! ### withyref01_under: function 76 -/
def withyref01_under.f (a0 : Int) (a1 : Int) : Option (Int) := if a0 < 0 then (if a1 = 0 then (none) else (some (wrap64 (-(wrap64 (Int.tdiv (wrap64 ((wrap64 ((wrap64 (-a0)) + a1)) - 1)) a1)))))) else (if a1 = 0 then (none) else (some (wrap64 (Int.tdiv a0 a1))))
set_option maxHeartbeats 8000000 in
set_option maxRecDepth 100000 in
theorem withyref01_under.calls (a0 : Int) (a1 : Int) (r : Int) (w : World) (h : withyref01_under.f a0 a1 = some r) :
    Calls Try.prog 76 #[.int .i64 a0, .int .i64 a1] w fun e w' => e = .returned (.int .i64 r) ∧ Drawn0 w w' := by
  have H : (if a0 < 0 then (if a1 = 0 then (none) else (some (wrap64 (-(wrap64 (Int.tdiv (wrap64 ((wrap64 ((wrap64 (-a0)) + a1)) - 1)) a1)))))) else (if a1 = 0 then (none) else (some (wrap64 (Int.tdiv a0 a1))))) = some r := h
  clear h
  by_cases c3 : a0 < 0
  · rw [if_pos c3] at H
    have c3b0 : decide (a0 < 0) = true := decide_eq_true c3
    clear c3
    by_cases c4 : a1 = 0
    · rw [if_pos c4] at H
      exact absurd H (by simp)
    · rw [if_neg c4] at H
      have c4b0 : (a1 == 0) = false := beq_eq_false_iff_ne.mpr c4
      have c4b1 : (a1 != 0) = true := bne_iff_ne.mpr c4
      obtain rfl := Option.some.inj H
      go_enter Try.func76, Try.ntmps76
      go_wp2
      go_ret
      exact ⟨by first | rfl | (simp; done) | (simp [*]; done), by repeat (first | exact Drawn0.refl _ | apply Drawn0.step)⟩
  · rw [if_neg c3] at H
    have c3b0 : decide (a0 < 0) = false := decide_eq_false c3
    clear c3
    by_cases c5 : a1 = 0
    · rw [if_pos c5] at H
      exact absurd H (by simp)
    · rw [if_neg c5] at H
      have c5b0 : (a1 == 0) = false := beq_eq_false_iff_ne.mpr c5
      have c5b1 : (a1 != 0) = true := bne_iff_ne.mpr c5
      obtain rfl := Option.some.inj H
      go_enter Try.func76, Try.ntmps76
      go_wp2
      go_ret
      exact ⟨by first | rfl | (simp; done) | (simp [*]; done), by repeat (first | exact Drawn0.refl _ | apply Drawn0.step)⟩
/-! ### withyref01_low: function 96 -/
def withyref01_low.j0 : Nat → Int → Int → Option (Int × Int × Int)
  | 0, _, _ => none
  | k + 1, x0, x1 => (withyref01_Of2.f k x0 x1).bind fun t466 => (if t466 = 0 then (none) else (if (wrap64 (Int.tdiv x1 t466)) > 1000000000 then (some (0, 0, 8)) else ((withyref01_In.f (wrap64 (Int.tdiv x0 t466)) (-1000000000) 1000000000).bind fun t467 => (if t467 = true then (some (wrap64 (Int.tdiv x0 t466), wrap64 (Int.tdiv x1 t466), 0)) else (some (0, 0, 8))))))
def withyref01_low.f (k : Nat) (a0 : Int) (a1 : Int) : Option (Int × Int × Int) := if a1 < 0 then (withyref01_low.j0 k (wrap64 (-a0)) (wrap64 (-a1))) else (withyref01_low.j0 k a0 a1)
theorem withyref01_low.mono_l : ∀ k, (∀ y0 y1, LeO (withyref01_low.j0 k y0 y1) (withyref01_low.j0 (k + 1) y0 y1))
  | 0 => fun _ _ r h => by simp [withyref01_low.j0] at h
  | k + 1 => by
    have ih0 := withyref01_low.mono_l k
    · intro y0 y1
      unfold withyref01_low.j0
      repeat' first
      | (with_reducible exact ih0 _ _)
      | (with_reducible exact withyref01_Of2.mono _ _ _)
      | (with_reducible exact LeO.refl _)
      | (with_reducible exact LeO.none _)
      | (with_reducible refine LeO.ite ?_ ?_)
      | (with_reducible refine LeO.bind ?_ (fun _ => ?_))
      | (with_reducible refine LeO.exc (fun _ => ?_) (fun _ => ?_))
      | exact ih0 _ _
      | exact withyref01_Of2.mono _ _ _
      | exact LeO.none _
      | refine LeO.ite ?_ ?_
      | refine LeO.bind ?_ (fun _ => ?_)
theorem withyref01_low.mono : ∀ a0 a1 k, LeO (withyref01_low.f k a0 a1) (withyref01_low.f (k + 1) a0 a1) := by
  intro a0 a1 k
  have ih0 := withyref01_low.mono_l k
  unfold withyref01_low.f
  repeat' first
      | (with_reducible exact ih0 _ _)
      | (with_reducible exact withyref01_Of2.mono _ _ _)
      | (with_reducible exact LeO.refl _)
      | (with_reducible exact LeO.none _)
      | (with_reducible refine LeO.ite ?_ ?_)
      | (with_reducible refine LeO.bind ?_ (fun _ => ?_))
      | (with_reducible refine LeO.exc (fun _ => ?_) (fun _ => ?_))
      | exact ih0 _ _
      | exact withyref01_Of2.mono _ _ _
      | exact LeO.none _
      | refine LeO.ite ?_ ?_
      | refine LeO.bind ?_ (fun _ => ?_)
set_option maxHeartbeats 8000000 in
set_option maxRecDepth 100000 in
theorem withyref01_low.calls (k : Nat) (a0 : Int) (a1 : Int) (r1 : Int) (r2 : Int) (r3 : Int) (w : World) (h : withyref01_low.f k a0 a1 = some (r1, r2, r3)) :
    Calls Try.prog 96 #[.int .i64 a0, .int .i64 a1] w fun e w' => e = .returned (.tuple #[.agg #[.int .i64 r1, .int .i64 r2], .int .i64 r3]) ∧ Below w.heap.size w w' := by
  have hu23 := Try.underlying23
  have HB := Aside0.mk (Below.refl w.heap.size w)
  have H : (if a1 < 0 then (withyref01_low.j0 k (wrap64 (-a0)) (wrap64 (-a1))) else (withyref01_low.j0 k a0 a1)) = some (r1, r2, r3) := h
  clear h
  have HC3 := Aside0.mk H
  clear H
  go_enter Try.func96, Try.ntmps96
  go_upto_if 8 with (first | ((with_reducible refine gate_dst (N := 4) rfl ?_); refine box_event ?hg (N := 4) ?hd (cs := #[.int .i64 0, .int .i64 0]) (t := 23) ?hr ?_; (case hd => rfl); (case hg => rfl); (case hr => first | (go_simp; done) | (go_simp; rfl)); intro gb465 hg w4 hbox hb; have BK465 := Aside0.mk hbox; have GW465 := bwg_ HB hg; have GE465 := bwg_ HB hg; replace HB := bws_ HB hb; clear hb hbox hg))
  repeat (go_quiet (first | ((with_reducible refine gate_dst (N := 4) rfl ?_); refine box_event ?hg (N := 4) ?hd (cs := #[.int .i64 0, .int .i64 0]) (t := 23) ?hr ?_; (case hd => rfl); (case hg => rfl); (case hr => first | (go_simp; done) | (go_simp; rfl)); intro gb465 hg w4 hbox hb; have BK465 := Aside0.mk hbox; have GW465 := bwg_ HB hg; have GE465 := bwg_ HB hg; replace HB := bws_ HB hb; clear hb hbox hg)); go_upto_if 8 with (first | ((with_reducible refine gate_dst (N := 4) rfl ?_); refine box_event ?hg (N := 4) ?hd (cs := #[.int .i64 0, .int .i64 0]) (t := 23) ?hr ?_; (case hd => rfl); (case hg => rfl); (case hr => first | (go_simp; done) | (go_simp; rfl)); intro gb465 hg w4 hbox hb; have BK465 := Aside0.mk hbox; have GW465 := bwg_ HB hg; have GE465 := bwg_ HB hg; replace HB := bws_ HB hb; clear hb hbox hg)))
  (try simp only [Act.put, List.setIfInBounds_toArray, List.set_cons_zero, List.set_cons_succ])
  go_cut [0, 1] (fun v0 v1 wc => ∃ (kq : Nat) (x0_2 : Int) (x1_2 : Int), v0 = .int .i64 x0_2 ∧ v1 = .int .i64 x1_2 ∧ Aside0 (withyref01_low.j0 kq x0_2 x1_2 = some (r1, r2, r3)) ∧ Aside0 (kq ≤ k) ∧ Aside0 (wc.heap[gb465]? = some (.cells #[.int .i64 0, .int .i64 0] 23 (0, 0))) ∧ Aside0 (Below w.heap.size w wc))
  case first =>
    have H := HC3.out
    clear HC3
    by_cases c5 : a1 < 0
    · rw [if_pos c5] at H
      have c5b0 : decide (a1 < 0) = true := decide_eq_true c5
      clear c5
      (first | rw [c5b0] | (simp only [i64_w, i32_w]; rw [c5b0]) | skip)
      have H' := Aside0.mk H
      clear H
      go_wp2
      repeat (go_quiet (fail); try go_wp2)
      go_meet
      case rel => exact ⟨_, (wrap64 (-a0)), (wrap64 (-a1)), (by first | rfl | (simp; done) | (simp [*]; done)), (by first | rfl | (simp; done) | (simp [*]; done)), H', ⟨by first | omega | exact Nat.le_refl _⟩, ⟨by exact bk_ BK465⟩, ⟨bw_ HB⟩⟩
    · rw [if_neg c5] at H
      have c5b0 : decide (a1 < 0) = false := decide_eq_false c5
      clear c5
      (first | rw [c5b0] | (simp only [i64_w, i32_w]; rw [c5b0]) | skip)
      have H' := Aside0.mk H
      clear H
      go_wp2
      repeat (go_quiet (fail); try go_wp2)
      go_meet
      case rel => exact ⟨_, (a0), (a1), (by first | rfl | (simp; done) | (simp [*]; done)), (by first | rfl | (simp; done) | (simp [*]; done)), H', ⟨by first | omega | exact Nat.le_refl _⟩, ⟨by exact bk_ BK465⟩, ⟨bw_ HB⟩⟩
  case rest =>
    clear HC3
    try clear p2
    try clear c5
    try clear c5b0
    obtain ⟨kq, x0_2, x1_2, rfl, rfl, HA, HJ2, BK465, HB⟩ := hcut
    cases kq with
    | zero => exact absurd HA.out (by simp [withyref01_low.j0])
    | succ kj2 =>
      have H := HA.out
      clear HA
      simp only [withyref01_low.j0] at H
      replace H := Option.bind_eq_some_iff.mp H
      obtain ⟨t466, A60, H⟩ := H
      replace H : (if t466 = 0 then (none) else (if (wrap64 (Int.tdiv x1_2 t466)) > 1000000000 then (some (0, 0, 8)) else ((withyref01_In.f (wrap64 (Int.tdiv x0_2 t466)) (-1000000000) 1000000000).bind fun t467 => (if t467 = true then (some (wrap64 (Int.tdiv x0_2 t466), wrap64 (Int.tdiv x1_2 t466), 0)) else (some (0, 0, 8)))))) = some (r1, r2, r3) := H
      have A6 := Aside0.mk A60
      clear A60
      by_cases c7 : t466 = 0
      · rw [if_pos c7] at H
        exact absurd H (by simp)
      · rw [if_neg c7] at H
        have c7b0 : (t466 == 0) = false := beq_eq_false_iff_ne.mpr c7
        have c7b1 : (t466 != 0) = true := bne_iff_ne.mpr c7
        by_cases c8 : (wrap64 (Int.tdiv x1_2 t466)) > 1000000000
        · rw [if_pos c8] at H
          have c8b0 : decide (1000000000 < (wrap64 (Int.tdiv x1_2 t466))) = true := decide_eq_true c8
          clear c8
          simp only [Option.some.injEq, Prod.mk.injEq] at H
          obtain ⟨rfl, rfl, rfl⟩ := H
          go_wp2_with (first | (go_at_call 93; (with_reducible refine (withyref01_Of2.calls kj2 x0_2 x1_2 t466 _ A6.out).mono ?_); rintro e w' ⟨rfl, ⟨nd, rfl⟩⟩; (try first | exact ⟨rfl, _, World.drewN_drewN _ _ _⟩ | exact ⟨rfl, _, Eq.trans (World.drewN_drewN _ _ _) (congrArg (World.drewN _) (Nat.add_assoc _ _ _))⟩); obtain ⟨hcz9_0, hcz9_1, hfz9_0, hfz9_1⟩ := bc2_ BK465))
          repeat (go_quiet (first | (go_at_call 93; (with_reducible refine (withyref01_Of2.calls kj2 x0_2 x1_2 t466 _ A6.out).mono ?_); rintro e w' ⟨rfl, ⟨nd, rfl⟩⟩; (try first | exact ⟨rfl, _, World.drewN_drewN _ _ _⟩ | exact ⟨rfl, _, Eq.trans (World.drewN_drewN _ _ _) (congrArg (World.drewN _) (Nat.add_assoc _ _ _))⟩); obtain ⟨hcz9_0, hcz9_1, hfz9_0, hfz9_1⟩ := bc2_ BK465)); try go_wp2_with (first | (go_at_call 93; (with_reducible refine (withyref01_Of2.calls kj2 x0_2 x1_2 t466 _ A6.out).mono ?_); rintro e w' ⟨rfl, ⟨nd, rfl⟩⟩; (try first | exact ⟨rfl, _, World.drewN_drewN _ _ _⟩ | exact ⟨rfl, _, Eq.trans (World.drewN_drewN _ _ _) (congrArg (World.drewN _) (Nat.add_assoc _ _ _))⟩); obtain ⟨hcz9_0, hcz9_1, hfz9_0, hfz9_1⟩ := bc2_ BK465)))
          refine bodyPost_ret (results_ct rfl _ _ gb465 23 #[.int .i64 0, .int .i64 0] (0, 0) _ rfl (by refine bp_ (cs := #[.int .i64 0, .int .i64 0]) ?_ 1; refine bp_ (cs := #[.int .i64 0, .int .i64 0]) ?_ 0; exact bk_ BK465) Try.underlying23 rfl (by kernel_rfl)) rfl ?_
          exact ⟨by first | rfl | (simp [*] <;> rfl), bw_ HB⟩
        · rw [if_neg c8] at H
          have c8b0 : decide (1000000000 < (wrap64 (Int.tdiv x1_2 t466))) = false := decide_eq_false c8
          clear c8
          replace H := Option.bind_eq_some_iff.mp H
          obtain ⟨t467, A100, H⟩ := H
          replace H : (if t467 = true then (some (wrap64 (Int.tdiv x0_2 t466), wrap64 (Int.tdiv x1_2 t466), 0)) else (some (0, 0, 8))) = some (r1, r2, r3) := H
          have A10 := Aside0.mk A100
          clear A100
          by_cases c11 : t467 = true
          · subst c11
            have H1 : (some (wrap64 (Int.tdiv x0_2 t466), wrap64 (Int.tdiv x1_2 t466), 0)) = some (r1, r2, r3) := by rw [if_pos rfl] at H; exact H
            clear H
            have H := H1
            clear H1
            simp only [Option.some.injEq, Prod.mk.injEq] at H
            obtain ⟨rfl, rfl, rfl⟩ := H
            go_wp2_with (first | (go_at_call 93; (with_reducible refine (withyref01_Of2.calls kj2 x0_2 x1_2 t466 _ A6.out).mono ?_); rintro e w' ⟨rfl, ⟨nd, rfl⟩⟩; (try first | exact ⟨rfl, _, World.drewN_drewN _ _ _⟩ | exact ⟨rfl, _, Eq.trans (World.drewN_drewN _ _ _) (congrArg (World.drewN _) (Nat.add_assoc _ _ _))⟩)) | (go_at_call 42; (with_reducible refine (withyref01_In.calls (wrap64 (Int.tdiv x0_2 t466)) (-1000000000) 1000000000 true _ A10.out).mono ?_); rintro e w' ⟨rfl, ⟨nd, rfl⟩⟩; (try first | exact ⟨rfl, _, World.drewN_drewN _ _ _⟩ | exact ⟨rfl, _, Eq.trans (World.drewN_drewN _ _ _) (congrArg (World.drewN _) (Nat.add_assoc _ _ _))⟩); obtain ⟨hcz12_0, hcz12_1, hfz12_0, hfz12_1⟩ := bc2_ BK465))
            repeat (go_quiet (first | (go_at_call 93; (with_reducible refine (withyref01_Of2.calls kj2 x0_2 x1_2 t466 _ A6.out).mono ?_); rintro e w' ⟨rfl, ⟨nd, rfl⟩⟩; (try first | exact ⟨rfl, _, World.drewN_drewN _ _ _⟩ | exact ⟨rfl, _, Eq.trans (World.drewN_drewN _ _ _) (congrArg (World.drewN _) (Nat.add_assoc _ _ _))⟩)) | (go_at_call 42; (with_reducible refine (withyref01_In.calls (wrap64 (Int.tdiv x0_2 t466)) (-1000000000) 1000000000 true _ A10.out).mono ?_); rintro e w' ⟨rfl, ⟨nd, rfl⟩⟩; (try first | exact ⟨rfl, _, World.drewN_drewN _ _ _⟩ | exact ⟨rfl, _, Eq.trans (World.drewN_drewN _ _ _) (congrArg (World.drewN _) (Nat.add_assoc _ _ _))⟩); obtain ⟨hcz12_0, hcz12_1, hfz12_0, hfz12_1⟩ := bc2_ BK465)); try go_wp2_with (first | (go_at_call 93; (with_reducible refine (withyref01_Of2.calls kj2 x0_2 x1_2 t466 _ A6.out).mono ?_); rintro e w' ⟨rfl, ⟨nd, rfl⟩⟩; (try first | exact ⟨rfl, _, World.drewN_drewN _ _ _⟩ | exact ⟨rfl, _, Eq.trans (World.drewN_drewN _ _ _) (congrArg (World.drewN _) (Nat.add_assoc _ _ _))⟩)) | (go_at_call 42; (with_reducible refine (withyref01_In.calls (wrap64 (Int.tdiv x0_2 t466)) (-1000000000) 1000000000 true _ A10.out).mono ?_); rintro e w' ⟨rfl, ⟨nd, rfl⟩⟩; (try first | exact ⟨rfl, _, World.drewN_drewN _ _ _⟩ | exact ⟨rfl, _, Eq.trans (World.drewN_drewN _ _ _) (congrArg (World.drewN _) (Nat.add_assoc _ _ _))⟩); obtain ⟨hcz12_0, hcz12_1, hfz12_0, hfz12_1⟩ := bc2_ BK465)))
            refine bodyPost_ret (results_ct rfl _ _ gb465 23 #[.int .i64 (wrap64 (Int.tdiv x0_2 t466)), .int .i64 (wrap64 (Int.tdiv x1_2 t466))] (0, 0) _ rfl (by refine bp_ (cs := #[.int .i64 (wrap64 (Int.tdiv x0_2 t466)), .int .i64 0]) ?_ 1; refine bp_ (cs := #[.int .i64 0, .int .i64 0]) ?_ 0; exact bk_ BK465) Try.underlying23 rfl (by kernel_rfl)) rfl ?_
            exact ⟨by first | rfl | (simp [*] <;> rfl), bw_ HB⟩
          · replace c11 := Bool.eq_false_iff.mpr c11
            subst c11
            have H1 : (some (0, 0, 8)) = some (r1, r2, r3) := by rw [if_neg (show ¬ (false = true) by decide)] at H; exact H
            clear H
            have H := H1
            clear H1
            simp only [Option.some.injEq, Prod.mk.injEq] at H
            obtain ⟨rfl, rfl, rfl⟩ := H
            go_wp2_with (first | (go_at_call 93; (with_reducible refine (withyref01_Of2.calls kj2 x0_2 x1_2 t466 _ A6.out).mono ?_); rintro e w' ⟨rfl, ⟨nd, rfl⟩⟩; (try first | exact ⟨rfl, _, World.drewN_drewN _ _ _⟩ | exact ⟨rfl, _, Eq.trans (World.drewN_drewN _ _ _) (congrArg (World.drewN _) (Nat.add_assoc _ _ _))⟩)) | (go_at_call 42; (with_reducible refine (withyref01_In.calls (wrap64 (Int.tdiv x0_2 t466)) (-1000000000) 1000000000 false _ A10.out).mono ?_); rintro e w' ⟨rfl, ⟨nd, rfl⟩⟩; (try first | exact ⟨rfl, _, World.drewN_drewN _ _ _⟩ | exact ⟨rfl, _, Eq.trans (World.drewN_drewN _ _ _) (congrArg (World.drewN _) (Nat.add_assoc _ _ _))⟩); obtain ⟨hcz13_0, hcz13_1, hfz13_0, hfz13_1⟩ := bc2_ BK465))
            repeat (go_quiet (first | (go_at_call 93; (with_reducible refine (withyref01_Of2.calls kj2 x0_2 x1_2 t466 _ A6.out).mono ?_); rintro e w' ⟨rfl, ⟨nd, rfl⟩⟩; (try first | exact ⟨rfl, _, World.drewN_drewN _ _ _⟩ | exact ⟨rfl, _, Eq.trans (World.drewN_drewN _ _ _) (congrArg (World.drewN _) (Nat.add_assoc _ _ _))⟩)) | (go_at_call 42; (with_reducible refine (withyref01_In.calls (wrap64 (Int.tdiv x0_2 t466)) (-1000000000) 1000000000 false _ A10.out).mono ?_); rintro e w' ⟨rfl, ⟨nd, rfl⟩⟩; (try first | exact ⟨rfl, _, World.drewN_drewN _ _ _⟩ | exact ⟨rfl, _, Eq.trans (World.drewN_drewN _ _ _) (congrArg (World.drewN _) (Nat.add_assoc _ _ _))⟩); obtain ⟨hcz13_0, hcz13_1, hfz13_0, hfz13_1⟩ := bc2_ BK465)); try go_wp2_with (first | (go_at_call 93; (with_reducible refine (withyref01_Of2.calls kj2 x0_2 x1_2 t466 _ A6.out).mono ?_); rintro e w' ⟨rfl, ⟨nd, rfl⟩⟩; (try first | exact ⟨rfl, _, World.drewN_drewN _ _ _⟩ | exact ⟨rfl, _, Eq.trans (World.drewN_drewN _ _ _) (congrArg (World.drewN _) (Nat.add_assoc _ _ _))⟩)) | (go_at_call 42; (with_reducible refine (withyref01_In.calls (wrap64 (Int.tdiv x0_2 t466)) (-1000000000) 1000000000 false _ A10.out).mono ?_); rintro e w' ⟨rfl, ⟨nd, rfl⟩⟩; (try first | exact ⟨rfl, _, World.drewN_drewN _ _ _⟩ | exact ⟨rfl, _, Eq.trans (World.drewN_drewN _ _ _) (congrArg (World.drewN _) (Nat.add_assoc _ _ _))⟩); obtain ⟨hcz13_0, hcz13_1, hfz13_0, hfz13_1⟩ := bc2_ BK465)))
            refine bodyPost_ret (results_ct rfl _ _ gb465 23 #[.int .i64 0, .int .i64 0] (0, 0) _ rfl (by refine bp_ (cs := #[.int .i64 0, .int .i64 0]) ?_ 1; refine bp_ (cs := #[.int .i64 0, .int .i64 0]) ?_ 0; exact bk_ BK465) Try.underlying23 rfl (by kernel_rfl)) rfl ?_
            exact ⟨by first | rfl | (simp [*] <;> rfl), bw_ HB⟩
/-! ### withyref01_Int: function 100 -/
def withyref01_Int.f (a0 : Int) : Option (Int × Int) := some (a0, 1)
set_option maxHeartbeats 8000000 in
set_option maxRecDepth 100000 in
theorem withyref01_Int.calls (a0 : Int) (r1 : Int) (r2 : Int) (w : World) (h : withyref01_Int.f a0 = some (r1, r2)) :
    Calls Try.prog 100 #[.int .i64 a0] w fun e w' => e = .returned (.agg #[.int .i64 r1, .int .i64 r2]) ∧ Below w.heap.size w w' := by
  have hu23 := Try.underlying23
  have HB := Aside0.mk (Below.refl w.heap.size w)
  have H : (some (a0, 1)) = some (r1, r2) := h
  clear h
  simp only [Option.some.injEq, Prod.mk.injEq] at H
  obtain ⟨rfl, rfl⟩ := H
  go_enter Try.func100, Try.ntmps100
  go_wp2_with (first | ((with_reducible refine gate_dst (N := 2) rfl ?_); refine box_event ?hg (N := 2) ?hd (cs := #[.int .i64 0, .int .i64 0]) (t := 23) ?hr ?_; (case hd => rfl); (case hg => rfl); (case hr => first | (go_simp; done) | (go_simp; rfl)); intro gb783 hg w2 hbox hb; have BK783 := Aside0.mk hbox; have GW783 := bwg_ HB hg; have GE783 := bwg_ HB hg; replace HB := bws_ HB hb; clear hb hbox hg; obtain ⟨hcz3_0, hcz3_1, hfz3_0, hfz3_1⟩ := bc2_ BK783))
  refine bodyPost_ret (results_cell_row rfl _ _ gb783 23 #[.int .i64 a0, .int .i64 1] (0, 0) _ rfl (by refine bp_ (cs := #[.int .i64 a0, .int .i64 0]) ?_ 1; refine bp_ (cs := #[.int .i64 0, .int .i64 0]) ?_ 0; exact bk_ BK783) Try.underlying23 rfl (by kernel_rfl)) rfl ?_
  exact ⟨by first | rfl | (simp [*] <;> rfl), bw_ HB⟩
/-! ### slices_AppendSeq_int_int: function 120, by hand -/
/-! #### a range over a function whose body may panic -/
/-- the walk of code in a frame whose function there is (a panic leaves it only so) -/
def wpE (P : Program) (c : Code) (Q : Exit → Act → World → Prop) (a : Act) (w : World) : Prop :=
  ∀ (b : Frame) (k : List Item) (cs : List Frame), b.roundOf = none → (∃ fn, P.funcs[b.fn]? = some fn) →
    ∃ e a' w', Q e a' w' ∧ ArrivesIn (Machine.fenced P Fence.wide) P (lone (b.atR a (.code c :: k)) cs w) b k cs e a' w'
section
variable {P : Program} {Q : Exit → Act → World → Prop} {a : Act} {w : World}
theorem calm_ {fr : Frame} {cs : List Frame} {w : World} (h : fr.about P w = none) : (lone fr cs w).fenced P Fence.wide := fenced_calm (n := 0) (F := Fence.wide) trivial (room_wide _) h
theorem wpE_of {c : Code} (h : c.wp P Q a w) : wpE P c Q a w := fun b k cs hro _ => (wpIn_wide (n := 0)).2 h b k cs hro trivial (room_wide _)
theorem wpE_mono {c : Code} {Q' : Exit → Act → World → Prop} (h : wpE P c Q a w) (hq : ∀ e a w, Q e a w → Q' e a w) : wpE P c Q' a w :=
  fun b k cs hro hb => let ⟨e, a', w', q, r⟩ := h b k cs hro hb; ⟨e, a', w', hq _ _ _ q, r⟩
theorem wpE_seq {x y : Code} (h : wpE P x (Exit.then (wpE P y Q) Q) a w) : wpE P (Code.seq x y) Q a w := by
  intro b k cs hro hb
  have h0 : (lone (b.atR a (.code (.seq x y) :: k)) cs w).fenced P Fence.wide := calm_ rfl
  obtain ⟨e, a₁, w₁, hq, harr⟩ := h b (.code y :: k) cs hro hb
  have on : ∀ e', e = e' → e' ≠ .normal → Exit.then (wpE P y Q) Q e' a₁ w₁ → Q e' a₁ w₁ := fun e' _ hn hq => by
    cases e' <;> first | exact hq | exact absurd rfl hn
  by_cases hn : e = .normal
  · subst hn
    obtain ⟨e₂, a₂, w₂, hq₂, harr₂⟩ := hq b k cs hro hb
    exact ⟨e₂, a₂, w₂, hq₂, .of_steps (.head h0 stepR_seq harr) harr₂⟩
  · exact ⟨e, a₁, w₁, on e rfl hn hq, .of_steps (.one h0 stepR_seq) (.pass (x := .code y) rfl (fun _ _ => .inl hn) harr)⟩
theorem wpE_seq_k {x y : Code} (h : ∀ K : Act → World → Prop, (∀ a w, wpE P y Q a w → K a w) → x.wp P (Exit.then K Q) a w) : wpE P (Code.seq x y) Q a w := wpE_seq (wpE_of (h _ fun _ _ h => h))
def onlyNP (Q : Exit → Act → World → Prop) : Exit → Act → World → Prop
  | .normal, a, w => Q .normal a w
  | .panic ch, a, w => Q (.panic ch) a w
  | _, _, _ => False
theorem wpE_block {id : Nat} {c : Code} (h : wpE P c (onlyNP Q) a w) : wpE P (Code.block id c) Q a w := by
  intro b k cs hro hb
  have h0 : (lone (b.atR a (.code (.block id c) :: k)) cs w).fenced P Fence.wide := calm_ rfl
  obtain ⟨e, a₁, w₁, hq, harr⟩ := h b (.inBlock id :: k) cs hro hb
  cases e with
  | normal => exact ⟨.normal, a₁, w₁, hq, .head h0 stepR_block (StepsIn.trans harr (.one (calm_ rfl) stepR_inBlock))⟩
  | panic ch =>
    obtain ⟨todo, hs⟩ := harr
    exact ⟨.panic ch, a₁, w₁, hq, todo, .head h0 stepR_block hs⟩
  | exit id => exact hq.elim
  | goto l => exact hq.elim
  | ret => exact hq.elim
  | outgrown => exact hq.elim
/-- how a frame leaves that may have a mark on top of its deferred calls -/
def LeavesE (P : Program) (fn : Func) (tmps : Array Value) (R : Ending → World → Prop) (ds : List Deferred) (u : FrameMode) (w : World) : Prop :=
  (∃ (r : Nat) (ds' : List Deferred) (w' : World), ds = { target := .collected r, args := #[] } :: ds' ∧ (Instr.takeDeferred r).run P w = .ok [] w' ∧ Leaves P fn tmps R ds' u w') ∨ Leaves P fn tmps R ds u w
def bodyPostE (P : Program) (fn : Func) (R : Ending → World → Prop) : Exit → Act → World → Prop
  | .normal, a, w | .ret, a, w => LeavesE P fn a.tmps R a.defers .returning w
  | .panic chain, a, w => LeavesE P fn a.tmps R a.defers (.panicking chain) w
  | _, _, _ => False
/-- a function's contract out of its body's walk, marks and all -/
theorem calls_of_wpE {f : FuncId} {fn : Func} {c : Code} {args : Array Value} {R : Ending → World → Prop} (hf : P.funcs[f]? = some fn) (hb : fn.body = some c)
    (h : wpE P c (bodyPostE P fn R) { tmps := args ++ Array.replicate (fn.ntmps - args.size) undef, defers := [] } w) : Calls P f args w R := by
  intro cs
  let b : Frame := { (default : Frame) with fn := f, kind := .normal, roundOf := none }
  have henter : Frame.enter P f args .normal = b.atR { tmps := args ++ Array.replicate (fn.ntmps - args.size) undef, defers := [] } [.code c] := by
    simp [Frame.enter, Frame.atR, hf, hb, b]
  obtain ⟨e, a', w', hq, harr⟩ := h b [] cs rfl ⟨fn, hf⟩
  rw [← henter] at harr
  have go : ∀ (todo : List Item) (u : FrameMode), u ≠ .run → StepsIn (Machine.fenced P Fence.wide) P (lone (Frame.enter P f args .normal) cs w) (lone { b.atR a' todo with mode := u } cs w') → LeavesE P fn a'.tmps R a'.defers u w' →
      ∃ e w' fr, R e w' ∧ Comes P (lone (Frame.enter P f args .normal) cs w) (lone fr cs w') e ∧ fr.fn = f ∧ fr.leaving P w' e := fun todo u hu hs hq => by
    rcases hq with ⟨r, ds', w2, hd, ht, hq⟩ | hq
    · have h1 : step P (lone { b.atR a' todo with mode := u } cs w') = .next (lone { { b.atR a' todo with mode := u } with defers := [] ++ ds' } cs w2) := step_collected hu hd rfl ht
      obtain ⟨e', w'', fr', hR, hs', hfn, hl⟩ := leaves_steps (P := P) (fn := fn) ds' u w2 { { b.atR a' todo with mode := u } with defers := [] ++ ds' } cs rfl rfl rfl hf rfl hq
      exact ⟨e', w'', fr', hR, Comes.of_steps (hs.steps.trans (Steps.one h1)) hs', hfn, hl⟩
    · obtain ⟨e', w'', fr', hR, hs', hfn, hl⟩ := leaves_steps (P := P) (fn := fn) a'.defers u w' { b.atR a' todo with mode := u } cs rfl rfl rfl hf rfl hq
      exact ⟨e', w'', fr', hR, Comes.of_steps hs.steps hs', hfn, hl⟩
  cases e with
  | normal => exact go [] .returning (by simp) (StepsIn.trans harr (.one (calm_ rfl) (stepR_end rfl))) hq
  | ret =>
    obtain ⟨todo, hs₀⟩ := harr.1 rfl
    exact go todo .returning (by simp) hs₀ hq
  | panic chain =>
    obtain ⟨todo, hs₀⟩ := harr
    exact go todo (.panicking chain) (by simp) hs₀ hq
  | exit id => exact hq.elim
  | goto l => exact hq.elim
  | outgrown => exact hq.elim
def roundC (P : Program) (l : Nat) (R : Ending → World → Prop) : Exit → Act → World → Prop
  | .normal, _, w => ∃ v w', (Instr.endRound l none).run P w = .ok v w' ∧ R (.returned v) w'
  | .panic ch, a, w => a.defers = [] ∧ R (.panicked ch) w
  | _, _, _ => False
/-- one round: its body's walk goes on, or it panics -/
theorem roundIn_c {l : Nat} {f : FuncId} {fn : Func} {tmps : Array Value} {assign body : Code} {R : Ending → World → Prop} (hf : P.funcs[f]? = some fn)
    (h : assign.wpIn (Fence.wide.inRound l) 0 P (Exit.then (fun a₁ w₁ => ∃ w₂, (Instr.beginRound l).run P w₁ = .ok () w₂ ∧ body.wpIn (Fence.wide.inRound l) 0 P (roundC P l R) a₁ w₂) (fun _ _ _ => False)) { tmps := tmps, defers := [] } w) :
    RoundIn Fence.wide 0 P l f tmps assign body w R := by
  refine ⟨trivial, fun c cs hr => ?_⟩
  let b : Frame := { (default : Frame) with fn := f, kind := .normal, roundOf := some l }
  have hb0 : Frame.round l f tmps assign body .normal = b.atR { tmps := tmps, defers := [] } [.code assign, .beginRound, .code body] := by
    simp [Frame.round, Frame.atR, b]
  obtain ⟨e, a₁, w₁, hq, harr⟩ := h b [.beginRound, .code body] (c :: cs) rfl trivial (room_wide _)
  rw [← hb0] at harr
  cases e with
  | normal =>
    obtain ⟨w₂, hbr, hbody⟩ := hq
    have s1 : StepsIn (Machine.fenced P Fence.wide) P (lone (b.atR a₁ [.beginRound, .code body]) (c :: cs) w₁) (lone (b.atR a₁ [.code body]) (c :: cs) w₂) :=
      .one (calm_ rfl) (stepR_beginRound rfl hbr)
    obtain ⟨e₂, a₂, w₃, hq₂, harr₂⟩ := hbody b [] (c :: cs) rfl trivial (room_wide _)
    cases e₂ with
    | normal =>
      obtain ⟨v, w₄, hend, hR⟩ := hq₂
      exact ⟨.returned v, w₄, hR, (StepsIn.trans harr s1).trans (StepsIn.trans harr₂ (.one (calm_ rfl) (stepR_round_end rfl rfl hend)))⟩
    | panic chain =>
      obtain ⟨hd, hR⟩ := hq₂
      obtain ⟨todo, hs⟩ := harr₂
      have hl : ({ b.atR a₂ todo with mode := .panicking chain } : Frame).leaving P w₃ (.panicked chain) := ⟨rfl, hd, fn, hf⟩
      exact ⟨.panicked chain, w₃, hR, (StepsIn.trans harr s1).trans (StepsIn.trans hs (.one (fenced_leaving (F := Fence.wide) (n := 0) trivial (room_wide _) hl) (step_leave_panicked hl)))⟩
    | ret => exact hq₂.elim
    | exit id => exact hq₂.elim
    | goto t => exact hq₂.elim
    | outgrown => exact hq₂.elim
  | exit id => exact hq.elim
  | goto t => exact hq.elim
  | ret => exact hq.elim
  | panic chain => exact hq.elim
  | outgrown => exact hq.elim
/-- an iterator that hands over xs, whatever the rounds do to blocks of their own; a round that goes on keeps Kp; the iterator writes blocks of M itself -/
def SeqC {α : Type} (P : Program) (g : Nat) (lb : Array Value) (encs : α → Array Value) (M : Nat → Prop) (Kp : World → World → Prop) (xs : List α) (w : World) : Prop :=
  ∀ (l : Nat) (J : List α → World → Prop) (Jp : List PanicEntry → World → Prop) (W : World), Below w.heap.size w W →
    (∀ s W1 W2 row, J s W1 → W1.grownBy W2 row → (∀ r, row = some r → M r) → J s W2) →
    (∀ pre x W1, pre ++ [x] <+: xs → J pre W1 → YieldAt Fence.wide 0 P l (encs x) W1 fun e W' => (e = .returned (.bool true) ∧ J (pre ++ [x]) W' ∧ Kp W1 W') ∨ ∃ ch, e = .panicked ch ∧ Jp ch W') →
    J [] W →
    CallsIn Fence.wide 0 P g (#[.func (.yield l) #[] #[]] ++ lb) W fun e W' => (∃ v, e = .returned v ∧ J xs W') ∨ ∃ ch, e = .panicked ch ∧ Jp ch W'
def postC {α : Type} (B : Nat) (Kp : World → World → Prop) (I : List α → World → Prop) (Ip : List PanicEntry → World → Prop) (s : List α) (W : World) : Exit → Act → World → Prop
  | .normal, _, W' => (∀ k, B ≤ k → k < B + 2 → W'.heap[k]? = W.heap[k]?) ∧ Kp W W' ∧ I s W'
  | .panic ch, a', W' => a'.defers = [] ∧ (∀ k, B ≤ k → k < B + 2 → W'.heap[k]? = W.heap[k]?) ∧ Ip ch W'
  | _, _, _ => False
/-- 'for .. := range seq { .. }' -/
theorem wpE_range {α : Type} {g : Operand} {ps : Array Tmp} {assign body : Code} {gf : Nat} {lb : Array Value} (hg : a.eval g = .func (.func gf) #[] lb) (eg : ∀ args w, (callFunc gf args).run P w = .ok (.enter gf args) w)
    {encs : α → Array Value} {M : Nat → Prop} {Kp : World → World → Prop} {xs : List α} {w0 : World} (hseq : SeqC P gf lb encs M Kp xs w0) (hb0 : Below w0.heap.size w0 w) (hM : ∀ r, M r → r < w.heap.size) (hKt : ∀ A B C, Kp A B → Kp B C → Kp A C) (hKb : ∀ (W : World) (o : Obj), w.heap.size + 1 < W.heap.size → Kp W (W.putObj (w.heap.size + 1) o)) (hps : ∀ x, (encs x).size = ps.size)
    (I : List α → World → Prop) (Ip : List PanicEntry → World → Prop)
    (hI : ∀ s W1 W2 row, I s W1 → W1.grownBy W2 row → (∀ r, row = some r → M r ∨ (w.heap.size ≤ r ∧ r < w.heap.size + 2)) → I s W2) (h0 : I [] w) (a₁ : α → Act)
    (hassign : ∀ (l : Nat) (x : α) (W : World) (K : Act → World → Prop), K (a₁ x) W → assign.wpIn (Fence.wide.inRound l) 0 P (Exit.then K (fun _ _ _ => False)) { tmps := (ps.zip (encs x)).foldl (fun t (p, v) => t.setIfInBounds p v) a.tmps, defers := [] } W)
    (hbody : ∀ (l : Nat) (pre : List α) (x : α) (W : World), w.heap.size + 2 ≤ W.heap.size → pre ++ [x] <+: xs → I pre W → body.wpIn (Fence.wide.inRound l) 0 P (postC w.heap.size Kp I Ip (pre ++ [x]) W) (a₁ x) W)
    (hdone : ∀ W, I xs W → W.heap[w.heap.size]? = some (.deferred (some [])) → Q .normal { a with defers := { target := .collected w.heap.size, args := #[] } :: a.defers } W)
    (hpanic : ∀ ch W, Ip ch W → W.heap[w.heap.size]? = some (.deferred (some [])) → Q (.panic ch) { a with defers := { target := .collected w.heap.size, args := #[] } :: a.defers } W) :
    wpE P (Code.rangeFunc g ps assign body) Q a w := by
  intro b k cs hro hbf
  obtain ⟨bfn, hbfn⟩ := hbf
  obtain ⟨rec, hrec⟩ : ∃ rec : LoopState → Loop, rec = fun st => { state := st, pending := none, fn := b.fn, tmps := a.tmps, params := ps, assign, body, defers := w.heap.size } := ⟨_, rfl⟩
  obtain ⟨W1, hW1⟩ : ∃ W1, (w.alloc (.deferred (some []))).alloc (.loop (rec .ready)) = W1 := ⟨_, rfl⟩
  have hL1 : W1.heap[w.heap.size + 1]? = some (.loop (rec .ready)) := by
    rw [← hW1]; have := World.alloc_heap_new (w.alloc (.deferred (some []))) (.loop (rec .ready)); rwa [World.size_alloc] at this
  have hK1 : W1.heap[w.heap.size]? = some (.deferred (some [])) := by
    rw [← hW1]; exact (Below.heap_alloc _ _ _ (by simp)).trans (World.alloc_heap_new w _)
  have hI1 : I [] W1 := by
    rw [← hW1]; exact hI _ _ _ _ (hI _ _ _ _ h0 (World.grownBy_alloc w _ none) (fun r e => by cases e)) (World.grownBy_alloc _ _ none) (fun r e => by cases e)
  have hb1 : Below w0.heap.size w0 W1 := by
    rw [← hW1]; exact hb0.trans ((((Below.refl _ w).alloc (Nat.le_refl _) _).alloc (by simp) _).mono hb0.size)
  have hIl : ∀ (s : List α) (W : World) (o : Obj), I s W → I s (W.putObj (w.heap.size + 1) o) := fun s W o h =>
    hI s _ _ _ h (grownBy_putObj' W (w.heap.size + 1) o) (fun r e => by cases e; exact Or.inr ⟨by omega, by omega⟩)
  have hen : (Instr.enterLoop b.fn a.tmps ps assign body b.roundOf).run P w = .ok (w.heap.size + 1, [{ target := .collected w.heap.size, args := #[] }]) W1 := by
    rw [hro, ← hW1, hrec]; exact run_enterLoop_outer _ _ _ _ _
  have hres : (resolve a.eval (rangeCall g (w.heap.size + 1)) 0).run P W1 = .ok { target := .fn (.func gf) lb, args := #[.func (.yield (w.heap.size + 1)) #[] #[]] } W1 := by
    simp only [resolve, hg]
    simp [go_sem]
  have hinv : (invoke (.fn (.func gf) lb) #[.func (.yield (w.heap.size + 1)) #[] #[]]).run P W1 = .ok (.enter gf (#[.func (.yield (w.heap.size + 1)) #[] #[]] ++ lb)) W1 := by
    simp [invoke, go_sem, eg]
  have henter := stepR_rangeFunc (P := P) (b := b) (a := a) (k := k) (cs := cs) (w := w) (g := g) (ps := ps) (assign := assign) (body := body) hen hres hinv
  have h00 : (lone (b.atR a (.code (.rangeFunc g ps assign body) :: k)) cs w).fenced P Fence.wide := fenced_lone (.inl trivial) (fun _ _ => trivial) (room_wide _)
  obtain ⟨_, hcall⟩ := hseq (w.heap.size + 1)
    (fun pre W => I pre W ∧ W.heap[w.heap.size + 1]? = some (.loop (rec .ready)) ∧ W.heap[w.heap.size]? = some (.deferred (some [])))
    (fun ch W => Ip ch W ∧ W.heap[w.heap.size]? = some (.deferred (some []))) W1 hb1
    (fun s A B row hs hg' hr => by
      refine ⟨hI s A B row hs.1 hg' (fun r e => Or.inl (hr r e)), ?_, ?_⟩
      · exact (hg'.block _ (Array.getElem?_eq_some_iff.1 hs.2.1).1 (fun e => by have := hM _ (hr _ e.symm); omega)).trans hs.2.1
      · exact (hg'.block _ (Array.getElem?_eq_some_iff.1 hs.2.2).1 (fun e => by have := hM _ (hr _ e.symm); omega)).trans hs.2.2)
    (fun pre x W hpx hJ => by
      obtain ⟨hi, hl, hk⟩ := hJ
      have hlt : w.heap.size + 1 < W.heap.size := (Array.getElem?_eq_some_iff.1 hl).1
      have hy := run_yield (P := P) (args := encs x) hl (by rw [hrec]; exact hps x)
      rw [hrec] at hy
      refine ⟨b.fn, _, assign, body, hy, roundIn_c hbfn (hassign _ x W _ ⟨_, run_beginRound hl (by rw [hrec]), ?_⟩)⟩
      have hl2 : (W.putObj (w.heap.size + 1) (.loop { rec .ready with state := .busy })).heap[w.heap.size + 1]? = some (.loop { rec .ready with state := .busy }) := World.putObj_heap_same hlt
      have hk2 : (W.putObj (w.heap.size + 1) (.loop { rec .ready with state := .busy })).heap[w.heap.size]? = some (.deferred (some [])) := (World.putObj_heap_other (by omega)).trans hk
      have hw2 := hKb W (.loop { rec .ready with state := .busy }) hlt
      refine wpIn_mono (hbody _ pre x _ (by rw [World.putObj_size]; omega) hpx (hIl _ _ _ hi)) ?_
      rintro e a3 W3 hp
      cases e with
      | normal =>
        obtain ⟨hk3, hb3, hi3⟩ := hp
        have hl3 := (hk3 (w.heap.size + 1) (by omega) (by omega)).trans hl2
        have hd3 := (hk3 w.heap.size (by omega) (by omega)).trans hk2
        have hlt3 : w.heap.size + 1 < W3.heap.size := (Array.getElem?_eq_some_iff.1 hl3).1
        refine ⟨_, _, run_endRound none hl3, .inl ⟨rfl, ⟨hIl _ _ _ hi3, ?_, (World.putObj_heap_other (by omega)).trans hd3⟩, hKt _ _ _ (hKt _ _ _ hw2 hb3) (hKb _ _ hlt3)⟩⟩
        rw [World.putObj_heap_same hlt3, hrec]
        rfl
      | panic ch =>
        obtain ⟨hd, hk3, hi3⟩ := hp
        exact ⟨hd, .inr ⟨ch, rfl, hi3, (hk3 w.heap.size (by omega) (by omega)).trans hk2⟩⟩
      | ret => exact hp.elim
      | exit id => exact hp.elim
      | goto t => exact hp.elim
      | outgrown => exact hp.elim) ⟨hI1, hL1, hK1⟩
  obtain ⟨e, w₃, fr, hR, hsteps, hfn, hleave⟩ := hcall (b.atR { a with defers := [{ target := .collected w.heap.size, args := #[] }] ++ a.defers } (.inRangeFunc (w.heap.size + 1) :: k) :: cs) (room_wide _)
  rcases hR with ⟨v, rfl, hi, hl, hk⟩ | ⟨ch, rfl, hi, hk⟩
  · have hf3 : (lone fr (b.atR { a with defers := [{ target := .collected w.heap.size, args := #[] }] ++ a.defers } (.inRangeFunc (w.heap.size + 1) :: k) :: cs) w₃).fenced P Fence.wide := fenced_leaving (F := Fence.wide) (n := 0) trivial (room_wide _) hleave
    have hend : (Instr.endLoop (w.heap.size + 1)).run P w₃ = .ok none (w₃.putObj (w.heap.size + 1) (.loop { rec .ready with state := .exhausted })) := (run_endLoop (P := P) hl (by rw [hrec]; simp)).trans (by rw [hrec])
    refine ⟨.normal, _, w₃.putObj (w.heap.size + 1) (.loop { rec .ready with state := .exhausted }), hdone _ (hIl _ _ _ hi) ((World.putObj_heap_other (by omega)).trans hk), ?_⟩
    refine .head h00 henter (StepsIn.trans hsteps (.head hf3 ?_ (.one (calm_ (fr := b.atR { a with defers := [{ target := .collected w.heap.size, args := #[] }] ++ a.defers } (.endRangeFunc (w.heap.size + 1) :: k)) rfl) (stepR_endRangeFunc hend))))
    rw [← finish_atR_inRangeFunc (w.heap.size + 1) v]; exact step_leave_returned hleave
  · have hf3 : (lone fr (b.atR { a with defers := [{ target := .collected w.heap.size, args := #[] }] ++ a.defers } (.inRangeFunc (w.heap.size + 1) :: k) :: cs) w₃).fenced P Fence.wide := fenced_leaving (F := Fence.wide) (n := 0) trivial (room_wide _) hleave
    refine ⟨.panic ch, _, w₃, hpanic ch _ hi hk, .inRangeFunc (w.heap.size + 1) :: k, .head h00 henter (StepsIn.trans hsteps (.one hf3 ?_))⟩
    rw [← Frame.raise_atR]; exact step_leave_panicked hleave
end

/-! #### the terms of a ratio -/
def num_terms.go : Nat → Int → Int → Option (List Int)
  | 0, _, _ => none
  | k + 1, n, d => if d > 0 then (num_ratio_floor.f n d).bind fun f => (num_terms.go k d (wrap64 (n - wrap64 (f * d)))).bind fun l => some (f :: l) else some []
theorem num_terms.mono : ∀ n d k, LeO (num_terms.go k n d) (num_terms.go (k + 1) n d) := by
  intro n d k
  induction k generalizing n d with
  | zero => exact LeO.none _
  | succ k ih =>
    unfold num_terms.go
    exact LeO.ite (LeO.bind (LeO.refl _) (fun f => LeO.bind (ih _ _) (fun _ => LeO.refl _))) (LeO.refl _)
/-- how many are still to come -/
def num_terms.left (k Bn : Nat) (W : World) : Nat := ((num_terms.go k (intOf ((W.cell? ⟨Bn, 0, none⟩).getD undef)) (intOf ((W.cell? ⟨Bn, 1, none⟩).getD undef))).getD []).length
theorem num_terms.left_is {k Bn : Nat} {W : World} {N D : Int} {rest : List Int} (hc : W.heap[Bn]? = some (.cells #[.int .i64 N, .int .i64 D] 65 (0, 0))) (h : num_terms.go k N D = some rest) : num_terms.left k Bn W = rest.length := by
  obtain ⟨c0, c1, _, _⟩ := bc2_ (Aside0.mk hc)
  unfold num_terms.left
  rw [c0, c1]
  show ((num_terms.go k N D).getD []).length = _
  rw [h]
  rfl
theorem own_base {W : World} {base base' : Nat} {e : TypeId} {size k : Nat} {v : Value} {xs : List Value} (h : W.ownsRow base e size v k xs) (hb : base' ≤ base) : W.ownsRow base' e size v k xs :=
  ⟨h.1, h.2.imp id fun ⟨g, cap, cur, hv, hg, r⟩ => ⟨g, cap, cur, hv, Nat.le_trans hb hg, r⟩⟩
theorem grown_set (W : World) (a : Addr) (v : Value) : W.grownBy (W.setCell a v) (some a.block) := ⟨rfl, rfl, rfl, by simp [World.setCell], fun k _ hk => Below.heap_setCell _ _ _ _ (fun e => hk (by rw [e]))⟩
theorem grown_below {W W' : World} (h : Below W.heap.size W W') : W.grownBy W' none := ⟨h.os, h.tape, h.output, h.size, fun k hk _ => h.block k hk⟩
 attribute [local go_sem] Oper.semAt_some in
set_option maxHeartbeats 4000000 in
set_option maxRecDepth 100000 in
theorem num_terms.all1 (l Bn n₀ k0 : Nat) (xs : List Int) (N D : Int) (J : List Int → World → Prop) (Jp : List PanicEntry → World → Prop) (hBn : Bn < n₀)
    (hJ : ∀ s W1 W2 row, J s W1 → W1.grownBy W2 row → (∀ r, row = some r → r = Bn) → J s W2)
    (hY : ∀ pre x W1, pre ++ [x] <+: xs → J pre W1 → YieldAt Fence.wide 0 Try.prog l #[.int .i64 x] W1 fun e W' => (e = .returned (.bool true) ∧ J (pre ++ [x]) W' ∧ Below n₀ W1 W') ∨ ∃ ch, e = .panicked ch ∧ Jp ch W')
    (W : World) (hgo : num_terms.go k0 N D = some xs) (hb : W.heap[Bn]? = some (.cells #[.int .i64 N, .int .i64 D] 65 (0, 0))) (h0 : J [] W) :
    CallsIn Fence.wide 0 Try.prog 121 #[.func (.yield l) #[] #[], .pointer (some ⟨Bn, 0, none⟩)] W fun e W' => (∃ v, e = .returned v ∧ J xs W') ∨ ∃ ch, e = .panicked ch ∧ Jp ch W' := by
  have hu := Try.underlying65
  refine callsIn_of_wp Try.func121 rfl trivial ?_
  simp only [Try.ntmps121, List.size_toArray, List.length_cons, List.length_nil, Nat.reduceAdd, Nat.reduceSub, Array.replicate_succ, Array.replicate_zero, List.push_toArray, List.append_toArray, List.nil_append, List.cons_append]
  have HJ := Aside0.mk hJ
  have HY := Aside0.mk hY
  have HR : Aside0 (∃ (pre rest : List Int) (N D : Int), xs = pre ++ rest ∧ num_terms.go k0 N D = some rest ∧ W.heap[Bn]? = some (.cells #[.int .i64 N, .int .i64 D] 65 (0, 0)) ∧ J pre W) := ⟨[], xs, N, D, rfl, hgo, hb, h0⟩
  clear hJ hY hgo hb h0
  gi_wp2
  gi_loopw [] (fun wr => ∃ (pre rest : List Int) (N D : Int), xs = pre ++ rest ∧ num_terms.go k0 N D = some rest ∧ wr.heap[Bn]? = some (.cells #[.int .i64 N, .int .i64 D] 65 (0, 0)) ∧ J pre wr) (fun wr => num_terms.left k0 Bn wr)
  case atStart => exact HR.out
  case round =>
    clear HR
    obtain ⟨pre, rest, N, D, hx, hg, hc, hJs⟩ := hrel
    have HML := Aside0.mk (num_terms.left_is hc hg)
    obtain ⟨c0, c1, f0, f1⟩ := bc2_ (Aside0.mk hc)
    cases k0 with
    | zero => exact absurd hg (by simp [num_terms.go])
    | succ k =>
      have hg' := hg
      unfold num_terms.go at hg'
      by_cases hD : D > 0
      · rw [if_pos hD] at hg'
        obtain ⟨f, hf, hg'⟩ := Option.bind_eq_some_iff.mp hg'
        obtain ⟨rest', hr, hg'⟩ := Option.bind_eq_some_iff.mp hg'
        obtain rfl := Option.some.inj hg'
        have hr0 := num_terms.mono _ _ _ _ hr
        have hD0 : decide (0 < D) = true := decide_eq_true hD
        clear hg hD
        gi_wp2
        refine ⟨trivial, rfl, ?_⟩
        refine (callsIn_wide.2 (num_ratio_floor.calls N D f _ hf)).mono ?_
        rintro e w1 ⟨rfl, hb1⟩
        have hJ1 := HJ.out _ _ _ none hJs (grown_below hb1) (fun r e => by cases e)
        have hc1 := blk_below hc hb1
        obtain ⟨fn, tmps, assign, body, hy, hR⟩ := HY.out pre f w1 ⟨rest', by rw [hx, List.append_assoc]; rfl⟩ hJ1
        clear c0 c1 f0 f1 hc hJs hb1
        gi_wp2
        refine ⟨rfl, ?_⟩
        refine hR.mono ?_
        clear hR hy hJ1
        rintro e W3 (⟨rfl, hJ3, hk3⟩ | ⟨ch, rfl, hp⟩)
        · have hc3 := (hk3.block Bn hBn).trans hc1
          obtain ⟨c0, c1, f0, f1⟩ := bc2_ (Aside0.mk hc3)
          gi_wp2
          have hc4 := blk_put (blk_put hc3 0 (.int .i64 D) rfl) 1 (.int .i64 (wrap64 (N - wrap64 (f * D)))) rfl
          refine ⟨⟨pre ++ [f], rest', D, _, by rw [hx, List.append_assoc]; rfl, hr0, hc4, ?_⟩, ?_⟩
          · exact HJ.out _ _ _ _ (HJ.out _ _ _ _ hJ3 (grown_set _ _ _) (fun r e => by cases e; rfl)) (grown_set _ _ _) (fun r e => by cases e; rfl)
          · rw [num_terms.left_is hc4 hr0, HML.out]
            exact Nat.lt_succ_self _
        · exact ⟨rfl, .inr ⟨ch, rfl, hp⟩⟩
      · rw [if_neg hD] at hg'
        obtain rfl := Option.some.inj hg'
        have hD0 : decide (0 < D) = false := decide_eq_false hD
        clear hg hD hc HML
        gi_wp2
        go_end0
        exact .inl ⟨⟨_, rfl⟩, hJs⟩
theorem num_terms.seq {Bn n₀ k0 : Nat} {xs : List Int} {N D : Int} {w : World} (hBn : Bn < n₀) (hgo : num_terms.go k0 N D = some xs) (hb : w.heap[Bn]? = some (.cells #[.int .i64 N, .int .i64 D] 65 (0, 0))) :
    SeqC Try.prog 121 #[.pointer (some ⟨Bn, 0, none⟩)] (fun x : Int => #[.int .i64 x]) (fun r => r = Bn) (Below n₀) xs w := fun l J Jp W hW hJ hY h0 =>
  num_terms.all1 l Bn n₀ k0 xs N D J Jp hBn hJ hY W hgo ((hW.block Bn (blk_lt hb)).trans hb) h0
 attribute [local go_sem] Oper.semAt_some in
set_option maxHeartbeats 4000000 in
set_option maxRecDepth 100000 in
theorem slices_AppendSeq.calls {gf : Nat} {lb : Array Value} (eg : ∀ args w, (callFunc gf args).run Try.prog w = .ok (.enter gf args) w) {M : Nat → Prop} {xs : List Int} (w00 w : World)
    (hseq : SeqC Try.prog gf lb (fun x : Int => #[.int .i64 x]) M (Below w.heap.size) xs w) (hM : ∀ r, M r → w00.heap.size ≤ r ∧ r < w.heap.size) (hb00 : Below w00.heap.size w00 w) (hN : xs.length < 17592186044416) :
    Calls Try.prog 120 #[.slice none 0 0, .func (.func gf) #[] lb] w fun e w' => ∃ v, e = .returned v ∧ w'.ownsRow w.heap.size 3 1 v xs.length (xs.map (Value.int .i64)) ∧ Below w00.heap.size w00 w' := by
  refine calls_of_wpE Try.func120 rfl ?_
  simp only [Try.ntmps120, List.size_toArray, List.length_cons, List.length_nil, Nat.reduceAdd, Nat.reduceSub, Array.replicate_succ, Array.replicate_zero, List.push_toArray, List.append_toArray, List.nil_append, List.cons_append]
  have HS := Aside0.mk hseq
  have HM := Aside0.mk hM
  have HB := Aside0.mk hb00
  clear hseq hM hb00
  refine wpE_seq_k fun K hK => ?_
  go_wp2
  refine wpE_seq (wpE_seq_k fun K hK => ?_)
  go_wp2
  refine wpE_block ?_
  have hb1 := (HB.out).alloc (HB.out).size (.cells #[.slice none 0 0] 55)
  have hbw : Below w.heap.size w (w.alloc (.cells #[.slice none 0 0] 55)) := (Below.refl _ w).alloc (Nat.le_refl _) _
  have hx0 : Boxed (w.alloc (.cells #[.slice none 0 0] 55)) w.heap.size 55 (.slice none 0 0) := Boxed.new w _ _
  have hs1 : (w.alloc (.cells #[.slice none 0 0] 55)).heap.size = w.heap.size + 1 := by simp
  have hs00 := (HB.out).size
  generalize w.alloc (.cells #[.slice none 0 0] 55) = w1 at hb1 hbw hx0 hs1 ⊢
  refine wpE_range (lb := lb) (gf := gf) rfl eg HS.out hbw (fun r hr => by have := HM.out r hr; omega) (fun _ _ _ h k => h.trans k) (fun W o h => (Below.refl _ W).grown (grownBy_putObj' W _ o) (by omega) (fun k e => by cases e; omega)) (fun _ => rfl)
    (fun pre W => ∃ v, Boxed W w.heap.size 55 v ∧ W.ownsRow (w.heap.size + 3) 3 1 v pre.length (pre.map (Value.int .i64)) ∧ Below w00.heap.size w00 W)
    (fun _ _ => False) ?hI ?h0 (fun x => { tmps := #[.slice none 0 0, .func (.func gf) #[] lb, .pointer (some ⟨w.heap.size, 0, none⟩), undef, .slice none 0 0, .int .i64 x, .func (.func gf) #[] lb, .int .i64 x, undef, undef, undef, undef, undef], defers := [] }) ?assign ?body ?done (fun _ _ h _ => h.elim)
  case hI =>
    rintro s W1 W2 row ⟨v, hv, hr, hB⟩ hg hrow
    have hne : v.ownBlock = none ∨ v.ownBlock ≠ row := by
      cases hvb : v.ownBlock with
      | none => exact Or.inl rfl
      | some b =>
        right
        intro e
        have h1 := (hr.lt b hvb).1
        rcases hrow b e.symm with h | h
        · have := HM.out _ h; omega
        · omega
    refine ⟨v, hv.kept hg (fun e => ?_), hr.kept hg hne, hB.grown hg hB.size (fun k e => ?_)⟩
    · rcases hrow _ e.symm with h | h
      · have := HM.out _ h; omega
      · omega
    · rcases hrow _ e with h | h
      · exact (HM.out _ h).1
      · omega
  case h0 => exact ⟨_, hx0, ⟨rfl, .inl ⟨rfl, rfl⟩⟩, hb1⟩
  case assign =>
    intro l x W K hK
    gi_wp2
    exact hK
  case body =>
    rintro l pre x W hsz hpx ⟨v, hv, hrow, hB⟩
    obtain ⟨i0, hi, hz0, hz1, hz2⟩ := info_parts info3
    have hlen : pre.length < xs.length := by
      obtain ⟨q, hq⟩ := hpx
      rw [← hq, List.length_append, List.length_append]
      simp only [List.length_cons, List.length_nil]
      omega
    have hvc := hv.cell
    gi_wp2_with (gi_at_builtin; refine wpListIn_append_own _ rfl _ _ 55 rfl (w.heap.size + 3) 3 i0 (.int .i64 0) 1 8 Try.underlying55 hi hz0 hz1 hz2 rfl (by decide) _ _ _ rfl (hrow.alloc _) ⟨W.heap.size, 0, none⟩ 1 1 [.int .i64 x] rfl rfl (cell_one_new _ _ _) (by simp [Value.oneCell']) (by simp [maxLen]; omega) (by omega) (by simp; omega) ?_; intro v' w2 hown' hgrow _; obtain ⟨g', cap', rfl⟩ := ownsRow_succ hown'; have hv1 := (hv.alloc _).kept hgrow (hv.not_row (by decide) hrow); have hc1 := hv1.cell; have hf1 := hv1.frozen)
    have hne : ∀ k, k < w.heap.size + 3 → some k ≠ v.ownBlock := fun k hk e => by have := (hrow.lt k e.symm).1; omega
    have hBW := (((Below.refl w.heap.size W).alloc (by omega) _).grown hgrow (by simp; omega) (fun j ej => by have := (hrow.lt j ej).1; omega)).setCell (p := ⟨w.heap.size, 0, none⟩) (Nat.le_refl _) (.slice (some ⟨g', 0, none⟩) (pre.length + 1) cap')
    refine ⟨fun k hk1 hk2 => ?_, hBW, ⟨_, hv1.set _, ?_, hB.trans (hBW.mono hs00)⟩⟩
    · exact (Below.heap_setCell _ _ _ k (by show k ≠ w.heap.size; omega)).trans ((hgrow.block k (by simp; omega) (hne k (by omega))).trans (Below.heap_alloc _ _ k (by omega)))
    · have := hown'.kept (grownBy_setCell' w2 w.heap.size (.slice (some ⟨g', 0, none⟩) (pre.length + 1) cap')) (Or.inr fun e => by have := (hown'.lt _ e).1; omega)
      simpa using this
  case done =>
    rintro W ⟨v, hv, hrow, hB⟩ hD
    have hvc := hv.cell
    have hvf := hv.frozen
    refine wpE_of ?_
    go_wp2
    rw [hs1] at hD
    refine .inl ⟨_, _, _, rfl, run_takeDeferred hD, ?_⟩
    exact ⟨_, results_tmp rfl _ _ _, v, rfl, own_base (ownsRow_putObj hrow _ hD rfl) (by omega), hB.grown (grownBy_putObj' _ _ _) hB.size (fun k e => by cases e; omega)⟩
set_option maxHeartbeats 4000000 in
set_option maxRecDepth 100000 in
theorem slices_Collect.calls {gf : Nat} {lb : Array Value} (eg : ∀ args w, (callFunc gf args).run Try.prog w = .ok (.enter gf args) w) {M : Nat → Prop} {xs : List Int} (w00 w : World)
    (hseq : SeqC Try.prog gf lb (fun x : Int => #[.int .i64 x]) M (Below w.heap.size) xs w) (hM : ∀ r, M r → w00.heap.size ≤ r ∧ r < w.heap.size) (hb00 : Below w00.heap.size w00 w) (hN : xs.length < 17592186044416) :
    Calls Try.prog 105 #[.func (.func gf) #[] lb] w fun e w' => ∃ v, e = .returned v ∧ w'.ownsRow w.heap.size 3 1 v xs.length (xs.map (Value.int .i64)) ∧ Below w00.heap.size w00 w' := by
  have HC := Aside0.mk (slices_AppendSeq.calls eg w00 w hseq hM hb00 hN)
  clear hseq hM hb00 eg
  go_enter Try.func105, Try.ntmps105
  go_wp2_with (fail)
  refine HC.out.mono ?_
  rintro e w' ⟨v, rfl, hrow, hB⟩
  go_wp2
  go_ret
  exact ⟨v, rfl, hrow, hB⟩
set_option maxHeartbeats 4000000 in
set_option maxRecDepth 100000 in
theorem num_terms.calls (N D : Int) (w : World) : Calls Try.prog 106 #[.agg #[.int .i64 N, .int .i64 D]] w fun e w' => e = .returned (.func (.func 121) #[] #[.pointer (some ⟨w.heap.size, 0, none⟩)]) ∧ w' = w.alloc (.cells #[.int .i64 N, .int .i64 D] 65) := by
  have hu := Try.underlying65
  go_enter Try.func106, Try.ntmps106
  go_wp2
  go_ret
  exact ⟨rfl, rfl⟩
def num_Terms.f (k : Nat) (a0_0 : Int) (a0_1 : Int) : Option (List Int × Int) := (num_Check.f k a0_0 a0_1).bind fun e => if e = 0 then ((num_terms.go k a0_0 a0_1).bind fun l => if l.length < 17592186044416 then some (l, 0) else none) else some ([], e)
theorem num_Terms.mono : ∀ a0 a1 k, LeO (num_Terms.f k a0 a1) (num_Terms.f (k + 1) a0 a1) := fun a0 a1 k =>
  LeO.bind (num_Check.mono a0 a1 k) (fun _ => LeO.ite (LeO.bind (num_terms.mono a0 a1 k) (fun _ => LeO.refl _)) (LeO.refl _))
set_option maxHeartbeats 8000000 in
set_option maxRecDepth 100000 in
theorem num_Terms.calls (k : Nat) (a0_0 : Int) (a0_1 : Int) (r1 : List Int) (r2 : Int) (w : World) (h : num_Terms.f k a0_0 a0_1 = some (r1, r2)) :
    Calls Try.prog 60 #[.agg #[.int .i64 a0_0, .int .i64 a0_1]] w fun e w' => ∃ v0_ : Value, e = .returned (.tuple #[v0_, .int .i64 r2]) ∧ Kd.R (Kd.int .i64) 3 w' w.heap.size (fun _ => True) v0_ r1 ∧ Below w.heap.size w w' := by
  have hu := Try.underlying23
  obtain ⟨ec, hc, H⟩ := Option.bind_eq_some_iff.mp h
  clear h
  obtain ⟨W1, hW1⟩ : ∃ W1, W1 = w.alloc (.cells #[.int .i64 a0_0, .int .i64 a0_1] 23) := ⟨_, rfl⟩
  have hA : W1.heap[w.heap.size]? = some (.cells #[.int .i64 a0_0, .int .i64 a0_1] 23 (0, 0)) := by rw [hW1]; exact blk_new w _
  have HB := Aside0.mk (below_alloc (Below.refl w.heap.size w) (.cells #[.int .i64 a0_0, .int .i64 a0_1] 23))
  rw [← hW1] at HB
  have HC := Aside0.mk (num_Check.calls k a0_0 a0_1 ec W1 hc)
  have HA := Aside0.mk hA
  clear hc hA
  by_cases c : ec = 0
  · rw [if_pos c] at H
    subst c
    obtain ⟨l, hl, H⟩ := Option.bind_eq_some_iff.mp H
    by_cases hN : l.length < 17592186044416
    · rw [if_pos hN] at H
      simp only [Option.some.injEq, Prod.mk.injEq] at H
      obtain ⟨rfl, rfl⟩ := H
      have HL := Aside0.mk hl
      have HN := Aside0.mk hN
      clear hl hN
      go_enter Try.func60, Try.ntmps60
      go_wp2_with (fail)
      rw [← hW1]
      refine HC.out.mono ?_
      rintro e w1 ⟨rfl, hb⟩
      have HA1 := blk_below HA.out hb
      have HB1 := Aside0.mk (below_step HB.out hb)
      obtain ⟨c0, c1, f0, f1⟩ := bc2_ (Aside0.mk HA1)
      clear hb HA HB HC hW1
      go_wp2_with (fail)
      refine (num_of.calls a0_0 a0_1 a0_0 a0_1 _ rfl).mono ?_
      rintro e w2 ⟨rfl, hb⟩
      have HB2 := Aside0.mk (below_step HB1.out hb)
      clear hb c0 c1 f0 f1 HA1 HB1
      go_wp2_with (fail)
      refine (num_terms.calls a0_0 a0_1 w2).mono ?_
      rintro e w3 ⟨rfl, rfl⟩
      have HQ := Aside0.mk (slices_Collect.calls (gf := 121) (lb := #[.pointer (some ⟨w2.heap.size, 0, none⟩)]) (enters_of Try.func121 (by kernel_rfl) rfl) w _ (num_terms.seq (n₀ := (w2.alloc (.cells #[.int .i64 a0_0, .int .i64 a0_1] 65)).heap.size) (by simp) HL.out (blk_new w2 _)) (fun r e => by have := HB2.out.size; subst e; simp; omega) (below_alloc HB2.out _) HN.out)
      go_wp2_with (fail)
      refine HQ.out.mono ?_
      rintro e w4 ⟨v, rfl, hrow, hB⟩
      have HR := Aside0.mk hrow
      have HB4 := Aside0.mk hB
      clear hrow hB HQ
      go_wp2
      go_ret2
      exact ⟨v, rfl, Kd.R_of_own (own_base HR.out (below_alloc HB2.out _).size) (fun _ _ => trivial), HB4.out⟩
    · rw [if_neg hN] at H
      exact absurd H (by simp)
  · rw [if_neg c] at H
    simp only [Option.some.injEq, Prod.mk.injEq] at H
    obtain ⟨rfl, rfl⟩ := H
    have cb0 : (ec == 0) = false := beq_eq_false_iff_ne.mpr c
    have cb1 : (ec != 0) = true := bne_iff_ne.mpr c
    go_enter Try.func60, Try.ntmps60
    go_wp2_with (fail)
    rw [← hW1]
    refine HC.out.mono ?_
    rintro e w1 ⟨rfl, hb⟩
    have HB1 := Aside0.mk (below_step HB.out hb)
    clear hb
    go_wp2
    go_ret2
    exact ⟨_, rfl, Kd.R_nil _ _ _ _ _, HB1.out⟩
/-! ### slices_Backward_int_int: function 109, by hand -/
/-! #### a list of numbers from behind -/
def bwAt (L : List Int) (j : Nat) : Int × Int := (((L.length - 1 - j : Nat) : Int), rd L ((L.length - 1 - j : Nat) : Int))
def bw (L : List Int) : List (Int × Int) := (List.range L.length).map (bwAt L)
theorem upto_le {α : Type} (g : Nat → α) {j n : Nat} (h : j < n) : (List.range j).map g ++ [g j] <+: (List.range n).map g := by
  obtain ⟨m, rfl⟩ : ∃ m, n = (j + 1) + m := ⟨n - (j + 1), by omega⟩
  refine ⟨(List.range m).map (fun i => g (j + 1 + i)), ?_⟩
  rw [List.range_add, List.map_append, List.range_succ, List.map_append]
  simp [Function.comp_def]
theorem upto_snoc {α : Type} (g : Nat → α) (j : Nat) : (List.range j).map g ++ [g j] = (List.range (j + 1)).map g := by
  rw [List.range_succ, List.map_append]
  rfl
 attribute [local go_sem] Oper.semAt_some in
set_option maxHeartbeats 4000000 in
set_option maxRecDepth 100000 in
theorem slices_Backward.all1 (l Bn : Nat) (A : Option Addr) (c : Nat) (L : List Int) (J : List (Int × Int) → World → Prop) (Jp : List PanicEntry → World → Prop) (W0 : World) (hC : Kd.C (Kd.int .i64) W0 A L.length L)
    (hY : ∀ pre x W1, pre ++ [x] <+: bw L → J pre W1 → YieldAt Fence.wide 0 Try.prog l #[.int .i64 x.1, .int .i64 x.2] W1 fun e W' => (e = .returned (.bool true) ∧ J (pre ++ [x]) W' ∧ (Below W0.heap.size W1 W' ∧ W'.heap[Bn]? = W1.heap[Bn]?)) ∨ ∃ ch, e = .panicked ch ∧ Jp ch W')
    (W : World) (hW0 : Below W0.heap.size W0 W) (hb : W.heap[Bn]? = some (.cells #[.slice A L.length c] 55 (0, 0))) (h0 : J [] W) :
    CallsIn Fence.wide 0 Try.prog 123 #[.func (.yield l) #[] #[], .pointer (some ⟨Bn, 0, none⟩)] W fun e W' => (∃ v, e = .returned v ∧ J (bw L) W') ∨ ∃ ch, e = .panicked ch ∧ Jp ch W' := by
  have hm := Kd.C_max hC
  refine callsIn_of_wp Try.func123 rfl trivial ?_
  simp only [Try.ntmps123, List.size_toArray, List.length_cons, List.length_nil, Nat.reduceAdd, Nat.reduceSub, Array.replicate_succ, Array.replicate_zero, List.push_toArray, List.append_toArray, List.nil_append, List.cons_append]
  have HC := Aside0.mk hC
  have HY := Aside0.mk hY
  have HR : Aside0 (J [] W ∧ Below W0.heap.size W0 W ∧ W.heap[Bn]? = some (.cells #[.slice A L.length c] 55 (0, 0))) := ⟨h0, hW0, hb⟩
  have hbc : W.cell? ⟨Bn, 0, none⟩ = some (.slice A L.length c) := (blk_cell hb 0).trans rfl
  have hbf : W.frozen? ⟨Bn, 0, none⟩ = false := blk_frozen hb 0
  clear hC hY hW0 hb h0
  gi_wp2
  clear hbc hbf
  gi_loopw [3] (fun v3 wr => ∃ (j : Nat) (q : Int), Aside0 (j ≤ L.length ∧ q = (L.length : Int) - 1 - j) ∧ v3 = .int .i64 q ∧ J ((List.range j).map (bwAt L)) wr ∧ Below W0.heap.size W0 wr ∧ wr.heap[Bn]? = some (.cells #[.slice A L.length c] 55 (0, 0))) (fun v3 _ => (intOf v3 + 1).toNat)
  case atStart => exact ⟨0, (L.length : Int) - 1, ⟨by omega, by omega⟩, rfl, HR.out⟩
  case round =>
    clear HR
    obtain ⟨j, q, hq, rfl, hJ, hW, hb⟩ := hrel
    by_cases hlt : j < L.length
    · have hbc : wr.cell? ⟨Bn, 0, none⟩ = some (.slice A L.length c) := (blk_cell hb 0).trans rfl
      have hbf : wr.frozen? ⟨Bn, 0, none⟩ = false := blk_frozen hb 0
      obtain ⟨ad, e1, hx⟩ := Kd.at_int HC.out q (by have := hq.out; omega) (by have := hq.out; omega)
      cases e1
      have hx1 := (hW.cell (World.block_lt_of_cell? W0 _ hx)).trans hx
      have hge : decide (0 ≤ q) = true := decide_eq_true (by have := hq.out; omega)
      have hq0 : 0 ≤ q := by have := hq.out; omega
      have hq1 : q < (L.length : Int) := by have := hq.out; omega
      have hbw : bwAt L j = (q, rd L q) := by
        have := hq.out
        unfold bwAt
        rw [show ((L.length - 1 - j : Nat) : Int) = q by omega]
      obtain ⟨fn, tmps, assign, body, hy, hR⟩ := HY.out ((List.range j).map (bwAt L)) (bwAt L j) wr (upto_le _ hlt) hJ
      rw [upto_snoc] at hR
      rw [hbw] at hy
      dsimp only at hy
      clear hx hbw hJ
      gi_wp2
      refine ⟨rfl, ?_⟩
      refine hR.mono ?_
      clear hR hy hbc hbf
      rintro e W3 (⟨rfl, hJ3, hk3, hk4⟩ | ⟨ch, rfl, hp⟩)
      · gi_wp2
        refine ⟨⟨j + 1, q - 1, ⟨by have := hq.out; omega, by have := hq.out; omega⟩, by go_num, hJ3, hW.trans hk3, hk4.trans hb⟩, ?_⟩
        simp only [intOf]
        omega
      · exact ⟨rfl, .inr ⟨ch, rfl, hp⟩⟩
    · have hge : decide (0 ≤ q) = false := decide_eq_false (by have := hq.out; omega)
      have hj : j = L.length := by have := hq.out; omega
      have HJ := Aside0.mk hJ
      clear hJ hb hW
      gi_wp2
      go_end0
      have hJ := HJ.out
      rw [hj] at hJ
      exact .inl ⟨_, rfl, hJ⟩
theorem slices_Backward.seq {Bn : Nat} {A : Option Addr} {c : Nat} {L : List Int} {W0 w : World} (hC : Kd.C (Kd.int .i64) W0 A L.length L) (hW0 : Below W0.heap.size W0 w) (hb : w.heap[Bn]? = some (.cells #[.slice A L.length c] 55 (0, 0))) :
    SeqC Try.prog 123 #[.pointer (some ⟨Bn, 0, none⟩)] (fun x : Int × Int => #[.int .i64 x.1, .int .i64 x.2]) (fun _ => False) (fun W1 W' => Below W0.heap.size W1 W' ∧ W'.heap[Bn]? = W1.heap[Bn]?) (bw L) w := fun l J Jp W hW _ hY h0 =>
  slices_Backward.all1 l Bn A c L J Jp W0 hC hY W (below_step hW0 hW) ((hW.block Bn (blk_lt hb)).trans hb) h0
set_option maxHeartbeats 4000000 in
set_option maxRecDepth 100000 in
theorem slices_Backward.calls (v : Value) (hv : v.oneCell' = true) (w : World) : Calls Try.prog 109 #[v] w fun e w' => e = .returned (.func (.func 123) #[] #[.pointer (some ⟨w.heap.size, 0, none⟩)]) ∧ w' = w.alloc (.cells #[v] 55) := by
  have hu := Try.underlying55
  go_enter Try.func109, Try.ntmps109
  go_wp2
  go_ret
  exact ⟨rfl, rfl⟩
theorem bw_next {L : List Int} {pre : List (Int × Int)} {x : Int × Int} (h : pre ++ [x] <+: bw L) : pre.length < L.length ∧ x = bwAt L pre.length := by
  obtain ⟨q, hq⟩ := h
  have hl := congrArg List.length hq
  unfold bw at hl hq
  rw [List.length_append, List.length_append, List.length_map, List.length_range] at hl
  simp only [List.length_cons, List.length_nil] at hl
  have hlt : pre.length < L.length := by omega
  refine ⟨hlt, ?_⟩
  have hg := congrArg (fun l => l[pre.length]?) hq
  simp only [List.append_assoc, List.getElem?_append_right (Nat.le_refl _), Nat.sub_self, List.getElem?_map, List.getElem?_range hlt, Option.map_some] at hg
  exact Option.some.inj hg
/-! #### num.Of -/
def num_Of.go (k : Nat) (l : List Int) (last : Int) : Nat → Int → Int → Option (Int × Int × Int)
  | 0, x, y => some (x, y, 0)
  | i + 1, x, y => if -1000000000 ≤ rd l i ∧ rd l i ≤ 1000000000 then (if (i : Int) = last then num_Of.go k l last i (rd l i) 1 else (num_ratio_num.f k (wrap64 (wrap64 (rd l i * x) + y)) x).bind fun z => exc z (fun _ => some (0, 0, 8)) (fun b => num_Of.go k l last i b.1 b.2)) else some (0, 0, 8)
theorem num_Of.mono_go (k : Nat) (l : List Int) (last : Int) : ∀ i x y, LeO (num_Of.go k l last i x y) (num_Of.go (k + 1) l last i x y)
  | 0, x, y => LeO.refl _
  | i + 1, x, y => LeO.ite (LeO.ite (num_Of.mono_go k l last i _ _) (LeO.bind (num_ratio_num.mono _ _ k) (fun _ => LeO.exc (fun _ => LeO.refl _) (fun _ => num_Of.mono_go k l last i _ _)))) (LeO.refl _)
def num_Of.f (k : Nat) (l0 : List Int) : Option (Int × Int × Int) := if 1 ≤ (l0.length : Int) ∧ (l0.length : Int) ≤ 50 then (if (l0.drop 1).any (fun n => decide (n < 1)) = true then some (0, 0, 3) else (if 0 < (l0.length : Int) - 1 ∧ rd l0 ((l0.length : Int) - 1) = 1 then some (0, 0, 1) else num_Of.go k l0 ((l0.length : Int) - 1) l0.length 0 0)) else some (0, 0, 4)
theorem num_Of.mono : ∀ a0 k, LeO (num_Of.f k a0) (num_Of.f (k + 1) a0) := fun a0 k => LeO.ite (LeO.ite (LeO.refl _) (LeO.ite (LeO.refl _) (num_Of.mono_go k _ _ _ _ _))) (LeO.refl _)
theorem num_Of_1.calls (x : Int) (w : World) : Calls Try.prog 108 #[.int .i64 x] w fun e w' => e = .returned (.bool (decide (x < 1))) ∧ Below w.heap.size w w' := by
  go_enter Try.func108, Try.ntmps108
  go_wp2
  go_ret
  exact ⟨rfl, Below.refl _ _⟩
theorem num_Of_1.enters : Enters Try.prog 108 := enters_of Try.func108 (by kernel_rfl) rfl
theorem num_Of.lit (w : World) (x : Int) : Kd.C (Kd.int .i64) (w.alloc (.cells #[.int .i64 x] 3)) (some ⟨w.heap.size, 0, none⟩) 1 [x] := by
  refine ⟨rfl, by omega, fun _ => ⟨_, rfl, fun j p hp => ?_⟩⟩
  match j, hp with
  | 0, hp =>
    obtain rfl := Option.some.inj hp
    refine ⟨[.int .i64 x], rfl, rfl, fun i u hu => ?_⟩
    match i, hu with
    | 0, hu => obtain rfl := Option.some.inj hu; exact cell_new_l w _ 3
theorem num_Of.within (a b x : Int) (w : World) : Calls Try.prog 80 #[.int .i64 a, .int .i64 b, .slice (some ⟨w.heap.size, 0, none⟩) 1 1] (w.alloc (.cells #[.int .i64 x] 3)) fun e w' => e = .returned (.bool (decide (a ≤ x ∧ x ≤ b))) ∧ Below w.heap.size w w' :=
  (num_within.calls a b (some ⟨w.heap.size, 0, none⟩) 1 [x] (decide (a ≤ x ∧ x ≤ b)) _ (num_Of.lit w x) (Nat.le_refl _) (congrArg some (by simp))).mono fun e w' h => ⟨h.1, below_step (below_alloc (Below.refl _ _) _) h.2⟩
theorem num_catch.doorE_ok {fn : Func} {p q : Tmp} (h : fn.results = #[.cell p 23, .cell q 26]) (tmps : Array Value) (w0 w : World) (b e r : Nat) (N D E : Int)
    (hp : tmps.getD p undef = .pointer (some ⟨b, 0, none⟩)) (hq : tmps.getD q undef = .pointer (some ⟨e, 0, none⟩))
    (hb : w.heap[b]? = some (.cells #[.int .i64 N, .int .i64 D] 23 (0, 0))) (he : w.heap[e]? = some (.cells #[.int .i64 E] 26 (0, 0))) (HB : Below w0.heap.size w0 w)
    (hr : w.heap[r]? = some (.deferred (some []))) (h0 : w0.heap.size ≤ r) :
    LeavesE Try.prog fn tmps (num_post w0 N D E) ({ target := .collected r, args := #[] } :: num_door b e) .returning w :=
  .inl ⟨r, num_door b e, w.putObj r (.deferred none), rfl, run_takeDeferred hr, num_catch.door_ok h tmps w0 _ b e N D E hp hq ((World.putObj_heap_other (fun e' => by subst e'; rw [hr] at hb; cases hb)).trans hb) ((World.putObj_heap_other (fun e' => by subst e'; rw [hr] at he; cases he)).trans he) (HB.grown (grownBy_putObj' _ _ _) HB.size (fun k e' => by cases e'; exact h0))⟩
theorem num_catch.doorE_caught {fn : Func} {p q : Tmp} (h : fn.results = #[.cell p 23, .cell q 26]) (tmps : Array Value) (w0 w : World) (b e r : Nat) (N D E : Int)
    (hp : tmps.getD p undef = .pointer (some ⟨b, 0, none⟩)) (hq : tmps.getD q undef = .pointer (some ⟨e, 0, none⟩))
    (hb : w.heap[b]? = some (.cells #[.int .i64 N, .int .i64 D] 23 (0, 0))) (he : w.heap[e]? = some (.cells #[.int .i64 E] 26 (0, 0))) (hne : b ≠ e) (HB : Below w0.heap.size w0 w) (hBb : w0.heap.size ≤ b) (hBe : w0.heap.size ≤ e)
    (hr : w.heap[r]? = some (.deferred (some []))) (h0 : w0.heap.size ≤ r) :
    LeavesE Try.prog fn tmps (num_post w0 0 0 8) ({ target := .collected r, args := #[] } :: num_door b e) (.panicking [{ v := .iface 108 (.agg #[]), recovered := false }]) w :=
  .inl ⟨r, num_door b e, w.putObj r (.deferred none), rfl, run_takeDeferred hr, num_catch.door_caught h tmps w0 _ b e N D E hp hq ((World.putObj_heap_other (fun e' => by subst e'; rw [hr] at hb; cases hb)).trans hb) ((World.putObj_heap_other (fun e' => by subst e'; rw [hr] at he; cases he)).trans he) hne (HB.grown (grownBy_putObj' _ _ _) HB.size (fun k e' => by cases e'; exact h0)) hBb hBe⟩
theorem num_Of.out {w0 W : World} {b e : Nat} {X Y E : Int} (hx : W.heap[b]? = some (.cells #[.int .i64 X, .int .i64 Y] 23 (0, 0))) (he : W.heap[e]? = some (.cells #[.int .i64 E] 26 (0, 0))) (hne : b ≠ e) (hB : Below w0.heap.size w0 W) (h1 : w0.heap.size ≤ b) (h2 : w0.heap.size ≤ e) (X' Y' E' : Int) :
    (((W.setCell ⟨b, 0, none⟩ (.int .i64 X')).setCell ⟨b, 1, none⟩ (.int .i64 Y')).setCell ⟨e, 0, none⟩ (.int .i64 E')).heap[b]? = some (.cells #[.int .i64 X', .int .i64 Y'] 23 (0, 0)) ∧ (((W.setCell ⟨b, 0, none⟩ (.int .i64 X')).setCell ⟨b, 1, none⟩ (.int .i64 Y')).setCell ⟨e, 0, none⟩ (.int .i64 E')).heap[e]? = some (.cells #[.int .i64 E'] 26 (0, 0)) ∧ Below w0.heap.size w0 (((W.setCell ⟨b, 0, none⟩ (.int .i64 X')).setCell ⟨b, 1, none⟩ (.int .i64 Y')).setCell ⟨e, 0, none⟩ (.int .i64 E')) :=
  ⟨blk_far (blk_put (blk_put hx 0 (.int .i64 X') rfl) 1 (.int .i64 Y') rfl) hne _, blk_put (blk_far (blk_far he (Ne.symm hne) _) (Ne.symm hne) _) 0 (.int .i64 E') rfl, ((hB.setCell h1 _).setCell h1 _).setCell h2 _⟩
theorem num_Of.put {w0 W : World} {b e q : Nat} {X Y E last : Int} (hx : W.heap[b]? = some (.cells #[.int .i64 X, .int .i64 Y] 23 (0, 0))) (he : W.heap[e]? = some (.cells #[.int .i64 E] 26 (0, 0))) (hl : W.heap[q]? = some (.cells #[.int .i64 last] 3 (0, 0))) (hne : b ≠ e) (hnq : b ≠ q) (hB : Below w0.heap.size w0 W) (h1 : w0.heap.size ≤ b) (X' Y' : Int) :
    ((W.setCell ⟨b, 0, none⟩ (.int .i64 X')).setCell ⟨b, 1, none⟩ (.int .i64 Y')).heap[b]? = some (.cells #[.int .i64 X', .int .i64 Y'] 23 (0, 0)) ∧ ((W.setCell ⟨b, 0, none⟩ (.int .i64 X')).setCell ⟨b, 1, none⟩ (.int .i64 Y')).heap[e]? = some (.cells #[.int .i64 E] 26 (0, 0)) ∧ ((W.setCell ⟨b, 0, none⟩ (.int .i64 X')).setCell ⟨b, 1, none⟩ (.int .i64 Y')).heap[q]? = some (.cells #[.int .i64 last] 3 (0, 0)) ∧ Below w0.heap.size w0 ((W.setCell ⟨b, 0, none⟩ (.int .i64 X')).setCell ⟨b, 1, none⟩ (.int .i64 Y')) ∧
    (∀ k, k ≠ b → ((W.setCell ⟨b, 0, none⟩ (.int .i64 X')).setCell ⟨b, 1, none⟩ (.int .i64 Y')).heap[k]? = W.heap[k]?) ∧ (∀ (n : Nat) (W1 : World), n ≤ b → Below n W1 W → Below n W1 ((W.setCell ⟨b, 0, none⟩ (.int .i64 X')).setCell ⟨b, 1, none⟩ (.int .i64 Y'))) :=
  ⟨blk_put (blk_put hx 0 (.int .i64 X') rfl) 1 (.int .i64 Y') rfl, blk_far (blk_far he (Ne.symm hne) _) (Ne.symm hne) _, blk_far (blk_far hl (Ne.symm hnq) _) (Ne.symm hnq) _, (hB.setCell h1 _).setCell h1 _,
    fun k hk => (Below.heap_setCell _ _ _ k hk).trans (Below.heap_setCell _ _ _ k hk), fun n W1 hn h => (h.setCell (p := ⟨b, 0, none⟩) hn _).setCell (p := ⟨b, 1, none⟩) hn _⟩
 attribute [local go_sem] Oper.semAt_some in
set_option maxHeartbeats 8000000 in
set_option maxRecDepth 100000 in
theorem num_Of.calls (k : Nat) (A0 : Option Addr) (c0 : Nat) (l0 : List Int) (r1 r2 r3 : Int) (w : World) (hr0 : Kd.C (Kd.int .i64) w A0 l0.length l0) (hc0 : l0.length ≤ c0) (h : num_Of.f k l0 = some (r1, r2, r3)) :
    Calls Try.prog 61 #[.slice A0 l0.length c0] w fun e w' => e = .returned (.tuple #[.agg #[.int .i64 r1, .int .i64 r2], .int .i64 r3]) ∧ Below w.heap.size w w' := by
  have hu23 := Try.underlying23
  show Calls Try.prog 61 #[.slice A0 l0.length c0] w (num_post w r1 r2 r3)
  refine calls_of_wpE Try.func61 rfl ?_
  simp only [Try.ntmps61, List.size_toArray, List.length_cons, List.length_nil, Nat.reduceAdd, Nat.reduceSub, Array.replicate_succ, Array.replicate_zero, List.push_toArray, List.append_toArray, List.nil_append, List.cons_append]
  have HR := Aside0.mk hr0
  have HC := Aside0.mk hc0
  have H := Aside0.mk h
  have hm := Kd.C_max hr0
  clear hr0 hc0 h
  refine wpE_seq_k fun K hK => ?_
  go_wp2
  have hbx := blk_alloc (blk_new w (.cells #[.int .i64 0, .int .i64 0] 23)) (.cells #[.int .i64 0] 26)
  have hbe := blk_new (w.alloc (.cells #[.int .i64 0, .int .i64 0] 23)) (.cells #[.int .i64 0] 26)
  rw [World.size_alloc] at hbe
  have hB := below_alloc (below_alloc (Below.refl w.heap.size w) (.cells #[.int .i64 0, .int .i64 0] 23)) (.cells #[.int .i64 0] 26)
  generalize (w.alloc (.cells #[.int .i64 0, .int .i64 0] 23)).alloc (.cells #[.int .i64 0] 26) = W0 at hbx hbe hB ⊢
  have HX := Aside0.mk hbx
  have HE := Aside0.mk hbe
  have HB := Aside0.mk hB
  clear hbx hbe hB
  refine wpE_seq_k fun K hK => ?_
  have HW := Aside0.mk (num_Of.within 1 50 (l0.length : Int) W0)
  go_wp2_with (fail)
  refine HW.out.mono ?_
  clear HW
  rintro e w1 ⟨rfl, hb⟩
  replace HX := Aside0.mk (blk_below HX.out hb)
  replace HE := Aside0.mk (blk_below HE.out hb)
  replace HB := Aside0.mk (below_step HB.out hb)
  clear hb
  have hne : w.heap.size ≠ w.heap.size + 1 := by omega
  unfold num_Of.f at H
  by_cases c1 : 1 ≤ (l0.length : Int) ∧ (l0.length : Int) ≤ 50
  · rw [decide_eq_true c1]
    rw [if_pos c1] at H
    go_wp2
    refine wpE_seq_k fun K hK => ?_
    obtain ⟨i0, hi, _, hsz, _⟩ := info_parts info3
    have hroom := HC.out
    have hcut := cut_from (P := Try.prog) 55 3 .i64 Try.underlying55 hi 1 hsz A0 l0.length c0 1 (by omega) c1.1
    have hr1 := Kd.C_below (Kd.C_drop (m := (1 : Int).toNat) (c := c0) HR.out (by omega) hroom) HB.out
    obtain ⟨A1, hA1⟩ : ∃ A1, A1 = (if c0 = (1 : Int).toNat then A0 else A0.map (·.add ((1 : Int).toNat * 1))) := ⟨_, rfl⟩
    obtain ⟨c2, hc2⟩ : ∃ c2, c2 = c0 - (1 : Int).toNat := ⟨_, rfl⟩
    obtain ⟨y, hy⟩ : ∃ y : List Int, y = l0.drop 1 := ⟨_, rfl⟩
    have hyl : y.length = l0.length - (1 : Int).toNat := by rw [hy, List.length_drop]; rfl
    rw [show (l0).drop (1 : Int).toNat = y from hy.symm] at hr1
    replace hr1 : Kd.C (Kd.int .i64) w1 A1 y.length y := by rw [hA1]; exact hr1
    rw [← hyl, ← hA1, ← hc2] at hcut
    have hroom1 : y.length ≤ c2 := by rw [hyl, hc2]; exact Nat.sub_le_sub_right hroom _
    have HQ := Aside0.mk (slices_ContainsFunc_int.calls 108 #[] (fun n => decide (n < 1)) num_Of_1.enters A1 c2 y w1 hr1 hroom1 (by have := Kd.C_max hr1; exact this) (fun x W hW => (num_Of_1.calls x W).mono fun e w' h => ⟨h.1, below_step hW h.2⟩))
    have HY := Aside0.mk hy
    have C1 := Aside0.mk c1
    clear hr1 hroom1 hroom hA1 hc2 hy hyl hi hsz c1
    go_wp2_with (fail)
    refine HQ.out.mono ?_
    clear HQ hcut
    rintro e w2 ⟨rfl, hb⟩
    replace HX := Aside0.mk (blk_below HX.out hb)
    replace HE := Aside0.mk (blk_below HE.out hb)
    replace HB := Aside0.mk (below_step HB.out hb)
    clear hb
    rw [← HY.out] at H
    by_cases c2 : y.any (fun n => decide (n < 1)) = true
    · rw [c2]
      have H' := H.out
      rw [if_pos c2] at H'
      simp only [Option.some.injEq, Prod.mk.injEq] at H'
      obtain ⟨rfl, rfl, rfl⟩ := H'
      obtain ⟨cx0, cx1, fx0, fx1⟩ := bc2_ HX
      obtain ⟨ce0, fe0⟩ := bc1_ HE
      have HO := Aside0.mk (num_Of.out HX.out HE.out hne HB.out (Nat.le_refl _) (Nat.le_succ _) 0 0 3)
      clear H HX HE HB c2
      go_wp2
      exact .inr (num_catch.door_ret rfl _ _ _ _ _ _ _ _ rfl rfl HO.out.1 HO.out.2.1 HO.out.2.2)
    · rw [if_neg c2] at H
      rw [(Bool.not_eq_true _).mp c2]
      clear c2
      go_wp2
      refine wpE_seq_k fun K hK => ?_
      have hl0 : 1 ≤ (l0.length : Int) := C1.out.1
      go_wp2
      have hxl := blk_lt HX.out
      have hel := blk_lt HE.out
      have hx3 := blk_alloc HX.out (.cells #[.int .i64 ((l0.length : Int) - 1)] 3)
      have he3 := blk_alloc HE.out (.cells #[.int .i64 ((l0.length : Int) - 1)] 3)
      have hl3 := blk_new w2 (.cells #[.int .i64 ((l0.length : Int) - 1)] 3)
      have hB3 := below_alloc HB.out (.cells #[.int .i64 ((l0.length : Int) - 1)] 3)
      generalize w2.alloc (.cells #[.int .i64 ((l0.length : Int) - 1)] 3) = W3 at hx3 he3 hl3 hB3 ⊢
      have hbl : w.heap.size < w2.heap.size := hxl
      have hbe : w.heap.size + 1 < w2.heap.size := hel
      generalize w2.heap.size = bl at hl3 hbl hbe ⊢
      replace HX := Aside0.mk hx3
      replace HE := Aside0.mk he3
      replace HB := Aside0.mk hB3
      have HL := Aside0.mk hl3
      clear hx3 he3 hl3 hB3 hxl hel
      refine wpE_seq_k fun K hK => ?_
      obtain ⟨last, hlast⟩ : ∃ q : Int, q = (l0.length : Int) - 1 := ⟨_, rfl⟩
      rw [← hlast] at HL H
      have HLA := Aside0.mk hlast
      clear hlast
      have tail : num_Of.go k l0 last l0.length 0 0 = some (r1, r2, r3) → ∀ u5 u6 u7 u8 u9 u10 u11 u12 u13 u14 u15 u16 u17 u18 u19 u20 u21 u22 u23 u24 u25 u26 u27 u28 u29 u30 u31 u32 u33 u34 u35 u36 u37 u38 u39 u40 u41 u42 u43 u44 u45 u46 u47 u48 u49 u50 u51 u52 u53 u54 u55 u56 : Value, K { tmps := #[.slice A0 l0.length c0, undef, .pointer (some ⟨w.heap.size, 0, none⟩), .pointer (some ⟨w.heap.size + 1, 0, none⟩), .pointer (some ⟨bl, 0, none⟩), u5, u6, u7, u8, u9, u10, u11, u12, u13, u14, u15, u16, u17, u18, u19, u20, u21, u22, u23, u24, u25, u26, u27, u28, u29, u30, u31, u32, u33, u34, u35, u36, u37, u38, u39, u40, u41, u42, u43, u44, u45, u46, u47, u48, u49, u50, u51, u52, u53, u54, u55, u56], defers := [] } W3 := by
        intro hgo
        intro u5 u6 u7 u8 u9 u10 u11 u12 u13 u14 u15 u16 u17 u18 u19 u20 u21 u22 u23 u24 u25 u26 u27 u28 u29 u30 u31 u32 u33 u34 u35 u36 u37 u38 u39 u40 u41 u42 u43 u44 u45 u46 u47 u48 u49 u50 u51 u52 u53 u54 u55 u56
        refine hK _ _ ?_
        clear hK H C1 HY
        refine wpE_seq_k fun K2 hK2 => ?_
        go_wp2
        refine wpE_seq (wpE_seq_k fun K hK => ?_)
        go_wp2_with (fail)
        refine (slices_Backward.calls (.slice A0 l0.length c0) rfl W3).mono ?_
        rintro e w4 ⟨rfl, rfl⟩
        go_wp2
        refine wpE_block ?_
        have hxl := blk_lt HX.out
        have hel := blk_lt HE.out
        have hll := blk_lt HL.out
        have hsl : W3.heap.size < (W3.alloc (.cells #[.slice A0 l0.length c0] 55)).heap.size := by simp
        have hx4 := blk_alloc HX.out (.cells #[.slice A0 l0.length c0] 55)
        have he4 := blk_alloc HE.out (.cells #[.slice A0 l0.length c0] 55)
        have hl4 := blk_alloc HL.out (.cells #[.slice A0 l0.length c0] 55)
        have hs4 := blk_new W3 (.cells #[.slice A0 l0.length c0] 55)
        have hB4 := below_alloc HB.out (.cells #[.slice A0 l0.length c0] 55)
        generalize W3.alloc (.cells #[.slice A0 l0.length c0] 55) = w4 at hsl hx4 he4 hl4 hs4 hB4 ⊢
        have HGO := Aside0.mk hgo
        have HSEQ := Aside0.mk (slices_Backward.seq HR.out hB4 hs4)
        clear hgo
        refine wpE_range (gf := 123) (lb := #[.pointer (some ⟨W3.heap.size, 0, none⟩)]) rfl (enters_of Try.func123 (by kernel_rfl) rfl) HSEQ.out (Below.refl _ _) (fun _ h => h.elim)
          (fun _ _ _ h k => ⟨h.1.trans k.1, k.2.trans h.2⟩) (fun W o h => ⟨(Below.refl _ W).grown (grownBy_putObj' W _ o) (by omega) (fun k e => by cases e; omega), World.putObj_heap_other (by omega)⟩) (fun _ => rfl)
          (fun pre W => ∃ X Y : Int, W.heap[w.heap.size]? = some (.cells #[.int .i64 X, .int .i64 Y] 23 (0, 0)) ∧ W.heap[w.heap.size + 1]? = some (.cells #[.int .i64 0] 26 (0, 0)) ∧ W.heap[bl]? = some (.cells #[.int .i64 last] 3 (0, 0)) ∧ Below w.heap.size w W ∧ num_Of.go k l0 last (l0.length - pre.length) X Y = some (r1, r2, r3))
          (fun ch W => (ch = [{ v := .iface 108 (.agg #[]), recovered := false }] ∧ r1 = 0 ∧ r2 = 0 ∧ r3 = 8) ∧ ∃ X Y : Int, W.heap[w.heap.size]? = some (.cells #[.int .i64 X, .int .i64 Y] 23 (0, 0)) ∧ W.heap[w.heap.size + 1]? = some (.cells #[.int .i64 0] 26 (0, 0)) ∧ Below w.heap.size w W)
          ?hI ?h0 (fun x => { tmps := #[.slice A0 l0.length c0, undef, .pointer (some ⟨w.heap.size, 0, none⟩), .pointer (some ⟨w.heap.size + 1, 0, none⟩), .pointer (some ⟨bl, 0, none⟩), .int .i64 x.1, .int .i64 x.2, u7, u8, u9, u10, u11, u12, u13, u14, u15, u16, u17, u18, u19, u20, u21, u22, u23, u24, u25, u26, u27, u28, u29, .slice A0 l0.length c0, .func (.func 123) #[] #[.pointer (some ⟨W3.heap.size, 0, none⟩)], .int .i64 x.1, .int .i64 x.2, u34, u35, u36, u37, u38, u39, u40, u41, u42, u43, u44, u45, u46, u47, u48, u49, u50, u51, u52, u53, u54, u55, u56], defers := [] }) ?assign ?body ?done ?panic
        case hI =>
          rintro s W1 W2 row ⟨X, Y, hx, he, hl, hB, hgo⟩ hg hrow
          have hr : ∀ k, k < w4.heap.size → some k ≠ row := fun k hk e => by
            rcases hrow k e.symm with h | h
            · exact h
            · omega
          exact ⟨X, Y, (hg.block _ (blk_lt hx) (hr _ (by omega))).trans hx, (hg.block _ (blk_lt he) (hr _ (by omega))).trans he, (hg.block _ (blk_lt hl) (hr _ (by omega))).trans hl, hB.grown hg hB.size (fun k e => by rcases hrow k e with h | h; exact h.elim; omega), hgo⟩
        case h0 => exact ⟨0, 0, hx4, he4, hl4, hB4, HGO.out⟩
        case assign =>
          intro l x W K hK
          gi_wp2
          exact hK
        case body =>
          rintro l pre x W hsz hpx ⟨X, Y, hx, he, hl, hB, hgo⟩
          obtain ⟨hlt, rfl⟩ := bw_next hpx
          obtain ⟨i, hi⟩ : ∃ i : Nat, i = l0.length - 1 - pre.length := ⟨_, rfl⟩
          have hxi : bwAt l0 pre.length = ((i : Int), rd l0 (i : Int)) := by rw [hi]; rfl
          rw [hxi]
          have hgo1 := hgo
          rw [show l0.length - pre.length = i + 1 by omega] at hgo1
          have hnext : l0.length - (pre ++ [((i : Int), rd l0 (i : Int))]).length = i := by
            rw [List.length_append]
            simp only [List.length_cons, List.length_nil]
            omega
          unfold num_Of.go at hgo1
          obtain ⟨z, hz⟩ : ∃ z : Int, z = rd l0 (i : Int) := ⟨_, rfl⟩
          rw [← hz] at hgo1 hnext ⊢
          clear hz hgo hi hxi
          have HG := Aside0.mk hgo1
          have HN := Aside0.mk hnext
          have HX := Aside0.mk hx
          have HE := Aside0.mk he
          have HL := Aside0.mk hl
          have HB := Aside0.mk hB
          have HSZ := Aside0.mk hsz
          have HLT := Aside0.mk hsl
          clear hgo1 hnext hx he hl hB hsz hpx hlt hx4 he4 hl4 hs4 hB4 HGO HSEQ hsl
          have HW := Aside0.mk (num_Of.within (-1000000000) 1000000000 z W)
          gi_wp2
          refine ⟨trivial, rfl, ?_⟩
          refine (CallsIn.inRound l (callsIn_wide.2 HW.out)).mono ?_
          clear HW
          rintro e w5 ⟨rfl, hb⟩
          replace HX := Aside0.mk (blk_below HX.out hb)
          replace HE := Aside0.mk (blk_below HE.out hb)
          replace HL := Aside0.mk (blk_below HL.out hb)
          replace HB := Aside0.mk (below_step HB.out hb)
          have HWW := Aside0.mk hb
          clear hb
          by_cases d1 : -1000000000 ≤ z ∧ z ≤ 1000000000
          · rw [decide_eq_true d1]
            have hg := HG.out
            rw [if_pos d1] at hg
            have HG2 := Aside0.mk hg
            clear HG hg d1
            obtain ⟨cl0, fl0⟩ := bc1_ HL
            have hkeep : ∀ k, k < w4.heap.size + 2 → w5.heap[k]? = W.heap[k]? := fun k hk => HWW.out.block k (by have := HSZ.out; omega)
            have HKE := Aside0.mk hkeep
            have HW5 := Aside0.mk (show w4.heap.size + 2 ≤ w5.heap.size from Nat.le_trans HSZ.out HWW.out.size)
            have hbw : Below w.heap.size W w5 := HWW.out.mono (by have := HSZ.out; have := HLT.out; omega)
            have HBW := Aside0.mk hbw
            clear hkeep hbw HWW
            by_cases d2 : (i : Int) = last
            · have e2 : ((i : Int) == last) = true := beq_iff_eq.mpr d2
              have hg := HG2.out
              rw [if_pos d2] at hg
              have HG3 := Aside0.mk hg
              obtain ⟨cx0, cx1, fx0, fx1⟩ := bc2_ HX
              have HO := Aside0.mk (num_Of.put HX.out HE.out HL.out hne (by omega) HB.out (Nat.le_refl _) z 1)
              clear HG2 hg d2 HX HE HL HB
              gi_wp2
              obtain ⟨o1, o2, o3, o4, o5, o6⟩ := HO.out
              refine ⟨fun k hk1 hk2 => (o5 k (by have := HLT.out; omega)).trans (HKE.out k hk2), ⟨o6 _ _ (Nat.le_refl _) HBW.out, (o5 _ (by omega)).trans (HKE.out _ (by have := HLT.out; omega))⟩, z, 1, o1, o2, o3, o4, ?_⟩
              rw [HN.out]
              exact HG3.out
            · have e2 : ((i : Int) == last) = false := beq_eq_false_iff_ne.mpr d2
              have hg := HG2.out
              rw [if_neg d2] at hg
              obtain ⟨rz, hz, hg⟩ := Option.bind_eq_some_iff.mp hg
              have HZ := Aside0.mk hz
              have HG3 := Aside0.mk hg
              obtain ⟨cx0, cx1, fx0, fx1⟩ := bc2_ HX
              clear HG2 hg d2 hz
              gi_wp2
              refine ⟨trivial, rfl, ?_⟩
              cases rz with
              | error p =>
                refine (CallsIn.inRound l (callsIn_wide.2 (num_ratio_num.throws k _ _ p w5 HZ.out))).mono ?_
                rintro e w6 ⟨rfl, hb⟩
                have hg := HG3.out
                simp only [exc, Option.some.injEq, Prod.mk.injEq] at hg
                obtain ⟨rfl, rfl, rfl⟩ := hg
                exact ⟨rfl, fun k hk1 hk2 => (hb.block k (by have := HW5.out; omega)).trans (HKE.out k hk2), ⟨rfl, rfl, rfl, rfl⟩, X, Y, blk_below HX.out hb, blk_below HE.out hb, below_step HB.out hb⟩
              | ok r =>
                refine (CallsIn.inRound l (callsIn_wide.2 (num_ratio_num.calls k _ _ r.1 r.2 w5 HZ.out))).mono ?_
                rintro e w6 ⟨rfl, hb⟩
                have hg := HG3.out
                simp only [exc] at hg
                have HG4 := Aside0.mk hg
                have hx6 := blk_below HX.out hb
                have hl6 := blk_lt hx6
                obtain ⟨cx0, cx1, fx0, fx1⟩ := bc2_ (Aside0.mk hx6)
                have HO := Aside0.mk (num_Of.put hx6 (blk_below HE.out hb) (blk_below HL.out hb) hne (by omega) (below_step HB.out hb) (Nat.le_refl _) r.1 r.2)
                have HK6 := Aside0.mk (show ∀ k, k < w4.heap.size + 2 → w6.heap[k]? = W.heap[k]? from fun k hk2 => (hb.block k (by have := HW5.out; omega)).trans (HKE.out k hk2))
                have HBW6 := Aside0.mk (HBW.out.trans (hb.mono (by have := HW5.out; have := HLT.out; omega)))
                clear HG3 hg hx6 hb HX HE HL HB HKE HBW HZ
                gi_wp2
                obtain ⟨o1, o2, o3, o4, o5, o6⟩ := HO.out
                refine ⟨fun k hk1 hk2 => (o5 k (by have := HLT.out; omega)).trans (HK6.out k hk2), ⟨o6 _ _ (Nat.le_refl _) HBW6.out, (o5 _ (by omega)).trans (HK6.out _ (by have := HLT.out; omega))⟩, r.1, r.2, o1, o2, o3, o4, ?_⟩
                rw [HN.out]
                exact HG4.out
          · rw [decide_eq_false d1]
            have hg := HG.out
            rw [if_neg d1] at hg
            simp only [Option.some.injEq, Prod.mk.injEq] at hg
            obtain ⟨rfl, rfl, rfl⟩ := hg
            clear HG d1
            gi_wp2
            exact ⟨rfl, fun k hk1 hk2 => HWW.out.block k (by have := HSZ.out; omega), rfl, ⟨_, _, HX.out⟩, HE.out, HB.out⟩
        case done =>
          rintro W ⟨X, Y, hx, he, hl, hB, hgo⟩ hD
          rw [show l0.length - (bw l0).length = 0 by unfold bw; simp] at hgo
          simp only [num_Of.go, Option.some.injEq, Prod.mk.injEq] at hgo
          obtain ⟨rfl, rfl, rfl⟩ := hgo
          obtain ⟨cx0, cx1, fx0, fx1⟩ := bc2_ (Aside0.mk hx)
          obtain ⟨ce0, fe0⟩ := bc1_ (Aside0.mk he)
          have HO := Aside0.mk (num_Of.out hx he hne hB (Nat.le_refl _) (Nat.le_succ _) X Y 0)
          have HD := Aside0.mk (show (((W.setCell ⟨w.heap.size, 0, none⟩ (.int .i64 X)).setCell ⟨w.heap.size, 1, none⟩ (.int .i64 Y)).setCell ⟨w.heap.size + 1, 0, none⟩ (.int .i64 0)).heap[w4.heap.size]? = some (.deferred (some [])) from (Below.heap_setCell _ _ _ _ (show w4.heap.size ≠ w.heap.size + 1 by omega)).trans ((Below.heap_setCell _ _ _ _ (show w4.heap.size ≠ w.heap.size by omega)).trans ((Below.heap_setCell _ _ _ _ (show w4.heap.size ≠ w.heap.size by omega)).trans hD)))
          refine wpE_of ?_
          clear hx he hl hB hD
          go_wp2
          exact num_catch.doorE_ok rfl _ _ _ _ _ _ _ _ _ rfl rfl HO.out.1 HO.out.2.1 HO.out.2.2 HD.out (by omega)
        case panic =>
          rintro ch W ⟨⟨rfl, rfl, rfl, rfl⟩, X, Y, hx, he, hB⟩ hD
          exact num_catch.doorE_caught rfl _ _ _ _ _ _ _ _ _ rfl rfl hx he hne hB (Nat.le_refl _) (Nat.le_succ _) hD (by omega)
      obtain ⟨cl0, fl0⟩ := bc1_ HL
      by_cases c3 : 0 < last
      · have d3 : decide (0 < last) = true := decide_eq_true c3
        obtain ⟨ad, e1, hx⟩ := Kd.at_int HR.out last (by omega) (by have := HLA.out; omega)
        cases e1
        have hx1 := (HB.out.cell (World.block_lt_of_cell? w _ hx)).trans hx
        have hq0 : 0 ≤ last := by omega
        have hq1 : last < (l0.length : Int) := by have := HLA.out; omega
        clear hx
        obtain ⟨z, hz⟩ : ∃ z : Int, z = rd l0 last := ⟨_, rfl⟩
        rw [← hz] at hx1 H
        by_cases c4 : z = 1
        · have d4 : (z == 1) = true := beq_iff_eq.mpr c4
          have H' := H.out
          rw [if_pos ⟨c3, c4⟩] at H'
          simp only [Option.some.injEq, Prod.mk.injEq] at H'
          obtain ⟨rfl, rfl, rfl⟩ := H'
          obtain ⟨cx0, cx1, fx0, fx1⟩ := bc2_ HX
          obtain ⟨ce0, fe0⟩ := bc1_ HE
          have HO := Aside0.mk (num_Of.out HX.out HE.out hne HB.out (Nat.le_refl _) (Nat.le_succ _) 0 0 1)
          clear H HX HE HB c4 hz tail
          go_wp2
          exact .inr (num_catch.door_ret rfl _ _ _ _ _ _ _ _ rfl rfl HO.out.1 HO.out.2.1 HO.out.2.2)
        · have d4 : (z == 1) = false := beq_eq_false_iff_ne.mpr c4
          rw [if_neg (fun h => c4 h.2)] at H
          have T := Aside0.mk (tail H.out)
          clear tail hK H
          go_wp2
          exact T.out _ _ _ _ _ _ _ _ _ _ _ _ _ _ _ _ _ _ _ _ _ _ _ _ _ _ _ _ _ _ _ _ _ _ _ _ _ _ _ _ _ _ _ _ _ _ _ _ _ _ _ _
      · have d3 : decide (0 < last) = false := decide_eq_false c3
        rw [if_neg (fun h => c3 h.1)] at H
        have T := Aside0.mk (tail H.out)
        clear tail hK H
        go_wp2
        exact T.out _ _ _ _ _ _ _ _ _ _ _ _ _ _ _ _ _ _ _ _ _ _ _ _ _ _ _ _ _ _ _ _ _ _ _ _ _ _ _ _ _ _ _ _ _ _ _ _ _ _ _ _
  · rw [decide_eq_false c1]
    have H' := H.out
    rw [if_neg c1] at H'
    simp only [Option.some.injEq, Prod.mk.injEq] at H'
    obtain ⟨rfl, rfl, rfl⟩ := H'
    obtain ⟨cx0, cx1, fx0, fx1⟩ := bc2_ HX
    obtain ⟨ce0, fe0⟩ := bc1_ HE
    have HO := Aside0.mk (num_Of.out HX.out HE.out hne HB.out (Nat.le_refl _) (Nat.le_succ _) 0 0 4)
    clear H c1 HX HE HB
    go_wp2
    exact .inr (num_catch.door_ret rfl _ _ _ _ _ _ _ _ rfl rfl HO.out.1 HO.out.2.1 HO.out.2.2)
/-! ### withyref01_Terms: function 65 -/
def withyref01_Terms.l0 : Nat → List Int → Int → Int → Option (List Int × Int)
  | 0, _, _, _ => none
  | k + 1, x5, x6, x7 => if x7 > 0 then ((withyref01_under.f x6 x7).bind fun t983 => (if x5.length < 17592186044416 then (withyref01_Terms.l0 k (x5 ++ [t983]) x7 (wrap64 (x6 - (wrap64 (t983 * x7))))) else (none))) else (some (x5, 0))
def withyref01_Terms.f (k : Nat) (a0_0 : Int) (a0_1 : Int) : Option (List Int × Int) := (withyref01_Check.f k a0_0 a0_1).bind fun t982 => (if t982 = 0 then (withyref01_Terms.l0 k ([] : List Int) a0_0 a0_1) else (some (([] : List Int), t982)))
theorem withyref01_Terms.mono_l : ∀ k, (∀ y0 y1 y2, LeO (withyref01_Terms.l0 k y0 y1 y2) (withyref01_Terms.l0 (k + 1) y0 y1 y2))
  | 0 => fun _ _ _ r h => by simp [withyref01_Terms.l0] at h
  | k + 1 => by
    have ih0 := withyref01_Terms.mono_l k
    · intro y0 y1 y2
      unfold withyref01_Terms.l0
      repeat' first
      | (with_reducible exact ih0 _ _ _)
      | (with_reducible exact withyref01_Check.mono _ _ _)
      | (with_reducible exact LeO.refl _)
      | (with_reducible exact LeO.none _)
      | (with_reducible refine LeO.ite ?_ ?_)
      | (with_reducible refine LeO.bind ?_ (fun _ => ?_))
      | (with_reducible refine LeO.exc (fun _ => ?_) (fun _ => ?_))
      | exact ih0 _ _ _
      | exact withyref01_Check.mono _ _ _
      | exact LeO.none _
      | refine LeO.ite ?_ ?_
      | refine LeO.bind ?_ (fun _ => ?_)
theorem withyref01_Terms.mono : ∀ a0 a1 k, LeO (withyref01_Terms.f k a0 a1) (withyref01_Terms.f (k + 1) a0 a1) := by
  intro a0 a1 k
  have ih0 := withyref01_Terms.mono_l k
  unfold withyref01_Terms.f
  repeat' first
      | (with_reducible exact ih0 _ _ _)
      | (with_reducible exact withyref01_Check.mono _ _ _)
      | (with_reducible exact LeO.refl _)
      | (with_reducible exact LeO.none _)
      | (with_reducible refine LeO.ite ?_ ?_)
      | (with_reducible refine LeO.bind ?_ (fun _ => ?_))
      | (with_reducible refine LeO.exc (fun _ => ?_) (fun _ => ?_))
      | exact ih0 _ _ _
      | exact withyref01_Check.mono _ _ _
      | exact LeO.none _
      | refine LeO.ite ?_ ?_
      | refine LeO.bind ?_ (fun _ => ?_)
set_option maxHeartbeats 8000000 in
set_option maxRecDepth 100000 in
theorem withyref01_Terms.calls (k : Nat) (a0_0 : Int) (a0_1 : Int) (r1 : List Int) (r2 : Int) (w : World) (h : withyref01_Terms.f k a0_0 a0_1 = some (r1, r2)) :
    Calls Try.prog 65 #[.agg #[.int .i64 a0_0, .int .i64 a0_1]] w fun e w' => ∃ v0_ : Value, e = .returned (.tuple #[v0_, .int .i64 r2]) ∧ Kd.R (Kd.int .i64) 3 w' w.heap.size (fun _ => True) v0_ r1 ∧ Below w.heap.size w w' := by
  have hu23 := Try.underlying23
  have HB := Aside0.mk (Below.refl w.heap.size w)
  have H : ((withyref01_Check.f k a0_0 a0_1).bind fun t982 => (if t982 = 0 then (withyref01_Terms.l0 k ([] : List Int) a0_0 a0_1) else (some (([] : List Int), t982)))) = some (r1, r2) := h
  clear h
  replace H := Option.bind_eq_some_iff.mp H
  obtain ⟨t982, A20, H⟩ := H
  replace H : (if t982 = 0 then (withyref01_Terms.l0 k ([] : List Int) a0_0 a0_1) else (some (([] : List Int), t982))) = some (r1, r2) := H
  have A2 := Aside0.mk A20
  clear A20
  by_cases c3 : t982 = 0
  · rw [if_pos c3] at H
    have c3b0 : (t982 == 0) = true := beq_iff_eq.mpr c3
    have c3b1 : (t982 != 0) = false := bne_eq_false_iff_eq.mpr c3
    clear c3
    have H' := Aside0.mk H
    clear H
    go_enter Try.func65, Try.ntmps65
    go_wp2_with (first | ((with_reducible refine gate_dst (N := 1) rfl ?_); refine box_event ?hg (N := 1) ?hd (cs := #[.int .i64 a0_0, .int .i64 a0_1]) (t := 23) ?hr ?_; (case hd => rfl); (case hg => rfl); (case hr => first | (go_simp; done) | (go_simp; rfl)); intro gb981 hg w4 hbox hb; have BK981 := Aside0.mk hbox; have GW981 := bwg_ HB hg; have GE981 := bwg_ HB hg; replace HB := bws_ HB hb; clear hb hbox hg; obtain ⟨hcz5_0, hcz5_1, hfz5_0, hfz5_1⟩ := bc2_ BK981) | (go_at_call 41; (with_reducible refine (withyref01_Check.calls k a0_0 a0_1 t982 _ A2.out).mono ?_); rintro e w6 ⟨rfl, hb⟩; replace BK981 := bkb_ BK981 hb; replace HB := bws_ HB hb; (try clear hb); (try clear hb2); (try clear hk); (try clear hi); obtain ⟨hcz7_0, hcz7_1, hfz7_0, hfz7_1⟩ := bc2_ BK981))
    repeat (go_quiet (first | ((with_reducible refine gate_dst (N := 1) rfl ?_); refine box_event ?hg (N := 1) ?hd (cs := #[.int .i64 a0_0, .int .i64 a0_1]) (t := 23) ?hr ?_; (case hd => rfl); (case hg => rfl); (case hr => first | (go_simp; done) | (go_simp; rfl)); intro gb981 hg w4 hbox hb; have BK981 := Aside0.mk hbox; have GW981 := bwg_ HB hg; have GE981 := bwg_ HB hg; replace HB := bws_ HB hb; clear hb hbox hg; obtain ⟨hcz5_0, hcz5_1, hfz5_0, hfz5_1⟩ := bc2_ BK981) | (go_at_call 41; (with_reducible refine (withyref01_Check.calls k a0_0 a0_1 t982 _ A2.out).mono ?_); rintro e w6 ⟨rfl, hb⟩; replace BK981 := bkb_ BK981 hb; replace HB := bws_ HB hb; (try clear hb); (try clear hb2); (try clear hk); (try clear hi); obtain ⟨hcz7_0, hcz7_1, hfz7_0, hfz7_1⟩ := bc2_ BK981)); try go_wp2_with (first | ((with_reducible refine gate_dst (N := 1) rfl ?_); refine box_event ?hg (N := 1) ?hd (cs := #[.int .i64 a0_0, .int .i64 a0_1]) (t := 23) ?hr ?_; (case hd => rfl); (case hg => rfl); (case hr => first | (go_simp; done) | (go_simp; rfl)); intro gb981 hg w4 hbox hb; have BK981 := Aside0.mk hbox; have GW981 := bwg_ HB hg; have GE981 := bwg_ HB hg; replace HB := bws_ HB hb; clear hb hbox hg; obtain ⟨hcz5_0, hcz5_1, hfz5_0, hfz5_1⟩ := bc2_ BK981) | (go_at_call 41; (with_reducible refine (withyref01_Check.calls k a0_0 a0_1 t982 _ A2.out).mono ?_); rintro e w6 ⟨rfl, hb⟩; replace BK981 := bkb_ BK981 hb; replace HB := bws_ HB hb; (try clear hb); (try clear hb2); (try clear hk); (try clear hi); obtain ⟨hcz7_0, hcz7_1, hfz7_0, hfz7_1⟩ := bc2_ BK981)))
    go_loopg [5, 6, 7] k (fun kq v5 v6 v7 w' => ∃ (x5_1 : List Int) (x6_1 : Int) (x7_1 : Int), v6 = .int .i64 x6_1 ∧ v7 = .int .i64 x7_1 ∧ Aside0 (withyref01_Terms.l0 kq x5_1 x6_1 x7_1 = some (r1, r2)) ∧ Aside0 (kq ≤ k) ∧ Aside0 (Kd.R (Kd.int .i64) 3 w' w.heap.size (fun _ => True) v5 x5_1) ∧ Aside0 (w'.heap[gb981]? = some (.cells #[.int .i64 a0_0, .int .i64 a0_1] 23 (0, 0))) ∧ Aside0 (Below w.heap.size w w'))
    case atStart => exact ⟨(([] : List Int)), (a0_0), (a0_1), (by first | rfl | (simp; done) | (simp [*]; done)), (by first | rfl | (simp; done) | (simp [*]; done)), H', ⟨Nat.le_refl _⟩, ⟨by first | exact Kd.R_nil _ _ _ _ _ | exact Kd.N_nil _ _ _ _ _ | exact Kd.V_nil _ _ _ _ _ | exact Kd.Q_nil _ _ _ _ _ | exact Kd.S_nil _ _ _ _ _⟩, ⟨by exact bk_ BK981⟩, ⟨bw_ HB⟩⟩
    case round =>
      clear H'
      try clear p2
      try clear c3
      try clear c3b0
      try clear c3b1
      try clear c6
      try clear hcz5_0
      try clear hcz5_1
      try clear hcz7_0
      try clear hcz7_1
      try clear hfz5_0
      try clear hfz5_1
      try clear hfz7_0
      try clear hfz7_1
      obtain ⟨x5_1, x6_1, x7_1, rfl, rfl, HA, HK1, HO_5, BK981, HB⟩ := hrel
      cases gk with
      | zero => exact absurd HA.out (by simp [withyref01_Terms.l0])
      | succ k1 =>
        have H := HA.out
        clear HA
        simp only [withyref01_Terms.l0] at H
        by_cases c8 : x7_1 > 0
        · rw [if_pos c8] at H
          have c8b0 : decide (0 < x7_1) = true := decide_eq_true c8
          clear c8
          replace H := Option.bind_eq_some_iff.mp H
          obtain ⟨t983, A90, H⟩ := H
          replace H : (if x5_1.length < 17592186044416 then (withyref01_Terms.l0 k1 (x5_1 ++ [t983]) x7_1 (wrap64 (x6_1 - (wrap64 (t983 * x7_1))))) else (none)) = some (r1, r2) := H
          have A9 := Aside0.mk A90
          clear A90
          by_cases c10 : x5_1.length < 17592186044416
          · rw [if_pos c10] at H
            have LMc10 := Aside0.mk c10
            clear c10
            obtain ⟨y984, hy984⟩ : ∃ y_ : List Int, y_ = (x5_1 ++ [t983]) := ⟨_, rfl⟩
            replace H : (withyref01_Terms.l0 k1 y984 x7_1 (wrap64 (x6_1 - (wrap64 (t983 * x7_1))))) = some (r1, r2) := by first | (rw [hy984]; with_reducible exact H) | (have H2_ := (Option.bind_some _ _).symm.trans H; rw [hy984]; with_reducible exact H2_) | (have H2_ := (Option.bind_some _ _).symm.trans H; with_reducible exact H2_) | with_reducible exact H | (rw [hy984]; exact H) | exact H
            have Ny984 := Aside0.mk hy984
            clear hy984
            have H' := Aside0.mk H
            clear H
            go_wp2_with (first | (go_at_call 76; (with_reducible refine (withyref01_under.calls x6_1 x7_1 t983 _ A9.out).mono ?_); rintro e w' ⟨rfl, ⟨nd, rfl⟩⟩; (try first | exact ⟨rfl, _, World.drewN_drewN _ _ _⟩ | exact ⟨rfl, _, Eq.trans (World.drewN_drewN _ _ _) (congrArg (World.drewN _) (Nat.add_assoc _ _ _))⟩)) | ((with_reducible refine gate_builtin (b := .append) (xs := #[.tmp 23, .tmp 25]) rfl ?_); at_builtin; refine Kd.R_append (Kd.int .i64) (w0 := w) w.heap.size rfl (.tmp 23) (.tmp 25) 55 3 (.int .i64 0) 8 rfl Try.underlying55 info3 rfl (by decide) (by omega) u5 x5_1 t983 [.int .i64 t983] (fun _ => True) (fun _ => False) rfl rfl ?aP (fun _ hk => hk.elim) ?aF ?aO ?aB ?aS ?aL ?_; (case aP => exact rfl); (case aB => exact (bw_ HB)); (case aF => exact (fun _ _ => trivial)); (case aO => exact (by (with_reducible repeat (first | apply Kd.R_alloc | apply Kd.R_drewN | apply Kd.R_drew)); exact HO_5.out)); (case aS => exact (below_size (bw_ HB))); (case aL => have := LMc10.out; omega); intro v985 w11 ho hb hg hat; rw [← Ny984.out] at ho; replace BK981 := Aside0.mk (blk_grown (bk_ BK981) hg (Kd.R_ne HO_5.out BK981.out (by decide))); replace HB := Aside0.mk hb; have HO986 := Aside0.mk ho; clear HO_5; clear ho hb hg hat))
            repeat (go_quiet (first | (go_at_call 76; (with_reducible refine (withyref01_under.calls x6_1 x7_1 t983 _ A9.out).mono ?_); rintro e w' ⟨rfl, ⟨nd, rfl⟩⟩; (try first | exact ⟨rfl, _, World.drewN_drewN _ _ _⟩ | exact ⟨rfl, _, Eq.trans (World.drewN_drewN _ _ _) (congrArg (World.drewN _) (Nat.add_assoc _ _ _))⟩)) | ((with_reducible refine gate_builtin (b := .append) (xs := #[.tmp 23, .tmp 25]) rfl ?_); at_builtin; refine Kd.R_append (Kd.int .i64) (w0 := w) w.heap.size rfl (.tmp 23) (.tmp 25) 55 3 (.int .i64 0) 8 rfl Try.underlying55 info3 rfl (by decide) (by omega) u5 x5_1 t983 [.int .i64 t983] (fun _ => True) (fun _ => False) rfl rfl ?aP (fun _ hk => hk.elim) ?aF ?aO ?aB ?aS ?aL ?_; (case aP => exact rfl); (case aB => exact (bw_ HB)); (case aF => exact (fun _ _ => trivial)); (case aO => exact (by (with_reducible repeat (first | apply Kd.R_alloc | apply Kd.R_drewN | apply Kd.R_drew)); exact HO_5.out)); (case aS => exact (below_size (bw_ HB))); (case aL => have := LMc10.out; omega); intro v985 w11 ho hb hg hat; rw [← Ny984.out] at ho; replace BK981 := Aside0.mk (blk_grown (bk_ BK981) hg (Kd.R_ne HO_5.out BK981.out (by decide))); replace HB := Aside0.mk hb; have HO986 := Aside0.mk ho; clear HO_5; clear ho hb hg hat)); try go_wp2_with (first | (go_at_call 76; (with_reducible refine (withyref01_under.calls x6_1 x7_1 t983 _ A9.out).mono ?_); rintro e w' ⟨rfl, ⟨nd, rfl⟩⟩; (try first | exact ⟨rfl, _, World.drewN_drewN _ _ _⟩ | exact ⟨rfl, _, Eq.trans (World.drewN_drewN _ _ _) (congrArg (World.drewN _) (Nat.add_assoc _ _ _))⟩)) | ((with_reducible refine gate_builtin (b := .append) (xs := #[.tmp 23, .tmp 25]) rfl ?_); at_builtin; refine Kd.R_append (Kd.int .i64) (w0 := w) w.heap.size rfl (.tmp 23) (.tmp 25) 55 3 (.int .i64 0) 8 rfl Try.underlying55 info3 rfl (by decide) (by omega) u5 x5_1 t983 [.int .i64 t983] (fun _ => True) (fun _ => False) rfl rfl ?aP (fun _ hk => hk.elim) ?aF ?aO ?aB ?aS ?aL ?_; (case aP => exact rfl); (case aB => exact (bw_ HB)); (case aF => exact (fun _ _ => trivial)); (case aO => exact (by (with_reducible repeat (first | apply Kd.R_alloc | apply Kd.R_drewN | apply Kd.R_drew)); exact HO_5.out)); (case aS => exact (below_size (bw_ HB))); (case aL => have := LMc10.out; omega); intro v985 w11 ho hb hg hat; rw [← Ny984.out] at ho; replace BK981 := Aside0.mk (blk_grown (bk_ BK981) hg (Kd.R_ne HO_5.out BK981.out (by decide))); replace HB := Aside0.mk hb; have HO986 := Aside0.mk ho; clear HO_5; clear ho hb hg hat)))
            go_roundg k1
            case measure => have := HK1.out; omega
            case rel => exact ⟨(y984), (x7_1), (wrap64 (x6_1 - (wrap64 (t983 * x7_1)))), (by first | rfl | (simp; done) | (simp [*]; done)), (by first | rfl | (simp; done) | (simp [*]; done)), H', ⟨by have := HK1.out; omega⟩, ⟨by (with_reducible repeat (first | apply Kd.R_alloc | apply Kd.R_drewN | apply Kd.R_drew)); exact HO986.out⟩, ⟨by exact bk_ BK981⟩, ⟨bw_ HB⟩⟩
          · rw [if_neg c10] at H
            exact absurd H (by simp)
        · rw [if_neg c8] at H
          have c8b0 : decide (0 < x7_1) = false := decide_eq_false c8
          clear c8
          simp only [Option.some.injEq, Prod.mk.injEq] at H
          obtain ⟨rfl, rfl⟩ := H
          go_wp2
          repeat (go_quiet (fail); try go_wp2)
          go_ret2
          exact ⟨_, by first | rfl | (simp [errW_none, errW_some] <;> rfl) | (simp [*, errW_none, errW_some] <;> rfl), by (with_reducible repeat (first | apply Kd.R_alloc | apply Kd.R_drewN | apply Kd.R_drew)); exact HO_5.out, bw_ HB⟩
  · rw [if_neg c3] at H
    have c3b0 : (t982 == 0) = false := beq_eq_false_iff_ne.mpr c3
    have c3b1 : (t982 != 0) = true := bne_iff_ne.mpr c3
    simp only [Option.some.injEq, Prod.mk.injEq] at H
    obtain ⟨rfl, rfl⟩ := H
    go_enter Try.func65, Try.ntmps65
    go_wp2_with (first | ((with_reducible refine gate_dst (N := 1) rfl ?_); refine box_event ?hg (N := 1) ?hd (cs := #[.int .i64 a0_0, .int .i64 a0_1]) (t := 23) ?hr ?_; (case hd => rfl); (case hg => rfl); (case hr => first | (go_simp; done) | (go_simp; rfl)); intro gb981 hg w12 hbox hb; have BK981 := Aside0.mk hbox; have GW981 := bwg_ HB hg; have GE981 := bwg_ HB hg; replace HB := bws_ HB hb; clear hb hbox hg; obtain ⟨hcz13_0, hcz13_1, hfz13_0, hfz13_1⟩ := bc2_ BK981) | (go_at_call 41; (with_reducible refine (withyref01_Check.calls k a0_0 a0_1 t982 _ A2.out).mono ?_); rintro e w14 ⟨rfl, hb⟩; replace BK981 := bkb_ BK981 hb; replace HB := bws_ HB hb; (try clear hb); (try clear hb2); (try clear hk); (try clear hi)))
    repeat (go_quiet (first | ((with_reducible refine gate_dst (N := 1) rfl ?_); refine box_event ?hg (N := 1) ?hd (cs := #[.int .i64 a0_0, .int .i64 a0_1]) (t := 23) ?hr ?_; (case hd => rfl); (case hg => rfl); (case hr => first | (go_simp; done) | (go_simp; rfl)); intro gb981 hg w12 hbox hb; have BK981 := Aside0.mk hbox; have GW981 := bwg_ HB hg; have GE981 := bwg_ HB hg; replace HB := bws_ HB hb; clear hb hbox hg; obtain ⟨hcz13_0, hcz13_1, hfz13_0, hfz13_1⟩ := bc2_ BK981) | (go_at_call 41; (with_reducible refine (withyref01_Check.calls k a0_0 a0_1 t982 _ A2.out).mono ?_); rintro e w14 ⟨rfl, hb⟩; replace BK981 := bkb_ BK981 hb; replace HB := bws_ HB hb; (try clear hb); (try clear hb2); (try clear hk); (try clear hi))); try go_wp2_with (first | ((with_reducible refine gate_dst (N := 1) rfl ?_); refine box_event ?hg (N := 1) ?hd (cs := #[.int .i64 a0_0, .int .i64 a0_1]) (t := 23) ?hr ?_; (case hd => rfl); (case hg => rfl); (case hr => first | (go_simp; done) | (go_simp; rfl)); intro gb981 hg w12 hbox hb; have BK981 := Aside0.mk hbox; have GW981 := bwg_ HB hg; have GE981 := bwg_ HB hg; replace HB := bws_ HB hb; clear hb hbox hg; obtain ⟨hcz13_0, hcz13_1, hfz13_0, hfz13_1⟩ := bc2_ BK981) | (go_at_call 41; (with_reducible refine (withyref01_Check.calls k a0_0 a0_1 t982 _ A2.out).mono ?_); rintro e w14 ⟨rfl, hb⟩; replace BK981 := bkb_ BK981 hb; replace HB := bws_ HB hb; (try clear hb); (try clear hb2); (try clear hk); (try clear hi))))
    go_ret2
    exact ⟨_, by first | rfl | (simp [errW_none, errW_some] <;> rfl) | (simp [*, errW_none, errW_some] <;> rfl), by first | exact Kd.R_nil _ _ _ _ _ | exact Kd.N_nil _ _ _ _ _ | exact Kd.V_nil _ _ _ _ _ | exact Kd.Q_nil _ _ _ _ _ | exact Kd.S_nil _ _ _ _ _, bw_ HB⟩
end Go.Proofs.Ytakcdoahpbeckaa.H
