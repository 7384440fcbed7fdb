/- NumNears: the printed functions it reaches, with their walks. Laid by wip/claimpack.py out of what wip/hprint.py printed. -/
import Derived.Test.YtakcdoahpbeckaaKNumNears1
namespace Go.Proofs.Ytakcdoahpbeckaa.H
open Go.RowKit Go.Proofs.YtakcdoahpbeckaaW.PrintWords Go.Proofs.YtakcdoahpbeckaaW.PrintLast Go.Proofs.YtakcdoahpbeckaaW.PrintMore
attribute [local go_sem] max2_int min2_int max_two min_two max_three min_three max_four min_four   -- for this text's walks alone
set_option linter.unusedVariables false
set_option linter.unusedSimpArgs false

/-! ### num_ratio_nearest: function 78 -/
def num_ratio_nearest.f (a0_0 : Int) (a0_1 : Int) : Option (Int) := (num_ratio_floor.f a0_0 a0_1).bind fun t197 => (if (wrap64 (a0_0 - (wrap64 (t197 * a0_1)))) > (wrap64 (a0_1 - (wrap64 (a0_0 - (wrap64 (t197 * a0_1)))))) then (some (wrap64 (t197 + 1))) else (if (wrap64 (a0_0 - (wrap64 (t197 * a0_1)))) = (wrap64 (a0_1 - (wrap64 (a0_0 - (wrap64 (t197 * a0_1)))))) then (if (Int.tmod t197 2) = 0 then (some t197) else (some (wrap64 (t197 + 1)))) else (some t197)))
set_option maxHeartbeats 8000000 in
set_option maxRecDepth 100000 in
theorem num_ratio_nearest.calls (a0_0 : Int) (a0_1 : Int) (r : Int) (w : World) (h : num_ratio_nearest.f a0_0 a0_1 = some r) :
    Calls Try.prog 78 #[.agg #[.int .i64 a0_0, .int .i64 a0_1]] w fun e w' => e = .returned (.int .i64 r) ∧ Below w.heap.size w w' := by
 have hu65 := Try.underlying65
 have HB := Aside0.mk (Below.refl w.heap.size w)
 have H : ((num_ratio_floor.f a0_0 a0_1).bind fun t197 => (if (wrap64 (a0_0 - (wrap64 (t197 * a0_1)))) > (wrap64 (a0_1 - (wrap64 (a0_0 - (wrap64 (t197 * a0_1)))))) then (some (wrap64 (t197 + 1))) else (if (wrap64 (a0_0 - (wrap64 (t197 * a0_1)))) = (wrap64 (a0_1 - (wrap64 (a0_0 - (wrap64 (t197 * a0_1)))))) then (if (Int.tmod t197 2) = 0 then (some t197) else (some (wrap64 (t197 + 1)))) else (some t197)))) = some r := h
 clear h
 replace H := Option.bind_eq_some_iff.mp H
 obtain ⟨t197, A20, H⟩ := H
 replace H : (if (wrap64 (a0_0 - (wrap64 (t197 * a0_1)))) > (wrap64 (a0_1 - (wrap64 (a0_0 - (wrap64 (t197 * a0_1)))))) then (some (wrap64 (t197 + 1))) else (if (wrap64 (a0_0 - (wrap64 (t197 * a0_1)))) = (wrap64 (a0_1 - (wrap64 (a0_0 - (wrap64 (t197 * a0_1)))))) then (if (Int.tmod t197 2) = 0 then (some t197) else (some (wrap64 (t197 + 1)))) else (some t197))) = some r := H
 have A2 := Aside0.mk A20
 clear A20
 by_cases c3 : (wrap64 (a0_0 - (wrap64 (t197 * a0_1)))) > (wrap64 (a0_1 - (wrap64 (a0_0 - (wrap64 (t197 * a0_1))))))
 · rw [if_pos c3] at H
   have c3b0 : decide ((wrap64 (a0_1 - (wrap64 (a0_0 - (wrap64 (t197 * a0_1)))))) < (wrap64 (a0_0 - (wrap64 (t197 * a0_1))))) = true := decide_eq_true c3
   clear c3
   obtain rfl := Option.some.inj H
   go_enter Try.func78, Try.ntmps78
   go_wp2_with (first | ((with_reducible refine gate_dst (N := 1) rfl ?_); refine box_event ?hg (N := 1) ?hd (cs := #[.int .i64 a0_0, .int .i64 a0_1]) (t := 65) ?hr ?_; (case hd => rfl); (case hg => rfl); (case hr => first | (go_simp; done) | (go_simp; rfl)); intro gb196 hg w4 hbox hb; have BK196 := Aside0.mk hbox; have GW196 := bwg_ HB hg; have GE196 := bwg_ HB hg; replace HB := bws_ HB hb; clear hb hbox hg; obtain ⟨hcz5_0, hcz5_1, hfz5_0, hfz5_1⟩ := bc2_ BK196) | ((with_reducible refine gate_callee (f := 75) rfl ?_); refine gla_ (some 7) Try.func75 #[.agg #[.int .i64 a0_0, .int .i64 a0_1]] ?_; (with_reducible refine (num_ratio_floor.calls a0_0 a0_1 t197 _ A2.out).mono ?_); rintro e w6 ⟨rfl, hb⟩; refine ⟨_, rfl, ?_⟩; replace BK196 := bkb_ BK196 hb; replace HB := bws_ HB hb; (try clear hb); (try clear hb2); (try clear hk); (try clear hi); obtain ⟨hcz7_0, hcz7_1, hfz7_0, hfz7_1⟩ := bc2_ BK196))
   go_ret
   exact ⟨by first | rfl | (simp [*] <;> rfl), bw_ HB⟩
 · rw [if_neg c3] at H
   have c3b0 : decide ((wrap64 (a0_1 - (wrap64 (a0_0 - (wrap64 (t197 * a0_1)))))) < (wrap64 (a0_0 - (wrap64 (t197 * a0_1))))) = false := decide_eq_false c3
   clear c3
   by_cases c8 : (wrap64 (a0_0 - (wrap64 (t197 * a0_1)))) = (wrap64 (a0_1 - (wrap64 (a0_0 - (wrap64 (t197 * a0_1))))))
   · rw [if_pos c8] at H
     have c8b0 : ((wrap64 (a0_0 - (wrap64 (t197 * a0_1)))) == (wrap64 (a0_1 - (wrap64 (a0_0 - (wrap64 (t197 * a0_1))))))) = true := beq_iff_eq.mpr c8
     have c8b1 : ((wrap64 (a0_0 - (wrap64 (t197 * a0_1)))) != (wrap64 (a0_1 - (wrap64 (a0_0 - (wrap64 (t197 * a0_1))))))) = false := bne_eq_false_iff_eq.mpr c8
     clear c8
     by_cases c9 : (Int.tmod t197 2) = 0
     · rw [if_pos c9] at H
       have c9b0 : ((Int.tmod t197 2) == 0) = true := beq_iff_eq.mpr c9
       have c9b1 : ((Int.tmod t197 2) != 0) = false := bne_eq_false_iff_eq.mpr c9
       clear c9
       obtain rfl := Option.some.inj H
       go_enter Try.func78, Try.ntmps78
       go_wp2_with (first | ((with_reducible refine gate_dst (N := 1) rfl ?_); refine box_event ?hg (N := 1) ?hd (cs := #[.int .i64 a0_0, .int .i64 a0_1]) (t := 65) ?hr ?_; (case hd => rfl); (case hg => rfl); (case hr => first | (go_simp; done) | (go_simp; rfl)); intro gb196 hg w10 hbox hb; have BK196 := Aside0.mk hbox; have GW196 := bwg_ HB hg; have GE196 := bwg_ HB hg; replace HB := bws_ HB hb; clear hb hbox hg; obtain ⟨hcz11_0, hcz11_1, hfz11_0, hfz11_1⟩ := bc2_ BK196) | ((with_reducible refine gate_callee (f := 75) rfl ?_); refine gla_ (some 7) Try.func75 #[.agg #[.int .i64 a0_0, .int .i64 a0_1]] ?_; (with_reducible refine (num_ratio_floor.calls a0_0 a0_1 t197 _ A2.out).mono ?_); rintro e w12 ⟨rfl, hb⟩; refine ⟨_, rfl, ?_⟩; replace BK196 := bkb_ BK196 hb; replace HB := bws_ HB hb; (try clear hb); (try clear hb2); (try clear hk); (try clear hi); obtain ⟨hcz13_0, hcz13_1, hfz13_0, hfz13_1⟩ := bc2_ BK196))
       go_ret
       exact ⟨by first | rfl | (simp [*] <;> rfl), bw_ HB⟩
     · rw [if_neg c9] at H
       have c9b0 : ((Int.tmod t197 2) == 0) = false := beq_eq_false_iff_ne.mpr c9
       have c9b1 : ((Int.tmod t197 2) != 0) = true := bne_iff_ne.mpr c9
       obtain rfl := Option.some.inj H
       go_enter Try.func78, Try.ntmps78
       go_wp2_with (first | ((with_reducible refine gate_dst (N := 1) rfl ?_); refine box_event ?hg (N := 1) ?hd (cs := #[.int .i64 a0_0, .int .i64 a0_1]) (t := 65) ?hr ?_; (case hd => rfl); (case hg => rfl); (case hr => first | (go_simp; done) | (go_simp; rfl)); intro gb196 hg w14 hbox hb; have BK196 := Aside0.mk hbox; have GW196 := bwg_ HB hg; have GE196 := bwg_ HB hg; replace HB := bws_ HB hb; clear hb hbox hg; obtain ⟨hcz15_0, hcz15_1, hfz15_0, hfz15_1⟩ := bc2_ BK196) | ((with_reducible refine gate_callee (f := 75) rfl ?_); refine gla_ (some 7) Try.func75 #[.agg #[.int .i64 a0_0, .int .i64 a0_1]] ?_; (with_reducible refine (num_ratio_floor.calls a0_0 a0_1 t197 _ A2.out).mono ?_); rintro e w16 ⟨rfl, hb⟩; refine ⟨_, rfl, ?_⟩; replace BK196 := bkb_ BK196 hb; replace HB := bws_ HB hb; (try clear hb); (try clear hb2); (try clear hk); (try clear hi); obtain ⟨hcz17_0, hcz17_1, hfz17_0, hfz17_1⟩ := bc2_ BK196))
       go_ret
       exact ⟨by first | rfl | (simp [*] <;> rfl), bw_ HB⟩
   · rw [if_neg c8] at H
     have c8b0 : ((wrap64 (a0_0 - (wrap64 (t197 * a0_1)))) == (wrap64 (a0_1 - (wrap64 (a0_0 - (wrap64 (t197 * a0_1))))))) = false := beq_eq_false_iff_ne.mpr c8
     have c8b1 : ((wrap64 (a0_0 - (wrap64 (t197 * a0_1)))) != (wrap64 (a0_1 - (wrap64 (a0_0 - (wrap64 (t197 * a0_1))))))) = true := bne_iff_ne.mpr c8
     obtain rfl := Option.some.inj H
     go_enter Try.func78, Try.ntmps78
     go_wp2_with (first | ((with_reducible refine gate_dst (N := 1) rfl ?_); refine box_event ?hg (N := 1) ?hd (cs := #[.int .i64 a0_0, .int .i64 a0_1]) (t := 65) ?hr ?_; (case hd => rfl); (case hg => rfl); (case hr => first | (go_simp; done) | (go_simp; rfl)); intro gb196 hg w18 hbox hb; have BK196 := Aside0.mk hbox; have GW196 := bwg_ HB hg; have GE196 := bwg_ HB hg; replace HB := bws_ HB hb; clear hb hbox hg; obtain ⟨hcz19_0, hcz19_1, hfz19_0, hfz19_1⟩ := bc2_ BK196) | ((with_reducible refine gate_callee (f := 75) rfl ?_); refine gla_ (some 7) Try.func75 #[.agg #[.int .i64 a0_0, .int .i64 a0_1]] ?_; (with_reducible refine (num_ratio_floor.calls a0_0 a0_1 t197 _ A2.out).mono ?_); rintro e w20 ⟨rfl, hb⟩; refine ⟨_, rfl, ?_⟩; replace BK196 := bkb_ BK196 hb; replace HB := bws_ HB hb; (try clear hb); (try clear hb2); (try clear hk); (try clear hi); obtain ⟨hcz21_0, hcz21_1, hfz21_0, hfz21_1⟩ := bc2_ BK196))
     go_ret
     exact ⟨by first | rfl | (simp [*] <;> rfl), bw_ HB⟩
/-! ### num_power: function 81 -/
def num_power.l0 : Nat → Int → Int → Int → Option (Int)
  | 0, _, _, _ => none
  | k + 1, x3, x4, x5 => if x5 < x4 then (num_power.l0 k (wrap64 (x3 * 10)) x4 (wrap64 (x5 + 1))) else (some x3)
def num_power.f (k : Nat) (a0 : Int) : Option (Int) := num_power.l0 k 1 a0 0
theorem num_power.mono_l : ∀ k, (∀ y0 y1 y2, LeO (num_power.l0 k y0 y1 y2) (num_power.l0 (k + 1) y0 y1 y2))
  | 0 => fun _ _ _ r h => by simp [num_power.l0] at h
  | k + 1 => by
    have ih0 := num_power.mono_l k
    · intro y0 y1 y2
      unfold num_power.l0
      repeat' first
      | (with_reducible exact ih0 _ _ _)
      | (with_reducible exact LeO.refl _)
      | (with_reducible exact LeO.none _)
      | (with_reducible refine LeO.ite ?_ ?_)
      | (with_reducible refine LeO.bind ?_ (fun _ => ?_))
      | (with_reducible refine LeO.exc (fun _ => ?_) (fun _ => ?_))
      | exact ih0 _ _ _
      | exact LeO.none _
      | refine LeO.ite ?_ ?_
      | refine LeO.bind ?_ (fun _ => ?_)
theorem num_power.mono : ∀ a0 k, LeO (num_power.f k a0) (num_power.f (k + 1) a0) := by
  intro a0 k
  have ih0 := num_power.mono_l k
  unfold num_power.f
  repeat' first
      | (with_reducible exact ih0 _ _ _)
      | (with_reducible exact LeO.refl _)
      | (with_reducible exact LeO.none _)
      | (with_reducible refine LeO.ite ?_ ?_)
      | (with_reducible refine LeO.bind ?_ (fun _ => ?_))
      | (with_reducible refine LeO.exc (fun _ => ?_) (fun _ => ?_))
      | exact ih0 _ _ _
      | exact LeO.none _
      | refine LeO.ite ?_ ?_
      | refine LeO.bind ?_ (fun _ => ?_)
set_option maxHeartbeats 8000000 in
set_option maxRecDepth 100000 in
theorem num_power.calls (k : Nat) (a0 : Int) (r : Int) (w : World) (h : num_power.f k a0 = some r) :
    Calls Try.prog 81 #[.int .i64 a0] w fun e w' => e = .returned (.int .i64 r) ∧ Drawn0 w w' := by
  have H : (num_power.l0 k 1 a0 0) = some r := h
  clear h
  have H' := Aside0.mk H
  clear H
  go_enter Try.func81, Try.ntmps81
  go_wp2
  go_loopg [3, 5] k (fun kq v3 v5 w' => ∃ (x3_1 : Int) (x5_1 : Int), v3 = .int .i64 x3_1 ∧ v5 = .int .i64 x5_1 ∧ Aside0 (num_power.l0 kq x3_1 a0 x5_1 = some r) ∧ Aside0 (kq ≤ k) ∧ Drawn0 w w')
  case atStart => exact ⟨(1), (0), (by first | rfl | (simp; done) | (simp [*]; done)), (by first | rfl | (simp; done) | (simp [*]; done)), H', ⟨Nat.le_refl _⟩, by repeat (first | exact Drawn0.refl _ | apply Drawn0.step)⟩
  case round =>
    clear H'
    obtain ⟨x3_1, x5_1, rfl, rfl, HA, HK1, ⟨m1, rfl⟩⟩ := hrel
    cases gk with
    | zero => exact absurd HA.out (by simp [num_power.l0])
    | succ k1 =>
      have H := HA.out
      clear HA
      simp only [num_power.l0] at H
      by_cases c2 : x5_1 < a0
      · rw [if_pos c2] at H
        have c2b0 : decide (x5_1 < a0) = true := decide_eq_true c2
        clear c2
        have H' := Aside0.mk H
        clear H
        go_wp2
        go_roundg k1
        case measure => have := HK1.out; omega
        case rel => exact ⟨(wrap64 (x3_1 * 10)), (wrap64 (x5_1 + 1)), (by first | rfl | (simp; done) | (simp [*]; done)), (by first | rfl | (simp; done) | (simp [*]; done)), H', ⟨by have := HK1.out; omega⟩, by repeat (first | exact Drawn0.refl _ | apply Drawn0.step)⟩
      · rw [if_neg c2] at H
        have c2b0 : decide (x5_1 < a0) = false := decide_eq_false c2
        clear c2
        obtain rfl := Option.some.inj H
        go_wp2
        go_ret
        exact ⟨by first | rfl | (simp; done) | (simp [*]; done), by repeat (first | exact Drawn0.refl _ | apply Drawn0.step)⟩
/-! ### num_sign: function 82 -/
def num_sign.f (a0 : Int) : Option (ByteArray × Int) := if a0 < 0 then (some ((⟨#[45]⟩ : ByteArray), wrap64 (-a0))) else (some ((⟨#[]⟩ : ByteArray), a0))
set_option maxHeartbeats 8000000 in
set_option maxRecDepth 100000 in
theorem num_sign.calls (a0 : Int) (r1 : ByteArray) (r2 : Int) (w : World) (h : num_sign.f a0 = some (r1, r2)) :
    Calls Try.prog 82 #[.int .i64 a0] w fun e w' => e = .returned (.tuple #[.string r1, .int .i64 r2]) ∧ Drawn0 w w' := by
  have H : (if a0 < 0 then (some ((⟨#[45]⟩ : ByteArray), wrap64 (-a0))) else (some ((⟨#[]⟩ : ByteArray), a0))) = some (r1, r2) := h
  clear h
  by_cases c2 : a0 < 0
  · rw [if_pos c2] at H
    have c2b0 : decide (a0 < 0) = true := decide_eq_true c2
    clear c2
    simp only [Option.some.injEq, Prod.mk.injEq] at H
    obtain ⟨rfl, rfl⟩ := H
    go_enter Try.func82, Try.ntmps82
    go_wp2
    go_ret2
    exact ⟨by first | rfl | (simp; done) | (simp [*]; done), by repeat (first | exact Drawn0.refl _ | apply Drawn0.step)⟩
  · rw [if_neg c2] at H
    have c2b0 : decide (a0 < 0) = false := decide_eq_false c2
    clear c2
    simp only [Option.some.injEq, Prod.mk.injEq] at H
    obtain ⟨rfl, rfl⟩ := H
    go_enter Try.func82, Try.ntmps82
    go_wp2
    go_ret2
    exact ⟨by first | rfl | (simp; done) | (simp [*]; done), by repeat (first | exact Drawn0.refl _ | apply Drawn0.step)⟩
/-! ### num_told: function 83, by hand -/
/-- the digits of a number, written from behind: how many places are free, what is left, what is written -/
def num_told.go (least : Int) : Nat → Int → List Int → Option (List Int)
  | 0, n, l => if n > 0 ∨ (20 : Int) < least then none else some l
  | i + 1, n, l => if n > 0 ∨ (20 - ((i + 1 : Nat) : Int)) < least then num_told.go least i (n / 10) ((48 + n % 10) :: l) else some l
def num_told.f (a0 : Int) (a1 : Int) : Option ByteArray := if 0 ≤ a0 ∧ a0 ≤ 9223372036854775807 ∧ a1 ≤ 20 then (num_told.go a1 20 a0 []).map strOfNums else none
set_option maxHeartbeats 4000000 in
set_option maxRecDepth 100000 in
theorem num_told.calls (a0 : Int) (a1 : Int) (r : ByteArray) (w : World) (h : num_told.f a0 a1 = some r) :
    Calls Try.prog 83 #[.int .i64 a0, .int .i64 a1] w fun e w' => e = .returned (.string r) ∧ Below w.heap.size w w' := by
  unfold num_told.f at h
  by_cases c : 0 ≤ a0 ∧ a0 ≤ 9223372036854775807 ∧ a1 ≤ 20
  case neg => rw [if_neg c] at h; exact absurd h (by simp)
  rw [if_pos c] at h
  obtain ⟨c0, c1, c2⟩ := c
  obtain ⟨lr, hl, rfl⟩ := Option.map_eq_some_iff.mp h
  clear h
  have HH := Aside0.mk hl
  clear hl
  go_enter Try.func83, Try.ntmps83
  go_wp2
  go_loopg [0, 6] 20 (fun kq v0 v6 w' => ∃ (i : Nat) (n : Int) (l : List Int) (C : Array Value), v0 = .int .i64 n ∧ v6 = .int .i64 i ∧ i ≤ 20 ∧ 0 ≤ n ∧ n ≤ 9223372036854775807 ∧ Aside0 (kq = i) ∧ Aside0 (num_told.go a1 i n l = some lr) ∧ Aside0 (w'.heap[w.heap.size]? = some (.cells C 115 (0, 0))) ∧ Aside0 (C.size = 20 ∧ C.toList.drop i = l.map (Value.int .u8)) ∧ Aside0 (Below w.heap.size w w'))
  case atStart => exact ⟨20, a0, [], _, rfl, rfl, by omega, c0, c1, ⟨rfl⟩, HH, ⟨blk_new _ _⟩, ⟨by simp⟩, ⟨below_alloc (Below.refl _ _) _⟩⟩
  case round =>
    clear HH
    obtain ⟨i, n, l, C, rfl, rfl, hi, hn0, hn1, HK, HH, HC, HD, HB⟩ := hrel
    have hw : (n > 0 ∨ (20 : Int) - (i : Int) < a1) ∨ (¬ n > 0 ∧ ¬ (20 : Int) - (i : Int) < a1) := by omega
    rcases hw with hw | ⟨hw1, hw2⟩
    · -- a digit is written
      cases i with
      | zero =>
        have hh := HH.out
        simp only [num_told.go] at hh
        rw [if_pos (by simpa using hw)] at hh
        exact absurd hh (by simp)
      | succ j =>
        have hh := HH.out
        simp only [num_told.go] at hh
        rw [if_pos hw] at hh
        have HH := Aside0.mk hh
        clear hh
        have hj : j < C.size := by have := HD.out.1; omega
        have hx : wr.cell? ⟨w.heap.size, j, none⟩ = some C[j] := (blk_cell HC.out j).trans (Array.getElem?_eq_getElem hj)
        have hf := blk_frozen HC.out j
        have hm0 : 0 ≤ n % 10 := by omega
        have hm1 : n % 10 < 10 := by omega
        have hq0 : 0 ≤ n / 10 := by omega
        have hq1 : n / 10 ≤ 9223372036854775807 := by omega
        have hj0 : (0 : Int) ≤ (j : Int) := by omega
        have hj1 : (j : Int) < 20 := by omega
        have fin : Aside0 ((wr.setCell ⟨w.heap.size, j, none⟩ (.int .u8 (48 + n % 10))).heap[w.heap.size]? = some (.cells (C.setIfInBounds j (.int .u8 (48 + n % 10))) 115 (0, 0))) := ⟨blk_set HC.out j _⟩
        have fin2 : Aside0 ((C.setIfInBounds j (.int .u8 (48 + n % 10))).size = 20 ∧ (C.setIfInBounds j (.int .u8 (48 + n % 10))).toList.drop j = ((48 + n % 10) :: l).map (Value.int .u8)) := by
          refine ⟨by rw [Array.size_setIfInBounds]; exact HD.out.1, ?_⟩
          rw [Array.toList_setIfInBounds, List.drop_set, if_neg (by omega), Nat.sub_self, List.drop_eq_getElem_cons (by rw [Array.length_toList]; omega), List.set_cons_zero, HD.out.2, List.map_cons]
        have fin3 : Aside0 (Below w.heap.size w (wr.setCell ⟨w.heap.size, j, none⟩ (.int .u8 (48 + n % 10)))) := ⟨below_set HB.out (Nat.le_refl _)⟩
        by_cases hn : n > 0
        · have hb : decide (0 < n) = true := decide_eq_true hn
          clear hw
          go_wp2
          go_roundg j
          case measure => have := HK.out; omega
          case rel => exact ⟨j, n / 10, (48 + n % 10) :: l, _, rfl, rfl, by omega, hq0, hq1, ⟨rfl⟩, HH, fin, fin2, fin3⟩
        · have hb : decide (0 < n) = false := decide_eq_false hn
          have hw' : (20 : Int) - ((j : Int) + 1) < a1 := by omega
          have hb2 : decide ((20 : Int) - ((j : Int) + 1) < a1) = true := decide_eq_true hw'
          clear hw hw'
          go_wp2
          go_roundg j
          case measure => have := HK.out; omega
          case rel => exact ⟨j, n / 10, (48 + n % 10) :: l, _, rfl, rfl, by omega, hq0, hq1, ⟨rfl⟩, HH, fin, fin2, fin3⟩
    · -- all are written
      have hh := HH.out
      have hl : num_told.go a1 i n l = some l := by
        cases i with
        | zero => simp only [num_told.go]; rw [if_neg (by omega)]
        | succ j => simp only [num_told.go]; rw [if_neg (by omega)]
      rw [hl] at hh
      obtain rfl := Option.some.inj hh
      clear hh hl HH
      have hb : decide (0 < n) = false := decide_eq_false hw1
      have hb2 : decide ((20 : Int) - (i : Int) < a1) = false := decide_eq_false hw2
      have hn : l.length = 20 - i := by
        have := congrArg List.length HD.out.2
        rw [List.length_drop, Array.length_toList, HD.out.1, List.length_map] at this
        omega
      have hR : Kd.C (Kd.int .u8) wr (some ⟨w.heap.size, i, none⟩) (20 - i) l := by
        refine Kd.C_of_reads (d := 0) ⟨hn, by omega, fun _ => ⟨_, rfl, fun j hj => ?_⟩⟩
        have ea : (⟨w.heap.size, i, none⟩ : Addr).add j = ⟨w.heap.size, i + j, none⟩ := by
          unfold Addr.add
          by_cases hj0 : j = 0 <;> simp [hj0]
        rw [ea, blk_cell HC.out, ← Array.getElem?_toList, ← List.getElem?_drop, HD.out.2, List.getElem?_map, List.getD_eq_getElem?_getD, List.getElem?_eq_getElem (by omega)]
        rfl
      have hcv := fun (c : Nat) => Kd.C_string (P := Try.prog) (w := wr) (src := 116) (dst := 9) (c := c) Try.underlying116 Try.underlying5 Try.underlying9 hR
      have hsl := run_sliceAt_array_l (P := Try.prog) wr 115 ⟨w.heap.size, 0, none⟩ Try.underlying115 .i64 (i : Int) (by omega) (by rw [show Try.prog.arrayLen 115 = 20 by kernel_rfl]; omega)
      have hb3 : i = 20 → decide ((0 : Int) < a1) = false := fun e => decide_eq_false (by omega)
      clear hR hw1 hw2
      by_cases h20 : i = 20
      · subst h20
        have hb4 := hb3 rfl
        clear hb3
        have hcv0 : ∀ (c : Nat), (convert 116 9 (.slice (some ⟨w.heap.size, 0, none⟩) 0 c)).run Try.prog wr = .ok (.string (strOfNums l)) wr := fun c => by
          obtain rfl : l = [] := List.length_eq_zero_iff.mp (by simpa using hn)
          exact Kd.C_string (P := Try.prog) (w := wr) (src := 116) (dst := 9) (c := c) Try.underlying116 Try.underlying5 Try.underlying9 ⟨rfl, by omega, fun h => absurd h (by omega)⟩
        clear hcv hn
        go_wp2
        go_ret
        exact ⟨rfl, HB.out⟩
      · have h20' : (20 = i) = False := by simp; omega
        clear hn hb3
        go_wp2
        go_ret
        exact ⟨rfl, HB.out⟩
/-! ### num_Decimal: function 35 -/
def num_Decimal.f (k : Nat) (a0_0 : Int) (a0_1 : Int) (a1 : Int) : Option (ByteArray × Int) := (num_Check.f k a0_0 a0_1).bind fun t199 => (if t199 = 0 then ((num_within.f 0 9 (([a1] : List Int))).bind fun t203 => (if t203 = true then ((num_power.f k a1).bind fun t204 => ((num_ratio_nearest.f (wrap64 (a0_0 * t204)) a0_1).bind fun t205 => ((num_sign.f t205).bind fun bt206 => (if t204 = 0 then (none) else ((num_told.f (wrap64 (Int.tdiv bt206.2 t204)) 1).bind fun t208 => (if bt206.1.size + t208.size ≤ 9223372036854775807 then (if a1 > 0 then ((num_told.f (Int.tmod bt206.2 t204) a1).bind fun t209 => (if 1 + t209.size ≤ 9223372036854775807 then (if (bt206.1 ++ t208).size + ((⟨#[46]⟩ : ByteArray) ++ t209).size ≤ 9223372036854775807 then (some ((bt206.1 ++ t208) ++ ((⟨#[46]⟩ : ByteArray) ++ t209), 0)) else (none)) else (none))) else (some (bt206.1 ++ t208, 0))) else (none))))))) else (some ((⟨#[]⟩ : ByteArray), 3)))) else (some ((⟨#[]⟩ : ByteArray), t199)))
theorem num_Decimal.mono : ∀ a0 a1 a2 k, LeO (num_Decimal.f k a0 a1 a2) (num_Decimal.f (k + 1) a0 a1 a2) := by
  intro a0 a1 a2 k
  unfold num_Decimal.f
  repeat' first
      | (with_reducible exact num_Check.mono _ _ _)
      | (with_reducible exact num_power.mono _ _)
      | (with_reducible exact LeO.refl _)
      | (with_reducible exact LeO.none _)
      | (with_reducible refine LeO.ite ?_ ?_)
      | (with_reducible refine LeO.bind ?_ (fun _ => ?_))
      | (with_reducible refine LeO.exc (fun _ => ?_) (fun _ => ?_))
      | exact num_Check.mono _ _ _
      | exact num_power.mono _ _
      | exact LeO.none _
      | refine LeO.ite ?_ ?_
      | refine LeO.bind ?_ (fun _ => ?_)
set_option maxHeartbeats 8000000 in
set_option maxRecDepth 100000 in
theorem num_Decimal.calls (k : Nat) (a0_0 : Int) (a0_1 : Int) (a1 : Int) (r1 : ByteArray) (r2 : Int) (w : World) (h : num_Decimal.f k a0_0 a0_1 a1 = some (r1, r2)) :
    Calls Try.prog 35 #[.agg #[.int .i64 a0_0, .int .i64 a0_1], .int .i64 a1] w fun e w' => e = .returned (.tuple #[.string r1, .int .i64 r2]) ∧ Below w.heap.size w w' := by
 have hu23 := Try.underlying23
 have hu65 := Try.underlying65
 have HB := Aside0.mk (Below.refl w.heap.size w)
 have H : ((num_Check.f k a0_0 a0_1).bind fun t199 => (if t199 = 0 then ((num_within.f 0 9 (([a1] : List Int))).bind fun t203 => (if t203 = true then ((num_power.f k a1).bind fun t204 => ((num_ratio_nearest.f (wrap64 (a0_0 * t204)) a0_1).bind fun t205 => ((num_sign.f t205).bind fun bt206 => (if t204 = 0 then (none) else ((num_told.f (wrap64 (Int.tdiv bt206.2 t204)) 1).bind fun t208 => (if bt206.1.size + t208.size ≤ 9223372036854775807 then (if a1 > 0 then ((num_told.f (Int.tmod bt206.2 t204) a1).bind fun t209 => (if 1 + t209.size ≤ 9223372036854775807 then (if (bt206.1 ++ t208).size + ((⟨#[46]⟩ : ByteArray) ++ t209).size ≤ 9223372036854775807 then (some ((bt206.1 ++ t208) ++ ((⟨#[46]⟩ : ByteArray) ++ t209), 0)) else (none)) else (none))) else (some (bt206.1 ++ t208, 0))) else (none))))))) else (some ((⟨#[]⟩ : ByteArray), 3)))) else (some ((⟨#[]⟩ : ByteArray), t199)))) = some (r1, r2) := h
 clear h
 replace H := Option.bind_eq_some_iff.mp H
 obtain ⟨t199, A30, H⟩ := H
 replace H : (if t199 = 0 then ((num_within.f 0 9 (([a1] : List Int))).bind fun t203 => (if t203 = true then ((num_power.f k a1).bind fun t204 => ((num_ratio_nearest.f (wrap64 (a0_0 * t204)) a0_1).bind fun t205 => ((num_sign.f t205).bind fun bt206 => (if t204 = 0 then (none) else ((num_told.f (wrap64 (Int.tdiv bt206.2 t204)) 1).bind fun t208 => (if bt206.1.size + t208.size ≤ 9223372036854775807 then (if a1 > 0 then ((num_told.f (Int.tmod bt206.2 t204) a1).bind fun t209 => (if 1 + t209.size ≤ 9223372036854775807 then (if (bt206.1 ++ t208).size + ((⟨#[46]⟩ : ByteArray) ++ t209).size ≤ 9223372036854775807 then (some ((bt206.1 ++ t208) ++ ((⟨#[46]⟩ : ByteArray) ++ t209), 0)) else (none)) else (none))) else (some (bt206.1 ++ t208, 0))) else (none))))))) else (some ((⟨#[]⟩ : ByteArray), 3)))) else (some ((⟨#[]⟩ : ByteArray), t199))) = some (r1, r2) := H
 have A3 := Aside0.mk A30
 clear A30
 by_cases c4 : t199 = 0
 · rw [if_pos c4] at H
   have c4b0 : (t199 == 0) = true := beq_iff_eq.mpr c4
   have c4b1 : (t199 != 0) = false := bne_eq_false_iff_eq.mpr c4
   clear c4
   obtain ⟨y200, hy200⟩ : ∃ y_ : List Int, y_ = (([a1] : List Int)) := ⟨_, rfl⟩
   replace H : ((num_within.f 0 9 y200).bind fun t203 => (if t203 = true then ((num_power.f k a1).bind fun t204 => ((num_ratio_nearest.f (wrap64 (a0_0 * t204)) a0_1).bind fun t205 => ((num_sign.f t205).bind fun bt206 => (if t204 = 0 then (none) else ((num_told.f (wrap64 (Int.tdiv bt206.2 t204)) 1).bind fun t208 => (if bt206.1.size + t208.size ≤ 9223372036854775807 then (if a1 > 0 then ((num_told.f (Int.tmod bt206.2 t204) a1).bind fun t209 => (if 1 + t209.size ≤ 9223372036854775807 then (if (bt206.1 ++ t208).size + ((⟨#[46]⟩ : ByteArray) ++ t209).size ≤ 9223372036854775807 then (some ((bt206.1 ++ t208) ++ ((⟨#[46]⟩ : ByteArray) ++ t209), 0)) else (none)) else (none))) else (some (bt206.1 ++ t208, 0))) else (none))))))) else (some ((⟨#[]⟩ : ByteArray), 3)))) = some (r1, r2) := by first | (rw [hy200]; with_reducible exact H) | (have H2_ := (Option.bind_some _ _).symm.trans H; rw [hy200]; with_reducible exact H2_) | (have H2_ := (Option.bind_some _ _).symm.trans H; with_reducible exact H2_) | with_reducible exact H | (rw [hy200]; exact H) | exact H
   have Ny200 := Aside0.mk hy200
   clear hy200
   replace H := Option.bind_eq_some_iff.mp H
   obtain ⟨t203, A50, H⟩ := H
   replace H : (if t203 = true then ((num_power.f k a1).bind fun t204 => ((num_ratio_nearest.f (wrap64 (a0_0 * t204)) a0_1).bind fun t205 => ((num_sign.f t205).bind fun bt206 => (if t204 = 0 then (none) else ((num_told.f (wrap64 (Int.tdiv bt206.2 t204)) 1).bind fun t208 => (if bt206.1.size + t208.size ≤ 9223372036854775807 then (if a1 > 0 then ((num_told.f (Int.tmod bt206.2 t204) a1).bind fun t209 => (if 1 + t209.size ≤ 9223372036854775807 then (if (bt206.1 ++ t208).size + ((⟨#[46]⟩ : ByteArray) ++ t209).size ≤ 9223372036854775807 then (some ((bt206.1 ++ t208) ++ ((⟨#[46]⟩ : ByteArray) ++ t209), 0)) else (none)) else (none))) else (some (bt206.1 ++ t208, 0))) else (none))))))) else (some ((⟨#[]⟩ : ByteArray), 3))) = some (r1, r2) := H
   have A5 := Aside0.mk A50
   clear A50
   by_cases c6 : t203 = true
   · subst c6
     have H1 : ((num_power.f k a1).bind fun t204 => ((num_ratio_nearest.f (wrap64 (a0_0 * t204)) a0_1).bind fun t205 => ((num_sign.f t205).bind fun bt206 => (if t204 = 0 then (none) else ((num_told.f (wrap64 (Int.tdiv bt206.2 t204)) 1).bind fun t208 => (if bt206.1.size + t208.size ≤ 9223372036854775807 then (if a1 > 0 then ((num_told.f (Int.tmod bt206.2 t204) a1).bind fun t209 => (if 1 + t209.size ≤ 9223372036854775807 then (if (bt206.1 ++ t208).size + ((⟨#[46]⟩ : ByteArray) ++ t209).size ≤ 9223372036854775807 then (some ((bt206.1 ++ t208) ++ ((⟨#[46]⟩ : ByteArray) ++ t209), 0)) else (none)) else (none))) else (some (bt206.1 ++ t208, 0))) else (none))))))) = some (r1, r2) := by rw [if_pos rfl] at H; exact H
     clear H
     have H := H1
     clear H1
     replace H := Option.bind_eq_some_iff.mp H
     obtain ⟨t204, A70, H⟩ := H
     replace H : ((num_ratio_nearest.f (wrap64 (a0_0 * t204)) a0_1).bind fun t205 => ((num_sign.f t205).bind fun bt206 => (if t204 = 0 then (none) else ((num_told.f (wrap64 (Int.tdiv bt206.2 t204)) 1).bind fun t208 => (if bt206.1.size + t208.size ≤ 9223372036854775807 then (if a1 > 0 then ((num_told.f (Int.tmod bt206.2 t204) a1).bind fun t209 => (if 1 + t209.size ≤ 9223372036854775807 then (if (bt206.1 ++ t208).size + ((⟨#[46]⟩ : ByteArray) ++ t209).size ≤ 9223372036854775807 then (some ((bt206.1 ++ t208) ++ ((⟨#[46]⟩ : ByteArray) ++ t209), 0)) else (none)) else (none))) else (some (bt206.1 ++ t208, 0))) else (none)))))) = some (r1, r2) := H
     have A7 := Aside0.mk A70
     clear A70
     replace H := Option.bind_eq_some_iff.mp H
     obtain ⟨t205, A80, H⟩ := H
     replace H : ((num_sign.f t205).bind fun bt206 => (if t204 = 0 then (none) else ((num_told.f (wrap64 (Int.tdiv bt206.2 t204)) 1).bind fun t208 => (if bt206.1.size + t208.size ≤ 9223372036854775807 then (if a1 > 0 then ((num_told.f (Int.tmod bt206.2 t204) a1).bind fun t209 => (if 1 + t209.size ≤ 9223372036854775807 then (if (bt206.1 ++ t208).size + ((⟨#[46]⟩ : ByteArray) ++ t209).size ≤ 9223372036854775807 then (some ((bt206.1 ++ t208) ++ ((⟨#[46]⟩ : ByteArray) ++ t209), 0)) else (none)) else (none))) else (some (bt206.1 ++ t208, 0))) else (none))))) = some (r1, r2) := H
     have A8 := Aside0.mk A80
     clear A80
     replace H := Option.bind_eq_some_iff.mp H
     obtain ⟨⟨t206, t207⟩, A90, H⟩ := H
     replace H : (if t204 = 0 then (none) else ((num_told.f (wrap64 (Int.tdiv t207 t204)) 1).bind fun t208 => (if t206.size + t208.size ≤ 9223372036854775807 then (if a1 > 0 then ((num_told.f (Int.tmod t207 t204) a1).bind fun t209 => (if 1 + t209.size ≤ 9223372036854775807 then (if (t206 ++ t208).size + ((⟨#[46]⟩ : ByteArray) ++ t209).size ≤ 9223372036854775807 then (some ((t206 ++ t208) ++ ((⟨#[46]⟩ : ByteArray) ++ t209), 0)) else (none)) else (none))) else (some (t206 ++ t208, 0))) else (none)))) = some (r1, r2) := H
     have A9 := Aside0.mk A90
     clear A90
     by_cases c10 : t204 = 0
     · rw [if_pos c10] at H
       exact absurd H (by simp)
     · rw [if_neg c10] at H
       have c10b0 : (t204 == 0) = false := beq_eq_false_iff_ne.mpr c10
       have c10b1 : (t204 != 0) = true := bne_iff_ne.mpr c10
       replace H := Option.bind_eq_some_iff.mp H
       obtain ⟨t208, A110, H⟩ := H
       replace H : (if t206.size + t208.size ≤ 9223372036854775807 then (if a1 > 0 then ((num_told.f (Int.tmod t207 t204) a1).bind fun t209 => (if 1 + t209.size ≤ 9223372036854775807 then (if (t206 ++ t208).size + ((⟨#[46]⟩ : ByteArray) ++ t209).size ≤ 9223372036854775807 then (some ((t206 ++ t208) ++ ((⟨#[46]⟩ : ByteArray) ++ t209), 0)) else (none)) else (none))) else (some (t206 ++ t208, 0))) else (none)) = some (r1, r2) := H
       have A11 := Aside0.mk A110
       clear A110
       by_cases c12 : t206.size + t208.size ≤ 9223372036854775807
       · rw [if_pos c12] at H
         have c12b0 := eq_true c12
         have c12b1 : decide (t206.size + t208.size ≤ 9223372036854775807) = true := decide_eq_true c12
         try have c12b2 : (9223372036854775807 < t206.size + t208.size) = False := eq_false (Nat.not_lt.2 c12)
         by_cases c13 : a1 > 0
         · rw [if_pos c13] at H
           have c13b0 : decide (0 < a1) = true := decide_eq_true c13
           clear c13
           replace H := Option.bind_eq_some_iff.mp H
           obtain ⟨t209, A140, H⟩ := H
           replace H : (if 1 + t209.size ≤ 9223372036854775807 then (if (t206 ++ t208).size + ((⟨#[46]⟩ : ByteArray) ++ t209).size ≤ 9223372036854775807 then (some ((t206 ++ t208) ++ ((⟨#[46]⟩ : ByteArray) ++ t209), 0)) else (none)) else (none)) = some (r1, r2) := H
           have A14 := Aside0.mk A140
           clear A140
           by_cases c15 : 1 + t209.size ≤ 9223372036854775807
           · rw [if_pos c15] at H
             have c15b0 := eq_true c15
             have c15b1 : decide (1 + t209.size ≤ 9223372036854775807) = true := decide_eq_true c15
             try have c15b2 : (9223372036854775807 < 1 + t209.size) = False := eq_false (Nat.not_lt.2 c15)
             by_cases c16 : (t206 ++ t208).size + ((⟨#[46]⟩ : ByteArray) ++ t209).size ≤ 9223372036854775807
             · rw [if_pos c16] at H
               have c16b0 := eq_true c16
               have c16b1 : decide ((t206 ++ t208).size + ((⟨#[46]⟩ : ByteArray) ++ t209).size ≤ 9223372036854775807) = true := decide_eq_true c16
               try have c16b2 : (9223372036854775807 < (t206 ++ t208).size + ((⟨#[46]⟩ : ByteArray) ++ t209).size) = False := eq_false (Nat.not_lt.2 c16)
               have c16s := c16
               (try simp only [ByteArray.size_append, show (⟨#[46]⟩ : ByteArray).size = 1 from rfl] at c16s)
               have c16t := eq_true c16s
               (try have c16u := eq_false (Nat.not_lt.2 c16s))
               simp only [Option.some.injEq, Prod.mk.injEq] at H
               obtain ⟨rfl, rfl⟩ := H
               go_enter Try.func35, Try.ntmps35
               go_wp2_with (first | ((with_reducible refine gate_dst (N := 2) rfl ?_); refine box_event ?hg (N := 2) ?hd (cs := #[.int .i64 a0_0, .int .i64 a0_1]) (t := 23) ?hr ?_; (case hd => rfl); (case hg => rfl); (case hr => first | (go_simp; done) | (go_simp; rfl)); intro gb198 hg w17 hbox hb; have BK198 := Aside0.mk hbox; have GW198 := bwg_ HB hg; have GE198 := bwg_ HB hg; replace HB := bws_ HB hb; clear hb hbox hg; obtain ⟨hcz18_0, hcz18_1, hfz18_0, hfz18_1⟩ := bc2_ BK198) | ((with_reducible refine gate_callee (f := 46) rfl ?_); refine gla_ (some 11) Try.func46 #[.agg #[.int .i64 a0_0, .int .i64 a0_1]] ?_; (with_reducible refine (num_Check.calls k a0_0 a0_1 t199 _ A3.out).mono ?_); rintro e w19 ⟨rfl, hb⟩; refine ⟨_, rfl, ?_⟩; replace BK198 := bkb_ BK198 hb; replace HB := bws_ HB hb; (try clear hb); (try clear hb2); (try clear hk); (try clear hi)) | ((with_reducible refine gate_dst (N := 16) rfl ?_); refine Kd.R_lit (Kd.int .i64) _ 3 ?hg (N := 16) ?hd (xs := ([a1] : List Int)) (inner := [.int .i64 a1]) (ok := fun _ => True) (okp := fun _ => True) ?hr ?hp (fun _ hk => hk) trivial (Below.refl _ _) (Nat.le_refl _) (by simp) ?_; (case hd => rfl); (case hg => rfl); (case hr => first | (go_simp; done) | (go_simp; rfl)); (case hp => exact (Reps.one (show Kd.M (Kd.int .i64) _ _ _ a1 [.int .i64 a1] from rfl) (Reps.none _ _))); intro v201 w20 ho21 hb hg_ hnew_; clear hg_ hnew_; (first | rw [← Ny200.out] at ho21 | (simp only [Int.reduceToNat] at ho21; rw [← Ny200.out] at ho21)); have HO202 := Aside0.mk (Kd.R_lower ho21 (below_size (bw_ HB))); replace BK198 := bkb_ BK198 hb; replace HB := bws_ HB hb; clear hb ho21; obtain ⟨Ao22, co22, eo22⟩ := Kd.R_slice HO202.out; subst eo22) | ((with_reducible refine gate_callee (f := 80) rfl ?_); refine gla_ (some 17) Try.func80 #[.int .i64 0, .int .i64 9, .slice Ao22 y200.length co22] ?_; (with_reducible refine (num_within.calls 0 9 _ _ y200 true _ ?side1 ?side2 A5.out).mono ?_); (case side1 => repeat (first | exact (Kd.R_reads' HO202.out).2.2 | (with_reducible refine Kd.C_alloc ?_ _) | (with_reducible refine Kd.C_drewN ?_ _) | (with_reducible refine Kd.C_drew ?_))); (case side2 => exact (Kd.R_reads' HO202.out).2.1); rintro e w23 ⟨rfl, hb⟩; refine ⟨_, rfl, ?_⟩; replace HO202 := Aside0.mk (Kd.R_below (by (with_reducible repeat (first | apply Kd.R_alloc | apply Kd.R_drewN | apply Kd.R_drew)); exact HO202.out) hb); replace BK198 := bkb_ BK198 hb; replace HB := bws_ HB hb; (try clear hb); (try clear hb2); (try clear hk); (try clear hi)) | ((with_reducible refine gate_callee (f := 81) rfl ?_); refine gla_ (some 20) Try.func81 #[.int .i64 a1] ?_; (with_reducible refine (num_power.calls k a1 t204 _ A7.out).mono ?_); rintro e w' ⟨rfl, ⟨nd, rfl⟩⟩; refine ⟨_, rfl, ?_⟩; obtain ⟨hcz24_0, hcz24_1, hfz24_0, hfz24_1⟩ := bc2_ BK198) | ((with_reducible refine gate_callee (f := 78) rfl ?_); refine gla_ (some 29) Try.func78 #[.agg #[.int .i64 (wrap64 (a0_0 * t204)), .int .i64 a0_1]] ?_; (with_reducible refine (num_ratio_nearest.calls (wrap64 (a0_0 * t204)) a0_1 t205 _ A8.out).mono ?_); rintro e w25 ⟨rfl, hb⟩; refine ⟨_, rfl, ?_⟩; replace HO202 := Aside0.mk (Kd.R_below (by (with_reducible repeat (first | apply Kd.R_alloc | apply Kd.R_drewN | apply Kd.R_drew)); exact HO202.out) hb); replace BK198 := bkb_ BK198 hb; replace HB := bws_ HB hb; (try clear hb); (try clear hb2); (try clear hk); (try clear hi)) | ((with_reducible refine gate_callee (f := 82) rfl ?_); refine gla_ (some 30) Try.func82 #[.int .i64 t205] ?_; (with_reducible refine (num_sign.calls t205 t206 t207 _ A9.out).mono ?_); rintro e w' ⟨rfl, ⟨nd, rfl⟩⟩; refine ⟨_, rfl, ?_⟩) | ((with_reducible refine gate_callee (f := 83) rfl ?_); refine gla_ (some 37) Try.func83 #[.int .i64 (wrap64 (Int.tdiv t207 t204)), .int .i64 1] ?_; (with_reducible refine (num_told.calls (wrap64 (Int.tdiv t207 t204)) 1 t208 _ A11.out).mono ?_); rintro e w26 ⟨rfl, hb⟩; refine ⟨_, rfl, ?_⟩; replace HO202 := Aside0.mk (Kd.R_below (by (with_reducible repeat (first | apply Kd.R_alloc | apply Kd.R_drewN | apply Kd.R_drew)); exact HO202.out) hb); replace BK198 := bkb_ BK198 hb; replace HB := bws_ HB hb; (try clear hb); (try clear hb2); (try clear hk); (try clear hi)) | ((with_reducible refine gate_callee (f := 83) rfl ?_); refine gla_ (some 46) Try.func83 #[.int .i64 (Int.tmod t207 t204), .int .i64 a1] ?_; (with_reducible refine (num_told.calls (Int.tmod t207 t204) a1 t209 _ A14.out).mono ?_); rintro e w27 ⟨rfl, hb⟩; refine ⟨_, rfl, ?_⟩; replace HO202 := Aside0.mk (Kd.R_below (by (with_reducible repeat (first | apply Kd.R_alloc | apply Kd.R_drewN | apply Kd.R_drew)); exact HO202.out) hb); replace BK198 := bkb_ BK198 hb; replace HB := bws_ HB hb; (try clear hb); (try clear hb2); (try clear hk); (try clear hi)))
               go_ret2
               exact ⟨by first | rfl | (simp [*] <;> rfl), bw_ HB⟩
             · rw [if_neg c16] at H
               exact absurd H (by simp)
           · rw [if_neg c15] at H
             exact absurd H (by simp)
         · rw [if_neg c13] at H
           have c13b0 : decide (0 < a1) = false := decide_eq_false c13
           clear c13
           simp only [Option.some.injEq, Prod.mk.injEq] at H
           obtain ⟨rfl, rfl⟩ := H
           go_enter Try.func35, Try.ntmps35
           go_wp2_with (first | ((with_reducible refine gate_dst (N := 2) rfl ?_); refine box_event ?hg (N := 2) ?hd (cs := #[.int .i64 a0_0, .int .i64 a0_1]) (t := 23) ?hr ?_; (case hd => rfl); (case hg => rfl); (case hr => first | (go_simp; done) | (go_simp; rfl)); intro gb198 hg w28 hbox hb; have BK198 := Aside0.mk hbox; have GW198 := bwg_ HB hg; have GE198 := bwg_ HB hg; replace HB := bws_ HB hb; clear hb hbox hg; obtain ⟨hcz29_0, hcz29_1, hfz29_0, hfz29_1⟩ := bc2_ BK198) | ((with_reducible refine gate_callee (f := 46) rfl ?_); refine gla_ (some 11) Try.func46 #[.agg #[.int .i64 a0_0, .int .i64 a0_1]] ?_; (with_reducible refine (num_Check.calls k a0_0 a0_1 t199 _ A3.out).mono ?_); rintro e w30 ⟨rfl, hb⟩; refine ⟨_, rfl, ?_⟩; replace BK198 := bkb_ BK198 hb; replace HB := bws_ HB hb; (try clear hb); (try clear hb2); (try clear hk); (try clear hi)) | ((with_reducible refine gate_dst (N := 16) rfl ?_); refine Kd.R_lit (Kd.int .i64) _ 3 ?hg (N := 16) ?hd (xs := ([a1] : List Int)) (inner := [.int .i64 a1]) (ok := fun _ => True) (okp := fun _ => True) ?hr ?hp (fun _ hk => hk) trivial (Below.refl _ _) (Nat.le_refl _) (by simp) ?_; (case hd => rfl); (case hg => rfl); (case hr => first | (go_simp; done) | (go_simp; rfl)); (case hp => exact (Reps.one (show Kd.M (Kd.int .i64) _ _ _ a1 [.int .i64 a1] from rfl) (Reps.none _ _))); intro v201 w31 ho32 hb hg_ hnew_; clear hg_ hnew_; (first | rw [← Ny200.out] at ho32 | (simp only [Int.reduceToNat] at ho32; rw [← Ny200.out] at ho32)); have HO202 := Aside0.mk (Kd.R_lower ho32 (below_size (bw_ HB))); replace BK198 := bkb_ BK198 hb; replace HB := bws_ HB hb; clear hb ho32; obtain ⟨Ao33, co33, eo33⟩ := Kd.R_slice HO202.out; subst eo33) | ((with_reducible refine gate_callee (f := 80) rfl ?_); refine gla_ (some 17) Try.func80 #[.int .i64 0, .int .i64 9, .slice Ao33 y200.length co33] ?_; (with_reducible refine (num_within.calls 0 9 _ _ y200 true _ ?side1 ?side2 A5.out).mono ?_); (case side1 => repeat (first | exact (Kd.R_reads' HO202.out).2.2 | (with_reducible refine Kd.C_alloc ?_ _) | (with_reducible refine Kd.C_drewN ?_ _) | (with_reducible refine Kd.C_drew ?_))); (case side2 => exact (Kd.R_reads' HO202.out).2.1); rintro e w34 ⟨rfl, hb⟩; refine ⟨_, rfl, ?_⟩; replace HO202 := Aside0.mk (Kd.R_below (by (with_reducible repeat (first | apply Kd.R_alloc | apply Kd.R_drewN | apply Kd.R_drew)); exact HO202.out) hb); replace BK198 := bkb_ BK198 hb; replace HB := bws_ HB hb; (try clear hb); (try clear hb2); (try clear hk); (try clear hi)) | ((with_reducible refine gate_callee (f := 81) rfl ?_); refine gla_ (some 20) Try.func81 #[.int .i64 a1] ?_; (with_reducible refine (num_power.calls k a1 t204 _ A7.out).mono ?_); rintro e w' ⟨rfl, ⟨nd, rfl⟩⟩; refine ⟨_, rfl, ?_⟩; obtain ⟨hcz35_0, hcz35_1, hfz35_0, hfz35_1⟩ := bc2_ BK198) | ((with_reducible refine gate_callee (f := 78) rfl ?_); refine gla_ (some 29) Try.func78 #[.agg #[.int .i64 (wrap64 (a0_0 * t204)), .int .i64 a0_1]] ?_; (with_reducible refine (num_ratio_nearest.calls (wrap64 (a0_0 * t204)) a0_1 t205 _ A8.out).mono ?_); rintro e w36 ⟨rfl, hb⟩; refine ⟨_, rfl, ?_⟩; replace HO202 := Aside0.mk (Kd.R_below (by (with_reducible repeat (first | apply Kd.R_alloc | apply Kd.R_drewN | apply Kd.R_drew)); exact HO202.out) hb); replace BK198 := bkb_ BK198 hb; replace HB := bws_ HB hb; (try clear hb); (try clear hb2); (try clear hk); (try clear hi)) | ((with_reducible refine gate_callee (f := 82) rfl ?_); refine gla_ (some 30) Try.func82 #[.int .i64 t205] ?_; (with_reducible refine (num_sign.calls t205 t206 t207 _ A9.out).mono ?_); rintro e w' ⟨rfl, ⟨nd, rfl⟩⟩; refine ⟨_, rfl, ?_⟩) | ((with_reducible refine gate_callee (f := 83) rfl ?_); refine gla_ (some 37) Try.func83 #[.int .i64 (wrap64 (Int.tdiv t207 t204)), .int .i64 1] ?_; (with_reducible refine (num_told.calls (wrap64 (Int.tdiv t207 t204)) 1 t208 _ A11.out).mono ?_); rintro e w37 ⟨rfl, hb⟩; refine ⟨_, rfl, ?_⟩; replace HO202 := Aside0.mk (Kd.R_below (by (with_reducible repeat (first | apply Kd.R_alloc | apply Kd.R_drewN | apply Kd.R_drew)); exact HO202.out) hb); replace BK198 := bkb_ BK198 hb; replace HB := bws_ HB hb; (try clear hb); (try clear hb2); (try clear hk); (try clear hi)))
           go_ret2
           exact ⟨by first | rfl | (simp [*] <;> rfl), bw_ HB⟩
       · rw [if_neg c12] at H
         exact absurd H (by simp)
   · replace c6 := Bool.eq_false_iff.mpr c6
     subst c6
     have H1 : (some ((⟨#[]⟩ : ByteArray), 3)) = some (r1, r2) := by rw [if_neg (show ¬ (false = true) by decide)] at H; exact H
     clear H
     have H := H1
     clear H1
     simp only [Option.some.injEq, Prod.mk.injEq] at H
     obtain ⟨rfl, rfl⟩ := H
     go_enter Try.func35, Try.ntmps35
     go_wp2_with (first | ((with_reducible refine gate_dst (N := 2) rfl ?_); refine box_event ?hg (N := 2) ?hd (cs := #[.int .i64 a0_0, .int .i64 a0_1]) (t := 23) ?hr ?_; (case hd => rfl); (case hg => rfl); (case hr => first | (go_simp; done) | (go_simp; rfl)); intro gb198 hg w38 hbox hb; have BK198 := Aside0.mk hbox; have GW198 := bwg_ HB hg; have GE198 := bwg_ HB hg; replace HB := bws_ HB hb; clear hb hbox hg; obtain ⟨hcz39_0, hcz39_1, hfz39_0, hfz39_1⟩ := bc2_ BK198) | ((with_reducible refine gate_callee (f := 46) rfl ?_); refine gla_ (some 11) Try.func46 #[.agg #[.int .i64 a0_0, .int .i64 a0_1]] ?_; (with_reducible refine (num_Check.calls k a0_0 a0_1 t199 _ A3.out).mono ?_); rintro e w40 ⟨rfl, hb⟩; refine ⟨_, rfl, ?_⟩; replace BK198 := bkb_ BK198 hb; replace HB := bws_ HB hb; (try clear hb); (try clear hb2); (try clear hk); (try clear hi)) | ((with_reducible refine gate_dst (N := 16) rfl ?_); refine Kd.R_lit (Kd.int .i64) _ 3 ?hg (N := 16) ?hd (xs := ([a1] : List Int)) (inner := [.int .i64 a1]) (ok := fun _ => True) (okp := fun _ => True) ?hr ?hp (fun _ hk => hk) trivial (Below.refl _ _) (Nat.le_refl _) (by simp) ?_; (case hd => rfl); (case hg => rfl); (case hr => first | (go_simp; done) | (go_simp; rfl)); (case hp => exact (Reps.one (show Kd.M (Kd.int .i64) _ _ _ a1 [.int .i64 a1] from rfl) (Reps.none _ _))); intro v201 w41 ho42 hb hg_ hnew_; clear hg_ hnew_; (first | rw [← Ny200.out] at ho42 | (simp only [Int.reduceToNat] at ho42; rw [← Ny200.out] at ho42)); have HO202 := Aside0.mk (Kd.R_lower ho42 (below_size (bw_ HB))); replace BK198 := bkb_ BK198 hb; replace HB := bws_ HB hb; clear hb ho42; obtain ⟨Ao43, co43, eo43⟩ := Kd.R_slice HO202.out; subst eo43) | ((with_reducible refine gate_callee (f := 80) rfl ?_); refine gla_ (some 17) Try.func80 #[.int .i64 0, .int .i64 9, .slice Ao43 y200.length co43] ?_; (with_reducible refine (num_within.calls 0 9 _ _ y200 false _ ?side1 ?side2 A5.out).mono ?_); (case side1 => repeat (first | exact (Kd.R_reads' HO202.out).2.2 | (with_reducible refine Kd.C_alloc ?_ _) | (with_reducible refine Kd.C_drewN ?_ _) | (with_reducible refine Kd.C_drew ?_))); (case side2 => exact (Kd.R_reads' HO202.out).2.1); rintro e w44 ⟨rfl, hb⟩; refine ⟨_, rfl, ?_⟩; replace HO202 := Aside0.mk (Kd.R_below (by (with_reducible repeat (first | apply Kd.R_alloc | apply Kd.R_drewN | apply Kd.R_drew)); exact HO202.out) hb); replace BK198 := bkb_ BK198 hb; replace HB := bws_ HB hb; (try clear hb); (try clear hb2); (try clear hk); (try clear hi)))
     go_ret2
     exact ⟨by first | rfl | (simp [*] <;> rfl), bw_ HB⟩
 · rw [if_neg c4] at H
   have c4b0 : (t199 == 0) = false := beq_eq_false_iff_ne.mpr c4
   have c4b1 : (t199 != 0) = true := bne_iff_ne.mpr c4
   simp only [Option.some.injEq, Prod.mk.injEq] at H
   obtain ⟨rfl, rfl⟩ := H
   go_enter Try.func35, Try.ntmps35
   go_wp2_with (first | ((with_reducible refine gate_dst (N := 2) rfl ?_); refine box_event ?hg (N := 2) ?hd (cs := #[.int .i64 a0_0, .int .i64 a0_1]) (t := 23) ?hr ?_; (case hd => rfl); (case hg => rfl); (case hr => first | (go_simp; done) | (go_simp; rfl)); intro gb198 hg w45 hbox hb; have BK198 := Aside0.mk hbox; have GW198 := bwg_ HB hg; have GE198 := bwg_ HB hg; replace HB := bws_ HB hb; clear hb hbox hg; obtain ⟨hcz46_0, hcz46_1, hfz46_0, hfz46_1⟩ := bc2_ BK198) | ((with_reducible refine gate_callee (f := 46) rfl ?_); refine gla_ (some 11) Try.func46 #[.agg #[.int .i64 a0_0, .int .i64 a0_1]] ?_; (with_reducible refine (num_Check.calls k a0_0 a0_1 t199 _ A3.out).mono ?_); rintro e w47 ⟨rfl, hb⟩; refine ⟨_, rfl, ?_⟩; replace BK198 := bkb_ BK198 hb; replace HB := bws_ HB hb; (try clear hb); (try clear hb2); (try clear hk); (try clear hi)))
   go_ret2
   exact ⟨by first | rfl | (simp [*] <;> rfl), bw_ HB⟩
/-! ### stringslite_HasPrefix: function 127 -/
def stringslite_HasPrefix.f (a0 : ByteArray) (a1 : ByteArray) : Option (Bool) := if (a0.size : Int) ≥ (a1.size : Int) then (if 0 ≤ (a1.size : Int) then (if (a1.size : Int) ≤ (a0.size : Int) then (some ((a0.extract 0 ((a1.size : Int) : Int).toNat).toList == a1.toList)) else (none)) else (none)) else (some false)
set_option maxHeartbeats 8000000 in
set_option maxRecDepth 100000 in
theorem stringslite_HasPrefix.calls (a0 : ByteArray) (a1 : ByteArray) (r : Bool) (w : World) (h : stringslite_HasPrefix.f a0 a1 = some r) :
    Calls Try.prog 127 #[.string a0, .string a1] w fun e w' => e = .returned (.bool r) ∧ Drawn0 w w' := by
  have H : (if (a0.size : Int) ≥ (a1.size : Int) then (if 0 ≤ (a1.size : Int) then (if (a1.size : Int) ≤ (a0.size : Int) then (some ((a0.extract 0 ((a1.size : Int) : Int).toNat).toList == a1.toList)) else (none)) else (none)) else (some false)) = some r := h
  clear h
  by_cases c3 : (a0.size : Int) ≥ (a1.size : Int)
  · rw [if_pos c3] at H
    have c3b0 : decide ((a1.size : Int) ≤ (a0.size : Int)) = true := decide_eq_true c3
    have c3b1 : decide (a1.size ≤ a0.size) = true := decide_eq_true (Int.ofNat_le.mp c3)
    clear c3
    by_cases c4 : 0 ≤ (a1.size : Int)
    · rw [if_pos c4] at H
      have c4b0 := eq_true c4
      have c4b1 : decide (0 ≤ (a1.size : Int)) = true := decide_eq_true c4
      clear c4
      by_cases c5 : (a1.size : Int) ≤ (a0.size : Int)
      · rw [if_pos c5] at H
        have c5b0 := eq_true c5
        have c5b1 : decide ((a1.size : Int) ≤ (a0.size : Int)) = true := decide_eq_true c5
        clear c5
        obtain rfl := Option.some.inj H
        go_enter Try.func127, Try.ntmps127
        go_wp2
        go_ret
        exact ⟨by first | rfl | (simp; done) | (simp [*]; done), by repeat (first | exact Drawn0.refl _ | apply Drawn0.step)⟩
      · rw [if_neg c5] at H
        exact absurd H (by simp)
    · rw [if_neg c4] at H
      exact absurd H (by simp)
  · rw [if_neg c3] at H
    have c3b0 : decide ((a1.size : Int) ≤ (a0.size : Int)) = false := decide_eq_false c3
    have c3b1 : decide (a1.size ≤ a0.size) = false := decide_eq_false (fun h => c3 (Int.ofNat_le.mpr h))
    clear c3
    obtain rfl := Option.some.inj H
    go_enter Try.func127, Try.ntmps127
    go_wp2
    go_ret
    exact ⟨by first | rfl | (simp; done) | (simp [*]; done), by repeat (first | exact Drawn0.refl _ | apply Drawn0.step)⟩
/-! ### stringslite_CutPrefix: function 115 -/
def stringslite_CutPrefix.f (a0 : ByteArray) (a1 : ByteArray) : Option (ByteArray × Bool) := (stringslite_HasPrefix.f a0 a1).bind fun t210 => (if t210 = true then (if 0 ≤ (a1.size : Int) then (if (a1.size : Int) ≤ (a0.size : Int) then (some (a0.extract ((a1.size : Int) : Int).toNat a0.size, true)) else (none)) else (none)) else (some (a0, false)))
set_option maxHeartbeats 8000000 in
set_option maxRecDepth 100000 in
theorem stringslite_CutPrefix.calls (a0 : ByteArray) (a1 : ByteArray) (r1 : ByteArray) (r2 : Bool) (w : World) (h : stringslite_CutPrefix.f a0 a1 = some (r1, r2)) :
    Calls Try.prog 115 #[.string a0, .string a1] w fun e w' => e = .returned (.tuple #[.string r1, .bool r2]) ∧ Drawn0 w w' := by
  have H : ((stringslite_HasPrefix.f a0 a1).bind fun t210 => (if t210 = true then (if 0 ≤ (a1.size : Int) then (if (a1.size : Int) ≤ (a0.size : Int) then (some (a0.extract ((a1.size : Int) : Int).toNat a0.size, true)) else (none)) else (none)) else (some (a0, false)))) = some (r1, r2) := h
  clear h
  replace H := Option.bind_eq_some_iff.mp H
  obtain ⟨t210, A30, H⟩ := H
  replace H : (if t210 = true then (if 0 ≤ (a1.size : Int) then (if (a1.size : Int) ≤ (a0.size : Int) then (some (a0.extract ((a1.size : Int) : Int).toNat a0.size, true)) else (none)) else (none)) else (some (a0, false))) = some (r1, r2) := H
  have A3 := Aside0.mk A30
  clear A30
  by_cases c4 : t210 = true
  · subst c4
    have H1 : (if 0 ≤ (a1.size : Int) then (if (a1.size : Int) ≤ (a0.size : Int) then (some (a0.extract ((a1.size : Int) : Int).toNat a0.size, true)) else (none)) else (none)) = some (r1, r2) := by rw [if_pos rfl] at H; exact H
    clear H
    have H := H1
    clear H1
    by_cases c5 : 0 ≤ (a1.size : Int)
    · rw [if_pos c5] at H
      have c5b0 := eq_true c5
      have c5b1 : decide (0 ≤ (a1.size : Int)) = true := decide_eq_true c5
      clear c5
      by_cases c6 : (a1.size : Int) ≤ (a0.size : Int)
      · rw [if_pos c6] at H
        have c6b0 := eq_true c6
        have c6b1 : decide ((a1.size : Int) ≤ (a0.size : Int)) = true := decide_eq_true c6
        clear c6
        simp only [Option.some.injEq, Prod.mk.injEq] at H
        obtain ⟨rfl, rfl⟩ := H
        go_enter Try.func115, Try.ntmps115
        go_wp2_with (first | ((with_reducible refine gate_callee (f := 127) rfl ?_); refine gla_ (some 8) Try.func127 #[.string a0, .string a1] ?_; (with_reducible refine (stringslite_HasPrefix.calls a0 a1 true _ A3.out).mono ?_); rintro e w' ⟨rfl, ⟨nd, rfl⟩⟩; refine ⟨_, rfl, ?_⟩))
        go_ret2
        exact ⟨by first | rfl | (simp; done) | (simp [*]; done), by repeat (first | exact Drawn0.refl _ | apply Drawn0.step)⟩
      · rw [if_neg c6] at H
        exact absurd H (by simp)
    · rw [if_neg c5] at H
      exact absurd H (by simp)
  · replace c4 := Bool.eq_false_iff.mpr c4
    subst c4
    have H1 : (some (a0, false)) = some (r1, r2) := by rw [if_neg (show ¬ (false = true) by decide)] at H; exact H
    clear H
    have H := H1
    clear H1
    simp only [Option.some.injEq, Prod.mk.injEq] at H
    obtain ⟨rfl, rfl⟩ := H
    go_enter Try.func115, Try.ntmps115
    go_wp2_with (first | ((with_reducible refine gate_callee (f := 127) rfl ?_); refine gla_ (some 8) Try.func127 #[.string a0, .string a1] ?_; (with_reducible refine (stringslite_HasPrefix.calls a0 a1 false _ A3.out).mono ?_); rintro e w' ⟨rfl, ⟨nd, rfl⟩⟩; refine ⟨_, rfl, ?_⟩))
    go_ret2
    exact ⟨by first | rfl | (simp; done) | (simp [*]; done), by repeat (first | exact Drawn0.refl _ | apply Drawn0.step)⟩
/-! ### strings_CutPrefix: function 87 -/
def strings_CutPrefix.f (a0 : ByteArray) (a1 : ByteArray) : Option (ByteArray × Bool) := (stringslite_CutPrefix.f a0 a1).bind fun bt211 => (some (bt211.1, bt211.2))
set_option maxHeartbeats 8000000 in
set_option maxRecDepth 100000 in
theorem strings_CutPrefix.calls (a0 : ByteArray) (a1 : ByteArray) (r1 : ByteArray) (r2 : Bool) (w : World) (h : strings_CutPrefix.f a0 a1 = some (r1, r2)) :
    Calls Try.prog 87 #[.string a0, .string a1] w fun e w' => e = .returned (.tuple #[.string r1, .bool r2]) ∧ Drawn0 w w' := by
  have H : ((stringslite_CutPrefix.f a0 a1).bind fun bt211 => (some (bt211.1, bt211.2))) = some (r1, r2) := h
  clear h
  replace H := Option.bind_eq_some_iff.mp H
  obtain ⟨⟨t211, t212⟩, A30, H⟩ := H
  replace H : (some (t211, t212)) = some (r1, r2) := H
  have A3 := Aside0.mk A30
  clear A30
  simp only [Option.some.injEq, Prod.mk.injEq] at H
  obtain ⟨rfl, rfl⟩ := H
  go_enter Try.func87, Try.ntmps87
  go_wp2_with (first | ((with_reducible refine gate_callee (f := 115) rfl ?_); refine gla_ (some 8) Try.func115 #[.string a0, .string a1] ?_; (with_reducible refine (stringslite_CutPrefix.calls a0 a1 t211 t212 _ A3.out).mono ?_); rintro e w' ⟨rfl, ⟨nd, rfl⟩⟩; refine ⟨_, rfl, ?_⟩))
  go_ret2
  exact ⟨by first | rfl | (simp; done) | (simp [*]; done), by repeat (first | exact Drawn0.refl _ | apply Drawn0.step)⟩
/-! ### num_count: function 116, by hand -/
/-- the digits of a number, from some on -/
def num_count.go : List UInt8 → Int → Option Int
  | [], n => some n
  | c :: l, n => if (c.toNat : Int) < 48 then none else if (c.toNat : Int) > 57 then none else num_count.go l (wrap64 ((wrap64 (10 * n)) + ((c.toNat : Int) - 48)))
def num_count.f (a0 : ByteArray) (a1 : Int) : Option (Int × Bool) :=
  if 1 ≤ (a0.size : Int) ∧ (a0.size : Int) ≤ a1 then (if a0.size ≤ 9223372036854775807 then (match num_count.go a0.data.toList 0 with | some n => some (n, true) | none => some (0, false)) else none) else some (0, false)
theorem num_count.drop (s : ByteArray) (i : Nat) (n : Int) (h : i < s.size) : num_count.go (s.data.toList.drop i) n =
    if bt s i < 48 then none else if bt s i > 57 then none else num_count.go (s.data.toList.drop (i + 1)) (wrap64 ((wrap64 (10 * n)) + (bt s i - 48))) := by
  have h' : i < s.data.toList.length := by rw [data_length]; exact h
  rw [List.drop_eq_getElem_cons h']
  simp only [num_count.go]
  have e : bt s (i : Int) = (s.data.toList[i].toNat : Int) := by simp [bt, h]; rfl
  rw [e]
theorem num_count.lit (w : World) (n : Int) : Kd.C (Kd.int .i64) (w.alloc (.cells #[.int .i64 n] 3)) (some ⟨w.heap.size, 0, none⟩) 1 [n] := by
  refine Kd.C_of_reads (d := 0) ⟨rfl, by omega, fun _ => ⟨_, rfl, fun j hj => ?_⟩⟩
  obtain rfl : j = 0 := by omega
  simp [Addr.add]
set_option maxHeartbeats 4000000 in
set_option maxRecDepth 100000 in
theorem num_count.calls (a0 : ByteArray) (a1 : Int) (r1 : Int) (r2 : Bool) (w : World) (h : num_count.f a0 a1 = some (r1, r2)) :
    Calls Try.prog 116 #[.string a0, .int .i64 a1] w fun e w' => e = .returned (.tuple #[.int .i64 r1, .bool r2]) ∧ Below w.heap.size w w' := by
  have HL := num_count.lit w (a0.size : Int)
  have HC := num_within.calls 1 a1 (some ⟨w.heap.size, 0, none⟩) 1 [(a0.size : Int)] _ (w.alloc (.cells #[.int .i64 (a0.size : Int)] 3)) HL (by simp) rfl
  have hb : [(a0.size : Int)].all (fun n => decide (1 ≤ n) && decide (n ≤ a1)) = decide (1 ≤ (a0.size : Int) ∧ (a0.size : Int) ≤ a1) := by simp
  rw [hb] at HC
  have HC := Aside0.mk HC
  have HB := Aside0.mk (below_alloc (Below.refl w.heap.size w) (.cells #[.int .i64 (a0.size : Int)] 3))
  clear HL hb
  unfold num_count.f at h
  by_cases c : 1 ≤ (a0.size : Int) ∧ (a0.size : Int) ≤ a1
  · rw [if_pos c] at h
    have c0 : decide (1 ≤ (a0.size : Int) ∧ (a0.size : Int) ≤ a1) = true := decide_eq_true c
    rw [c0] at HC
    by_cases hs : a0.size ≤ 9223372036854775807
    case neg => rw [if_neg hs] at h; exact absurd h (by simp)
    rw [if_pos hs] at h
    clear c0 c
    have kb := fun W => print_bytes (P := Try.prog) 9 116 5 Try.underlying9 Try.underlying116 Try.underlying5 a0 W
    have HH := Aside0.mk h
    clear h
    go_enter Try.func116, Try.ntmps116
    go_wp2_with (fail)
    refine HC.out.mono ?_
    rintro e w1 ⟨rfl, hb⟩
    have HB1 := Aside0.mk (below_step HB.out hb)
    clear hb HC HB
    go_wp2
    go_loopg [6, 8, 18] a0.size (fun kq v6 v8 v18 w' => ∃ (i : Nat) (n : Int), v18 = .int .i64 i ∧ v6 = .int .i64 n ∧ Aside0 (kq + i = a0.size) ∧ Aside0 ((match num_count.go (a0.data.toList.drop i) n with | some n => some (n, true) | none => some (0, false)) = some (r1, r2)) ∧ Aside0 (Below w.heap.size w w') ∧ Aside0 (Below (Lib.bytesWorld w1 5 a0).heap.size (Lib.bytesWorld w1 5 a0) w'))
    case atStart => exact ⟨0, 0, rfl, rfl, ⟨by simp⟩, HH, ⟨bytes_below HB1.out HB1.out.size _ _⟩, ⟨Below.refl _ _⟩⟩
    case round =>
      clear HH
      obtain ⟨i, n, rfl, rfl, HK, HH, HB2, HB3⟩ := hrel
      by_cases hlt : i < a0.size
      · have hb0 : decide ((i : Int) < (a0.size : Int)) = true := by simp; exact hlt
        have hh := HH.out
        rw [num_count.drop a0 i n hlt] at hh
        have HR := Kd.C_below (Kd.C_of_reads (h1 := fun _ => rfl) (bytes_reads w1 5 a0 hs)) HB3.out
        obtain ⟨ad, e1, hx⟩ := Kd.at_int HR (i : Int) (by omega) (by omega)
        obtain rfl := Option.some.inj e1
        simp only [Int.toNat_natCast, rd_bytesOf, add_plain, Nat.zero_add] at hx
        have hbt := bt_range a0 (i : Int)
        clear HR e1 HH kb
        generalize bt a0 (i : Int) = x at *
        by_cases c1 : x < 48
        · rw [if_pos c1] at hh
          have c1b : decide (x < 48) = true := decide_eq_true c1
          simp only [Option.some.injEq, Prod.mk.injEq] at hh
          obtain ⟨rfl, rfl⟩ := hh
          go_wp2
          go_ret2
          exact ⟨rfl, HB2.out⟩
        · rw [if_neg c1] at hh
          have c1b : decide (x < 48) = false := decide_eq_false c1
          by_cases c2 : x > 57
          · rw [if_pos c2] at hh
            have c2b : decide (57 < x) = true := decide_eq_true c2
            simp only [Option.some.injEq, Prod.mk.injEq] at hh
            obtain ⟨rfl, rfl⟩ := hh
            go_wp2
            go_ret2
            exact ⟨rfl, HB2.out⟩
          · rw [if_neg c2] at hh
            have c2b : decide (57 < x) = false := decide_eq_false c2
            have HH := Aside0.mk hh
            clear hh
            go_wp2
            go_roundg (a0.size - (i + 1))
            case measure => have := HK.out; omega
            case rel => exact ⟨i + 1, _, by go_num, rfl, ⟨by omega⟩, HH, HB2, HB3⟩
      · have hb0 : decide ((i : Int) < (a0.size : Int)) = false := by simp; omega
        have hh := HH.out
        rw [List.drop_of_length_le (by rw [data_length]; omega)] at hh
        simp only [num_count.go, Option.some.injEq, Prod.mk.injEq] at hh
        obtain ⟨rfl, rfl⟩ := hh
        clear HH kb
        go_wp2
        go_ret2
        exact ⟨rfl, HB2.out⟩
  · rw [if_neg c] at h
    have c0 : decide (1 ≤ (a0.size : Int) ∧ (a0.size : Int) ≤ a1) = false := decide_eq_false c
    rw [c0] at HC
    simp only [Option.some.injEq, Prod.mk.injEq] at h
    obtain ⟨rfl, rfl⟩ := h
    clear c0 c
    go_enter Try.func116, Try.ntmps116
    go_wp2_with (fail)
    refine HC.out.mono ?_
    rintro e w1 ⟨rfl, hb⟩
    have HB1 := Aside0.mk (below_step HB.out hb)
    clear hb
    go_wp2
    go_ret2
    exact ⟨rfl, HB1.out⟩
/-! ### num_plain: function 89 -/
def num_plain.f (a0 : ByteArray) (a1 : Int) : Option (Int × Bool) := (num_count.f a0 a1).bind fun bt213 => (if bt213.2 = true then (if (a0.size : Int) = 1 then (some (bt213.1, true)) else (if 0 < (a0.size : Int) then (some (bt213.1, ((bt a0 0) != 48))) else (none))) else (some (bt213.1, false)))
set_option maxHeartbeats 8000000 in
set_option maxRecDepth 100000 in
theorem num_plain.calls (a0 : ByteArray) (a1 : Int) (r1 : Int) (r2 : Bool) (w : World) (h : num_plain.f a0 a1 = some (r1, r2)) :
    Calls Try.prog 89 #[.string a0, .int .i64 a1] w fun e w' => e = .returned (.tuple #[.int .i64 r1, .bool r2]) ∧ Below w.heap.size w w' := by
 have HB := Aside0.mk (Below.refl w.heap.size w)
 have H : ((num_count.f a0 a1).bind fun bt213 => (if bt213.2 = true then (if (a0.size : Int) = 1 then (some (bt213.1, true)) else (if 0 < (a0.size : Int) then (some (bt213.1, ((bt a0 0) != 48))) else (none))) else (some (bt213.1, false)))) = some (r1, r2) := h
 clear h
 replace H := Option.bind_eq_some_iff.mp H
 obtain ⟨⟨t213, t214⟩, A30, H⟩ := H
 replace H : (if t214 = true then (if (a0.size : Int) = 1 then (some (t213, true)) else (if 0 < (a0.size : Int) then (some (t213, ((bt a0 0) != 48))) else (none))) else (some (t213, false))) = some (r1, r2) := H
 have A3 := Aside0.mk A30
 clear A30
 by_cases c4 : t214 = true
 · subst c4
   have H1 : (if (a0.size : Int) = 1 then (some (t213, true)) else (if 0 < (a0.size : Int) then (some (t213, ((bt a0 0) != 48))) else (none))) = some (r1, r2) := by rw [if_pos rfl] at H; exact H
   clear H
   have H := H1
   clear H1
   by_cases c5 : (a0.size : Int) = 1
   · rw [if_pos c5] at H
     have c5b0 : ((a0.size : Int) == 1) = true := beq_iff_eq.mpr c5
     have c5b1 : ((a0.size : Int) != 1) = false := bne_eq_false_iff_eq.mpr c5
     clear c5
     simp only [Option.some.injEq, Prod.mk.injEq] at H
     obtain ⟨rfl, rfl⟩ := H
     go_enter Try.func89, Try.ntmps89
     go_wp2_with (first | (go_at_call 116; (with_reducible refine (num_count.calls a0 a1 t213 true _ A3.out).mono ?_); rintro e w6 ⟨rfl, hb⟩; replace HB := bws_ HB hb; (try clear hb); (try clear hb2); (try clear hk); (try clear hi)))
     repeat (go_quiet (first | (go_at_call 116; (with_reducible refine (num_count.calls a0 a1 t213 true _ A3.out).mono ?_); rintro e w6 ⟨rfl, hb⟩; replace HB := bws_ HB hb; (try clear hb); (try clear hb2); (try clear hk); (try clear hi))); try go_wp2_with (first | (go_at_call 116; (with_reducible refine (num_count.calls a0 a1 t213 true _ A3.out).mono ?_); rintro e w6 ⟨rfl, hb⟩; replace HB := bws_ HB hb; (try clear hb); (try clear hb2); (try clear hk); (try clear hi))))
     go_ret2
     exact ⟨by first | rfl | (simp [*] <;> rfl), bw_ HB⟩
   · rw [if_neg c5] at H
     have c5b0 : ((a0.size : Int) == 1) = false := beq_eq_false_iff_ne.mpr c5
     have c5b1 : ((a0.size : Int) != 1) = true := bne_iff_ne.mpr c5
     by_cases c7 : 0 < (a0.size : Int)
     · rw [if_pos c7] at H
       have c7b0 : decide (0 < (a0.size : Int)) = true := decide_eq_true c7
       have c7b1 : decide (0 < a0.size) = true := decide_eq_true (by omega)
       clear c7
       simp only [Option.some.injEq, Prod.mk.injEq] at H
       obtain ⟨rfl, rfl⟩ := H
       go_enter Try.func89, Try.ntmps89
       go_wp2_with (first | (go_at_call 116; (with_reducible refine (num_count.calls a0 a1 t213 true _ A3.out).mono ?_); rintro e w9 ⟨rfl, hb⟩; replace HB := bws_ HB hb; (try clear hb); (try clear hb2); (try clear hk); (try clear hi); have p8 : 0 ≤ (0 : Int) := (by omega); have q8 : 0 < a0.size := (by have : (0 : Int) < (a0.size : Int) := of_decide_eq_true (by first | (with_reducible assumption) | assumption); omega); have hx8 : ∀ h : 0 < a0.size, ((a0[0]'h).toNat : Int) = bt a0 0 := bt_at a0 0; clear p8; have qi8 : (0 < (a0.size : Int)) = True := eq_true (of_decide_eq_true (by first | (with_reducible assumption) | assumption)); replace q8 := eq_true q8))
       repeat (go_quiet (first | (go_at_call 116; (with_reducible refine (num_count.calls a0 a1 t213 true _ A3.out).mono ?_); rintro e w9 ⟨rfl, hb⟩; replace HB := bws_ HB hb; (try clear hb); (try clear hb2); (try clear hk); (try clear hi); have p8 : 0 ≤ (0 : Int) := (by omega); have q8 : 0 < a0.size := (by have : (0 : Int) < (a0.size : Int) := of_decide_eq_true (by first | (with_reducible assumption) | assumption); omega); have hx8 : ∀ h : 0 < a0.size, ((a0[0]'h).toNat : Int) = bt a0 0 := bt_at a0 0; clear p8; have qi8 : (0 < (a0.size : Int)) = True := eq_true (of_decide_eq_true (by first | (with_reducible assumption) | assumption)); replace q8 := eq_true q8)); try go_wp2_with (first | (go_at_call 116; (with_reducible refine (num_count.calls a0 a1 t213 true _ A3.out).mono ?_); rintro e w9 ⟨rfl, hb⟩; replace HB := bws_ HB hb; (try clear hb); (try clear hb2); (try clear hk); (try clear hi); have p8 : 0 ≤ (0 : Int) := (by omega); have q8 : 0 < a0.size := (by have : (0 : Int) < (a0.size : Int) := of_decide_eq_true (by first | (with_reducible assumption) | assumption); omega); have hx8 : ∀ h : 0 < a0.size, ((a0[0]'h).toNat : Int) = bt a0 0 := bt_at a0 0; clear p8; have qi8 : (0 < (a0.size : Int)) = True := eq_true (of_decide_eq_true (by first | (with_reducible assumption) | assumption)); replace q8 := eq_true q8)))
       go_ret2
       exact ⟨by first | rfl | (simp [*] <;> rfl), bw_ HB⟩
     · rw [if_neg c7] at H
       exact absurd H (by simp)
 · replace c4 := Bool.eq_false_iff.mpr c4
   subst c4
   have H1 : (some (t213, false)) = some (r1, r2) := by rw [if_neg (show ¬ (false = true) by decide)] at H; exact H
   clear H
   have H := H1
   clear H1
   simp only [Option.some.injEq, Prod.mk.injEq] at H
   obtain ⟨rfl, rfl⟩ := H
   go_enter Try.func89, Try.ntmps89
   go_wp2_with (first | (go_at_call 116; (with_reducible refine (num_count.calls a0 a1 t213 false _ A3.out).mono ?_); rintro e w10 ⟨rfl, hb⟩; replace HB := bws_ HB hb; (try clear hb); (try clear hb2); (try clear hk); (try clear hi)))
   repeat (go_quiet (first | (go_at_call 116; (with_reducible refine (num_count.calls a0 a1 t213 false _ A3.out).mono ?_); rintro e w10 ⟨rfl, hb⟩; replace HB := bws_ HB hb; (try clear hb); (try clear hb2); (try clear hk); (try clear hi))); try go_wp2_with (first | (go_at_call 116; (with_reducible refine (num_count.calls a0 a1 t213 false _ A3.out).mono ?_); rintro e w10 ⟨rfl, hb⟩; replace HB := bws_ HB hb; (try clear hb); (try clear hb2); (try clear hk); (try clear hi))))
   go_ret2
   exact ⟨by first | rfl | (simp [*] <;> rfl), bw_ HB⟩
/-! ### num_decimal: function 88 -/
def num_decimal.f (k : Nat) (a0 : ByteArray) (a1 : ByteArray) (a2 : Bool) : Option (Int × Int × Int) := (num_plain.f a0 9).bind fun bt217 => ((num_count.f a1 9).bind fun bt219 => (if bt217.2 = true then (if bt219.2 = true then ((num_power.f k (a1.size : Int)).bind fun t221 => (if a2 = true then ((num_ratio_num.f k (wrap64 (-(wrap64 ((wrap64 (bt217.1 * t221)) + bt219.1)))) t221).bind fun tz_ => exc tz_ (fun tp224 => (some (0, 0, 8))) (fun bt222 => (some (bt222.1, bt222.2, 0)))) else ((num_ratio_num.f k (wrap64 ((wrap64 (bt217.1 * t221)) + bt219.1)) t221).bind fun tz_ => exc tz_ (fun tp227 => (some (0, 0, 8))) (fun bt225 => (some (bt225.1, bt225.2, 0)))))) else (some (0, 0, 1))) else (some (0, 0, 1))))
theorem num_decimal.mono : ∀ a0 a1 a2 k, LeO (num_decimal.f k a0 a1 a2) (num_decimal.f (k + 1) a0 a1 a2) := by
  intro a0 a1 a2 k
  unfold num_decimal.f
  repeat' first
      | (with_reducible exact num_power.mono _ _)
      | (with_reducible exact num_ratio_num.mono _ _ _)
      | (with_reducible exact LeO.refl _)
      | (with_reducible exact LeO.none _)
      | (with_reducible refine LeO.ite ?_ ?_)
      | (with_reducible refine LeO.bind ?_ (fun _ => ?_))
      | (with_reducible refine LeO.exc (fun _ => ?_) (fun _ => ?_))
      | exact num_power.mono _ _
      | exact num_ratio_num.mono _ _ _
      | exact LeO.none _
      | refine LeO.ite ?_ ?_
      | refine LeO.bind ?_ (fun _ => ?_)
set_option maxHeartbeats 8000000 in
set_option maxRecDepth 100000 in
theorem num_decimal.calls (k : Nat) (a0 : ByteArray) (a1 : ByteArray) (a2 : Bool) (r1 : Int) (r2 : Int) (r3 : Int) (w : World) (h : num_decimal.f k a0 a1 a2 = some (r1, r2, r3)) :
    Calls Try.prog 88 #[.string a0, .string a1, .bool a2] w fun e w' => e = .returned (.tuple #[.agg #[.int .i64 r1, .int .i64 r2], .int .i64 r3]) ∧ Below w.heap.size w w' := by
 have hu23 := Try.underlying23
 have hu65 := Try.underlying65
 have HB := Aside0.mk (Below.refl w.heap.size w)
 have H : ((num_plain.f a0 9).bind fun bt217 => ((num_count.f a1 9).bind fun bt219 => (if bt217.2 = true then (if bt219.2 = true then ((num_power.f k (a1.size : Int)).bind fun t221 => (if a2 = true then ((num_ratio_num.f k (wrap64 (-(wrap64 ((wrap64 (bt217.1 * t221)) + bt219.1)))) t221).bind fun tz_ => exc tz_ (fun tp224 => (some (0, 0, 8))) (fun bt222 => (some (bt222.1, bt222.2, 0)))) else ((num_ratio_num.f k (wrap64 ((wrap64 (bt217.1 * t221)) + bt219.1)) t221).bind fun tz_ => exc tz_ (fun tp227 => (some (0, 0, 8))) (fun bt225 => (some (bt225.1, bt225.2, 0)))))) else (some (0, 0, 1))) else (some (0, 0, 1))))) = some (r1, r2, r3) := h
 clear h
 replace H := Option.bind_eq_some_iff.mp H
 obtain ⟨⟨t217, t218⟩, A40, H⟩ := H
 replace H : ((num_count.f a1 9).bind fun bt219 => (if t218 = true then (if bt219.2 = true then ((num_power.f k (a1.size : Int)).bind fun t221 => (if a2 = true then ((num_ratio_num.f k (wrap64 (-(wrap64 ((wrap64 (t217 * t221)) + bt219.1)))) t221).bind fun tz_ => exc tz_ (fun tp224 => (some (0, 0, 8))) (fun bt222 => (some (bt222.1, bt222.2, 0)))) else ((num_ratio_num.f k (wrap64 ((wrap64 (t217 * t221)) + bt219.1)) t221).bind fun tz_ => exc tz_ (fun tp227 => (some (0, 0, 8))) (fun bt225 => (some (bt225.1, bt225.2, 0)))))) else (some (0, 0, 1))) else (some (0, 0, 1)))) = some (r1, r2, r3) := H
 have A4 := Aside0.mk A40
 clear A40
 replace H := Option.bind_eq_some_iff.mp H
 obtain ⟨⟨t219, t220⟩, A50, H⟩ := H
 replace H : (if t218 = true then (if t220 = true then ((num_power.f k (a1.size : Int)).bind fun t221 => (if a2 = true then ((num_ratio_num.f k (wrap64 (-(wrap64 ((wrap64 (t217 * t221)) + t219)))) t221).bind fun tz_ => exc tz_ (fun tp224 => (some (0, 0, 8))) (fun bt222 => (some (bt222.1, bt222.2, 0)))) else ((num_ratio_num.f k (wrap64 ((wrap64 (t217 * t221)) + t219)) t221).bind fun tz_ => exc tz_ (fun tp227 => (some (0, 0, 8))) (fun bt225 => (some (bt225.1, bt225.2, 0)))))) else (some (0, 0, 1))) else (some (0, 0, 1))) = some (r1, r2, r3) := H
 have A5 := Aside0.mk A50
 clear A50
 by_cases c6 : t218 = true
 · subst c6
   have H1 : (if t220 = true then ((num_power.f k (a1.size : Int)).bind fun t221 => (if a2 = true then ((num_ratio_num.f k (wrap64 (-(wrap64 ((wrap64 (t217 * t221)) + t219)))) t221).bind fun tz_ => exc tz_ (fun tp224 => (some (0, 0, 8))) (fun bt222 => (some (bt222.1, bt222.2, 0)))) else ((num_ratio_num.f k (wrap64 ((wrap64 (t217 * t221)) + t219)) t221).bind fun tz_ => exc tz_ (fun tp227 => (some (0, 0, 8))) (fun bt225 => (some (bt225.1, bt225.2, 0)))))) else (some (0, 0, 1))) = some (r1, r2, r3) := by rw [if_pos rfl] at H; exact H
   clear H
   have H := H1
   clear H1
   by_cases c7 : t220 = true
   · subst c7
     have H1 : ((num_power.f k (a1.size : Int)).bind fun t221 => (if a2 = true then ((num_ratio_num.f k (wrap64 (-(wrap64 ((wrap64 (t217 * t221)) + t219)))) t221).bind fun tz_ => exc tz_ (fun tp224 => (some (0, 0, 8))) (fun bt222 => (some (bt222.1, bt222.2, 0)))) else ((num_ratio_num.f k (wrap64 ((wrap64 (t217 * t221)) + t219)) t221).bind fun tz_ => exc tz_ (fun tp227 => (some (0, 0, 8))) (fun bt225 => (some (bt225.1, bt225.2, 0)))))) = some (r1, r2, r3) := by rw [if_pos rfl] at H; exact H
     clear H
     have H := H1
     clear H1
     replace H := Option.bind_eq_some_iff.mp H
     obtain ⟨t221, A80, H⟩ := H
     replace H : (if a2 = true then ((num_ratio_num.f k (wrap64 (-(wrap64 ((wrap64 (t217 * t221)) + t219)))) t221).bind fun tz_ => exc tz_ (fun tp224 => (some (0, 0, 8))) (fun bt222 => (some (bt222.1, bt222.2, 0)))) else ((num_ratio_num.f k (wrap64 ((wrap64 (t217 * t221)) + t219)) t221).bind fun tz_ => exc tz_ (fun tp227 => (some (0, 0, 8))) (fun bt225 => (some (bt225.1, bt225.2, 0))))) = some (r1, r2, r3) := H
     have A8 := Aside0.mk A80
     clear A80
     by_cases c9 : a2 = true
     · subst c9
       have H1 : ((num_ratio_num.f k (wrap64 (-(wrap64 ((wrap64 (t217 * t221)) + t219)))) t221).bind fun tz_ => exc tz_ (fun tp224 => (some (0, 0, 8))) (fun bt222 => (some (bt222.1, bt222.2, 0)))) = some (r1, r2, r3) := by rw [if_pos rfl] at H; exact H
       clear H
       have H := H1
       clear H1
       replace H := Option.bind_eq_some_iff.mp H
       obtain ⟨tz_, A100, H⟩ := H
       cases tz_ with
       | error tp224 =>
        replace H : (some (0, 0, 8)) = some (r1, r2, r3) := H
        have A10 := Aside0.mk A100
        clear A100
        simp only [Option.some.injEq, Prod.mk.injEq] at H
        obtain ⟨rfl, rfl, rfl⟩ := H
        go_enter_defers Try.func88, Try.ntmps88
        go_wp2_with (first | ((with_reducible refine gate_dst (N := 6) rfl ?_); refine box_event ?hg (N := 6) ?hd (cs := #[.int .i64 0, .int .i64 0]) (t := 23) ?hr ?_; (case hd => rfl); (case hg => rfl); (case hr => first | (go_simp; done) | (go_simp; rfl)); intro gb215 hg w11 hbox hb; have BK215 := Aside0.mk hbox; have GW215 := bwg_ HB hg; have GE215 := bwg_ HB hg; replace HB := bws_ HB hb; clear hb hbox hg) | ((with_reducible refine gate_dst (N := 7) rfl ?_); refine box_event ?hg (N := 7) ?hd (cs := #[.int .i64 0]) (t := 26) ?hr ?_; (case hd => rfl); (case hg => rfl); (case hr => first | (go_simp; done) | (go_simp; rfl)); intro gb216 hg w12 hbox hb; have BK216 := Aside0.mk hbox; have GW216 := bwg_ HB hg; have GE216 := bwg_ HB hg; replace HB := bws_ HB hb; have NB215_216 := bkl_ BK215 hg; have NB216_215 := bkr_ BK215 hg; replace BK215 := bkb_ BK215 hb; clear hb hbox hg) | ((with_reducible refine gate_callee (f := 89) rfl ?_); refine gla_ (some 15) Try.func89 #[.string a0, .int .i64 9] ?_; (with_reducible refine (num_plain.calls a0 9 t217 true _ A4.out).mono ?_); rintro e w13 ⟨rfl, hb⟩; refine ⟨_, rfl, ?_⟩; replace BK215 := bkb_ BK215 hb; replace BK216 := bkb_ BK216 hb; replace HB := bws_ HB hb; (try clear hb); (try clear hb2); (try clear hk); (try clear hi)) | ((with_reducible refine gate_callee (f := 116) rfl ?_); refine gla_ (some 20) Try.func116 #[.string a1, .int .i64 9] ?_; (with_reducible refine (num_count.calls a1 9 t219 true _ A5.out).mono ?_); rintro e w14 ⟨rfl, hb⟩; refine ⟨_, rfl, ?_⟩; replace BK215 := bkb_ BK215 hb; replace BK216 := bkb_ BK216 hb; replace HB := bws_ HB hb; (try clear hb); (try clear hb2); (try clear hk); (try clear hi)) | ((with_reducible refine gate_callee (f := 81) rfl ?_); refine gla_ (some 32) Try.func81 #[.int .i64 (a1.size : Int)] ?_; (with_reducible refine (num_power.calls k (a1.size : Int) t221 _ A8.out).mono ?_); rintro e w' ⟨rfl, ⟨nd, rfl⟩⟩; refine ⟨_, rfl, ?_⟩) | (go_at_call 73; (with_reducible refine (num_ratio_num.throws k (wrap64 (-(wrap64 ((wrap64 (t217 * t221)) + t219)))) t221 tp224 _ A10.out).mono ?_); rintro e w15 ⟨rfl, hb⟩; replace BK215 := bkb_ BK215 hb; replace BK216 := bkb_ BK216 hb; replace HB := bws_ HB hb; (try clear hb); (try clear hb2); (try clear hk); (try clear hi)))
        show Leaves _ _ _ _ _ _ _
        exact num_catch.door_caught rfl _ _ _ gb215 gb216 _ _ _ rfl rfl (bk_ BK215) (bk_ BK216) NB215_216.out (bw_ HB) GE215.out GE216.out
       | ok bt222 =>
        obtain ⟨t222, t223⟩ := bt222
        replace H : (some (t222, t223, 0)) = some (r1, r2, r3) := H
        have A10 := Aside0.mk A100
        clear A100
        simp only [Option.some.injEq, Prod.mk.injEq] at H
        obtain ⟨rfl, rfl, rfl⟩ := H
        go_enter_defers Try.func88, Try.ntmps88
        go_wp2_with (first | ((with_reducible refine gate_dst (N := 6) rfl ?_); refine box_event ?hg (N := 6) ?hd (cs := #[.int .i64 0, .int .i64 0]) (t := 23) ?hr ?_; (case hd => rfl); (case hg => rfl); (case hr => first | (go_simp; done) | (go_simp; rfl)); intro gb215 hg w16 hbox hb; have BK215 := Aside0.mk hbox; have GW215 := bwg_ HB hg; have GE215 := bwg_ HB hg; replace HB := bws_ HB hb; clear hb hbox hg) | ((with_reducible refine gate_dst (N := 7) rfl ?_); refine box_event ?hg (N := 7) ?hd (cs := #[.int .i64 0]) (t := 26) ?hr ?_; (case hd => rfl); (case hg => rfl); (case hr => first | (go_simp; done) | (go_simp; rfl)); intro gb216 hg w17 hbox hb; have BK216 := Aside0.mk hbox; have GW216 := bwg_ HB hg; have GE216 := bwg_ HB hg; replace HB := bws_ HB hb; have NB215_216 := bkl_ BK215 hg; have NB216_215 := bkr_ BK215 hg; replace BK215 := bkb_ BK215 hb; clear hb hbox hg) | ((with_reducible refine gate_callee (f := 89) rfl ?_); refine gla_ (some 15) Try.func89 #[.string a0, .int .i64 9] ?_; (with_reducible refine (num_plain.calls a0 9 t217 true _ A4.out).mono ?_); rintro e w18 ⟨rfl, hb⟩; refine ⟨_, rfl, ?_⟩; replace BK215 := bkb_ BK215 hb; replace BK216 := bkb_ BK216 hb; replace HB := bws_ HB hb; (try clear hb); (try clear hb2); (try clear hk); (try clear hi)) | ((with_reducible refine gate_callee (f := 116) rfl ?_); refine gla_ (some 20) Try.func116 #[.string a1, .int .i64 9] ?_; (with_reducible refine (num_count.calls a1 9 t219 true _ A5.out).mono ?_); rintro e w19 ⟨rfl, hb⟩; refine ⟨_, rfl, ?_⟩; replace BK215 := bkb_ BK215 hb; replace BK216 := bkb_ BK216 hb; replace HB := bws_ HB hb; (try clear hb); (try clear hb2); (try clear hk); (try clear hi)) | ((with_reducible refine gate_callee (f := 81) rfl ?_); refine gla_ (some 32) Try.func81 #[.int .i64 (a1.size : Int)] ?_; (with_reducible refine (num_power.calls k (a1.size : Int) t221 _ A8.out).mono ?_); rintro e w' ⟨rfl, ⟨nd, rfl⟩⟩; refine ⟨_, rfl, ?_⟩; (try (rw [drewN_self w19]; generalize hq_ : World.drewN w19 _ = w19; have n0_ : Aside0 (w19.heap[gb215]? = some (.cells #[.int .i64 0, .int .i64 0] 23 (0, 0))) := ⟨by rw [← hq_]; exact (bk_ BK215)⟩; have n1_ : Aside0 (w19.heap[gb216]? = some (.cells #[.int .i64 0] 26 (0, 0))) := ⟨by rw [← hq_]; exact (bk_ BK216)⟩; have n2_ : Aside0 (Below w.heap.size w w19) := ⟨by rw [← hq_]; exact (bw_ HB)⟩; clear BK215 BK216 HB hq_; have BK215 := n0_; have BK216 := n1_; have HB := n2_; clear n0_ n1_ n2_))) | ((with_reducible refine gate_callee (f := 73) rfl ?_); refine gla_ (some 44) Try.func73 #[.agg #[.int .i64 (wrap64 (-(wrap64 ((wrap64 (t217 * t221)) + t219)))), .int .i64 t221]] ?_; (with_reducible refine (num_ratio_num.calls k (wrap64 (-(wrap64 ((wrap64 (t217 * t221)) + t219)))) t221 t222 t223 _ A10.out).mono ?_); rintro e w20 ⟨rfl, hb⟩; refine ⟨_, rfl, ?_⟩; replace BK215 := bkb_ BK215 hb; replace BK216 := bkb_ BK216 hb; replace HB := bws_ HB hb; (try clear hb); (try clear hb2); (try clear hk); (try clear hi); have hnb21 := NB215_216.out; have hnc21 := NB216_215.out; obtain ⟨hcz22_0, hcz22_1, hfz22_0, hfz22_1⟩ := bc2_ BK215; obtain ⟨hcz23_0, hfz23_0⟩ := bc1_ BK216))
        show Leaves _ _ _ _ _ _ _
        exact num_catch.door_ok rfl _ _ _ gb215 gb216 _ _ _ rfl rfl (by refine bf_ ?_ NB215_216; refine bp_ (cs := #[.int .i64 t222, .int .i64 0]) ?_ 1; refine bp_ (cs := #[.int .i64 0, .int .i64 0]) ?_ 0; exact bk_ BK215) (by refine bp_ (cs := #[.int .i64 0]) ?_ 0; refine bf_ ?_ NB216_215; refine bf_ ?_ NB216_215; exact bk_ BK216) (bw_ HB)
     · replace c9 := Bool.eq_false_iff.mpr c9
       subst c9
       have H1 : ((num_ratio_num.f k (wrap64 ((wrap64 (t217 * t221)) + t219)) t221).bind fun tz_ => exc tz_ (fun tp227 => (some (0, 0, 8))) (fun bt225 => (some (bt225.1, bt225.2, 0)))) = some (r1, r2, r3) := by rw [if_neg (show ¬ (false = true) by decide)] at H; exact H
       clear H
       have H := H1
       clear H1
       replace H := Option.bind_eq_some_iff.mp H
       obtain ⟨tz_, A240, H⟩ := H
       cases tz_ with
       | error tp227 =>
        replace H : (some (0, 0, 8)) = some (r1, r2, r3) := H
        have A24 := Aside0.mk A240
        clear A240
        simp only [Option.some.injEq, Prod.mk.injEq] at H
        obtain ⟨rfl, rfl, rfl⟩ := H
        go_enter_defers Try.func88, Try.ntmps88
        go_wp2_with (first | ((with_reducible refine gate_dst (N := 6) rfl ?_); refine box_event ?hg (N := 6) ?hd (cs := #[.int .i64 0, .int .i64 0]) (t := 23) ?hr ?_; (case hd => rfl); (case hg => rfl); (case hr => first | (go_simp; done) | (go_simp; rfl)); intro gb215 hg w25 hbox hb; have BK215 := Aside0.mk hbox; have GW215 := bwg_ HB hg; have GE215 := bwg_ HB hg; replace HB := bws_ HB hb; clear hb hbox hg) | ((with_reducible refine gate_dst (N := 7) rfl ?_); refine box_event ?hg (N := 7) ?hd (cs := #[.int .i64 0]) (t := 26) ?hr ?_; (case hd => rfl); (case hg => rfl); (case hr => first | (go_simp; done) | (go_simp; rfl)); intro gb216 hg w26 hbox hb; have BK216 := Aside0.mk hbox; have GW216 := bwg_ HB hg; have GE216 := bwg_ HB hg; replace HB := bws_ HB hb; have NB215_216 := bkl_ BK215 hg; have NB216_215 := bkr_ BK215 hg; replace BK215 := bkb_ BK215 hb; clear hb hbox hg) | ((with_reducible refine gate_callee (f := 89) rfl ?_); refine gla_ (some 15) Try.func89 #[.string a0, .int .i64 9] ?_; (with_reducible refine (num_plain.calls a0 9 t217 true _ A4.out).mono ?_); rintro e w27 ⟨rfl, hb⟩; refine ⟨_, rfl, ?_⟩; replace BK215 := bkb_ BK215 hb; replace BK216 := bkb_ BK216 hb; replace HB := bws_ HB hb; (try clear hb); (try clear hb2); (try clear hk); (try clear hi)) | ((with_reducible refine gate_callee (f := 116) rfl ?_); refine gla_ (some 20) Try.func116 #[.string a1, .int .i64 9] ?_; (with_reducible refine (num_count.calls a1 9 t219 true _ A5.out).mono ?_); rintro e w28 ⟨rfl, hb⟩; refine ⟨_, rfl, ?_⟩; replace BK215 := bkb_ BK215 hb; replace BK216 := bkb_ BK216 hb; replace HB := bws_ HB hb; (try clear hb); (try clear hb2); (try clear hk); (try clear hi)) | ((with_reducible refine gate_callee (f := 81) rfl ?_); refine gla_ (some 32) Try.func81 #[.int .i64 (a1.size : Int)] ?_; (with_reducible refine (num_power.calls k (a1.size : Int) t221 _ A8.out).mono ?_); rintro e w' ⟨rfl, ⟨nd, rfl⟩⟩; refine ⟨_, rfl, ?_⟩) | (go_at_call 73; (with_reducible refine (num_ratio_num.throws k (wrap64 ((wrap64 (t217 * t221)) + t219)) t221 tp227 _ A24.out).mono ?_); rintro e w29 ⟨rfl, hb⟩; replace BK215 := bkb_ BK215 hb; replace BK216 := bkb_ BK216 hb; replace HB := bws_ HB hb; (try clear hb); (try clear hb2); (try clear hk); (try clear hi)))
        show Leaves _ _ _ _ _ _ _
        exact num_catch.door_caught rfl _ _ _ gb215 gb216 _ _ _ rfl rfl (bk_ BK215) (bk_ BK216) NB215_216.out (bw_ HB) GE215.out GE216.out
       | ok bt225 =>
        obtain ⟨t225, t226⟩ := bt225
        replace H : (some (t225, t226, 0)) = some (r1, r2, r3) := H
        have A24 := Aside0.mk A240
        clear A240
        simp only [Option.some.injEq, Prod.mk.injEq] at H
        obtain ⟨rfl, rfl, rfl⟩ := H
        go_enter_defers Try.func88, Try.ntmps88
        go_wp2_with (first | ((with_reducible refine gate_dst (N := 6) rfl ?_); refine box_event ?hg (N := 6) ?hd (cs := #[.int .i64 0, .int .i64 0]) (t := 23) ?hr ?_; (case hd => rfl); (case hg => rfl); (case hr => first | (go_simp; done) | (go_simp; rfl)); intro gb215 hg w30 hbox hb; have BK215 := Aside0.mk hbox; have GW215 := bwg_ HB hg; have GE215 := bwg_ HB hg; replace HB := bws_ HB hb; clear hb hbox hg) | ((with_reducible refine gate_dst (N := 7) rfl ?_); refine box_event ?hg (N := 7) ?hd (cs := #[.int .i64 0]) (t := 26) ?hr ?_; (case hd => rfl); (case hg => rfl); (case hr => first | (go_simp; done) | (go_simp; rfl)); intro gb216 hg w31 hbox hb; have BK216 := Aside0.mk hbox; have GW216 := bwg_ HB hg; have GE216 := bwg_ HB hg; replace HB := bws_ HB hb; have NB215_216 := bkl_ BK215 hg; have NB216_215 := bkr_ BK215 hg; replace BK215 := bkb_ BK215 hb; clear hb hbox hg) | ((with_reducible refine gate_callee (f := 89) rfl ?_); refine gla_ (some 15) Try.func89 #[.string a0, .int .i64 9] ?_; (with_reducible refine (num_plain.calls a0 9 t217 true _ A4.out).mono ?_); rintro e w32 ⟨rfl, hb⟩; refine ⟨_, rfl, ?_⟩; replace BK215 := bkb_ BK215 hb; replace BK216 := bkb_ BK216 hb; replace HB := bws_ HB hb; (try clear hb); (try clear hb2); (try clear hk); (try clear hi)) | ((with_reducible refine gate_callee (f := 116) rfl ?_); refine gla_ (some 20) Try.func116 #[.string a1, .int .i64 9] ?_; (with_reducible refine (num_count.calls a1 9 t219 true _ A5.out).mono ?_); rintro e w33 ⟨rfl, hb⟩; refine ⟨_, rfl, ?_⟩; replace BK215 := bkb_ BK215 hb; replace BK216 := bkb_ BK216 hb; replace HB := bws_ HB hb; (try clear hb); (try clear hb2); (try clear hk); (try clear hi)) | ((with_reducible refine gate_callee (f := 81) rfl ?_); refine gla_ (some 32) Try.func81 #[.int .i64 (a1.size : Int)] ?_; (with_reducible refine (num_power.calls k (a1.size : Int) t221 _ A8.out).mono ?_); rintro e w' ⟨rfl, ⟨nd, rfl⟩⟩; refine ⟨_, rfl, ?_⟩; (try (rw [drewN_self w33]; generalize hq_ : World.drewN w33 _ = w33; have n0_ : Aside0 (w33.heap[gb215]? = some (.cells #[.int .i64 0, .int .i64 0] 23 (0, 0))) := ⟨by rw [← hq_]; exact (bk_ BK215)⟩; have n1_ : Aside0 (w33.heap[gb216]? = some (.cells #[.int .i64 0] 26 (0, 0))) := ⟨by rw [← hq_]; exact (bk_ BK216)⟩; have n2_ : Aside0 (Below w.heap.size w w33) := ⟨by rw [← hq_]; exact (bw_ HB)⟩; clear BK215 BK216 HB hq_; have BK215 := n0_; have BK216 := n1_; have HB := n2_; clear n0_ n1_ n2_))) | ((with_reducible refine gate_callee (f := 73) rfl ?_); refine gla_ (some 44) Try.func73 #[.agg #[.int .i64 (wrap64 ((wrap64 (t217 * t221)) + t219)), .int .i64 t221]] ?_; (with_reducible refine (num_ratio_num.calls k (wrap64 ((wrap64 (t217 * t221)) + t219)) t221 t225 t226 _ A24.out).mono ?_); rintro e w34 ⟨rfl, hb⟩; refine ⟨_, rfl, ?_⟩; replace BK215 := bkb_ BK215 hb; replace BK216 := bkb_ BK216 hb; replace HB := bws_ HB hb; (try clear hb); (try clear hb2); (try clear hk); (try clear hi); have hnb35 := NB215_216.out; have hnc35 := NB216_215.out; obtain ⟨hcz36_0, hcz36_1, hfz36_0, hfz36_1⟩ := bc2_ BK215; obtain ⟨hcz37_0, hfz37_0⟩ := bc1_ BK216))
        show Leaves _ _ _ _ _ _ _
        exact num_catch.door_ok rfl _ _ _ gb215 gb216 _ _ _ rfl rfl (by refine bf_ ?_ NB215_216; refine bp_ (cs := #[.int .i64 t225, .int .i64 0]) ?_ 1; refine bp_ (cs := #[.int .i64 0, .int .i64 0]) ?_ 0; exact bk_ BK215) (by refine bp_ (cs := #[.int .i64 0]) ?_ 0; refine bf_ ?_ NB216_215; refine bf_ ?_ NB216_215; exact bk_ BK216) (bw_ HB)
   · replace c7 := Bool.eq_false_iff.mpr c7
     subst c7
     have H1 : (some (0, 0, 1)) = some (r1, r2, r3) := by rw [if_neg (show ¬ (false = true) by decide)] at H; exact H
     clear H
     have H := H1
     clear H1
     simp only [Option.some.injEq, Prod.mk.injEq] at H
     obtain ⟨rfl, rfl, rfl⟩ := H
     go_enter_defers Try.func88, Try.ntmps88
     go_wp2_with (first | ((with_reducible refine gate_dst (N := 6) rfl ?_); refine box_event ?hg (N := 6) ?hd (cs := #[.int .i64 0, .int .i64 0]) (t := 23) ?hr ?_; (case hd => rfl); (case hg => rfl); (case hr => first | (go_simp; done) | (go_simp; rfl)); intro gb215 hg w38 hbox hb; have BK215 := Aside0.mk hbox; have GW215 := bwg_ HB hg; have GE215 := bwg_ HB hg; replace HB := bws_ HB hb; clear hb hbox hg) | ((with_reducible refine gate_dst (N := 7) rfl ?_); refine box_event ?hg (N := 7) ?hd (cs := #[.int .i64 0]) (t := 26) ?hr ?_; (case hd => rfl); (case hg => rfl); (case hr => first | (go_simp; done) | (go_simp; rfl)); intro gb216 hg w39 hbox hb; have BK216 := Aside0.mk hbox; have GW216 := bwg_ HB hg; have GE216 := bwg_ HB hg; replace HB := bws_ HB hb; have NB215_216 := bkl_ BK215 hg; have NB216_215 := bkr_ BK215 hg; replace BK215 := bkb_ BK215 hb; clear hb hbox hg) | ((with_reducible refine gate_callee (f := 89) rfl ?_); refine gla_ (some 15) Try.func89 #[.string a0, .int .i64 9] ?_; (with_reducible refine (num_plain.calls a0 9 t217 true _ A4.out).mono ?_); rintro e w40 ⟨rfl, hb⟩; refine ⟨_, rfl, ?_⟩; replace BK215 := bkb_ BK215 hb; replace BK216 := bkb_ BK216 hb; replace HB := bws_ HB hb; (try clear hb); (try clear hb2); (try clear hk); (try clear hi)) | ((with_reducible refine gate_callee (f := 116) rfl ?_); refine gla_ (some 20) Try.func116 #[.string a1, .int .i64 9] ?_; (with_reducible refine (num_count.calls a1 9 t219 false _ A5.out).mono ?_); rintro e w41 ⟨rfl, hb⟩; refine ⟨_, rfl, ?_⟩; replace BK215 := bkb_ BK215 hb; replace BK216 := bkb_ BK216 hb; replace HB := bws_ HB hb; (try clear hb); (try clear hb2); (try clear hk); (try clear hi); have hnb42 := NB215_216.out; have hnc42 := NB216_215.out; obtain ⟨hcz43_0, hcz43_1, hfz43_0, hfz43_1⟩ := bc2_ BK215; obtain ⟨hcz44_0, hfz44_0⟩ := bc1_ BK216))
     show Leaves _ _ _ _ _ _ _
     exact num_catch.door_ret rfl _ _ _ gb215 gb216 _ _ _ rfl rfl (by refine bf_ ?_ NB215_216; refine bp_ (cs := #[.int .i64 0, .int .i64 0]) ?_ 1; refine bp_ (cs := #[.int .i64 0, .int .i64 0]) ?_ 0; exact bk_ BK215) (by refine bp_ (cs := #[.int .i64 0]) ?_ 0; refine bf_ ?_ NB216_215; refine bf_ ?_ NB216_215; exact bk_ BK216) (bw_ HB)
 · replace c6 := Bool.eq_false_iff.mpr c6
   subst c6
   have H1 : (some (0, 0, 1)) = some (r1, r2, r3) := by rw [if_neg (show ¬ (false = true) by decide)] at H; exact H
   clear H
   have H := H1
   clear H1
   simp only [Option.some.injEq, Prod.mk.injEq] at H
   obtain ⟨rfl, rfl, rfl⟩ := H
   go_enter_defers Try.func88, Try.ntmps88
   go_wp2_with (first | ((with_reducible refine gate_dst (N := 6) rfl ?_); refine box_event ?hg (N := 6) ?hd (cs := #[.int .i64 0, .int .i64 0]) (t := 23) ?hr ?_; (case hd => rfl); (case hg => rfl); (case hr => first | (go_simp; done) | (go_simp; rfl)); intro gb215 hg w45 hbox hb; have BK215 := Aside0.mk hbox; have GW215 := bwg_ HB hg; have GE215 := bwg_ HB hg; replace HB := bws_ HB hb; clear hb hbox hg) | ((with_reducible refine gate_dst (N := 7) rfl ?_); refine box_event ?hg (N := 7) ?hd (cs := #[.int .i64 0]) (t := 26) ?hr ?_; (case hd => rfl); (case hg => rfl); (case hr => first | (go_simp; done) | (go_simp; rfl)); intro gb216 hg w46 hbox hb; have BK216 := Aside0.mk hbox; have GW216 := bwg_ HB hg; have GE216 := bwg_ HB hg; replace HB := bws_ HB hb; have NB215_216 := bkl_ BK215 hg; have NB216_215 := bkr_ BK215 hg; replace BK215 := bkb_ BK215 hb; clear hb hbox hg) | ((with_reducible refine gate_callee (f := 89) rfl ?_); refine gla_ (some 15) Try.func89 #[.string a0, .int .i64 9] ?_; (with_reducible refine (num_plain.calls a0 9 t217 false _ A4.out).mono ?_); rintro e w47 ⟨rfl, hb⟩; refine ⟨_, rfl, ?_⟩; replace BK215 := bkb_ BK215 hb; replace BK216 := bkb_ BK216 hb; replace HB := bws_ HB hb; (try clear hb); (try clear hb2); (try clear hk); (try clear hi)) | ((with_reducible refine gate_callee (f := 116) rfl ?_); refine gla_ (some 20) Try.func116 #[.string a1, .int .i64 9] ?_; (with_reducible refine (num_count.calls a1 9 t219 t220 _ A5.out).mono ?_); rintro e w48 ⟨rfl, hb⟩; refine ⟨_, rfl, ?_⟩; replace BK215 := bkb_ BK215 hb; replace BK216 := bkb_ BK216 hb; replace HB := bws_ HB hb; (try clear hb); (try clear hb2); (try clear hk); (try clear hi); have hnb49 := NB215_216.out; have hnc49 := NB216_215.out; obtain ⟨hcz50_0, hcz50_1, hfz50_0, hfz50_1⟩ := bc2_ BK215; obtain ⟨hcz51_0, hfz51_0⟩ := bc1_ BK216))
   show Leaves _ _ _ _ _ _ _
   exact num_catch.door_ret rfl _ _ _ gb215 gb216 _ _ _ rfl rfl (by refine bf_ ?_ NB215_216; refine bp_ (cs := #[.int .i64 0, .int .i64 0]) ?_ 1; refine bp_ (cs := #[.int .i64 0, .int .i64 0]) ?_ 0; exact bk_ BK215) (by refine bp_ (cs := #[.int .i64 0]) ?_ 0; refine bf_ ?_ NB216_215; refine bf_ ?_ NB216_215; exact bk_ BK216) (bw_ HB)
/-! ### num_Parse: function 39 -/
mutual
def num_Parse.j1 : Nat → ByteArray → Bool → Int → Option (Int × Int × Int)
  | 0, _, _, _ => none
  | k + 1, x4, x5, x6 => if x6 < (x4.size : Int) then (if 0 ≤ x6 then (num_Parse.j2 k x4 x5 x6 ((bt x4 x6) == 46)) else (none)) else (num_Parse.j2 k x4 x5 x6 false)
def num_Parse.j2 : Nat → ByteArray → Bool → Int → Bool → Option (Int × Int × Int)
  | 0, _, _, _, _ => none
  | k + 1, x4, x5, x6, x37 => if x37 = true then (if 0 ≤ x6 then (if x6 ≤ (x4.size : Int) then (if 0 ≤ (wrap64 (x6 + 1)) then (if (wrap64 (x6 + 1)) ≤ (x4.size : Int) then ((num_decimal.f k (x4.extract 0 (x6 : Int).toNat) (x4.extract ((wrap64 (x6 + 1)) : Int).toNat x4.size) x5).bind fun bt231 => (some (bt231.1, bt231.2.1, bt231.2.2))) else (none)) else (none)) else (none)) else (none)) else (if 0 ≤ x6 then (if x6 ≤ (x4.size : Int) then ((num_plain.f (x4.extract 0 (x6 : Int).toNat) 10).bind fun bt234 => (if x6 < (x4.size : Int) then (if 0 ≤ (wrap64 (x6 + 1)) then (if (wrap64 (x6 + 1)) ≤ (x4.size : Int) then ((num_plain.f (x4.extract ((wrap64 (x6 + 1)) : Int).toNat x4.size) 10).bind fun bt236 => (if bt234.2 = true then (if bt236.2 = true then (num_Parse.j3 k x5 bt234.1 (decide (bt236.1 > 1)) bt236.1) else (num_Parse.j3 k x5 bt234.1 false bt236.1)) else (num_Parse.j3 k x5 bt234.1 false bt236.1))) else (none)) else (none)) else (num_Parse.j3 k x5 bt234.1 bt234.2 1))) else (none)) else (none))
def num_Parse.j3 : Nat → Bool → Int → Bool → Int → Option (Int × Int × Int)
  | 0, _, _, _, _ => none
  | k + 1, x5, x7, x8, x9 => if x5 = true then (if x8 = true then (if (wrap64 (-x7)) = 0 then (some (0, 0, 1)) else ((num_Check.f k (wrap64 (-x7)) x9).bind fun t238 => (if t238 = 0 then (some (wrap64 (-x7), x9, 0)) else (some (0, 0, 1))))) else (some (0, 0, 1))) else (if x8 = true then ((num_Check.f k x7 x9).bind fun t239 => (if t239 = 0 then (some (x7, x9, 0)) else (some (0, 0, 1)))) else (some (0, 0, 1)))
def num_Parse.l0 : Nat → ByteArray → Bool → Int → Option (Int × Int × Int)
  | 0, _, _, _ => none
  | k + 1, x4, x5, x6 => if x6 < (x4.size : Int) then (if 0 ≤ x6 then (if (bt x4 x6) = 46 then (num_Parse.j1 k x4 x5 x6) else (if (bt x4 x6) = 47 then (num_Parse.j1 k x4 x5 x6) else (num_Parse.l0 k x4 x5 (wrap64 (x6 + 1))))) else (none)) else (num_Parse.j1 k x4 x5 x6)
end
def num_Parse.f (k : Nat) (a0 : ByteArray) : Option (Int × Int × Int) := (strings_CutPrefix.f a0 (⟨#[45]⟩ : ByteArray)).bind fun bt229 => (num_Parse.l0 k bt229.1 bt229.2 0)
theorem num_Parse.mono_l : ∀ k, (∀ y0 y1 y2, LeO (num_Parse.j1 k y0 y1 y2) (num_Parse.j1 (k + 1) y0 y1 y2)) ∧ (∀ y0 y1 y2 y3, LeO (num_Parse.j2 k y0 y1 y2 y3) (num_Parse.j2 (k + 1) y0 y1 y2 y3)) ∧ (∀ y0 y1 y2 y3, LeO (num_Parse.j3 k y0 y1 y2 y3) (num_Parse.j3 (k + 1) y0 y1 y2 y3)) ∧ (∀ y0 y1 y2, LeO (num_Parse.l0 k y0 y1 y2) (num_Parse.l0 (k + 1) y0 y1 y2))
  | 0 => ⟨fun _ _ _ r h => by simp [num_Parse.j1] at h, fun _ _ _ _ r h => by simp [num_Parse.j2] at h, fun _ _ _ _ r h => by simp [num_Parse.j3] at h, fun _ _ _ r h => by simp [num_Parse.l0] at h⟩
  | k + 1 => by
    obtain ⟨ih0, ih1, ih2, ih3⟩ := num_Parse.mono_l k
    refine ⟨?_, ?_, ?_, ?_⟩
    · intro y0 y1 y2
      unfold num_Parse.j1
      repeat' first
      | (with_reducible exact ih0 _ _ _)
      | (with_reducible exact ih1 _ _ _ _)
      | (with_reducible exact ih2 _ _ _ _)
      | (with_reducible exact ih3 _ _ _)
      | (with_reducible exact num_Check.mono _ _ _)
      | (with_reducible exact num_decimal.mono _ _ _ _)
      | (with_reducible exact LeO.refl _)
      | (with_reducible exact LeO.none _)
      | (with_reducible refine LeO.ite ?_ ?_)
      | (with_reducible refine LeO.bind ?_ (fun _ => ?_))
      | (with_reducible refine LeO.exc (fun _ => ?_) (fun _ => ?_))
      | exact ih0 _ _ _
      | exact ih1 _ _ _ _
      | exact ih2 _ _ _ _
      | exact ih3 _ _ _
      | exact num_Check.mono _ _ _
      | exact num_decimal.mono _ _ _ _
      | exact LeO.none _
      | refine LeO.ite ?_ ?_
      | refine LeO.bind ?_ (fun _ => ?_)
    · intro y0 y1 y2 y3
      unfold num_Parse.j2
      repeat' first
      | (with_reducible exact ih0 _ _ _)
      | (with_reducible exact ih1 _ _ _ _)
      | (with_reducible exact ih2 _ _ _ _)
      | (with_reducible exact ih3 _ _ _)
      | (with_reducible exact num_Check.mono _ _ _)
      | (with_reducible exact num_decimal.mono _ _ _ _)
      | (with_reducible exact LeO.refl _)
      | (with_reducible exact LeO.none _)
      | (with_reducible refine LeO.ite ?_ ?_)
      | (with_reducible refine LeO.bind ?_ (fun _ => ?_))
      | (with_reducible refine LeO.exc (fun _ => ?_) (fun _ => ?_))
      | exact ih0 _ _ _
      | exact ih1 _ _ _ _
      | exact ih2 _ _ _ _
      | exact ih3 _ _ _
      | exact num_Check.mono _ _ _
      | exact num_decimal.mono _ _ _ _
      | exact LeO.none _
      | refine LeO.ite ?_ ?_
      | refine LeO.bind ?_ (fun _ => ?_)
    · intro y0 y1 y2 y3
      unfold num_Parse.j3
      repeat' first
      | (with_reducible exact ih0 _ _ _)
      | (with_reducible exact ih1 _ _ _ _)
      | (with_reducible exact ih2 _ _ _ _)
      | (with_reducible exact ih3 _ _ _)
      | (with_reducible exact num_Check.mono _ _ _)
      | (with_reducible exact num_decimal.mono _ _ _ _)
      | (with_reducible exact LeO.refl _)
      | (with_reducible exact LeO.none _)
      | (with_reducible refine LeO.ite ?_ ?_)
      | (with_reducible refine LeO.bind ?_ (fun _ => ?_))
      | (with_reducible refine LeO.exc (fun _ => ?_) (fun _ => ?_))
      | exact ih0 _ _ _
      | exact ih1 _ _ _ _
      | exact ih2 _ _ _ _
      | exact ih3 _ _ _
      | exact num_Check.mono _ _ _
      | exact num_decimal.mono _ _ _ _
      | exact LeO.none _
      | refine LeO.ite ?_ ?_
      | refine LeO.bind ?_ (fun _ => ?_)
    · intro y0 y1 y2
      unfold num_Parse.l0
      repeat' first
      | (with_reducible exact ih0 _ _ _)
      | (with_reducible exact ih1 _ _ _ _)
      | (with_reducible exact ih2 _ _ _ _)
      | (with_reducible exact ih3 _ _ _)
      | (with_reducible exact num_Check.mono _ _ _)
      | (with_reducible exact num_decimal.mono _ _ _ _)
      | (with_reducible exact LeO.refl _)
      | (with_reducible exact LeO.none _)
      | (with_reducible refine LeO.ite ?_ ?_)
      | (with_reducible refine LeO.bind ?_ (fun _ => ?_))
      | (with_reducible refine LeO.exc (fun _ => ?_) (fun _ => ?_))
      | exact ih0 _ _ _
      | exact ih1 _ _ _ _
      | exact ih2 _ _ _ _
      | exact ih3 _ _ _
      | exact num_Check.mono _ _ _
      | exact num_decimal.mono _ _ _ _
      | exact LeO.none _
      | refine LeO.ite ?_ ?_
      | refine LeO.bind ?_ (fun _ => ?_)
theorem num_Parse.mono : ∀ a0 k, LeO (num_Parse.f k a0) (num_Parse.f (k + 1) a0) := by
  intro a0 k
  obtain ⟨ih0, ih1, ih2, ih3⟩ := num_Parse.mono_l k
  unfold num_Parse.f
  repeat' first
      | (with_reducible exact ih0 _ _ _)
      | (with_reducible exact ih1 _ _ _ _)
      | (with_reducible exact ih2 _ _ _ _)
      | (with_reducible exact ih3 _ _ _)
      | (with_reducible exact num_Check.mono _ _ _)
      | (with_reducible exact num_decimal.mono _ _ _ _)
      | (with_reducible exact LeO.refl _)
      | (with_reducible exact LeO.none _)
      | (with_reducible refine LeO.ite ?_ ?_)
      | (with_reducible refine LeO.bind ?_ (fun _ => ?_))
      | (with_reducible refine LeO.exc (fun _ => ?_) (fun _ => ?_))
      | exact ih0 _ _ _
      | exact ih1 _ _ _ _
      | exact ih2 _ _ _ _
      | exact ih3 _ _ _
      | exact num_Check.mono _ _ _
      | exact num_decimal.mono _ _ _ _
      | exact LeO.none _
      | refine LeO.ite ?_ ?_
      | refine LeO.bind ?_ (fun _ => ?_)
def num_Parse.T9 : Bool × List (List Nat × List Nat) := (true, [([], []), ([], []), ([0, 1], [0, 1]), ([], []), ([], []), ([4], [4]), ([3, 5], [3, 5]), ([], []), ([2, 6, 7], [2, 6, 7]), ([8], [8]), ([8], [8]), ([9, 8, 0, 1, 2, 3, 4, 5, 6, 7, 8, 9, 10], [9]), ([10, 11, 0, 1, 2, 3, 4, 5, 6, 7, 8, 9, 10, 11], [10])])
def num_Parse.B9 : List Nat := [0, 0, 3, 0, 0, 16, 56, 0, 255, 511, 511, 2047, 4095]
theorem num_Parse.tab9 : rtab .any (opsOf Try.f39 9) = num_Parse.T9 := by kernel_rfl
theorem num_Parse.bits9 : waitsOk num_Parse.T9.2 num_Parse.B9 = true := by kernel_rfl
set_option maxHeartbeats 8000000 in
set_option maxRecDepth 100000 in
theorem num_Parse.calls (k : Nat) (a0 : ByteArray) (r1 : Int) (r2 : Int) (r3 : Int) (w : World) (h : num_Parse.f k a0 = some (r1, r2, r3)) :
    Calls Try.prog 39 #[.string a0] w fun e w' => e = .returned (.tuple #[.agg #[.int .i64 r1, .int .i64 r2], .int .i64 r3]) ∧ Below w.heap.size w w' := by
 have hu23 := Try.underlying23
 have HB := Aside0.mk (Below.refl w.heap.size w)
 have H : ((strings_CutPrefix.f a0 (⟨#[45]⟩ : ByteArray)).bind fun bt229 => (num_Parse.l0 k bt229.1 bt229.2 0)) = some (r1, r2, r3) := h
 clear h
 replace H := Option.bind_eq_some_iff.mp H
 obtain ⟨⟨t229, t230⟩, A20, H⟩ := H
 replace H : (num_Parse.l0 k t229 t230 0) = some (r1, r2, r3) := H
 have A2 := Aside0.mk A20
 clear A20
 have HC3 := Aside0.mk H
 clear H
 go_enter Try.func39, Try.ntmps39
 go_wp2_with (first | ((with_reducible refine gate_dst (N := 2) rfl ?_); refine box_event ?hg (N := 2) ?hd (cs := #[.int .i64 0, .int .i64 0]) (t := 23) ?hr ?_; (case hd => rfl); (case hg => rfl); (case hr => first | (go_simp; done) | (go_simp; rfl)); intro gb228 hg w4 hbox hb; have BK228 := Aside0.mk hbox; have GW228 := bwg_ HB hg; have GE228 := bwg_ HB hg; replace HB := bws_ HB hb; clear hb hbox hg) | ((with_reducible refine gate_callee (f := 87) rfl ?_); refine gla_ (some 13) Try.func87 #[.string a0, .string (⟨#[45]⟩ : ByteArray)] ?_; (with_reducible refine (strings_CutPrefix.calls a0 (⟨#[45]⟩ : ByteArray) t229 t230 _ A2.out).mono ?_); rintro e w' ⟨rfl, ⟨nd, rfl⟩⟩; refine ⟨_, rfl, ?_⟩))
 go_step3
 go_wp2_with (first | ((with_reducible refine gate_dst (N := 2) rfl ?_); refine box_event ?hg (N := 2) ?hd (cs := #[.int .i64 0, .int .i64 0]) (t := 23) ?hr ?_; (case hd => rfl); (case hg => rfl); (case hr => first | (go_simp; done) | (go_simp; rfl)); intro gb228 hg w4 hbox hb; have BK228 := Aside0.mk hbox; have GW228 := bwg_ HB hg; have GE228 := bwg_ HB hg; replace HB := bws_ HB hb; clear hb hbox hg) | ((with_reducible refine gate_callee (f := 87) rfl ?_); refine gla_ (some 13) Try.func87 #[.string a0, .string (⟨#[45]⟩ : ByteArray)] ?_; (with_reducible refine (strings_CutPrefix.calls a0 (⟨#[45]⟩ : ByteArray) t229 t230 _ A2.out).mono ?_); rintro e w' ⟨rfl, ⟨nd, rfl⟩⟩; refine ⟨_, rfl, ?_⟩))
 go_step3
 go_upto_block 0 with (fail)
 (try simp only [Act.put, List.setIfInBounds_toArray, List.set_cons_zero, List.set_cons_succ])
 go_cut [6] (fun v6 wc => ∃ (kq : Nat) (x6_2 : Int), v6 = .int .i64 x6_2 ∧ Aside0 (num_Parse.j1 kq t229 t230 x6_2 = some (r1, r2, r3)) ∧ Aside0 (kq ≤ k) ∧ Aside0 (wc.heap[gb228]? = some (.cells #[.int .i64 0, .int .i64 0] 23 (0, 0))) ∧ Aside0 (Below w.heap.size w wc))
 case first =>
  have H := HC3.out
  clear HC3
  have H' := Aside0.mk H
  clear H
  go_wp2
  go_loopg [6] k (fun kq v6 w' => ∃ (x6_1 : Int), v6 = .int .i64 x6_1 ∧ Aside0 (num_Parse.l0 kq t229 t230 x6_1 = some (r1, r2, r3)) ∧ Aside0 (kq ≤ k) ∧ Aside0 (w'.heap[gb228]? = some (.cells #[.int .i64 0, .int .i64 0] 23 (0, 0))) ∧ Aside0 (Below w.heap.size w w'))
  case atStart => exact ⟨(0), (by first | rfl | (simp; done) | (simp [*]; done)), H', ⟨Nat.le_refl _⟩, ⟨by exact bk_ BK228⟩, ⟨bw_ HB⟩⟩
  case round =>
   clear H'
   try clear p2
   try clear c3
   obtain ⟨x6_1, rfl, HA, HK1, BK228, HB⟩ := hrel
   cases gk with
   | zero => exact absurd HA.out (by simp [num_Parse.l0])
   | succ k1 =>
    have H := HA.out
    clear HA
    simp only [num_Parse.l0] at H
    by_cases c5 : x6_1 < (t229.size : Int)
    · rw [if_pos c5] at H
      have c5b0 : decide (x6_1 < (t229.size : Int)) = true := decide_eq_true c5
      clear c5
      (first | rw [c5b0] | (simp only [i64_w, i32_w]; rw [c5b0]) | skip)
      by_cases c6 : 0 ≤ x6_1
      · rw [if_pos c6] at H
        have c6b0 : decide (0 ≤ x6_1) = true := decide_eq_true c6
        clear c6
        by_cases c8 : (bt t229 x6_1) = 46
        · rw [if_pos c8] at H
          have c8b0 : ((bt t229 x6_1) == 46) = true := beq_iff_eq.mpr c8
          have c8b1 : ((bt t229 x6_1) != 46) = false := bne_eq_false_iff_eq.mpr c8
          clear c8
          have H' := Aside0.mk H
          clear H
          have p7 : 0 ≤ (x6_1 : Int) := of_decide_eq_true (by first | (with_reducible assumption) | assumption)
          have q7 : x6_1 < (t229.size : Int) := of_decide_eq_true (by first | (with_reducible assumption) | assumption)
          have hx7 := bt_at t229 x6_1
          replace p7 := eq_true p7
          replace q7 := eq_true q7
          go_wp2
          go_meet
          case rel => exact ⟨_, (x6_1), (by first | rfl | (simp; done) | (simp [*]; done)), H', ⟨by have := HK1.out; first | omega | exact Nat.le_refl _⟩, ⟨by exact bk_ BK228⟩, ⟨bw_ HB⟩⟩
        · rw [if_neg c8] at H
          have c8b0 : ((bt t229 x6_1) == 46) = false := beq_eq_false_iff_ne.mpr c8
          have c8b1 : ((bt t229 x6_1) != 46) = true := bne_iff_ne.mpr c8
          by_cases c9 : (bt t229 x6_1) = 47
          · rw [if_pos c9] at H
            have c9b0 : ((bt t229 x6_1) == 47) = true := beq_iff_eq.mpr c9
            have c9b1 : ((bt t229 x6_1) != 47) = false := bne_eq_false_iff_eq.mpr c9
            clear c9
            have H' := Aside0.mk H
            clear H
            have p7 : 0 ≤ (x6_1 : Int) := of_decide_eq_true (by first | (with_reducible assumption) | assumption)
            have q7 : x6_1 < (t229.size : Int) := of_decide_eq_true (by first | (with_reducible assumption) | assumption)
            have hx7 := bt_at t229 x6_1
            replace p7 := eq_true p7
            replace q7 := eq_true q7
            go_wp2
            go_meet
            case rel => exact ⟨_, (x6_1), (by first | rfl | (simp; done) | (simp [*]; done)), H', ⟨by have := HK1.out; first | omega | exact Nat.le_refl _⟩, ⟨by exact bk_ BK228⟩, ⟨bw_ HB⟩⟩
          · rw [if_neg c9] at H
            have c9b0 : ((bt t229 x6_1) == 47) = false := beq_eq_false_iff_ne.mpr c9
            have c9b1 : ((bt t229 x6_1) != 47) = true := bne_iff_ne.mpr c9
            have H' := Aside0.mk H
            clear H
            have p7 : 0 ≤ (x6_1 : Int) := of_decide_eq_true (by first | (with_reducible assumption) | assumption)
            have q7 : x6_1 < (t229.size : Int) := of_decide_eq_true (by first | (with_reducible assumption) | assumption)
            have hx7 := bt_at t229 x6_1
            replace p7 := eq_true p7
            replace q7 := eq_true q7
            go_wp2
            go_roundg k1
            case measure => have := HK1.out; omega
            case rel => exact ⟨(wrap64 (x6_1 + 1)), (by first | rfl | (simp; done) | (simp [*]; done)), H', ⟨by have := HK1.out; omega⟩, ⟨by exact bk_ BK228⟩, ⟨bw_ HB⟩⟩
      · rw [if_neg c6] at H
        exact absurd H (by simp)
    · rw [if_neg c5] at H
      have c5b0 : decide (x6_1 < (t229.size : Int)) = false := decide_eq_false c5
      clear c5
      (first | rw [c5b0] | (simp only [i64_w, i32_w]; rw [c5b0]) | skip)
      have H' := Aside0.mk H
      clear H
      go_wp2
      go_meet
      case rel => exact ⟨_, (x6_1), (by first | rfl | (simp; done) | (simp [*]; done)), H', ⟨by have := HK1.out; first | omega | exact Nat.le_refl _⟩, ⟨by exact bk_ BK228⟩, ⟨bw_ HB⟩⟩
 case rest =>
  clear HC3
  try clear p2
  try clear c3
  try clear c5
  try clear c5b0
  try clear c6
  try clear c6b0
  try clear p6
  try clear p7
  try clear q7
  try clear hx7
  try clear c8
  try clear c8b0
  try clear c8b1
  try clear c9
  try clear c9b0
  try clear c9b1
  try clear p2
  try clear p7
  try clear q7
  obtain ⟨kq, x6_2, rfl, HA, HJ2, BK228, HB⟩ := hcut
  cases kq with
  | zero => exact absurd HA.out (by simp [num_Parse.j1])
  | succ kj2 =>
   have H := HA.out
   clear HA
   simp only [num_Parse.j1] at H
   have HC10 := Aside0.mk H
   clear H
   go_upto_region 8 with (fail)
   go_cut [37] (fun v37 wc => ∃ (kq : Nat) (x37_9 : Bool), v37 = .bool x37_9 ∧ Aside0 (num_Parse.j2 kq t229 t230 x6_2 x37_9 = some (r1, r2, r3)) ∧ Aside0 (kq ≤ kj2) ∧ Aside0 (wc.heap[gb228]? = some (.cells #[.int .i64 0, .int .i64 0] 23 (0, 0))) ∧ Aside0 (Below w.heap.size w wc))
   case first =>
    have H := HC10.out
    clear HC10
    by_cases c11 : x6_2 < (t229.size : Int)
    · rw [if_pos c11] at H
      have c11b0 : decide (x6_2 < (t229.size : Int)) = true := decide_eq_true c11
      clear c11
      (first | rw [c11b0] | (simp only [i64_w, i32_w]; rw [c11b0]) | skip)
      by_cases c12 : 0 ≤ x6_2
      · rw [if_pos c12] at H
        have c12b0 : decide (0 ≤ x6_2) = true := decide_eq_true c12
        clear c12
        have H' := Aside0.mk H
        clear H
        have p13 : 0 ≤ (x6_2 : Int) := of_decide_eq_true (by first | (with_reducible assumption) | assumption)
        have q13 : x6_2 < (t229.size : Int) := of_decide_eq_true (by first | (with_reducible assumption) | assumption)
        have hx13 := bt_at t229 x6_2
        replace p13 := eq_true p13
        replace q13 := eq_true q13
        go_wp2
        go_meet
        case rel => exact ⟨_, (((bt t229 x6_2) == 46)), (by first | rfl | (simp; done) | (simp [*]; done)), H', ⟨by have := HJ2.out; first | omega | exact Nat.le_refl _⟩, ⟨by exact bk_ BK228⟩, ⟨bw_ HB⟩⟩
      · rw [if_neg c12] at H
        exact absurd H (by simp)
    · rw [if_neg c11] at H
      have c11b0 : decide (x6_2 < (t229.size : Int)) = false := decide_eq_false c11
      clear c11
      (first | rw [c11b0] | (simp only [i64_w, i32_w]; rw [c11b0]) | skip)
      have H' := Aside0.mk H
      clear H
      go_wp2
      go_meet
      case rel => exact ⟨_, (false), (by first | rfl | (simp; done) | (simp [*]; done)), H', ⟨by have := HJ2.out; first | omega | exact Nat.le_refl _⟩, ⟨by exact bk_ BK228⟩, ⟨bw_ HB⟩⟩
   case rest =>
    clear HC10
    try clear c1
    try clear p1
    try clear q1
    try clear hx1
    try clear p2
    try clear c3
    try clear c5
    try clear c5b0
    try clear c6
    try clear c6b0
    try clear p6
    try clear p7
    try clear q7
    try clear hx7
    try clear c8
    try clear c8b0
    try clear c8b1
    try clear c9
    try clear c9b0
    try clear c9b1
    try clear c11
    try clear c11b0
    try clear c12
    try clear c12b0
    try clear p13
    try clear q13
    try clear hx13
    try clear p13
    try clear p2
    try clear p6
    try clear p7
    try clear q13
    try clear q7
    obtain ⟨kq, x37_9, rfl, HA, HJ9, BK228, HB⟩ := hcut
    cases kq with
    | zero => exact absurd HA.out (by simp [num_Parse.j2])
    | succ kj9 =>
     have H := HA.out
     clear HA
     simp only [num_Parse.j2] at H
     by_cases c14 : x37_9 = true
     · subst c14
       have H1 : (if 0 ≤ x6_2 then (if x6_2 ≤ (t229.size : Int) then (if 0 ≤ (wrap64 (x6_2 + 1)) then (if (wrap64 (x6_2 + 1)) ≤ (t229.size : Int) then ((num_decimal.f kj9 (t229.extract 0 (x6_2 : Int).toNat) (t229.extract ((wrap64 (x6_2 + 1)) : Int).toNat t229.size) t230).bind fun bt231 => (some (bt231.1, bt231.2.1, bt231.2.2))) else (none)) else (none)) else (none)) else (none)) = some (r1, r2, r3) := by rw [if_pos rfl] at H; exact H
       clear H
       have H := H1
       clear H1
       by_cases c15 : 0 ≤ x6_2
       · rw [if_pos c15] at H
         have c15b0 := eq_true c15
         have c15b1 : decide (0 ≤ x6_2) = true := decide_eq_true c15
         clear c15
         by_cases c16 : x6_2 ≤ (t229.size : Int)
         · rw [if_pos c16] at H
           have c16b0 := eq_true c16
           have c16b1 : decide (x6_2 ≤ (t229.size : Int)) = true := decide_eq_true c16
           clear c16
           obtain ⟨ji17, hji17⟩ : ∃ j_ : Int, (wrap64 (x6_2 + 1)) = j_ := ⟨_, rfl⟩
           replace H : (if 0 ≤ (ji17) then (if (ji17) ≤ (t229.size : Int) then ((num_decimal.f kj9 (t229.extract 0 (x6_2 : Int).toNat) (t229.extract ((ji17) : Int).toNat t229.size) t230).bind fun bt231 => (some (bt231.1, bt231.2.1, bt231.2.2))) else (none)) else (none)) = some (r1, r2, r3) := by first | (rw [hji17] at H; exact H) | (simp only [hji17] at H ⊢; exact H)
           have hji17w : (IntKind.i64.wrap (x6_2 + 1)) = ji17 := (i64_w _).trans hji17
           by_cases c18 : 0 ≤ (ji17)
           · rw [if_pos c18] at H
             have c18b0 := eq_true c18
             have c18b1 : decide (0 ≤ (ji17)) = true := decide_eq_true c18
             clear c18
             by_cases c19 : (ji17) ≤ (t229.size : Int)
             · rw [if_pos c19] at H
               have c19b0 := eq_true c19
               have c19b1 : decide ((ji17) ≤ (t229.size : Int)) = true := decide_eq_true c19
               clear c19
               replace H := Option.bind_eq_some_iff.mp H
               obtain ⟨⟨t231, t232, t233⟩, A200, H⟩ := H
               replace H : (some (t231, t232, t233)) = some (r1, r2, r3) := H
               have A20 := Aside0.mk A200
               clear A200
               simp only [Option.some.injEq, Prod.mk.injEq] at H
               obtain ⟨rfl, rfl, rfl⟩ := H
               try go_wp2
               replace BK228 := Aside0.mk (blk_drew BK228.out)
               replace HB := Aside0.mk (below_drew1 HB.out)
               refine start_ (n := 13) (S := fun w' => True) (ds := []) #[false, false, false, false, false, false, false, false, false, false, false, false, false] (by kernel_rfl) rfl rfl trivial (fun hHeld => ?_); refine with_tabW num_Parse.tab9 num_Parse.bits9 (fun HT_ HW_ => ?_)
               generalize wc.drew = w21 at BK228 HB hHeld ⊢
               refine pure_ (i := 0) (N := some 38) (v := ?_) (a' := ?_) #[true, false, false, false, false, false, false, false, false, false, false, false, false] rfl rfl (any_of HT_.out (by kernel_rfl)) (fun _ _ _ h => h) (Or.inl ⟨by rfl, ?_⟩) ?_ ?_
               rotate_left
               · intro w'
                 go_simp
                 with_reducible rfl
               rotate_left
               · simp only [Act.put, List.setIfInBounds_toArray, List.set_cons_zero, List.set_cons_succ, i64_w, i32_w]
                 rfl
               refine pure_ (i := 1) (N := some 39) (v := ?_) (a' := ?_) #[true, true, false, false, false, false, false, false, false, false, false, false, false] rfl rfl (any_of HT_.out (by kernel_rfl)) (fun _ _ _ h => h) (Or.inl ⟨by rfl, ?_⟩) ?_ ?_
               rotate_left
               · intro w'
                 go_simp
                 with_reducible rfl
               rotate_left
               · simp only [Act.put, List.setIfInBounds_toArray, List.set_cons_zero, List.set_cons_succ, i64_w, i32_w]
                 rfl
               refine pure_ (i := 2) (N := some 40) (v := ?_) (a' := ?_) #[true, true, true, false, false, false, false, false, false, false, false, false, false] rfl rfl (any_of HT_.out (by kernel_rfl)) (fun _ _ _ h => h) (Or.inl ⟨by rfl, ?_⟩) ?_ ?_
               rotate_left
               · intro w'
                 go_simp
                 with_reducible rfl
               rotate_left
               · simp only [Act.put, List.setIfInBounds_toArray, List.set_cons_zero, List.set_cons_succ, i64_w, i32_w]
                 rfl
               refine pure_ (i := 3) (N := some 41) (v := ?_) (a' := ?_) #[true, true, true, true, false, false, false, false, false, false, false, false, false] rfl rfl (any_of HT_.out (by kernel_rfl)) (fun _ _ _ h => h) (Or.inl ⟨by rfl, ?_⟩) ?_ ?_
               rotate_left
               · intro w'
                 go_simp
                 with_reducible rfl
               rotate_left
               · simp only [Act.put, List.setIfInBounds_toArray, List.set_cons_zero, List.set_cons_succ, i64_w, i32_w]
                 rfl
               refine pure_ (i := 4) (N := some 42) (v := ?_) (a' := ?_) #[true, true, true, true, true, false, false, false, false, false, false, false, false] rfl rfl (any_of HT_.out (by kernel_rfl)) (fun _ _ _ h => h) (Or.inl ⟨by rfl, ?_⟩) ?_ ?_
               rotate_left
               · intro w'
                 go_simp
                 with_reducible rfl
               rotate_left
               · simp only [Act.put, List.setIfInBounds_toArray, List.set_cons_zero, List.set_cons_succ, i64_w, i32_w]
                 rfl
               refine pure_ (i := 5) (N := some 43) (v := ?_) (a' := ?_) #[true, true, true, true, true, true, false, false, false, false, false, false, false] rfl rfl (any_of HT_.out (by kernel_rfl)) (fun _ _ _ h => h) (Or.inl ⟨by rfl, ?_⟩) ?_ ?_
               rotate_left
               · intro w'
                 go_simp
                 with_reducible rfl
               rotate_left
               · simp only [Act.put, List.setIfInBounds_toArray, List.set_cons_zero, List.set_cons_succ, i64_w, i32_w]
                 rfl
               refine pure_ (i := 6) (N := some 44) (v := ?_) (a' := ?_) #[true, true, true, true, true, true, true, false, false, false, false, false, false] rfl rfl (any_of HT_.out (by kernel_rfl)) (fun _ _ _ h => h) (Or.inl ⟨by rfl, ?_⟩) ?_ ?_
               rotate_left
               · intro w'
                 go_simp
                 with_reducible rfl
               rotate_left
               · simp only [Act.put, List.setIfInBounds_toArray, List.set_cons_zero, List.set_cons_succ, i64_w, i32_w]
                 rfl
               refine pure_ (i := 7) (N := some 45) (v := ?_) (a' := ?_) #[true, true, true, true, true, true, true, true, false, false, false, false, false] rfl rfl (any_of HT_.out (by kernel_rfl)) (fun _ _ _ h => h) (Or.inl ⟨by rfl, ?_⟩) ?_ ?_
               rotate_left
               · intro w'
                 go_simp
                 with_reducible rfl
               rotate_left
               · simp only [Act.put, List.setIfInBounds_toArray, List.set_cons_zero, List.set_cons_succ, i64_w, i32_w]
                 rfl
               refine one_ (i := 8) (N := some 46) #[true, true, true, true, true, true, true, true, true, false, false, false, false] rfl rfl (one_of HT_.out (by kernel_rfl)) (by decide) (fun K hK => ?_)
               refine goes_ Try.func88 (by kernel_rfl) rfl #[.string (t229.extract 0 (x6_2 : Int).toNat), .string (t229.extract ((ji17) : Int).toNat t229.size), .bool t230] (by rfl) rfl rfl (by (try simp only [List.map_toArray, List.map_cons, List.map_nil]); first | done | (simp only [hji17]; rfl) | rfl | (simp only [List.length_drop, List.length_take]; rfl)) ?_
               with_reducible refine (num_decimal.calls kj9 (t229.extract 0 (x6_2 : Int).toNat) (t229.extract ((ji17) : Int).toNat t229.size) t230 t231 t232 t233 _ A20.out).mono ?_
               rintro e w22 ⟨rfl, hb⟩
               refine ⟨_, rfl, ?_⟩
               replace BK228 := bkb_ BK228 hb
               replace HB := bws_ HB hb
               (try clear hb)
               (try clear hb2)
               (try clear hk)
               (try clear hi)
               refine hK.out _ _ trivial (fun hHeld => ?_)
               clear hK K
               refine norm_ (a' := ?_) ?_ ?_
               rotate_left
               · show Act.put _ (some 46) _ = _
                 simp only [Act.put, List.setIfInBounds_toArray, List.set_cons_zero, List.set_cons_succ, i64_w, i32_w]
                 rfl
               refine pure_ (i := 9) (N := some 47) (v := ?_) (a' := ?_) #[true, true, true, true, true, true, true, true, true, true, false, false, false] rfl rfl (any_of HT_.out (by kernel_rfl)) (fun _ _ _ h => h) (Or.inl ⟨by rfl, ?_⟩) ?_ ?_
               rotate_left
               · intro w'
                 go_simp
                 with_reducible rfl
               rotate_left
               · simp only [Act.put, List.setIfInBounds_toArray, List.set_cons_zero, List.set_cons_succ, i64_w, i32_w]
                 rfl
               refine pure_ (i := 10) (N := some 48) (v := ?_) (a' := ?_) #[true, true, true, true, true, true, true, true, true, true, true, false, false] rfl rfl (any_of HT_.out (by kernel_rfl)) (fun _ _ _ h => h) (Or.inl ⟨by rfl, ?_⟩) ?_ ?_
               rotate_left
               · intro w'
                 go_simp
                 with_reducible rfl
               rotate_left
               · simp only [Act.put, List.setIfInBounds_toArray, List.set_cons_zero, List.set_cons_succ, i64_w, i32_w]
                 rfl
               refine one_ (i := 11) (N := none) #[true, true, true, true, true, true, true, true, true, true, true, true, false] rfl rfl (one_of HT_.out (by kernel_rfl)) (by decide) (fun K hK => ?_)
               have hs23 : w22.cell? ⟨gb228, 0, none⟩ = some (.int .i64 0) := (blk_cell BK228.out 0).trans rfl
               have hfs23 := blk_frozen BK228.out 0
               have hs24 : w22.cell? ⟨gb228, 1, none⟩ = some (.int .i64 0) := (blk_cell BK228.out 1).trans rfl
               have hfs24 := blk_frozen BK228.out 1
               refine skip_ (w1 := ?_) (by rfl) rfl ?_ ?_
               rotate_left
               · go_simp
                 rfl
               refine hK.out _ _ trivial (fun hHeld => ?_)
               clear hK K
               refine pure_ (i := 12) (N := some 3) (v := ?_) (a' := ?_) #[true, true, true, true, true, true, true, true, true, true, true, true, true] rfl rfl (any_of HT_.out (by kernel_rfl)) (fun _ _ _ h => h) (Or.inl ⟨by rfl, ?_⟩) ?_ ?_
               rotate_left
               · intro w'
                 go_simp
                 with_reducible rfl
               rotate_left
               · simp only [Act.put, List.setIfInBounds_toArray, List.set_cons_zero, List.set_cons_succ, i64_w, i32_w]
                 rfl
               refine done_ (done_of HT_.out (by kernel_rfl)) ?_
               try go_wp2
               try rw [Exit.noGoto_ret]
               refine bodyPost_ret (results_ct rfl _ _ gb228 23 #[.int .i64 t231, .int .i64 t232] (0, 0) _ rfl (by refine bp_ (cs := #[.int .i64 t231, .int .i64 0]) ?_ 1; refine bp_ (cs := #[.int .i64 0, .int .i64 0]) ?_ 0; exact bk_ BK228) Try.underlying23 rfl (by kernel_rfl)) rfl ?_
               exact ⟨by first | rfl | (simp [errW_none, errW_some] <;> rfl) | (simp only [← hji17]; first | rfl | (simp [errW_none, errW_some] <;> rfl)) | (simp [*, errW_none, errW_some] <;> rfl), bw_ HB⟩
             · rw [if_neg c19] at H
               exact absurd H (by simp)
           · rw [if_neg c18] at H
             exact absurd H (by simp)
         · rw [if_neg c16] at H
           exact absurd H (by simp)
       · rw [if_neg c15] at H
         exact absurd H (by simp)
     · replace c14 := Bool.eq_false_iff.mpr c14
       subst c14
       have H1 : (if 0 ≤ x6_2 then (if x6_2 ≤ (t229.size : Int) then ((num_plain.f (t229.extract 0 (x6_2 : Int).toNat) 10).bind fun bt234 => (if x6_2 < (t229.size : Int) then (if 0 ≤ (wrap64 (x6_2 + 1)) then (if (wrap64 (x6_2 + 1)) ≤ (t229.size : Int) then ((num_plain.f (t229.extract ((wrap64 (x6_2 + 1)) : Int).toNat t229.size) 10).bind fun bt236 => (if bt234.2 = true then (if bt236.2 = true then (num_Parse.j3 kj9 t230 bt234.1 (decide (bt236.1 > 1)) bt236.1) else (num_Parse.j3 kj9 t230 bt234.1 false bt236.1)) else (num_Parse.j3 kj9 t230 bt234.1 false bt236.1))) else (none)) else (none)) else (num_Parse.j3 kj9 t230 bt234.1 bt234.2 1))) else (none)) else (none)) = some (r1, r2, r3) := by rw [if_neg (show ¬ (false = true) by decide)] at H; exact H
       clear H
       have H := H1
       clear H1
       by_cases c25 : 0 ≤ x6_2
       · rw [if_pos c25] at H
         have c25b0 := eq_true c25
         have c25b1 : decide (0 ≤ x6_2) = true := decide_eq_true c25
         clear c25
         by_cases c26 : x6_2 ≤ (t229.size : Int)
         · rw [if_pos c26] at H
           have c26b0 := eq_true c26
           have c26b1 : decide (x6_2 ≤ (t229.size : Int)) = true := decide_eq_true c26
           clear c26
           replace H := Option.bind_eq_some_iff.mp H
           obtain ⟨⟨t234, t235⟩, A270, H⟩ := H
           replace H : (if x6_2 < (t229.size : Int) then (if 0 ≤ (wrap64 (x6_2 + 1)) then (if (wrap64 (x6_2 + 1)) ≤ (t229.size : Int) then ((num_plain.f (t229.extract ((wrap64 (x6_2 + 1)) : Int).toNat t229.size) 10).bind fun bt236 => (if t235 = true then (if bt236.2 = true then (num_Parse.j3 kj9 t230 t234 (decide (bt236.1 > 1)) bt236.1) else (num_Parse.j3 kj9 t230 t234 false bt236.1)) else (num_Parse.j3 kj9 t230 t234 false bt236.1))) else (none)) else (none)) else (num_Parse.j3 kj9 t230 t234 t235 1)) = some (r1, r2, r3) := H
           have A27 := Aside0.mk A270
           clear A270
           have HC28 := Aside0.mk H
           clear H
           go_upto_if 59 with (first | ((with_reducible refine gate_callee (f := 89) rfl ?_); refine gla_ (some 53) Try.func89 #[.string (t229.extract 0 (x6_2 : Int).toNat), .int .i64 10] ?_; (with_reducible refine (num_plain.calls (t229.extract 0 (x6_2 : Int).toNat) 10 t234 t235 _ A27.out).mono ?_); rintro e w29 ⟨rfl, hb⟩; refine ⟨_, rfl, ?_⟩; replace BK228 := bkb_ BK228 hb; replace HB := bws_ HB hb; (try clear hb); (try clear hb2); (try clear hk); (try clear hi)))
           (try simp only [Act.put, List.setIfInBounds_toArray, List.set_cons_zero, List.set_cons_succ])
           go_cut [8, 9] (fun v8 v9 wc => ∃ (kq : Nat) (x8_27 : Bool) (x9_27 : Int), v8 = .bool x8_27 ∧ v9 = .int .i64 x9_27 ∧ Aside0 (num_Parse.j3 kq t230 t234 x8_27 x9_27 = some (r1, r2, r3)) ∧ Aside0 (kq ≤ kj9) ∧ Aside0 (wc.heap[gb228]? = some (.cells #[.int .i64 0, .int .i64 0] 23 (0, 0))) ∧ Aside0 (Below w.heap.size w wc))
           case first =>
            have H := HC28.out
            clear HC28
            by_cases c30 : x6_2 < (t229.size : Int)
            · rw [if_pos c30] at H
              have c30b0 : decide (x6_2 < (t229.size : Int)) = true := decide_eq_true c30
              clear c30
              (first | rw [c30b0] | (simp only [i64_w, i32_w]; rw [c30b0]) | skip)
              obtain ⟨ji31, hji31⟩ : ∃ j_ : Int, (wrap64 (x6_2 + 1)) = j_ := ⟨_, rfl⟩
              replace H : (if 0 ≤ (ji31) then (if (ji31) ≤ (t229.size : Int) then ((num_plain.f (t229.extract ((ji31) : Int).toNat t229.size) 10).bind fun bt236 => (if t235 = true then (if bt236.2 = true then (num_Parse.j3 kj9 t230 t234 (decide (bt236.1 > 1)) bt236.1) else (num_Parse.j3 kj9 t230 t234 false bt236.1)) else (num_Parse.j3 kj9 t230 t234 false bt236.1))) else (none)) else (none)) = some (r1, r2, r3) := by first | (rw [hji31] at H; exact H) | (simp only [hji31] at H ⊢; exact H)
              have hji31w : (IntKind.i64.wrap (x6_2 + 1)) = ji31 := (i64_w _).trans hji31
              by_cases c32 : 0 ≤ (ji31)
              · rw [if_pos c32] at H
                have c32b0 := eq_true c32
                have c32b1 : decide (0 ≤ (ji31)) = true := decide_eq_true c32
                clear c32
                by_cases c33 : (ji31) ≤ (t229.size : Int)
                · rw [if_pos c33] at H
                  have c33b0 := eq_true c33
                  have c33b1 : decide ((ji31) ≤ (t229.size : Int)) = true := decide_eq_true c33
                  clear c33
                  replace H := Option.bind_eq_some_iff.mp H
                  obtain ⟨⟨t236, t237⟩, A340, H⟩ := H
                  replace H : (if t235 = true then (if t237 = true then (num_Parse.j3 kj9 t230 t234 (decide (t236 > 1)) t236) else (num_Parse.j3 kj9 t230 t234 false t236)) else (num_Parse.j3 kj9 t230 t234 false t236)) = some (r1, r2, r3) := H
                  have A34 := Aside0.mk A340
                  clear A340
                  by_cases c35 : t235 = true
                  · subst c35
                    have H1 : (if t237 = true then (num_Parse.j3 kj9 t230 t234 (decide (t236 > 1)) t236) else (num_Parse.j3 kj9 t230 t234 false t236)) = some (r1, r2, r3) := by rw [if_pos rfl] at H; exact H
                    clear H
                    have H := H1
                    clear H1
                    by_cases c36 : t237 = true
                    · subst c36
                      have H1 : (num_Parse.j3 kj9 t230 t234 (decide (t236 > 1)) t236) = some (r1, r2, r3) := by rw [if_pos rfl] at H; exact H
                      clear H
                      have H := H1
                      clear H1
                      have H' := Aside0.mk H
                      clear H
                      go_wp2_with (first | ((with_reducible refine gate_callee (f := 89) rfl ?_); refine goesL_ (some 65) rfl rfl Try.func89 (by kernel_rfl) rfl #[.string (t229.extract ((ji31) : Int).toNat t229.size), .int .i64 10] rfl (by (try simp only [List.map_toArray, List.map_cons, List.map_nil]); first | done | (simp only [hji31]; rfl) | rfl | (simp only [List.length_drop, List.length_take]; rfl)) ?_; (with_reducible refine (num_plain.calls (t229.extract ((ji31) : Int).toNat t229.size) 10 t236 true _ A34.out).mono ?_); rintro e w37 ⟨rfl, hb⟩; refine ⟨_, rfl, ?_⟩; replace BK228 := bkb_ BK228 hb; replace HB := bws_ HB hb; (try clear hb); (try clear hb2); (try clear hk); (try clear hi)))
                      go_meet
                      case rel => exact ⟨_, (decide (t236 > 1)), (t236), (by first | rfl | (simp; done) | (simp [*]; done)), (by first | rfl | (simp; done) | (simp [*]; done)), H', ⟨by have := HJ2.out; have := HJ9.out; first | omega | exact Nat.le_refl _⟩, ⟨by exact bk_ BK228⟩, ⟨bw_ HB⟩⟩
                    · replace c36 := Bool.eq_false_iff.mpr c36
                      subst c36
                      have H1 : (num_Parse.j3 kj9 t230 t234 false t236) = some (r1, r2, r3) := by rw [if_neg (show ¬ (false = true) by decide)] at H; exact H
                      clear H
                      have H := H1
                      clear H1
                      have H' := Aside0.mk H
                      clear H
                      go_wp2_with (first | ((with_reducible refine gate_callee (f := 89) rfl ?_); refine goesL_ (some 65) rfl rfl Try.func89 (by kernel_rfl) rfl #[.string (t229.extract ((ji31) : Int).toNat t229.size), .int .i64 10] rfl (by (try simp only [List.map_toArray, List.map_cons, List.map_nil]); first | done | (simp only [hji31]; rfl) | rfl | (simp only [List.length_drop, List.length_take]; rfl)) ?_; (with_reducible refine (num_plain.calls (t229.extract ((ji31) : Int).toNat t229.size) 10 t236 false _ A34.out).mono ?_); rintro e w38 ⟨rfl, hb⟩; refine ⟨_, rfl, ?_⟩; replace BK228 := bkb_ BK228 hb; replace HB := bws_ HB hb; (try clear hb); (try clear hb2); (try clear hk); (try clear hi)))
                      go_meet
                      case rel => exact ⟨_, (false), (t236), (by first | rfl | (simp; done) | (simp [*]; done)), (by first | rfl | (simp; done) | (simp [*]; done)), H', ⟨by have := HJ2.out; have := HJ9.out; first | omega | exact Nat.le_refl _⟩, ⟨by exact bk_ BK228⟩, ⟨bw_ HB⟩⟩
                  · replace c35 := Bool.eq_false_iff.mpr c35
                    subst c35
                    have H1 : (num_Parse.j3 kj9 t230 t234 false t236) = some (r1, r2, r3) := by rw [if_neg (show ¬ (false = true) by decide)] at H; exact H
                    clear H
                    have H := H1
                    clear H1
                    have H' := Aside0.mk H
                    clear H
                    go_wp2_with (first | ((with_reducible refine gate_callee (f := 89) rfl ?_); refine goesL_ (some 65) rfl rfl Try.func89 (by kernel_rfl) rfl #[.string (t229.extract ((ji31) : Int).toNat t229.size), .int .i64 10] rfl (by (try simp only [List.map_toArray, List.map_cons, List.map_nil]); first | done | (simp only [hji31]; rfl) | rfl | (simp only [List.length_drop, List.length_take]; rfl)) ?_; (with_reducible refine (num_plain.calls (t229.extract ((ji31) : Int).toNat t229.size) 10 t236 t237 _ A34.out).mono ?_); rintro e w39 ⟨rfl, hb⟩; refine ⟨_, rfl, ?_⟩; replace BK228 := bkb_ BK228 hb; replace HB := bws_ HB hb; (try clear hb); (try clear hb2); (try clear hk); (try clear hi)))
                    go_meet
                    case rel => exact ⟨_, (false), (t236), (by first | rfl | (simp; done) | (simp [*]; done)), (by first | rfl | (simp; done) | (simp [*]; done)), H', ⟨by have := HJ2.out; have := HJ9.out; first | omega | exact Nat.le_refl _⟩, ⟨by exact bk_ BK228⟩, ⟨bw_ HB⟩⟩
                · rw [if_neg c33] at H
                  exact absurd H (by simp)
              · rw [if_neg c32] at H
                exact absurd H (by simp)
            · rw [if_neg c30] at H
              have c30b0 : decide (x6_2 < (t229.size : Int)) = false := decide_eq_false c30
              clear c30
              (first | rw [c30b0] | (simp only [i64_w, i32_w]; rw [c30b0]) | skip)
              have H' := Aside0.mk H
              clear H
              go_wp2
              go_meet
              case rel => exact ⟨_, (t235), (1), (by first | rfl | (simp; done) | (simp [*]; done)), (by first | rfl | (simp; done) | (simp [*]; done)), H', ⟨by have := HJ2.out; have := HJ9.out; first | omega | exact Nat.le_refl _⟩, ⟨by exact bk_ BK228⟩, ⟨bw_ HB⟩⟩
           case rest =>
            clear HC28
            try clear c1
            try clear p1
            try clear q1
            try clear hx1
            try clear c2
            try clear p2
            try clear c3
            try clear c5
            try clear c5b0
            try clear c6
            try clear c6b0
            try clear p6
            try clear p7
            try clear q7
            try clear hx7
            try clear c8
            try clear c8b0
            try clear c8b1
            try clear c9
            try clear c9b0
            try clear c9b1
            try clear c11
            try clear c11b0
            try clear c12
            try clear c12b0
            try clear p13
            try clear q13
            try clear hx13
            try clear c14
            try clear c15
            try clear c15b0
            try clear c15b1
            try clear c16
            try clear c16b0
            try clear c16b1
            try clear c18
            try clear c18b0
            try clear c18b1
            try clear c19
            try clear c19b0
            try clear c19b1
            try clear c25
            try clear c25b0
            try clear c25b1
            try clear c26
            try clear c26b0
            try clear c26b1
            try clear c30
            try clear c30b0
            try clear c32
            try clear c32b0
            try clear c32b1
            try clear c33
            try clear c33b0
            try clear c33b1
            try clear c35
            try clear c36
            try clear c39
            try clear p1
            try clear p13
            try clear p2
            try clear p6
            try clear p7
            try clear q1
            try clear q13
            try clear q7
            obtain ⟨kq, x8_27, x9_27, rfl, rfl, HA, HJ27, BK228, HB⟩ := hcut
            cases kq with
            | zero => exact absurd HA.out (by simp [num_Parse.j3])
            | succ kj27 =>
             have H := HA.out
             clear HA
             simp only [num_Parse.j3] at H
             by_cases c40 : t230 = true
             · subst c40
               have H1 : (if x8_27 = true then (if (wrap64 (-t234)) = 0 then (some (0, 0, 1)) else ((num_Check.f kj27 (wrap64 (-t234)) x9_27).bind fun t238 => (if t238 = 0 then (some (wrap64 (-t234), x9_27, 0)) else (some (0, 0, 1))))) else (some (0, 0, 1))) = some (r1, r2, r3) := by rw [if_pos rfl] at H; exact H
               clear H
               have H := H1
               clear H1
               by_cases c41 : x8_27 = true
               · subst c41
                 have H1 : (if (wrap64 (-t234)) = 0 then (some (0, 0, 1)) else ((num_Check.f kj27 (wrap64 (-t234)) x9_27).bind fun t238 => (if t238 = 0 then (some (wrap64 (-t234), x9_27, 0)) else (some (0, 0, 1))))) = some (r1, r2, r3) := by rw [if_pos rfl] at H; exact H
                 clear H
                 have H := H1
                 clear H1
                 by_cases c42 : (wrap64 (-t234)) = 0
                 · rw [if_pos c42] at H
                   have c42b0 : ((wrap64 (-t234)) == 0) = true := beq_iff_eq.mpr c42
                   have c42b1 : ((wrap64 (-t234)) != 0) = false := bne_eq_false_iff_eq.mpr c42
                   clear c42
                   simp only [Option.some.injEq, Prod.mk.injEq] at H
                   obtain ⟨rfl, rfl, rfl⟩ := H
                   obtain ⟨hcz43_0, hcz43_1, hfz43_0, hfz43_1⟩ := bc2_ BK228
                   go_wp2
                   try rw [Exit.noGoto_ret]
                   refine bodyPost_ret (results_ct rfl _ _ gb228 23 #[.int .i64 0, .int .i64 0] (0, 0) _ rfl (by refine bp_ (cs := #[.int .i64 0, .int .i64 x9_27]) ?_ 1; refine bp_ (cs := #[.int .i64 (wrap64 (-t234)), .int .i64 x9_27]) ?_ 0; refine bp_ (cs := #[.int .i64 (wrap64 (-t234)), .int .i64 0]) ?_ 1; refine bp_ (cs := #[.int .i64 0, .int .i64 0]) ?_ 0; exact bk_ BK228) Try.underlying23 rfl (by kernel_rfl)) rfl ?_
                   exact ⟨by first | rfl | (simp [*] <;> rfl), bw_ HB⟩
                 · rw [if_neg c42] at H
                   have c42b0 : ((wrap64 (-t234)) == 0) = false := beq_eq_false_iff_ne.mpr c42
                   have c42b1 : ((wrap64 (-t234)) != 0) = true := bne_iff_ne.mpr c42
                   replace H := Option.bind_eq_some_iff.mp H
                   obtain ⟨t238, A440, H⟩ := H
                   replace H : (if t238 = 0 then (some (wrap64 (-t234), x9_27, 0)) else (some (0, 0, 1))) = some (r1, r2, r3) := H
                   have A44 := Aside0.mk A440
                   clear A440
                   by_cases c45 : t238 = 0
                   · rw [if_pos c45] at H
                     have c45b0 : (t238 == 0) = true := beq_iff_eq.mpr c45
                     have c45b1 : (t238 != 0) = false := bne_eq_false_iff_eq.mpr c45
                     clear c45
                     simp only [Option.some.injEq, Prod.mk.injEq] at H
                     obtain ⟨rfl, rfl, rfl⟩ := H
                     obtain ⟨hcz46_0, hcz46_1, hfz46_0, hfz46_1⟩ := bc2_ BK228
                     go_wp2_with (first | (go_at_call 46; (with_reducible refine (num_Check.calls kj27 (wrap64 (-t234)) x9_27 t238 _ A44.out).mono ?_); rintro e w47 ⟨rfl, hb⟩; replace BK228 := Aside0.mk (blk_below (g := gb228) (o := .cells #[.int .i64 (wrap64 (-t234)), .int .i64 x9_27] 23 (0, 0)) (by refine bp_ (cs := #[.int .i64 (wrap64 (-t234)), .int .i64 0]) ?_ 1; refine bp_ (cs := #[.int .i64 0, .int .i64 0]) ?_ 0; exact bk_ BK228) hb); replace HB := bws_ HB hb; (try clear hb); (try clear hb2); (try clear hk); (try clear hi); obtain ⟨hcz48_0, hcz48_1, hfz48_0, hfz48_1⟩ := bc2_ BK228))
                     try rw [Exit.noGoto_ret]
                     refine bodyPost_ret (results_ct rfl _ _ gb228 23 #[.int .i64 (wrap64 (-t234)), .int .i64 x9_27] (0, 0) _ rfl (by refine bp_ (cs := #[.int .i64 (wrap64 (-t234)), .int .i64 x9_27]) ?_ 1; refine bp_ (cs := #[.int .i64 (wrap64 (-t234)), .int .i64 x9_27]) ?_ 0; exact bk_ BK228) Try.underlying23 rfl (by kernel_rfl)) rfl ?_
                     exact ⟨by first | rfl | (simp [*] <;> rfl), bw_ HB⟩
                   · rw [if_neg c45] at H
                     have c45b0 : (t238 == 0) = false := beq_eq_false_iff_ne.mpr c45
                     have c45b1 : (t238 != 0) = true := bne_iff_ne.mpr c45
                     simp only [Option.some.injEq, Prod.mk.injEq] at H
                     obtain ⟨rfl, rfl, rfl⟩ := H
                     obtain ⟨hcz49_0, hcz49_1, hfz49_0, hfz49_1⟩ := bc2_ BK228
                     go_wp2_with (first | (go_at_call 46; (with_reducible refine (num_Check.calls kj27 (wrap64 (-t234)) x9_27 t238 _ A44.out).mono ?_); rintro e w50 ⟨rfl, hb⟩; replace BK228 := Aside0.mk (blk_below (g := gb228) (o := .cells #[.int .i64 (wrap64 (-t234)), .int .i64 x9_27] 23 (0, 0)) (by refine bp_ (cs := #[.int .i64 (wrap64 (-t234)), .int .i64 0]) ?_ 1; refine bp_ (cs := #[.int .i64 0, .int .i64 0]) ?_ 0; exact bk_ BK228) hb); replace HB := bws_ HB hb; (try clear hb); (try clear hb2); (try clear hk); (try clear hi); obtain ⟨hcz51_0, hcz51_1, hfz51_0, hfz51_1⟩ := bc2_ BK228))
                     try rw [Exit.noGoto_ret]
                     refine bodyPost_ret (results_ct rfl _ _ gb228 23 #[.int .i64 0, .int .i64 0] (0, 0) _ rfl (by refine bp_ (cs := #[.int .i64 0, .int .i64 x9_27]) ?_ 1; refine bp_ (cs := #[.int .i64 (wrap64 (-t234)), .int .i64 x9_27]) ?_ 0; exact bk_ BK228) Try.underlying23 rfl (by kernel_rfl)) rfl ?_
                     exact ⟨by first | rfl | (simp [*] <;> rfl), bw_ HB⟩
               · replace c41 := Bool.eq_false_iff.mpr c41
                 subst c41
                 have H1 : (some (0, 0, 1)) = some (r1, r2, r3) := by rw [if_neg (show ¬ (false = true) by decide)] at H; exact H
                 clear H
                 have H := H1
                 clear H1
                 simp only [Option.some.injEq, Prod.mk.injEq] at H
                 obtain ⟨rfl, rfl, rfl⟩ := H
                 obtain ⟨hcz52_0, hcz52_1, hfz52_0, hfz52_1⟩ := bc2_ BK228
                 go_wp2
                 try rw [Exit.noGoto_ret]
                 refine bodyPost_ret (results_ct rfl _ _ gb228 23 #[.int .i64 0, .int .i64 0] (0, 0) _ rfl (by refine bp_ (cs := #[.int .i64 0, .int .i64 x9_27]) ?_ 1; refine bp_ (cs := #[.int .i64 (wrap64 (-t234)), .int .i64 x9_27]) ?_ 0; refine bp_ (cs := #[.int .i64 (wrap64 (-t234)), .int .i64 0]) ?_ 1; refine bp_ (cs := #[.int .i64 0, .int .i64 0]) ?_ 0; exact bk_ BK228) Try.underlying23 rfl (by kernel_rfl)) rfl ?_
                 exact ⟨by first | rfl | (simp [*] <;> rfl), bw_ HB⟩
             · replace c40 := Bool.eq_false_iff.mpr c40
               subst c40
               have H1 : (if x8_27 = true then ((num_Check.f kj27 t234 x9_27).bind fun t239 => (if t239 = 0 then (some (t234, x9_27, 0)) else (some (0, 0, 1)))) else (some (0, 0, 1))) = some (r1, r2, r3) := by rw [if_neg (show ¬ (false = true) by decide)] at H; exact H
               clear H
               have H := H1
               clear H1
               by_cases c53 : x8_27 = true
               · subst c53
                 have H1 : ((num_Check.f kj27 t234 x9_27).bind fun t239 => (if t239 = 0 then (some (t234, x9_27, 0)) else (some (0, 0, 1)))) = some (r1, r2, r3) := by rw [if_pos rfl] at H; exact H
                 clear H
                 have H := H1
                 clear H1
                 replace H := Option.bind_eq_some_iff.mp H
                 obtain ⟨t239, A540, H⟩ := H
                 replace H : (if t239 = 0 then (some (t234, x9_27, 0)) else (some (0, 0, 1))) = some (r1, r2, r3) := H
                 have A54 := Aside0.mk A540
                 clear A540
                 by_cases c55 : t239 = 0
                 · rw [if_pos c55] at H
                   have c55b0 : (t239 == 0) = true := beq_iff_eq.mpr c55
                   have c55b1 : (t239 != 0) = false := bne_eq_false_iff_eq.mpr c55
                   clear c55
                   simp only [Option.some.injEq, Prod.mk.injEq] at H
                   obtain ⟨rfl, rfl, rfl⟩ := H
                   obtain ⟨hcz56_0, hcz56_1, hfz56_0, hfz56_1⟩ := bc2_ BK228
                   go_wp2_with (first | (go_at_call 46; (with_reducible refine (num_Check.calls kj27 t234 x9_27 t239 _ A54.out).mono ?_); rintro e w57 ⟨rfl, hb⟩; replace BK228 := Aside0.mk (blk_below (g := gb228) (o := .cells #[.int .i64 t234, .int .i64 x9_27] 23 (0, 0)) (by refine bp_ (cs := #[.int .i64 t234, .int .i64 0]) ?_ 1; refine bp_ (cs := #[.int .i64 0, .int .i64 0]) ?_ 0; exact bk_ BK228) hb); replace HB := bws_ HB hb; (try clear hb); (try clear hb2); (try clear hk); (try clear hi); obtain ⟨hcz58_0, hcz58_1, hfz58_0, hfz58_1⟩ := bc2_ BK228))
                   try rw [Exit.noGoto_ret]
                   refine bodyPost_ret (results_ct rfl _ _ gb228 23 #[.int .i64 t234, .int .i64 x9_27] (0, 0) _ rfl (by refine bp_ (cs := #[.int .i64 t234, .int .i64 x9_27]) ?_ 1; refine bp_ (cs := #[.int .i64 t234, .int .i64 x9_27]) ?_ 0; exact bk_ BK228) Try.underlying23 rfl (by kernel_rfl)) rfl ?_
                   exact ⟨by first | rfl | (simp [*] <;> rfl), bw_ HB⟩
                 · rw [if_neg c55] at H
                   have c55b0 : (t239 == 0) = false := beq_eq_false_iff_ne.mpr c55
                   have c55b1 : (t239 != 0) = true := bne_iff_ne.mpr c55
                   simp only [Option.some.injEq, Prod.mk.injEq] at H
                   obtain ⟨rfl, rfl, rfl⟩ := H
                   obtain ⟨hcz59_0, hcz59_1, hfz59_0, hfz59_1⟩ := bc2_ BK228
                   go_wp2_with (first | (go_at_call 46; (with_reducible refine (num_Check.calls kj27 t234 x9_27 t239 _ A54.out).mono ?_); rintro e w60 ⟨rfl, hb⟩; replace BK228 := Aside0.mk (blk_below (g := gb228) (o := .cells #[.int .i64 t234, .int .i64 x9_27] 23 (0, 0)) (by refine bp_ (cs := #[.int .i64 t234, .int .i64 0]) ?_ 1; refine bp_ (cs := #[.int .i64 0, .int .i64 0]) ?_ 0; exact bk_ BK228) hb); replace HB := bws_ HB hb; (try clear hb); (try clear hb2); (try clear hk); (try clear hi); obtain ⟨hcz61_0, hcz61_1, hfz61_0, hfz61_1⟩ := bc2_ BK228))
                   try rw [Exit.noGoto_ret]
                   refine bodyPost_ret (results_ct rfl _ _ gb228 23 #[.int .i64 0, .int .i64 0] (0, 0) _ rfl (by refine bp_ (cs := #[.int .i64 0, .int .i64 x9_27]) ?_ 1; refine bp_ (cs := #[.int .i64 t234, .int .i64 x9_27]) ?_ 0; exact bk_ BK228) Try.underlying23 rfl (by kernel_rfl)) rfl ?_
                   exact ⟨by first | rfl | (simp [*] <;> rfl), bw_ HB⟩
               · replace c53 := Bool.eq_false_iff.mpr c53
                 subst c53
                 have H1 : (some (0, 0, 1)) = some (r1, r2, r3) := by rw [if_neg (show ¬ (false = true) by decide)] at H; exact H
                 clear H
                 have H := H1
                 clear H1
                 simp only [Option.some.injEq, Prod.mk.injEq] at H
                 obtain ⟨rfl, rfl, rfl⟩ := H
                 obtain ⟨hcz62_0, hcz62_1, hfz62_0, hfz62_1⟩ := bc2_ BK228
                 go_wp2
                 try rw [Exit.noGoto_ret]
                 refine bodyPost_ret (results_ct rfl _ _ gb228 23 #[.int .i64 0, .int .i64 0] (0, 0) _ rfl (by refine bp_ (cs := #[.int .i64 0, .int .i64 x9_27]) ?_ 1; refine bp_ (cs := #[.int .i64 t234, .int .i64 x9_27]) ?_ 0; refine bp_ (cs := #[.int .i64 t234, .int .i64 0]) ?_ 1; refine bp_ (cs := #[.int .i64 0, .int .i64 0]) ?_ 0; exact bk_ BK228) Try.underlying23 rfl (by kernel_rfl)) rfl ?_
                 exact ⟨by first | rfl | (simp [*] <;> rfl), bw_ HB⟩
         · rw [if_neg c26] at H
           exact absurd H (by simp)
       · rw [if_neg c25] at H
         exact absurd H (by simp)
/-! ### withyref01_Simpler: function 28 -/
def withyref01_Simpler.f (a0_0 : Int) (a0_1 : Int) (a1_0 : Int) (a1_1 : Int) : Option (Bool) := if a0_1 = a1_1 then (if a0_0 < 0 then (if a1_0 < 0 then (if (wrap64 (-a0_0)) < (wrap64 (-a1_0)) then (some true) else (if (wrap64 (-a0_0)) = (wrap64 (-a1_0)) then (some (decide (a0_0 > a1_0))) else (some false))) else (if (wrap64 (-a0_0)) < a1_0 then (some true) else (if (wrap64 (-a0_0)) = a1_0 then (some (decide (a0_0 > a1_0))) else (some false)))) else (if a1_0 < 0 then (if a0_0 < (wrap64 (-a1_0)) then (some true) else (if a0_0 = (wrap64 (-a1_0)) then (some (decide (a0_0 > a1_0))) else (some false))) else (if a0_0 < a1_0 then (some true) else (if a0_0 = a1_0 then (some (decide (a0_0 > a1_0))) else (some false))))) else (some (decide (a0_1 < a1_1)))
set_option maxHeartbeats 8000000 in
set_option maxRecDepth 100000 in
theorem withyref01_Simpler.calls (a0_0 : Int) (a0_1 : Int) (a1_0 : Int) (a1_1 : Int) (r : Bool) (w : World) (h : withyref01_Simpler.f a0_0 a0_1 a1_0 a1_1 = some r) :
    Calls Try.prog 28 #[.agg #[.int .i64 a0_0, .int .i64 a0_1], .agg #[.int .i64 a1_0, .int .i64 a1_1]] w fun e w' => e = .returned (.bool r) ∧ Below w.heap.size w w' := by
 have hu23 := Try.underlying23
 have HB := Aside0.mk (Below.refl w.heap.size w)
 have H : (if a0_1 = a1_1 then (if a0_0 < 0 then (if a1_0 < 0 then (if (wrap64 (-a0_0)) < (wrap64 (-a1_0)) then (some true) else (if (wrap64 (-a0_0)) = (wrap64 (-a1_0)) then (some (decide (a0_0 > a1_0))) else (some false))) else (if (wrap64 (-a0_0)) < a1_0 then (some true) else (if (wrap64 (-a0_0)) = a1_0 then (some (decide (a0_0 > a1_0))) else (some false)))) else (if a1_0 < 0 then (if a0_0 < (wrap64 (-a1_0)) then (some true) else (if a0_0 = (wrap64 (-a1_0)) then (some (decide (a0_0 > a1_0))) else (some false))) else (if a0_0 < a1_0 then (some true) else (if a0_0 = a1_0 then (some (decide (a0_0 > a1_0))) else (some false))))) else (some (decide (a0_1 < a1_1)))) = some r := h
 clear h
 by_cases c3 : a0_1 = a1_1
 · rw [if_pos c3] at H
   have c3b0 : (a0_1 == a1_1) = true := beq_iff_eq.mpr c3
   have c3b1 : (a0_1 != a1_1) = false := bne_eq_false_iff_eq.mpr c3
   clear c3
   by_cases c4 : a0_0 < 0
   · rw [if_pos c4] at H
     have c4b0 : decide (a0_0 < 0) = true := decide_eq_true c4
     clear c4
     by_cases c5 : a1_0 < 0
     · rw [if_pos c5] at H
       have c5b0 : decide (a1_0 < 0) = true := decide_eq_true c5
       clear c5
       by_cases c6 : (wrap64 (-a0_0)) < (wrap64 (-a1_0))
       · rw [if_pos c6] at H
         have c6b0 : decide ((wrap64 (-a0_0)) < (wrap64 (-a1_0))) = true := decide_eq_true c6
         clear c6
         obtain rfl := Option.some.inj H
         go_enter Try.func28, Try.ntmps28
         go_wp2_with (first | ((with_reducible refine gate_dst (N := 2) rfl ?_); refine box_event ?hg (N := 2) ?hd (cs := #[.int .i64 a0_0, .int .i64 a0_1]) (t := 23) ?hr ?_; (case hd => rfl); (case hg => rfl); (case hr => first | (go_simp; done) | (go_simp; rfl)); intro gb384 hg w7 hbox hb; have BK384 := Aside0.mk hbox; have GW384 := bwg_ HB hg; have GE384 := bwg_ HB hg; replace HB := bws_ HB hb; clear hb hbox hg) | ((with_reducible refine gate_dst (N := 3) rfl ?_); refine box_event ?hg (N := 3) ?hd (cs := #[.int .i64 a1_0, .int .i64 a1_1]) (t := 23) ?hr ?_; (case hd => rfl); (case hg => rfl); (case hr => first | (go_simp; done) | (go_simp; rfl)); intro gb385 hg w8 hbox hb; have BK385 := Aside0.mk hbox; have GW385 := bwg_ HB hg; have GE385 := bwg_ HB hg; replace HB := bws_ HB hb; have NB384_385 := bkl_ BK384 hg; have NB385_384 := bkr_ BK384 hg; replace BK384 := bkb_ BK384 hb; clear hb hbox hg; have hnb9 := NB384_385.out; have hnc9 := NB385_384.out; obtain ⟨hcz10_0, hcz10_1, hfz10_0, hfz10_1⟩ := bc2_ BK384; obtain ⟨hcz11_0, hcz11_1, hfz11_0, hfz11_1⟩ := bc2_ BK385))
         repeat (go_quiet (first | ((with_reducible refine gate_dst (N := 2) rfl ?_); refine box_event ?hg (N := 2) ?hd (cs := #[.int .i64 a0_0, .int .i64 a0_1]) (t := 23) ?hr ?_; (case hd => rfl); (case hg => rfl); (case hr => first | (go_simp; done) | (go_simp; rfl)); intro gb384 hg w7 hbox hb; have BK384 := Aside0.mk hbox; have GW384 := bwg_ HB hg; have GE384 := bwg_ HB hg; replace HB := bws_ HB hb; clear hb hbox hg) | ((with_reducible refine gate_dst (N := 3) rfl ?_); refine box_event ?hg (N := 3) ?hd (cs := #[.int .i64 a1_0, .int .i64 a1_1]) (t := 23) ?hr ?_; (case hd => rfl); (case hg => rfl); (case hr => first | (go_simp; done) | (go_simp; rfl)); intro gb385 hg w8 hbox hb; have BK385 := Aside0.mk hbox; have GW385 := bwg_ HB hg; have GE385 := bwg_ HB hg; replace HB := bws_ HB hb; have NB384_385 := bkl_ BK384 hg; have NB385_384 := bkr_ BK384 hg; replace BK384 := bkb_ BK384 hb; clear hb hbox hg; have hnb9 := NB384_385.out; have hnc9 := NB385_384.out; obtain ⟨hcz10_0, hcz10_1, hfz10_0, hfz10_1⟩ := bc2_ BK384; obtain ⟨hcz11_0, hcz11_1, hfz11_0, hfz11_1⟩ := bc2_ BK385)); try go_wp2_with (first | ((with_reducible refine gate_dst (N := 2) rfl ?_); refine box_event ?hg (N := 2) ?hd (cs := #[.int .i64 a0_0, .int .i64 a0_1]) (t := 23) ?hr ?_; (case hd => rfl); (case hg => rfl); (case hr => first | (go_simp; done) | (go_simp; rfl)); intro gb384 hg w7 hbox hb; have BK384 := Aside0.mk hbox; have GW384 := bwg_ HB hg; have GE384 := bwg_ HB hg; replace HB := bws_ HB hb; clear hb hbox hg) | ((with_reducible refine gate_dst (N := 3) rfl ?_); refine box_event ?hg (N := 3) ?hd (cs := #[.int .i64 a1_0, .int .i64 a1_1]) (t := 23) ?hr ?_; (case hd => rfl); (case hg => rfl); (case hr => first | (go_simp; done) | (go_simp; rfl)); intro gb385 hg w8 hbox hb; have BK385 := Aside0.mk hbox; have GW385 := bwg_ HB hg; have GE385 := bwg_ HB hg; replace HB := bws_ HB hb; have NB384_385 := bkl_ BK384 hg; have NB385_384 := bkr_ BK384 hg; replace BK384 := bkb_ BK384 hb; clear hb hbox hg; have hnb9 := NB384_385.out; have hnc9 := NB385_384.out; obtain ⟨hcz10_0, hcz10_1, hfz10_0, hfz10_1⟩ := bc2_ BK384; obtain ⟨hcz11_0, hcz11_1, hfz11_0, hfz11_1⟩ := bc2_ BK385)))
         go_ret
         exact ⟨by first | rfl | (simp [*] <;> rfl), bw_ HB⟩
       · rw [if_neg c6] at H
         have c6b0 : decide ((wrap64 (-a0_0)) < (wrap64 (-a1_0))) = false := decide_eq_false c6
         clear c6
         by_cases c12 : (wrap64 (-a0_0)) = (wrap64 (-a1_0))
         · rw [if_pos c12] at H
           have c12b0 : ((wrap64 (-a0_0)) == (wrap64 (-a1_0))) = true := beq_iff_eq.mpr c12
           have c12b1 : ((wrap64 (-a0_0)) != (wrap64 (-a1_0))) = false := bne_eq_false_iff_eq.mpr c12
           clear c12
           obtain rfl := Option.some.inj H
           go_enter Try.func28, Try.ntmps28
           go_wp2_with (first | ((with_reducible refine gate_dst (N := 2) rfl ?_); refine box_event ?hg (N := 2) ?hd (cs := #[.int .i64 a0_0, .int .i64 a0_1]) (t := 23) ?hr ?_; (case hd => rfl); (case hg => rfl); (case hr => first | (go_simp; done) | (go_simp; rfl)); intro gb384 hg w13 hbox hb; have BK384 := Aside0.mk hbox; have GW384 := bwg_ HB hg; have GE384 := bwg_ HB hg; replace HB := bws_ HB hb; clear hb hbox hg) | ((with_reducible refine gate_dst (N := 3) rfl ?_); refine box_event ?hg (N := 3) ?hd (cs := #[.int .i64 a1_0, .int .i64 a1_1]) (t := 23) ?hr ?_; (case hd => rfl); (case hg => rfl); (case hr => first | (go_simp; done) | (go_simp; rfl)); intro gb385 hg w14 hbox hb; have BK385 := Aside0.mk hbox; have GW385 := bwg_ HB hg; have GE385 := bwg_ HB hg; replace HB := bws_ HB hb; have NB384_385 := bkl_ BK384 hg; have NB385_384 := bkr_ BK384 hg; replace BK384 := bkb_ BK384 hb; clear hb hbox hg; have hnb15 := NB384_385.out; have hnc15 := NB385_384.out; obtain ⟨hcz16_0, hcz16_1, hfz16_0, hfz16_1⟩ := bc2_ BK384; obtain ⟨hcz17_0, hcz17_1, hfz17_0, hfz17_1⟩ := bc2_ BK385))
           repeat (go_quiet (first | ((with_reducible refine gate_dst (N := 2) rfl ?_); refine box_event ?hg (N := 2) ?hd (cs := #[.int .i64 a0_0, .int .i64 a0_1]) (t := 23) ?hr ?_; (case hd => rfl); (case hg => rfl); (case hr => first | (go_simp; done) | (go_simp; rfl)); intro gb384 hg w13 hbox hb; have BK384 := Aside0.mk hbox; have GW384 := bwg_ HB hg; have GE384 := bwg_ HB hg; replace HB := bws_ HB hb; clear hb hbox hg) | ((with_reducible refine gate_dst (N := 3) rfl ?_); refine box_event ?hg (N := 3) ?hd (cs := #[.int .i64 a1_0, .int .i64 a1_1]) (t := 23) ?hr ?_; (case hd => rfl); (case hg => rfl); (case hr => first | (go_simp; done) | (go_simp; rfl)); intro gb385 hg w14 hbox hb; have BK385 := Aside0.mk hbox; have GW385 := bwg_ HB hg; have GE385 := bwg_ HB hg; replace HB := bws_ HB hb; have NB384_385 := bkl_ BK384 hg; have NB385_384 := bkr_ BK384 hg; replace BK384 := bkb_ BK384 hb; clear hb hbox hg; have hnb15 := NB384_385.out; have hnc15 := NB385_384.out; obtain ⟨hcz16_0, hcz16_1, hfz16_0, hfz16_1⟩ := bc2_ BK384; obtain ⟨hcz17_0, hcz17_1, hfz17_0, hfz17_1⟩ := bc2_ BK385)); try go_wp2_with (first | ((with_reducible refine gate_dst (N := 2) rfl ?_); refine box_event ?hg (N := 2) ?hd (cs := #[.int .i64 a0_0, .int .i64 a0_1]) (t := 23) ?hr ?_; (case hd => rfl); (case hg => rfl); (case hr => first | (go_simp; done) | (go_simp; rfl)); intro gb384 hg w13 hbox hb; have BK384 := Aside0.mk hbox; have GW384 := bwg_ HB hg; have GE384 := bwg_ HB hg; replace HB := bws_ HB hb; clear hb hbox hg) | ((with_reducible refine gate_dst (N := 3) rfl ?_); refine box_event ?hg (N := 3) ?hd (cs := #[.int .i64 a1_0, .int .i64 a1_1]) (t := 23) ?hr ?_; (case hd => rfl); (case hg => rfl); (case hr => first | (go_simp; done) | (go_simp; rfl)); intro gb385 hg w14 hbox hb; have BK385 := Aside0.mk hbox; have GW385 := bwg_ HB hg; have GE385 := bwg_ HB hg; replace HB := bws_ HB hb; have NB384_385 := bkl_ BK384 hg; have NB385_384 := bkr_ BK384 hg; replace BK384 := bkb_ BK384 hb; clear hb hbox hg; have hnb15 := NB384_385.out; have hnc15 := NB385_384.out; obtain ⟨hcz16_0, hcz16_1, hfz16_0, hfz16_1⟩ := bc2_ BK384; obtain ⟨hcz17_0, hcz17_1, hfz17_0, hfz17_1⟩ := bc2_ BK385)))
           go_ret
           exact ⟨by first | rfl | (simp [*] <;> rfl), bw_ HB⟩
         · rw [if_neg c12] at H
           have c12b0 : ((wrap64 (-a0_0)) == (wrap64 (-a1_0))) = false := beq_eq_false_iff_ne.mpr c12
           have c12b1 : ((wrap64 (-a0_0)) != (wrap64 (-a1_0))) = true := bne_iff_ne.mpr c12
           obtain rfl := Option.some.inj H
           go_enter Try.func28, Try.ntmps28
           go_wp2_with (first | ((with_reducible refine gate_dst (N := 2) rfl ?_); refine box_event ?hg (N := 2) ?hd (cs := #[.int .i64 a0_0, .int .i64 a0_1]) (t := 23) ?hr ?_; (case hd => rfl); (case hg => rfl); (case hr => first | (go_simp; done) | (go_simp; rfl)); intro gb384 hg w18 hbox hb; have BK384 := Aside0.mk hbox; have GW384 := bwg_ HB hg; have GE384 := bwg_ HB hg; replace HB := bws_ HB hb; clear hb hbox hg) | ((with_reducible refine gate_dst (N := 3) rfl ?_); refine box_event ?hg (N := 3) ?hd (cs := #[.int .i64 a1_0, .int .i64 a1_1]) (t := 23) ?hr ?_; (case hd => rfl); (case hg => rfl); (case hr => first | (go_simp; done) | (go_simp; rfl)); intro gb385 hg w19 hbox hb; have BK385 := Aside0.mk hbox; have GW385 := bwg_ HB hg; have GE385 := bwg_ HB hg; replace HB := bws_ HB hb; have NB384_385 := bkl_ BK384 hg; have NB385_384 := bkr_ BK384 hg; replace BK384 := bkb_ BK384 hb; clear hb hbox hg; have hnb20 := NB384_385.out; have hnc20 := NB385_384.out; obtain ⟨hcz21_0, hcz21_1, hfz21_0, hfz21_1⟩ := bc2_ BK384; obtain ⟨hcz22_0, hcz22_1, hfz22_0, hfz22_1⟩ := bc2_ BK385))
           repeat (go_quiet (first | ((with_reducible refine gate_dst (N := 2) rfl ?_); refine box_event ?hg (N := 2) ?hd (cs := #[.int .i64 a0_0, .int .i64 a0_1]) (t := 23) ?hr ?_; (case hd => rfl); (case hg => rfl); (case hr => first | (go_simp; done) | (go_simp; rfl)); intro gb384 hg w18 hbox hb; have BK384 := Aside0.mk hbox; have GW384 := bwg_ HB hg; have GE384 := bwg_ HB hg; replace HB := bws_ HB hb; clear hb hbox hg) | ((with_reducible refine gate_dst (N := 3) rfl ?_); refine box_event ?hg (N := 3) ?hd (cs := #[.int .i64 a1_0, .int .i64 a1_1]) (t := 23) ?hr ?_; (case hd => rfl); (case hg => rfl); (case hr => first | (go_simp; done) | (go_simp; rfl)); intro gb385 hg w19 hbox hb; have BK385 := Aside0.mk hbox; have GW385 := bwg_ HB hg; have GE385 := bwg_ HB hg; replace HB := bws_ HB hb; have NB384_385 := bkl_ BK384 hg; have NB385_384 := bkr_ BK384 hg; replace BK384 := bkb_ BK384 hb; clear hb hbox hg; have hnb20 := NB384_385.out; have hnc20 := NB385_384.out; obtain ⟨hcz21_0, hcz21_1, hfz21_0, hfz21_1⟩ := bc2_ BK384; obtain ⟨hcz22_0, hcz22_1, hfz22_0, hfz22_1⟩ := bc2_ BK385)); try go_wp2_with (first | ((with_reducible refine gate_dst (N := 2) rfl ?_); refine box_event ?hg (N := 2) ?hd (cs := #[.int .i64 a0_0, .int .i64 a0_1]) (t := 23) ?hr ?_; (case hd => rfl); (case hg => rfl); (case hr => first | (go_simp; done) | (go_simp; rfl)); intro gb384 hg w18 hbox hb; have BK384 := Aside0.mk hbox; have GW384 := bwg_ HB hg; have GE384 := bwg_ HB hg; replace HB := bws_ HB hb; clear hb hbox hg) | ((with_reducible refine gate_dst (N := 3) rfl ?_); refine box_event ?hg (N := 3) ?hd (cs := #[.int .i64 a1_0, .int .i64 a1_1]) (t := 23) ?hr ?_; (case hd => rfl); (case hg => rfl); (case hr => first | (go_simp; done) | (go_simp; rfl)); intro gb385 hg w19 hbox hb; have BK385 := Aside0.mk hbox; have GW385 := bwg_ HB hg; have GE385 := bwg_ HB hg; replace HB := bws_ HB hb; have NB384_385 := bkl_ BK384 hg; have NB385_384 := bkr_ BK384 hg; replace BK384 := bkb_ BK384 hb; clear hb hbox hg; have hnb20 := NB384_385.out; have hnc20 := NB385_384.out; obtain ⟨hcz21_0, hcz21_1, hfz21_0, hfz21_1⟩ := bc2_ BK384; obtain ⟨hcz22_0, hcz22_1, hfz22_0, hfz22_1⟩ := bc2_ BK385)))
           go_ret
           exact ⟨by first | rfl | (simp [*] <;> rfl), bw_ HB⟩
     · rw [if_neg c5] at H
       have c5b0 : decide (a1_0 < 0) = false := decide_eq_false c5
       clear c5
       by_cases c23 : (wrap64 (-a0_0)) < a1_0
       · rw [if_pos c23] at H
         have c23b0 : decide ((wrap64 (-a0_0)) < a1_0) = true := decide_eq_true c23
         clear c23
         obtain rfl := Option.some.inj H
         go_enter Try.func28, Try.ntmps28
         go_wp2_with (first | ((with_reducible refine gate_dst (N := 2) rfl ?_); refine box_event ?hg (N := 2) ?hd (cs := #[.int .i64 a0_0, .int .i64 a0_1]) (t := 23) ?hr ?_; (case hd => rfl); (case hg => rfl); (case hr => first | (go_simp; done) | (go_simp; rfl)); intro gb384 hg w24 hbox hb; have BK384 := Aside0.mk hbox; have GW384 := bwg_ HB hg; have GE384 := bwg_ HB hg; replace HB := bws_ HB hb; clear hb hbox hg) | ((with_reducible refine gate_dst (N := 3) rfl ?_); refine box_event ?hg (N := 3) ?hd (cs := #[.int .i64 a1_0, .int .i64 a1_1]) (t := 23) ?hr ?_; (case hd => rfl); (case hg => rfl); (case hr => first | (go_simp; done) | (go_simp; rfl)); intro gb385 hg w25 hbox hb; have BK385 := Aside0.mk hbox; have GW385 := bwg_ HB hg; have GE385 := bwg_ HB hg; replace HB := bws_ HB hb; have NB384_385 := bkl_ BK384 hg; have NB385_384 := bkr_ BK384 hg; replace BK384 := bkb_ BK384 hb; clear hb hbox hg; have hnb26 := NB384_385.out; have hnc26 := NB385_384.out; obtain ⟨hcz27_0, hcz27_1, hfz27_0, hfz27_1⟩ := bc2_ BK384; obtain ⟨hcz28_0, hcz28_1, hfz28_0, hfz28_1⟩ := bc2_ BK385))
         repeat (go_quiet (first | ((with_reducible refine gate_dst (N := 2) rfl ?_); refine box_event ?hg (N := 2) ?hd (cs := #[.int .i64 a0_0, .int .i64 a0_1]) (t := 23) ?hr ?_; (case hd => rfl); (case hg => rfl); (case hr => first | (go_simp; done) | (go_simp; rfl)); intro gb384 hg w24 hbox hb; have BK384 := Aside0.mk hbox; have GW384 := bwg_ HB hg; have GE384 := bwg_ HB hg; replace HB := bws_ HB hb; clear hb hbox hg) | ((with_reducible refine gate_dst (N := 3) rfl ?_); refine box_event ?hg (N := 3) ?hd (cs := #[.int .i64 a1_0, .int .i64 a1_1]) (t := 23) ?hr ?_; (case hd => rfl); (case hg => rfl); (case hr => first | (go_simp; done) | (go_simp; rfl)); intro gb385 hg w25 hbox hb; have BK385 := Aside0.mk hbox; have GW385 := bwg_ HB hg; have GE385 := bwg_ HB hg; replace HB := bws_ HB hb; have NB384_385 := bkl_ BK384 hg; have NB385_384 := bkr_ BK384 hg; replace BK384 := bkb_ BK384 hb; clear hb hbox hg; have hnb26 := NB384_385.out; have hnc26 := NB385_384.out; obtain ⟨hcz27_0, hcz27_1, hfz27_0, hfz27_1⟩ := bc2_ BK384; obtain ⟨hcz28_0, hcz28_1, hfz28_0, hfz28_1⟩ := bc2_ BK385)); try go_wp2_with (first | ((with_reducible refine gate_dst (N := 2) rfl ?_); refine box_event ?hg (N := 2) ?hd (cs := #[.int .i64 a0_0, .int .i64 a0_1]) (t := 23) ?hr ?_; (case hd => rfl); (case hg => rfl); (case hr => first | (go_simp; done) | (go_simp; rfl)); intro gb384 hg w24 hbox hb; have BK384 := Aside0.mk hbox; have GW384 := bwg_ HB hg; have GE384 := bwg_ HB hg; replace HB := bws_ HB hb; clear hb hbox hg) | ((with_reducible refine gate_dst (N := 3) rfl ?_); refine box_event ?hg (N := 3) ?hd (cs := #[.int .i64 a1_0, .int .i64 a1_1]) (t := 23) ?hr ?_; (case hd => rfl); (case hg => rfl); (case hr => first | (go_simp; done) | (go_simp; rfl)); intro gb385 hg w25 hbox hb; have BK385 := Aside0.mk hbox; have GW385 := bwg_ HB hg; have GE385 := bwg_ HB hg; replace HB := bws_ HB hb; have NB384_385 := bkl_ BK384 hg; have NB385_384 := bkr_ BK384 hg; replace BK384 := bkb_ BK384 hb; clear hb hbox hg; have hnb26 := NB384_385.out; have hnc26 := NB385_384.out; obtain ⟨hcz27_0, hcz27_1, hfz27_0, hfz27_1⟩ := bc2_ BK384; obtain ⟨hcz28_0, hcz28_1, hfz28_0, hfz28_1⟩ := bc2_ BK385)))
         go_ret
         exact ⟨by first | rfl | (simp [*] <;> rfl), bw_ HB⟩
       · rw [if_neg c23] at H
         have c23b0 : decide ((wrap64 (-a0_0)) < a1_0) = false := decide_eq_false c23
         clear c23
         by_cases c29 : (wrap64 (-a0_0)) = a1_0
         · rw [if_pos c29] at H
           have c29b0 : ((wrap64 (-a0_0)) == a1_0) = true := beq_iff_eq.mpr c29
           have c29b1 : ((wrap64 (-a0_0)) != a1_0) = false := bne_eq_false_iff_eq.mpr c29
           clear c29
           obtain rfl := Option.some.inj H
           go_enter Try.func28, Try.ntmps28
           go_wp2_with (first | ((with_reducible refine gate_dst (N := 2) rfl ?_); refine box_event ?hg (N := 2) ?hd (cs := #[.int .i64 a0_0, .int .i64 a0_1]) (t := 23) ?hr ?_; (case hd => rfl); (case hg => rfl); (case hr => first | (go_simp; done) | (go_simp; rfl)); intro gb384 hg w30 hbox hb; have BK384 := Aside0.mk hbox; have GW384 := bwg_ HB hg; have GE384 := bwg_ HB hg; replace HB := bws_ HB hb; clear hb hbox hg) | ((with_reducible refine gate_dst (N := 3) rfl ?_); refine box_event ?hg (N := 3) ?hd (cs := #[.int .i64 a1_0, .int .i64 a1_1]) (t := 23) ?hr ?_; (case hd => rfl); (case hg => rfl); (case hr => first | (go_simp; done) | (go_simp; rfl)); intro gb385 hg w31 hbox hb; have BK385 := Aside0.mk hbox; have GW385 := bwg_ HB hg; have GE385 := bwg_ HB hg; replace HB := bws_ HB hb; have NB384_385 := bkl_ BK384 hg; have NB385_384 := bkr_ BK384 hg; replace BK384 := bkb_ BK384 hb; clear hb hbox hg; have hnb32 := NB384_385.out; have hnc32 := NB385_384.out; obtain ⟨hcz33_0, hcz33_1, hfz33_0, hfz33_1⟩ := bc2_ BK384; obtain ⟨hcz34_0, hcz34_1, hfz34_0, hfz34_1⟩ := bc2_ BK385))
           repeat (go_quiet (first | ((with_reducible refine gate_dst (N := 2) rfl ?_); refine box_event ?hg (N := 2) ?hd (cs := #[.int .i64 a0_0, .int .i64 a0_1]) (t := 23) ?hr ?_; (case hd => rfl); (case hg => rfl); (case hr => first | (go_simp; done) | (go_simp; rfl)); intro gb384 hg w30 hbox hb; have BK384 := Aside0.mk hbox; have GW384 := bwg_ HB hg; have GE384 := bwg_ HB hg; replace HB := bws_ HB hb; clear hb hbox hg) | ((with_reducible refine gate_dst (N := 3) rfl ?_); refine box_event ?hg (N := 3) ?hd (cs := #[.int .i64 a1_0, .int .i64 a1_1]) (t := 23) ?hr ?_; (case hd => rfl); (case hg => rfl); (case hr => first | (go_simp; done) | (go_simp; rfl)); intro gb385 hg w31 hbox hb; have BK385 := Aside0.mk hbox; have GW385 := bwg_ HB hg; have GE385 := bwg_ HB hg; replace HB := bws_ HB hb; have NB384_385 := bkl_ BK384 hg; have NB385_384 := bkr_ BK384 hg; replace BK384 := bkb_ BK384 hb; clear hb hbox hg; have hnb32 := NB384_385.out; have hnc32 := NB385_384.out; obtain ⟨hcz33_0, hcz33_1, hfz33_0, hfz33_1⟩ := bc2_ BK384; obtain ⟨hcz34_0, hcz34_1, hfz34_0, hfz34_1⟩ := bc2_ BK385)); try go_wp2_with (first | ((with_reducible refine gate_dst (N := 2) rfl ?_); refine box_event ?hg (N := 2) ?hd (cs := #[.int .i64 a0_0, .int .i64 a0_1]) (t := 23) ?hr ?_; (case hd => rfl); (case hg => rfl); (case hr => first | (go_simp; done) | (go_simp; rfl)); intro gb384 hg w30 hbox hb; have BK384 := Aside0.mk hbox; have GW384 := bwg_ HB hg; have GE384 := bwg_ HB hg; replace HB := bws_ HB hb; clear hb hbox hg) | ((with_reducible refine gate_dst (N := 3) rfl ?_); refine box_event ?hg (N := 3) ?hd (cs := #[.int .i64 a1_0, .int .i64 a1_1]) (t := 23) ?hr ?_; (case hd => rfl); (case hg => rfl); (case hr => first | (go_simp; done) | (go_simp; rfl)); intro gb385 hg w31 hbox hb; have BK385 := Aside0.mk hbox; have GW385 := bwg_ HB hg; have GE385 := bwg_ HB hg; replace HB := bws_ HB hb; have NB384_385 := bkl_ BK384 hg; have NB385_384 := bkr_ BK384 hg; replace BK384 := bkb_ BK384 hb; clear hb hbox hg; have hnb32 := NB384_385.out; have hnc32 := NB385_384.out; obtain ⟨hcz33_0, hcz33_1, hfz33_0, hfz33_1⟩ := bc2_ BK384; obtain ⟨hcz34_0, hcz34_1, hfz34_0, hfz34_1⟩ := bc2_ BK385)))
           go_ret
           exact ⟨by first | rfl | (simp [*] <;> rfl), bw_ HB⟩
         · rw [if_neg c29] at H
           have c29b0 : ((wrap64 (-a0_0)) == a1_0) = false := beq_eq_false_iff_ne.mpr c29
           have c29b1 : ((wrap64 (-a0_0)) != a1_0) = true := bne_iff_ne.mpr c29
           obtain rfl := Option.some.inj H
           go_enter Try.func28, Try.ntmps28
           go_wp2_with (first | ((with_reducible refine gate_dst (N := 2) rfl ?_); refine box_event ?hg (N := 2) ?hd (cs := #[.int .i64 a0_0, .int .i64 a0_1]) (t := 23) ?hr ?_; (case hd => rfl); (case hg => rfl); (case hr => first | (go_simp; done) | (go_simp; rfl)); intro gb384 hg w35 hbox hb; have BK384 := Aside0.mk hbox; have GW384 := bwg_ HB hg; have GE384 := bwg_ HB hg; replace HB := bws_ HB hb; clear hb hbox hg) | ((with_reducible refine gate_dst (N := 3) rfl ?_); refine box_event ?hg (N := 3) ?hd (cs := #[.int .i64 a1_0, .int .i64 a1_1]) (t := 23) ?hr ?_; (case hd => rfl); (case hg => rfl); (case hr => first | (go_simp; done) | (go_simp; rfl)); intro gb385 hg w36 hbox hb; have BK385 := Aside0.mk hbox; have GW385 := bwg_ HB hg; have GE385 := bwg_ HB hg; replace HB := bws_ HB hb; have NB384_385 := bkl_ BK384 hg; have NB385_384 := bkr_ BK384 hg; replace BK384 := bkb_ BK384 hb; clear hb hbox hg; have hnb37 := NB384_385.out; have hnc37 := NB385_384.out; obtain ⟨hcz38_0, hcz38_1, hfz38_0, hfz38_1⟩ := bc2_ BK384; obtain ⟨hcz39_0, hcz39_1, hfz39_0, hfz39_1⟩ := bc2_ BK385))
           repeat (go_quiet (first | ((with_reducible refine gate_dst (N := 2) rfl ?_); refine box_event ?hg (N := 2) ?hd (cs := #[.int .i64 a0_0, .int .i64 a0_1]) (t := 23) ?hr ?_; (case hd => rfl); (case hg => rfl); (case hr => first | (go_simp; done) | (go_simp; rfl)); intro gb384 hg w35 hbox hb; have BK384 := Aside0.mk hbox; have GW384 := bwg_ HB hg; have GE384 := bwg_ HB hg; replace HB := bws_ HB hb; clear hb hbox hg) | ((with_reducible refine gate_dst (N := 3) rfl ?_); refine box_event ?hg (N := 3) ?hd (cs := #[.int .i64 a1_0, .int .i64 a1_1]) (t := 23) ?hr ?_; (case hd => rfl); (case hg => rfl); (case hr => first | (go_simp; done) | (go_simp; rfl)); intro gb385 hg w36 hbox hb; have BK385 := Aside0.mk hbox; have GW385 := bwg_ HB hg; have GE385 := bwg_ HB hg; replace HB := bws_ HB hb; have NB384_385 := bkl_ BK384 hg; have NB385_384 := bkr_ BK384 hg; replace BK384 := bkb_ BK384 hb; clear hb hbox hg; have hnb37 := NB384_385.out; have hnc37 := NB385_384.out; obtain ⟨hcz38_0, hcz38_1, hfz38_0, hfz38_1⟩ := bc2_ BK384; obtain ⟨hcz39_0, hcz39_1, hfz39_0, hfz39_1⟩ := bc2_ BK385)); try go_wp2_with (first | ((with_reducible refine gate_dst (N := 2) rfl ?_); refine box_event ?hg (N := 2) ?hd (cs := #[.int .i64 a0_0, .int .i64 a0_1]) (t := 23) ?hr ?_; (case hd => rfl); (case hg => rfl); (case hr => first | (go_simp; done) | (go_simp; rfl)); intro gb384 hg w35 hbox hb; have BK384 := Aside0.mk hbox; have GW384 := bwg_ HB hg; have GE384 := bwg_ HB hg; replace HB := bws_ HB hb; clear hb hbox hg) | ((with_reducible refine gate_dst (N := 3) rfl ?_); refine box_event ?hg (N := 3) ?hd (cs := #[.int .i64 a1_0, .int .i64 a1_1]) (t := 23) ?hr ?_; (case hd => rfl); (case hg => rfl); (case hr => first | (go_simp; done) | (go_simp; rfl)); intro gb385 hg w36 hbox hb; have BK385 := Aside0.mk hbox; have GW385 := bwg_ HB hg; have GE385 := bwg_ HB hg; replace HB := bws_ HB hb; have NB384_385 := bkl_ BK384 hg; have NB385_384 := bkr_ BK384 hg; replace BK384 := bkb_ BK384 hb; clear hb hbox hg; have hnb37 := NB384_385.out; have hnc37 := NB385_384.out; obtain ⟨hcz38_0, hcz38_1, hfz38_0, hfz38_1⟩ := bc2_ BK384; obtain ⟨hcz39_0, hcz39_1, hfz39_0, hfz39_1⟩ := bc2_ BK385)))
           go_ret
           exact ⟨by first | rfl | (simp [*] <;> rfl), bw_ HB⟩
   · rw [if_neg c4] at H
     have c4b0 : decide (a0_0 < 0) = false := decide_eq_false c4
     clear c4
     by_cases c40 : a1_0 < 0
     · rw [if_pos c40] at H
       have c40b0 : decide (a1_0 < 0) = true := decide_eq_true c40
       clear c40
       by_cases c41 : a0_0 < (wrap64 (-a1_0))
       · rw [if_pos c41] at H
         have c41b0 : decide (a0_0 < (wrap64 (-a1_0))) = true := decide_eq_true c41
         clear c41
         obtain rfl := Option.some.inj H
         go_enter Try.func28, Try.ntmps28
         go_wp2_with (first | ((with_reducible refine gate_dst (N := 2) rfl ?_); refine box_event ?hg (N := 2) ?hd (cs := #[.int .i64 a0_0, .int .i64 a0_1]) (t := 23) ?hr ?_; (case hd => rfl); (case hg => rfl); (case hr => first | (go_simp; done) | (go_simp; rfl)); intro gb384 hg w42 hbox hb; have BK384 := Aside0.mk hbox; have GW384 := bwg_ HB hg; have GE384 := bwg_ HB hg; replace HB := bws_ HB hb; clear hb hbox hg) | ((with_reducible refine gate_dst (N := 3) rfl ?_); refine box_event ?hg (N := 3) ?hd (cs := #[.int .i64 a1_0, .int .i64 a1_1]) (t := 23) ?hr ?_; (case hd => rfl); (case hg => rfl); (case hr => first | (go_simp; done) | (go_simp; rfl)); intro gb385 hg w43 hbox hb; have BK385 := Aside0.mk hbox; have GW385 := bwg_ HB hg; have GE385 := bwg_ HB hg; replace HB := bws_ HB hb; have NB384_385 := bkl_ BK384 hg; have NB385_384 := bkr_ BK384 hg; replace BK384 := bkb_ BK384 hb; clear hb hbox hg; have hnb44 := NB384_385.out; have hnc44 := NB385_384.out; obtain ⟨hcz45_0, hcz45_1, hfz45_0, hfz45_1⟩ := bc2_ BK384; obtain ⟨hcz46_0, hcz46_1, hfz46_0, hfz46_1⟩ := bc2_ BK385))
         repeat (go_quiet (first | ((with_reducible refine gate_dst (N := 2) rfl ?_); refine box_event ?hg (N := 2) ?hd (cs := #[.int .i64 a0_0, .int .i64 a0_1]) (t := 23) ?hr ?_; (case hd => rfl); (case hg => rfl); (case hr => first | (go_simp; done) | (go_simp; rfl)); intro gb384 hg w42 hbox hb; have BK384 := Aside0.mk hbox; have GW384 := bwg_ HB hg; have GE384 := bwg_ HB hg; replace HB := bws_ HB hb; clear hb hbox hg) | ((with_reducible refine gate_dst (N := 3) rfl ?_); refine box_event ?hg (N := 3) ?hd (cs := #[.int .i64 a1_0, .int .i64 a1_1]) (t := 23) ?hr ?_; (case hd => rfl); (case hg => rfl); (case hr => first | (go_simp; done) | (go_simp; rfl)); intro gb385 hg w43 hbox hb; have BK385 := Aside0.mk hbox; have GW385 := bwg_ HB hg; have GE385 := bwg_ HB hg; replace HB := bws_ HB hb; have NB384_385 := bkl_ BK384 hg; have NB385_384 := bkr_ BK384 hg; replace BK384 := bkb_ BK384 hb; clear hb hbox hg; have hnb44 := NB384_385.out; have hnc44 := NB385_384.out; obtain ⟨hcz45_0, hcz45_1, hfz45_0, hfz45_1⟩ := bc2_ BK384; obtain ⟨hcz46_0, hcz46_1, hfz46_0, hfz46_1⟩ := bc2_ BK385)); try go_wp2_with (first | ((with_reducible refine gate_dst (N := 2) rfl ?_); refine box_event ?hg (N := 2) ?hd (cs := #[.int .i64 a0_0, .int .i64 a0_1]) (t := 23) ?hr ?_; (case hd => rfl); (case hg => rfl); (case hr => first | (go_simp; done) | (go_simp; rfl)); intro gb384 hg w42 hbox hb; have BK384 := Aside0.mk hbox; have GW384 := bwg_ HB hg; have GE384 := bwg_ HB hg; replace HB := bws_ HB hb; clear hb hbox hg) | ((with_reducible refine gate_dst (N := 3) rfl ?_); refine box_event ?hg (N := 3) ?hd (cs := #[.int .i64 a1_0, .int .i64 a1_1]) (t := 23) ?hr ?_; (case hd => rfl); (case hg => rfl); (case hr => first | (go_simp; done) | (go_simp; rfl)); intro gb385 hg w43 hbox hb; have BK385 := Aside0.mk hbox; have GW385 := bwg_ HB hg; have GE385 := bwg_ HB hg; replace HB := bws_ HB hb; have NB384_385 := bkl_ BK384 hg; have NB385_384 := bkr_ BK384 hg; replace BK384 := bkb_ BK384 hb; clear hb hbox hg; have hnb44 := NB384_385.out; have hnc44 := NB385_384.out; obtain ⟨hcz45_0, hcz45_1, hfz45_0, hfz45_1⟩ := bc2_ BK384; obtain ⟨hcz46_0, hcz46_1, hfz46_0, hfz46_1⟩ := bc2_ BK385)))
         go_ret
         exact ⟨by first | rfl | (simp [*] <;> rfl), bw_ HB⟩
       · rw [if_neg c41] at H
         have c41b0 : decide (a0_0 < (wrap64 (-a1_0))) = false := decide_eq_false c41
         clear c41
         by_cases c47 : a0_0 = (wrap64 (-a1_0))
         · rw [if_pos c47] at H
           have c47b0 : (a0_0 == (wrap64 (-a1_0))) = true := beq_iff_eq.mpr c47
           have c47b1 : (a0_0 != (wrap64 (-a1_0))) = false := bne_eq_false_iff_eq.mpr c47
           clear c47
           obtain rfl := Option.some.inj H
           go_enter Try.func28, Try.ntmps28
           go_wp2_with (first | ((with_reducible refine gate_dst (N := 2) rfl ?_); refine box_event ?hg (N := 2) ?hd (cs := #[.int .i64 a0_0, .int .i64 a0_1]) (t := 23) ?hr ?_; (case hd => rfl); (case hg => rfl); (case hr => first | (go_simp; done) | (go_simp; rfl)); intro gb384 hg w48 hbox hb; have BK384 := Aside0.mk hbox; have GW384 := bwg_ HB hg; have GE384 := bwg_ HB hg; replace HB := bws_ HB hb; clear hb hbox hg) | ((with_reducible refine gate_dst (N := 3) rfl ?_); refine box_event ?hg (N := 3) ?hd (cs := #[.int .i64 a1_0, .int .i64 a1_1]) (t := 23) ?hr ?_; (case hd => rfl); (case hg => rfl); (case hr => first | (go_simp; done) | (go_simp; rfl)); intro gb385 hg w49 hbox hb; have BK385 := Aside0.mk hbox; have GW385 := bwg_ HB hg; have GE385 := bwg_ HB hg; replace HB := bws_ HB hb; have NB384_385 := bkl_ BK384 hg; have NB385_384 := bkr_ BK384 hg; replace BK384 := bkb_ BK384 hb; clear hb hbox hg; have hnb50 := NB384_385.out; have hnc50 := NB385_384.out; obtain ⟨hcz51_0, hcz51_1, hfz51_0, hfz51_1⟩ := bc2_ BK384; obtain ⟨hcz52_0, hcz52_1, hfz52_0, hfz52_1⟩ := bc2_ BK385))
           repeat (go_quiet (first | ((with_reducible refine gate_dst (N := 2) rfl ?_); refine box_event ?hg (N := 2) ?hd (cs := #[.int .i64 a0_0, .int .i64 a0_1]) (t := 23) ?hr ?_; (case hd => rfl); (case hg => rfl); (case hr => first | (go_simp; done) | (go_simp; rfl)); intro gb384 hg w48 hbox hb; have BK384 := Aside0.mk hbox; have GW384 := bwg_ HB hg; have GE384 := bwg_ HB hg; replace HB := bws_ HB hb; clear hb hbox hg) | ((with_reducible refine gate_dst (N := 3) rfl ?_); refine box_event ?hg (N := 3) ?hd (cs := #[.int .i64 a1_0, .int .i64 a1_1]) (t := 23) ?hr ?_; (case hd => rfl); (case hg => rfl); (case hr => first | (go_simp; done) | (go_simp; rfl)); intro gb385 hg w49 hbox hb; have BK385 := Aside0.mk hbox; have GW385 := bwg_ HB hg; have GE385 := bwg_ HB hg; replace HB := bws_ HB hb; have NB384_385 := bkl_ BK384 hg; have NB385_384 := bkr_ BK384 hg; replace BK384 := bkb_ BK384 hb; clear hb hbox hg; have hnb50 := NB384_385.out; have hnc50 := NB385_384.out; obtain ⟨hcz51_0, hcz51_1, hfz51_0, hfz51_1⟩ := bc2_ BK384; obtain ⟨hcz52_0, hcz52_1, hfz52_0, hfz52_1⟩ := bc2_ BK385)); try go_wp2_with (first | ((with_reducible refine gate_dst (N := 2) rfl ?_); refine box_event ?hg (N := 2) ?hd (cs := #[.int .i64 a0_0, .int .i64 a0_1]) (t := 23) ?hr ?_; (case hd => rfl); (case hg => rfl); (case hr => first | (go_simp; done) | (go_simp; rfl)); intro gb384 hg w48 hbox hb; have BK384 := Aside0.mk hbox; have GW384 := bwg_ HB hg; have GE384 := bwg_ HB hg; replace HB := bws_ HB hb; clear hb hbox hg) | ((with_reducible refine gate_dst (N := 3) rfl ?_); refine box_event ?hg (N := 3) ?hd (cs := #[.int .i64 a1_0, .int .i64 a1_1]) (t := 23) ?hr ?_; (case hd => rfl); (case hg => rfl); (case hr => first | (go_simp; done) | (go_simp; rfl)); intro gb385 hg w49 hbox hb; have BK385 := Aside0.mk hbox; have GW385 := bwg_ HB hg; have GE385 := bwg_ HB hg; replace HB := bws_ HB hb; have NB384_385 := bkl_ BK384 hg; have NB385_384 := bkr_ BK384 hg; replace BK384 := bkb_ BK384 hb; clear hb hbox hg; have hnb50 := NB384_385.out; have hnc50 := NB385_384.out; obtain ⟨hcz51_0, hcz51_1, hfz51_0, hfz51_1⟩ := bc2_ BK384; obtain ⟨hcz52_0, hcz52_1, hfz52_0, hfz52_1⟩ := bc2_ BK385)))
           go_ret
           exact ⟨by first | rfl | (simp [*] <;> rfl), bw_ HB⟩
         · rw [if_neg c47] at H
           have c47b0 : (a0_0 == (wrap64 (-a1_0))) = false := beq_eq_false_iff_ne.mpr c47
           have c47b1 : (a0_0 != (wrap64 (-a1_0))) = true := bne_iff_ne.mpr c47
           obtain rfl := Option.some.inj H
           go_enter Try.func28, Try.ntmps28
           go_wp2_with (first | ((with_reducible refine gate_dst (N := 2) rfl ?_); refine box_event ?hg (N := 2) ?hd (cs := #[.int .i64 a0_0, .int .i64 a0_1]) (t := 23) ?hr ?_; (case hd => rfl); (case hg => rfl); (case hr => first | (go_simp; done) | (go_simp; rfl)); intro gb384 hg w53 hbox hb; have BK384 := Aside0.mk hbox; have GW384 := bwg_ HB hg; have GE384 := bwg_ HB hg; replace HB := bws_ HB hb; clear hb hbox hg) | ((with_reducible refine gate_dst (N := 3) rfl ?_); refine box_event ?hg (N := 3) ?hd (cs := #[.int .i64 a1_0, .int .i64 a1_1]) (t := 23) ?hr ?_; (case hd => rfl); (case hg => rfl); (case hr => first | (go_simp; done) | (go_simp; rfl)); intro gb385 hg w54 hbox hb; have BK385 := Aside0.mk hbox; have GW385 := bwg_ HB hg; have GE385 := bwg_ HB hg; replace HB := bws_ HB hb; have NB384_385 := bkl_ BK384 hg; have NB385_384 := bkr_ BK384 hg; replace BK384 := bkb_ BK384 hb; clear hb hbox hg; have hnb55 := NB384_385.out; have hnc55 := NB385_384.out; obtain ⟨hcz56_0, hcz56_1, hfz56_0, hfz56_1⟩ := bc2_ BK384; obtain ⟨hcz57_0, hcz57_1, hfz57_0, hfz57_1⟩ := bc2_ BK385))
           repeat (go_quiet (first | ((with_reducible refine gate_dst (N := 2) rfl ?_); refine box_event ?hg (N := 2) ?hd (cs := #[.int .i64 a0_0, .int .i64 a0_1]) (t := 23) ?hr ?_; (case hd => rfl); (case hg => rfl); (case hr => first | (go_simp; done) | (go_simp; rfl)); intro gb384 hg w53 hbox hb; have BK384 := Aside0.mk hbox; have GW384 := bwg_ HB hg; have GE384 := bwg_ HB hg; replace HB := bws_ HB hb; clear hb hbox hg) | ((with_reducible refine gate_dst (N := 3) rfl ?_); refine box_event ?hg (N := 3) ?hd (cs := #[.int .i64 a1_0, .int .i64 a1_1]) (t := 23) ?hr ?_; (case hd => rfl); (case hg => rfl); (case hr => first | (go_simp; done) | (go_simp; rfl)); intro gb385 hg w54 hbox hb; have BK385 := Aside0.mk hbox; have GW385 := bwg_ HB hg; have GE385 := bwg_ HB hg; replace HB := bws_ HB hb; have NB384_385 := bkl_ BK384 hg; have NB385_384 := bkr_ BK384 hg; replace BK384 := bkb_ BK384 hb; clear hb hbox hg; have hnb55 := NB384_385.out; have hnc55 := NB385_384.out; obtain ⟨hcz56_0, hcz56_1, hfz56_0, hfz56_1⟩ := bc2_ BK384; obtain ⟨hcz57_0, hcz57_1, hfz57_0, hfz57_1⟩ := bc2_ BK385)); try go_wp2_with (first | ((with_reducible refine gate_dst (N := 2) rfl ?_); refine box_event ?hg (N := 2) ?hd (cs := #[.int .i64 a0_0, .int .i64 a0_1]) (t := 23) ?hr ?_; (case hd => rfl); (case hg => rfl); (case hr => first | (go_simp; done) | (go_simp; rfl)); intro gb384 hg w53 hbox hb; have BK384 := Aside0.mk hbox; have GW384 := bwg_ HB hg; have GE384 := bwg_ HB hg; replace HB := bws_ HB hb; clear hb hbox hg) | ((with_reducible refine gate_dst (N := 3) rfl ?_); refine box_event ?hg (N := 3) ?hd (cs := #[.int .i64 a1_0, .int .i64 a1_1]) (t := 23) ?hr ?_; (case hd => rfl); (case hg => rfl); (case hr => first | (go_simp; done) | (go_simp; rfl)); intro gb385 hg w54 hbox hb; have BK385 := Aside0.mk hbox; have GW385 := bwg_ HB hg; have GE385 := bwg_ HB hg; replace HB := bws_ HB hb; have NB384_385 := bkl_ BK384 hg; have NB385_384 := bkr_ BK384 hg; replace BK384 := bkb_ BK384 hb; clear hb hbox hg; have hnb55 := NB384_385.out; have hnc55 := NB385_384.out; obtain ⟨hcz56_0, hcz56_1, hfz56_0, hfz56_1⟩ := bc2_ BK384; obtain ⟨hcz57_0, hcz57_1, hfz57_0, hfz57_1⟩ := bc2_ BK385)))
           go_ret
           exact ⟨by first | rfl | (simp [*] <;> rfl), bw_ HB⟩
     · rw [if_neg c40] at H
       have c40b0 : decide (a1_0 < 0) = false := decide_eq_false c40
       clear c40
       by_cases c58 : a0_0 < a1_0
       · rw [if_pos c58] at H
         have c58b0 : decide (a0_0 < a1_0) = true := decide_eq_true c58
         clear c58
         obtain rfl := Option.some.inj H
         go_enter Try.func28, Try.ntmps28
         go_wp2_with (first | ((with_reducible refine gate_dst (N := 2) rfl ?_); refine box_event ?hg (N := 2) ?hd (cs := #[.int .i64 a0_0, .int .i64 a0_1]) (t := 23) ?hr ?_; (case hd => rfl); (case hg => rfl); (case hr => first | (go_simp; done) | (go_simp; rfl)); intro gb384 hg w59 hbox hb; have BK384 := Aside0.mk hbox; have GW384 := bwg_ HB hg; have GE384 := bwg_ HB hg; replace HB := bws_ HB hb; clear hb hbox hg) | ((with_reducible refine gate_dst (N := 3) rfl ?_); refine box_event ?hg (N := 3) ?hd (cs := #[.int .i64 a1_0, .int .i64 a1_1]) (t := 23) ?hr ?_; (case hd => rfl); (case hg => rfl); (case hr => first | (go_simp; done) | (go_simp; rfl)); intro gb385 hg w60 hbox hb; have BK385 := Aside0.mk hbox; have GW385 := bwg_ HB hg; have GE385 := bwg_ HB hg; replace HB := bws_ HB hb; have NB384_385 := bkl_ BK384 hg; have NB385_384 := bkr_ BK384 hg; replace BK384 := bkb_ BK384 hb; clear hb hbox hg; have hnb61 := NB384_385.out; have hnc61 := NB385_384.out; obtain ⟨hcz62_0, hcz62_1, hfz62_0, hfz62_1⟩ := bc2_ BK384; obtain ⟨hcz63_0, hcz63_1, hfz63_0, hfz63_1⟩ := bc2_ BK385))
         repeat (go_quiet (first | ((with_reducible refine gate_dst (N := 2) rfl ?_); refine box_event ?hg (N := 2) ?hd (cs := #[.int .i64 a0_0, .int .i64 a0_1]) (t := 23) ?hr ?_; (case hd => rfl); (case hg => rfl); (case hr => first | (go_simp; done) | (go_simp; rfl)); intro gb384 hg w59 hbox hb; have BK384 := Aside0.mk hbox; have GW384 := bwg_ HB hg; have GE384 := bwg_ HB hg; replace HB := bws_ HB hb; clear hb hbox hg) | ((with_reducible refine gate_dst (N := 3) rfl ?_); refine box_event ?hg (N := 3) ?hd (cs := #[.int .i64 a1_0, .int .i64 a1_1]) (t := 23) ?hr ?_; (case hd => rfl); (case hg => rfl); (case hr => first | (go_simp; done) | (go_simp; rfl)); intro gb385 hg w60 hbox hb; have BK385 := Aside0.mk hbox; have GW385 := bwg_ HB hg; have GE385 := bwg_ HB hg; replace HB := bws_ HB hb; have NB384_385 := bkl_ BK384 hg; have NB385_384 := bkr_ BK384 hg; replace BK384 := bkb_ BK384 hb; clear hb hbox hg; have hnb61 := NB384_385.out; have hnc61 := NB385_384.out; obtain ⟨hcz62_0, hcz62_1, hfz62_0, hfz62_1⟩ := bc2_ BK384; obtain ⟨hcz63_0, hcz63_1, hfz63_0, hfz63_1⟩ := bc2_ BK385)); try go_wp2_with (first | ((with_reducible refine gate_dst (N := 2) rfl ?_); refine box_event ?hg (N := 2) ?hd (cs := #[.int .i64 a0_0, .int .i64 a0_1]) (t := 23) ?hr ?_; (case hd => rfl); (case hg => rfl); (case hr => first | (go_simp; done) | (go_simp; rfl)); intro gb384 hg w59 hbox hb; have BK384 := Aside0.mk hbox; have GW384 := bwg_ HB hg; have GE384 := bwg_ HB hg; replace HB := bws_ HB hb; clear hb hbox hg) | ((with_reducible refine gate_dst (N := 3) rfl ?_); refine box_event ?hg (N := 3) ?hd (cs := #[.int .i64 a1_0, .int .i64 a1_1]) (t := 23) ?hr ?_; (case hd => rfl); (case hg => rfl); (case hr => first | (go_simp; done) | (go_simp; rfl)); intro gb385 hg w60 hbox hb; have BK385 := Aside0.mk hbox; have GW385 := bwg_ HB hg; have GE385 := bwg_ HB hg; replace HB := bws_ HB hb; have NB384_385 := bkl_ BK384 hg; have NB385_384 := bkr_ BK384 hg; replace BK384 := bkb_ BK384 hb; clear hb hbox hg; have hnb61 := NB384_385.out; have hnc61 := NB385_384.out; obtain ⟨hcz62_0, hcz62_1, hfz62_0, hfz62_1⟩ := bc2_ BK384; obtain ⟨hcz63_0, hcz63_1, hfz63_0, hfz63_1⟩ := bc2_ BK385)))
         go_ret
         exact ⟨by first | rfl | (simp [*] <;> rfl), bw_ HB⟩
       · rw [if_neg c58] at H
         have c58b0 : decide (a0_0 < a1_0) = false := decide_eq_false c58
         clear c58
         by_cases c64 : a0_0 = a1_0
         · rw [if_pos c64] at H
           have c64b0 : (a0_0 == a1_0) = true := beq_iff_eq.mpr c64
           have c64b1 : (a0_0 != a1_0) = false := bne_eq_false_iff_eq.mpr c64
           clear c64
           obtain rfl := Option.some.inj H
           go_enter Try.func28, Try.ntmps28
           go_wp2_with (first | ((with_reducible refine gate_dst (N := 2) rfl ?_); refine box_event ?hg (N := 2) ?hd (cs := #[.int .i64 a0_0, .int .i64 a0_1]) (t := 23) ?hr ?_; (case hd => rfl); (case hg => rfl); (case hr => first | (go_simp; done) | (go_simp; rfl)); intro gb384 hg w65 hbox hb; have BK384 := Aside0.mk hbox; have GW384 := bwg_ HB hg; have GE384 := bwg_ HB hg; replace HB := bws_ HB hb; clear hb hbox hg) | ((with_reducible refine gate_dst (N := 3) rfl ?_); refine box_event ?hg (N := 3) ?hd (cs := #[.int .i64 a1_0, .int .i64 a1_1]) (t := 23) ?hr ?_; (case hd => rfl); (case hg => rfl); (case hr => first | (go_simp; done) | (go_simp; rfl)); intro gb385 hg w66 hbox hb; have BK385 := Aside0.mk hbox; have GW385 := bwg_ HB hg; have GE385 := bwg_ HB hg; replace HB := bws_ HB hb; have NB384_385 := bkl_ BK384 hg; have NB385_384 := bkr_ BK384 hg; replace BK384 := bkb_ BK384 hb; clear hb hbox hg; have hnb67 := NB384_385.out; have hnc67 := NB385_384.out; obtain ⟨hcz68_0, hcz68_1, hfz68_0, hfz68_1⟩ := bc2_ BK384; obtain ⟨hcz69_0, hcz69_1, hfz69_0, hfz69_1⟩ := bc2_ BK385))
           repeat (go_quiet (first | ((with_reducible refine gate_dst (N := 2) rfl ?_); refine box_event ?hg (N := 2) ?hd (cs := #[.int .i64 a0_0, .int .i64 a0_1]) (t := 23) ?hr ?_; (case hd => rfl); (case hg => rfl); (case hr => first | (go_simp; done) | (go_simp; rfl)); intro gb384 hg w65 hbox hb; have BK384 := Aside0.mk hbox; have GW384 := bwg_ HB hg; have GE384 := bwg_ HB hg; replace HB := bws_ HB hb; clear hb hbox hg) | ((with_reducible refine gate_dst (N := 3) rfl ?_); refine box_event ?hg (N := 3) ?hd (cs := #[.int .i64 a1_0, .int .i64 a1_1]) (t := 23) ?hr ?_; (case hd => rfl); (case hg => rfl); (case hr => first | (go_simp; done) | (go_simp; rfl)); intro gb385 hg w66 hbox hb; have BK385 := Aside0.mk hbox; have GW385 := bwg_ HB hg; have GE385 := bwg_ HB hg; replace HB := bws_ HB hb; have NB384_385 := bkl_ BK384 hg; have NB385_384 := bkr_ BK384 hg; replace BK384 := bkb_ BK384 hb; clear hb hbox hg; have hnb67 := NB384_385.out; have hnc67 := NB385_384.out; obtain ⟨hcz68_0, hcz68_1, hfz68_0, hfz68_1⟩ := bc2_ BK384; obtain ⟨hcz69_0, hcz69_1, hfz69_0, hfz69_1⟩ := bc2_ BK385)); try go_wp2_with (first | ((with_reducible refine gate_dst (N := 2) rfl ?_); refine box_event ?hg (N := 2) ?hd (cs := #[.int .i64 a0_0, .int .i64 a0_1]) (t := 23) ?hr ?_; (case hd => rfl); (case hg => rfl); (case hr => first | (go_simp; done) | (go_simp; rfl)); intro gb384 hg w65 hbox hb; have BK384 := Aside0.mk hbox; have GW384 := bwg_ HB hg; have GE384 := bwg_ HB hg; replace HB := bws_ HB hb; clear hb hbox hg) | ((with_reducible refine gate_dst (N := 3) rfl ?_); refine box_event ?hg (N := 3) ?hd (cs := #[.int .i64 a1_0, .int .i64 a1_1]) (t := 23) ?hr ?_; (case hd => rfl); (case hg => rfl); (case hr => first | (go_simp; done) | (go_simp; rfl)); intro gb385 hg w66 hbox hb; have BK385 := Aside0.mk hbox; have GW385 := bwg_ HB hg; have GE385 := bwg_ HB hg; replace HB := bws_ HB hb; have NB384_385 := bkl_ BK384 hg; have NB385_384 := bkr_ BK384 hg; replace BK384 := bkb_ BK384 hb; clear hb hbox hg; have hnb67 := NB384_385.out; have hnc67 := NB385_384.out; obtain ⟨hcz68_0, hcz68_1, hfz68_0, hfz68_1⟩ := bc2_ BK384; obtain ⟨hcz69_0, hcz69_1, hfz69_0, hfz69_1⟩ := bc2_ BK385)))
           go_ret
           exact ⟨by first | rfl | (simp [*] <;> rfl), bw_ HB⟩
         · rw [if_neg c64] at H
           have c64b0 : (a0_0 == a1_0) = false := beq_eq_false_iff_ne.mpr c64
           have c64b1 : (a0_0 != a1_0) = true := bne_iff_ne.mpr c64
           obtain rfl := Option.some.inj H
           go_enter Try.func28, Try.ntmps28
           go_wp2_with (first | ((with_reducible refine gate_dst (N := 2) rfl ?_); refine box_event ?hg (N := 2) ?hd (cs := #[.int .i64 a0_0, .int .i64 a0_1]) (t := 23) ?hr ?_; (case hd => rfl); (case hg => rfl); (case hr => first | (go_simp; done) | (go_simp; rfl)); intro gb384 hg w70 hbox hb; have BK384 := Aside0.mk hbox; have GW384 := bwg_ HB hg; have GE384 := bwg_ HB hg; replace HB := bws_ HB hb; clear hb hbox hg) | ((with_reducible refine gate_dst (N := 3) rfl ?_); refine box_event ?hg (N := 3) ?hd (cs := #[.int .i64 a1_0, .int .i64 a1_1]) (t := 23) ?hr ?_; (case hd => rfl); (case hg => rfl); (case hr => first | (go_simp; done) | (go_simp; rfl)); intro gb385 hg w71 hbox hb; have BK385 := Aside0.mk hbox; have GW385 := bwg_ HB hg; have GE385 := bwg_ HB hg; replace HB := bws_ HB hb; have NB384_385 := bkl_ BK384 hg; have NB385_384 := bkr_ BK384 hg; replace BK384 := bkb_ BK384 hb; clear hb hbox hg; have hnb72 := NB384_385.out; have hnc72 := NB385_384.out; obtain ⟨hcz73_0, hcz73_1, hfz73_0, hfz73_1⟩ := bc2_ BK384; obtain ⟨hcz74_0, hcz74_1, hfz74_0, hfz74_1⟩ := bc2_ BK385))
           repeat (go_quiet (first | ((with_reducible refine gate_dst (N := 2) rfl ?_); refine box_event ?hg (N := 2) ?hd (cs := #[.int .i64 a0_0, .int .i64 a0_1]) (t := 23) ?hr ?_; (case hd => rfl); (case hg => rfl); (case hr => first | (go_simp; done) | (go_simp; rfl)); intro gb384 hg w70 hbox hb; have BK384 := Aside0.mk hbox; have GW384 := bwg_ HB hg; have GE384 := bwg_ HB hg; replace HB := bws_ HB hb; clear hb hbox hg) | ((with_reducible refine gate_dst (N := 3) rfl ?_); refine box_event ?hg (N := 3) ?hd (cs := #[.int .i64 a1_0, .int .i64 a1_1]) (t := 23) ?hr ?_; (case hd => rfl); (case hg => rfl); (case hr => first | (go_simp; done) | (go_simp; rfl)); intro gb385 hg w71 hbox hb; have BK385 := Aside0.mk hbox; have GW385 := bwg_ HB hg; have GE385 := bwg_ HB hg; replace HB := bws_ HB hb; have NB384_385 := bkl_ BK384 hg; have NB385_384 := bkr_ BK384 hg; replace BK384 := bkb_ BK384 hb; clear hb hbox hg; have hnb72 := NB384_385.out; have hnc72 := NB385_384.out; obtain ⟨hcz73_0, hcz73_1, hfz73_0, hfz73_1⟩ := bc2_ BK384; obtain ⟨hcz74_0, hcz74_1, hfz74_0, hfz74_1⟩ := bc2_ BK385)); try go_wp2_with (first | ((with_reducible refine gate_dst (N := 2) rfl ?_); refine box_event ?hg (N := 2) ?hd (cs := #[.int .i64 a0_0, .int .i64 a0_1]) (t := 23) ?hr ?_; (case hd => rfl); (case hg => rfl); (case hr => first | (go_simp; done) | (go_simp; rfl)); intro gb384 hg w70 hbox hb; have BK384 := Aside0.mk hbox; have GW384 := bwg_ HB hg; have GE384 := bwg_ HB hg; replace HB := bws_ HB hb; clear hb hbox hg) | ((with_reducible refine gate_dst (N := 3) rfl ?_); refine box_event ?hg (N := 3) ?hd (cs := #[.int .i64 a1_0, .int .i64 a1_1]) (t := 23) ?hr ?_; (case hd => rfl); (case hg => rfl); (case hr => first | (go_simp; done) | (go_simp; rfl)); intro gb385 hg w71 hbox hb; have BK385 := Aside0.mk hbox; have GW385 := bwg_ HB hg; have GE385 := bwg_ HB hg; replace HB := bws_ HB hb; have NB384_385 := bkl_ BK384 hg; have NB385_384 := bkr_ BK384 hg; replace BK384 := bkb_ BK384 hb; clear hb hbox hg; have hnb72 := NB384_385.out; have hnc72 := NB385_384.out; obtain ⟨hcz73_0, hcz73_1, hfz73_0, hfz73_1⟩ := bc2_ BK384; obtain ⟨hcz74_0, hcz74_1, hfz74_0, hfz74_1⟩ := bc2_ BK385)))
           go_ret
           exact ⟨by first | rfl | (simp [*] <;> rfl), bw_ HB⟩
 · rw [if_neg c3] at H
   have c3b0 : (a0_1 == a1_1) = false := beq_eq_false_iff_ne.mpr c3
   have c3b1 : (a0_1 != a1_1) = true := bne_iff_ne.mpr c3
   obtain rfl := Option.some.inj H
   go_enter Try.func28, Try.ntmps28
   go_wp2_with (first | ((with_reducible refine gate_dst (N := 2) rfl ?_); refine box_event ?hg (N := 2) ?hd (cs := #[.int .i64 a0_0, .int .i64 a0_1]) (t := 23) ?hr ?_; (case hd => rfl); (case hg => rfl); (case hr => first | (go_simp; done) | (go_simp; rfl)); intro gb384 hg w75 hbox hb; have BK384 := Aside0.mk hbox; have GW384 := bwg_ HB hg; have GE384 := bwg_ HB hg; replace HB := bws_ HB hb; clear hb hbox hg) | ((with_reducible refine gate_dst (N := 3) rfl ?_); refine box_event ?hg (N := 3) ?hd (cs := #[.int .i64 a1_0, .int .i64 a1_1]) (t := 23) ?hr ?_; (case hd => rfl); (case hg => rfl); (case hr => first | (go_simp; done) | (go_simp; rfl)); intro gb385 hg w76 hbox hb; have BK385 := Aside0.mk hbox; have GW385 := bwg_ HB hg; have GE385 := bwg_ HB hg; replace HB := bws_ HB hb; have NB384_385 := bkl_ BK384 hg; have NB385_384 := bkr_ BK384 hg; replace BK384 := bkb_ BK384 hb; clear hb hbox hg; have hnb77 := NB384_385.out; have hnc77 := NB385_384.out; obtain ⟨hcz78_0, hcz78_1, hfz78_0, hfz78_1⟩ := bc2_ BK384; obtain ⟨hcz79_0, hcz79_1, hfz79_0, hfz79_1⟩ := bc2_ BK385))
   repeat (go_quiet (first | ((with_reducible refine gate_dst (N := 2) rfl ?_); refine box_event ?hg (N := 2) ?hd (cs := #[.int .i64 a0_0, .int .i64 a0_1]) (t := 23) ?hr ?_; (case hd => rfl); (case hg => rfl); (case hr => first | (go_simp; done) | (go_simp; rfl)); intro gb384 hg w75 hbox hb; have BK384 := Aside0.mk hbox; have GW384 := bwg_ HB hg; have GE384 := bwg_ HB hg; replace HB := bws_ HB hb; clear hb hbox hg) | ((with_reducible refine gate_dst (N := 3) rfl ?_); refine box_event ?hg (N := 3) ?hd (cs := #[.int .i64 a1_0, .int .i64 a1_1]) (t := 23) ?hr ?_; (case hd => rfl); (case hg => rfl); (case hr => first | (go_simp; done) | (go_simp; rfl)); intro gb385 hg w76 hbox hb; have BK385 := Aside0.mk hbox; have GW385 := bwg_ HB hg; have GE385 := bwg_ HB hg; replace HB := bws_ HB hb; have NB384_385 := bkl_ BK384 hg; have NB385_384 := bkr_ BK384 hg; replace BK384 := bkb_ BK384 hb; clear hb hbox hg; have hnb77 := NB384_385.out; have hnc77 := NB385_384.out; obtain ⟨hcz78_0, hcz78_1, hfz78_0, hfz78_1⟩ := bc2_ BK384; obtain ⟨hcz79_0, hcz79_1, hfz79_0, hfz79_1⟩ := bc2_ BK385)); try go_wp2_with (first | ((with_reducible refine gate_dst (N := 2) rfl ?_); refine box_event ?hg (N := 2) ?hd (cs := #[.int .i64 a0_0, .int .i64 a0_1]) (t := 23) ?hr ?_; (case hd => rfl); (case hg => rfl); (case hr => first | (go_simp; done) | (go_simp; rfl)); intro gb384 hg w75 hbox hb; have BK384 := Aside0.mk hbox; have GW384 := bwg_ HB hg; have GE384 := bwg_ HB hg; replace HB := bws_ HB hb; clear hb hbox hg) | ((with_reducible refine gate_dst (N := 3) rfl ?_); refine box_event ?hg (N := 3) ?hd (cs := #[.int .i64 a1_0, .int .i64 a1_1]) (t := 23) ?hr ?_; (case hd => rfl); (case hg => rfl); (case hr => first | (go_simp; done) | (go_simp; rfl)); intro gb385 hg w76 hbox hb; have BK385 := Aside0.mk hbox; have GW385 := bwg_ HB hg; have GE385 := bwg_ HB hg; replace HB := bws_ HB hb; have NB384_385 := bkl_ BK384 hg; have NB385_384 := bkr_ BK384 hg; replace BK384 := bkb_ BK384 hb; clear hb hbox hg; have hnb77 := NB384_385.out; have hnc77 := NB385_384.out; obtain ⟨hcz78_0, hcz78_1, hfz78_0, hfz78_1⟩ := bc2_ BK384; obtain ⟨hcz79_0, hcz79_1, hfz79_0, hfz79_1⟩ := bc2_ BK385)))
   go_ret
   exact ⟨by first | rfl | (simp [*] <;> rfl), bw_ HB⟩
/-! ### withyref01_under: function 76 -/
def withyref01_under.f (a0 : Int) (a1 : Int) : Option (Int) := if a0 < 0 then (if a1 = 0 then (none) else (some (wrap64 (-(wrap64 (Int.tdiv (wrap64 ((wrap64 ((wrap64 (-a0)) + a1)) - 1)) a1)))))) else (if a1 = 0 then (none) else (some (wrap64 (Int.tdiv a0 a1))))
set_option maxHeartbeats 8000000 in
set_option maxRecDepth 100000 in
theorem withyref01_under.calls (a0 : Int) (a1 : Int) (r : Int) (w : World) (h : withyref01_under.f a0 a1 = some r) :
    Calls Try.prog 76 #[.int .i64 a0, .int .i64 a1] w fun e w' => e = .returned (.int .i64 r) ∧ Drawn0 w w' := by
  have H : (if a0 < 0 then (if a1 = 0 then (none) else (some (wrap64 (-(wrap64 (Int.tdiv (wrap64 ((wrap64 ((wrap64 (-a0)) + a1)) - 1)) a1)))))) else (if a1 = 0 then (none) else (some (wrap64 (Int.tdiv a0 a1))))) = some r := h
  clear h
  by_cases c3 : a0 < 0
  · rw [if_pos c3] at H
    have c3b0 : decide (a0 < 0) = true := decide_eq_true c3
    clear c3
    by_cases c4 : a1 = 0
    · rw [if_pos c4] at H
      exact absurd H (by simp)
    · rw [if_neg c4] at H
      have c4b0 : (a1 == 0) = false := beq_eq_false_iff_ne.mpr c4
      have c4b1 : (a1 != 0) = true := bne_iff_ne.mpr c4
      obtain rfl := Option.some.inj H
      go_enter Try.func76, Try.ntmps76
      go_wp2
      go_ret
      exact ⟨by first | rfl | (simp; done) | (simp [*]; done), by repeat (first | exact Drawn0.refl _ | apply Drawn0.step)⟩
  · rw [if_neg c3] at H
    have c3b0 : decide (a0 < 0) = false := decide_eq_false c3
    clear c3
    by_cases c5 : a1 = 0
    · rw [if_pos c5] at H
      exact absurd H (by simp)
    · rw [if_neg c5] at H
      have c5b0 : (a1 == 0) = false := beq_eq_false_iff_ne.mpr c5
      have c5b1 : (a1 != 0) = true := bne_iff_ne.mpr c5
      obtain rfl := Option.some.inj H
      go_enter Try.func76, Try.ntmps76
      go_wp2
      go_ret
      exact ⟨by first | rfl | (simp; done) | (simp [*]; done), by repeat (first | exact Drawn0.refl _ | apply Drawn0.step)⟩
/-! ### withyref01_low: function 96 -/
def withyref01_low.j0 : Nat → Int → Int → Option (Int × Int × Int)
  | 0, _, _ => none
  | k + 1, x0, x1 => (withyref01_Of2.f k x0 x1).bind fun t466 => (if t466 = 0 then (none) else (if (wrap64 (Int.tdiv x1 t466)) > 1000000000 then (some (0, 0, 8)) else ((withyref01_In.f (wrap64 (Int.tdiv x0 t466)) (-1000000000) 1000000000).bind fun t467 => (if t467 = true then (some (wrap64 (Int.tdiv x0 t466), wrap64 (Int.tdiv x1 t466), 0)) else (some (0, 0, 8))))))
def withyref01_low.f (k : Nat) (a0 : Int) (a1 : Int) : Option (Int × Int × Int) := if a1 < 0 then (withyref01_low.j0 k (wrap64 (-a0)) (wrap64 (-a1))) else (withyref01_low.j0 k a0 a1)
theorem withyref01_low.mono_l : ∀ k, (∀ y0 y1, LeO (withyref01_low.j0 k y0 y1) (withyref01_low.j0 (k + 1) y0 y1))
  | 0 => fun _ _ r h => by simp [withyref01_low.j0] at h
  | k + 1 => by
    have ih0 := withyref01_low.mono_l k
    · intro y0 y1
      unfold withyref01_low.j0
      repeat' first
      | (with_reducible exact ih0 _ _)
      | (with_reducible exact withyref01_Of2.mono _ _ _)
      | (with_reducible exact LeO.refl _)
      | (with_reducible exact LeO.none _)
      | (with_reducible refine LeO.ite ?_ ?_)
      | (with_reducible refine LeO.bind ?_ (fun _ => ?_))
      | (with_reducible refine LeO.exc (fun _ => ?_) (fun _ => ?_))
      | exact ih0 _ _
      | exact withyref01_Of2.mono _ _ _
      | exact LeO.none _
      | refine LeO.ite ?_ ?_
      | refine LeO.bind ?_ (fun _ => ?_)
theorem withyref01_low.mono : ∀ a0 a1 k, LeO (withyref01_low.f k a0 a1) (withyref01_low.f (k + 1) a0 a1) := by
  intro a0 a1 k
  have ih0 := withyref01_low.mono_l k
  unfold withyref01_low.f
  repeat' first
      | (with_reducible exact ih0 _ _)
      | (with_reducible exact withyref01_Of2.mono _ _ _)
      | (with_reducible exact LeO.refl _)
      | (with_reducible exact LeO.none _)
      | (with_reducible refine LeO.ite ?_ ?_)
      | (with_reducible refine LeO.bind ?_ (fun _ => ?_))
      | (with_reducible refine LeO.exc (fun _ => ?_) (fun _ => ?_))
      | exact ih0 _ _
      | exact withyref01_Of2.mono _ _ _
      | exact LeO.none _
      | refine LeO.ite ?_ ?_
      | refine LeO.bind ?_ (fun _ => ?_)
set_option maxHeartbeats 8000000 in
set_option maxRecDepth 100000 in
theorem withyref01_low.calls (k : Nat) (a0 : Int) (a1 : Int) (r1 : Int) (r2 : Int) (r3 : Int) (w : World) (h : withyref01_low.f k a0 a1 = some (r1, r2, r3)) :
    Calls Try.prog 96 #[.int .i64 a0, .int .i64 a1] w fun e w' => e = .returned (.tuple #[.agg #[.int .i64 r1, .int .i64 r2], .int .i64 r3]) ∧ Below w.heap.size w w' := by
 have hu23 := Try.underlying23
 have HB := Aside0.mk (Below.refl w.heap.size w)
 have H : (if a1 < 0 then (withyref01_low.j0 k (wrap64 (-a0)) (wrap64 (-a1))) else (withyref01_low.j0 k a0 a1)) = some (r1, r2, r3) := h
 clear h
 have HC3 := Aside0.mk H
 clear H
 go_enter Try.func96, Try.ntmps96
 go_upto_if 8 with (first | ((with_reducible refine gate_dst (N := 4) rfl ?_); refine box_event ?hg (N := 4) ?hd (cs := #[.int .i64 0, .int .i64 0]) (t := 23) ?hr ?_; (case hd => rfl); (case hg => rfl); (case hr => first | (go_simp; done) | (go_simp; rfl)); intro gb465 hg w4 hbox hb; have BK465 := Aside0.mk hbox; have GW465 := bwg_ HB hg; have GE465 := bwg_ HB hg; replace HB := bws_ HB hb; clear hb hbox hg))
 repeat (go_quiet (first | ((with_reducible refine gate_dst (N := 4) rfl ?_); refine box_event ?hg (N := 4) ?hd (cs := #[.int .i64 0, .int .i64 0]) (t := 23) ?hr ?_; (case hd => rfl); (case hg => rfl); (case hr => first | (go_simp; done) | (go_simp; rfl)); intro gb465 hg w4 hbox hb; have BK465 := Aside0.mk hbox; have GW465 := bwg_ HB hg; have GE465 := bwg_ HB hg; replace HB := bws_ HB hb; clear hb hbox hg)); go_upto_if 8 with (first | ((with_reducible refine gate_dst (N := 4) rfl ?_); refine box_event ?hg (N := 4) ?hd (cs := #[.int .i64 0, .int .i64 0]) (t := 23) ?hr ?_; (case hd => rfl); (case hg => rfl); (case hr => first | (go_simp; done) | (go_simp; rfl)); intro gb465 hg w4 hbox hb; have BK465 := Aside0.mk hbox; have GW465 := bwg_ HB hg; have GE465 := bwg_ HB hg; replace HB := bws_ HB hb; clear hb hbox hg)))
 (try simp only [Act.put, List.setIfInBounds_toArray, List.set_cons_zero, List.set_cons_succ])
 go_cut [0, 1] (fun v0 v1 wc => ∃ (kq : Nat) (x0_2 : Int) (x1_2 : Int), v0 = .int .i64 x0_2 ∧ v1 = .int .i64 x1_2 ∧ Aside0 (withyref01_low.j0 kq x0_2 x1_2 = some (r1, r2, r3)) ∧ Aside0 (kq ≤ k) ∧ Aside0 (wc.heap[gb465]? = some (.cells #[.int .i64 0, .int .i64 0] 23 (0, 0))) ∧ Aside0 (Below w.heap.size w wc))
 case first =>
  have H := HC3.out
  clear HC3
  by_cases c5 : a1 < 0
  · rw [if_pos c5] at H
    have c5b0 : decide (a1 < 0) = true := decide_eq_true c5
    clear c5
    (first | rw [c5b0] | (simp only [i64_w, i32_w]; rw [c5b0]) | skip)
    have H' := Aside0.mk H
    clear H
    go_wp2
    repeat (go_quiet (fail); try go_wp2)
    go_meet
    case rel => exact ⟨_, (wrap64 (-a0)), (wrap64 (-a1)), (by first | rfl | (simp; done) | (simp [*]; done)), (by first | rfl | (simp; done) | (simp [*]; done)), H', ⟨by first | omega | exact Nat.le_refl _⟩, ⟨by exact bk_ BK465⟩, ⟨bw_ HB⟩⟩
  · rw [if_neg c5] at H
    have c5b0 : decide (a1 < 0) = false := decide_eq_false c5
    clear c5
    (first | rw [c5b0] | (simp only [i64_w, i32_w]; rw [c5b0]) | skip)
    have H' := Aside0.mk H
    clear H
    go_wp2
    repeat (go_quiet (fail); try go_wp2)
    go_meet
    case rel => exact ⟨_, (a0), (a1), (by first | rfl | (simp; done) | (simp [*]; done)), (by first | rfl | (simp; done) | (simp [*]; done)), H', ⟨by first | omega | exact Nat.le_refl _⟩, ⟨by exact bk_ BK465⟩, ⟨bw_ HB⟩⟩
 case rest =>
  clear HC3
  try clear p2
  try clear c5
  try clear c5b0
  obtain ⟨kq, x0_2, x1_2, rfl, rfl, HA, HJ2, BK465, HB⟩ := hcut
  cases kq with
  | zero => exact absurd HA.out (by simp [withyref01_low.j0])
  | succ kj2 =>
   have H := HA.out
   clear HA
   simp only [withyref01_low.j0] at H
   replace H := Option.bind_eq_some_iff.mp H
   obtain ⟨t466, A60, H⟩ := H
   replace H : (if t466 = 0 then (none) else (if (wrap64 (Int.tdiv x1_2 t466)) > 1000000000 then (some (0, 0, 8)) else ((withyref01_In.f (wrap64 (Int.tdiv x0_2 t466)) (-1000000000) 1000000000).bind fun t467 => (if t467 = true then (some (wrap64 (Int.tdiv x0_2 t466), wrap64 (Int.tdiv x1_2 t466), 0)) else (some (0, 0, 8)))))) = some (r1, r2, r3) := H
   have A6 := Aside0.mk A60
   clear A60
   by_cases c7 : t466 = 0
   · rw [if_pos c7] at H
     exact absurd H (by simp)
   · rw [if_neg c7] at H
     have c7b0 : (t466 == 0) = false := beq_eq_false_iff_ne.mpr c7
     have c7b1 : (t466 != 0) = true := bne_iff_ne.mpr c7
     by_cases c8 : (wrap64 (Int.tdiv x1_2 t466)) > 1000000000
     · rw [if_pos c8] at H
       have c8b0 : decide (1000000000 < (wrap64 (Int.tdiv x1_2 t466))) = true := decide_eq_true c8
       clear c8
       simp only [Option.some.injEq, Prod.mk.injEq] at H
       obtain ⟨rfl, rfl, rfl⟩ := H
       go_wp2_with (first | (go_at_call 93; (with_reducible refine (withyref01_Of2.calls kj2 x0_2 x1_2 t466 _ A6.out).mono ?_); rintro e w' ⟨rfl, ⟨nd, rfl⟩⟩; (try first | exact ⟨rfl, _, World.drewN_drewN _ _ _⟩ | exact ⟨rfl, _, Eq.trans (World.drewN_drewN _ _ _) (congrArg (World.drewN _) (Nat.add_assoc _ _ _))⟩); obtain ⟨hcz9_0, hcz9_1, hfz9_0, hfz9_1⟩ := bc2_ BK465))
       repeat (go_quiet (first | (go_at_call 93; (with_reducible refine (withyref01_Of2.calls kj2 x0_2 x1_2 t466 _ A6.out).mono ?_); rintro e w' ⟨rfl, ⟨nd, rfl⟩⟩; (try first | exact ⟨rfl, _, World.drewN_drewN _ _ _⟩ | exact ⟨rfl, _, Eq.trans (World.drewN_drewN _ _ _) (congrArg (World.drewN _) (Nat.add_assoc _ _ _))⟩); obtain ⟨hcz9_0, hcz9_1, hfz9_0, hfz9_1⟩ := bc2_ BK465)); try go_wp2_with (first | (go_at_call 93; (with_reducible refine (withyref01_Of2.calls kj2 x0_2 x1_2 t466 _ A6.out).mono ?_); rintro e w' ⟨rfl, ⟨nd, rfl⟩⟩; (try first | exact ⟨rfl, _, World.drewN_drewN _ _ _⟩ | exact ⟨rfl, _, Eq.trans (World.drewN_drewN _ _ _) (congrArg (World.drewN _) (Nat.add_assoc _ _ _))⟩); obtain ⟨hcz9_0, hcz9_1, hfz9_0, hfz9_1⟩ := bc2_ BK465)))
       refine bodyPost_ret (results_ct rfl _ _ gb465 23 #[.int .i64 0, .int .i64 0] (0, 0) _ rfl (by refine bp_ (cs := #[.int .i64 0, .int .i64 0]) ?_ 1; refine bp_ (cs := #[.int .i64 0, .int .i64 0]) ?_ 0; exact bk_ BK465) Try.underlying23 rfl (by kernel_rfl)) rfl ?_
       exact ⟨by first | rfl | (simp [*] <;> rfl), bw_ HB⟩
     · rw [if_neg c8] at H
       have c8b0 : decide (1000000000 < (wrap64 (Int.tdiv x1_2 t466))) = false := decide_eq_false c8
       clear c8
       replace H := Option.bind_eq_some_iff.mp H
       obtain ⟨t467, A100, H⟩ := H
       replace H : (if t467 = true then (some (wrap64 (Int.tdiv x0_2 t466), wrap64 (Int.tdiv x1_2 t466), 0)) else (some (0, 0, 8))) = some (r1, r2, r3) := H
       have A10 := Aside0.mk A100
       clear A100
       by_cases c11 : t467 = true
       · subst c11
         have H1 : (some (wrap64 (Int.tdiv x0_2 t466), wrap64 (Int.tdiv x1_2 t466), 0)) = some (r1, r2, r3) := by rw [if_pos rfl] at H; exact H
         clear H
         have H := H1
         clear H1
         simp only [Option.some.injEq, Prod.mk.injEq] at H
         obtain ⟨rfl, rfl, rfl⟩ := H
         go_wp2_with (first | (go_at_call 93; (with_reducible refine (withyref01_Of2.calls kj2 x0_2 x1_2 t466 _ A6.out).mono ?_); rintro e w' ⟨rfl, ⟨nd, rfl⟩⟩; (try first | exact ⟨rfl, _, World.drewN_drewN _ _ _⟩ | exact ⟨rfl, _, Eq.trans (World.drewN_drewN _ _ _) (congrArg (World.drewN _) (Nat.add_assoc _ _ _))⟩)) | (go_at_call 42; (with_reducible refine (withyref01_In.calls (wrap64 (Int.tdiv x0_2 t466)) (-1000000000) 1000000000 true _ A10.out).mono ?_); rintro e w' ⟨rfl, ⟨nd, rfl⟩⟩; (try first | exact ⟨rfl, _, World.drewN_drewN _ _ _⟩ | exact ⟨rfl, _, Eq.trans (World.drewN_drewN _ _ _) (congrArg (World.drewN _) (Nat.add_assoc _ _ _))⟩); obtain ⟨hcz12_0, hcz12_1, hfz12_0, hfz12_1⟩ := bc2_ BK465))
         repeat (go_quiet (first | (go_at_call 93; (with_reducible refine (withyref01_Of2.calls kj2 x0_2 x1_2 t466 _ A6.out).mono ?_); rintro e w' ⟨rfl, ⟨nd, rfl⟩⟩; (try first | exact ⟨rfl, _, World.drewN_drewN _ _ _⟩ | exact ⟨rfl, _, Eq.trans (World.drewN_drewN _ _ _) (congrArg (World.drewN _) (Nat.add_assoc _ _ _))⟩)) | (go_at_call 42; (with_reducible refine (withyref01_In.calls (wrap64 (Int.tdiv x0_2 t466)) (-1000000000) 1000000000 true _ A10.out).mono ?_); rintro e w' ⟨rfl, ⟨nd, rfl⟩⟩; (try first | exact ⟨rfl, _, World.drewN_drewN _ _ _⟩ | exact ⟨rfl, _, Eq.trans (World.drewN_drewN _ _ _) (congrArg (World.drewN _) (Nat.add_assoc _ _ _))⟩); obtain ⟨hcz12_0, hcz12_1, hfz12_0, hfz12_1⟩ := bc2_ BK465)); try go_wp2_with (first | (go_at_call 93; (with_reducible refine (withyref01_Of2.calls kj2 x0_2 x1_2 t466 _ A6.out).mono ?_); rintro e w' ⟨rfl, ⟨nd, rfl⟩⟩; (try first | exact ⟨rfl, _, World.drewN_drewN _ _ _⟩ | exact ⟨rfl, _, Eq.trans (World.drewN_drewN _ _ _) (congrArg (World.drewN _) (Nat.add_assoc _ _ _))⟩)) | (go_at_call 42; (with_reducible refine (withyref01_In.calls (wrap64 (Int.tdiv x0_2 t466)) (-1000000000) 1000000000 true _ A10.out).mono ?_); rintro e w' ⟨rfl, ⟨nd, rfl⟩⟩; (try first | exact ⟨rfl, _, World.drewN_drewN _ _ _⟩ | exact ⟨rfl, _, Eq.trans (World.drewN_drewN _ _ _) (congrArg (World.drewN _) (Nat.add_assoc _ _ _))⟩); obtain ⟨hcz12_0, hcz12_1, hfz12_0, hfz12_1⟩ := bc2_ BK465)))
         refine bodyPost_ret (results_ct rfl _ _ gb465 23 #[.int .i64 (wrap64 (Int.tdiv x0_2 t466)), .int .i64 (wrap64 (Int.tdiv x1_2 t466))] (0, 0) _ rfl (by refine bp_ (cs := #[.int .i64 (wrap64 (Int.tdiv x0_2 t466)), .int .i64 0]) ?_ 1; refine bp_ (cs := #[.int .i64 0, .int .i64 0]) ?_ 0; exact bk_ BK465) Try.underlying23 rfl (by kernel_rfl)) rfl ?_
         exact ⟨by first | rfl | (simp [*] <;> rfl), bw_ HB⟩
       · replace c11 := Bool.eq_false_iff.mpr c11
         subst c11
         have H1 : (some (0, 0, 8)) = some (r1, r2, r3) := by rw [if_neg (show ¬ (false = true) by decide)] at H; exact H
         clear H
         have H := H1
         clear H1
         simp only [Option.some.injEq, Prod.mk.injEq] at H
         obtain ⟨rfl, rfl, rfl⟩ := H
         go_wp2_with (first | (go_at_call 93; (with_reducible refine (withyref01_Of2.calls kj2 x0_2 x1_2 t466 _ A6.out).mono ?_); rintro e w' ⟨rfl, ⟨nd, rfl⟩⟩; (try first | exact ⟨rfl, _, World.drewN_drewN _ _ _⟩ | exact ⟨rfl, _, Eq.trans (World.drewN_drewN _ _ _) (congrArg (World.drewN _) (Nat.add_assoc _ _ _))⟩)) | (go_at_call 42; (with_reducible refine (withyref01_In.calls (wrap64 (Int.tdiv x0_2 t466)) (-1000000000) 1000000000 false _ A10.out).mono ?_); rintro e w' ⟨rfl, ⟨nd, rfl⟩⟩; (try first | exact ⟨rfl, _, World.drewN_drewN _ _ _⟩ | exact ⟨rfl, _, Eq.trans (World.drewN_drewN _ _ _) (congrArg (World.drewN _) (Nat.add_assoc _ _ _))⟩); obtain ⟨hcz13_0, hcz13_1, hfz13_0, hfz13_1⟩ := bc2_ BK465))
         repeat (go_quiet (first | (go_at_call 93; (with_reducible refine (withyref01_Of2.calls kj2 x0_2 x1_2 t466 _ A6.out).mono ?_); rintro e w' ⟨rfl, ⟨nd, rfl⟩⟩; (try first | exact ⟨rfl, _, World.drewN_drewN _ _ _⟩ | exact ⟨rfl, _, Eq.trans (World.drewN_drewN _ _ _) (congrArg (World.drewN _) (Nat.add_assoc _ _ _))⟩)) | (go_at_call 42; (with_reducible refine (withyref01_In.calls (wrap64 (Int.tdiv x0_2 t466)) (-1000000000) 1000000000 false _ A10.out).mono ?_); rintro e w' ⟨rfl, ⟨nd, rfl⟩⟩; (try first | exact ⟨rfl, _, World.drewN_drewN _ _ _⟩ | exact ⟨rfl, _, Eq.trans (World.drewN_drewN _ _ _) (congrArg (World.drewN _) (Nat.add_assoc _ _ _))⟩); obtain ⟨hcz13_0, hcz13_1, hfz13_0, hfz13_1⟩ := bc2_ BK465)); try go_wp2_with (first | (go_at_call 93; (with_reducible refine (withyref01_Of2.calls kj2 x0_2 x1_2 t466 _ A6.out).mono ?_); rintro e w' ⟨rfl, ⟨nd, rfl⟩⟩; (try first | exact ⟨rfl, _, World.drewN_drewN _ _ _⟩ | exact ⟨rfl, _, Eq.trans (World.drewN_drewN _ _ _) (congrArg (World.drewN _) (Nat.add_assoc _ _ _))⟩)) | (go_at_call 42; (with_reducible refine (withyref01_In.calls (wrap64 (Int.tdiv x0_2 t466)) (-1000000000) 1000000000 false _ A10.out).mono ?_); rintro e w' ⟨rfl, ⟨nd, rfl⟩⟩; (try first | exact ⟨rfl, _, World.drewN_drewN _ _ _⟩ | exact ⟨rfl, _, Eq.trans (World.drewN_drewN _ _ _) (congrArg (World.drewN _) (Nat.add_assoc _ _ _))⟩); obtain ⟨hcz13_0, hcz13_1, hfz13_0, hfz13_1⟩ := bc2_ BK465)))
         refine bodyPost_ret (results_ct rfl _ _ gb465 23 #[.int .i64 0, .int .i64 0] (0, 0) _ rfl (by refine bp_ (cs := #[.int .i64 0, .int .i64 0]) ?_ 1; refine bp_ (cs := #[.int .i64 0, .int .i64 0]) ?_ 0; exact bk_ BK465) Try.underlying23 rfl (by kernel_rfl)) rfl ?_
         exact ⟨by first | rfl | (simp [*] <;> rfl), bw_ HB⟩
/-! ### withyref01_both: function 97 -/
def withyref01_both.f (k : Nat) (a0_0 : Int) (a0_1 : Int) (a1_0 : Int) (a1_1 : Int) : Option (Int) := (withyref01_Check.f k a0_0 a0_1).bind fun t683 => (if t683 = 0 then ((withyref01_Check.f k a1_0 a1_1).bind fun t684 => (some t684)) else (some t683))
theorem withyref01_both.mono : ∀ a0 a1 a2 a3 k, LeO (withyref01_both.f k a0 a1 a2 a3) (withyref01_both.f (k + 1) a0 a1 a2 a3) := by
  intro a0 a1 a2 a3 k
  unfold withyref01_both.f
  repeat' first
      | (with_reducible exact withyref01_Check.mono _ _ _)
      | (with_reducible exact LeO.refl _)
      | (with_reducible exact LeO.none _)
      | (with_reducible refine LeO.ite ?_ ?_)
      | (with_reducible refine LeO.bind ?_ (fun _ => ?_))
      | (with_reducible refine LeO.exc (fun _ => ?_) (fun _ => ?_))
      | exact withyref01_Check.mono _ _ _
      | exact LeO.none _
      | refine LeO.ite ?_ ?_
      | refine LeO.bind ?_ (fun _ => ?_)
set_option maxHeartbeats 8000000 in
set_option maxRecDepth 100000 in
theorem withyref01_both.calls (k : Nat) (a0_0 : Int) (a0_1 : Int) (a1_0 : Int) (a1_1 : Int) (r : Int) (w : World) (h : withyref01_both.f k a0_0 a0_1 a1_0 a1_1 = some r) :
    Calls Try.prog 97 #[.agg #[.int .i64 a0_0, .int .i64 a0_1], .agg #[.int .i64 a1_0, .int .i64 a1_1]] w fun e w' => e = .returned (.int .i64 r) ∧ Below w.heap.size w w' := by
 have hu23 := Try.underlying23
 have HB := Aside0.mk (Below.refl w.heap.size w)
 have H : ((withyref01_Check.f k a0_0 a0_1).bind fun t683 => (if t683 = 0 then ((withyref01_Check.f k a1_0 a1_1).bind fun t684 => (some t684)) else (some t683))) = some r := h
 clear h
 replace H := Option.bind_eq_some_iff.mp H
 obtain ⟨t683, A30, H⟩ := H
 replace H : (if t683 = 0 then ((withyref01_Check.f k a1_0 a1_1).bind fun t684 => (some t684)) else (some t683)) = some r := H
 have A3 := Aside0.mk A30
 clear A30
 by_cases c4 : t683 = 0
 · rw [if_pos c4] at H
   have c4b0 : (t683 == 0) = true := beq_iff_eq.mpr c4
   have c4b1 : (t683 != 0) = false := bne_eq_false_iff_eq.mpr c4
   clear c4
   replace H := Option.bind_eq_some_iff.mp H
   obtain ⟨t684, A50, H⟩ := H
   replace H : (some t684) = some r := H
   have A5 := Aside0.mk A50
   clear A50
   obtain rfl := Option.some.inj H
   go_enter Try.func97, Try.ntmps97
   go_wp2_with (first | ((with_reducible refine gate_dst (N := 2) rfl ?_); refine box_event ?hg (N := 2) ?hd (cs := #[.int .i64 a0_0, .int .i64 a0_1]) (t := 23) ?hr ?_; (case hd => rfl); (case hg => rfl); (case hr => first | (go_simp; done) | (go_simp; rfl)); intro gb681 hg w6 hbox hb; have BK681 := Aside0.mk hbox; have GW681 := bwg_ HB hg; have GE681 := bwg_ HB hg; replace HB := bws_ HB hb; clear hb hbox hg) | ((with_reducible refine gate_dst (N := 3) rfl ?_); refine box_event ?hg (N := 3) ?hd (cs := #[.int .i64 a1_0, .int .i64 a1_1]) (t := 23) ?hr ?_; (case hd => rfl); (case hg => rfl); (case hr => first | (go_simp; done) | (go_simp; rfl)); intro gb682 hg w7 hbox hb; have BK682 := Aside0.mk hbox; have GW682 := bwg_ HB hg; have GE682 := bwg_ HB hg; replace HB := bws_ HB hb; have NB681_682 := bkl_ BK681 hg; have NB682_681 := bkr_ BK681 hg; replace BK681 := bkb_ BK681 hb; clear hb hbox hg; have hnb8 := NB681_682.out; have hnc8 := NB682_681.out; obtain ⟨hcz9_0, hcz9_1, hfz9_0, hfz9_1⟩ := bc2_ BK681) | ((with_reducible refine gate_callee (f := 41) rfl ?_); refine gla_ (some 7) Try.func41 #[.agg #[.int .i64 a0_0, .int .i64 a0_1]] ?_; (with_reducible refine (withyref01_Check.calls k a0_0 a0_1 t683 _ A3.out).mono ?_); rintro e w10 ⟨rfl, hb⟩; refine ⟨_, rfl, ?_⟩; replace BK681 := bkb_ BK681 hb; replace BK682 := bkb_ BK682 hb; replace HB := bws_ HB hb; (try clear hb); (try clear hb2); (try clear hk); (try clear hi); obtain ⟨hcz11_0, hcz11_1, hfz11_0, hfz11_1⟩ := bc2_ BK682) | ((with_reducible refine gate_callee (f := 41) rfl ?_); refine gla_ (some 12) Try.func41 #[.agg #[.int .i64 a1_0, .int .i64 a1_1]] ?_; (with_reducible refine (withyref01_Check.calls k a1_0 a1_1 t684 _ A5.out).mono ?_); rintro e w12 ⟨rfl, hb⟩; refine ⟨_, rfl, ?_⟩; replace BK681 := bkb_ BK681 hb; replace BK682 := bkb_ BK682 hb; replace HB := bws_ HB hb; (try clear hb); (try clear hb2); (try clear hk); (try clear hi)))
   go_ret
   exact ⟨by first | rfl | (simp [*] <;> rfl), bw_ HB⟩
 · rw [if_neg c4] at H
   have c4b0 : (t683 == 0) = false := beq_eq_false_iff_ne.mpr c4
   have c4b1 : (t683 != 0) = true := bne_iff_ne.mpr c4
   obtain rfl := Option.some.inj H
   go_enter Try.func97, Try.ntmps97
   go_wp2_with (first | ((with_reducible refine gate_dst (N := 2) rfl ?_); refine box_event ?hg (N := 2) ?hd (cs := #[.int .i64 a0_0, .int .i64 a0_1]) (t := 23) ?hr ?_; (case hd => rfl); (case hg => rfl); (case hr => first | (go_simp; done) | (go_simp; rfl)); intro gb681 hg w13 hbox hb; have BK681 := Aside0.mk hbox; have GW681 := bwg_ HB hg; have GE681 := bwg_ HB hg; replace HB := bws_ HB hb; clear hb hbox hg) | ((with_reducible refine gate_dst (N := 3) rfl ?_); refine box_event ?hg (N := 3) ?hd (cs := #[.int .i64 a1_0, .int .i64 a1_1]) (t := 23) ?hr ?_; (case hd => rfl); (case hg => rfl); (case hr => first | (go_simp; done) | (go_simp; rfl)); intro gb682 hg w14 hbox hb; have BK682 := Aside0.mk hbox; have GW682 := bwg_ HB hg; have GE682 := bwg_ HB hg; replace HB := bws_ HB hb; have NB681_682 := bkl_ BK681 hg; have NB682_681 := bkr_ BK681 hg; replace BK681 := bkb_ BK681 hb; clear hb hbox hg; have hnb15 := NB681_682.out; have hnc15 := NB682_681.out; obtain ⟨hcz16_0, hcz16_1, hfz16_0, hfz16_1⟩ := bc2_ BK681) | ((with_reducible refine gate_callee (f := 41) rfl ?_); refine gla_ (some 7) Try.func41 #[.agg #[.int .i64 a0_0, .int .i64 a0_1]] ?_; (with_reducible refine (withyref01_Check.calls k a0_0 a0_1 t683 _ A3.out).mono ?_); rintro e w17 ⟨rfl, hb⟩; refine ⟨_, rfl, ?_⟩; replace BK681 := bkb_ BK681 hb; replace BK682 := bkb_ BK682 hb; replace HB := bws_ HB hb; (try clear hb); (try clear hb2); (try clear hk); (try clear hi)))
   go_ret
   exact ⟨by first | rfl | (simp [*] <;> rfl), bw_ HB⟩
/-! ### withyref01_Less: function 98 -/
def withyref01_Less.f (a0_0 : Int) (a0_1 : Int) (a1_0 : Int) (a1_1 : Int) : Option (Bool) := some (decide ((wrap64 (a0_0 * a1_1)) < (wrap64 (a1_0 * a0_1))))
set_option maxHeartbeats 8000000 in
set_option maxRecDepth 100000 in
theorem withyref01_Less.calls (a0_0 : Int) (a0_1 : Int) (a1_0 : Int) (a1_1 : Int) (r : Bool) (w : World) (h : withyref01_Less.f a0_0 a0_1 a1_0 a1_1 = some r) :
    Calls Try.prog 98 #[.agg #[.int .i64 a0_0, .int .i64 a0_1], .agg #[.int .i64 a1_0, .int .i64 a1_1]] w fun e w' => e = .returned (.bool r) ∧ Below w.heap.size w w' := by
  have hu23 := Try.underlying23
  have HB := Aside0.mk (Below.refl w.heap.size w)
  have H : (some (decide ((wrap64 (a0_0 * a1_1)) < (wrap64 (a1_0 * a0_1))))) = some r := h
  clear h
  obtain rfl := Option.some.inj H
  go_enter Try.func98, Try.ntmps98
  go_wp2_with (first | ((with_reducible refine gate_dst (N := 2) rfl ?_); refine box_event ?hg (N := 2) ?hd (cs := #[.int .i64 a0_0, .int .i64 a0_1]) (t := 23) ?hr ?_; (case hd => rfl); (case hg => rfl); (case hr => first | (go_simp; done) | (go_simp; rfl)); intro gb685 hg w3 hbox hb; have BK685 := Aside0.mk hbox; have GW685 := bwg_ HB hg; have GE685 := bwg_ HB hg; replace HB := bws_ HB hb; clear hb hbox hg) | ((with_reducible refine gate_dst (N := 3) rfl ?_); refine box_event ?hg (N := 3) ?hd (cs := #[.int .i64 a1_0, .int .i64 a1_1]) (t := 23) ?hr ?_; (case hd => rfl); (case hg => rfl); (case hr => first | (go_simp; done) | (go_simp; rfl)); intro gb686 hg w4 hbox hb; have BK686 := Aside0.mk hbox; have GW686 := bwg_ HB hg; have GE686 := bwg_ HB hg; replace HB := bws_ HB hb; have NB685_686 := bkl_ BK685 hg; have NB686_685 := bkr_ BK685 hg; replace BK685 := bkb_ BK685 hb; clear hb hbox hg; have hnb5 := NB685_686.out; have hnc5 := NB686_685.out; obtain ⟨hcz6_0, hcz6_1, hfz6_0, hfz6_1⟩ := bc2_ BK685; obtain ⟨hcz7_0, hcz7_1, hfz7_0, hfz7_1⟩ := bc2_ BK686))
  go_ret
  exact ⟨by first | rfl | (simp [*] <;> rfl), bw_ HB⟩
/-! ### withyref01_Int: function 100 -/
def withyref01_Int.f (a0 : Int) : Option (Int × Int) := some (a0, 1)
set_option maxHeartbeats 8000000 in
set_option maxRecDepth 100000 in
theorem withyref01_Int.calls (a0 : Int) (r1 : Int) (r2 : Int) (w : World) (h : withyref01_Int.f a0 = some (r1, r2)) :
    Calls Try.prog 100 #[.int .i64 a0] w fun e w' => e = .returned (.agg #[.int .i64 r1, .int .i64 r2]) ∧ Below w.heap.size w w' := by
  have hu23 := Try.underlying23
  have HB := Aside0.mk (Below.refl w.heap.size w)
  have H : (some (a0, 1)) = some (r1, r2) := h
  clear h
  simp only [Option.some.injEq, Prod.mk.injEq] at H
  obtain ⟨rfl, rfl⟩ := H
  go_enter Try.func100, Try.ntmps100
  go_wp2_with (first | ((with_reducible refine gate_dst (N := 2) rfl ?_); refine box_event ?hg (N := 2) ?hd (cs := #[.int .i64 0, .int .i64 0]) (t := 23) ?hr ?_; (case hd => rfl); (case hg => rfl); (case hr => first | (go_simp; done) | (go_simp; rfl)); intro gb783 hg w2 hbox hb; have BK783 := Aside0.mk hbox; have GW783 := bwg_ HB hg; have GE783 := bwg_ HB hg; replace HB := bws_ HB hb; clear hb hbox hg; obtain ⟨hcz3_0, hcz3_1, hfz3_0, hfz3_1⟩ := bc2_ BK783))
  refine bodyPost_ret (results_cell_row rfl _ _ gb783 23 #[.int .i64 a0, .int .i64 1] (0, 0) _ rfl (by refine bp_ (cs := #[.int .i64 a0, .int .i64 0]) ?_ 1; refine bp_ (cs := #[.int .i64 0, .int .i64 0]) ?_ 0; exact bk_ BK783) Try.underlying23 rfl (by kernel_rfl)) rfl ?_
  exact ⟨by first | rfl | (simp [*] <;> rfl), bw_ HB⟩
/-! ### num_ratio_off: function 103 -/
def num_ratio_off.f (a0_0 : Int) (a0_1 : Int) (a1_0 : Int) (a1_1 : Int) : Option (Int) := some (mx (wrap64 ((wrap64 (a1_0 * a0_1)) - (wrap64 (a0_0 * a1_1)))) (wrap64 (-(wrap64 ((wrap64 (a1_0 * a0_1)) - (wrap64 (a0_0 * a1_1)))))))
set_option maxHeartbeats 8000000 in
set_option maxRecDepth 100000 in
theorem num_ratio_off.calls (a0_0 : Int) (a0_1 : Int) (a1_0 : Int) (a1_1 : Int) (r : Int) (w : World) (h : num_ratio_off.f a0_0 a0_1 a1_0 a1_1 = some r) :
    Calls Try.prog 103 #[.agg #[.int .i64 a0_0, .int .i64 a0_1], .agg #[.int .i64 a1_0, .int .i64 a1_1]] w fun e w' => e = .returned (.int .i64 r) ∧ Below w.heap.size w w' := by
  have hu65 := Try.underlying65
  have hu23 := Try.underlying23
  have HB := Aside0.mk (Below.refl w.heap.size w)
  have H : (some (mx (wrap64 ((wrap64 (a1_0 * a0_1)) - (wrap64 (a0_0 * a1_1)))) (wrap64 (-(wrap64 ((wrap64 (a1_0 * a0_1)) - (wrap64 (a0_0 * a1_1)))))))) = some r := h
  clear h
  obtain ⟨ji3, hji3⟩ : ∃ j_ : Int, (mx (wrap64 ((wrap64 (a1_0 * a0_1)) - (wrap64 (a0_0 * a1_1)))) (wrap64 (-(wrap64 ((wrap64 (a1_0 * a0_1)) - (wrap64 (a0_0 * a1_1))))))) = j_ := ⟨_, rfl⟩
  replace H : (some ji3) = some r := by first | (rw [hji3] at H; exact H) | (simp only [hji3] at H ⊢; exact H)
  have hji3_ : (if (wrap64 ((wrap64 (a1_0 * a0_1)) - (wrap64 (a0_0 * a1_1)))) < (wrap64 (-(wrap64 ((wrap64 (a1_0 * a0_1)) - (wrap64 (a0_0 * a1_1)))))) then (wrap64 (-(wrap64 ((wrap64 (a1_0 * a0_1)) - (wrap64 (a0_0 * a1_1)))))) else (wrap64 ((wrap64 (a1_0 * a0_1)) - (wrap64 (a0_0 * a1_1))))) = ji3 := hji3
  obtain rfl := Option.some.inj H
  go_enter Try.func103, Try.ntmps103
  go_wp2_with (first | ((with_reducible refine gate_dst (N := 2) rfl ?_); refine box_event ?hg (N := 2) ?hd (cs := #[.int .i64 a0_0, .int .i64 a0_1]) (t := 65) ?hr ?_; (case hd => rfl); (case hg => rfl); (case hr => first | (go_simp; done) | (go_simp; rfl)); intro gb850 hg w4 hbox hb; have BK850 := Aside0.mk hbox; have GW850 := bwg_ HB hg; have GE850 := bwg_ HB hg; replace HB := bws_ HB hb; clear hb hbox hg) | ((with_reducible refine gate_dst (N := 3) rfl ?_); refine box_event ?hg (N := 3) ?hd (cs := #[.int .i64 a1_0, .int .i64 a1_1]) (t := 23) ?hr ?_; (case hd => rfl); (case hg => rfl); (case hr => first | (go_simp; done) | (go_simp; rfl)); intro gb851 hg w5 hbox hb; have BK851 := Aside0.mk hbox; have GW851 := bwg_ HB hg; have GE851 := bwg_ HB hg; replace HB := bws_ HB hb; have NB850_851 := bkl_ BK850 hg; have NB851_850 := bkr_ BK850 hg; replace BK850 := bkb_ BK850 hb; clear hb hbox hg; have hnb6 := NB851_850.out; have hnc6 := NB850_851.out; obtain ⟨hcz7_0, hcz7_1, hfz7_0, hfz7_1⟩ := bc2_ BK851; obtain ⟨hcz8_0, hcz8_1, hfz8_0, hfz8_1⟩ := bc2_ BK850))
  go_ret
  exact ⟨by first | rfl | (simp [errW_none, errW_some] <;> rfl) | (simp only [← hji3]; first | rfl | (simp [errW_none, errW_some] <;> rfl)) | (simp [*, errW_none, errW_some] <;> rfl), bw_ HB⟩
/-! ### cmp_Or_int: function 119 -/
def cmp_Or_int.l0 : Nat → Int → List Int → Int → Int → Option (Int)
  | 0, _, _, _, _ => none
  | k + 1, x3, x6, x7, x8 => if x8 < x7 then (if 0 ≤ x8 then (if x8 < (x6.length : Int) then (if (rd x6 x8) = x3 then (cmp_Or_int.l0 k x3 x6 x7 (wrap64 (x8 + 1))) else (some (rd x6 x8))) else (none)) else (none)) else (some x3)
def cmp_Or_int.f (k : Nat) (l0 : List Int) : Option (Int) := cmp_Or_int.l0 k 0 l0 (l0.length : Int) 0
theorem cmp_Or_int.mono_l : ∀ k, (∀ y0 y1 y2 y3, LeO (cmp_Or_int.l0 k y0 y1 y2 y3) (cmp_Or_int.l0 (k + 1) y0 y1 y2 y3))
  | 0 => fun _ _ _ _ r h => by simp [cmp_Or_int.l0] at h
  | k + 1 => by
    have ih0 := cmp_Or_int.mono_l k
    · intro y0 y1 y2 y3
      unfold cmp_Or_int.l0
      repeat' first
      | (with_reducible exact ih0 _ _ _ _)
      | (with_reducible exact LeO.refl _)
      | (with_reducible exact LeO.none _)
      | (with_reducible refine LeO.ite ?_ ?_)
      | (with_reducible refine LeO.bind ?_ (fun _ => ?_))
      | (with_reducible refine LeO.exc (fun _ => ?_) (fun _ => ?_))
      | exact ih0 _ _ _ _
      | exact LeO.none _
      | refine LeO.ite ?_ ?_
      | refine LeO.bind ?_ (fun _ => ?_)
theorem cmp_Or_int.mono : ∀ a0 k, LeO (cmp_Or_int.f k a0) (cmp_Or_int.f (k + 1) a0) := by
  intro a0 k
  have ih0 := cmp_Or_int.mono_l k
  unfold cmp_Or_int.f
  repeat' first
      | (with_reducible exact ih0 _ _ _ _)
      | (with_reducible exact LeO.refl _)
      | (with_reducible exact LeO.none _)
      | (with_reducible refine LeO.ite ?_ ?_)
      | (with_reducible refine LeO.bind ?_ (fun _ => ?_))
      | (with_reducible refine LeO.exc (fun _ => ?_) (fun _ => ?_))
      | exact ih0 _ _ _ _
      | exact LeO.none _
      | refine LeO.ite ?_ ?_
      | refine LeO.bind ?_ (fun _ => ?_)
set_option maxHeartbeats 8000000 in
set_option maxRecDepth 100000 in
theorem cmp_Or_int.calls (k : Nat) (A0 : Option Addr) (c0 : Nat) (l0 : List Int) (r : Int) (w : World) (hr0 : Kd.C (Kd.int .i64) w A0 l0.length l0) (hc0 : l0.length ≤ c0) (h : cmp_Or_int.f k l0 = some r) :
    Calls Try.prog 119 #[.slice A0 l0.length c0] w fun e w' => e = .returned (.int .i64 r) ∧ Drawn0 w w' := by
 have HR0 := Aside0.mk hr0
 have HC0 := Aside0.mk hc0
 clear hr0 hc0
 have H : (cmp_Or_int.l0 k 0 l0 (l0.length : Int) 0) = some r := h
 clear h
 have H' := Aside0.mk H
 clear H
 go_enter Try.func119, Try.ntmps119
 go_wp2
 go_loopg [8] k (fun kq v8 w' => ∃ (x8_1 : Int), v8 = .int .i64 x8_1 ∧ Aside0 (cmp_Or_int.l0 kq 0 l0 (l0.length : Int) x8_1 = some r) ∧ Aside0 (kq ≤ k) ∧ Drawn0 w w')
 case atStart => exact ⟨(0), (by first | rfl | (simp; done) | (simp [*]; done)), H', ⟨Nat.le_refl _⟩, by repeat (first | exact Drawn0.refl _ | apply Drawn0.step)⟩
 case round =>
  clear H'
  try clear c1
  obtain ⟨x8_1, rfl, HA, HK1, ⟨m1, rfl⟩⟩ := hrel
  cases gk with
  | zero => exact absurd HA.out (by simp [cmp_Or_int.l0])
  | succ k1 =>
   have H := HA.out
   clear HA
   simp only [cmp_Or_int.l0] at H
   by_cases c2 : x8_1 < (l0.length : Int)
   · rw [if_pos c2] at H
     have c2b0 : decide (x8_1 < (l0.length : Int)) = true := decide_eq_true c2
     clear c2
     by_cases c3 : 0 ≤ x8_1
     · rw [if_pos c3] at H
       have c3b0 : decide (0 ≤ x8_1) = true := decide_eq_true c3
       clear c3
       by_cases c4 : x8_1 < (l0.length : Int)
       · rw [if_pos c4] at H
         have c4b0 : decide (x8_1 < (l0.length : Int)) = true := decide_eq_true c4
         clear c4
         by_cases c5 : (rd l0 x8_1) = 0
         · rw [if_pos c5] at H
           have c5b0 : ((rd l0 x8_1) == 0) = true := beq_iff_eq.mpr c5
           have c5b1 : ((rd l0 x8_1) != 0) = false := bne_eq_false_iff_eq.mpr c5
           clear c5
           have H' := Aside0.mk H
           clear H
           have p852 : 0 ≤ (x8_1 : Int) := of_decide_eq_true (by first | (with_reducible assumption) | assumption)
           have q852 : x8_1 < (l0.length : Int) := of_decide_eq_true (by first | (with_reducible assumption) | assumption)
           obtain ⟨ad852, e852, hx852_0⟩ := Kd.at_int HR0.out x8_1 p852 q852
           cases e852
           replace p852 := eq_true p852
           replace q852 := eq_true q852
           go_wp2
           go_roundg k1
           case measure => have := HK1.out; omega
           case rel => exact ⟨(wrap64 (x8_1 + 1)), (by first | rfl | (simp; done) | (simp [*]; done)), H', ⟨by have := HK1.out; omega⟩, by repeat (first | exact Drawn0.refl _ | apply Drawn0.step)⟩
         · rw [if_neg c5] at H
           have c5b0 : ((rd l0 x8_1) == 0) = false := beq_eq_false_iff_ne.mpr c5
           have c5b1 : ((rd l0 x8_1) != 0) = true := bne_iff_ne.mpr c5
           obtain rfl := Option.some.inj H
           have p852 : 0 ≤ (x8_1 : Int) := of_decide_eq_true (by first | (with_reducible assumption) | assumption)
           have q852 : x8_1 < (l0.length : Int) := of_decide_eq_true (by first | (with_reducible assumption) | assumption)
           obtain ⟨ad852, e852, hx852_0⟩ := Kd.at_int HR0.out x8_1 p852 q852
           cases e852
           replace p852 := eq_true p852
           replace q852 := eq_true q852
           go_wp2
           go_ret
           exact ⟨by first | rfl | (simp; done) | (simp [*]; done), by repeat (first | exact Drawn0.refl _ | apply Drawn0.step)⟩
       · rw [if_neg c4] at H
         exact absurd H (by simp)
     · rw [if_neg c3] at H
       exact absurd H (by simp)
   · rw [if_neg c2] at H
     have c2b0 : decide (x8_1 < (l0.length : Int)) = false := decide_eq_false c2
     clear c2
     obtain rfl := Option.some.inj H
     go_wp2
     go_ret
     exact ⟨by first | rfl | (simp; done) | (simp [*]; done), by repeat (first | exact Drawn0.refl _ | apply Drawn0.step)⟩
/-! ### num_ratio_simpler: function 104 -/
def num_ratio_simpler.f (k : Nat) (a0_0 : Int) (a0_1 : Int) (a1_0 : Int) (a1_1 : Int) : Option (Bool) := (cmp_Compare_int.f a0_1 a1_1).bind fun t855 => ((cmp_Compare_int.f (mx a0_0 (wrap64 (-a0_0))) (mx a1_0 (wrap64 (-a1_0)))).bind fun t856 => ((cmp_Compare_int.f a1_0 a0_0).bind fun t857 => ((cmp_Or_int.f k (([t855, t856, t857] : List Int))).bind fun t861 => (some (decide (t861 < 0))))))
theorem num_ratio_simpler.mono : ∀ a0 a1 a2 a3 k, LeO (num_ratio_simpler.f k a0 a1 a2 a3) (num_ratio_simpler.f (k + 1) a0 a1 a2 a3) := by
  intro a0 a1 a2 a3 k
  unfold num_ratio_simpler.f
  repeat' first
      | (with_reducible exact cmp_Or_int.mono _ _)
      | (with_reducible exact LeO.refl _)
      | (with_reducible exact LeO.none _)
      | (with_reducible refine LeO.ite ?_ ?_)
      | (with_reducible refine LeO.bind ?_ (fun _ => ?_))
      | (with_reducible refine LeO.exc (fun _ => ?_) (fun _ => ?_))
      | exact cmp_Or_int.mono _ _
      | exact LeO.none _
      | refine LeO.ite ?_ ?_
      | refine LeO.bind ?_ (fun _ => ?_)
def num_ratio_simpler.T1 : Bool × List (List Nat × List Nat) := (true, [([], []), ([0], [0]), ([], []), ([2], [2]), ([1, 3], [1, 3]), ([], []), ([5], [5]), ([], []), ([7], [7]), ([8], [8]), ([6, 9], [6, 9]), ([], []), ([11], [11]), ([], []), ([13], [13]), ([14], [14]), ([12, 15], [12, 15]), ([10, 16, 4], [10, 16]), ([], []), ([18], [18]), ([], []), ([20], [20]), ([19, 21, 17], [19, 21]), ([4, 17, 22], [4, 17, 22]), ([23, 22], [23]), ([24], [24]), ([25, 24, 0, 1, 2, 3, 4, 5, 6, 7, 8, 9, 10, 11, 12, 13, 14, 15, 16, 17, 18, 19, 20, 21, 22, 23, 24, 25], [25])])
def num_ratio_simpler.B1 : List Nat := [0, 1, 0, 4, 15, 0, 32, 0, 128, 384, 992, 0, 2048, 0, 8192, 24576, 63488, 131071, 0, 262144, 0, 1048576, 4194303, 8388607, 16777215, 33554431, 67108863]
theorem num_ratio_simpler.tab1 : rtab .any (opsOf Try.f104 1) = num_ratio_simpler.T1 := by kernel_rfl
theorem num_ratio_simpler.bits1 : waitsOk num_ratio_simpler.T1.2 num_ratio_simpler.B1 = true := by kernel_rfl
set_option maxHeartbeats 8000000 in
set_option maxRecDepth 100000 in
theorem num_ratio_simpler.calls (k : Nat) (a0_0 : Int) (a0_1 : Int) (a1_0 : Int) (a1_1 : Int) (r : Bool) (w : World) (h : num_ratio_simpler.f k a0_0 a0_1 a1_0 a1_1 = some r) :
    Calls Try.prog 104 #[.agg #[.int .i64 a0_0, .int .i64 a0_1], .agg #[.int .i64 a1_0, .int .i64 a1_1]] w fun e w' => e = .returned (.bool r) ∧ Below w.heap.size w w' := by
 have hu65 := Try.underlying65
 have HB := Aside0.mk (Below.refl w.heap.size w)
 have H : ((cmp_Compare_int.f a0_1 a1_1).bind fun t855 => ((cmp_Compare_int.f (mx a0_0 (wrap64 (-a0_0))) (mx a1_0 (wrap64 (-a1_0)))).bind fun t856 => ((cmp_Compare_int.f a1_0 a0_0).bind fun t857 => ((cmp_Or_int.f k (([t855, t856, t857] : List Int))).bind fun t861 => (some (decide (t861 < 0))))))) = some r := h
 clear h
 replace H := Option.bind_eq_some_iff.mp H
 obtain ⟨t855, A30, H⟩ := H
 replace H : ((cmp_Compare_int.f (mx a0_0 (wrap64 (-a0_0))) (mx a1_0 (wrap64 (-a1_0)))).bind fun t856 => ((cmp_Compare_int.f a1_0 a0_0).bind fun t857 => ((cmp_Or_int.f k (([t855, t856, t857] : List Int))).bind fun t861 => (some (decide (t861 < 0)))))) = some r := H
 have A3 := Aside0.mk A30
 clear A30
 obtain ⟨ji4, hji4⟩ : ∃ j_ : Int, (mx a0_0 (wrap64 (-a0_0))) = j_ := ⟨_, rfl⟩
 replace H : ((cmp_Compare_int.f (ji4) (mx a1_0 (wrap64 (-a1_0)))).bind fun t856 => ((cmp_Compare_int.f a1_0 a0_0).bind fun t857 => ((cmp_Or_int.f k (([t855, t856, t857] : List Int))).bind fun t861 => (some (decide (t861 < 0)))))) = some r := by first | (rw [hji4] at H; exact H) | (simp only [hji4] at H ⊢; exact H)
 (try rw [hji4] at A3)
 have hji4_ : (if a0_0 < (wrap64 (-a0_0)) then (wrap64 (-a0_0)) else a0_0) = ji4 := hji4
 obtain ⟨ji5, hji5⟩ : ∃ j_ : Int, (mx a1_0 (wrap64 (-a1_0))) = j_ := ⟨_, rfl⟩
 replace H : ((cmp_Compare_int.f (ji4) (ji5)).bind fun t856 => ((cmp_Compare_int.f a1_0 a0_0).bind fun t857 => ((cmp_Or_int.f k (([t855, t856, t857] : List Int))).bind fun t861 => (some (decide (t861 < 0)))))) = some r := by first | (rw [hji5] at H; exact H) | (simp only [hji5] at H ⊢; exact H)
 (try rw [hji5] at A3)
 have hji5_ : (if a1_0 < (wrap64 (-a1_0)) then (wrap64 (-a1_0)) else a1_0) = ji5 := hji5
 replace H := Option.bind_eq_some_iff.mp H
 obtain ⟨t856, A60, H⟩ := H
 replace H : ((cmp_Compare_int.f a1_0 a0_0).bind fun t857 => ((cmp_Or_int.f k (([t855, t856, t857] : List Int))).bind fun t861 => (some (decide (t861 < 0))))) = some r := H
 have A6 := Aside0.mk A60
 clear A60
 replace H := Option.bind_eq_some_iff.mp H
 obtain ⟨t857, A70, H⟩ := H
 replace H : ((cmp_Or_int.f k (([t855, t856, t857] : List Int))).bind fun t861 => (some (decide (t861 < 0)))) = some r := H
 have A7 := Aside0.mk A70
 clear A70
 obtain ⟨y858, hy858⟩ : ∃ y_ : List Int, y_ = (([t855, t856, t857] : List Int)) := ⟨_, rfl⟩
 replace H : ((cmp_Or_int.f k y858).bind fun t861 => (some (decide (t861 < 0)))) = some r := by first | (rw [hy858]; with_reducible exact H) | (have H2_ := (Option.bind_some _ _).symm.trans H; rw [hy858]; with_reducible exact H2_) | (have H2_ := (Option.bind_some _ _).symm.trans H; with_reducible exact H2_) | with_reducible exact H | (rw [hy858]; exact H) | exact H
 have Ny858 := Aside0.mk hy858
 clear hy858
 replace H := Option.bind_eq_some_iff.mp H
 obtain ⟨t861, A80, H⟩ := H
 replace H : (some (decide (t861 < 0))) = some r := H
 have A8 := Aside0.mk A80
 clear A80
 obtain rfl := Option.some.inj H
 go_enter Try.func104, Try.ntmps104
 try go_wp2_with (first | ((with_reducible refine gate_dst (N := 2) rfl ?_); refine box_event ?hg (N := 2) ?hd (cs := #[.int .i64 a0_0, .int .i64 a0_1]) (t := 65) ?hr ?_; (case hd => rfl); (case hg => rfl); (case hr => first | (go_simp; done) | (go_simp; rfl)); intro gb853 hg w9 hbox hb; have BK853 := Aside0.mk hbox; have GW853 := bwg_ HB hg; have GE853 := bwg_ HB hg; replace HB := bws_ HB hb; clear hb hbox hg) | ((with_reducible refine gate_dst (N := 3) rfl ?_); refine box_event ?hg (N := 3) ?hd (cs := #[.int .i64 a1_0, .int .i64 a1_1]) (t := 65) ?hr ?_; (case hd => rfl); (case hg => rfl); (case hr => first | (go_simp; done) | (go_simp; rfl)); intro gb854 hg w10 hbox hb; have BK854 := Aside0.mk hbox; have GW854 := bwg_ HB hg; have GE854 := bwg_ HB hg; replace HB := bws_ HB hb; have NB853_854 := bkl_ BK853 hg; have NB854_853 := bkr_ BK853 hg; replace BK853 := bkb_ BK853 hb; clear hb hbox hg))
 replace BK853 := Aside0.mk (blk_drew BK853.out)
 replace BK854 := Aside0.mk (blk_drew BK854.out)
 replace HB := Aside0.mk (below_drew1 HB.out)
 refine start_ (n := 27) (S := fun w' => w'.cell? ⟨gb853, 0, none⟩ = some (.int .i64 a0_0) ∧ w'.cell? ⟨gb853, 1, none⟩ = some (.int .i64 a0_1) ∧ w'.cell? ⟨gb854, 0, none⟩ = some (.int .i64 a1_0) ∧ w'.cell? ⟨gb854, 1, none⟩ = some (.int .i64 a1_1)) (ds := []) #[false, false, false, false, false, false, false, false, false, false, false, false, false, false, false, false, false, false, false, false, false, false, false, false, false, false, false] (by kernel_rfl) rfl rfl ⟨(blk_cell BK853.out 0).trans rfl, (blk_cell BK853.out 1).trans rfl, (blk_cell BK854.out 0).trans rfl, (blk_cell BK854.out 1).trans rfl⟩ (fun hHeld => ?_); refine with_tabW num_ratio_simpler.tab1 num_ratio_simpler.bits1 (fun HT_ HW_ => ?_)
 generalize w10.drew = w11 at BK853 BK854 HB hHeld ⊢
 refine pure_ (i := 0) (N := some 5) (v := ?_) (a' := ?_) #[true, false, false, false, false, false, false, false, false, false, false, false, false, false, false, false, false, false, false, false, false, false, false, false, false, false, false] rfl rfl (any_of HT_.out (by kernel_rfl)) (fun _ _ _ h => h) (Or.inl ⟨by rfl, ?_⟩) ?_ ?_
 rotate_left
 · intro w'
   go_simp
   with_reducible rfl
 rotate_left
 · simp only [Act.put, List.setIfInBounds_toArray, List.set_cons_zero, List.set_cons_succ, i64_w, i32_w]
   rfl
 refine pure_ (i := 2) (N := some 7) (v := ?_) (a' := ?_) #[true, false, true, false, false, false, false, false, false, false, false, false, false, false, false, false, false, false, false, false, false, false, false, false, false, false, false] rfl rfl (any_of HT_.out (by kernel_rfl)) (fun _ _ _ h => h) (Or.inl ⟨by rfl, ?_⟩) ?_ ?_
 rotate_left
 · intro w'
   go_simp
   with_reducible rfl
 rotate_left
 · simp only [Act.put, List.setIfInBounds_toArray, List.set_cons_zero, List.set_cons_succ, i64_w, i32_w]
   rfl
 refine pure_ (i := 5) (N := some 10) (v := ?_) (a' := ?_) #[true, false, true, false, false, true, false, false, false, false, false, false, false, false, false, false, false, false, false, false, false, false, false, false, false, false, false] rfl rfl (any_of HT_.out (by kernel_rfl)) (fun _ _ _ h => h) (Or.inl ⟨by rfl, ?_⟩) ?_ ?_
 rotate_left
 · intro w'
   go_simp
   with_reducible rfl
 rotate_left
 · simp only [Act.put, List.setIfInBounds_toArray, List.set_cons_zero, List.set_cons_succ, i64_w, i32_w]
   rfl
 refine pure_ (i := 7) (N := some 12) (v := ?_) (a' := ?_) #[true, false, true, false, false, true, false, true, false, false, false, false, false, false, false, false, false, false, false, false, false, false, false, false, false, false, false] rfl rfl (any_of HT_.out (by kernel_rfl)) (fun _ _ _ h => h) (Or.inl ⟨by rfl, ?_⟩) ?_ ?_
 rotate_left
 · intro w'
   go_simp
   with_reducible rfl
 rotate_left
 · simp only [Act.put, List.setIfInBounds_toArray, List.set_cons_zero, List.set_cons_succ, i64_w, i32_w]
   rfl
 refine pure_ (i := 11) (N := some 16) (v := ?_) (a' := ?_) #[true, false, true, false, false, true, false, true, false, false, false, true, false, false, false, false, false, false, false, false, false, false, false, false, false, false, false] rfl rfl (any_of HT_.out (by kernel_rfl)) (fun _ _ _ h => h) (Or.inl ⟨by rfl, ?_⟩) ?_ ?_
 rotate_left
 · intro w'
   go_simp
   with_reducible rfl
 rotate_left
 · simp only [Act.put, List.setIfInBounds_toArray, List.set_cons_zero, List.set_cons_succ, i64_w, i32_w]
   rfl
 refine pure_ (i := 13) (N := some 18) (v := ?_) (a' := ?_) #[true, false, true, false, false, true, false, true, false, false, false, true, false, true, false, false, false, false, false, false, false, false, false, false, false, false, false] rfl rfl (any_of HT_.out (by kernel_rfl)) (fun _ _ _ h => h) (Or.inl ⟨by rfl, ?_⟩) ?_ ?_
 rotate_left
 · intro w'
   go_simp
   with_reducible rfl
 rotate_left
 · simp only [Act.put, List.setIfInBounds_toArray, List.set_cons_zero, List.set_cons_succ, i64_w, i32_w]
   rfl
 refine pure_ (i := 18) (N := some 23) (v := ?_) (a' := ?_) #[true, false, true, false, false, true, false, true, false, false, false, true, false, true, false, false, false, false, true, false, false, false, false, false, false, false, false] rfl rfl (any_of HT_.out (by kernel_rfl)) (fun _ _ _ h => h) (Or.inl ⟨by rfl, ?_⟩) ?_ ?_
 rotate_left
 · intro w'
   go_simp
   with_reducible rfl
 rotate_left
 · simp only [Act.put, List.setIfInBounds_toArray, List.set_cons_zero, List.set_cons_succ, i64_w, i32_w]
   rfl
 refine pure_ (i := 20) (N := some 25) (v := ?_) (a' := ?_) #[true, false, true, false, false, true, false, true, false, false, false, true, false, true, false, false, false, false, true, false, true, false, false, false, false, false, false] rfl rfl (any_of HT_.out (by kernel_rfl)) (fun _ _ _ h => h) (Or.inl ⟨by rfl, ?_⟩) ?_ ?_
 rotate_left
 · intro w'
   go_simp
   with_reducible rfl
 rotate_left
 · simp only [Act.put, List.setIfInBounds_toArray, List.set_cons_zero, List.set_cons_succ, i64_w, i32_w]
   rfl
 refine take_ (i := 1) (N := some 6) (v := ?_) (a' := ?_) #[true, true, true, false, false, true, false, true, false, false, false, true, false, true, false, false, false, false, true, false, true, false, false, false, false, false, false] rfl rfl (take_ofW HT_.out HW_.out (by kernel_rfl)) (fun _ _ _ h => h) (Or.inl ⟨by rfl, ?_⟩) hHeld ?_ ?_
 rotate_left
 · rintro w' ⟨s0, s1, s2, s3⟩
   go_simp
   with_reducible rfl
 rotate_left
 · simp only [Act.put, List.setIfInBounds_toArray, List.set_cons_zero, List.set_cons_succ, i64_w, i32_w]
   rfl
 refine take_ (i := 3) (N := some 8) (v := ?_) (a' := ?_) #[true, true, true, true, false, true, false, true, false, false, false, true, false, true, false, false, false, false, true, false, true, false, false, false, false, false, false] rfl rfl (take_ofW HT_.out HW_.out (by kernel_rfl)) (fun _ _ _ h => h) (Or.inl ⟨by rfl, ?_⟩) hHeld ?_ ?_
 rotate_left
 · rintro w' ⟨s0, s1, s2, s3⟩
   go_simp
   with_reducible rfl
 rotate_left
 · simp only [Act.put, List.setIfInBounds_toArray, List.set_cons_zero, List.set_cons_succ, i64_w, i32_w]
   rfl
 refine take_ (i := 6) (N := some 11) (v := ?_) (a' := ?_) #[true, true, true, true, false, true, true, true, false, false, false, true, false, true, false, false, false, false, true, false, true, false, false, false, false, false, false] rfl rfl (take_ofW HT_.out HW_.out (by kernel_rfl)) (fun _ _ _ h => h) (Or.inl ⟨by rfl, ?_⟩) hHeld ?_ ?_
 rotate_left
 · rintro w' ⟨s0, s1, s2, s3⟩
   go_simp
   with_reducible rfl
 rotate_left
 · simp only [Act.put, List.setIfInBounds_toArray, List.set_cons_zero, List.set_cons_succ, i64_w, i32_w]
   rfl
 refine take_ (i := 8) (N := some 13) (v := ?_) (a' := ?_) #[true, true, true, true, false, true, true, true, true, false, false, true, false, true, false, false, false, false, true, false, true, false, false, false, false, false, false] rfl rfl (take_ofW HT_.out HW_.out (by kernel_rfl)) (fun _ _ _ h => h) (Or.inl ⟨by rfl, ?_⟩) hHeld ?_ ?_
 rotate_left
 · rintro w' ⟨s0, s1, s2, s3⟩
   go_simp
   with_reducible rfl
 rotate_left
 · simp only [Act.put, List.setIfInBounds_toArray, List.set_cons_zero, List.set_cons_succ, i64_w, i32_w]
   rfl
 refine pure_ (i := 9) (N := some 14) (v := ?_) (a' := ?_) #[true, true, true, true, false, true, true, true, true, true, false, true, false, true, false, false, false, false, true, false, true, false, false, false, false, false, false] rfl rfl (any_of HT_.out (by kernel_rfl)) (fun _ _ _ h => h) (Or.inl ⟨by rfl, ?_⟩) ?_ ?_
 rotate_left
 · intro w'
   go_simp
   with_reducible rfl
 rotate_left
 · simp only [Act.put, List.setIfInBounds_toArray, List.set_cons_zero, List.set_cons_succ, i64_w, i32_w]
   rfl
 refine pure_ (i := 10) (N := some 15) (v := ?_) (a' := ?_) #[true, true, true, true, false, true, true, true, true, true, true, true, false, true, false, false, false, false, true, false, true, false, false, false, false, false, false] rfl rfl (any_of HT_.out (by kernel_rfl)) (fun _ _ _ h => h) (Or.inl ⟨by rfl, ?_⟩) ?_ ?_
 rotate_left
 · intro w'
   go_simp
   with_reducible rfl
 rotate_left
 · simp only [Act.put, List.setIfInBounds_toArray, List.set_cons_zero, List.set_cons_succ, i64_w, i32_w]
   rfl
 refine take_ (i := 12) (N := some 17) (v := ?_) (a' := ?_) #[true, true, true, true, false, true, true, true, true, true, true, true, true, true, false, false, false, false, true, false, true, false, false, false, false, false, false] rfl rfl (take_ofW HT_.out HW_.out (by kernel_rfl)) (fun _ _ _ h => h) (Or.inl ⟨by rfl, ?_⟩) hHeld ?_ ?_
 rotate_left
 · rintro w' ⟨s0, s1, s2, s3⟩
   go_simp
   with_reducible rfl
 rotate_left
 · simp only [Act.put, List.setIfInBounds_toArray, List.set_cons_zero, List.set_cons_succ, i64_w, i32_w]
   rfl
 refine take_ (i := 14) (N := some 19) (v := ?_) (a' := ?_) #[true, true, true, true, false, true, true, true, true, true, true, true, true, true, true, false, false, false, true, false, true, false, false, false, false, false, false] rfl rfl (take_ofW HT_.out HW_.out (by kernel_rfl)) (fun _ _ _ h => h) (Or.inl ⟨by rfl, ?_⟩) hHeld ?_ ?_
 rotate_left
 · rintro w' ⟨s0, s1, s2, s3⟩
   go_simp
   with_reducible rfl
 rotate_left
 · simp only [Act.put, List.setIfInBounds_toArray, List.set_cons_zero, List.set_cons_succ, i64_w, i32_w]
   rfl
 refine pure_ (i := 15) (N := some 20) (v := ?_) (a' := ?_) #[true, true, true, true, false, true, true, true, true, true, true, true, true, true, true, true, false, false, true, false, true, false, false, false, false, false, false] rfl rfl (any_of HT_.out (by kernel_rfl)) (fun _ _ _ h => h) (Or.inl ⟨by rfl, ?_⟩) ?_ ?_
 rotate_left
 · intro w'
   go_simp
   with_reducible rfl
 rotate_left
 · simp only [Act.put, List.setIfInBounds_toArray, List.set_cons_zero, List.set_cons_succ, i64_w, i32_w]
   rfl
 refine pure_ (i := 16) (N := some 21) (v := ?_) (a' := ?_) #[true, true, true, true, false, true, true, true, true, true, true, true, true, true, true, true, true, false, true, false, true, false, false, false, false, false, false] rfl rfl (any_of HT_.out (by kernel_rfl)) (fun _ _ _ h => h) (Or.inl ⟨by rfl, ?_⟩) ?_ ?_
 rotate_left
 · intro w'
   go_simp
   with_reducible rfl
 rotate_left
 · simp only [Act.put, List.setIfInBounds_toArray, List.set_cons_zero, List.set_cons_succ, i64_w, i32_w]
   rfl
 refine take_ (i := 19) (N := some 24) (v := ?_) (a' := ?_) #[true, true, true, true, false, true, true, true, true, true, true, true, true, true, true, true, true, false, true, true, true, false, false, false, false, false, false] rfl rfl (take_ofW HT_.out HW_.out (by kernel_rfl)) (fun _ _ _ h => h) (Or.inl ⟨by rfl, ?_⟩) hHeld ?_ ?_
 rotate_left
 · rintro w' ⟨s0, s1, s2, s3⟩
   go_simp
   with_reducible rfl
 rotate_left
 · simp only [Act.put, List.setIfInBounds_toArray, List.set_cons_zero, List.set_cons_succ, i64_w, i32_w]
   rfl
 refine take_ (i := 21) (N := some 26) (v := ?_) (a' := ?_) #[true, true, true, true, false, true, true, true, true, true, true, true, true, true, true, true, true, false, true, true, true, true, false, false, false, false, false] rfl rfl (take_ofW HT_.out HW_.out (by kernel_rfl)) (fun _ _ _ h => h) (Or.inl ⟨by rfl, ?_⟩) hHeld ?_ ?_
 rotate_left
 · rintro w' ⟨s0, s1, s2, s3⟩
   go_simp
   with_reducible rfl
 rotate_left
 · simp only [Act.put, List.setIfInBounds_toArray, List.set_cons_zero, List.set_cons_succ, i64_w, i32_w]
   rfl
 refine one_ (i := 4) (N := some 9) #[true, true, true, true, true, true, true, true, true, true, true, true, true, true, true, true, true, false, true, true, true, true, false, false, false, false, false] rfl rfl (one_of HT_.out (by kernel_rfl)) (by decide) (fun K hK => ?_)
 refine gos_ Try.func113 #[.int .i64 a0_1, .int .i64 a1_1] ?_
 with_reducible refine (cmp_Compare_int.calls a0_1 a1_1 t855 _ A3.out).mono ?_
 rintro e w' ⟨rfl, ⟨nd, rfl⟩⟩
 refine ⟨_, rfl, ?_⟩
 refine hK.out _ _ ⟨(blk_cell BK853.out 0).trans rfl, (blk_cell BK853.out 1).trans rfl, (blk_cell BK854.out 0).trans rfl, (blk_cell BK854.out 1).trans rfl⟩ (fun hHeld => ?_)
 clear hK K
 refine norm_ (a' := ?_) ?_ ?_
 rotate_left
 · show Act.put _ (some 9) _ = _
   simp only [Act.put, List.setIfInBounds_toArray, List.set_cons_zero, List.set_cons_succ, i64_w, i32_w]
   rfl
 refine one_ (i := 17) (N := some 22) #[true, true, true, true, true, true, true, true, true, true, true, true, true, true, true, true, true, true, true, true, true, true, false, false, false, false, false] rfl rfl (one_of HT_.out (by kernel_rfl)) (by decide) (fun K hK => ?_)
 refine goes_ Try.func113 (by kernel_rfl) rfl #[.int .i64 ji4, .int .i64 ji5] (by rfl) rfl rfl (by (try simp only [List.map_toArray, List.map_cons, List.map_nil]); first | done | (simp only [hji4, hji5]; rfl) | rfl | (simp only [List.length_drop, List.length_take]; rfl)) ?_
 with_reducible refine (cmp_Compare_int.calls ji4 ji5 t856 _ A6.out).mono ?_
 rintro e w' ⟨rfl, ⟨nd, rfl⟩⟩
 refine ⟨_, rfl, ?_⟩
 refine hK.out _ _ ⟨(blk_cell BK853.out 0).trans rfl, (blk_cell BK853.out 1).trans rfl, (blk_cell BK854.out 0).trans rfl, (blk_cell BK854.out 1).trans rfl⟩ (fun hHeld => ?_)
 clear hK K
 refine norm_ (a' := ?_) ?_ ?_
 rotate_left
 · show Act.put _ (some 22) _ = _
   simp only [Act.put, List.setIfInBounds_toArray, List.set_cons_zero, List.set_cons_succ, i64_w, i32_w]
   rfl
 refine one_ (i := 22) (N := some 27) #[true, true, true, true, true, true, true, true, true, true, true, true, true, true, true, true, true, true, true, true, true, true, true, false, false, false, false] rfl rfl (one_of HT_.out (by kernel_rfl)) (by decide) (fun K hK => ?_)
 refine gos_ Try.func113 #[.int .i64 a1_0, .int .i64 a0_0] ?_
 with_reducible refine (cmp_Compare_int.calls a1_0 a0_0 t857 _ A7.out).mono ?_
 rintro e w' ⟨rfl, ⟨nd, rfl⟩⟩
 refine ⟨_, rfl, ?_⟩
 refine hK.out _ _ ⟨(blk_cell BK853.out 0).trans rfl, (blk_cell BK853.out 1).trans rfl, (blk_cell BK854.out 0).trans rfl, (blk_cell BK854.out 1).trans rfl⟩ (fun hHeld => ?_)
 clear hK K
 refine norm_ (a' := ?_) ?_ ?_
 rotate_left
 · show Act.put _ (some 27) _ = _
   simp only [Act.put, List.setIfInBounds_toArray, List.set_cons_zero, List.set_cons_succ, i64_w, i32_w]
   rfl
 refine one_ (i := 23) (N := some 28) #[true, true, true, true, true, true, true, true, true, true, true, true, true, true, true, true, true, true, true, true, true, true, true, true, false, false, false] rfl rfl (one_of HT_.out (by kernel_rfl)) (by decide) (fun K hK => ?_)
 refine Kd.R_lit_step (Kd.int .i64) _ 3 ?hg (N := 28) ?hd (xs := ([t855, t856, t857] : List Int)) (inner := [.int .i64 t855, .int .i64 t856, .int .i64 t857]) (ok := fun _ => True) (okp := fun _ => True) ?hr ?hp (fun _ hk => hk) trivial (Below.refl _ _) (Nat.le_refl _) (by simp) ?_; (case hd => rfl); (case hg => rfl); (case hr => first | (go_simp; done) | (go_simp; rfl)); (case hp => exact (Reps.one (show Kd.M (Kd.int .i64) _ _ _ t855 [.int .i64 t855] from rfl) (Reps.one (show Kd.M (Kd.int .i64) _ _ _ t856 [.int .i64 t856] from rfl) (Reps.one (show Kd.M (Kd.int .i64) _ _ _ t857 [.int .i64 t857] from rfl) (Reps.none _ _)))))
 intro v859 w12 ho13 hb hg_ hnew_
 clear hg_ hnew_
 (first | rw [← Ny858.out] at ho13 | (simp only [Int.reduceToNat] at ho13; rw [← Ny858.out] at ho13))
 have HO860 := Aside0.mk (Kd.R_lower ho13 (below_size (bw_ HB)))
 replace BK853 := bkb_ BK853 hb
 replace BK854 := bkb_ BK854 hb
 replace HB := bws_ HB hb
 clear hb ho13
 obtain ⟨Ao14, co14, eo14⟩ := Kd.R_slice HO860.out
 (first | subst eo14 | (injection eo14 with f1_ f2_ f3_; have f4_ := f1_.symm; have f5_ := f3_.symm; clear f1_ f2_ f3_; subst f4_; subst f5_))
 refine hK.out _ _ ⟨(blk_cell BK853.out 0).trans rfl, (blk_cell BK853.out 1).trans rfl, (blk_cell BK854.out 0).trans rfl, (blk_cell BK854.out 1).trans rfl⟩ (fun hHeld => ?_)
 clear hK K
 refine norm_ (a' := ?_) ?_ ?_
 rotate_left
 · show Act.put _ (some 28) _ = _
   simp only [Act.put, List.setIfInBounds_toArray, List.set_cons_zero, List.set_cons_succ, i64_w, i32_w]
   rfl
 refine one_ (i := 24) (N := some 29) #[true, true, true, true, true, true, true, true, true, true, true, true, true, true, true, true, true, true, true, true, true, true, true, true, true, false, false] rfl rfl (one_of HT_.out (by kernel_rfl)) (by decide) (fun K hK => ?_)
 refine gos_ Try.func119 #[.slice Ao14 y858.length co14] ?_
 with_reducible refine (cmp_Or_int.calls k _ _ y858 t861 _ ?side1 ?side2 A8.out).mono ?_
 (case side1 => repeat (first | exact (Kd.R_reads' HO860.out).2.2 | (with_reducible refine Kd.C_alloc ?_ _) | (with_reducible refine Kd.C_drewN ?_ _) | (with_reducible refine Kd.C_drew ?_)))
 (case side2 => exact (Kd.R_reads' HO860.out).2.1)
 rintro e w' ⟨rfl, ⟨nd, rfl⟩⟩
 refine ⟨_, rfl, ?_⟩
 refine hK.out _ _ ⟨(blk_cell BK853.out 0).trans rfl, (blk_cell BK853.out 1).trans rfl, (blk_cell BK854.out 0).trans rfl, (blk_cell BK854.out 1).trans rfl⟩ (fun hHeld => ?_)
 clear hK K
 refine norm_ (a' := ?_) ?_ ?_
 rotate_left
 · show Act.put _ (some 29) _ = _
   simp only [Act.put, List.setIfInBounds_toArray, List.set_cons_zero, List.set_cons_succ, i64_w, i32_w]
   rfl
 refine pure_ (i := 25) (N := some 30) (v := ?_) (a' := ?_) #[true, true, true, true, true, true, true, true, true, true, true, true, true, true, true, true, true, true, true, true, true, true, true, true, true, true, false] rfl rfl (any_of HT_.out (by kernel_rfl)) (fun _ _ _ h => h) (Or.inl ⟨by rfl, ?_⟩) ?_ ?_
 rotate_left
 · intro w'
   go_simp
   with_reducible rfl
 rotate_left
 · simp only [Act.put, List.setIfInBounds_toArray, List.set_cons_zero, List.set_cons_succ, i64_w, i32_w]
   rfl
 refine pure_ (i := 26) (N := some 4) (v := ?_) (a' := ?_) #[true, true, true, true, true, true, true, true, true, true, true, true, true, true, true, true, true, true, true, true, true, true, true, true, true, true, true] rfl rfl (any_of HT_.out (by kernel_rfl)) (fun _ _ _ h => h) (Or.inl ⟨by rfl, ?_⟩) ?_ ?_
 rotate_left
 · intro w'
   go_simp
   with_reducible rfl
 rotate_left
 · simp only [Act.put, List.setIfInBounds_toArray, List.set_cons_zero, List.set_cons_succ, i64_w, i32_w]
   rfl
 refine done_ (done_of HT_.out (by kernel_rfl)) ?_
 try go_wp2
 go_ret
 exact ⟨by first | rfl | (simp [errW_none, errW_some] <;> rfl) | (simp only [← hji4, ← hji5]; first | rfl | (simp [errW_none, errW_some] <;> rfl)) | (simp [*, errW_none, errW_some] <;> rfl), bw_ HB⟩
end Go.Proofs.Ytakcdoahpbeckaa.H
