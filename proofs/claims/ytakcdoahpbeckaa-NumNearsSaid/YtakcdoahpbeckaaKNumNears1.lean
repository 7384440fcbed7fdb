/- NumNears: the printed functions it reaches, with their walks. Laid by wip/claimpack.py out of what wip/hprint.py printed. -/
import Derived.Test.YtakcdoahpbeckaaKNumNears0
namespace Go.Proofs.Ytakcdoahpbeckaa.H
open Go.RowKit Go.Proofs.YtakcdoahpbeckaaW.PrintWords Go.Proofs.YtakcdoahpbeckaaW.PrintLast Go.Proofs.YtakcdoahpbeckaaW.PrintMore
attribute [local go_sem] max2_int min2_int max_two min_two max_three min_three max_four min_four   -- for this text's walks alone
set_option linter.unusedVariables false
set_option linter.unusedSimpArgs false

theorem eqA23 (d : Nat) (w : World) (x0 y0 : Int) (x1 y1 : Int) :
    (Op.equalIn (d + 2) 23 (.agg #[.int .i64 x0, .int .i64 x1]) (.agg #[.int .i64 y0, .int .i64 y1])).run Try.prog w = .ok (x0 == y0 && (x1 == y1)) w := by
  refine eqA_of Try.underlying23 (by kernel_rfl) ?_
  refine eqf_cons (by rfl) (by go_simp; rfl) (by go_simp; rfl) (by go_simp) ?_
  exact eqf_last (by rfl) (by go_simp; rfl) (by go_simp; rfl) (by go_simp)
/-! ### withyref01_In: function 42 -/
def withyref01_In.f (a0 : Int) (a1 : Int) (a2 : Int) : Option (Bool) := if a1 ≤ a0 then (some (decide (a0 ≤ a2))) else (some false)
set_option maxHeartbeats 8000000 in
set_option maxRecDepth 100000 in
theorem withyref01_In.calls (a0 : Int) (a1 : Int) (a2 : Int) (r : Bool) (w : World) (h : withyref01_In.f a0 a1 a2 = some r) :
    Calls Try.prog 42 #[.int .i64 a0, .int .i64 a1, .int .i64 a2] w fun e w' => e = .returned (.bool r) ∧ Drawn0 w w' := by
  have H : (if a1 ≤ a0 then (some (decide (a0 ≤ a2))) else (some false)) = some r := h
  clear h
  by_cases c4 : a1 ≤ a0
  · rw [if_pos c4] at H
    have c4b0 : decide (a1 ≤ a0) = true := decide_eq_true c4
    clear c4
    obtain rfl := Option.some.inj H
    go_enter Try.func42, Try.ntmps42
    go_wp2
    go_ret
    exact ⟨by first | rfl | (simp; done) | (simp [*]; done), by repeat (first | exact Drawn0.refl _ | apply Drawn0.step)⟩
  · rw [if_neg c4] at H
    have c4b0 : decide (a1 ≤ a0) = false := decide_eq_false c4
    clear c4
    obtain rfl := Option.some.inj H
    go_enter Try.func42, Try.ntmps42
    go_wp2
    go_ret
    exact ⟨by first | rfl | (simp; done) | (simp [*]; done), by repeat (first | exact Drawn0.refl _ | apply Drawn0.step)⟩
/-! ### withyref01_Of2: function 93 -/
mutual
def withyref01_Of2.j0 : Nat → Int → Int → Option (Int)
  | 0, _, _ => none
  | k + 1, x0, x1 => if x1 < 0 then (withyref01_Of2.j1 k x0 (wrap64 (-x1))) else (withyref01_Of2.j1 k x0 x1)
def withyref01_Of2.j1 : Nat → Int → Int → Option (Int)
  | 0, _, _ => none
  | k + 1, x0, x1 => withyref01_Of2.l0 k x0 x1
def withyref01_Of2.l0 : Nat → Int → Int → Option (Int)
  | 0, _, _ => none
  | k + 1, x0, x1 => if x1 > 0 then (if x1 = 0 then (none) else (withyref01_Of2.l0 k x1 (Int.tmod x0 x1))) else (if x0 = 0 then (some 1) else (some x0))
end
def withyref01_Of2.f (k : Nat) (a0 : Int) (a1 : Int) : Option (Int) := if a0 < 0 then (withyref01_Of2.j0 k (wrap64 (-a0)) a1) else (withyref01_Of2.j0 k a0 a1)
theorem withyref01_Of2.mono_l : ∀ k, (∀ y0 y1, LeO (withyref01_Of2.j0 k y0 y1) (withyref01_Of2.j0 (k + 1) y0 y1)) ∧ (∀ y0 y1, LeO (withyref01_Of2.j1 k y0 y1) (withyref01_Of2.j1 (k + 1) y0 y1)) ∧ (∀ y0 y1, LeO (withyref01_Of2.l0 k y0 y1) (withyref01_Of2.l0 (k + 1) y0 y1))
  | 0 => ⟨fun _ _ r h => by simp [withyref01_Of2.j0] at h, fun _ _ r h => by simp [withyref01_Of2.j1] at h, fun _ _ r h => by simp [withyref01_Of2.l0] at h⟩
  | k + 1 => by
    obtain ⟨ih0, ih1, ih2⟩ := withyref01_Of2.mono_l k
    refine ⟨?_, ?_, ?_⟩
    · intro y0 y1
      unfold withyref01_Of2.j0
      repeat' first
      | (with_reducible exact ih0 _ _)
      | (with_reducible exact ih1 _ _)
      | (with_reducible exact ih2 _ _)
      | (with_reducible exact LeO.refl _)
      | (with_reducible exact LeO.none _)
      | (with_reducible refine LeO.ite ?_ ?_)
      | (with_reducible refine LeO.bind ?_ (fun _ => ?_))
      | (with_reducible refine LeO.exc (fun _ => ?_) (fun _ => ?_))
      | exact ih0 _ _
      | exact ih1 _ _
      | exact ih2 _ _
      | exact LeO.none _
      | refine LeO.ite ?_ ?_
      | refine LeO.bind ?_ (fun _ => ?_)
    · intro y0 y1
      unfold withyref01_Of2.j1
      repeat' first
      | (with_reducible exact ih0 _ _)
      | (with_reducible exact ih1 _ _)
      | (with_reducible exact ih2 _ _)
      | (with_reducible exact LeO.refl _)
      | (with_reducible exact LeO.none _)
      | (with_reducible refine LeO.ite ?_ ?_)
      | (with_reducible refine LeO.bind ?_ (fun _ => ?_))
      | (with_reducible refine LeO.exc (fun _ => ?_) (fun _ => ?_))
      | exact ih0 _ _
      | exact ih1 _ _
      | exact ih2 _ _
      | exact LeO.none _
      | refine LeO.ite ?_ ?_
      | refine LeO.bind ?_ (fun _ => ?_)
    · intro y0 y1
      unfold withyref01_Of2.l0
      repeat' first
      | (with_reducible exact ih0 _ _)
      | (with_reducible exact ih1 _ _)
      | (with_reducible exact ih2 _ _)
      | (with_reducible exact LeO.refl _)
      | (with_reducible exact LeO.none _)
      | (with_reducible refine LeO.ite ?_ ?_)
      | (with_reducible refine LeO.bind ?_ (fun _ => ?_))
      | (with_reducible refine LeO.exc (fun _ => ?_) (fun _ => ?_))
      | exact ih0 _ _
      | exact ih1 _ _
      | exact ih2 _ _
      | exact LeO.none _
      | refine LeO.ite ?_ ?_
      | refine LeO.bind ?_ (fun _ => ?_)
theorem withyref01_Of2.mono : ∀ a0 a1 k, LeO (withyref01_Of2.f k a0 a1) (withyref01_Of2.f (k + 1) a0 a1) := by
  intro a0 a1 k
  obtain ⟨ih0, ih1, ih2⟩ := withyref01_Of2.mono_l k
  unfold withyref01_Of2.f
  repeat' first
      | (with_reducible exact ih0 _ _)
      | (with_reducible exact ih1 _ _)
      | (with_reducible exact ih2 _ _)
      | (with_reducible exact LeO.refl _)
      | (with_reducible exact LeO.none _)
      | (with_reducible refine LeO.ite ?_ ?_)
      | (with_reducible refine LeO.bind ?_ (fun _ => ?_))
      | (with_reducible refine LeO.exc (fun _ => ?_) (fun _ => ?_))
      | exact ih0 _ _
      | exact ih1 _ _
      | exact ih2 _ _
      | exact LeO.none _
      | refine LeO.ite ?_ ?_
      | refine LeO.bind ?_ (fun _ => ?_)
set_option maxHeartbeats 8000000 in
set_option maxRecDepth 100000 in
theorem withyref01_Of2.calls (k : Nat) (a0 : Int) (a1 : Int) (r : Int) (w : World) (h : withyref01_Of2.f k a0 a1 = some r) :
    Calls Try.prog 93 #[.int .i64 a0, .int .i64 a1] w fun e w' => e = .returned (.int .i64 r) ∧ Drawn0 w w' := by
 have H : (if a0 < 0 then (withyref01_Of2.j0 k (wrap64 (-a0)) a1) else (withyref01_Of2.j0 k a0 a1)) = some r := h
 clear h
 have HC3 := Aside0.mk H
 clear H
 go_enter Try.func93, Try.ntmps93
 go_upto_if 6 with (fail)
 repeat (go_quiet (fail); go_upto_if 6 with (fail))
 go_cut [0] (fun v0 wc => ∃ (kq : Nat) (x0_2 : Int), v0 = .int .i64 x0_2 ∧ Aside0 (withyref01_Of2.j0 kq x0_2 a1 = some r) ∧ Aside0 (kq ≤ k) ∧ Drawn0 w wc)
 case first =>
  have H := HC3.out
  clear HC3
  by_cases c4 : a0 < 0
  · rw [if_pos c4] at H
    have c4b0 : decide (a0 < 0) = true := decide_eq_true c4
    clear c4
    (first | rw [c4b0] | (simp only [i64_w, i32_w]; rw [c4b0]) | skip)
    have H' := Aside0.mk H
    clear H
    go_wp2
    repeat (go_quiet (fail); try go_wp2)
    go_meet
    case rel => exact ⟨_, (wrap64 (-a0)), (by first | rfl | (simp; done) | (simp [*]; done)), H', ⟨by first | omega | exact Nat.le_refl _⟩, by repeat (first | exact Drawn0.refl _ | apply Drawn0.step)⟩
  · rw [if_neg c4] at H
    have c4b0 : decide (a0 < 0) = false := decide_eq_false c4
    clear c4
    (first | rw [c4b0] | (simp only [i64_w, i32_w]; rw [c4b0]) | skip)
    have H' := Aside0.mk H
    clear H
    go_wp2
    repeat (go_quiet (fail); try go_wp2)
    go_meet
    case rel => exact ⟨_, (a0), (by first | rfl | (simp; done) | (simp [*]; done)), H', ⟨by first | omega | exact Nat.le_refl _⟩, by repeat (first | exact Drawn0.refl _ | apply Drawn0.step)⟩
 case rest =>
  clear HC3
  try clear p2
  try clear c4
  try clear c4b0
  obtain ⟨kq, x0_2, rfl, HA, HJ2, ⟨mc2, rfl⟩⟩ := hcut
  cases kq with
  | zero => exact absurd HA.out (by simp [withyref01_Of2.j0])
  | succ kj2 =>
   have H := HA.out
   clear HA
   simp only [withyref01_Of2.j0] at H
   have HC5 := Aside0.mk H
   clear H
   go_upto_if 10 with (fail)
   repeat (go_quiet (fail); go_upto_if 10 with (fail))
   go_cut [1] (fun v1 wc => ∃ (kq : Nat) (x1_4 : Int), v1 = .int .i64 x1_4 ∧ Aside0 (withyref01_Of2.j1 kq x0_2 x1_4 = some r) ∧ Aside0 (kq ≤ kj2) ∧ Drawn0 w wc)
   case first =>
    have H := HC5.out
    clear HC5
    by_cases c6 : a1 < 0
    · rw [if_pos c6] at H
      have c6b0 : decide (a1 < 0) = true := decide_eq_true c6
      clear c6
      (first | rw [c6b0] | (simp only [i64_w, i32_w]; rw [c6b0]) | skip)
      have H' := Aside0.mk H
      clear H
      go_wp2
      repeat (go_quiet (fail); try go_wp2)
      go_meet
      case rel => exact ⟨_, (wrap64 (-a1)), (by first | rfl | (simp; done) | (simp [*]; done)), H', ⟨by have := HJ2.out; first | omega | exact Nat.le_refl _⟩, by repeat (first | exact Drawn0.refl _ | apply Drawn0.step)⟩
    · rw [if_neg c6] at H
      have c6b0 : decide (a1 < 0) = false := decide_eq_false c6
      clear c6
      (first | rw [c6b0] | (simp only [i64_w, i32_w]; rw [c6b0]) | skip)
      have H' := Aside0.mk H
      clear H
      go_wp2
      repeat (go_quiet (fail); try go_wp2)
      go_meet
      case rel => exact ⟨_, (a1), (by first | rfl | (simp; done) | (simp [*]; done)), H', ⟨by have := HJ2.out; first | omega | exact Nat.le_refl _⟩, by repeat (first | exact Drawn0.refl _ | apply Drawn0.step)⟩
   case rest =>
    clear HC5
    try clear c2
    try clear p2
    try clear c4
    try clear c4b0
    try clear c6
    try clear c6b0
    try clear p6
    try clear p2
    obtain ⟨kq, x1_4, rfl, HA, HJ4, ⟨mc4, rfl⟩⟩ := hcut
    cases kq with
    | zero => exact absurd HA.out (by simp [withyref01_Of2.j1])
    | succ kj4 =>
     have H := HA.out
     clear HA
     simp only [withyref01_Of2.j1] at H
     have H' := Aside0.mk H
     clear H
     go_wp2
     repeat (go_quiet (fail); try go_wp2)
     go_loopg [0, 1] kj4 (fun kq v0 v1 w' => ∃ (x0_3 : Int) (x1_3 : Int), v0 = .int .i64 x0_3 ∧ v1 = .int .i64 x1_3 ∧ Aside0 (withyref01_Of2.l0 kq x0_3 x1_3 = some r) ∧ Aside0 (kq ≤ kj4) ∧ Drawn0 w w')
     case atStart => exact ⟨(x0_2), (x1_4), (by first | rfl | (simp; done) | (simp [*]; done)), (by first | rfl | (simp; done) | (simp [*]; done)), H', ⟨Nat.le_refl _⟩, by repeat (first | exact Drawn0.refl _ | apply Drawn0.step)⟩
     case round =>
      clear H'
      try clear c2
      try clear p2
      try clear c4
      try clear c4b0
      try clear c6
      try clear c6b0
      try clear p6
      try clear p2
      try clear p6
      obtain ⟨x0_3, x1_3, rfl, rfl, HA, HK3, ⟨m3, rfl⟩⟩ := hrel
      cases gk with
      | zero => exact absurd HA.out (by simp [withyref01_Of2.l0])
      | succ k3 =>
       have H := HA.out
       clear HA
       simp only [withyref01_Of2.l0] at H
       by_cases c7 : x1_3 > 0
       · rw [if_pos c7] at H
         have c7b0 : decide (0 < x1_3) = true := decide_eq_true c7
         clear c7
         by_cases c8 : x1_3 = 0
         · rw [if_pos c8] at H
           exact absurd H (by simp)
         · rw [if_neg c8] at H
           have c8b0 : (x1_3 == 0) = false := beq_eq_false_iff_ne.mpr c8
           have c8b1 : (x1_3 != 0) = true := bne_iff_ne.mpr c8
           have H' := Aside0.mk H
           clear H
           go_wp2
           repeat (go_quiet (fail); try go_wp2)
           go_roundg k3
           case measure => have := HJ2.out; have := HJ4.out; have := HK3.out; omega
           case rel => exact ⟨(x1_3), (Int.tmod x0_3 x1_3), (by first | rfl | (simp; done) | (simp [*]; done)), (by first | rfl | (simp; done) | (simp [*]; done)), H', ⟨by have := HJ2.out; have := HJ4.out; have := HK3.out; omega⟩, by repeat (first | exact Drawn0.refl _ | apply Drawn0.step)⟩
       · rw [if_neg c7] at H
         have c7b0 : decide (0 < x1_3) = false := decide_eq_false c7
         clear c7
         by_cases c9 : x0_3 = 0
         · rw [if_pos c9] at H
           have c9b0 : (x0_3 == 0) = true := beq_iff_eq.mpr c9
           have c9b1 : (x0_3 != 0) = false := bne_eq_false_iff_eq.mpr c9
           clear c9
           obtain rfl := Option.some.inj H
           go_wp2
           repeat (go_quiet (fail); try go_wp2)
           go_ret
           exact ⟨by first | rfl | (simp; done) | (simp [*]; done), by repeat (first | exact Drawn0.refl _ | apply Drawn0.step)⟩
         · rw [if_neg c9] at H
           have c9b0 : (x0_3 == 0) = false := beq_eq_false_iff_ne.mpr c9
           have c9b1 : (x0_3 != 0) = true := bne_iff_ne.mpr c9
           obtain rfl := Option.some.inj H
           go_wp2
           repeat (go_quiet (fail); try go_wp2)
           go_ret
           exact ⟨by first | rfl | (simp; done) | (simp [*]; done), by repeat (first | exact Drawn0.refl _ | apply Drawn0.step)⟩
/-! ### withyref01_Check: function 41 -/
def withyref01_Check.j0 : Nat → Bool → Int → Int → Option (Int)
  | 0, _, _, _ => none
  | k + 1, x12, x102000, x102001 => if x12 = true then (some 3) else ((withyref01_Of2.f k x102000 x102001).bind fun t104 => (if t104 > 1 then (some 1) else (some 0)))
def withyref01_Check.f (k : Nat) (a0_0 : Int) (a0_1 : Int) : Option (Int) := (withyref01_In.f a0_1 1 1000000000).bind fun t102 => (if t102 = true then ((withyref01_In.f a0_0 (-1000000000) 1000000000).bind fun t103 => (withyref01_Check.j0 k (!t103) a0_0 a0_1)) else (withyref01_Check.j0 k true a0_0 a0_1))
theorem withyref01_Check.mono_l : ∀ k, (∀ y0 y1 y2, LeO (withyref01_Check.j0 k y0 y1 y2) (withyref01_Check.j0 (k + 1) y0 y1 y2))
  | 0 => fun _ _ _ r h => by simp [withyref01_Check.j0] at h
  | k + 1 => by
    have ih0 := withyref01_Check.mono_l k
    · intro y0 y1 y2
      unfold withyref01_Check.j0
      repeat' first
      | (with_reducible exact ih0 _ _ _)
      | (with_reducible exact withyref01_Of2.mono _ _ _)
      | (with_reducible exact LeO.refl _)
      | (with_reducible exact LeO.none _)
      | (with_reducible refine LeO.ite ?_ ?_)
      | (with_reducible refine LeO.bind ?_ (fun _ => ?_))
      | (with_reducible refine LeO.exc (fun _ => ?_) (fun _ => ?_))
      | exact ih0 _ _ _
      | exact withyref01_Of2.mono _ _ _
      | exact LeO.none _
      | refine LeO.ite ?_ ?_
      | refine LeO.bind ?_ (fun _ => ?_)
theorem withyref01_Check.mono : ∀ a0 a1 k, LeO (withyref01_Check.f k a0 a1) (withyref01_Check.f (k + 1) a0 a1) := by
  intro a0 a1 k
  have ih0 := withyref01_Check.mono_l k
  unfold withyref01_Check.f
  repeat' first
      | (with_reducible exact ih0 _ _ _)
      | (with_reducible exact withyref01_Of2.mono _ _ _)
      | (with_reducible exact LeO.refl _)
      | (with_reducible exact LeO.none _)
      | (with_reducible refine LeO.ite ?_ ?_)
      | (with_reducible refine LeO.bind ?_ (fun _ => ?_))
      | (with_reducible refine LeO.exc (fun _ => ?_) (fun _ => ?_))
      | exact ih0 _ _ _
      | exact withyref01_Of2.mono _ _ _
      | exact LeO.none _
      | refine LeO.ite ?_ ?_
      | refine LeO.bind ?_ (fun _ => ?_)
set_option maxHeartbeats 8000000 in
set_option maxRecDepth 100000 in
theorem withyref01_Check.calls (k : Nat) (a0_0 : Int) (a0_1 : Int) (r : Int) (w : World) (h : withyref01_Check.f k a0_0 a0_1 = some r) :
    Calls Try.prog 41 #[.agg #[.int .i64 a0_0, .int .i64 a0_1]] w fun e w' => e = .returned (.int .i64 r) ∧ Below w.heap.size w w' := by
 have hu23 := Try.underlying23
 have HB := Aside0.mk (Below.refl w.heap.size w)
 have H : ((withyref01_In.f a0_1 1 1000000000).bind fun t102 => (if t102 = true then ((withyref01_In.f a0_0 (-1000000000) 1000000000).bind fun t103 => (withyref01_Check.j0 k (!t103) a0_0 a0_1)) else (withyref01_Check.j0 k true a0_0 a0_1))) = some r := h
 clear h
 have HC2 := Aside0.mk H
 clear H
 go_enter Try.func41, Try.ntmps41
 go_upto_region 1 with (first | ((with_reducible refine gate_dst (N := 1) rfl ?_); refine box_event ?hg (N := 1) ?hd (cs := #[.int .i64 a0_0, .int .i64 a0_1]) (t := 23) ?hr ?_; (case hd => rfl); (case hg => rfl); (case hr => first | (go_simp; done) | (go_simp; rfl)); intro gb101 hg w3 hbox hb; have BK101 := Aside0.mk hbox; have GW101 := bwg_ HB hg; have GE101 := bwg_ HB hg; replace HB := bws_ HB hb; clear hb hbox hg))
 (try simp only [Act.put, List.setIfInBounds_toArray, List.set_cons_zero, List.set_cons_succ])
 go_cut [12] (fun v12 wc => ∃ (kq : Nat) (x12_1 : Bool), v12 = .bool x12_1 ∧ Aside0 (withyref01_Check.j0 kq x12_1 a0_0 a0_1 = some r) ∧ Aside0 (kq ≤ k) ∧ Aside0 (wc.heap[gb101]? = some (.cells #[.int .i64 a0_0, .int .i64 a0_1] 23 (0, 0))) ∧ Aside0 (Below w.heap.size w wc))
 case first =>
  have H := HC2.out
  clear HC2
  replace H := Option.bind_eq_some_iff.mp H
  obtain ⟨t102, A40, H⟩ := H
  replace H : (if t102 = true then ((withyref01_In.f a0_0 (-1000000000) 1000000000).bind fun t103 => (withyref01_Check.j0 k (!t103) a0_0 a0_1)) else (withyref01_Check.j0 k true a0_0 a0_1)) = some r := H
  have A4 := Aside0.mk A40
  clear A40
  by_cases c5 : t102 = true
  · subst c5
    have H1 : ((withyref01_In.f a0_0 (-1000000000) 1000000000).bind fun t103 => (withyref01_Check.j0 k (!t103) a0_0 a0_1)) = some r := by rw [if_pos rfl] at H; exact H
    clear H
    have H := H1
    clear H1
    replace H := Option.bind_eq_some_iff.mp H
    obtain ⟨t103, A60, H⟩ := H
    replace H : (withyref01_Check.j0 k (!t103) a0_0 a0_1) = some r := H
    have A6 := Aside0.mk A60
    clear A60
    have H' := Aside0.mk H
    clear H
    obtain ⟨hcz7_0, hcz7_1, hfz7_0, hfz7_1⟩ := bc2_ BK101
    go_wp2_with (first | ((with_reducible refine gate_callee (f := 42) rfl ?_); refine gla_ (some 5) Try.func42 #[.int .i64 a0_1, .int .i64 1, .int .i64 1000000000] ?_; (with_reducible refine (withyref01_In.calls a0_1 1 1000000000 true _ A4.out).mono ?_); rintro e w' ⟨rfl, ⟨nd, rfl⟩⟩; refine ⟨_, rfl, ?_⟩) | (go_at_call 42; (with_reducible refine (withyref01_In.calls a0_0 (-1000000000) 1000000000 t103 _ A6.out).mono ?_); rintro e w' ⟨rfl, ⟨nd, rfl⟩⟩))
    go_meet
    case rel => exact ⟨_, (!t103), (by first | rfl | (simp; done) | (simp [*]; done)), H', ⟨by first | omega | exact Nat.le_refl _⟩, ⟨by exact bk_ BK101⟩, ⟨bw_ HB⟩⟩
  · replace c5 := Bool.eq_false_iff.mpr c5
    subst c5
    have H1 : (withyref01_Check.j0 k true a0_0 a0_1) = some r := by rw [if_neg (show ¬ (false = true) by decide)] at H; exact H
    clear H
    have H := H1
    clear H1
    have H' := Aside0.mk H
    clear H
    obtain ⟨hcz8_0, hcz8_1, hfz8_0, hfz8_1⟩ := bc2_ BK101
    go_wp2_with (first | ((with_reducible refine gate_callee (f := 42) rfl ?_); refine gla_ (some 5) Try.func42 #[.int .i64 a0_1, .int .i64 1, .int .i64 1000000000] ?_; (with_reducible refine (withyref01_In.calls a0_1 1 1000000000 false _ A4.out).mono ?_); rintro e w' ⟨rfl, ⟨nd, rfl⟩⟩; refine ⟨_, rfl, ?_⟩))
    go_meet
    case rel => exact ⟨_, (true), (by first | rfl | (simp; done) | (simp [*]; done)), H', ⟨by first | omega | exact Nat.le_refl _⟩, ⟨by exact bk_ BK101⟩, ⟨bw_ HB⟩⟩
 case rest =>
  clear HC2
  try clear p2
  try clear c4
  try clear c5
  try clear hcz7_0
  try clear hcz7_1
  try clear hcz8_0
  try clear hcz8_1
  try clear hfz7_0
  try clear hfz7_1
  try clear hfz8_0
  try clear hfz8_1
  obtain ⟨kq, x12_1, rfl, HA, HJ1, BK101, HB⟩ := hcut
  cases kq with
  | zero => exact absurd HA.out (by simp [withyref01_Check.j0])
  | succ kj1 =>
   have H := HA.out
   clear HA
   simp only [withyref01_Check.j0] at H
   by_cases c9 : x12_1 = true
   · subst c9
     have H1 : (some 3) = some r := by rw [if_pos rfl] at H; exact H
     clear H
     have H := H1
     clear H1
     obtain rfl := Option.some.inj H
     go_wp2
     go_ret
     exact ⟨by first | rfl | (simp [*] <;> rfl), bw_ HB⟩
   · replace c9 := Bool.eq_false_iff.mpr c9
     subst c9
     have H1 : ((withyref01_Of2.f kj1 a0_0 a0_1).bind fun t104 => (if t104 > 1 then (some 1) else (some 0))) = some r := by rw [if_neg (show ¬ (false = true) by decide)] at H; exact H
     clear H
     have H := H1
     clear H1
     replace H := Option.bind_eq_some_iff.mp H
     obtain ⟨t104, A100, H⟩ := H
     replace H : (if t104 > 1 then (some 1) else (some 0)) = some r := H
     have A10 := Aside0.mk A100
     clear A100
     by_cases c11 : t104 > 1
     · rw [if_pos c11] at H
       have c11b0 : decide (1 < t104) = true := decide_eq_true c11
       clear c11
       obtain rfl := Option.some.inj H
       obtain ⟨hcz12_0, hcz12_1, hfz12_0, hfz12_1⟩ := bc2_ BK101
       go_wp2_with (first | ((with_reducible refine gate_callee (f := 93) rfl ?_); refine gla_ (some 17) Try.func93 #[.int .i64 a0_0, .int .i64 a0_1] ?_; (with_reducible refine (withyref01_Of2.calls kj1 a0_0 a0_1 t104 _ A10.out).mono ?_); rintro e w' ⟨rfl, ⟨nd, rfl⟩⟩; refine ⟨_, rfl, ?_⟩))
       go_ret
       exact ⟨by first | rfl | (simp [*] <;> rfl), bw_ HB⟩
     · rw [if_neg c11] at H
       have c11b0 : decide (1 < t104) = false := decide_eq_false c11
       clear c11
       obtain rfl := Option.some.inj H
       obtain ⟨hcz13_0, hcz13_1, hfz13_0, hfz13_1⟩ := bc2_ BK101
       go_wp2_with (first | ((with_reducible refine gate_callee (f := 93) rfl ?_); refine gla_ (some 17) Try.func93 #[.int .i64 a0_0, .int .i64 a0_1] ?_; (with_reducible refine (withyref01_Of2.calls kj1 a0_0 a0_1 t104 _ A10.out).mono ?_); rintro e w' ⟨rfl, ⟨nd, rfl⟩⟩; refine ⟨_, rfl, ?_⟩))
       go_ret
       exact ⟨by first | rfl | (simp [*] <;> rfl), bw_ HB⟩
/-! ### slices_IndexFunc_int_int: function 122, by hand -/
/-- where a list has what a predicate says, from an index on -/
def idxp (p : Int → Bool) : List Int → Nat → Int
  | [], _ => -1
  | x :: l, i => if p x = true then (i : Int) else idxp p l (i + 1)
theorem idxp_nonneg (p : Int → Bool) : ∀ l i, 0 ≤ idxp p l i ↔ l.any p = true
  | [], i => by simp [idxp]
  | x :: l, i => by
    simp only [idxp, List.any_cons]
    by_cases h : p x = true
    · simp [h]
    · simp [h, idxp_nonneg p l (i + 1)]
theorem idxp_any (p : Int → Bool) (l : List Int) (i : Nat) : decide (0 ≤ idxp p l i) = l.any p := by
  rw [Bool.eq_iff_iff, decide_eq_true_iff]; exact idxp_nonneg p l i
theorem idxp_drop (p : Int → Bool) (l : List Int) (i : Nat) (h : i < l.length) (j : Nat) : idxp p (l.drop i) j = if p (rd l i) = true then (j : Int) else idxp p (l.drop (i + 1)) (j + 1) := by
  rw [List.drop_eq_getElem_cons h]
  simp only [idxp]
  have e : rd l (i : Int) = l[i] := by simp [rd, List.getD_eq_getElem?_getD, h]
  rw [e]
set_option maxHeartbeats 8000000 in
set_option maxRecDepth 100000 in
theorem slices_IndexFunc_int.calls (g : Nat) (cap : Array Value) (p : Int → Bool) (eg : ∀ args w, (callFunc g args).run Try.prog w = .ok (.enter g args) w) (A0 : Option Addr) (c0 : Nat) (l0 : List Int) (w : World) (hr0 : Kd.C (Kd.int .i64) w A0 l0.length l0) (_hc0 : l0.length ≤ c0) (hl0 : l0.length ≤ 9223372036854775807)
    (hp : ∀ (x : Int) (W : World), Below w.heap.size w W → Calls Try.prog g (#[.int .i64 x] ++ cap) W fun e w' => e = .returned (.bool (p x)) ∧ Below w.heap.size w w') :
    Calls Try.prog 122 #[.slice A0 l0.length c0, .func (.func g) #[] cap] w fun e w' => e = .returned (.int .i64 (idxp p l0 0)) ∧ Below w.heap.size w w' := by
  have HR0 := Aside0.mk hr0
  have HP := Aside0.mk hp
  have HB := Aside0.mk (Below.refl w.heap.size w)
  clear hr0 hp
  have H' : Aside0 (idxp p (l0.drop 0) 0 = idxp p l0 0) := ⟨by simp⟩
  generalize hr : idxp p l0 0 = r at H' ⊢
  clear hr
  go_enter Try.func122, Try.ntmps122
  go_wp2
  go_loopg [5, 8] l0.length (fun kq v5 v8 w' => ∃ (i : Nat), v8 = .int .i64 i ∧ Aside0 (kq + i = l0.length) ∧ Aside0 (idxp p (l0.drop i) i = r) ∧ Aside0 (Below w.heap.size w w'))
  case atStart => exact ⟨0, by simp, ⟨by simp⟩, H', HB⟩
  case round =>
    clear H'
    obtain ⟨i, rfl, HK, HA, HB1⟩ := hrel
    by_cases hlt : i < l0.length
    · have hb0 : decide ((i : Int) < (l0.length : Int)) = true := by simp; exact hlt
      have HA2 := HA.out
      rw [idxp_drop p l0 i hlt] at HA2
      obtain ⟨ad, e1, hx⟩ := Kd.at_int HR0.out (i : Int) (by omega) (by omega)
      cases e1
      have hx1 := pw_cell_below HB1.out hx
      simp only [Int.toNat_natCast] at hx1
      have HC := Aside0.mk (HP.out (rd l0 i))
      clear HP hx HR0
      generalize rd l0 (i : Int) = x at *
      cases hpx : p x with
      | true =>
        rw [hpx, if_pos rfl] at HA2
        rw [hpx] at HC
        have H2 := Aside0.mk HA2
        clear HA2 HA hpx
        go_wp2_with (fail)
        refine (HC.out wr HB1.out).mono ?_
        rintro e w' ⟨rfl, hb⟩
        have HB2 := Aside0.mk hb
        clear hb
        go_wp2
        go_ret
        exact ⟨by rw [H2.out]; rfl, HB2.out⟩
      | false =>
        rw [hpx, if_neg (by simp)] at HA2
        rw [hpx] at HC
        have H2 := Aside0.mk HA2
        clear HA2 HA hpx
        go_wp2_with (fail)
        refine (HC.out wr HB1.out).mono ?_
        rintro e w' ⟨rfl, hb⟩
        have HB2 := Aside0.mk hb
        clear hb
        go_wp2
        go_roundg (l0.length - (i + 1))
        case measure => have := HK.out; omega
        case rel => exact ⟨i + 1, by go_num, ⟨by omega⟩, H2, HB2⟩
    · have hb0 : decide ((i : Int) < (l0.length : Int)) = false := by simp; omega
      have H2 : r = -1 := by
        have := HA.out
        rw [List.drop_of_length_le (by omega)] at this
        exact this.symm
      have H2 := Aside0.mk H2
      clear HA
      go_wp2
      go_ret
      exact ⟨by rw [H2.out]; rfl, HB1.out⟩
set_option maxHeartbeats 8000000 in
theorem slices_ContainsFunc_int.calls (g : Nat) (cap : Array Value) (p : Int → Bool) (eg : ∀ args w, (callFunc g args).run Try.prog w = .ok (.enter g args) w) (A0 : Option Addr) (c0 : Nat) (l0 : List Int) (w : World) (hr0 : Kd.C (Kd.int .i64) w A0 l0.length l0) (_hc0 : l0.length ≤ c0) (hl0 : l0.length ≤ 9223372036854775807)
    (hp : ∀ (x : Int) (W : World), Below w.heap.size w W → Calls Try.prog g (#[.int .i64 x] ++ cap) W fun e w' => e = .returned (.bool (p x)) ∧ Below w.heap.size w w') :
    Calls Try.prog 107 #[.slice A0 l0.length c0, .func (.func g) #[] cap] w fun e w' => e = .returned (.bool (l0.any p)) ∧ Below w.heap.size w w' := by
  have HC := Aside0.mk (slices_IndexFunc_int.calls g cap p eg A0 c0 l0 w hr0 _hc0 hl0 hp)
  rw [← idxp_any p l0 0]
  clear eg hp hr0
  generalize idxp p l0 0 = r at HC ⊢
  go_enter Try.func107, Try.ntmps107
  go_wp2_with (fail)
  refine HC.out.mono ?_
  rintro e w' ⟨rfl, hb⟩
  have HB2 := Aside0.mk hb
  clear hb HC
  go_wp2
  go_ret
  exact ⟨rfl, HB2.out⟩
/-! ### num_within: function 80, by hand -/
def num_within.f (a0 : Int) (a1 : Int) (l2 : List Int) : Option Bool := some (l2.all (fun n => decide (a0 ≤ n) && decide (n ≤ a1)))
def num_within.out (a0 a1 n : Int) : Bool := decide (n < a0) || decide (n > a1)
theorem num_within.any (a0 a1 : Int) (l : List Int) : (!(l.any (num_within.out a0 a1))) = l.all (fun n => decide (a0 ≤ n) && decide (n ≤ a1)) := by
  rw [List.not_any_eq_all_not]
  congr 1
  funext n
  simp only [num_within.out]
  rw [Bool.eq_iff_iff]
  simp
set_option maxHeartbeats 8000000 in
theorem num_within_1.calls (B0 B1 : Nat) (a0 a1 x : Int) (w : World) (h0 : w.cell? ⟨B0, 0, none⟩ = some (.int .i64 a0)) (h1 : w.cell? ⟨B1, 0, none⟩ = some (.int .i64 a1)) :
    Calls Try.prog 114 #[.int .i64 x, .pointer (some ⟨B0, 0, none⟩), .pointer (some ⟨B1, 0, none⟩)] w fun e w' => e = .returned (.bool (num_within.out a0 a1 x)) ∧ Drawn0 w w' := by
  unfold num_within.out
  by_cases c : x < a0
  · have c0 : decide (x < a0) = true := decide_eq_true c
    rw [c0]
    clear c
    go_enter Try.func114, Try.ntmps114
    go_wp2
    repeat (go_quiet (fail); try go_wp2)
    go_ret
    exact ⟨rfl, by repeat (first | exact Drawn0.refl _ | apply Drawn0.step)⟩
  · have c0 : decide (x < a0) = false := decide_eq_false c
    rw [c0]
    clear c
    go_enter Try.func114, Try.ntmps114
    go_wp2
    repeat (go_quiet (fail); try go_wp2)
    go_ret
    exact ⟨by simp, by repeat (first | exact Drawn0.refl _ | apply Drawn0.step)⟩
theorem num_within_1.enters : Enters Try.prog 114 := enters_of Try.func114 (by kernel_rfl) rfl
theorem num_within.inner (a0 a1 : Int) (A2 : Option Addr) (c2 : Nat) (l2 : List Int) (w : World) (hr2 : Kd.C (Kd.int .i64) w A2 l2.length l2) (hc2 : l2.length ≤ c2) :
    Calls Try.prog 107 #[.slice A2 l2.length c2, .func (.func 114) #[] #[.pointer (some ⟨w.heap.size, 0, none⟩), .pointer (some ⟨w.heap.size + 1, 0, none⟩)]]
      ((w.alloc (.cells #[.int .i64 a0] 3)).alloc (.cells #[.int .i64 a1] 3)) fun e w' => e = .returned (.bool (l2.any (num_within.out a0 a1))) ∧ Below w.heap.size w w' := by
  have hm := Kd.C_max hr2
  have hA := cell_new_l w (.int .i64 a0) 3
  have hB := cell_new_l (w.alloc (.cells #[.int .i64 a0] 3)) (.int .i64 a1) 3
  rw [World.size_alloc] at hB
  have hA2 := cell_alloc_l (.cells #[.int .i64 a1] 3) hA
  have HB := below_alloc (below_alloc (Below.refl w.heap.size w) (.cells #[.int .i64 a0] 3)) (.cells #[.int .i64 a1] 3)
  have hC := Kd.C_below hr2 HB
  generalize (w.alloc (.cells #[.int .i64 a0] 3)).alloc (.cells #[.int .i64 a1] 3) = W at *
  have hp : ∀ (x : Int) (W' : World), Below W.heap.size W W' → Calls Try.prog 114 (#[.int .i64 x] ++ #[.pointer (some ⟨w.heap.size, 0, none⟩), .pointer (some ⟨w.heap.size + 1, 0, none⟩)]) W' fun e w' => e = .returned (.bool (num_within.out a0 a1 x)) ∧ Below W.heap.size W w' :=
    fun x W' hW => (num_within_1.calls w.heap.size (w.heap.size + 1) a0 a1 x W' (pw_cell_below hW hA2) (pw_cell_below hW hB)).mono (fun e w' h => ⟨h.1, below_drawn hW h.2⟩)
  exact (slices_ContainsFunc_int.calls 114 _ (num_within.out a0 a1) num_within_1.enters A2 c2 l2 W hC hc2 hm hp).mono (fun e w' h => ⟨h.1, below_step HB h.2⟩)
set_option maxHeartbeats 8000000 in
set_option maxRecDepth 100000 in
theorem num_within.calls (a0 : Int) (a1 : Int) (A2 : Option Addr) (c2 : Nat) (l2 : List Int) (r : Bool) (w : World) (hr2 : Kd.C (Kd.int .i64) w A2 l2.length l2) (hc2 : l2.length ≤ c2) (h : num_within.f a0 a1 l2 = some r) :
    Calls Try.prog 80 #[.int .i64 a0, .int .i64 a1, .slice A2 l2.length c2] w fun e w' => e = .returned (.bool r) ∧ Below w.heap.size w w' := by
  have H := Option.some.inj h
  rw [← num_within.any] at H
  clear h
  subst H
  have HC := Aside0.mk (num_within.inner a0 a1 A2 c2 l2 w hr2 hc2)
  clear hr2 hc2
  generalize l2.any (num_within.out a0 a1) = r at HC ⊢
  have hmf : ∀ (fn : Fn) (first cap : Array Value) (w : World), (Instr.makeFunc fn first cap).run Try.prog w = .ok (.func fn first cap) w := fun _ _ _ _ => rfl
  go_enter Try.func80, Try.ntmps80
  go_wp2_with (fail)
  refine HC.out.mono ?_
  rintro e w' ⟨rfl, hb⟩
  have HB2 := Aside0.mk hb
  clear hb HC
  go_wp2
  go_ret
  exact ⟨rfl, HB2.out⟩
/-! ### num_divisor: function 95 -/
def num_divisor.l0 : Nat → Int → Int → Option (Int)
  | 0, _, _ => none
  | k + 1, x0, x1 => if x1 > 0 then (if x1 = 0 then (none) else (num_divisor.l0 k x1 (Int.tmod x0 x1))) else (some (mx x0 1))
def num_divisor.f (k : Nat) (a0 : Int) (a1 : Int) : Option (Int) := num_divisor.l0 k (mx a0 (wrap64 (-a0))) (mx a1 (wrap64 (-a1)))
theorem num_divisor.mono_l : ∀ k, (∀ y0 y1, LeO (num_divisor.l0 k y0 y1) (num_divisor.l0 (k + 1) y0 y1))
  | 0 => fun _ _ r h => by simp [num_divisor.l0] at h
  | k + 1 => by
    have ih0 := num_divisor.mono_l k
    · intro y0 y1
      unfold num_divisor.l0
      repeat' first
      | (with_reducible exact ih0 _ _)
      | (with_reducible exact LeO.refl _)
      | (with_reducible exact LeO.none _)
      | (with_reducible refine LeO.ite ?_ ?_)
      | (with_reducible refine LeO.bind ?_ (fun _ => ?_))
      | (with_reducible refine LeO.exc (fun _ => ?_) (fun _ => ?_))
      | exact ih0 _ _
      | exact LeO.none _
      | refine LeO.ite ?_ ?_
      | refine LeO.bind ?_ (fun _ => ?_)
theorem num_divisor.mono : ∀ a0 a1 k, LeO (num_divisor.f k a0 a1) (num_divisor.f (k + 1) a0 a1) := by
  intro a0 a1 k
  have ih0 := num_divisor.mono_l k
  unfold num_divisor.f
  repeat' first
      | (with_reducible exact ih0 _ _)
      | (with_reducible exact LeO.refl _)
      | (with_reducible exact LeO.none _)
      | (with_reducible refine LeO.ite ?_ ?_)
      | (with_reducible refine LeO.bind ?_ (fun _ => ?_))
      | (with_reducible refine LeO.exc (fun _ => ?_) (fun _ => ?_))
      | exact ih0 _ _
      | exact LeO.none _
      | refine LeO.ite ?_ ?_
      | refine LeO.bind ?_ (fun _ => ?_)
set_option maxHeartbeats 8000000 in
set_option maxRecDepth 100000 in
theorem num_divisor.calls (k : Nat) (a0 : Int) (a1 : Int) (r : Int) (w : World) (h : num_divisor.f k a0 a1 = some r) :
    Calls Try.prog 95 #[.int .i64 a0, .int .i64 a1] w fun e w' => e = .returned (.int .i64 r) ∧ Below w.heap.size w w' := by
 have HB := Aside0.mk (Below.refl w.heap.size w)
 have H : (num_divisor.l0 k (mx a0 (wrap64 (-a0))) (mx a1 (wrap64 (-a1)))) = some r := h
 clear h
 obtain ⟨ji3, hji3⟩ : ∃ j_ : Int, (mx a0 (wrap64 (-a0))) = j_ := ⟨_, rfl⟩
 replace H : (num_divisor.l0 k ji3 (mx a1 (wrap64 (-a1)))) = some r := by first | (rw [hji3] at H; exact H) | (simp only [hji3] at H ⊢; exact H)
 have hji3_ : (if a0 < (wrap64 (-a0)) then (wrap64 (-a0)) else a0) = ji3 := hji3
 obtain ⟨ji4, hji4⟩ : ∃ j_ : Int, (mx a1 (wrap64 (-a1))) = j_ := ⟨_, rfl⟩
 replace H : (num_divisor.l0 k ji3 ji4) = some r := by first | (rw [hji4] at H; exact H) | (simp only [hji4] at H ⊢; exact H)
 have hji4_ : (if a1 < (wrap64 (-a1)) then (wrap64 (-a1)) else a1) = ji4 := hji4
 have H' := Aside0.mk H
 clear H
 go_enter Try.func95, Try.ntmps95
 go_wp2
 repeat (go_quiet (fail); try go_wp2)
 go_loopg [0, 1] k (fun kq v0 v1 w' => ∃ (x0_1 : Int) (x1_1 : Int), v0 = .int .i64 x0_1 ∧ v1 = .int .i64 x1_1 ∧ Aside0 (num_divisor.l0 kq x0_1 x1_1 = some r) ∧ Aside0 (kq ≤ k) ∧ Aside0 (Below w.heap.size w w'))
 case atStart => exact ⟨(ji3), (ji4), (by first | rfl | (simp; done) | (simp only [← hji3] <;> (first | rfl | simp)) | (simp [*]; done)), (by first | rfl | (simp; done) | (simp only [← hji4] <;> (first | rfl | simp)) | (simp [*]; done)), H', ⟨Nat.le_refl _⟩, ⟨bw_ HB⟩⟩
 case round =>
  clear H'
  try clear p2
  obtain ⟨x0_1, x1_1, rfl, rfl, HA, HK1, HB⟩ := hrel
  cases gk with
  | zero => exact absurd HA.out (by simp [num_divisor.l0])
  | succ k1 =>
   have H := HA.out
   clear HA
   simp only [num_divisor.l0] at H
   by_cases c5 : x1_1 > 0
   · rw [if_pos c5] at H
     have c5b0 : decide (0 < x1_1) = true := decide_eq_true c5
     clear c5
     by_cases c6 : x1_1 = 0
     · rw [if_pos c6] at H
       exact absurd H (by simp)
     · rw [if_neg c6] at H
       have c6b0 : (x1_1 == 0) = false := beq_eq_false_iff_ne.mpr c6
       have c6b1 : (x1_1 != 0) = true := bne_iff_ne.mpr c6
       have H' := Aside0.mk H
       clear H
       go_wp2
       repeat (go_quiet (fail); try go_wp2)
       go_roundg k1
       case measure => have := HK1.out; omega
       case rel => exact ⟨(x1_1), (Int.tmod x0_1 x1_1), (by first | rfl | (simp; done) | (simp [*]; done)), (by first | rfl | (simp; done) | (simp [*]; done)), H', ⟨by have := HK1.out; omega⟩, ⟨bw_ HB⟩⟩
   · rw [if_neg c5] at H
     have c5b0 : decide (0 < x1_1) = false := decide_eq_false c5
     clear c5
     obtain ⟨ji7, hji7⟩ : ∃ j_ : Int, (mx x0_1 1) = j_ := ⟨_, rfl⟩
     replace H : (some ji7) = some r := by first | (rw [hji7] at H; exact H) | (simp only [hji7] at H ⊢; exact H)
     have hji7_ : (if x0_1 < 1 then 1 else x0_1) = ji7 := hji7
     obtain rfl := Option.some.inj H
     go_wp2
     repeat (go_quiet (fail); try go_wp2)
     go_ret
     exact ⟨by first | rfl | (simp [errW_none, errW_some] <;> rfl) | (simp only [← hji3, ← hji4, ← hji7]; first | rfl | (simp [errW_none, errW_some] <;> rfl)) | (simp [*, errW_none, errW_some] <;> rfl), bw_ HB⟩
/-! ### num_Check: function 46 -/
def num_Check.j0 : Nat → Bool → Int → Int → Option (Int)
  | 0, _, _, _ => none
  | k + 1, x3, x112000, x112001 => if x3 = true then (some 3) else ((num_divisor.f k x112000 x112001).bind fun t120 => (if t120 > 1 then (some 1) else (some 0)))
def num_Check.f (k : Nat) (a0_0 : Int) (a0_1 : Int) : Option (Int) := (num_within.f 1 1000000000 (([a0_1] : List Int))).bind fun t115 => (if t115 = true then ((num_within.f (-1000000000) 1000000000 (([a0_0] : List Int))).bind fun t119 => (num_Check.j0 k (!t119) a0_0 a0_1)) else (num_Check.j0 k true a0_0 a0_1))
theorem num_Check.mono_l : ∀ k, (∀ y0 y1 y2, LeO (num_Check.j0 k y0 y1 y2) (num_Check.j0 (k + 1) y0 y1 y2))
  | 0 => fun _ _ _ r h => by simp [num_Check.j0] at h
  | k + 1 => by
    have ih0 := num_Check.mono_l k
    · intro y0 y1 y2
      unfold num_Check.j0
      repeat' first
      | (with_reducible exact ih0 _ _ _)
      | (with_reducible exact num_divisor.mono _ _ _)
      | (with_reducible exact LeO.refl _)
      | (with_reducible exact LeO.none _)
      | (with_reducible refine LeO.ite ?_ ?_)
      | (with_reducible refine LeO.bind ?_ (fun _ => ?_))
      | (with_reducible refine LeO.exc (fun _ => ?_) (fun _ => ?_))
      | exact ih0 _ _ _
      | exact num_divisor.mono _ _ _
      | exact LeO.none _
      | refine LeO.ite ?_ ?_
      | refine LeO.bind ?_ (fun _ => ?_)
theorem num_Check.mono : ∀ a0 a1 k, LeO (num_Check.f k a0 a1) (num_Check.f (k + 1) a0 a1) := by
  intro a0 a1 k
  have ih0 := num_Check.mono_l k
  unfold num_Check.f
  repeat' first
      | (with_reducible exact ih0 _ _ _)
      | (with_reducible exact num_divisor.mono _ _ _)
      | (with_reducible exact LeO.refl _)
      | (with_reducible exact LeO.none _)
      | (with_reducible refine LeO.ite ?_ ?_)
      | (with_reducible refine LeO.bind ?_ (fun _ => ?_))
      | (with_reducible refine LeO.exc (fun _ => ?_) (fun _ => ?_))
      | exact ih0 _ _ _
      | exact num_divisor.mono _ _ _
      | exact LeO.none _
      | refine LeO.ite ?_ ?_
      | refine LeO.bind ?_ (fun _ => ?_)
set_option maxHeartbeats 8000000 in
set_option maxRecDepth 100000 in
theorem num_Check.calls (k : Nat) (a0_0 : Int) (a0_1 : Int) (r : Int) (w : World) (h : num_Check.f k a0_0 a0_1 = some r) :
    Calls Try.prog 46 #[.agg #[.int .i64 a0_0, .int .i64 a0_1]] w fun e w' => e = .returned (.int .i64 r) ∧ Below w.heap.size w w' := by
 have hu23 := Try.underlying23
 have HB := Aside0.mk (Below.refl w.heap.size w)
 have H : ((num_within.f 1 1000000000 (([a0_1] : List Int))).bind fun t115 => (if t115 = true then ((num_within.f (-1000000000) 1000000000 (([a0_0] : List Int))).bind fun t119 => (num_Check.j0 k (!t119) a0_0 a0_1)) else (num_Check.j0 k true a0_0 a0_1))) = some r := h
 clear h
 have HC2 := Aside0.mk H
 clear H
 go_enter Try.func46, Try.ntmps46
 go_upto_region 1 with (first | ((with_reducible refine gate_dst (N := 1) rfl ?_); (try (refine gate_guard (by rfl) ?_; dsimp only)); refine box_event ?hg (N := 1) ?hd (cs := #[.int .i64 a0_0, .int .i64 a0_1]) (t := 23) ?hr ?_; (case hd => rfl); (case hg => rfl); (case hr => first | (go_simp; done) | (go_simp; rfl)); intro gb111 hg w3 hbox hb; have BK111 := Aside0.mk hbox; have GW111 := bwg_ HB hg; have GE111 := bwg_ HB hg; replace HB := bws_ HB hb; clear hb hbox hg))
 (try simp only [Act.put, List.setIfInBounds_toArray, List.set_cons_zero, List.set_cons_succ])
 go_cut [3] (fun v3 wc => ∃ (kq : Nat) (x3_1 : Bool), v3 = .bool x3_1 ∧ Aside0 (num_Check.j0 kq x3_1 a0_0 a0_1 = some r) ∧ Aside0 (kq ≤ k) ∧ Aside0 (wc.heap[gb111]? = some (.cells #[.int .i64 a0_0, .int .i64 a0_1] 23 (0, 0))) ∧ Aside0 (Below w.heap.size w wc))
 case first =>
  have H := HC2.out
  clear HC2
  obtain ⟨y112, hy112⟩ : ∃ y_ : List Int, y_ = (([a0_1] : List Int)) := ⟨_, rfl⟩
  replace H : ((num_within.f 1 1000000000 y112).bind fun t115 => (if t115 = true then ((num_within.f (-1000000000) 1000000000 (([a0_0] : List Int))).bind fun t119 => (num_Check.j0 k (!t119) a0_0 a0_1)) else (num_Check.j0 k true a0_0 a0_1))) = some r := by first | (rw [hy112]; with_reducible exact H) | (have H2_ := (Option.bind_some _ _).symm.trans H; rw [hy112]; with_reducible exact H2_) | (have H2_ := (Option.bind_some _ _).symm.trans H; with_reducible exact H2_) | with_reducible exact H | (rw [hy112]; exact H) | exact H
  have Ny112 := Aside0.mk hy112
  clear hy112
  replace H := Option.bind_eq_some_iff.mp H
  obtain ⟨t115, A40, H⟩ := H
  replace H : (if t115 = true then ((num_within.f (-1000000000) 1000000000 (([a0_0] : List Int))).bind fun t119 => (num_Check.j0 k (!t119) a0_0 a0_1)) else (num_Check.j0 k true a0_0 a0_1)) = some r := H
  have A4 := Aside0.mk A40
  clear A40
  by_cases c5 : t115 = true
  · subst c5
    have H1 : ((num_within.f (-1000000000) 1000000000 (([a0_0] : List Int))).bind fun t119 => (num_Check.j0 k (!t119) a0_0 a0_1)) = some r := by rw [if_pos rfl] at H; exact H
    clear H
    have H := H1
    clear H1
    obtain ⟨y116, hy116⟩ : ∃ y_ : List Int, y_ = (([a0_0] : List Int)) := ⟨_, rfl⟩
    replace H : ((num_within.f (-1000000000) 1000000000 y116).bind fun t119 => (num_Check.j0 k (!t119) a0_0 a0_1)) = some r := by first | (rw [hy116]; with_reducible exact H) | (have H2_ := (Option.bind_some _ _).symm.trans H; rw [hy116]; with_reducible exact H2_) | (have H2_ := (Option.bind_some _ _).symm.trans H; with_reducible exact H2_) | with_reducible exact H | (rw [hy116]; exact H) | exact H
    have Ny116 := Aside0.mk hy116
    clear hy116
    replace H := Option.bind_eq_some_iff.mp H
    obtain ⟨t119, A60, H⟩ := H
    replace H : (num_Check.j0 k (!t119) a0_0 a0_1) = some r := H
    have A6 := Aside0.mk A60
    clear A60
    have H' := Aside0.mk H
    clear H
    obtain ⟨hcz7_0, hcz7_1, hfz7_0, hfz7_1⟩ := bc2_ BK111
    go_wp2_with (first | ((with_reducible refine gate_dst (N := 6) rfl ?_); (try (refine gate_guard (by rfl) ?_; dsimp only)); refine Kd.R_lit (Kd.int .i64) _ 3 ?hg (N := 6) ?hd (xs := ([a0_1] : List Int)) (inner := [.int .i64 a0_1]) (ok := fun _ => True) (okp := fun _ => True) ?hr ?hp (fun _ hk => hk) trivial (Below.refl _ _) (Nat.le_refl _) (by simp) ?_; (case hd => rfl); (case hg => rfl); (case hr => first | (go_simp; done) | (go_simp; rfl)); (case hp => exact (Reps.one (show Kd.M (Kd.int .i64) _ _ _ a0_1 [.int .i64 a0_1] from rfl) (Reps.none _ _))); intro v113 w8 ho9 hb hg_ hnew_; clear hg_ hnew_; (first | rw [← Ny112.out] at ho9 | (simp only [Int.reduceToNat] at ho9; rw [← Ny112.out] at ho9)); have HO114 := Aside0.mk (Kd.R_lower ho9 (below_size (bw_ HB))); replace BK111 := bkb_ BK111 hb; replace HB := bws_ HB hb; clear hb ho9; obtain ⟨Ao10, co10, eo10⟩ := Kd.R_slice HO114.out; subst eo10) | ((with_reducible refine gate_callee (f := 80) rfl ?_); refine gla_ (some 7) Try.func80 #[.int .i64 1, .int .i64 1000000000, .slice Ao10 y112.length co10] ?_; (with_reducible refine (num_within.calls 1 1000000000 _ _ y112 true _ ?side1 ?side2 A4.out).mono ?_); (case side1 => repeat (first | exact (Kd.R_reads' HO114.out).2.2 | (with_reducible refine Kd.C_alloc ?_ _) | (with_reducible refine Kd.C_drewN ?_ _) | (with_reducible refine Kd.C_drew ?_))); (case side2 => exact (Kd.R_reads' HO114.out).2.1); rintro e w11 ⟨rfl, hb⟩; refine ⟨_, rfl, ?_⟩; replace HO114 := Aside0.mk (Kd.R_below (by (with_reducible repeat (first | apply Kd.R_alloc | apply Kd.R_drewN | apply Kd.R_drew)); exact HO114.out) hb); replace BK111 := bkb_ BK111 hb; replace HB := bws_ HB hb; (try clear hb); (try clear hb2); (try clear hk); (try clear hi); obtain ⟨hcz12_0, hcz12_1, hfz12_0, hfz12_1⟩ := bc2_ BK111) | ((with_reducible refine gate_dst (N := 12) rfl ?_); (try (refine gate_guard (by rfl) ?_; dsimp only)); refine Kd.R_lit (Kd.int .i64) _ 3 ?hg (N := 12) ?hd (xs := ([a0_0] : List Int)) (inner := [.int .i64 a0_0]) (ok := fun _ => True) (okp := fun _ => True) ?hr ?hp (fun _ hk => hk) trivial (Below.refl _ _) (Nat.le_refl _) (by simp) ?_; (case hd => rfl); (case hg => rfl); (case hr => first | (go_simp; done) | (go_simp; rfl)); (case hp => exact (Reps.one (show Kd.M (Kd.int .i64) _ _ _ a0_0 [.int .i64 a0_0] from rfl) (Reps.none _ _))); intro v117 w13 ho14 hb hg_ hnew_; clear hg_ hnew_; (first | rw [← Ny116.out] at ho14 | (simp only [Int.reduceToNat] at ho14; rw [← Ny116.out] at ho14)); have HO118 := Aside0.mk (Kd.R_lower (Kd.R_new' ho14 (Kd.R_lt (by (with_reducible repeat (first | apply Kd.R_alloc | apply Kd.R_drewN | apply Kd.R_drew)); exact HO114.out))) (below_size (bw_ HB))); replace HO114 := Aside0.mk (Kd.R_elder' (by (with_reducible repeat (first | apply Kd.R_alloc | apply Kd.R_drewN | apply Kd.R_drew)); exact HO114.out) (Kd.R_base ho14) hb); replace BK111 := bkb_ BK111 hb; replace HB := bws_ HB hb; clear hb ho14; obtain ⟨Ao15, co15, eo15⟩ := Kd.R_slice HO118.out; subst eo15) | (go_at_call 80; (with_reducible refine (num_within.calls (-1000000000) 1000000000 _ _ y116 t119 _ ?side1 ?side2 A6.out).mono ?_); (case side1 => repeat (first | exact (Kd.R_reads' HO118.out).2.2 | (with_reducible refine Kd.C_alloc ?_ _) | (with_reducible refine Kd.C_drewN ?_ _) | (with_reducible refine Kd.C_drew ?_))); (case side2 => exact (Kd.R_reads' HO118.out).2.1); rintro e w16 ⟨rfl, hb⟩; replace HO114 := Aside0.mk (Kd.R_below (by (with_reducible repeat (first | apply Kd.R_alloc | apply Kd.R_drewN | apply Kd.R_drew)); exact HO114.out) hb); replace HO118 := Aside0.mk (Kd.R_below (by (with_reducible repeat (first | apply Kd.R_alloc | apply Kd.R_drewN | apply Kd.R_drew)); exact HO118.out) hb); replace BK111 := bkb_ BK111 hb; replace HB := bws_ HB hb; (try clear hb); (try clear hb2); (try clear hk); (try clear hi)))
    go_meet
    case rel => exact ⟨_, (!t119), (by first | rfl | (simp; done) | (simp [*]; done)), H', ⟨by first | omega | exact Nat.le_refl _⟩, ⟨by exact bk_ BK111⟩, ⟨bw_ HB⟩⟩
  · replace c5 := Bool.eq_false_iff.mpr c5
    subst c5
    have H1 : (num_Check.j0 k true a0_0 a0_1) = some r := by rw [if_neg (show ¬ (false = true) by decide)] at H; exact H
    clear H
    have H := H1
    clear H1
    have H' := Aside0.mk H
    clear H
    obtain ⟨hcz17_0, hcz17_1, hfz17_0, hfz17_1⟩ := bc2_ BK111
    go_wp2_with (first | ((with_reducible refine gate_dst (N := 6) rfl ?_); (try (refine gate_guard (by rfl) ?_; dsimp only)); refine Kd.R_lit (Kd.int .i64) _ 3 ?hg (N := 6) ?hd (xs := ([a0_1] : List Int)) (inner := [.int .i64 a0_1]) (ok := fun _ => True) (okp := fun _ => True) ?hr ?hp (fun _ hk => hk) trivial (Below.refl _ _) (Nat.le_refl _) (by simp) ?_; (case hd => rfl); (case hg => rfl); (case hr => first | (go_simp; done) | (go_simp; rfl)); (case hp => exact (Reps.one (show Kd.M (Kd.int .i64) _ _ _ a0_1 [.int .i64 a0_1] from rfl) (Reps.none _ _))); intro v113 w18 ho19 hb hg_ hnew_; clear hg_ hnew_; (first | rw [← Ny112.out] at ho19 | (simp only [Int.reduceToNat] at ho19; rw [← Ny112.out] at ho19)); have HO114 := Aside0.mk (Kd.R_lower ho19 (below_size (bw_ HB))); replace BK111 := bkb_ BK111 hb; replace HB := bws_ HB hb; clear hb ho19; obtain ⟨Ao20, co20, eo20⟩ := Kd.R_slice HO114.out; subst eo20) | ((with_reducible refine gate_callee (f := 80) rfl ?_); refine gla_ (some 7) Try.func80 #[.int .i64 1, .int .i64 1000000000, .slice Ao20 y112.length co20] ?_; (with_reducible refine (num_within.calls 1 1000000000 _ _ y112 false _ ?side1 ?side2 A4.out).mono ?_); (case side1 => repeat (first | exact (Kd.R_reads' HO114.out).2.2 | (with_reducible refine Kd.C_alloc ?_ _) | (with_reducible refine Kd.C_drewN ?_ _) | (with_reducible refine Kd.C_drew ?_))); (case side2 => exact (Kd.R_reads' HO114.out).2.1); rintro e w21 ⟨rfl, hb⟩; refine ⟨_, rfl, ?_⟩; replace HO114 := Aside0.mk (Kd.R_below (by (with_reducible repeat (first | apply Kd.R_alloc | apply Kd.R_drewN | apply Kd.R_drew)); exact HO114.out) hb); replace BK111 := bkb_ BK111 hb; replace HB := bws_ HB hb; (try clear hb); (try clear hb2); (try clear hk); (try clear hi)))
    go_meet
    case rel => exact ⟨_, (true), (by first | rfl | (simp; done) | (simp [*]; done)), H', ⟨by first | omega | exact Nat.le_refl _⟩, ⟨by exact bk_ BK111⟩, ⟨bw_ HB⟩⟩
 case rest =>
  clear HC2
  try clear p2
  try clear c4
  try clear c5
  try clear c8
  try clear hcz12_0
  try clear hcz12_1
  try clear hcz17_0
  try clear hcz17_1
  try clear hcz7_0
  try clear hcz7_1
  try clear hfz12_0
  try clear hfz12_1
  try clear hfz17_0
  try clear hfz17_1
  try clear hfz7_0
  try clear hfz7_1
  obtain ⟨kq, x3_1, rfl, HA, HJ1, BK111, HB⟩ := hcut
  cases kq with
  | zero => exact absurd HA.out (by simp [num_Check.j0])
  | succ kj1 =>
   have H := HA.out
   clear HA
   simp only [num_Check.j0] at H
   by_cases c22 : x3_1 = true
   · subst c22
     have H1 : (some 3) = some r := by rw [if_pos rfl] at H; exact H
     clear H
     have H := H1
     clear H1
     obtain rfl := Option.some.inj H
     go_wp2
     go_ret
     exact ⟨by first | rfl | (simp [*] <;> rfl), bw_ HB⟩
   · replace c22 := Bool.eq_false_iff.mpr c22
     subst c22
     have H1 : ((num_divisor.f kj1 a0_0 a0_1).bind fun t120 => (if t120 > 1 then (some 1) else (some 0))) = some r := by rw [if_neg (show ¬ (false = true) by decide)] at H; exact H
     clear H
     have H := H1
     clear H1
     replace H := Option.bind_eq_some_iff.mp H
     obtain ⟨t120, A230, H⟩ := H
     replace H : (if t120 > 1 then (some 1) else (some 0)) = some r := H
     have A23 := Aside0.mk A230
     clear A230
     by_cases c24 : t120 > 1
     · rw [if_pos c24] at H
       have c24b0 : decide (1 < t120) = true := decide_eq_true c24
       clear c24
       obtain rfl := Option.some.inj H
       obtain ⟨hcz25_0, hcz25_1, hfz25_0, hfz25_1⟩ := bc2_ BK111
       go_wp2_with (first | ((with_reducible refine gate_callee (f := 95) rfl ?_); refine gla_ (some 21) Try.func95 #[.int .i64 a0_0, .int .i64 a0_1] ?_; (with_reducible refine (num_divisor.calls kj1 a0_0 a0_1 t120 _ A23.out).mono ?_); rintro e w26 ⟨rfl, hb⟩; refine ⟨_, rfl, ?_⟩; replace BK111 := bkb_ BK111 hb; replace HB := bws_ HB hb; (try clear hb); (try clear hb2); (try clear hk); (try clear hi)))
       go_ret
       exact ⟨by first | rfl | (simp [*] <;> rfl), bw_ HB⟩
     · rw [if_neg c24] at H
       have c24b0 : decide (1 < t120) = false := decide_eq_false c24
       clear c24
       obtain rfl := Option.some.inj H
       obtain ⟨hcz27_0, hcz27_1, hfz27_0, hfz27_1⟩ := bc2_ BK111
       go_wp2_with (first | ((with_reducible refine gate_callee (f := 95) rfl ?_); refine gla_ (some 21) Try.func95 #[.int .i64 a0_0, .int .i64 a0_1] ?_; (with_reducible refine (num_divisor.calls kj1 a0_0 a0_1 t120 _ A23.out).mono ?_); rintro e w28 ⟨rfl, hb⟩; refine ⟨_, rfl, ?_⟩; replace BK111 := bkb_ BK111 hb; replace HB := bws_ HB hb; (try clear hb); (try clear hb2); (try clear hk); (try clear hi)))
       go_ret
       exact ⟨by first | rfl | (simp [*] <;> rfl), bw_ HB⟩
/-! ### num_checked: function 68 -/
def num_checked.l0 : Nat → List (S23) → Int → Int → Option (Int)
  | 0, _, _, _ => none
  | k + 1, x6, x7, x8 => if x8 < x7 then (if 0 ≤ x8 then (if x8 < (x6.length : Int) then ((num_Check.f k ((rd_T23 x6 x8).f0) ((rd_T23 x6 x8).f1)).bind fun t123 => (if t123 = 0 then (num_checked.l0 k x6 x7 (wrap64 (x8 + 1))) else (some t123))) else (none)) else (none)) else (some 0)
def num_checked.f (k : Nat) (l0 : List (S23)) : Option (Int) := num_checked.l0 k l0 (l0.length : Int) 0
theorem num_checked.mono_l : ∀ k, (∀ y0 y1 y2, LeO (num_checked.l0 k y0 y1 y2) (num_checked.l0 (k + 1) y0 y1 y2))
  | 0 => fun _ _ _ r h => by simp [num_checked.l0] at h
  | k + 1 => by
    have ih0 := num_checked.mono_l k
    · intro y0 y1 y2
      unfold num_checked.l0
      repeat' first
      | (with_reducible exact ih0 _ _ _)
      | (with_reducible exact num_Check.mono _ _ _)
      | (with_reducible exact LeO.refl _)
      | (with_reducible exact LeO.none _)
      | (with_reducible refine LeO.ite ?_ ?_)
      | (with_reducible refine LeO.bind ?_ (fun _ => ?_))
      | (with_reducible refine LeO.exc (fun _ => ?_) (fun _ => ?_))
      | exact ih0 _ _ _
      | exact num_Check.mono _ _ _
      | exact LeO.none _
      | refine LeO.ite ?_ ?_
      | refine LeO.bind ?_ (fun _ => ?_)
theorem num_checked.mono : ∀ a0 k, LeO (num_checked.f k a0) (num_checked.f (k + 1) a0) := by
  intro a0 k
  have ih0 := num_checked.mono_l k
  unfold num_checked.f
  repeat' first
      | (with_reducible exact ih0 _ _ _)
      | (with_reducible exact num_Check.mono _ _ _)
      | (with_reducible exact LeO.refl _)
      | (with_reducible exact LeO.none _)
      | (with_reducible refine LeO.ite ?_ ?_)
      | (with_reducible refine LeO.bind ?_ (fun _ => ?_))
      | (with_reducible refine LeO.exc (fun _ => ?_) (fun _ => ?_))
      | exact ih0 _ _ _
      | exact num_Check.mono _ _ _
      | exact LeO.none _
      | refine LeO.ite ?_ ?_
      | refine LeO.bind ?_ (fun _ => ?_)
set_option maxHeartbeats 8000000 in
set_option maxRecDepth 100000 in
theorem num_checked.calls (k : Nat) (A0 : Option Addr) (c0 : Nat) (l0 : List (S23)) (r : Int) (w : World) (hr0 : Kd.C k23 w A0 l0.length l0) (hc0 : l0.length ≤ c0) (h : num_checked.f k l0 = some r) :
    Calls Try.prog 68 #[.slice A0 l0.length c0] w fun e w' => e = .returned (.int .i64 r) ∧ Below w.heap.size w w' := by
 have hu23 := Try.underlying23
 have HR0 := Aside0.mk hr0
 have HC0 := Aside0.mk hc0
 clear hr0 hc0
 have HB := Aside0.mk (Below.refl w.heap.size w)
 have H : (num_checked.l0 k l0 (l0.length : Int) 0) = some r := h
 clear h
 have H' := Aside0.mk H
 clear H
 go_enter Try.func68, Try.ntmps68
 go_wp2
 go_loopg [8] k (fun kq v8 w' => ∃ (x8_1 : Int), v8 = .int .i64 x8_1 ∧ Aside0 (num_checked.l0 kq l0 (l0.length : Int) x8_1 = some r) ∧ Aside0 (kq ≤ k) ∧ Aside0 (Below w.heap.size w w'))
 case atStart => exact ⟨(0), (by first | rfl | (simp; done) | (simp [*]; done)), H', ⟨Nat.le_refl _⟩, ⟨bw_ HB⟩⟩
 case round =>
  clear H'
  obtain ⟨x8_1, rfl, HA, HK1, HB⟩ := hrel
  cases gk with
  | zero => exact absurd HA.out (by simp [num_checked.l0])
  | succ k1 =>
   have H := HA.out
   clear HA
   simp only [num_checked.l0] at H
   by_cases c2 : x8_1 < (l0.length : Int)
   · rw [if_pos c2] at H
     have c2b0 : decide (x8_1 < (l0.length : Int)) = true := decide_eq_true c2
     clear c2
     by_cases c3 : 0 ≤ x8_1
     · rw [if_pos c3] at H
       have c3b0 : decide (0 ≤ x8_1) = true := decide_eq_true c3
       clear c3
       by_cases c4 : x8_1 < (l0.length : Int)
       · rw [if_pos c4] at H
         have c4b0 : decide (x8_1 < (l0.length : Int)) = true := decide_eq_true c4
         clear c4
         replace H := Option.bind_eq_some_iff.mp H
         obtain ⟨t123, A50, H⟩ := H
         replace H : (if t123 = 0 then (num_checked.l0 k1 l0 (l0.length : Int) (wrap64 (x8_1 + 1))) else (some t123)) = some r := H
         have A5 := Aside0.mk A50
         clear A50
         by_cases c6 : t123 = 0
         · rw [if_pos c6] at H
           have c6b0 : (t123 == 0) = true := beq_iff_eq.mpr c6
           have c6b1 : (t123 != 0) = false := bne_eq_false_iff_eq.mpr c6
           clear c6
           have H' := Aside0.mk H
           clear H
           have p121 : 0 ≤ (x8_1 : Int) := of_decide_eq_true (by first | (with_reducible assumption) | assumption)
           have q121 : x8_1 < (l0.length : Int) := of_decide_eq_true (by first | (with_reducible assumption) | assumption)
           obtain ⟨ad121, e121, hx121_0, hx121_1⟩ := at_T23 HR0.out x8_1 p121 q121
           cases e121
           replace hx121_0 := (HB.out.cell (World.block_lt_of_cell? w _ hx121_0)).trans hx121_0
           replace hx121_1 := (HB.out.cell (World.block_lt_of_cell? w _ hx121_1)).trans hx121_1
           replace p121 := eq_true p121
           replace q121 := eq_true q121
           go_wp2_with (first | ((with_reducible refine gate_dst (N := 4) rfl ?_); refine box_event ?hg (N := 4) ?hd (cs := #[.int .i64 0, .int .i64 0]) (t := 23) ?hr ?_; (case hd => rfl); (case hg => rfl); (case hr => first | (go_simp; done) | (go_simp; rfl)); intro gb122 hg w7 hbox hb; have BK122 := Aside0.mk hbox; have GW122 := bwg_ HB hg; have GE122 := bwg_ HB hg; replace HB := bws_ HB hb; clear hb hbox hg; obtain ⟨hcz8_0, hcz8_1, hfz8_0, hfz8_1⟩ := bc2_ BK122) | ((with_reducible refine gate_callee (f := 46) rfl ?_); refine gla_ (some 13) Try.func46 #[.agg #[.int .i64 ((rd_T23 l0 x8_1).f0), .int .i64 ((rd_T23 l0 x8_1).f1)]] ?_; (with_reducible refine (num_Check.calls k1 ((rd_T23 l0 x8_1).f0) ((rd_T23 l0 x8_1).f1) t123 _ A5.out).mono ?_); rintro e w9 ⟨rfl, hb⟩; refine ⟨_, rfl, ?_⟩; replace BK122 := Aside0.mk (blk_below (g := gb122) (o := .cells #[.int .i64 ((rd_T23 l0 x8_1).f0), .int .i64 ((rd_T23 l0 x8_1).f1)] 23 (0, 0)) (by refine bp_ (cs := #[.int .i64 ((rd_T23 l0 x8_1).f0), .int .i64 0]) ?_ 1; refine bp_ (cs := #[.int .i64 0, .int .i64 0]) ?_ 0; exact bk_ BK122) hb); replace HB := bws_ HB hb; (try clear hb); (try clear hb2); (try clear hk); (try clear hi)))
           go_roundg k1
           case measure => have := HK1.out; omega
           case rel => exact ⟨(wrap64 (x8_1 + 1)), (by first | rfl | (simp; done) | (simp [*]; done)), H', ⟨by have := HK1.out; omega⟩, ⟨bw_ HB⟩⟩
         · rw [if_neg c6] at H
           have c6b0 : (t123 == 0) = false := beq_eq_false_iff_ne.mpr c6
           have c6b1 : (t123 != 0) = true := bne_iff_ne.mpr c6
           obtain rfl := Option.some.inj H
           have p121 : 0 ≤ (x8_1 : Int) := of_decide_eq_true (by first | (with_reducible assumption) | assumption)
           have q121 : x8_1 < (l0.length : Int) := of_decide_eq_true (by first | (with_reducible assumption) | assumption)
           obtain ⟨ad121, e121, hx121_0, hx121_1⟩ := at_T23 HR0.out x8_1 p121 q121
           cases e121
           replace hx121_0 := (HB.out.cell (World.block_lt_of_cell? w _ hx121_0)).trans hx121_0
           replace hx121_1 := (HB.out.cell (World.block_lt_of_cell? w _ hx121_1)).trans hx121_1
           replace p121 := eq_true p121
           replace q121 := eq_true q121
           go_wp2_with (first | ((with_reducible refine gate_dst (N := 4) rfl ?_); refine box_event ?hg (N := 4) ?hd (cs := #[.int .i64 0, .int .i64 0]) (t := 23) ?hr ?_; (case hd => rfl); (case hg => rfl); (case hr => first | (go_simp; done) | (go_simp; rfl)); intro gb122 hg w10 hbox hb; have BK122 := Aside0.mk hbox; have GW122 := bwg_ HB hg; have GE122 := bwg_ HB hg; replace HB := bws_ HB hb; clear hb hbox hg; obtain ⟨hcz11_0, hcz11_1, hfz11_0, hfz11_1⟩ := bc2_ BK122) | ((with_reducible refine gate_callee (f := 46) rfl ?_); refine gla_ (some 13) Try.func46 #[.agg #[.int .i64 ((rd_T23 l0 x8_1).f0), .int .i64 ((rd_T23 l0 x8_1).f1)]] ?_; (with_reducible refine (num_Check.calls k1 ((rd_T23 l0 x8_1).f0) ((rd_T23 l0 x8_1).f1) t123 _ A5.out).mono ?_); rintro e w12 ⟨rfl, hb⟩; refine ⟨_, rfl, ?_⟩; replace BK122 := Aside0.mk (blk_below (g := gb122) (o := .cells #[.int .i64 ((rd_T23 l0 x8_1).f0), .int .i64 ((rd_T23 l0 x8_1).f1)] 23 (0, 0)) (by refine bp_ (cs := #[.int .i64 ((rd_T23 l0 x8_1).f0), .int .i64 0]) ?_ 1; refine bp_ (cs := #[.int .i64 0, .int .i64 0]) ?_ 0; exact bk_ BK122) hb); replace HB := bws_ HB hb; (try clear hb); (try clear hb2); (try clear hk); (try clear hi)))
           go_ret
           exact ⟨by first | rfl | (simp [*] <;> rfl), bw_ HB⟩
       · rw [if_neg c4] at H
         exact absurd H (by simp)
     · rw [if_neg c3] at H
       exact absurd H (by simp)
   · rw [if_neg c2] at H
     have c2b0 : decide (x8_1 < (l0.length : Int)) = false := decide_eq_false c2
     clear c2
     obtain rfl := Option.some.inj H
     go_wp2
     go_ret
     exact ⟨by first | rfl | (simp [*] <;> rfl), bw_ HB⟩
/-! ### num_of: function 69 -/
def num_of.f (a0_0 : Int) (a0_1 : Int) : Option (Int × Int) := some (a0_0, a0_1)
set_option maxHeartbeats 8000000 in
set_option maxRecDepth 100000 in
theorem num_of.calls (a0_0 : Int) (a0_1 : Int) (r1 : Int) (r2 : Int) (w : World) (h : num_of.f a0_0 a0_1 = some (r1, r2)) :
    Calls Try.prog 69 #[.agg #[.int .i64 a0_0, .int .i64 a0_1]] w fun e w' => e = .returned (.agg #[.int .i64 r1, .int .i64 r2]) ∧ Below w.heap.size w w' := by
  have hu23 := Try.underlying23
  have hu65 := Try.underlying65
  have HB := Aside0.mk (Below.refl w.heap.size w)
  have H : (some (a0_0, a0_1)) = some (r1, r2) := h
  clear h
  simp only [Option.some.injEq, Prod.mk.injEq] at H
  obtain ⟨rfl, rfl⟩ := H
  go_enter Try.func69, Try.ntmps69
  go_wp2_with (first | ((with_reducible refine gate_dst (N := 1) rfl ?_); refine box_event ?hg (N := 1) ?hd (cs := #[.int .i64 a0_0, .int .i64 a0_1]) (t := 23) ?hr ?_; (case hd => rfl); (case hg => rfl); (case hr => first | (go_simp; done) | (go_simp; rfl)); intro gb124 hg w2 hbox hb; have BK124 := Aside0.mk hbox; have GW124 := bwg_ HB hg; have GE124 := bwg_ HB hg; replace HB := bws_ HB hb; clear hb hbox hg) | ((with_reducible refine gate_dst (N := 2) rfl ?_); refine box_event ?hg (N := 2) ?hd (cs := #[.int .i64 0, .int .i64 0]) (t := 65) ?hr ?_; (case hd => rfl); (case hg => rfl); (case hr => first | (go_simp; done) | (go_simp; rfl)); intro gb125 hg w3 hbox hb; have BK125 := Aside0.mk hbox; have GW125 := bwg_ HB hg; have GE125 := bwg_ HB hg; replace HB := bws_ HB hb; have NB124_125 := bkl_ BK124 hg; have NB125_124 := bkr_ BK124 hg; replace BK124 := bkb_ BK124 hb; clear hb hbox hg; have hnb4 := NB124_125.out; have hnc4 := NB125_124.out; obtain ⟨hcz5_0, hcz5_1, hfz5_0, hfz5_1⟩ := bc2_ BK124; obtain ⟨hcz6_0, hcz6_1, hfz6_0, hfz6_1⟩ := bc2_ BK125))
  refine bodyPost_ret (results_cell_row rfl _ _ gb125 65 #[.int .i64 a0_0, .int .i64 a0_1] (0, 0) _ rfl (by refine bp_ (cs := #[.int .i64 a0_0, .int .i64 0]) ?_ 1; refine bp_ (cs := #[.int .i64 0, .int .i64 0]) ?_ 0; exact bk_ BK125) Try.underlying65 rfl (by kernel_rfl)) rfl ?_
  exact ⟨by first | rfl | (simp [*] <;> rfl), bw_ HB⟩
/-! ### num_catch: function 71, by hand -/
theorem num_beyond.assert (w : World) : (Instr.typeAssert (.iface 108 (.agg #[])) 20 108 true).run Try.prog w = .ok (.tuple #[.agg #[], .bool true]) w := by kernel_rfl
set_option maxHeartbeats 2000000 in
set_option maxRecDepth 100000 in
theorem num_catch.panicking (B b e : Nat) (N D E : Int) (older : List PanicEntry) (w : World) (hb : w.heap[b]? = some (.cells #[.int .i64 N, .int .i64 D] 23 (0, 0))) (he : w.heap[e]? = some (.cells #[.int .i64 E] 26 (0, 0))) (hne : b ≠ e) (hB : B ≤ w.heap.size) (hBb : B ≤ b) (hBe : B ≤ e) :
    CallsD Try.prog 71 #[.pointer (some ⟨b, 0, none⟩), .pointer (some ⟨e, 0, none⟩)] (.panicking ({ v := .iface 108 (.agg #[]), recovered := false } :: older)) w fun en u' w' =>
      en = .returned (.tuple #[]) ∧ u' = .panicking ({ v := .iface 108 (.agg #[]), recovered := true } :: older) ∧
      w'.heap[b]? = some (.cells #[.int .i64 0, .int .i64 0] 23 (0, 0)) ∧ w'.heap[e]? = some (.cells #[.int .i64 8] 26 (0, 0)) ∧ Below B w w' := by
  have hB' := below_alloc (Below.refl w.heap.size w) (.cells #[] 108)
  have hb' := blk_alloc hb (.cells #[] 108)
  have he' := blk_alloc he (.cells #[] 108)
  have fin : (((w.alloc (.cells #[] 108)).setCell ⟨b, 0, none⟩ (.int .i64 0)).setCell ⟨b, 1, none⟩ (.int .i64 0)).setCell ⟨e, 0, none⟩ (.int .i64 8) = (((w.alloc (.cells #[] 108)).setCell ⟨b, 0, none⟩ (.int .i64 0)).setCell ⟨b, 1, none⟩ (.int .i64 0)).setCell ⟨e, 0, none⟩ (.int .i64 8) → 
      ((((w.alloc (.cells #[] 108)).setCell ⟨b, 0, none⟩ (.int .i64 0)).setCell ⟨b, 1, none⟩ (.int .i64 0)).setCell ⟨e, 0, none⟩ (.int .i64 8)).heap[b]? = some (.cells #[.int .i64 0, .int .i64 0] 23 (0, 0)) ∧ ((((w.alloc (.cells #[] 108)).setCell ⟨b, 0, none⟩ (.int .i64 0)).setCell ⟨b, 1, none⟩ (.int .i64 0)).setCell ⟨e, 0, none⟩ (.int .i64 8)).heap[e]? = some (.cells #[.int .i64 8] 26 (0, 0)) ∧ Below B w ((((w.alloc (.cells #[] 108)).setCell ⟨b, 0, none⟩ (.int .i64 0)).setCell ⟨b, 1, none⟩ (.int .i64 0)).setCell ⟨e, 0, none⟩ (.int .i64 8)) := by
    intro _
    refine ⟨?_, ?_, ?_⟩
    · exact blk_far (blk_put (blk_put hb' 0 (.int .i64 0) rfl) 1 (.int .i64 0) rfl) hne _
    · exact blk_put (blk_far (blk_far he' (Ne.symm hne) _) (Ne.symm hne) _) 0 (.int .i64 8) rfl
    · exact (((hB'.mono hB).setCell hBb _).setCell hBb _).setCell hBe _
  have hb0 : (w.alloc (.cells #[] 108)).cell? ⟨b, 0, none⟩ = some (.int .i64 N) := (blk_cell hb' 0).trans rfl
  have hb1 : (w.alloc (.cells #[] 108)).cell? ⟨b, 1, none⟩ = some (.int .i64 D) := (blk_cell hb' 1).trans rfl
  have he0 : (w.alloc (.cells #[] 108)).cell? ⟨e, 0, none⟩ = some (.int .i64 E) := (blk_cell he' 0).trans rfl
  have fb0 : (w.alloc (.cells #[] 108)).frozen? ⟨b, 0, none⟩ = false := blk_frozen hb' 0
  have fb1 : (w.alloc (.cells #[] 108)).frozen? ⟨b, 1, none⟩ = false := blk_frozen hb' 1
  have fe0 : (w.alloc (.cells #[] 108)).frozen? ⟨e, 0, none⟩ = false := blk_frozen he' 0
  have FIN := Aside0.mk (fin rfl)
  clear fin hb he hb' he' hB'
  refine callsD_of_wpS Try.func71 rfl fun c₀ cs hu => ?_
  apply wpS_seq
  apply wpS_region
  simp [wpOpsS, go_sem, recoverD, hu, Try.ntmps71, Exit.thenS]
  simp only [List.size_toArray, List.length_cons, List.length_nil, Nat.reduceAdd, Nat.reduceSub, Array.replicate_succ, Array.replicate_zero, List.push_toArray, List.append_toArray, List.nil_append, List.cons_append, List.setIfInBounds_toArray, List.set_cons_zero, List.set_cons_succ]
  refine wpS_of_wp ?_
  have hta := num_beyond.assert
  go_wp2
  simp only [bodyPostS, results, Try.results71]
  generalize (((w.alloc (.cells #[] 108)).setCell ⟨b, 0, none⟩ (.int .i64 0)).setCell ⟨b, 1, none⟩ (.int .i64 0)).setCell ⟨e, 0, none⟩ (.int .i64 8) = W at FIN ⊢
  exact ⟨trivial, _, rfl, .tuple #[], by simp [go_sem], rfl, rfl, FIN.out⟩
set_option maxHeartbeats 2000000 in
set_option maxRecDepth 100000 in
theorem num_catch.idle (b e : Nat) (w : World) :
    CallsD Try.prog 71 #[.pointer (some ⟨b, 0, none⟩), .pointer (some ⟨e, 0, none⟩)] .returning w fun en u' w' => en = .returned (.tuple #[]) ∧ u' = .returning ∧ w' = w := by
  refine callsD_of_wpS Try.func71 rfl fun c₀ cs hu => ?_
  apply wpS_seq
  apply wpS_region
  simp [wpOpsS, go_sem, recoverD, hu, Try.ntmps71, Exit.thenS]
  simp only [List.size_toArray, List.length_cons, List.length_nil, Nat.reduceAdd, Nat.reduceSub, Array.replicate_succ, Array.replicate_zero, List.push_toArray, List.append_toArray, List.nil_append, List.cons_append, List.setIfInBounds_toArray, List.set_cons_zero, List.set_cons_succ]
  refine wpS_of_wp ?_
  go_wp2
  simp [bodyPostS, results, Try.results71, go_sem, hu]
  cases c₀
  simp_all
theorem num_results {fn : Func} {p q : Tmp} (h : fn.results = #[.cell p 23, .cell q 26]) (tmps : Array Value) (w : World) (b e : Nat) (N D E : Int)
    (hp : tmps.getD p undef = .pointer (some ⟨b, 0, none⟩)) (hq : tmps.getD q undef = .pointer (some ⟨e, 0, none⟩))
    (hb : w.heap[b]? = some (.cells #[.int .i64 N, .int .i64 D] 23 (0, 0))) (he : w.heap[e]? = some (.cells #[.int .i64 E] 26 (0, 0))) :
    (results fn tmps).run Try.prog w = .ok (.tuple #[.agg #[.int .i64 N, .int .i64 D], .int .i64 E]) w := by
  have h1 : tmps[p]?.getD undef = .pointer (some ⟨b, 0, none⟩) := by simpa using hp
  have h2 : tmps[q]?.getD undef = .pointer (some ⟨e, 0, none⟩) := by simpa using hq
  have he0 := (blk_cell he 0).trans rfl
  have r1 := run_loadVar_row w b 23 23 #[.int .i64 N, .int .i64 D] (0, 0) _ hb Try.underlying23 rfl (by kernel_rfl)
  have hu := Try.underlying26
  simp [results, h, h1, h2, asAddr, r1]
  simp [go_sem, he0, hu]
abbrev num_door (b e : Nat) : List Deferred := [{ target := .fn (.func 71) #[], args := #[.pointer (some ⟨b, 0, none⟩), .pointer (some ⟨e, 0, none⟩)] }]
abbrev num_post (w0 : World) (N D E : Int) : Ending → World → Prop := fun e w' => e = .returned (.tuple #[.agg #[.int .i64 N, .int .i64 D], .int .i64 E]) ∧ Below w0.heap.size w0 w'
theorem num_catch.door_ret {fn : Func} {p q : Tmp} (h : fn.results = #[.cell p 23, .cell q 26]) (tmps : Array Value) (w0 w : World) (b e : Nat) (N D E : Int)
    (hp : tmps.getD p undef = .pointer (some ⟨b, 0, none⟩)) (hq : tmps.getD q undef = .pointer (some ⟨e, 0, none⟩))
    (hb : w.heap[b]? = some (.cells #[.int .i64 N, .int .i64 D] 23 (0, 0))) (he : w.heap[e]? = some (.cells #[.int .i64 E] 26 (0, 0))) (HB : Below w0.heap.size w0 w) :
    Leaves Try.prog fn tmps (num_post w0 N D E) [] .returning w :=
  ⟨_, num_results h tmps w b e N D E hp hq hb he, rfl, HB⟩
theorem num_catch.invoke (b e : Nat) (w : World) : (invoke (.fn (.func 71) #[]) #[.pointer (some ⟨b, 0, none⟩), .pointer (some ⟨e, 0, none⟩)]).run Try.prog w = .ok (.enter 71 #[.pointer (some ⟨b, 0, none⟩), .pointer (some ⟨e, 0, none⟩)]) w := by
  simp [go_sem]
theorem num_catch.door_ok {fn : Func} {p q : Tmp} (h : fn.results = #[.cell p 23, .cell q 26]) (tmps : Array Value) (w0 w : World) (b e : Nat) (N D E : Int)
    (hp : tmps.getD p undef = .pointer (some ⟨b, 0, none⟩)) (hq : tmps.getD q undef = .pointer (some ⟨e, 0, none⟩))
    (hb : w.heap[b]? = some (.cells #[.int .i64 N, .int .i64 D] 23 (0, 0))) (he : w.heap[e]? = some (.cells #[.int .i64 E] 26 (0, 0))) (HB : Below w0.heap.size w0 w) :
    Leaves Try.prog fn tmps (num_post w0 N D E) (num_door b e) .returning w := by
  refine leaves_cons (f := 71) (args := #[.pointer (some ⟨b, 0, none⟩), .pointer (some ⟨e, 0, none⟩)]) (by simp) (num_catch.invoke b e w) ?_
  refine (num_catch.idle b e w).mono ?_
  rintro en u' w'' ⟨rfl, rfl, rfl⟩
  exact num_catch.door_ret h tmps w0 w'' b e N D E hp hq hb he HB
theorem num_catch.door_caught {fn : Func} {p q : Tmp} (h : fn.results = #[.cell p 23, .cell q 26]) (tmps : Array Value) (w0 w : World) (b e : Nat) (N D E : Int)
    (hp : tmps.getD p undef = .pointer (some ⟨b, 0, none⟩)) (hq : tmps.getD q undef = .pointer (some ⟨e, 0, none⟩))
    (hb : w.heap[b]? = some (.cells #[.int .i64 N, .int .i64 D] 23 (0, 0))) (he : w.heap[e]? = some (.cells #[.int .i64 E] 26 (0, 0))) (hne : b ≠ e) (HB : Below w0.heap.size w0 w) (hBb : w0.heap.size ≤ b) (hBe : w0.heap.size ≤ e) :
    Leaves Try.prog fn tmps (num_post w0 0 0 8) (num_door b e) (.panicking [{ v := .iface 108 (.agg #[]), recovered := false }]) w := by
  refine leaves_cons (f := 71) (args := #[.pointer (some ⟨b, 0, none⟩), .pointer (some ⟨e, 0, none⟩)]) (by simp) (num_catch.invoke b e w) ?_
  refine (num_catch.panicking w0.heap.size b e N D E [] w hb he hne HB.size hBb hBe).mono ?_
  rintro en u' w'' ⟨rfl, rfl, hb', he', hB'⟩
  exact num_catch.door_ret h tmps w0 w'' b e 0 0 8 hp hq hb' he' (HB.trans hB')
/-- a temporary that is no result's place -/
theorem num_put {P : Program} {fn : Func} {p q : Tmp} {ty ty' : TypeId} (hres : fn.results = #[.cell p ty, .cell q ty']) {a : Act} {N : Tmp} {v : Value} (hp : N ≠ p) (hq : N ≠ q) {R : Ending → World → Prop} {u : FrameMode} {w : World}
    (h : Leaves P fn (a.put (some N) v).tmps R (a.put (some N) v).defers u w) : Leaves P fn a.tmps R a.defers u w := by
  have e : results fn (a.put (some N) v).tmps = results fn a.tmps := by
    simp [results, hres, Act.put, Array.getElem?_setIfInBounds_ne hp, Array.getElem?_setIfInBounds_ne hq]
  have d : (a.put (some N) v).defers = a.defers := rfl
  rw [d] at h
  revert h
  generalize a.defers = ds
  induction ds generalizing u w with
  | nil =>
    cases u with
    | run => exact id
    | returning => rintro ⟨v, hr, h⟩; exact ⟨v, by rw [← e]; exact hr, h⟩
    | panicking c => exact id
  | cons d ds ih =>
    rintro ⟨hu, fv, cap, f, args, ht, hi, hc⟩
    refine ⟨hu, fv, cap, f, args, ht, hi, ?_⟩
    intro c₀ cs hm
    obtain ⟨e', u', w', fr, hR, rest⟩ := hc c₀ cs hm
    refine ⟨e', u', w', fr, ?_, rest⟩
    cases e' with
    | returned v => exact ih hR
    | panicked ch => exact ih hR
    | outgrown => exact hR
/-! ### num_ratio_num: function 73 -/
def num_ratio_num.j0 : Nat → Int → Int → Option (Except Int (Int × Int))
  | 0, _, _ => none
  | k + 1, x127000, x127001 => (num_divisor.f k x127000 x127001).bind fun t128 => (if t128 = 0 then (none) else (if (wrap64 (Int.tdiv x127001 t128)) > 1000000000 then (some (Except.error (0 : Int))) else ((num_within.f (-1000000000) 1000000000 (([wrap64 (Int.tdiv x127000 t128)] : List Int))).bind fun t132 => (if t132 = true then (some (Except.ok (ε := Int) (wrap64 (Int.tdiv x127000 t128), wrap64 (Int.tdiv x127001 t128)))) else (some (Except.error (0 : Int)))))))
def num_ratio_num.f (k : Nat) (a0_0 : Int) (a0_1 : Int) : Option (Except Int (Int × Int)) := if a0_1 < 0 then (num_ratio_num.j0 k (wrap64 (-a0_0)) (wrap64 (-a0_1))) else (num_ratio_num.j0 k a0_0 a0_1)
theorem num_ratio_num.mono_l : ∀ k, (∀ y0 y1, LeO (num_ratio_num.j0 k y0 y1) (num_ratio_num.j0 (k + 1) y0 y1))
  | 0 => fun _ _ r h => by simp [num_ratio_num.j0] at h
  | k + 1 => by
    have ih0 := num_ratio_num.mono_l k
    · intro y0 y1
      unfold num_ratio_num.j0
      repeat' first
      | (with_reducible exact ih0 _ _)
      | (with_reducible exact num_divisor.mono _ _ _)
      | (with_reducible exact LeO.refl _)
      | (with_reducible exact LeO.none _)
      | (with_reducible refine LeO.ite ?_ ?_)
      | (with_reducible refine LeO.bind ?_ (fun _ => ?_))
      | (with_reducible refine LeO.exc (fun _ => ?_) (fun _ => ?_))
      | exact ih0 _ _
      | exact num_divisor.mono _ _ _
      | exact LeO.none _
      | refine LeO.ite ?_ ?_
      | refine LeO.bind ?_ (fun _ => ?_)
theorem num_ratio_num.mono : ∀ a0 a1 k, LeO (num_ratio_num.f k a0 a1) (num_ratio_num.f (k + 1) a0 a1) := by
  intro a0 a1 k
  have ih0 := num_ratio_num.mono_l k
  unfold num_ratio_num.f
  repeat' first
      | (with_reducible exact ih0 _ _)
      | (with_reducible exact num_divisor.mono _ _ _)
      | (with_reducible exact LeO.refl _)
      | (with_reducible exact LeO.none _)
      | (with_reducible refine LeO.ite ?_ ?_)
      | (with_reducible refine LeO.bind ?_ (fun _ => ?_))
      | (with_reducible refine LeO.exc (fun _ => ?_) (fun _ => ?_))
      | exact ih0 _ _
      | exact num_divisor.mono _ _ _
      | exact LeO.none _
      | refine LeO.ite ?_ ?_
      | refine LeO.bind ?_ (fun _ => ?_)
def num_ratio_num.T4 : Bool × List (List Nat × List Nat) := (true, [([], []), ([0], [0]), ([], []), ([1, 2], [1, 2]), ([], []), ([4], [4]), ([], []), ([5, 6], [5, 6]), ([0, 1, 2, 3, 4, 5], []), ([8, 3, 0, 1, 2, 3, 4, 5], [3, 8]), ([0, 1, 2, 3, 4, 5, 6, 7, 8, 9], []), ([10, 7, 9, 0, 1, 2, 3, 4, 5, 6, 7, 8, 9], [7, 10])])
def num_ratio_num.B4 : List Nat := [0, 1, 0, 7, 0, 16, 0, 112, 63, 319, 1023, 2047]
theorem num_ratio_num.tab4 : rtab .any (opsOf Try.f73 4) = num_ratio_num.T4 := by kernel_rfl
theorem num_ratio_num.bits4 : waitsOk num_ratio_num.T4.2 num_ratio_num.B4 = true := by kernel_rfl
set_option maxHeartbeats 8000000 in
set_option maxRecDepth 100000 in
theorem num_ratio_num.calls (k : Nat) (a0_0 : Int) (a0_1 : Int) (r1 : Int) (r2 : Int) (w : World) (h : num_ratio_num.f k a0_0 a0_1 = some (Except.ok (r1, r2) : Except Int (Int × Int))) :
    Calls Try.prog 73 #[.agg #[.int .i64 a0_0, .int .i64 a0_1]] w fun e w' => e = .returned (.agg #[.int .i64 r1, .int .i64 r2]) ∧ Below w.heap.size w w' := by
 have hu65 := Try.underlying65
 have hu23 := Try.underlying23
 have HB := Aside0.mk (Below.refl w.heap.size w)
 have H : (if a0_1 < 0 then (num_ratio_num.j0 k (wrap64 (-a0_0)) (wrap64 (-a0_1))) else (num_ratio_num.j0 k a0_0 a0_1)) = some (Except.ok (r1, r2) : Except Int (Int × Int)) := h
 clear h
 have HC2 := Aside0.mk H
 clear H
 go_enter Try.func73, Try.ntmps73
 go_upto_block 2 with (first | ((with_reducible refine gate_dst (N := 1) rfl ?_); (try (refine gate_guard (by rfl) ?_; dsimp only)); refine box_event ?hg (N := 1) ?hd (cs := #[.int .i64 a0_0, .int .i64 a0_1]) (t := 65) ?hr ?_; (case hd => rfl); (case hg => rfl); (case hr => first | (go_simp; done) | (go_simp; rfl)); intro gb126 hg w3 hbox hb; have BK126 := Aside0.mk hbox; have GW126 := bwg_ HB hg; have GE126 := bwg_ HB hg; replace HB := bws_ HB hb; clear hb hbox hg) | ((with_reducible refine gate_dst (N := 2) rfl ?_); (try (refine gate_guard (by rfl) ?_; dsimp only)); refine box_event ?hg (N := 2) ?hd (cs := #[.int .i64 0, .int .i64 0]) (t := 23) ?hr ?_; (case hd => rfl); (case hg => rfl); (case hr => first | (go_simp; done) | (go_simp; rfl)); intro gb127 hg w4 hbox hb; have BK127 := Aside0.mk hbox; have GW127 := bwg_ HB hg; have GE127 := bwg_ HB hg; replace HB := bws_ HB hb; have NB126_127 := bkl_ BK126 hg; have NB127_126 := bkr_ BK126 hg; replace BK126 := bkb_ BK126 hb; clear hb hbox hg))
 (try simp only [Act.put, List.setIfInBounds_toArray, List.set_cons_zero, List.set_cons_succ])
 go_cut [] (fun wc => ∃ (kq : Nat) (x127000_1 : Int) (x127001_1 : Int), Aside0 (num_ratio_num.j0 kq x127000_1 x127001_1 = some (Except.ok (r1, r2) : Except Int (Int × Int))) ∧ Aside0 (kq ≤ k) ∧ Aside0 (wc.heap[gb126]? = some (.cells #[.int .i64 x127000_1, .int .i64 x127001_1] 65 (0, 0))) ∧ Aside0 (wc.heap[gb127]? = some (.cells #[.int .i64 0, .int .i64 0] 23 (0, 0))) ∧ Aside0 (Below w.heap.size w wc))
 case first =>
  have H := HC2.out
  clear HC2
  by_cases c5 : a0_1 < 0
  · rw [if_pos c5] at H
    have c5b0 : decide (a0_1 < 0) = true := decide_eq_true c5
    clear c5
    (first | rw [c5b0] | (simp only [i64_w, i32_w]; rw [c5b0]) | skip)
    have H' := Aside0.mk H
    clear H
    have hnb6 := NB126_127.out
    have hnc6 := NB127_126.out
    obtain ⟨hcz7_0, hcz7_1, hfz7_0, hfz7_1⟩ := bc2_ BK126
    go_wp2
    go_meet
    case rel => exact ⟨_, (wrap64 (-a0_0)), (wrap64 (-a0_1)), H', ⟨by first | omega | exact Nat.le_refl _⟩, ⟨by refine bp_ (cs := #[.int .i64 (wrap64 (-a0_0)), .int .i64 a0_1]) ?_ 1; refine bp_ (cs := #[.int .i64 a0_0, .int .i64 a0_1]) ?_ 0; exact bk_ BK126⟩, ⟨by refine bf_ ?_ NB127_126; refine bf_ ?_ NB127_126; exact bk_ BK127⟩, ⟨bw_ HB⟩⟩
  · rw [if_neg c5] at H
    have c5b0 : decide (a0_1 < 0) = false := decide_eq_false c5
    clear c5
    (first | rw [c5b0] | (simp only [i64_w, i32_w]; rw [c5b0]) | skip)
    have H' := Aside0.mk H
    clear H
    have hnb8 := NB126_127.out
    have hnc8 := NB127_126.out
    obtain ⟨hcz9_0, hcz9_1, hfz9_0, hfz9_1⟩ := bc2_ BK126
    go_wp2
    go_meet
    case rel => exact ⟨_, (a0_0), (a0_1), H', ⟨by first | omega | exact Nat.le_refl _⟩, ⟨by exact bk_ BK126⟩, ⟨by exact bk_ BK127⟩, ⟨bw_ HB⟩⟩
 case rest =>
  clear HC2
  try clear p2
  try clear c5
  try clear c5b0
  try clear c6
  try clear p6
  try clear c7
  try clear c8
  try clear hcz7_0
  try clear hcz7_1
  try clear hcz9_0
  try clear hcz9_1
  try clear hfz7_0
  try clear hfz7_1
  try clear hfz9_0
  try clear hfz9_1
  obtain ⟨kq, x127000_1, x127001_1, HA, HJ1, BK126, BK127, HB⟩ := hcut
  cases kq with
  | zero => exact absurd HA.out (by simp [num_ratio_num.j0])
  | succ kj1 =>
   have H := HA.out
   clear HA
   simp only [num_ratio_num.j0] at H
   replace H := Option.bind_eq_some_iff.mp H
   obtain ⟨t128, A100, H⟩ := H
   replace H : (if t128 = 0 then (none) else (if (wrap64 (Int.tdiv x127001_1 t128)) > 1000000000 then (some (Except.error (0 : Int))) else ((num_within.f (-1000000000) 1000000000 (([wrap64 (Int.tdiv x127000_1 t128)] : List Int))).bind fun t132 => (if t132 = true then (some (Except.ok (ε := Int) (wrap64 (Int.tdiv x127000_1 t128), wrap64 (Int.tdiv x127001_1 t128)))) else (some (Except.error (0 : Int))))))) = some (Except.ok (r1, r2) : Except Int (Int × Int)) := H
   have A10 := Aside0.mk A100
   clear A100
   by_cases c11 : t128 = 0
   · rw [if_pos c11] at H
     exact absurd H (by simp)
   · rw [if_neg c11] at H
     have c11b0 : (t128 == 0) = false := beq_eq_false_iff_ne.mpr c11
     have c11b1 : (t128 != 0) = true := bne_iff_ne.mpr c11
     by_cases c12 : (wrap64 (Int.tdiv x127001_1 t128)) > 1000000000
     · rw [if_pos c12] at H
       have c12b0 : decide (1000000000 < (wrap64 (Int.tdiv x127001_1 t128))) = true := decide_eq_true c12
       clear c12
       exact absurd H (by simp)
     · rw [if_neg c12] at H
       have c12b0 : decide (1000000000 < (wrap64 (Int.tdiv x127001_1 t128))) = false := decide_eq_false c12
       clear c12
       obtain ⟨y129, hy129⟩ : ∃ y_ : List Int, y_ = (([wrap64 (Int.tdiv x127000_1 t128)] : List Int)) := ⟨_, rfl⟩
       replace H : ((num_within.f (-1000000000) 1000000000 y129).bind fun t132 => (if t132 = true then (some (Except.ok (ε := Int) (wrap64 (Int.tdiv x127000_1 t128), wrap64 (Int.tdiv x127001_1 t128)))) else (some (Except.error (0 : Int))))) = some (Except.ok (r1, r2) : Except Int (Int × Int)) := by first | (rw [hy129]; with_reducible exact H) | (have H2_ := (Option.bind_some _ _).symm.trans H; rw [hy129]; with_reducible exact H2_) | (have H2_ := (Option.bind_some _ _).symm.trans H; with_reducible exact H2_) | with_reducible exact H | (rw [hy129]; exact H) | exact H
       have Ny129 := Aside0.mk hy129
       clear hy129
       replace H := Option.bind_eq_some_iff.mp H
       obtain ⟨t132, A130, H⟩ := H
       replace H : (if t132 = true then (some (Except.ok (ε := Int) (wrap64 (Int.tdiv x127000_1 t128), wrap64 (Int.tdiv x127001_1 t128)))) else (some (Except.error (0 : Int)))) = some (Except.ok (r1, r2) : Except Int (Int × Int)) := H
       have A13 := Aside0.mk A130
       clear A130
       by_cases c14 : t132 = true
       · subst c14
         have H1 : (some (Except.ok (ε := Int) (wrap64 (Int.tdiv x127000_1 t128), wrap64 (Int.tdiv x127001_1 t128)))) = some (Except.ok (r1, r2) : Except Int (Int × Int)) := by rw [if_pos rfl] at H; exact H
         clear H
         have H := H1
         clear H1
         simp only [Option.some.injEq, Except.ok.injEq, Prod.mk.injEq] at H
         obtain ⟨rfl, rfl⟩ := H
         have hnb15 := NB126_127.out
         have hnc15 := NB127_126.out
         obtain ⟨hcz16_0, hcz16_1, hfz16_0, hfz16_1⟩ := bc2_ BK126
         try go_wp2_with (first | ((with_reducible refine gate_callee (f := 95) rfl ?_); refine gla_ (some 20) Try.func95 #[.int .i64 x127000_1, .int .i64 x127001_1] ?_; (with_reducible refine (num_divisor.calls kj1 x127000_1 x127001_1 t128 _ A10.out).mono ?_); rintro e w17 ⟨rfl, hb⟩; refine ⟨_, rfl, ?_⟩; replace BK126 := bkb_ BK126 hb; replace BK127 := bkb_ BK127 hb; replace HB := bws_ HB hb; (try clear hb); (try clear hb2); (try clear hk); (try clear hi)))
         replace BK126 := Aside0.mk (blk_drew BK126.out)
         replace BK127 := Aside0.mk (blk_drew BK127.out)
         replace HB := Aside0.mk (below_drew1 HB.out)
         refine start_ (n := 12) (S := fun w' => w'.cell? ⟨gb126, 0, none⟩ = some (.int .i64 x127000_1) ∧ w'.cell? ⟨gb126, 1, none⟩ = some (.int .i64 x127001_1)) (ds := [9, 11]) #[false, false, false, false, false, false, false, false, false, false, false, false] (by kernel_rfl) rfl rfl ⟨(blk_cell BK126.out 0).trans rfl, (blk_cell BK126.out 1).trans rfl⟩ (fun hHeld => ?_); refine with_tabW num_ratio_num.tab4 num_ratio_num.bits4 (fun HT_ HW_ => ?_)
         generalize w17.drew = w18 at BK126 BK127 HB hHeld ⊢
         refine pure_ (i := 0) (N := some 21) (v := ?_) (a' := ?_) #[true, false, false, false, false, false, false, false, false, false, false, false] rfl rfl (any_of HT_.out (by kernel_rfl)) (fun _ _ _ h => h) (Or.inl ⟨by rfl, ?_⟩) ?_ ?_
         rotate_left
         · intro w'
           go_simp
           with_reducible rfl
         rotate_left
         · simp only [Act.put, List.setIfInBounds_toArray, List.set_cons_zero, List.set_cons_succ, i64_w, i32_w]
           rfl
         refine pure_ (i := 2) (N := some 23) (v := ?_) (a' := ?_) #[true, false, true, false, false, false, false, false, false, false, false, false] rfl rfl (any_of HT_.out (by kernel_rfl)) (fun _ _ _ h => h) (Or.inl ⟨by rfl, ?_⟩) ?_ ?_
         rotate_left
         · intro w'
           go_simp
           with_reducible rfl
         rotate_left
         · simp only [Act.put, List.setIfInBounds_toArray, List.set_cons_zero, List.set_cons_succ, i64_w, i32_w]
           rfl
         refine pure_ (i := 4) (N := some 25) (v := ?_) (a' := ?_) #[true, false, true, false, true, false, false, false, false, false, false, false] rfl rfl (any_of HT_.out (by kernel_rfl)) (fun _ _ _ h => h) (Or.inl ⟨by rfl, ?_⟩) ?_ ?_
         rotate_left
         · intro w'
           go_simp
           with_reducible rfl
         rotate_left
         · simp only [Act.put, List.setIfInBounds_toArray, List.set_cons_zero, List.set_cons_succ, i64_w, i32_w]
           rfl
         refine pure_ (i := 6) (N := some 27) (v := ?_) (a' := ?_) #[true, false, true, false, true, false, true, false, false, false, false, false] rfl rfl (any_of HT_.out (by kernel_rfl)) (fun _ _ _ h => h) (Or.inl ⟨by rfl, ?_⟩) ?_ ?_
         rotate_left
         · intro w'
           go_simp
           with_reducible rfl
         rotate_left
         · simp only [Act.put, List.setIfInBounds_toArray, List.set_cons_zero, List.set_cons_succ, i64_w, i32_w]
           rfl
         refine take_ (i := 1) (N := some 22) (v := ?_) (a' := ?_) #[true, true, true, false, true, false, true, false, false, false, false, false] rfl rfl (take_ofW HT_.out HW_.out (by kernel_rfl)) (fun _ _ _ h => h) (Or.inl ⟨by rfl, ?_⟩) hHeld ?_ ?_
         rotate_left
         · rintro w' ⟨s0, s1⟩
           go_simp
           with_reducible rfl
         rotate_left
         · simp only [Act.put, List.setIfInBounds_toArray, List.set_cons_zero, List.set_cons_succ, i64_w, i32_w]
           rfl
         refine pure_ (i := 3) (N := some 24) (v := ?_) (a' := ?_) #[true, true, true, true, true, false, true, false, false, false, false, false] rfl rfl (any_of HT_.out (by kernel_rfl)) (fun _ _ _ h => h) (Or.inl ⟨by rfl, ?_⟩) ?_ ?_
         rotate_left
         · intro w'
           go_simp
           with_reducible rfl
         rotate_left
         · simp only [Act.put, List.setIfInBounds_toArray, List.set_cons_zero, List.set_cons_succ, i64_w, i32_w]
           rfl
         refine take_ (i := 5) (N := some 26) (v := ?_) (a' := ?_) #[true, true, true, true, true, true, true, false, false, false, false, false] rfl rfl (take_ofW HT_.out HW_.out (by kernel_rfl)) (fun _ _ _ h => h) (Or.inl ⟨by rfl, ?_⟩) hHeld ?_ ?_
         rotate_left
         · rintro w' ⟨s0, s1⟩
           go_simp
           with_reducible rfl
         rotate_left
         · simp only [Act.put, List.setIfInBounds_toArray, List.set_cons_zero, List.set_cons_succ, i64_w, i32_w]
           rfl
         refine pure_ (i := 7) (N := some 28) (v := ?_) (a' := ?_) #[true, true, true, true, true, true, true, true, false, false, false, false] rfl rfl (any_of HT_.out (by kernel_rfl)) (fun _ _ _ h => h) (Or.inl ⟨by rfl, ?_⟩) ?_ ?_
         rotate_left
         · intro w'
           go_simp
           with_reducible rfl
         rotate_left
         · simp only [Act.put, List.setIfInBounds_toArray, List.set_cons_zero, List.set_cons_succ, i64_w, i32_w]
           rfl
         refine pure_ (i := 8) (N := some 29) (v := ?_) (a' := ?_) #[true, true, true, true, true, true, true, true, true, false, false, false] rfl rfl (any_of HT_.out (by kernel_rfl)) (fun _ _ _ h => h) (Or.inl ⟨by rfl, ?_⟩) ?_ ?_
         rotate_left
         · intro w'
           go_simp
           with_reducible rfl
         rotate_left
         · simp only [Act.put, List.setIfInBounds_toArray, List.set_cons_zero, List.set_cons_succ, i64_w, i32_w]
           rfl
         refine last_ (i := 9) (N := none) #[true, true, true, true, true, true, true, true, true, true, false, false] rfl rfl (one_of HT_.out (by kernel_rfl)) (by decide) (fun K hK => ?_)
         have hs19 : w18.cell? ⟨gb126, 0, none⟩ = some (.int .i64 x127000_1) := (blk_cell BK126.out 0).trans rfl
         have hfs19 := blk_frozen BK126.out 0
         have hns19_1 := NB127_126.out
         have hms19_1 := NB126_127.out
         refine skip_ (w1 := ?_) (by rfl) rfl ?_ ?_
         rotate_left
         · go_simp
           rfl
         refine hK.out _ _ ?_
         clear hK K
         refine pure_ (i := 10) (N := some 30) (v := ?_) (a' := ?_) #[true, true, true, true, true, true, true, true, true, true, true, false] rfl rfl (any_of HT_.out (by kernel_rfl)) (fun _ _ _ h => h) (Or.inl ⟨by rfl, ?_⟩) ?_ ?_
         rotate_left
         · intro w'
           go_simp
           with_reducible rfl
         rotate_left
         · simp only [Act.put, List.setIfInBounds_toArray, List.set_cons_zero, List.set_cons_succ, i64_w, i32_w]
           rfl
         refine last_ (i := 11) (N := none) #[true, true, true, true, true, true, true, true, true, true, true, true] rfl rfl (one_of HT_.out (by kernel_rfl)) (by decide) (fun K hK => ?_)
         have hs20 : w18.cell? ⟨gb126, 1, none⟩ = some (.int .i64 x127001_1) := (blk_cell BK126.out 1).trans rfl
         have hfs20 := blk_frozen BK126.out 1
         have hns20_1 := NB127_126.out
         have hms20_1 := NB126_127.out
         refine skip_ (w1 := ?_) (by rfl) rfl ?_ ?_
         rotate_left
         · go_simp
           rfl
         refine hK.out _ _ ?_
         clear hK K
         refine done_ (done_of HT_.out (by kernel_rfl)) ?_
         obtain ⟨hcz21_0, hcz21_1, hfz21_0, hfz21_1⟩ := bc2_ BK126
         try go_wp2_with (first | ((with_reducible refine gate_dst (N := 37) rfl ?_); (try (refine gate_guard (by rfl) ?_; dsimp only)); refine Kd.R_lit (Kd.int .i64) _ 3 ?hg (N := 37) ?hd (xs := ([wrap64 (Int.tdiv x127000_1 t128)] : List Int)) (inner := [.int .i64 (wrap64 (Int.tdiv x127000_1 t128))]) (ok := fun _ => True) (okp := fun _ => True) ?hr ?hp (fun _ hk => hk) trivial (Below.refl _ _) (Nat.le_refl _) (by simp) ?_; (case hd => rfl); (case hg => rfl); (case hr => first | (go_simp; done) | (go_simp; rfl)); (case hp => exact (Reps.one (show Kd.M (Kd.int .i64) _ _ _ (wrap64 (Int.tdiv x127000_1 t128)) [.int .i64 (wrap64 (Int.tdiv x127000_1 t128))] from rfl) (Reps.none _ _))); intro v130 w22 ho23 hb hg_ hnew_; clear hg_ hnew_; (first | rw [← Ny129.out] at ho23 | (simp only [Int.reduceToNat] at ho23; rw [← Ny129.out] at ho23)); have HO131 := Aside0.mk (Kd.R_lower ho23 (below_size (bw_ HB))); replace BK126 := Aside0.mk (blk_below (g := gb126) (o := .cells #[.int .i64 (wrap64 (Int.tdiv x127000_1 t128)), .int .i64 (wrap64 (Int.tdiv x127001_1 t128))] 65 (0, 0)) (by refine bp_ (cs := #[.int .i64 (wrap64 (Int.tdiv x127000_1 t128)), .int .i64 x127001_1]) ?_ 1; refine bp_ (cs := #[.int .i64 x127000_1, .int .i64 x127001_1]) ?_ 0; exact bk_ BK126) hb); replace BK127 := Aside0.mk (blk_below (g := gb127) (o := .cells #[.int .i64 0, .int .i64 0] 23 (0, 0)) (by refine bf_ ?_ NB127_126; refine bf_ ?_ NB127_126; exact bk_ BK127) hb); replace HB := bws_ HB hb; clear hb ho23; obtain ⟨Ao24, co24, eo24⟩ := Kd.R_slice HO131.out; subst eo24) | (go_at_call 80; (with_reducible refine (num_within.calls (-1000000000) 1000000000 _ _ y129 true _ ?side1 ?side2 A13.out).mono ?_); (case side1 => repeat (first | exact (Kd.R_reads' HO131.out).2.2 | (with_reducible refine Kd.C_alloc ?_ _) | (with_reducible refine Kd.C_drewN ?_ _) | (with_reducible refine Kd.C_drew ?_))); (case side2 => exact (Kd.R_reads' HO131.out).2.1); rintro e w25 ⟨rfl, hb⟩; replace HO131 := Aside0.mk (Kd.R_below (by (with_reducible repeat (first | apply Kd.R_alloc | apply Kd.R_drewN | apply Kd.R_drew)); exact HO131.out) hb); replace BK126 := bkb_ BK126 hb; replace BK127 := bkb_ BK127 hb; replace HB := bws_ HB hb; (try clear hb); (try clear hb2); (try clear hk); (try clear hi); obtain ⟨hcz26_0, hcz26_1, hfz26_0, hfz26_1⟩ := bc2_ BK126; obtain ⟨hcz27_0, hcz27_1, hfz27_0, hfz27_1⟩ := bc2_ BK127))
         refine bodyPost_ret (results_cell_row rfl _ _ gb127 23 #[.int .i64 (wrap64 (Int.tdiv x127000_1 t128)), .int .i64 (wrap64 (Int.tdiv x127001_1 t128))] (0, 0) _ rfl (by refine bp_ (cs := #[.int .i64 (wrap64 (Int.tdiv x127000_1 t128)), .int .i64 0]) ?_ 1; refine bp_ (cs := #[.int .i64 0, .int .i64 0]) ?_ 0; exact bk_ BK127) Try.underlying23 rfl (by kernel_rfl)) rfl ?_
         exact ⟨by first | rfl | (simp [*] <;> rfl), bw_ HB⟩
       · replace c14 := Bool.eq_false_iff.mpr c14
         subst c14
         have H1 : (some (Except.error (0 : Int))) = some (Except.ok (r1, r2) : Except Int (Int × Int)) := by rw [if_neg (show ¬ (false = true) by decide)] at H; exact H
         clear H
         have H := H1
         clear H1
         exact absurd H (by simp)
set_option maxHeartbeats 8000000 in
set_option maxRecDepth 100000 in
theorem num_ratio_num.throws (k : Nat) (a0_0 : Int) (a0_1 : Int) (p_ : Int) (w : World) (h : num_ratio_num.f k a0_0 a0_1 = some (Except.error p_ : Except Int (Int × Int))) :
    Calls Try.prog 73 #[.agg #[.int .i64 a0_0, .int .i64 a0_1]] w fun e w' => e = .panicked [{ v := .iface 108 (.agg #[]), recovered := false }] ∧ Below w.heap.size w w' := by
  have hu65 := Try.underlying65
  have hu23 := Try.underlying23
  have HB := Aside0.mk (Below.refl w.heap.size w)
  have H : (if a0_1 < 0 then (num_ratio_num.j0 k (wrap64 (-a0_0)) (wrap64 (-a0_1))) else (num_ratio_num.j0 k a0_0 a0_1)) = some (Except.error p_ : Except Int (Int × Int)) := h
  clear h
  have HC2 := Aside0.mk H
  clear H
  go_enter Try.func73, Try.ntmps73
  go_upto_block 2 with (first | ((with_reducible refine gate_dst (N := 1) rfl ?_); (try (refine gate_guard (by rfl) ?_; dsimp only)); refine box_event ?hg (N := 1) ?hd (cs := #[.int .i64 a0_0, .int .i64 a0_1]) (t := 65) ?hr ?_; (case hd => rfl); (case hg => rfl); (case hr => first | (go_simp; done) | (go_simp; rfl)); intro gb133 hg w3 hbox hb; have BK133 := Aside0.mk hbox; have GW133 := bwg_ HB hg; have GE133 := bwg_ HB hg; replace HB := bws_ HB hb; clear hb hbox hg) | ((with_reducible refine gate_dst (N := 2) rfl ?_); (try (refine gate_guard (by rfl) ?_; dsimp only)); refine box_event ?hg (N := 2) ?hd (cs := #[.int .i64 0, .int .i64 0]) (t := 23) ?hr ?_; (case hd => rfl); (case hg => rfl); (case hr => first | (go_simp; done) | (go_simp; rfl)); intro gb134 hg w4 hbox hb; have BK134 := Aside0.mk hbox; have GW134 := bwg_ HB hg; have GE134 := bwg_ HB hg; replace HB := bws_ HB hb; have NB133_134 := bkl_ BK133 hg; have NB134_133 := bkr_ BK133 hg; replace BK133 := bkb_ BK133 hb; clear hb hbox hg))
  (try simp only [Act.put, List.setIfInBounds_toArray, List.set_cons_zero, List.set_cons_succ])
  go_cut [] (fun wc => ∃ (kq : Nat) (x134000_1 : Int) (x134001_1 : Int), Aside0 (num_ratio_num.j0 kq x134000_1 x134001_1 = some (Except.error p_ : Except Int (Int × Int))) ∧ Aside0 (kq ≤ k) ∧ Aside0 (wc.heap[gb133]? = some (.cells #[.int .i64 x134000_1, .int .i64 x134001_1] 65 (0, 0))) ∧ Aside0 (wc.heap[gb134]? = some (.cells #[.int .i64 0, .int .i64 0] 23 (0, 0))) ∧ Aside0 (Below w.heap.size w wc))
  case first =>
    have H := HC2.out
    clear HC2
    by_cases c5 : a0_1 < 0
    · rw [if_pos c5] at H
      have c5b0 : decide (a0_1 < 0) = true := decide_eq_true c5
      clear c5
      (first | rw [c5b0] | (simp only [i64_w, i32_w]; rw [c5b0]) | skip)
      have H' := Aside0.mk H
      clear H
      have hnb6 := NB133_134.out
      have hnc6 := NB134_133.out
      obtain ⟨hcz7_0, hcz7_1, hfz7_0, hfz7_1⟩ := bc2_ BK133
      go_wp2
      go_meet
      case rel => exact ⟨_, (wrap64 (-a0_0)), (wrap64 (-a0_1)), H', ⟨by first | omega | exact Nat.le_refl _⟩, ⟨by refine bp_ (cs := #[.int .i64 (wrap64 (-a0_0)), .int .i64 a0_1]) ?_ 1; refine bp_ (cs := #[.int .i64 a0_0, .int .i64 a0_1]) ?_ 0; exact bk_ BK133⟩, ⟨by refine bf_ ?_ NB134_133; refine bf_ ?_ NB134_133; exact bk_ BK134⟩, ⟨bw_ HB⟩⟩
    · rw [if_neg c5] at H
      have c5b0 : decide (a0_1 < 0) = false := decide_eq_false c5
      clear c5
      (first | rw [c5b0] | (simp only [i64_w, i32_w]; rw [c5b0]) | skip)
      have H' := Aside0.mk H
      clear H
      have hnb8 := NB133_134.out
      have hnc8 := NB134_133.out
      obtain ⟨hcz9_0, hcz9_1, hfz9_0, hfz9_1⟩ := bc2_ BK133
      go_wp2
      go_meet
      case rel => exact ⟨_, (a0_0), (a0_1), H', ⟨by first | omega | exact Nat.le_refl _⟩, ⟨by exact bk_ BK133⟩, ⟨by exact bk_ BK134⟩, ⟨bw_ HB⟩⟩
  case rest =>
    clear HC2
    try clear p2
    try clear c5
    try clear c5b0
    try clear c6
    try clear p6
    try clear c7
    try clear c8
    try clear hcz7_0
    try clear hcz7_1
    try clear hcz9_0
    try clear hcz9_1
    try clear hfz7_0
    try clear hfz7_1
    try clear hfz9_0
    try clear hfz9_1
    obtain ⟨kq, x134000_1, x134001_1, HA, HJ1, BK133, BK134, HB⟩ := hcut
    cases kq with
    | zero => exact absurd HA.out (by simp [num_ratio_num.j0])
    | succ kj1 =>
      have H := HA.out
      clear HA
      simp only [num_ratio_num.j0] at H
      replace H := Option.bind_eq_some_iff.mp H
      obtain ⟨t135, A100, H⟩ := H
      replace H : (if t135 = 0 then (none) else (if (wrap64 (Int.tdiv x134001_1 t135)) > 1000000000 then (some (Except.error (0 : Int))) else ((num_within.f (-1000000000) 1000000000 (([wrap64 (Int.tdiv x134000_1 t135)] : List Int))).bind fun t139 => (if t139 = true then (some (Except.ok (ε := Int) (wrap64 (Int.tdiv x134000_1 t135), wrap64 (Int.tdiv x134001_1 t135)))) else (some (Except.error (0 : Int))))))) = some (Except.error p_ : Except Int (Int × Int)) := H
      have A10 := Aside0.mk A100
      clear A100
      by_cases c11 : t135 = 0
      · rw [if_pos c11] at H
        exact absurd H (by simp)
      · rw [if_neg c11] at H
        have c11b0 : (t135 == 0) = false := beq_eq_false_iff_ne.mpr c11
        have c11b1 : (t135 != 0) = true := bne_iff_ne.mpr c11
        by_cases c12 : (wrap64 (Int.tdiv x134001_1 t135)) > 1000000000
        · rw [if_pos c12] at H
          have c12b0 : decide (1000000000 < (wrap64 (Int.tdiv x134001_1 t135))) = true := decide_eq_true c12
          clear c12
          obtain rfl := Except.error.inj (Option.some.inj H)
          have hnb13 := NB133_134.out
          have hnc13 := NB134_133.out
          obtain ⟨hcz14_0, hcz14_1, hfz14_0, hfz14_1⟩ := bc2_ BK133
          try go_wp2_with (first | ((with_reducible refine gate_callee (f := 95) rfl ?_); refine gla_ (some 20) Try.func95 #[.int .i64 x134000_1, .int .i64 x134001_1] ?_; (with_reducible refine (num_divisor.calls kj1 x134000_1 x134001_1 t135 _ A10.out).mono ?_); rintro e w15 ⟨rfl, hb⟩; refine ⟨_, rfl, ?_⟩; replace BK133 := bkb_ BK133 hb; replace BK134 := bkb_ BK134 hb; replace HB := bws_ HB hb; (try clear hb); (try clear hb2); (try clear hk); (try clear hi)))
          replace BK133 := Aside0.mk (blk_drew BK133.out)
          replace BK134 := Aside0.mk (blk_drew BK134.out)
          replace HB := Aside0.mk (below_drew1 HB.out)
          refine start_ (n := 12) (S := fun w' => w'.cell? ⟨gb133, 0, none⟩ = some (.int .i64 x134000_1) ∧ w'.cell? ⟨gb133, 1, none⟩ = some (.int .i64 x134001_1)) (ds := [9, 11]) #[false, false, false, false, false, false, false, false, false, false, false, false] (by kernel_rfl) rfl rfl ⟨(blk_cell BK133.out 0).trans rfl, (blk_cell BK133.out 1).trans rfl⟩ (fun hHeld => ?_); refine with_tabW num_ratio_num.tab4 num_ratio_num.bits4 (fun HT_ HW_ => ?_)
          generalize w15.drew = w16 at BK133 BK134 HB hHeld ⊢
          refine pure_ (i := 0) (N := some 21) (v := ?_) (a' := ?_) #[true, false, false, false, false, false, false, false, false, false, false, false] rfl rfl (any_of HT_.out (by kernel_rfl)) (fun _ _ _ h => h) (Or.inl ⟨by rfl, ?_⟩) ?_ ?_
          rotate_left
          · intro w'
            go_simp
            with_reducible rfl
          rotate_left
          · simp only [Act.put, List.setIfInBounds_toArray, List.set_cons_zero, List.set_cons_succ, i64_w, i32_w]
            rfl
          refine pure_ (i := 2) (N := some 23) (v := ?_) (a' := ?_) #[true, false, true, false, false, false, false, false, false, false, false, false] rfl rfl (any_of HT_.out (by kernel_rfl)) (fun _ _ _ h => h) (Or.inl ⟨by rfl, ?_⟩) ?_ ?_
          rotate_left
          · intro w'
            go_simp
            with_reducible rfl
          rotate_left
          · simp only [Act.put, List.setIfInBounds_toArray, List.set_cons_zero, List.set_cons_succ, i64_w, i32_w]
            rfl
          refine pure_ (i := 4) (N := some 25) (v := ?_) (a' := ?_) #[true, false, true, false, true, false, false, false, false, false, false, false] rfl rfl (any_of HT_.out (by kernel_rfl)) (fun _ _ _ h => h) (Or.inl ⟨by rfl, ?_⟩) ?_ ?_
          rotate_left
          · intro w'
            go_simp
            with_reducible rfl
          rotate_left
          · simp only [Act.put, List.setIfInBounds_toArray, List.set_cons_zero, List.set_cons_succ, i64_w, i32_w]
            rfl
          refine pure_ (i := 6) (N := some 27) (v := ?_) (a' := ?_) #[true, false, true, false, true, false, true, false, false, false, false, false] rfl rfl (any_of HT_.out (by kernel_rfl)) (fun _ _ _ h => h) (Or.inl ⟨by rfl, ?_⟩) ?_ ?_
          rotate_left
          · intro w'
            go_simp
            with_reducible rfl
          rotate_left
          · simp only [Act.put, List.setIfInBounds_toArray, List.set_cons_zero, List.set_cons_succ, i64_w, i32_w]
            rfl
          refine take_ (i := 1) (N := some 22) (v := ?_) (a' := ?_) #[true, true, true, false, true, false, true, false, false, false, false, false] rfl rfl (take_ofW HT_.out HW_.out (by kernel_rfl)) (fun _ _ _ h => h) (Or.inl ⟨by rfl, ?_⟩) hHeld ?_ ?_
          rotate_left
          · rintro w' ⟨s0, s1⟩
            go_simp
            with_reducible rfl
          rotate_left
          · simp only [Act.put, List.setIfInBounds_toArray, List.set_cons_zero, List.set_cons_succ, i64_w, i32_w]
            rfl
          refine pure_ (i := 3) (N := some 24) (v := ?_) (a' := ?_) #[true, true, true, true, true, false, true, false, false, false, false, false] rfl rfl (any_of HT_.out (by kernel_rfl)) (fun _ _ _ h => h) (Or.inl ⟨by rfl, ?_⟩) ?_ ?_
          rotate_left
          · intro w'
            go_simp
            with_reducible rfl
          rotate_left
          · simp only [Act.put, List.setIfInBounds_toArray, List.set_cons_zero, List.set_cons_succ, i64_w, i32_w]
            rfl
          refine take_ (i := 5) (N := some 26) (v := ?_) (a' := ?_) #[true, true, true, true, true, true, true, false, false, false, false, false] rfl rfl (take_ofW HT_.out HW_.out (by kernel_rfl)) (fun _ _ _ h => h) (Or.inl ⟨by rfl, ?_⟩) hHeld ?_ ?_
          rotate_left
          · rintro w' ⟨s0, s1⟩
            go_simp
            with_reducible rfl
          rotate_left
          · simp only [Act.put, List.setIfInBounds_toArray, List.set_cons_zero, List.set_cons_succ, i64_w, i32_w]
            rfl
          refine pure_ (i := 7) (N := some 28) (v := ?_) (a' := ?_) #[true, true, true, true, true, true, true, true, false, false, false, false] rfl rfl (any_of HT_.out (by kernel_rfl)) (fun _ _ _ h => h) (Or.inl ⟨by rfl, ?_⟩) ?_ ?_
          rotate_left
          · intro w'
            go_simp
            with_reducible rfl
          rotate_left
          · simp only [Act.put, List.setIfInBounds_toArray, List.set_cons_zero, List.set_cons_succ, i64_w, i32_w]
            rfl
          refine pure_ (i := 8) (N := some 29) (v := ?_) (a' := ?_) #[true, true, true, true, true, true, true, true, true, false, false, false] rfl rfl (any_of HT_.out (by kernel_rfl)) (fun _ _ _ h => h) (Or.inl ⟨by rfl, ?_⟩) ?_ ?_
          rotate_left
          · intro w'
            go_simp
            with_reducible rfl
          rotate_left
          · simp only [Act.put, List.setIfInBounds_toArray, List.set_cons_zero, List.set_cons_succ, i64_w, i32_w]
            rfl
          refine last_ (i := 9) (N := none) #[true, true, true, true, true, true, true, true, true, true, false, false] rfl rfl (one_of HT_.out (by kernel_rfl)) (by decide) (fun K hK => ?_)
          have hs17 : w16.cell? ⟨gb133, 0, none⟩ = some (.int .i64 x134000_1) := (blk_cell BK133.out 0).trans rfl
          have hfs17 := blk_frozen BK133.out 0
          have hns17_1 := NB134_133.out
          have hms17_1 := NB133_134.out
          refine skip_ (w1 := ?_) (by rfl) rfl ?_ ?_
          rotate_left
          · go_simp
            rfl
          refine hK.out _ _ ?_
          clear hK K
          refine pure_ (i := 10) (N := some 30) (v := ?_) (a' := ?_) #[true, true, true, true, true, true, true, true, true, true, true, false] rfl rfl (any_of HT_.out (by kernel_rfl)) (fun _ _ _ h => h) (Or.inl ⟨by rfl, ?_⟩) ?_ ?_
          rotate_left
          · intro w'
            go_simp
            with_reducible rfl
          rotate_left
          · simp only [Act.put, List.setIfInBounds_toArray, List.set_cons_zero, List.set_cons_succ, i64_w, i32_w]
            rfl
          refine last_ (i := 11) (N := none) #[true, true, true, true, true, true, true, true, true, true, true, true] rfl rfl (one_of HT_.out (by kernel_rfl)) (by decide) (fun K hK => ?_)
          have hs18 : w16.cell? ⟨gb133, 1, none⟩ = some (.int .i64 x134001_1) := (blk_cell BK133.out 1).trans rfl
          have hfs18 := blk_frozen BK133.out 1
          have hns18_1 := NB134_133.out
          have hms18_1 := NB133_134.out
          refine skip_ (w1 := ?_) (by rfl) rfl ?_ ?_
          rotate_left
          · go_simp
            rfl
          refine hK.out _ _ ?_
          clear hK K
          refine done_ (done_of HT_.out (by kernel_rfl)) ?_
          obtain ⟨hcz19_0, hcz19_1, hfz19_0, hfz19_1⟩ := bc2_ BK133
          try go_wp2
          refine ⟨rfl, ?_⟩
          show _ ∧ Below _ _ _
          exact ⟨by first | rfl | (simp; done) | (simp [*]; done), bw_ HB⟩
        · rw [if_neg c12] at H
          have c12b0 : decide (1000000000 < (wrap64 (Int.tdiv x134001_1 t135))) = false := decide_eq_false c12
          clear c12
          obtain ⟨y136, hy136⟩ : ∃ y_ : List Int, y_ = (([wrap64 (Int.tdiv x134000_1 t135)] : List Int)) := ⟨_, rfl⟩
          replace H : ((num_within.f (-1000000000) 1000000000 y136).bind fun t139 => (if t139 = true then (some (Except.ok (ε := Int) (wrap64 (Int.tdiv x134000_1 t135), wrap64 (Int.tdiv x134001_1 t135)))) else (some (Except.error (0 : Int))))) = some (Except.error p_ : Except Int (Int × Int)) := by first | (rw [hy136]; with_reducible exact H) | (have H2_ := (Option.bind_some _ _).symm.trans H; rw [hy136]; with_reducible exact H2_) | (have H2_ := (Option.bind_some _ _).symm.trans H; with_reducible exact H2_) | with_reducible exact H | (rw [hy136]; exact H) | exact H
          have Ny136 := Aside0.mk hy136
          clear hy136
          replace H := Option.bind_eq_some_iff.mp H
          obtain ⟨t139, A200, H⟩ := H
          replace H : (if t139 = true then (some (Except.ok (ε := Int) (wrap64 (Int.tdiv x134000_1 t135), wrap64 (Int.tdiv x134001_1 t135)))) else (some (Except.error (0 : Int)))) = some (Except.error p_ : Except Int (Int × Int)) := H
          have A20 := Aside0.mk A200
          clear A200
          by_cases c21 : t139 = true
          · subst c21
            have H1 : (some (Except.ok (ε := Int) (wrap64 (Int.tdiv x134000_1 t135), wrap64 (Int.tdiv x134001_1 t135)))) = some (Except.error p_ : Except Int (Int × Int)) := by rw [if_pos rfl] at H; exact H
            clear H
            have H := H1
            clear H1
            exact absurd H (by simp)
          · replace c21 := Bool.eq_false_iff.mpr c21
            subst c21
            have H1 : (some (Except.error (0 : Int))) = some (Except.error p_ : Except Int (Int × Int)) := by rw [if_neg (show ¬ (false = true) by decide)] at H; exact H
            clear H
            have H := H1
            clear H1
            obtain rfl := Except.error.inj (Option.some.inj H)
            have hnb22 := NB133_134.out
            have hnc22 := NB134_133.out
            obtain ⟨hcz23_0, hcz23_1, hfz23_0, hfz23_1⟩ := bc2_ BK133
            try go_wp2_with (first | ((with_reducible refine gate_callee (f := 95) rfl ?_); refine gla_ (some 20) Try.func95 #[.int .i64 x134000_1, .int .i64 x134001_1] ?_; (with_reducible refine (num_divisor.calls kj1 x134000_1 x134001_1 t135 _ A10.out).mono ?_); rintro e w24 ⟨rfl, hb⟩; refine ⟨_, rfl, ?_⟩; replace BK133 := bkb_ BK133 hb; replace BK134 := bkb_ BK134 hb; replace HB := bws_ HB hb; (try clear hb); (try clear hb2); (try clear hk); (try clear hi)))
            replace BK133 := Aside0.mk (blk_drew BK133.out)
            replace BK134 := Aside0.mk (blk_drew BK134.out)
            replace HB := Aside0.mk (below_drew1 HB.out)
            refine start_ (n := 12) (S := fun w' => w'.cell? ⟨gb133, 0, none⟩ = some (.int .i64 x134000_1) ∧ w'.cell? ⟨gb133, 1, none⟩ = some (.int .i64 x134001_1)) (ds := [9, 11]) #[false, false, false, false, false, false, false, false, false, false, false, false] (by kernel_rfl) rfl rfl ⟨(blk_cell BK133.out 0).trans rfl, (blk_cell BK133.out 1).trans rfl⟩ (fun hHeld => ?_); refine with_tabW num_ratio_num.tab4 num_ratio_num.bits4 (fun HT_ HW_ => ?_)
            generalize w24.drew = w25 at BK133 BK134 HB hHeld ⊢
            refine pure_ (i := 0) (N := some 21) (v := ?_) (a' := ?_) #[true, false, false, false, false, false, false, false, false, false, false, false] rfl rfl (any_of HT_.out (by kernel_rfl)) (fun _ _ _ h => h) (Or.inl ⟨by rfl, ?_⟩) ?_ ?_
            rotate_left
            · intro w'
              go_simp
              with_reducible rfl
            rotate_left
            · simp only [Act.put, List.setIfInBounds_toArray, List.set_cons_zero, List.set_cons_succ, i64_w, i32_w]
              rfl
            refine pure_ (i := 2) (N := some 23) (v := ?_) (a' := ?_) #[true, false, true, false, false, false, false, false, false, false, false, false] rfl rfl (any_of HT_.out (by kernel_rfl)) (fun _ _ _ h => h) (Or.inl ⟨by rfl, ?_⟩) ?_ ?_
            rotate_left
            · intro w'
              go_simp
              with_reducible rfl
            rotate_left
            · simp only [Act.put, List.setIfInBounds_toArray, List.set_cons_zero, List.set_cons_succ, i64_w, i32_w]
              rfl
            refine pure_ (i := 4) (N := some 25) (v := ?_) (a' := ?_) #[true, false, true, false, true, false, false, false, false, false, false, false] rfl rfl (any_of HT_.out (by kernel_rfl)) (fun _ _ _ h => h) (Or.inl ⟨by rfl, ?_⟩) ?_ ?_
            rotate_left
            · intro w'
              go_simp
              with_reducible rfl
            rotate_left
            · simp only [Act.put, List.setIfInBounds_toArray, List.set_cons_zero, List.set_cons_succ, i64_w, i32_w]
              rfl
            refine pure_ (i := 6) (N := some 27) (v := ?_) (a' := ?_) #[true, false, true, false, true, false, true, false, false, false, false, false] rfl rfl (any_of HT_.out (by kernel_rfl)) (fun _ _ _ h => h) (Or.inl ⟨by rfl, ?_⟩) ?_ ?_
            rotate_left
            · intro w'
              go_simp
              with_reducible rfl
            rotate_left
            · simp only [Act.put, List.setIfInBounds_toArray, List.set_cons_zero, List.set_cons_succ, i64_w, i32_w]
              rfl
            refine take_ (i := 1) (N := some 22) (v := ?_) (a' := ?_) #[true, true, true, false, true, false, true, false, false, false, false, false] rfl rfl (take_ofW HT_.out HW_.out (by kernel_rfl)) (fun _ _ _ h => h) (Or.inl ⟨by rfl, ?_⟩) hHeld ?_ ?_
            rotate_left
            · rintro w' ⟨s0, s1⟩
              go_simp
              with_reducible rfl
            rotate_left
            · simp only [Act.put, List.setIfInBounds_toArray, List.set_cons_zero, List.set_cons_succ, i64_w, i32_w]
              rfl
            refine pure_ (i := 3) (N := some 24) (v := ?_) (a' := ?_) #[true, true, true, true, true, false, true, false, false, false, false, false] rfl rfl (any_of HT_.out (by kernel_rfl)) (fun _ _ _ h => h) (Or.inl ⟨by rfl, ?_⟩) ?_ ?_
            rotate_left
            · intro w'
              go_simp
              with_reducible rfl
            rotate_left
            · simp only [Act.put, List.setIfInBounds_toArray, List.set_cons_zero, List.set_cons_succ, i64_w, i32_w]
              rfl
            refine take_ (i := 5) (N := some 26) (v := ?_) (a' := ?_) #[true, true, true, true, true, true, true, false, false, false, false, false] rfl rfl (take_ofW HT_.out HW_.out (by kernel_rfl)) (fun _ _ _ h => h) (Or.inl ⟨by rfl, ?_⟩) hHeld ?_ ?_
            rotate_left
            · rintro w' ⟨s0, s1⟩
              go_simp
              with_reducible rfl
            rotate_left
            · simp only [Act.put, List.setIfInBounds_toArray, List.set_cons_zero, List.set_cons_succ, i64_w, i32_w]
              rfl
            refine pure_ (i := 7) (N := some 28) (v := ?_) (a' := ?_) #[true, true, true, true, true, true, true, true, false, false, false, false] rfl rfl (any_of HT_.out (by kernel_rfl)) (fun _ _ _ h => h) (Or.inl ⟨by rfl, ?_⟩) ?_ ?_
            rotate_left
            · intro w'
              go_simp
              with_reducible rfl
            rotate_left
            · simp only [Act.put, List.setIfInBounds_toArray, List.set_cons_zero, List.set_cons_succ, i64_w, i32_w]
              rfl
            refine pure_ (i := 8) (N := some 29) (v := ?_) (a' := ?_) #[true, true, true, true, true, true, true, true, true, false, false, false] rfl rfl (any_of HT_.out (by kernel_rfl)) (fun _ _ _ h => h) (Or.inl ⟨by rfl, ?_⟩) ?_ ?_
            rotate_left
            · intro w'
              go_simp
              with_reducible rfl
            rotate_left
            · simp only [Act.put, List.setIfInBounds_toArray, List.set_cons_zero, List.set_cons_succ, i64_w, i32_w]
              rfl
            refine last_ (i := 9) (N := none) #[true, true, true, true, true, true, true, true, true, true, false, false] rfl rfl (one_of HT_.out (by kernel_rfl)) (by decide) (fun K hK => ?_)
            have hs26 : w25.cell? ⟨gb133, 0, none⟩ = some (.int .i64 x134000_1) := (blk_cell BK133.out 0).trans rfl
            have hfs26 := blk_frozen BK133.out 0
            have hns26_1 := NB134_133.out
            have hms26_1 := NB133_134.out
            refine skip_ (w1 := ?_) (by rfl) rfl ?_ ?_
            rotate_left
            · go_simp
              rfl
            refine hK.out _ _ ?_
            clear hK K
            refine pure_ (i := 10) (N := some 30) (v := ?_) (a' := ?_) #[true, true, true, true, true, true, true, true, true, true, true, false] rfl rfl (any_of HT_.out (by kernel_rfl)) (fun _ _ _ h => h) (Or.inl ⟨by rfl, ?_⟩) ?_ ?_
            rotate_left
            · intro w'
              go_simp
              with_reducible rfl
            rotate_left
            · simp only [Act.put, List.setIfInBounds_toArray, List.set_cons_zero, List.set_cons_succ, i64_w, i32_w]
              rfl
            refine last_ (i := 11) (N := none) #[true, true, true, true, true, true, true, true, true, true, true, true] rfl rfl (one_of HT_.out (by kernel_rfl)) (by decide) (fun K hK => ?_)
            have hs27 : w25.cell? ⟨gb133, 1, none⟩ = some (.int .i64 x134001_1) := (blk_cell BK133.out 1).trans rfl
            have hfs27 := blk_frozen BK133.out 1
            have hns27_1 := NB134_133.out
            have hms27_1 := NB133_134.out
            refine skip_ (w1 := ?_) (by rfl) rfl ?_ ?_
            rotate_left
            · go_simp
              rfl
            refine hK.out _ _ ?_
            clear hK K
            refine done_ (done_of HT_.out (by kernel_rfl)) ?_
            obtain ⟨hcz28_0, hcz28_1, hfz28_0, hfz28_1⟩ := bc2_ BK133
            try go_wp2_with (first | ((with_reducible refine gate_dst (N := 37) rfl ?_); (try (refine gate_guard (by rfl) ?_; dsimp only)); refine Kd.R_lit (Kd.int .i64) _ 3 ?hg (N := 37) ?hd (xs := ([wrap64 (Int.tdiv x134000_1 t135)] : List Int)) (inner := [.int .i64 (wrap64 (Int.tdiv x134000_1 t135))]) (ok := fun _ => True) (okp := fun _ => True) ?hr ?hp (fun _ hk => hk) trivial (Below.refl _ _) (Nat.le_refl _) (by simp) ?_; (case hd => rfl); (case hg => rfl); (case hr => first | (go_simp; done) | (go_simp; rfl)); (case hp => exact (Reps.one (show Kd.M (Kd.int .i64) _ _ _ (wrap64 (Int.tdiv x134000_1 t135)) [.int .i64 (wrap64 (Int.tdiv x134000_1 t135))] from rfl) (Reps.none _ _))); intro v137 w29 ho30 hb hg_ hnew_; clear hg_ hnew_; (first | rw [← Ny136.out] at ho30 | (simp only [Int.reduceToNat] at ho30; rw [← Ny136.out] at ho30)); have HO138 := Aside0.mk (Kd.R_lower ho30 (below_size (bw_ HB))); replace BK133 := Aside0.mk (blk_below (g := gb133) (o := .cells #[.int .i64 (wrap64 (Int.tdiv x134000_1 t135)), .int .i64 (wrap64 (Int.tdiv x134001_1 t135))] 65 (0, 0)) (by refine bp_ (cs := #[.int .i64 (wrap64 (Int.tdiv x134000_1 t135)), .int .i64 x134001_1]) ?_ 1; refine bp_ (cs := #[.int .i64 x134000_1, .int .i64 x134001_1]) ?_ 0; exact bk_ BK133) hb); replace BK134 := Aside0.mk (blk_below (g := gb134) (o := .cells #[.int .i64 0, .int .i64 0] 23 (0, 0)) (by refine bf_ ?_ NB134_133; refine bf_ ?_ NB134_133; exact bk_ BK134) hb); replace HB := bws_ HB hb; clear hb ho30; obtain ⟨Ao31, co31, eo31⟩ := Kd.R_slice HO138.out; subst eo31) | (go_at_call 80; (with_reducible refine (num_within.calls (-1000000000) 1000000000 _ _ y136 false _ ?side1 ?side2 A20.out).mono ?_); (case side1 => repeat (first | exact (Kd.R_reads' HO138.out).2.2 | (with_reducible refine Kd.C_alloc ?_ _) | (with_reducible refine Kd.C_drewN ?_ _) | (with_reducible refine Kd.C_drew ?_))); (case side2 => exact (Kd.R_reads' HO138.out).2.1); rintro e w32 ⟨rfl, hb⟩; replace HO138 := Aside0.mk (Kd.R_below (by (with_reducible repeat (first | apply Kd.R_alloc | apply Kd.R_drewN | apply Kd.R_drew)); exact HO138.out) hb); replace BK133 := bkb_ BK133 hb; replace BK134 := bkb_ BK134 hb; replace HB := bws_ HB hb; (try clear hb); (try clear hb2); (try clear hk); (try clear hi)))
            refine ⟨rfl, ?_⟩
            show _ ∧ Below _ _ _
            exact ⟨by first | rfl | (simp; done) | (simp [*]; done), bw_ HB⟩
/-! ### num_ratio_times: function 94 -/
def num_ratio_times.f (a0_0 : Int) (a0_1 : Int) (a1_0 : Int) (a1_1 : Int) : Option (Int × Int) := some (wrap64 (a0_0 * a1_0), wrap64 (a0_1 * a1_1))
set_option maxHeartbeats 8000000 in
set_option maxRecDepth 100000 in
theorem num_ratio_times.calls (a0_0 : Int) (a0_1 : Int) (a1_0 : Int) (a1_1 : Int) (r1 : Int) (r2 : Int) (w : World) (h : num_ratio_times.f a0_0 a0_1 a1_0 a1_1 = some (r1, r2)) :
    Calls Try.prog 94 #[.agg #[.int .i64 a0_0, .int .i64 a0_1], .agg #[.int .i64 a1_0, .int .i64 a1_1]] w fun e w' => e = .returned (.agg #[.int .i64 r1, .int .i64 r2]) ∧ Below w.heap.size w w' := by
  have hu65 := Try.underlying65
  have HB := Aside0.mk (Below.refl w.heap.size w)
  have H : (some (wrap64 (a0_0 * a1_0), wrap64 (a0_1 * a1_1))) = some (r1, r2) := h
  clear h
  simp only [Option.some.injEq, Prod.mk.injEq] at H
  obtain ⟨rfl, rfl⟩ := H
  go_enter Try.func94, Try.ntmps94
  go_wp2_with (first | ((with_reducible refine gate_dst (N := 2) rfl ?_); refine box_event ?hg (N := 2) ?hd (cs := #[.int .i64 a0_0, .int .i64 a0_1]) (t := 65) ?hr ?_; (case hd => rfl); (case hg => rfl); (case hr => first | (go_simp; done) | (go_simp; rfl)); intro gb140 hg w3 hbox hb; have BK140 := Aside0.mk hbox; have GW140 := bwg_ HB hg; have GE140 := bwg_ HB hg; replace HB := bws_ HB hb; clear hb hbox hg) | ((with_reducible refine gate_dst (N := 3) rfl ?_); refine box_event ?hg (N := 3) ?hd (cs := #[.int .i64 a1_0, .int .i64 a1_1]) (t := 65) ?hr ?_; (case hd => rfl); (case hg => rfl); (case hr => first | (go_simp; done) | (go_simp; rfl)); intro gb141 hg w4 hbox hb; have BK141 := Aside0.mk hbox; have GW141 := bwg_ HB hg; have GE141 := bwg_ HB hg; replace HB := bws_ HB hb; have NB140_141 := bkl_ BK140 hg; have NB141_140 := bkr_ BK140 hg; replace BK140 := bkb_ BK140 hb; clear hb hbox hg) | ((with_reducible refine gate_dst (N := 4) rfl ?_); refine box_event ?hg (N := 4) ?hd (cs := #[.int .i64 0, .int .i64 0]) (t := 65) ?hr ?_; (case hd => rfl); (case hg => rfl); (case hr => first | (go_simp; done) | (go_simp; rfl)); intro gb142 hg w5 hbox hb; have BK142 := Aside0.mk hbox; have GW142 := bwg_ HB hg; have GE142 := bwg_ HB hg; replace HB := bws_ HB hb; have NB140_142 := bkl_ BK140 hg; have NB142_140 := bkr_ BK140 hg; replace BK140 := bkb_ BK140 hb; have NB141_142 := bkl_ BK141 hg; have NB142_141 := bkr_ BK141 hg; replace BK141 := bkb_ BK141 hb; clear hb hbox hg; have hnb6 := NB140_141.out; have hnc6 := NB141_140.out; have hnb7 := NB140_142.out; have hnc7 := NB142_140.out; obtain ⟨hcz8_0, hcz8_1, hfz8_0, hfz8_1⟩ := bc2_ BK140; have hnb9 := NB141_142.out; have hnc9 := NB142_141.out; obtain ⟨hcz10_0, hcz10_1, hfz10_0, hfz10_1⟩ := bc2_ BK141; obtain ⟨hcz11_0, hcz11_1, hfz11_0, hfz11_1⟩ := bc2_ BK142))
  refine bodyPost_ret (results_cell_row rfl _ _ gb142 65 #[.int .i64 (wrap64 (a0_0 * a1_0)), .int .i64 (wrap64 (a0_1 * a1_1))] (0, 0) _ rfl (by refine bp_ (cs := #[.int .i64 (wrap64 (a0_0 * a1_0)), .int .i64 0]) ?_ 1; refine bp_ (cs := #[.int .i64 0, .int .i64 0]) ?_ 0; exact bk_ BK142) Try.underlying65 rfl (by kernel_rfl)) rfl ?_
  exact ⟨by first | rfl | (simp [*] <;> rfl), bw_ HB⟩
/-! ### num_ratio_plus: function 118 -/
def num_ratio_plus.f (a0_0 : Int) (a0_1 : Int) (a1_0 : Int) (a1_1 : Int) : Option (Int × Int) := some (wrap64 ((wrap64 (a0_0 * a1_1)) + (wrap64 (a1_0 * a0_1))), wrap64 (a0_1 * a1_1))
set_option maxHeartbeats 8000000 in
set_option maxRecDepth 100000 in
theorem num_ratio_plus.calls (a0_0 : Int) (a0_1 : Int) (a1_0 : Int) (a1_1 : Int) (r1 : Int) (r2 : Int) (w : World) (h : num_ratio_plus.f a0_0 a0_1 a1_0 a1_1 = some (r1, r2)) :
    Calls Try.prog 118 #[.agg #[.int .i64 a0_0, .int .i64 a0_1], .agg #[.int .i64 a1_0, .int .i64 a1_1]] w fun e w' => e = .returned (.agg #[.int .i64 r1, .int .i64 r2]) ∧ Below w.heap.size w w' := by
  have hu65 := Try.underlying65
  have HB := Aside0.mk (Below.refl w.heap.size w)
  have H : (some (wrap64 ((wrap64 (a0_0 * a1_1)) + (wrap64 (a1_0 * a0_1))), wrap64 (a0_1 * a1_1))) = some (r1, r2) := h
  clear h
  simp only [Option.some.injEq, Prod.mk.injEq] at H
  obtain ⟨rfl, rfl⟩ := H
  go_enter Try.func118, Try.ntmps118
  go_wp2_with (first | ((with_reducible refine gate_dst (N := 2) rfl ?_); refine box_event ?hg (N := 2) ?hd (cs := #[.int .i64 a0_0, .int .i64 a0_1]) (t := 65) ?hr ?_; (case hd => rfl); (case hg => rfl); (case hr => first | (go_simp; done) | (go_simp; rfl)); intro gb143 hg w3 hbox hb; have BK143 := Aside0.mk hbox; have GW143 := bwg_ HB hg; have GE143 := bwg_ HB hg; replace HB := bws_ HB hb; clear hb hbox hg) | ((with_reducible refine gate_dst (N := 3) rfl ?_); refine box_event ?hg (N := 3) ?hd (cs := #[.int .i64 a1_0, .int .i64 a1_1]) (t := 65) ?hr ?_; (case hd => rfl); (case hg => rfl); (case hr => first | (go_simp; done) | (go_simp; rfl)); intro gb144 hg w4 hbox hb; have BK144 := Aside0.mk hbox; have GW144 := bwg_ HB hg; have GE144 := bwg_ HB hg; replace HB := bws_ HB hb; have NB143_144 := bkl_ BK143 hg; have NB144_143 := bkr_ BK143 hg; replace BK143 := bkb_ BK143 hb; clear hb hbox hg) | ((with_reducible refine gate_dst (N := 4) rfl ?_); refine box_event ?hg (N := 4) ?hd (cs := #[.int .i64 0, .int .i64 0]) (t := 65) ?hr ?_; (case hd => rfl); (case hg => rfl); (case hr => first | (go_simp; done) | (go_simp; rfl)); intro gb145 hg w5 hbox hb; have BK145 := Aside0.mk hbox; have GW145 := bwg_ HB hg; have GE145 := bwg_ HB hg; replace HB := bws_ HB hb; have NB143_145 := bkl_ BK143 hg; have NB145_143 := bkr_ BK143 hg; replace BK143 := bkb_ BK143 hb; have NB144_145 := bkl_ BK144 hg; have NB145_144 := bkr_ BK144 hg; replace BK144 := bkb_ BK144 hb; clear hb hbox hg; have hnb6 := NB143_144.out; have hnc6 := NB144_143.out; have hnb7 := NB143_145.out; have hnc7 := NB145_143.out; obtain ⟨hcz8_0, hcz8_1, hfz8_0, hfz8_1⟩ := bc2_ BK143; have hnb9 := NB144_145.out; have hnc9 := NB145_144.out; obtain ⟨hcz10_0, hcz10_1, hfz10_0, hfz10_1⟩ := bc2_ BK144; obtain ⟨hcz11_0, hcz11_1, hfz11_0, hfz11_1⟩ := bc2_ BK145))
  refine bodyPost_ret (results_cell_row rfl _ _ gb145 65 #[.int .i64 (wrap64 ((wrap64 (a0_0 * a1_1)) + (wrap64 (a1_0 * a0_1)))), .int .i64 (wrap64 (a0_1 * a1_1))] (0, 0) _ rfl (by refine bp_ (cs := #[.int .i64 (wrap64 ((wrap64 (a0_0 * a1_1)) + (wrap64 (a1_0 * a0_1)))), .int .i64 0]) ?_ 1; refine bp_ (cs := #[.int .i64 0, .int .i64 0]) ?_ 0; exact bk_ BK145) Try.underlying65 rfl (by kernel_rfl)) rfl ?_
  exact ⟨by first | rfl | (simp [*] <;> rfl), bw_ HB⟩
/-! ### num_ratio_minus: function 124 -/
def num_ratio_minus.f (a0_0 : Int) (a0_1 : Int) (a1_0 : Int) (a1_1 : Int) : Option (Int × Int) := some (wrap64 ((wrap64 (a0_0 * a1_1)) - (wrap64 (a1_0 * a0_1))), wrap64 (a0_1 * a1_1))
set_option maxHeartbeats 8000000 in
set_option maxRecDepth 100000 in
theorem num_ratio_minus.calls (a0_0 : Int) (a0_1 : Int) (a1_0 : Int) (a1_1 : Int) (r1 : Int) (r2 : Int) (w : World) (h : num_ratio_minus.f a0_0 a0_1 a1_0 a1_1 = some (r1, r2)) :
    Calls Try.prog 124 #[.agg #[.int .i64 a0_0, .int .i64 a0_1], .agg #[.int .i64 a1_0, .int .i64 a1_1]] w fun e w' => e = .returned (.agg #[.int .i64 r1, .int .i64 r2]) ∧ Below w.heap.size w w' := by
  have hu65 := Try.underlying65
  have HB := Aside0.mk (Below.refl w.heap.size w)
  have H : (some (wrap64 ((wrap64 (a0_0 * a1_1)) - (wrap64 (a1_0 * a0_1))), wrap64 (a0_1 * a1_1))) = some (r1, r2) := h
  clear h
  simp only [Option.some.injEq, Prod.mk.injEq] at H
  obtain ⟨rfl, rfl⟩ := H
  go_enter Try.func124, Try.ntmps124
  go_wp2_with (first | ((with_reducible refine gate_dst (N := 2) rfl ?_); refine box_event ?hg (N := 2) ?hd (cs := #[.int .i64 a0_0, .int .i64 a0_1]) (t := 65) ?hr ?_; (case hd => rfl); (case hg => rfl); (case hr => first | (go_simp; done) | (go_simp; rfl)); intro gb146 hg w3 hbox hb; have BK146 := Aside0.mk hbox; have GW146 := bwg_ HB hg; have GE146 := bwg_ HB hg; replace HB := bws_ HB hb; clear hb hbox hg) | ((with_reducible refine gate_dst (N := 3) rfl ?_); refine box_event ?hg (N := 3) ?hd (cs := #[.int .i64 a1_0, .int .i64 a1_1]) (t := 65) ?hr ?_; (case hd => rfl); (case hg => rfl); (case hr => first | (go_simp; done) | (go_simp; rfl)); intro gb147 hg w4 hbox hb; have BK147 := Aside0.mk hbox; have GW147 := bwg_ HB hg; have GE147 := bwg_ HB hg; replace HB := bws_ HB hb; have NB146_147 := bkl_ BK146 hg; have NB147_146 := bkr_ BK146 hg; replace BK146 := bkb_ BK146 hb; clear hb hbox hg) | ((with_reducible refine gate_dst (N := 4) rfl ?_); refine box_event ?hg (N := 4) ?hd (cs := #[.int .i64 0, .int .i64 0]) (t := 65) ?hr ?_; (case hd => rfl); (case hg => rfl); (case hr => first | (go_simp; done) | (go_simp; rfl)); intro gb148 hg w5 hbox hb; have BK148 := Aside0.mk hbox; have GW148 := bwg_ HB hg; have GE148 := bwg_ HB hg; replace HB := bws_ HB hb; have NB146_148 := bkl_ BK146 hg; have NB148_146 := bkr_ BK146 hg; replace BK146 := bkb_ BK146 hb; have NB147_148 := bkl_ BK147 hg; have NB148_147 := bkr_ BK147 hg; replace BK147 := bkb_ BK147 hb; clear hb hbox hg; have hnb6 := NB146_147.out; have hnc6 := NB147_146.out; have hnb7 := NB146_148.out; have hnc7 := NB148_146.out; obtain ⟨hcz8_0, hcz8_1, hfz8_0, hfz8_1⟩ := bc2_ BK146; have hnb9 := NB147_148.out; have hnc9 := NB148_147.out; obtain ⟨hcz10_0, hcz10_1, hfz10_0, hfz10_1⟩ := bc2_ BK147; obtain ⟨hcz11_0, hcz11_1, hfz11_0, hfz11_1⟩ := bc2_ BK148))
  refine bodyPost_ret (results_cell_row rfl _ _ gb148 65 #[.int .i64 (wrap64 ((wrap64 (a0_0 * a1_1)) - (wrap64 (a1_0 * a0_1)))), .int .i64 (wrap64 (a0_1 * a1_1))] (0, 0) _ rfl (by refine bp_ (cs := #[.int .i64 (wrap64 ((wrap64 (a0_0 * a1_1)) - (wrap64 (a1_0 * a0_1)))), .int .i64 0]) ?_ 1; refine bp_ (cs := #[.int .i64 0, .int .i64 0]) ?_ 0; exact bk_ BK148) Try.underlying65 rfl (by kernel_rfl)) rfl ?_
  exact ⟨by first | rfl | (simp [*] <;> rfl), bw_ HB⟩
/-! ### num_ratio_by: function 125 -/
def num_ratio_by.f (a0_0 : Int) (a0_1 : Int) (a1_0 : Int) (a1_1 : Int) : Option (Int × Int) := some (wrap64 (a0_0 * a1_1), wrap64 (a0_1 * a1_0))
set_option maxHeartbeats 8000000 in
set_option maxRecDepth 100000 in
theorem num_ratio_by.calls (a0_0 : Int) (a0_1 : Int) (a1_0 : Int) (a1_1 : Int) (r1 : Int) (r2 : Int) (w : World) (h : num_ratio_by.f a0_0 a0_1 a1_0 a1_1 = some (r1, r2)) :
    Calls Try.prog 125 #[.agg #[.int .i64 a0_0, .int .i64 a0_1], .agg #[.int .i64 a1_0, .int .i64 a1_1]] w fun e w' => e = .returned (.agg #[.int .i64 r1, .int .i64 r2]) ∧ Below w.heap.size w w' := by
  have hu65 := Try.underlying65
  have HB := Aside0.mk (Below.refl w.heap.size w)
  have H : (some (wrap64 (a0_0 * a1_1), wrap64 (a0_1 * a1_0))) = some (r1, r2) := h
  clear h
  simp only [Option.some.injEq, Prod.mk.injEq] at H
  obtain ⟨rfl, rfl⟩ := H
  go_enter Try.func125, Try.ntmps125
  go_wp2_with (first | ((with_reducible refine gate_dst (N := 2) rfl ?_); refine box_event ?hg (N := 2) ?hd (cs := #[.int .i64 a0_0, .int .i64 a0_1]) (t := 65) ?hr ?_; (case hd => rfl); (case hg => rfl); (case hr => first | (go_simp; done) | (go_simp; rfl)); intro gb149 hg w3 hbox hb; have BK149 := Aside0.mk hbox; have GW149 := bwg_ HB hg; have GE149 := bwg_ HB hg; replace HB := bws_ HB hb; clear hb hbox hg) | ((with_reducible refine gate_dst (N := 3) rfl ?_); refine box_event ?hg (N := 3) ?hd (cs := #[.int .i64 a1_0, .int .i64 a1_1]) (t := 65) ?hr ?_; (case hd => rfl); (case hg => rfl); (case hr => first | (go_simp; done) | (go_simp; rfl)); intro gb150 hg w4 hbox hb; have BK150 := Aside0.mk hbox; have GW150 := bwg_ HB hg; have GE150 := bwg_ HB hg; replace HB := bws_ HB hb; have NB149_150 := bkl_ BK149 hg; have NB150_149 := bkr_ BK149 hg; replace BK149 := bkb_ BK149 hb; clear hb hbox hg) | ((with_reducible refine gate_dst (N := 4) rfl ?_); refine box_event ?hg (N := 4) ?hd (cs := #[.int .i64 0, .int .i64 0]) (t := 65) ?hr ?_; (case hd => rfl); (case hg => rfl); (case hr => first | (go_simp; done) | (go_simp; rfl)); intro gb151 hg w5 hbox hb; have BK151 := Aside0.mk hbox; have GW151 := bwg_ HB hg; have GE151 := bwg_ HB hg; replace HB := bws_ HB hb; have NB149_151 := bkl_ BK149 hg; have NB151_149 := bkr_ BK149 hg; replace BK149 := bkb_ BK149 hb; have NB150_151 := bkl_ BK150 hg; have NB151_150 := bkr_ BK150 hg; replace BK150 := bkb_ BK150 hb; clear hb hbox hg; have hnb6 := NB149_150.out; have hnc6 := NB150_149.out; have hnb7 := NB149_151.out; have hnc7 := NB151_149.out; obtain ⟨hcz8_0, hcz8_1, hfz8_0, hfz8_1⟩ := bc2_ BK149; have hnb9 := NB150_151.out; have hnc9 := NB151_150.out; obtain ⟨hcz10_0, hcz10_1, hfz10_0, hfz10_1⟩ := bc2_ BK150; obtain ⟨hcz11_0, hcz11_1, hfz11_0, hfz11_1⟩ := bc2_ BK151))
  refine bodyPost_ret (results_cell_row rfl _ _ gb151 65 #[.int .i64 (wrap64 (a0_0 * a1_1)), .int .i64 (wrap64 (a0_1 * a1_0))] (0, 0) _ rfl (by refine bp_ (cs := #[.int .i64 (wrap64 (a0_0 * a1_1)), .int .i64 0]) ?_ 1; refine bp_ (cs := #[.int .i64 0, .int .i64 0]) ?_ 0; exact bk_ BK151) Try.underlying65 rfl (by kernel_rfl)) rfl ?_
  exact ⟨by first | rfl | (simp [*] <;> rfl), bw_ HB⟩
/-! ### num_operations: function 112, by hand -/
/-- the table of operations -/
def num_ops.tab : Array MapEntry := #[{ key := .int .u8 43, val := .func (.func 118) #[] #[], born := 0 }, { key := .int .u8 45, val := .func (.func 124) #[] #[], born := 1 }, { key := .int .u8 42, val := .func (.func 94) #[] #[], born := 2 }, { key := .int .u8 47, val := .func (.func 125) #[] #[], born := 3 }]
theorem num_ops.look (m : Nat) (w : World) (s : Int) (g : Nat) (h : w.heap[m]? = some (.map num_ops.tab 4)) (i : Nat) (hf : Instr.findNow (.int .u8) (.int .u8 s) num_ops.tab.toList 0 = some (some (i, .func (.func g) #[] #[]))) :
    (Instr.lookup 112 (.map (some m)) (.int .u8 s) false).run Try.prog w = .ok (.func (.func g) #[] #[]) w := by
  have hu := Try.underlying112
  have hu5 := Try.underlying5
  have hk : ∀ e n, (Instr.checkKey e (n + 1) 5 (.int .u8 s)).run Try.prog w = .ok () w := fun e n => Go.MapKept.run_checkKey hu5 (by rfl : Go.MapKept.IsKey (.int .u8) (.int .u8 s)) e n
  have hfk := Go.MapKept.run_findKey (w := w) hu5 hf
  have hg := Go.MapKept.run_getObj_map (P := Try.prog) h
  unfold Instr.lookup
  simp [Sem.run_bind, run_underlying hu, hg, hk _ 9999, hfk, Result.andThen]
theorem num_ops.look43 (m : Nat) (w : World) (h : w.heap[m]? = some (.map num_ops.tab 4)) : (Instr.lookup 112 (.map (some m)) (.int .u8 43) false).run Try.prog w = .ok (.func (.func 118) #[] #[]) w := num_ops.look m w _ _ h 0 (by rfl)
def num_ops.wd (w : World) (es : Array MapEntry) (c : Nat) : World := { w.alloc (.map #[] 0) with heap := (w.alloc (.map #[] 0)).heap.setIfInBounds w.heap.size (.map es c) }
def num_ops.t1 : Array MapEntry := #[{ key := .int .u8 43, val := .func (.func 118) #[] #[], born := 0 }]
def num_ops.t2 : Array MapEntry := num_ops.t1.push { key := .int .u8 45, val := .func (.func 124) #[] #[], born := 1 }
def num_ops.t3 : Array MapEntry := num_ops.t2.push { key := .int .u8 42, val := .func (.func 94) #[] #[], born := 2 }
theorem num_ops.wd_heap (w : World) (es : Array MapEntry) (c : Nat) : (num_ops.wd w es c).heap[w.heap.size]? = some (.map es c) := by
  show ((w.heap.push (.map #[] 0)).setIfInBounds w.heap.size (.map es c))[w.heap.size]? = _
  simp
theorem num_ops.upd (w W : World) (es : Array MapEntry) (c : Nat) (s : Int) (g : Nat) (h : W.heap[w.heap.size]? = some (.map es c)) (hw : ∀ o, { W with heap := W.heap.setIfInBounds w.heap.size o } = { w.alloc (.map #[] 0) with heap := (w.alloc (.map #[] 0)).heap.setIfInBounds w.heap.size o })
    (hf : Instr.findNow (.int .u8) (.int .u8 s) es.toList 0 = some none) :
    (Instr.mapUpdate 112 (.map (some w.heap.size)) (.int .u8 s) (.func (.func g) #[] #[])).run Try.prog W = .ok () (num_ops.wd w (es.push { key := .int .u8 s, val := .func (.func g) #[] #[], born := c }) (c + 1)) := by
  have hu := Try.underlying112
  have hu5 := Try.underlying5
  have hk : ∀ e n, (Instr.checkKey e (n + 1) 5 (.int .u8 s)).run Try.prog W = .ok () W := fun e n => Go.MapKept.run_checkKey hu5 (by rfl : Go.MapKept.IsKey (.int .u8) (.int .u8 s)) e n
  have hfk := Go.MapKept.run_findKey (w := W) hu5 hf
  have hg := Go.MapKept.run_getObj_map (P := Try.prog) h
  unfold Instr.mapUpdate
  simp [Sem.run_bind, run_underlying hu, hg, hk _ 9999, hfk, Result.andThen, Go.MapKept.run_setObj_map _ h, num_ops.wd, hw]
set_option maxHeartbeats 4000000 in
set_option maxRecDepth 100000 in
theorem num_operations.calls (w : World) :
    Calls Try.prog 112 #[] w fun e w' => e = .returned (.map (some w.heap.size)) ∧ w'.heap[w.heap.size]? = some (.map num_ops.tab 4) ∧ w.heap.size < w'.heap.size ∧ Below w.heap.size w w' := by
  have hmm := @run_makeMap Try.prog
  have hs : ∀ es c o, { num_ops.wd w es c with heap := (num_ops.wd w es c).heap.setIfInBounds w.heap.size o } = { w.alloc (.map #[] 0) with heap := (w.alloc (.map #[] 0)).heap.setIfInBounds w.heap.size o } := fun es c o => by
    have e : (num_ops.wd w es c).heap.setIfInBounds w.heap.size o = (w.alloc (.map #[] 0)).heap.setIfInBounds w.heap.size o := by
      show ((w.alloc (.map #[] 0)).heap.setIfInBounds w.heap.size (.map es c)).setIfInBounds w.heap.size o = _
      exact Array.setIfInBounds_setIfInBounds ..
    rw [e]; rfl
  have u1 : (Instr.mapUpdate 112 (.map (some w.heap.size)) (.int .u8 43) (.func (.func 118) #[] #[])).run Try.prog (w.alloc (.map #[] 0)) = .ok () (num_ops.wd w num_ops.t1 1) := num_ops.upd w (w.alloc (.map #[] 0)) #[] 0 43 118 (blk_new w _) (fun _ => rfl) rfl
  have u2 : (Instr.mapUpdate 112 (.map (some w.heap.size)) (.int .u8 45) (.func (.func 124) #[] #[])).run Try.prog (num_ops.wd w num_ops.t1 1) = .ok () (num_ops.wd w num_ops.t2 2) := num_ops.upd w _ _ _ 45 124 (num_ops.wd_heap w _ 1) (hs num_ops.t1 1) (by rfl)
  have u3 : (Instr.mapUpdate 112 (.map (some w.heap.size)) (.int .u8 42) (.func (.func 94) #[] #[])).run Try.prog (num_ops.wd w num_ops.t2 2) = .ok () (num_ops.wd w num_ops.t3 3) := num_ops.upd w _ _ _ 42 94 (num_ops.wd_heap w _ 2) (hs num_ops.t2 2) (by rfl)
  have u4 : (Instr.mapUpdate 112 (.map (some w.heap.size)) (.int .u8 47) (.func (.func 125) #[] #[])).run Try.prog (num_ops.wd w num_ops.t3 3) = .ok () (num_ops.wd w num_ops.tab 4) := num_ops.upd w _ _ _ 47 125 (num_ops.wd_heap w _ 3) (hs num_ops.t3 3) (by rfl)
  clear hs
  have fin : Aside0 ((num_ops.wd w num_ops.tab 4).heap[w.heap.size]? = some (.map num_ops.tab 4) ∧ w.heap.size < (num_ops.wd w num_ops.tab 4).heap.size ∧ Below w.heap.size w (num_ops.wd w num_ops.tab 4)) := by
    have e : (num_ops.wd w num_ops.tab 4).heap = (w.heap.push (.map #[] 0)).setIfInBounds w.heap.size (.map num_ops.tab 4) := rfl
    refine ⟨num_ops.wd_heap _ _ _, by rw [e]; simp, rfl, rfl, rfl, by rw [e]; simp, fun i hi => ?_⟩
    rw [e, Array.getElem?_setIfInBounds_ne (by omega : w.heap.size ≠ i), Array.getElem?_push, if_neg (by omega)]
  go_enter Try.func112, Try.ntmps112
  go_wp2
  go_ret
  exact ⟨rfl, fin.out⟩
/-! ### num_reckon: function 67, by hand -/
/-- what reckon comes to, by an operation -/
def num_reckon.g (opf : Int → Int → Int → Int → Option (Int × Int)) (dv : Bool) (k : Nat) (a1_0 a1_1 a2_0 a2_1 : Int) : Option (Int × Int × Int) :=
  (num_checked.f k [(⟨a1_0, a1_1⟩ : S23), ⟨a2_0, a2_1⟩]).bind fun e => if e = 0 then (if dv = true ∧ a2_0 = 0 then some (0, 0, 10) else (opf a1_0 a1_1 a2_0 a2_1).bind fun r => (num_ratio_num.f k r.1 r.2).bind fun z => exc z (fun _ => some (0, 0, 8)) (fun b => some (b.1, b.2, 0))) else some (0, 0, e)
def num_reckon.f (k : Nat) (a0 : Int) (a1_0 : Int) (a1_1 : Int) (a2_0 : Int) (a2_1 : Int) : Option (Int × Int × Int) :=
  if a0 = 43 then num_reckon.g num_ratio_plus.f false k a1_0 a1_1 a2_0 a2_1 else if a0 = 45 then num_reckon.g num_ratio_minus.f false k a1_0 a1_1 a2_0 a2_1 else if a0 = 42 then num_reckon.g num_ratio_times.f false k a1_0 a1_1 a2_0 a2_1 else if a0 = 47 then num_reckon.g num_ratio_by.f true k a1_0 a1_1 a2_0 a2_1 else none
theorem num_reckon.mono_g (opf : Int → Int → Int → Int → Option (Int × Int)) (dv : Bool) (a b c d : Int) (k : Nat) : LeO (num_reckon.g opf dv k a b c d) (num_reckon.g opf dv (k + 1) a b c d) :=
  LeO.bind (num_checked.mono _ k) (fun _ => LeO.ite (LeO.ite (LeO.refl _) (LeO.bind (LeO.refl _) (fun _ => LeO.bind (num_ratio_num.mono _ _ k) (fun _ => LeO.refl _)))) (LeO.refl _))
theorem num_reckon.mono : ∀ a0 a1 a2 a3 a4 k, LeO (num_reckon.f k a0 a1 a2 a3 a4) (num_reckon.f (k + 1) a0 a1 a2 a3 a4) := fun _ _ _ _ _ k =>
  LeO.ite (num_reckon.mono_g _ _ _ _ _ _ k) (LeO.ite (num_reckon.mono_g _ _ _ _ _ _ k) (LeO.ite (num_reckon.mono_g _ _ _ _ _ _ k) (LeO.ite (num_reckon.mono_g _ _ _ _ _ _ k) (LeO.refl _))))
def num_reckon.T7 : Bool × List (List Nat × List Nat) := (true, [([], []), ([], []), ([0, 1], [0, 1]), ([], []), ([3, 0], [3]), ([], []), ([5, 4], [5]), ([2, 4, 6, 6], [2, 4, 6]), ([7, 7], [7]), ([8, 8, 0, 1, 2, 3, 4, 5, 6, 7, 8], [8]), ([9, 0, 1, 2, 3, 4, 5, 6, 7, 8, 9], [])])
def num_reckon.B7 : List Nat := [0, 0, 3, 0, 9, 0, 57, 127, 255, 511, 1023]
theorem num_reckon.tab7 : rtab .any (opsOf Try.f67 7) = num_reckon.T7 := by kernel_rfl
theorem num_reckon.bits7 : waitsOk num_reckon.T7.2 num_reckon.B7 = true := by kernel_rfl
/-- an operation that yields a value, in a region that draws -/
theorem val_ {P : Program} {ops : Array Oper} {Q : Exit → Act → World → Prop} {oi : Oper} {N : Option Tmp} {a : Act} {w : World} {K : Act → World → Prop} {v : Value} (hw : Region.wanted oi (yielded ops a.tmps) = true) (hN : oi.dst = N) (hrun : (execOp a.eval oi).run P w = .ok (.value v) w)
    (h : K (a.put N v) w) : if Region.wanted oi (yielded ops a.tmps) = true then Oper.wp P oi a w K Q else K (a.put N undef) w := by
  rw [if_pos hw]
  unfold Oper.wp
  rw [hrun]
  subst hN
  exact h
/-- two numbers, one behind the other -/
theorem num_reckon.lit (w : World) (a b c d : Int) : Kd.C k23 (w.alloc (.cells #[.int .i64 a, .int .i64 b, .int .i64 c, .int .i64 d] 23)) (some ⟨w.heap.size, 0, none⟩) 2 [(⟨a, b⟩ : S23), ⟨c, d⟩] := by
  have hb := blk_new w (.cells #[.int .i64 a, .int .i64 b, .int .i64 c, .int .i64 d] 23)
  refine ⟨rfl, by omega, fun _ => ⟨_, rfl, fun j p hp => ?_⟩⟩
  match j, hp with
  | 0, hp =>
    obtain rfl := Option.some.inj hp
    refine ⟨_, rfl, k23_mk _ _, fun i u hu => ?_⟩
    match i, hu with
    | 0, hu => obtain rfl := Option.some.inj hu; exact (blk_cell hb 0).trans rfl
    | 1, hu => obtain rfl := Option.some.inj hu; exact (blk_cell hb 1).trans rfl
  | 1, hp =>
    obtain rfl := Option.some.inj hp
    refine ⟨_, rfl, k23_mk _ _, fun i u hu => ?_⟩
    match i, hu with
    | 0, hu => obtain rfl := Option.some.inj hu; exact (blk_cell hb 2).trans rfl
    | 1, hu => obtain rfl := Option.some.inj hu; exact (blk_cell hb 3).trans rfl
set_option maxHeartbeats 8000000 in
set_option maxRecDepth 100000 in
theorem num_reckon.core (s : Int) (g : Nat) (opf : Int → Int → Int → Int → Option (Int × Int)) (dv : Bool) (eg : ∀ args w, (callFunc g args).run Try.prog w = .ok (.enter g args) w)
    (hop : ∀ (n d n' d' r1 r2 : Int) (W : World), opf n d n' d' = some (r1, r2) → Calls Try.prog g #[.agg #[.int .i64 n, .int .i64 d], .agg #[.int .i64 n', .int .i64 d']] W fun e w' => e = .returned (.agg #[.int .i64 r1, .int .i64 r2]) ∧ Below W.heap.size W w')
    (hlk : ∀ (m : Nat) (w : World), w.heap[m]? = some (.map num_ops.tab 4) → (Instr.lookup 112 (.map (some m)) (.int .u8 s) false).run Try.prog w = .ok (.func (.func g) #[] #[]) w)
    (hdv : ((s : Int) == 47) = dv) (k : Nat) (a1_0 a1_1 a2_0 a2_1 r1 r2 r3 : Int) (w : World) (h : num_reckon.g opf dv k a1_0 a1_1 a2_0 a2_1 = some (r1, r2, r3)) :
    Calls Try.prog 67 #[.int .u8 s, .agg #[.int .i64 a1_0, .int .i64 a1_1], .agg #[.int .i64 a2_0, .int .i64 a2_1]] w (num_post w r1 r2 r3) := by
  have hu := Try.underlying23
  obtain ⟨ec, hc, H⟩ := Option.bind_eq_some_iff.mp h
  clear h
  obtain ⟨W4, hW4⟩ : ∃ W : World, W = (((w.alloc (.cells #[.int .i64 a1_0, .int .i64 a1_1] 23)).alloc (.cells #[.int .i64 a2_0, .int .i64 a2_1] 23)).alloc (.cells #[.int .i64 0, .int .i64 0] 23)).alloc (.cells #[.int .i64 0] 26) := ⟨_, rfl⟩
  have B0 := blk_new w (.cells #[.int .i64 a1_0, .int .i64 a1_1] 23)
  have B1 := blk_new (w.alloc (.cells #[.int .i64 a1_0, .int .i64 a1_1] 23)) (.cells #[.int .i64 a2_0, .int .i64 a2_1] 23)
  rw [World.size_alloc] at B1
  have B2 := blk_new ((w.alloc (.cells #[.int .i64 a1_0, .int .i64 a1_1] 23)).alloc (.cells #[.int .i64 a2_0, .int .i64 a2_1] 23)) (.cells #[.int .i64 0, .int .i64 0] 23)
  rw [World.size_alloc, World.size_alloc] at B2
  have B3 := blk_new (((w.alloc (.cells #[.int .i64 a1_0, .int .i64 a1_1] 23)).alloc (.cells #[.int .i64 a2_0, .int .i64 a2_1] 23)).alloc (.cells #[.int .i64 0, .int .i64 0] 23)) (.cells #[.int .i64 0] 26)
  rw [World.size_alloc, World.size_alloc, World.size_alloc] at B3
  have C0 := blk_alloc (blk_alloc (blk_alloc B0 (.cells #[.int .i64 a2_0, .int .i64 a2_1] 23)) (.cells #[.int .i64 0, .int .i64 0] 23)) (.cells #[.int .i64 0] 26)
  have C1 := blk_alloc (blk_alloc B1 (.cells #[.int .i64 0, .int .i64 0] 23)) (.cells #[.int .i64 0] 26)
  have C2 := blk_alloc B2 (.cells #[.int .i64 0] 26)
  have hB4 := below_alloc (below_alloc (below_alloc (below_alloc (Below.refl w.heap.size w) (.cells #[.int .i64 a1_0, .int .i64 a1_1] 23)) (.cells #[.int .i64 a2_0, .int .i64 a2_1] 23)) (.cells #[.int .i64 0, .int .i64 0] 23)) (.cells #[.int .i64 0] 26)
  have hs4 : W4.heap.size = w.heap.size + 4 := by rw [hW4]; simp [World.size_alloc]
  rw [← hW4] at B3 C0 C1 C2 hB4
  clear B0 B1 B2
  have HL := num_reckon.lit W4 a1_0 a1_1 a2_0 a2_1
  have HC := Aside0.mk (num_checked.calls k (some ⟨W4.heap.size, 0, none⟩) 2 [(⟨a1_0, a1_1⟩ : S23), ⟨a2_0, a2_1⟩] ec _ HL (by simp) hc)
  have hB5 := below_alloc hB4 (.cells #[.int .i64 a1_0, .int .i64 a1_1, .int .i64 a2_0, .int .i64 a2_1] 23)
  have D0 := Aside0.mk (blk_alloc C0 (.cells #[.int .i64 a1_0, .int .i64 a1_1, .int .i64 a2_0, .int .i64 a2_1] 23))
  have D1 := Aside0.mk (blk_alloc C1 (.cells #[.int .i64 a1_0, .int .i64 a1_1, .int .i64 a2_0, .int .i64 a2_1] 23))
  have D2 := Aside0.mk (blk_alloc C2 (.cells #[.int .i64 a1_0, .int .i64 a1_1, .int .i64 a2_0, .int .i64 a2_1] 23))
  have D3 := Aside0.mk (blk_alloc B3 (.cells #[.int .i64 a1_0, .int .i64 a1_1, .int .i64 a2_0, .int .i64 a2_1] 23))
  have HB5 := Aside0.mk hB5
  have HS4 := Aside0.mk hs4
  have HW4 := Aside0.mk hW4
  clear HL hc hB4 hB5 hs4 C0 C1 C2 B3
  have HOP := Aside0.mk hop
  have HLK := Aside0.mk hlk
  clear hop hlk
  have HH := H
  clear H
  generalize gb1 : w.heap.size = b1 at D0 D1 D2 D3 HS4
  have HDV := Aside0.mk hdv
  clear hdv hW4
  by_cases c0 : ec = 0
  · have c1 : (ec != 0) = false := bne_eq_false_iff_eq.mpr c0
    rw [if_pos c0] at HH
    by_cases c2 : dv = true ∧ a2_0 = 0
    · rw [if_pos c2] at HH
      simp only [Option.some.injEq, Prod.mk.injEq] at HH
      obtain ⟨rfl, rfl, rfl⟩ := HH
      obtain ⟨d0, rfl⟩ := c2
      have d1 : (s == 47) = true := HDV.out.trans d0
      clear d0
      go_enter_defers Try.func67, Try.ntmps67
      go_wp2_with (fail)
      simp only [← HW4.out]
      rw [show b1 + 1 + 1 + 1 + 1 = W4.heap.size from HS4.out.symm]
      refine HC.out.mono ?_
      rintro e w1 ⟨rfl, hb⟩
      have HB := Aside0.mk (below_step HB5.out hb)
      have E0 := Aside0.mk (blk_below D0.out hb)
      have E1 := Aside0.mk (blk_below D1.out hb)
      have E2 := Aside0.mk (blk_below D2.out hb)
      have E3 := Aside0.mk (blk_below D3.out hb)
      clear hb D0 D1 D2 D3 HB5 HC
      have x0 : w1.cell? ⟨b1 + 1 + 1, 0, none⟩ = some (.int .i64 0) := (blk_cell E2.out 0).trans rfl
      have x1 : w1.cell? ⟨b1 + 1 + 1, 1, none⟩ = some (.int .i64 0) := (blk_cell E2.out 1).trans rfl
      have f0 := blk_frozen E2.out 0
      have f1 := blk_frozen E2.out 1
      have f2 := blk_frozen E3.out 0
      have x2 : w1.cell? ⟨b1 + 1 + 1 + 1, 0, none⟩ = some (.int .i64 0) := (blk_cell E3.out 0).trans rfl
      have N23 : b1 + 1 + 1 ≠ b1 + 1 + 1 + 1 := by omega
      have N32 : b1 + 1 + 1 + 1 ≠ b1 + 1 + 1 := by omega
      have G2 : w.heap.size ≤ b1 + 1 + 1 := by omega
      have G3 : w.heap.size ≤ b1 + 1 + 1 + 1 := by omega
      have y0 : w1.cell? ⟨b1 + 1, 0, none⟩ = some (.int .i64 0) := (blk_cell E1.out 0).trans rfl
      go_wp2
      show Leaves _ _ _ _ _ _ _
      exact num_catch.door_ret rfl _ _ _ (b1 + 1 + 1) (b1 + 1 + 1 + 1) _ _ _ rfl rfl (blk_far (blk_put (blk_put E2.out 0 _ rfl) 1 _ rfl) N23 _) (blk_put (blk_far (blk_far E3.out N32 _) N32 _) 0 _ rfl) (below_set (below_set (below_set HB.out G2) G2) G3)
    · rw [if_neg c2] at HH
      have d3 : (s == 47) = true ∧ (a2_0 == 0) = false ∨ (s == 47) = false := by
        cases hv : dv with
        | false => exact Or.inr (HDV.out.trans hv)
        | true => exact Or.inl ⟨HDV.out.trans hv, beq_eq_false_iff_ne.mpr fun h => c2 ⟨hv, h⟩⟩
      obtain ⟨⟨p1, p2⟩, hp, HH⟩ := Option.bind_eq_some_iff.mp HH
      obtain ⟨z, hz, HH⟩ := Option.bind_eq_some_iff.mp HH
      have HP := Aside0.mk hp
      have HZ := Aside0.mk hz
      clear hp hz c2
      rcases d3 with ⟨d1, d2⟩ | d1
      all_goals
        go_enter_defers Try.func67, Try.ntmps67
        go_wp2_with (fail)
        simp only [← HW4.out]
        rw [show b1 + 1 + 1 + 1 + 1 = W4.heap.size from HS4.out.symm]
        refine HC.out.mono ?_
        rintro e w1 ⟨rfl, hb⟩
        have HB := Aside0.mk (below_step HB5.out hb)
        have E0 := Aside0.mk (blk_below D0.out hb)
        have E1 := Aside0.mk (blk_below D1.out hb)
        have E2 := Aside0.mk (blk_below D2.out hb)
        have E3 := Aside0.mk (blk_below D3.out hb)
        clear hb D0 D1 D2 D3 HB5 HC
        have x0 : w1.cell? ⟨b1 + 1 + 1, 0, none⟩ = some (.int .i64 0) := (blk_cell E2.out 0).trans rfl
        have x1 : w1.cell? ⟨b1 + 1 + 1, 1, none⟩ = some (.int .i64 0) := (blk_cell E2.out 1).trans rfl
        have f0 := blk_frozen E2.out 0
        have f1 := blk_frozen E2.out 1
        have f2 := blk_frozen E3.out 0
        have x2 : w1.cell? ⟨b1 + 1 + 1 + 1, 0, none⟩ = some (.int .i64 0) := (blk_cell E3.out 0).trans rfl
        have N23 : b1 + 1 + 1 ≠ b1 + 1 + 1 + 1 := by omega
        have N32 : b1 + 1 + 1 + 1 ≠ b1 + 1 + 1 := by omega
        have G2 : w.heap.size ≤ b1 + 1 + 1 := by omega
        have G3 : w.heap.size ≤ b1 + 1 + 1 + 1 := by omega
        have y0 : w1.cell? ⟨b1 + 1, 0, none⟩ = some (.int .i64 a2_0) := (blk_cell E1.out 0).trans rfl
        go_wp2
        clear x0 x1 f0 f1 f2 x2 y0
        try clear d2
        clear d1
        refine start_ (n := 11) (S := fun w' => w'.cell? ⟨b1, 0, none⟩ = some (.int .i64 a1_0) ∧ w'.cell? ⟨b1, 1, none⟩ = some (.int .i64 a1_1) ∧ w'.cell? ⟨b1 + 1, 0, none⟩ = some (.int .i64 a2_0) ∧ w'.cell? ⟨b1 + 1, 1, none⟩ = some (.int .i64 a2_1)) (ds := []) #[false, false, false, false, false, false, false, false, false, false, false] (by kernel_rfl) rfl rfl ⟨(blk_cell (blk_drew E0.out) 0).trans rfl, (blk_cell (blk_drew E0.out) 1).trans rfl, (blk_cell (blk_drew E1.out) 0).trans rfl, (blk_cell (blk_drew E1.out) 1).trans rfl⟩ (fun hHeld => ?_); refine with_tabW num_reckon.tab7 num_reckon.bits7 (fun HT_ HW_ => ?_)
        replace HB := Aside0.mk (below_drew1 HB.out)
        replace E0 := Aside0.mk (blk_drew E0.out)
        replace E1 := Aside0.mk (blk_drew E1.out)
        replace E2 := Aside0.mk (blk_drew E2.out)
        replace E3 := Aside0.mk (blk_drew E3.out)
        generalize w1.drew = w2 at HB E0 E1 E2 E3 hHeld ⊢
        refine pure_ (i := 1) (N := some 26) (v := ?_) (a' := ?_) #[false, true, false, false, false, false, false, false, false, false, false] rfl rfl (by kernel_rfl) (fun _ _ _ h => num_put (fn := Try.f67) rfl (N := 26) (by decide) (by decide) h) (Or.inl ⟨by rfl, ?_⟩) ?_ ?_
        rotate_left
        · intro w'
          go_simp
          with_reducible rfl
        rotate_left
        · simp only [Act.put, List.setIfInBounds_toArray, List.set_cons_zero, List.set_cons_succ]
          rfl
        refine take_ (i := 3) (N := some 28) (v := ?_) (a' := ?_) #[false, true, false, true, false, false, false, false, false, false, false] rfl rfl (take_ofW HT_.out HW_.out (by kernel_rfl)) (fun _ _ _ h => num_put (fn := Try.f67) rfl (N := 28) (by decide) (by decide) h) (Or.inl ⟨by rfl, ?_⟩) hHeld ?_ ?_
        rotate_left
        · rintro w' ⟨s0, s1, s2, s3⟩
          go_simp
          with_reducible rfl
        rotate_left
        · simp only [Act.put, List.setIfInBounds_toArray, List.set_cons_zero, List.set_cons_succ]
          rfl
        refine take_ (i := 5) (N := some 30) (v := ?_) (a' := ?_) #[false, true, false, true, false, true, false, false, false, false, false] rfl rfl (take_ofW HT_.out HW_.out (by kernel_rfl)) (fun _ _ _ h => num_put (fn := Try.f67) rfl (N := 30) (by decide) (by decide) h) (Or.inl ⟨by rfl, ?_⟩) hHeld ?_ ?_
        rotate_left
        · rintro w' ⟨s0, s1, s2, s3⟩
          go_simp
          with_reducible rfl
        rotate_left
        · simp only [Act.put, List.setIfInBounds_toArray, List.set_cons_zero, List.set_cons_succ]
          rfl
        refine one_ (i := 0) (N := some 25) #[true, true, false, true, false, true, false, false, false, false, false] rfl rfl (one_of HT_.out (by kernel_rfl)) (by decide) (fun K hK => ?_)
        refine goes_ Try.func112 (by kernel_rfl) rfl #[] (by rfl) rfl rfl (by first | rfl | simp) ?_
        refine (num_operations.calls _).mono ?_
        rintro e w3 ⟨rfl, hm, hm2, hb⟩
        refine ⟨_, rfl, ?_⟩
        replace E0 := Aside0.mk (blk_below E0.out hb)
        replace E1 := Aside0.mk (blk_below E1.out hb)
        replace E2 := Aside0.mk (blk_below E2.out hb)
        replace E3 := Aside0.mk (blk_below E3.out hb)
        replace HB := Aside0.mk (below_step HB.out hb)
        have EM := Aside0.mk hm
        clear hb hm hm2
        refine hK.out _ _ ⟨(blk_cell E0.out 0).trans rfl, (blk_cell E0.out 1).trans rfl, (blk_cell E1.out 0).trans rfl, (blk_cell E1.out 1).trans rfl⟩ (fun hHeld => ?_)
        clear hK K
        refine norm_ (a' := ?_) ?_ ?_
        rotate_left
        · show Act.put _ (some 25) _ = _
          simp only [Act.put, List.setIfInBounds_toArray, List.set_cons_zero, List.set_cons_succ]
          rfl
        generalize w2.heap.size = m at EM ⊢
        refine two_ (i := 2) (j := 4) (Ni := some 27) (Nj := some 29) #[true, true, true, true, false, true, false, false, false, false, false] #[true, true, false, true, true, true, false, false, false, false, false] rfl rfl rfl rfl (two_of HT_.out (by kernel_rfl)) (by decide) (by decide) (fun K hK => ?_) (fun K hK => ?_)
        focus
          refine val_ (v := .func (.func g) #[] #[]) (by rfl) rfl ?_ ?_
          · have he := HLK.out m _ EM.out
            unfold execOp
            simp [Act.eval, Sem.run_bind, he, Result.andThen]
          refine hK.out _ _ ⟨(blk_cell E0.out 0).trans rfl, (blk_cell E0.out 1).trans rfl, (blk_cell E1.out 0).trans rfl, (blk_cell E1.out 1).trans rfl⟩ (fun hHeld => ?_)
          clear hK K
          refine norm_ (a' := ?_) ?_ ?_
          rotate_left
          · show Act.put _ (some 27) _ = _
            simp only [Act.put, List.setIfInBounds_toArray, List.set_cons_zero, List.set_cons_succ]
            rfl
          refine one_ (i := 4) (N := some 29) #[true, true, true, true, true, true, false, false, false, false, false] rfl rfl (one_of HT_.out (by kernel_rfl)) (by decide) (fun K hK => ?_)
          refine goes_ Try.func69 (by kernel_rfl) rfl #[.agg #[.int .i64 a1_0, .int .i64 a1_1]] (by rfl) rfl rfl (by (try simp only [List.map_toArray, List.map_cons, List.map_nil]); first | done | rfl) ?_
          refine (num_of.calls a1_0 a1_1 a1_0 a1_1 _ rfl).mono ?_
          rintro e w4 ⟨rfl, hb⟩
          refine ⟨_, rfl, ?_⟩
          replace E0 := Aside0.mk (blk_below E0.out hb)
          replace E1 := Aside0.mk (blk_below E1.out hb)
          replace E2 := Aside0.mk (blk_below E2.out hb)
          replace E3 := Aside0.mk (blk_below E3.out hb)
          replace EM := Aside0.mk (blk_below EM.out hb)
          replace HB := Aside0.mk (below_step HB.out hb)
          clear hb
          refine hK.out _ _ ⟨(blk_cell E0.out 0).trans rfl, (blk_cell E0.out 1).trans rfl, (blk_cell E1.out 0).trans rfl, (blk_cell E1.out 1).trans rfl⟩ (fun hHeld => ?_)
          clear hK K
          refine norm_ (a' := ?_) ?_ ?_
          rotate_left
          · show Act.put _ (some 29) _ = _
            simp only [Act.put, List.setIfInBounds_toArray, List.set_cons_zero, List.set_cons_succ]
            rfl
          refine one_ (i := 6) (N := some 31) #[true, true, true, true, true, true, true, false, false, false, false] rfl rfl (one_of HT_.out (by kernel_rfl)) (by decide) (fun K hK => ?_)
          refine goes_ Try.func69 (by kernel_rfl) rfl #[.agg #[.int .i64 a2_0, .int .i64 a2_1]] (by rfl) rfl rfl (by (try simp only [List.map_toArray, List.map_cons, List.map_nil]); first | done | rfl) ?_
          refine (num_of.calls a2_0 a2_1 a2_0 a2_1 _ rfl).mono ?_
          rintro e w4 ⟨rfl, hb⟩
          refine ⟨_, rfl, ?_⟩
          replace E0 := Aside0.mk (blk_below E0.out hb)
          replace E1 := Aside0.mk (blk_below E1.out hb)
          replace E2 := Aside0.mk (blk_below E2.out hb)
          replace E3 := Aside0.mk (blk_below E3.out hb)
          replace EM := Aside0.mk (blk_below EM.out hb)
          replace HB := Aside0.mk (below_step HB.out hb)
          clear hb
          refine hK.out _ _ ⟨(blk_cell E0.out 0).trans rfl, (blk_cell E0.out 1).trans rfl, (blk_cell E1.out 0).trans rfl, (blk_cell E1.out 1).trans rfl⟩ (fun hHeld => ?_)
          clear hK K
          refine norm_ (a' := ?_) ?_ ?_
          rotate_left
          · show Act.put _ (some 31) _ = _
            simp only [Act.put, List.setIfInBounds_toArray, List.set_cons_zero, List.set_cons_succ]
            rfl
        rotate_left
        focus
          refine goes_ Try.func69 (by kernel_rfl) rfl #[.agg #[.int .i64 a1_0, .int .i64 a1_1]] (by rfl) rfl rfl (by (try simp only [List.map_toArray, List.map_cons, List.map_nil]); first | done | rfl) ?_
          refine (num_of.calls a1_0 a1_1 a1_0 a1_1 _ rfl).mono ?_
          rintro e w4 ⟨rfl, hb⟩
          refine ⟨_, rfl, ?_⟩
          replace E0 := Aside0.mk (blk_below E0.out hb)
          replace E1 := Aside0.mk (blk_below E1.out hb)
          replace E2 := Aside0.mk (blk_below E2.out hb)
          replace E3 := Aside0.mk (blk_below E3.out hb)
          replace EM := Aside0.mk (blk_below EM.out hb)
          replace HB := Aside0.mk (below_step HB.out hb)
          clear hb
          refine hK.out _ _ ⟨(blk_cell E0.out 0).trans rfl, (blk_cell E0.out 1).trans rfl, (blk_cell E1.out 0).trans rfl, (blk_cell E1.out 1).trans rfl⟩ (fun hHeld => ?_)
          clear hK K
          refine norm_ (a' := ?_) ?_ ?_
          rotate_left
          · show Act.put _ (some 29) _ = _
            simp only [Act.put, List.setIfInBounds_toArray, List.set_cons_zero, List.set_cons_succ]
            rfl
          refine two_ (i := 2) (j := 6) (Ni := some 27) (Nj := some 31) #[true, true, true, true, true, true, false, false, false, false, false] #[true, true, false, true, true, true, true, false, false, false, false] rfl rfl rfl rfl (two_of HT_.out (by kernel_rfl)) (by decide) (by decide) (fun K hK => ?_) (fun K hK => ?_)
        focus
          refine val_ (v := .func (.func g) #[] #[]) (by rfl) rfl ?_ ?_
          · have he := HLK.out m _ EM.out
            unfold execOp
            simp [Act.eval, Sem.run_bind, he, Result.andThen]
          refine hK.out _ _ ⟨(blk_cell E0.out 0).trans rfl, (blk_cell E0.out 1).trans rfl, (blk_cell E1.out 0).trans rfl, (blk_cell E1.out 1).trans rfl⟩ (fun hHeld => ?_)
          clear hK K
          refine norm_ (a' := ?_) ?_ ?_
          rotate_left
          · show Act.put _ (some 27) _ = _
            simp only [Act.put, List.setIfInBounds_toArray, List.set_cons_zero, List.set_cons_succ]
            rfl
          refine one_ (i := 6) (N := some 31) #[true, true, true, true, true, true, true, false, false, false, false] rfl rfl (one_of HT_.out (by kernel_rfl)) (by decide) (fun K hK => ?_)
          refine goes_ Try.func69 (by kernel_rfl) rfl #[.agg #[.int .i64 a2_0, .int .i64 a2_1]] (by rfl) rfl rfl (by (try simp only [List.map_toArray, List.map_cons, List.map_nil]); first | done | rfl) ?_
          refine (num_of.calls a2_0 a2_1 a2_0 a2_1 _ rfl).mono ?_
          rintro e w4 ⟨rfl, hb⟩
          refine ⟨_, rfl, ?_⟩
          replace E0 := Aside0.mk (blk_below E0.out hb)
          replace E1 := Aside0.mk (blk_below E1.out hb)
          replace E2 := Aside0.mk (blk_below E2.out hb)
          replace E3 := Aside0.mk (blk_below E3.out hb)
          replace EM := Aside0.mk (blk_below EM.out hb)
          replace HB := Aside0.mk (below_step HB.out hb)
          clear hb
          refine hK.out _ _ ⟨(blk_cell E0.out 0).trans rfl, (blk_cell E0.out 1).trans rfl, (blk_cell E1.out 0).trans rfl, (blk_cell E1.out 1).trans rfl⟩ (fun hHeld => ?_)
          clear hK K
          refine norm_ (a' := ?_) ?_ ?_
          rotate_left
          · show Act.put _ (some 31) _ = _
            simp only [Act.put, List.setIfInBounds_toArray, List.set_cons_zero, List.set_cons_succ]
            rfl
        rotate_left
        focus
          refine goes_ Try.func69 (by kernel_rfl) rfl #[.agg #[.int .i64 a2_0, .int .i64 a2_1]] (by rfl) rfl rfl (by (try simp only [List.map_toArray, List.map_cons, List.map_nil]); first | done | rfl) ?_
          refine (num_of.calls a2_0 a2_1 a2_0 a2_1 _ rfl).mono ?_
          rintro e w4 ⟨rfl, hb⟩
          refine ⟨_, rfl, ?_⟩
          replace E0 := Aside0.mk (blk_below E0.out hb)
          replace E1 := Aside0.mk (blk_below E1.out hb)
          replace E2 := Aside0.mk (blk_below E2.out hb)
          replace E3 := Aside0.mk (blk_below E3.out hb)
          replace EM := Aside0.mk (blk_below EM.out hb)
          replace HB := Aside0.mk (below_step HB.out hb)
          clear hb
          refine hK.out _ _ ⟨(blk_cell E0.out 0).trans rfl, (blk_cell E0.out 1).trans rfl, (blk_cell E1.out 0).trans rfl, (blk_cell E1.out 1).trans rfl⟩ (fun hHeld => ?_)
          clear hK K
          refine norm_ (a' := ?_) ?_ ?_
          rotate_left
          · show Act.put _ (some 31) _ = _
            simp only [Act.put, List.setIfInBounds_toArray, List.set_cons_zero, List.set_cons_succ]
            rfl
          refine one_ (i := 2) (N := some 27) #[true, true, true, true, true, true, true, false, false, false, false] rfl rfl (one_of HT_.out (by kernel_rfl)) (by decide) (fun K hK => ?_)
          refine val_ (v := .func (.func g) #[] #[]) (by rfl) rfl ?_ ?_
          · have he := HLK.out m _ EM.out
            unfold execOp
            simp [Act.eval, Sem.run_bind, he, Result.andThen]
          refine hK.out _ _ ⟨(blk_cell E0.out 0).trans rfl, (blk_cell E0.out 1).trans rfl, (blk_cell E1.out 0).trans rfl, (blk_cell E1.out 1).trans rfl⟩ (fun hHeld => ?_)
          clear hK K
          refine norm_ (a' := ?_) ?_ ?_
          rotate_left
          · show Act.put _ (some 27) _ = _
            simp only [Act.put, List.setIfInBounds_toArray, List.set_cons_zero, List.set_cons_succ]
            rfl
        all_goals
          refine one_ (i := 7) (N := some 32) #[true, true, true, true, true, true, true, true, false, false, false] rfl rfl (one_of HT_.out (by kernel_rfl)) (by decide) (fun K hK => ?_)
          refine call_ g #[.agg #[.int .i64 a1_0, .int .i64 a1_1], .agg #[.int .i64 a2_0, .int .i64 a2_1]] (by rfl) rfl ?_ ?_
          · have he := fun w' => eg #[.agg #[.int .i64 a1_0, .int .i64 a1_1], .agg #[.int .i64 a2_0, .int .i64 a2_1]] w'
            unfold execOp
            simp [resolve, Deferred.ofValue, invoke, Act.eval, he]
          refine (HOP.out _ _ _ _ p1 p2 _ HP.out).mono ?_
          rintro e w5 ⟨rfl, hb⟩
          refine ⟨_, rfl, ?_⟩
          replace E0 := Aside0.mk (blk_below E0.out hb)
          replace E1 := Aside0.mk (blk_below E1.out hb)
          replace E2 := Aside0.mk (blk_below E2.out hb)
          replace E3 := Aside0.mk (blk_below E3.out hb)
          replace EM := Aside0.mk (blk_below EM.out hb)
          replace HB := Aside0.mk (below_step HB.out hb)
          clear hb
          refine hK.out _ _ ⟨(blk_cell E0.out 0).trans rfl, (blk_cell E0.out 1).trans rfl, (blk_cell E1.out 0).trans rfl, (blk_cell E1.out 1).trans rfl⟩ (fun hHeld => ?_)
          clear hK K
          refine norm_ (a' := ?_) ?_ ?_
          rotate_left
          · show Act.put _ (some 32) _ = _
            simp only [Act.put, List.setIfInBounds_toArray, List.set_cons_zero, List.set_cons_succ]
            rfl
          refine one_ (i := 8) (N := some 33) #[true, true, true, true, true, true, true, true, true, false, false] rfl rfl (one_of HT_.out (by kernel_rfl)) (by decide) (fun K hK => ?_)
          cases z with
          | error pe =>
            refine goesT_ Try.func73 (by kernel_rfl) rfl #[.agg #[.int .i64 p1, .int .i64 p2]] (by rfl) (by rfl) (by (try simp only [List.map_toArray, List.map_cons, List.map_nil]); first | done | rfl) ?_
            refine (num_ratio_num.throws k p1 p2 pe _ HZ.out).mono ?_
            rintro e w6 ⟨rfl, hb⟩
            refine ⟨_, rfl, ?_⟩
            replace E0 := Aside0.mk (blk_below E0.out hb)
            replace E1 := Aside0.mk (blk_below E1.out hb)
            replace E2 := Aside0.mk (blk_below E2.out hb)
            replace E3 := Aside0.mk (blk_below E3.out hb)
            replace EM := Aside0.mk (blk_below EM.out hb)
            replace HB := Aside0.mk (below_step HB.out hb)
            clear hb
            simp only [exc, Option.some.injEq, Prod.mk.injEq] at HH
            obtain ⟨rfl, rfl, rfl⟩ := HH
            show Leaves _ _ _ _ _ _ _
            exact num_catch.door_caught rfl _ _ _ (b1 + 1 + 1) (b1 + 1 + 1 + 1) _ _ _ rfl rfl E2.out E3.out N23 HB.out G2 G3
          | ok bz =>
            obtain ⟨z1, z2⟩ := bz
            refine goes_ Try.func73 (by kernel_rfl) rfl #[.agg #[.int .i64 p1, .int .i64 p2]] (by rfl) rfl rfl (by (try simp only [List.map_toArray, List.map_cons, List.map_nil]); first | done | rfl) ?_
            refine (num_ratio_num.calls k p1 p2 z1 z2 _ HZ.out).mono ?_
            rintro e w6 ⟨rfl, hb⟩
            refine ⟨_, rfl, ?_⟩
            replace E0 := Aside0.mk (blk_below E0.out hb)
            replace E1 := Aside0.mk (blk_below E1.out hb)
            replace E2 := Aside0.mk (blk_below E2.out hb)
            replace E3 := Aside0.mk (blk_below E3.out hb)
            replace EM := Aside0.mk (blk_below EM.out hb)
            replace HB := Aside0.mk (below_step HB.out hb)
            clear hb
            refine hK.out _ _ ⟨(blk_cell E0.out 0).trans rfl, (blk_cell E0.out 1).trans rfl, (blk_cell E1.out 0).trans rfl, (blk_cell E1.out 1).trans rfl⟩ (fun hHeld => ?_)
            clear hK K
            refine norm_ (a' := ?_) ?_ ?_
            rotate_left
            · show Act.put _ (some 33) _ = _
              simp only [Act.put, List.setIfInBounds_toArray, List.set_cons_zero, List.set_cons_succ]
              rfl
            simp only [exc, Option.some.injEq, Prod.mk.injEq] at HH
            obtain ⟨rfl, rfl, rfl⟩ := HH
            refine one_ (i := 9) (N := none) #[true, true, true, true, true, true, true, true, true, true, false] rfl rfl (one_of HT_.out (by kernel_rfl)) (by decide) (fun K hK => ?_)
            have x0 := (blk_cell E2.out 0).trans rfl
            have x1 := (blk_cell E2.out 1).trans rfl
            have f0 := blk_frozen E2.out 0
            have f1 := blk_frozen E2.out 1
            refine skip_ (w1 := ?_) (by rfl) rfl ?_ ?_
            rotate_left
            · go_simp
              rfl
            have N02 : b1 ≠ b1 + 1 + 1 := by omega
            have N12 : b1 + 1 ≠ b1 + 1 + 1 := by omega
            have N03 : b1 ≠ b1 + 1 + 1 + 1 := by omega
            have N13 : b1 + 1 ≠ b1 + 1 + 1 + 1 := by omega
            replace E0 := Aside0.mk (blk_far (blk_far E0.out (p := ⟨b1 + 1 + 1, 0, none⟩) N02 (.int .i64 z1)) (p := ⟨b1 + 1 + 1, 1, none⟩) N02 (.int .i64 z2))
            replace E1 := Aside0.mk (blk_far (blk_far E1.out (p := ⟨b1 + 1 + 1, 0, none⟩) N12 (.int .i64 z1)) (p := ⟨b1 + 1 + 1, 1, none⟩) N12 (.int .i64 z2))
            replace E2 := Aside0.mk (blk_put (blk_put E2.out 0 (.int .i64 z1) rfl) 1 (.int .i64 z2) rfl)
            replace E3 := Aside0.mk (blk_far (blk_far E3.out (p := ⟨b1 + 1 + 1, 0, none⟩) N32 (.int .i64 z1)) (p := ⟨b1 + 1 + 1, 1, none⟩) N32 (.int .i64 z2))
            replace HB := Aside0.mk (below_set (below_set HB.out (g := b1 + 1 + 1) (j := 0) (v := .int .i64 z1) G2) (g := b1 + 1 + 1) (j := 1) (v := .int .i64 z2) G2)
            clear x0 x1 f0 f1
            refine hK.out _ _ ⟨(blk_cell E0.out 0).trans rfl, (blk_cell E0.out 1).trans rfl, (blk_cell E1.out 0).trans rfl, (blk_cell E1.out 1).trans rfl⟩ (fun hHeld => ?_)
            clear hK K
            refine one_ (i := 10) (N := none) #[true, true, true, true, true, true, true, true, true, true, true] rfl rfl (one_of HT_.out (by kernel_rfl)) (by decide) (fun K hK => ?_)
            have x2 := (blk_cell E3.out 0).trans rfl
            have f2 := blk_frozen E3.out 0
            refine skip_ (w1 := ?_) (by rfl) rfl ?_ ?_
            rotate_left
            · go_simp
              rfl
            replace E0 := Aside0.mk (blk_far E0.out (p := ⟨b1 + 1 + 1 + 1, 0, none⟩) N03 (.int .i64 0))
            replace E1 := Aside0.mk (blk_far E1.out (p := ⟨b1 + 1 + 1 + 1, 0, none⟩) N13 (.int .i64 0))
            replace E2 := Aside0.mk (blk_far E2.out (p := ⟨b1 + 1 + 1 + 1, 0, none⟩) N23 (.int .i64 0))
            replace E3 := Aside0.mk (blk_put E3.out 0 (.int .i64 0) rfl)
            replace HB := Aside0.mk (below_set HB.out (g := b1 + 1 + 1 + 1) (j := 0) (v := .int .i64 0) G3)
            clear x2 f2
            refine hK.out _ _ ⟨(blk_cell E0.out 0).trans rfl, (blk_cell E0.out 1).trans rfl, (blk_cell E1.out 0).trans rfl, (blk_cell E1.out 1).trans rfl⟩ (fun hHeld => ?_)
            clear hK K
            refine done_ (done_of HT_.out (by kernel_rfl)) ?_
            try go_wp2
            show Leaves _ _ _ _ _ _ _
            exact num_catch.door_ok rfl _ _ _ (b1 + 1 + 1) (b1 + 1 + 1 + 1) _ _ _ rfl rfl E2.out E3.out HB.out
  · have c1 : (ec != 0) = true := bne_iff_ne.mpr c0
    rw [if_neg c0] at HH
    simp only [Option.some.injEq, Prod.mk.injEq] at HH
    obtain ⟨rfl, rfl, rfl⟩ := HH
    go_enter_defers Try.func67, Try.ntmps67
    go_wp2_with (fail)
    simp only [← HW4.out]
    rw [show b1 + 1 + 1 + 1 + 1 = W4.heap.size from HS4.out.symm]
    refine HC.out.mono ?_
    rintro e w1 ⟨rfl, hb⟩
    have HB := Aside0.mk (below_step HB5.out hb)
    have E0 := Aside0.mk (blk_below D0.out hb)
    have E1 := Aside0.mk (blk_below D1.out hb)
    have E2 := Aside0.mk (blk_below D2.out hb)
    have E3 := Aside0.mk (blk_below D3.out hb)
    clear hb D0 D1 D2 D3 HB5 HC
    have x0 : w1.cell? ⟨b1 + 1 + 1, 0, none⟩ = some (.int .i64 0) := (blk_cell E2.out 0).trans rfl
    have x1 : w1.cell? ⟨b1 + 1 + 1, 1, none⟩ = some (.int .i64 0) := (blk_cell E2.out 1).trans rfl
    have f0 := blk_frozen E2.out 0
    have f1 := blk_frozen E2.out 1
    have f2 := blk_frozen E3.out 0
    have x2 : w1.cell? ⟨b1 + 1 + 1 + 1, 0, none⟩ = some (.int .i64 0) := (blk_cell E3.out 0).trans rfl
    have N23 : b1 + 1 + 1 ≠ b1 + 1 + 1 + 1 := by omega
    have N32 : b1 + 1 + 1 + 1 ≠ b1 + 1 + 1 := by omega
    have G2 : w.heap.size ≤ b1 + 1 + 1 := by omega
    have G3 : w.heap.size ≤ b1 + 1 + 1 + 1 := by omega
    go_wp2
    show Leaves _ _ _ _ _ _ _
    exact num_catch.door_ret rfl _ _ _ (b1 + 1 + 1) (b1 + 1 + 1 + 1) _ _ _ rfl rfl (blk_far (blk_put (blk_put E2.out 0 _ rfl) 1 _ rfl) N23 _) (blk_put (blk_far (blk_far E3.out N32 _) N32 _) 0 _ rfl) (below_set (below_set (below_set HB.out G2) G2) G3)
theorem num_reckon.calls (k : Nat) (a0 : Int) (a1_0 : Int) (a1_1 : Int) (a2_0 : Int) (a2_1 : Int) (r1 : Int) (r2 : Int) (r3 : Int) (w : World) (h : num_reckon.f k a0 a1_0 a1_1 a2_0 a2_1 = some (r1, r2, r3)) :
    Calls Try.prog 67 #[.int .u8 a0, .agg #[.int .i64 a1_0, .int .i64 a1_1], .agg #[.int .i64 a2_0, .int .i64 a2_1]] w fun e w' => e = .returned (.tuple #[.agg #[.int .i64 r1, .int .i64 r2], .int .i64 r3]) ∧ Below w.heap.size w w' := by
  unfold num_reckon.f at h
  by_cases s43 : a0 = 43
  · subst s43
    rw [if_pos rfl] at h
    exact num_reckon.core 43 118 num_ratio_plus.f false (enters_ Try.func118 (by kernel_rfl) rfl) (fun n d n' d' r1 r2 W hh => num_ratio_plus.calls n d n' d' r1 r2 W hh) (fun m w hh => num_ops.look m w _ _ hh 0 (by rfl)) rfl k a1_0 a1_1 a2_0 a2_1 r1 r2 r3 w h
  rw [if_neg s43] at h
  by_cases s45 : a0 = 45
  · subst s45
    rw [if_pos rfl] at h
    exact num_reckon.core 45 124 num_ratio_minus.f false (enters_ Try.func124 (by kernel_rfl) rfl) (fun n d n' d' r1 r2 W hh => num_ratio_minus.calls n d n' d' r1 r2 W hh) (fun m w hh => num_ops.look m w _ _ hh 1 (by rfl)) rfl k a1_0 a1_1 a2_0 a2_1 r1 r2 r3 w h
  rw [if_neg s45] at h
  by_cases s42 : a0 = 42
  · subst s42
    rw [if_pos rfl] at h
    exact num_reckon.core 42 94 num_ratio_times.f false (enters_ Try.func94 (by kernel_rfl) rfl) (fun n d n' d' r1 r2 W hh => num_ratio_times.calls n d n' d' r1 r2 W hh) (fun m w hh => num_ops.look m w _ _ hh 2 (by rfl)) rfl k a1_0 a1_1 a2_0 a2_1 r1 r2 r3 w h
  rw [if_neg s42] at h
  by_cases s47 : a0 = 47
  · subst s47
    rw [if_pos rfl] at h
    exact num_reckon.core 47 125 num_ratio_by.f true (enters_ Try.func125 (by kernel_rfl) rfl) (fun n d n' d' r1 r2 W hh => num_ratio_by.calls n d n' d' r1 r2 W hh) (fun m w hh => num_ops.look m w _ _ hh 3 (by rfl)) rfl k a1_0 a1_1 a2_0 a2_1 r1 r2 r3 w h
  rw [if_neg s47] at h
  cases h
/-! ### num_Add: function 18 -/
def num_Add.f (k : Nat) (a0_0 : Int) (a0_1 : Int) (a1_0 : Int) (a1_1 : Int) : Option (Int × Int × Int) := (num_reckon.f k 43 a0_0 a0_1 a1_0 a1_1).bind fun bt155 => (some (bt155.1, bt155.2.1, bt155.2.2))
theorem num_Add.mono : ∀ a0 a1 a2 a3 k, LeO (num_Add.f k a0 a1 a2 a3) (num_Add.f (k + 1) a0 a1 a2 a3) := by
  intro a0 a1 a2 a3 k
  unfold num_Add.f
  repeat' first
      | (with_reducible exact num_reckon.mono _ _ _ _ _ _)
      | (with_reducible exact LeO.refl _)
      | (with_reducible exact LeO.none _)
      | (with_reducible refine LeO.ite ?_ ?_)
      | (with_reducible refine LeO.bind ?_ (fun _ => ?_))
      | (with_reducible refine LeO.exc (fun _ => ?_) (fun _ => ?_))
      | exact num_reckon.mono _ _ _ _ _ _
      | exact LeO.none _
      | refine LeO.ite ?_ ?_
      | refine LeO.bind ?_ (fun _ => ?_)
set_option maxHeartbeats 8000000 in
set_option maxRecDepth 100000 in
theorem num_Add.calls (k : Nat) (a0_0 : Int) (a0_1 : Int) (a1_0 : Int) (a1_1 : Int) (r1 : Int) (r2 : Int) (r3 : Int) (w : World) (h : num_Add.f k a0_0 a0_1 a1_0 a1_1 = some (r1, r2, r3)) :
    Calls Try.prog 18 #[.agg #[.int .i64 a0_0, .int .i64 a0_1], .agg #[.int .i64 a1_0, .int .i64 a1_1]] w fun e w' => e = .returned (.tuple #[.agg #[.int .i64 r1, .int .i64 r2], .int .i64 r3]) ∧ Below w.heap.size w w' := by
 have hu23 := Try.underlying23
 have HB := Aside0.mk (Below.refl w.heap.size w)
 have H : ((num_reckon.f k 43 a0_0 a0_1 a1_0 a1_1).bind fun bt155 => (some (bt155.1, bt155.2.1, bt155.2.2))) = some (r1, r2, r3) := h
 clear h
 replace H := Option.bind_eq_some_iff.mp H
 obtain ⟨⟨t155, t156, t157⟩, A30, H⟩ := H
 replace H : (some (t155, t156, t157)) = some (r1, r2, r3) := H
 have A3 := Aside0.mk A30
 clear A30
 simp only [Option.some.injEq, Prod.mk.injEq] at H
 obtain ⟨rfl, rfl, rfl⟩ := H
 go_enter Try.func18, Try.ntmps18
 go_wp2_with (first | ((with_reducible refine gate_dst (N := 2) rfl ?_); refine box_event ?hg (N := 2) ?hd (cs := #[.int .i64 a0_0, .int .i64 a0_1]) (t := 23) ?hr ?_; (case hd => rfl); (case hg => rfl); (case hr => first | (go_simp; done) | (go_simp; rfl)); intro gb152 hg w4 hbox hb; have BK152 := Aside0.mk hbox; have GW152 := bwg_ HB hg; have GE152 := bwg_ HB hg; replace HB := bws_ HB hb; clear hb hbox hg) | ((with_reducible refine gate_dst (N := 3) rfl ?_); refine box_event ?hg (N := 3) ?hd (cs := #[.int .i64 a1_0, .int .i64 a1_1]) (t := 23) ?hr ?_; (case hd => rfl); (case hg => rfl); (case hr => first | (go_simp; done) | (go_simp; rfl)); intro gb153 hg w5 hbox hb; have BK153 := Aside0.mk hbox; have GW153 := bwg_ HB hg; have GE153 := bwg_ HB hg; replace HB := bws_ HB hb; have NB152_153 := bkl_ BK152 hg; have NB153_152 := bkr_ BK152 hg; replace BK152 := bkb_ BK152 hb; clear hb hbox hg) | ((with_reducible refine gate_dst (N := 4) rfl ?_); refine box_event ?hg (N := 4) ?hd (cs := #[.int .i64 0, .int .i64 0]) (t := 23) ?hr ?_; (case hd => rfl); (case hg => rfl); (case hr => first | (go_simp; done) | (go_simp; rfl)); intro gb154 hg w6 hbox hb; have BK154 := Aside0.mk hbox; have GW154 := bwg_ HB hg; have GE154 := bwg_ HB hg; replace HB := bws_ HB hb; have NB152_154 := bkl_ BK152 hg; have NB154_152 := bkr_ BK152 hg; replace BK152 := bkb_ BK152 hb; have NB153_154 := bkl_ BK153 hg; have NB154_153 := bkr_ BK153 hg; replace BK153 := bkb_ BK153 hb; clear hb hbox hg; have hnb7 := NB152_153.out; have hnc7 := NB153_152.out; have hnb8 := NB152_154.out; have hnc8 := NB154_152.out; obtain ⟨hcz9_0, hcz9_1, hfz9_0, hfz9_1⟩ := bc2_ BK152; have hnb10 := NB153_154.out; have hnc10 := NB154_153.out; obtain ⟨hcz11_0, hcz11_1, hfz11_0, hfz11_1⟩ := bc2_ BK153) | ((with_reducible refine gate_callee (f := 67) rfl ?_); refine gla_ (some 8) Try.func67 #[.int .u8 43, .agg #[.int .i64 a0_0, .int .i64 a0_1], .agg #[.int .i64 a1_0, .int .i64 a1_1]] ?_; (with_reducible refine (num_reckon.calls k 43 a0_0 a0_1 a1_0 a1_1 t155 t156 t157 _ A3.out).mono ?_); rintro e w12 ⟨rfl, hb⟩; refine ⟨_, rfl, ?_⟩; replace BK152 := bkb_ BK152 hb; replace BK153 := bkb_ BK153 hb; replace BK154 := bkb_ BK154 hb; replace HB := bws_ HB hb; (try clear hb); (try clear hb2); (try clear hk); (try clear hi); obtain ⟨hcz13_0, hcz13_1, hfz13_0, hfz13_1⟩ := bc2_ BK154))
 refine bodyPost_ret (results_ct rfl _ _ gb154 23 #[.int .i64 t155, .int .i64 t156] (0, 0) _ rfl (by refine bp_ (cs := #[.int .i64 t155, .int .i64 0]) ?_ 1; refine bp_ (cs := #[.int .i64 0, .int .i64 0]) ?_ 0; exact bk_ BK154) Try.underlying23 rfl (by kernel_rfl)) rfl ?_
 exact ⟨by first | rfl | (simp [*] <;> rfl), bw_ HB⟩
/-! ### cmp_isNaN_int: function 126 -/
def cmp_isNaN_int.f (a0 : Int) : Option (Bool) := some (a0 != a0)
set_option maxHeartbeats 8000000 in
set_option maxRecDepth 100000 in
theorem cmp_isNaN_int.calls (a0 : Int) (r : Bool) (w : World) (h : cmp_isNaN_int.f a0 = some r) :
    Calls Try.prog 126 #[.int .i64 a0] w fun e w' => e = .returned (.bool r) ∧ Drawn0 w w' := by
  have H : (some (a0 != a0)) = some r := h
  clear h
  obtain rfl := Option.some.inj H
  go_enter Try.func126, Try.ntmps126
  go_wp2
  go_ret
  exact ⟨by first | rfl | (simp; done) | (simp [*]; done), by repeat (first | exact Drawn0.refl _ | apply Drawn0.step)⟩
/-! ### cmp_Compare_int: function 113 -/
def cmp_Compare_int.f (a0 : Int) (a1 : Int) : Option (Int) := (cmp_isNaN_int.f a0).bind fun t158 => ((cmp_isNaN_int.f a1).bind fun t159 => (if t158 = true then (if t159 = true then (some 0) else (some (-1))) else (if t159 = true then (some 1) else (if a0 < a1 then (some (-1)) else (if a0 > a1 then (some 1) else (some 0))))))
set_option maxHeartbeats 8000000 in
set_option maxRecDepth 100000 in
theorem cmp_Compare_int.calls (a0 : Int) (a1 : Int) (r : Int) (w : World) (h : cmp_Compare_int.f a0 a1 = some r) :
    Calls Try.prog 113 #[.int .i64 a0, .int .i64 a1] w fun e w' => e = .returned (.int .i64 r) ∧ Drawn0 w w' := by
 have H : ((cmp_isNaN_int.f a0).bind fun t158 => ((cmp_isNaN_int.f a1).bind fun t159 => (if t158 = true then (if t159 = true then (some 0) else (some (-1))) else (if t159 = true then (some 1) else (if a0 < a1 then (some (-1)) else (if a0 > a1 then (some 1) else (some 0))))))) = some r := h
 clear h
 replace H := Option.bind_eq_some_iff.mp H
 obtain ⟨t158, A30, H⟩ := H
 replace H : ((cmp_isNaN_int.f a1).bind fun t159 => (if t158 = true then (if t159 = true then (some 0) else (some (-1))) else (if t159 = true then (some 1) else (if a0 < a1 then (some (-1)) else (if a0 > a1 then (some 1) else (some 0)))))) = some r := H
 have A3 := Aside0.mk A30
 clear A30
 replace H := Option.bind_eq_some_iff.mp H
 obtain ⟨t159, A40, H⟩ := H
 replace H : (if t158 = true then (if t159 = true then (some 0) else (some (-1))) else (if t159 = true then (some 1) else (if a0 < a1 then (some (-1)) else (if a0 > a1 then (some 1) else (some 0))))) = some r := H
 have A4 := Aside0.mk A40
 clear A40
 by_cases c5 : t158 = true
 · subst c5
   have H1 : (if t159 = true then (some 0) else (some (-1))) = some r := by rw [if_pos rfl] at H; exact H
   clear H
   have H := H1
   clear H1
   by_cases c6 : t159 = true
   · subst c6
     have H1 : (some 0) = some r := by rw [if_pos rfl] at H; exact H
     clear H
     have H := H1
     clear H1
     obtain rfl := Option.some.inj H
     go_enter Try.func113, Try.ntmps113
     go_wp2_with (first | ((with_reducible refine gate_callee (f := 126) rfl ?_); refine gla_ (some 8) Try.func126 #[.int .i64 a0] ?_; (with_reducible refine (cmp_isNaN_int.calls a0 true _ A3.out).mono ?_); rintro e w' ⟨rfl, ⟨nd, rfl⟩⟩; refine ⟨_, rfl, ?_⟩) | ((with_reducible refine gate_callee (f := 126) rfl ?_); refine gla_ (some 10) Try.func126 #[.int .i64 a1] ?_; (with_reducible refine (cmp_isNaN_int.calls a1 true _ A4.out).mono ?_); rintro e w' ⟨rfl, ⟨nd, rfl⟩⟩; refine ⟨_, rfl, ?_⟩))
     go_ret
     exact ⟨by first | rfl | (simp; done) | (simp [*]; done), by repeat (first | exact Drawn0.refl _ | apply Drawn0.step)⟩
   · replace c6 := Bool.eq_false_iff.mpr c6
     subst c6
     have H1 : (some (-1)) = some r := by rw [if_neg (show ¬ (false = true) by decide)] at H; exact H
     clear H
     have H := H1
     clear H1
     obtain rfl := Option.some.inj H
     go_enter Try.func113, Try.ntmps113
     go_wp2_with (first | ((with_reducible refine gate_callee (f := 126) rfl ?_); refine gla_ (some 8) Try.func126 #[.int .i64 a0] ?_; (with_reducible refine (cmp_isNaN_int.calls a0 true _ A3.out).mono ?_); rintro e w' ⟨rfl, ⟨nd, rfl⟩⟩; refine ⟨_, rfl, ?_⟩) | ((with_reducible refine gate_callee (f := 126) rfl ?_); refine gla_ (some 10) Try.func126 #[.int .i64 a1] ?_; (with_reducible refine (cmp_isNaN_int.calls a1 false _ A4.out).mono ?_); rintro e w' ⟨rfl, ⟨nd, rfl⟩⟩; refine ⟨_, rfl, ?_⟩))
     go_ret
     exact ⟨by first | rfl | (simp; done) | (simp [*]; done), by repeat (first | exact Drawn0.refl _ | apply Drawn0.step)⟩
 · replace c5 := Bool.eq_false_iff.mpr c5
   subst c5
   have H1 : (if t159 = true then (some 1) else (if a0 < a1 then (some (-1)) else (if a0 > a1 then (some 1) else (some 0)))) = some r := by rw [if_neg (show ¬ (false = true) by decide)] at H; exact H
   clear H
   have H := H1
   clear H1
   by_cases c7 : t159 = true
   · subst c7
     have H1 : (some 1) = some r := by rw [if_pos rfl] at H; exact H
     clear H
     have H := H1
     clear H1
     obtain rfl := Option.some.inj H
     go_enter Try.func113, Try.ntmps113
     go_wp2_with (first | ((with_reducible refine gate_callee (f := 126) rfl ?_); refine gla_ (some 8) Try.func126 #[.int .i64 a0] ?_; (with_reducible refine (cmp_isNaN_int.calls a0 false _ A3.out).mono ?_); rintro e w' ⟨rfl, ⟨nd, rfl⟩⟩; refine ⟨_, rfl, ?_⟩) | ((with_reducible refine gate_callee (f := 126) rfl ?_); refine gla_ (some 10) Try.func126 #[.int .i64 a1] ?_; (with_reducible refine (cmp_isNaN_int.calls a1 true _ A4.out).mono ?_); rintro e w' ⟨rfl, ⟨nd, rfl⟩⟩; refine ⟨_, rfl, ?_⟩))
     go_ret
     exact ⟨by first | rfl | (simp; done) | (simp [*]; done), by repeat (first | exact Drawn0.refl _ | apply Drawn0.step)⟩
   · replace c7 := Bool.eq_false_iff.mpr c7
     subst c7
     have H1 : (if a0 < a1 then (some (-1)) else (if a0 > a1 then (some 1) else (some 0))) = some r := by rw [if_neg (show ¬ (false = true) by decide)] at H; exact H
     clear H
     have H := H1
     clear H1
     by_cases c8 : a0 < a1
     · rw [if_pos c8] at H
       have c8b0 : decide (a0 < a1) = true := decide_eq_true c8
       clear c8
       obtain rfl := Option.some.inj H
       go_enter Try.func113, Try.ntmps113
       go_wp2_with (first | ((with_reducible refine gate_callee (f := 126) rfl ?_); refine gla_ (some 8) Try.func126 #[.int .i64 a0] ?_; (with_reducible refine (cmp_isNaN_int.calls a0 false _ A3.out).mono ?_); rintro e w' ⟨rfl, ⟨nd, rfl⟩⟩; refine ⟨_, rfl, ?_⟩) | ((with_reducible refine gate_callee (f := 126) rfl ?_); refine gla_ (some 10) Try.func126 #[.int .i64 a1] ?_; (with_reducible refine (cmp_isNaN_int.calls a1 false _ A4.out).mono ?_); rintro e w' ⟨rfl, ⟨nd, rfl⟩⟩; refine ⟨_, rfl, ?_⟩))
       go_ret
       exact ⟨by first | rfl | (simp; done) | (simp [*]; done), by repeat (first | exact Drawn0.refl _ | apply Drawn0.step)⟩
     · rw [if_neg c8] at H
       have c8b0 : decide (a0 < a1) = false := decide_eq_false c8
       clear c8
       by_cases c9 : a0 > a1
       · rw [if_pos c9] at H
         have c9b0 : decide (a1 < a0) = true := decide_eq_true c9
         clear c9
         obtain rfl := Option.some.inj H
         go_enter Try.func113, Try.ntmps113
         go_wp2_with (first | ((with_reducible refine gate_callee (f := 126) rfl ?_); refine gla_ (some 8) Try.func126 #[.int .i64 a0] ?_; (with_reducible refine (cmp_isNaN_int.calls a0 false _ A3.out).mono ?_); rintro e w' ⟨rfl, ⟨nd, rfl⟩⟩; refine ⟨_, rfl, ?_⟩) | ((with_reducible refine gate_callee (f := 126) rfl ?_); refine gla_ (some 10) Try.func126 #[.int .i64 a1] ?_; (with_reducible refine (cmp_isNaN_int.calls a1 false _ A4.out).mono ?_); rintro e w' ⟨rfl, ⟨nd, rfl⟩⟩; refine ⟨_, rfl, ?_⟩))
         go_ret
         exact ⟨by first | rfl | (simp; done) | (simp [*]; done), by repeat (first | exact Drawn0.refl _ | apply Drawn0.step)⟩
       · rw [if_neg c9] at H
         have c9b0 : decide (a1 < a0) = false := decide_eq_false c9
         clear c9
         obtain rfl := Option.some.inj H
         go_enter Try.func113, Try.ntmps113
         go_wp2_with (first | ((with_reducible refine gate_callee (f := 126) rfl ?_); refine gla_ (some 8) Try.func126 #[.int .i64 a0] ?_; (with_reducible refine (cmp_isNaN_int.calls a0 false _ A3.out).mono ?_); rintro e w' ⟨rfl, ⟨nd, rfl⟩⟩; refine ⟨_, rfl, ?_⟩) | ((with_reducible refine gate_callee (f := 126) rfl ?_); refine gla_ (some 10) Try.func126 #[.int .i64 a1] ?_; (with_reducible refine (cmp_isNaN_int.calls a1 false _ A4.out).mono ?_); rintro e w' ⟨rfl, ⟨nd, rfl⟩⟩; refine ⟨_, rfl, ?_⟩))
         go_ret
         exact ⟨by first | rfl | (simp; done) | (simp [*]; done), by repeat (first | exact Drawn0.refl _ | apply Drawn0.step)⟩
/-! ### num_ratio_compare: function 70 -/
def num_ratio_compare.f (a0_0 : Int) (a0_1 : Int) (a1_0 : Int) (a1_1 : Int) : Option (Int) := (cmp_Compare_int.f (wrap64 (a0_0 * a1_1)) (wrap64 (a1_0 * a0_1))).bind fun t162 => (some t162)
set_option maxHeartbeats 8000000 in
set_option maxRecDepth 100000 in
theorem num_ratio_compare.calls (a0_0 : Int) (a0_1 : Int) (a1_0 : Int) (a1_1 : Int) (r : Int) (w : World) (h : num_ratio_compare.f a0_0 a0_1 a1_0 a1_1 = some r) :
    Calls Try.prog 70 #[.agg #[.int .i64 a0_0, .int .i64 a0_1], .agg #[.int .i64 a1_0, .int .i64 a1_1]] w fun e w' => e = .returned (.int .i64 r) ∧ Below w.heap.size w w' := by
  have hu65 := Try.underlying65
  have HB := Aside0.mk (Below.refl w.heap.size w)
  have H : ((cmp_Compare_int.f (wrap64 (a0_0 * a1_1)) (wrap64 (a1_0 * a0_1))).bind fun t162 => (some t162)) = some r := h
  clear h
  replace H := Option.bind_eq_some_iff.mp H
  obtain ⟨t162, A30, H⟩ := H
  replace H : (some t162) = some r := H
  have A3 := Aside0.mk A30
  clear A30
  obtain rfl := Option.some.inj H
  go_enter Try.func70, Try.ntmps70
  go_wp2_with (first | ((with_reducible refine gate_dst (N := 2) rfl ?_); refine box_event ?hg (N := 2) ?hd (cs := #[.int .i64 a0_0, .int .i64 a0_1]) (t := 65) ?hr ?_; (case hd => rfl); (case hg => rfl); (case hr => first | (go_simp; done) | (go_simp; rfl)); intro gb160 hg w4 hbox hb; have BK160 := Aside0.mk hbox; have GW160 := bwg_ HB hg; have GE160 := bwg_ HB hg; replace HB := bws_ HB hb; clear hb hbox hg) | ((with_reducible refine gate_dst (N := 3) rfl ?_); refine box_event ?hg (N := 3) ?hd (cs := #[.int .i64 a1_0, .int .i64 a1_1]) (t := 65) ?hr ?_; (case hd => rfl); (case hg => rfl); (case hr => first | (go_simp; done) | (go_simp; rfl)); intro gb161 hg w5 hbox hb; have BK161 := Aside0.mk hbox; have GW161 := bwg_ HB hg; have GE161 := bwg_ HB hg; replace HB := bws_ HB hb; have NB160_161 := bkl_ BK160 hg; have NB161_160 := bkr_ BK160 hg; replace BK160 := bkb_ BK160 hb; clear hb hbox hg; have hnb6 := NB160_161.out; have hnc6 := NB161_160.out; obtain ⟨hcz7_0, hcz7_1, hfz7_0, hfz7_1⟩ := bc2_ BK160; obtain ⟨hcz8_0, hcz8_1, hfz8_0, hfz8_1⟩ := bc2_ BK161) | ((with_reducible refine gate_callee (f := 113) rfl ?_); refine gla_ (some 15) Try.func113 #[.int .i64 (wrap64 (a0_0 * a1_1)), .int .i64 (wrap64 (a1_0 * a0_1))] ?_; (with_reducible refine (cmp_Compare_int.calls (wrap64 (a0_0 * a1_1)) (wrap64 (a1_0 * a0_1)) t162 _ A3.out).mono ?_); rintro e w' ⟨rfl, ⟨nd, rfl⟩⟩; refine ⟨_, rfl, ?_⟩))
  go_ret
  exact ⟨by first | rfl | (simp [*] <;> rfl), bw_ HB⟩
/-! ### num_ratio_floor: function 75 -/
def num_ratio_floor.f (a0_0 : Int) (a0_1 : Int) : Option (Int) := if a0_1 = 0 then (none) else (if (Int.tmod a0_0 a0_1) < 0 then (some (wrap64 ((wrap64 (Int.tdiv a0_0 a0_1)) - 1))) else (some (wrap64 (Int.tdiv a0_0 a0_1))))
set_option maxHeartbeats 8000000 in
set_option maxRecDepth 100000 in
theorem num_ratio_floor.calls (a0_0 : Int) (a0_1 : Int) (r : Int) (w : World) (h : num_ratio_floor.f a0_0 a0_1 = some r) :
    Calls Try.prog 75 #[.agg #[.int .i64 a0_0, .int .i64 a0_1]] w fun e w' => e = .returned (.int .i64 r) ∧ Below w.heap.size w w' := by
  have hu65 := Try.underlying65
  have HB := Aside0.mk (Below.refl w.heap.size w)
  have H : (if a0_1 = 0 then (none) else (if (Int.tmod a0_0 a0_1) < 0 then (some (wrap64 ((wrap64 (Int.tdiv a0_0 a0_1)) - 1))) else (some (wrap64 (Int.tdiv a0_0 a0_1))))) = some r := h
  clear h
  by_cases c2 : a0_1 = 0
  · rw [if_pos c2] at H
    exact absurd H (by simp)
  · rw [if_neg c2] at H
    have c2b0 : (a0_1 == 0) = false := beq_eq_false_iff_ne.mpr c2
    have c2b1 : (a0_1 != 0) = true := bne_iff_ne.mpr c2
    by_cases c3 : (Int.tmod a0_0 a0_1) < 0
    · rw [if_pos c3] at H
      have c3b0 : decide ((Int.tmod a0_0 a0_1) < 0) = true := decide_eq_true c3
      clear c3
      obtain rfl := Option.some.inj H
      go_enter Try.func75, Try.ntmps75
      go_wp2_with (first | ((with_reducible refine gate_dst (N := 1) rfl ?_); refine box_event ?hg (N := 1) ?hd (cs := #[.int .i64 a0_0, .int .i64 a0_1]) (t := 65) ?hr ?_; (case hd => rfl); (case hg => rfl); (case hr => first | (go_simp; done) | (go_simp; rfl)); intro gb163 hg w4 hbox hb; have BK163 := Aside0.mk hbox; have GW163 := bwg_ HB hg; have GE163 := bwg_ HB hg; replace HB := bws_ HB hb; clear hb hbox hg; obtain ⟨hcz5_0, hcz5_1, hfz5_0, hfz5_1⟩ := bc2_ BK163))
      go_ret
      exact ⟨by first | rfl | (simp [*] <;> rfl), bw_ HB⟩
    · rw [if_neg c3] at H
      have c3b0 : decide ((Int.tmod a0_0 a0_1) < 0) = false := decide_eq_false c3
      clear c3
      obtain rfl := Option.some.inj H
      go_enter Try.func75, Try.ntmps75
      go_wp2_with (first | ((with_reducible refine gate_dst (N := 1) rfl ?_); refine box_event ?hg (N := 1) ?hd (cs := #[.int .i64 a0_0, .int .i64 a0_1]) (t := 65) ?hr ?_; (case hd => rfl); (case hg => rfl); (case hr => first | (go_simp; done) | (go_simp; rfl)); intro gb163 hg w6 hbox hb; have BK163 := Aside0.mk hbox; have GW163 := bwg_ HB hg; have GE163 := bwg_ HB hg; replace HB := bws_ HB hb; clear hb hbox hg; obtain ⟨hcz7_0, hcz7_1, hfz7_0, hfz7_1⟩ := bc2_ BK163))
      go_ret
      exact ⟨by first | rfl | (simp [*] <;> rfl), bw_ HB⟩
/-! ### num_ratio_ceil: function 77 -/
def num_ratio_ceil.f (a0_0 : Int) (a0_1 : Int) : Option (Int) := (num_ratio_floor.f (wrap64 (-a0_0)) a0_1).bind fun t165 => (some (wrap64 (-t165)))
set_option maxHeartbeats 8000000 in
set_option maxRecDepth 100000 in
theorem num_ratio_ceil.calls (a0_0 : Int) (a0_1 : Int) (r : Int) (w : World) (h : num_ratio_ceil.f a0_0 a0_1 = some r) :
    Calls Try.prog 77 #[.agg #[.int .i64 a0_0, .int .i64 a0_1]] w fun e w' => e = .returned (.int .i64 r) ∧ Below w.heap.size w w' := by
  have hu65 := Try.underlying65
  have HB := Aside0.mk (Below.refl w.heap.size w)
  have H : ((num_ratio_floor.f (wrap64 (-a0_0)) a0_1).bind fun t165 => (some (wrap64 (-t165)))) = some r := h
  clear h
  replace H := Option.bind_eq_some_iff.mp H
  obtain ⟨t165, A20, H⟩ := H
  replace H : (some (wrap64 (-t165))) = some r := H
  have A2 := Aside0.mk A20
  clear A20
  obtain rfl := Option.some.inj H
  go_enter Try.func77, Try.ntmps77
  go_wp2_with (first | ((with_reducible refine gate_dst (N := 1) rfl ?_); refine box_event ?hg (N := 1) ?hd (cs := #[.int .i64 a0_0, .int .i64 a0_1]) (t := 65) ?hr ?_; (case hd => rfl); (case hg => rfl); (case hr => first | (go_simp; done) | (go_simp; rfl)); intro gb164 hg w3 hbox hb; have BK164 := Aside0.mk hbox; have GW164 := bwg_ HB hg; have GE164 := bwg_ HB hg; replace HB := bws_ HB hb; clear hb hbox hg; obtain ⟨hcz4_0, hcz4_1, hfz4_0, hfz4_1⟩ := bc2_ BK164) | ((with_reducible refine gate_callee (f := 75) rfl ?_); refine gla_ (some 9) Try.func75 #[.agg #[.int .i64 (wrap64 (-a0_0)), .int .i64 a0_1]] ?_; (with_reducible refine (num_ratio_floor.calls (wrap64 (-a0_0)) a0_1 t165 _ A2.out).mono ?_); rintro e w5 ⟨rfl, hb⟩; refine ⟨_, rfl, ?_⟩; replace BK164 := bkb_ BK164 hb; replace HB := bws_ HB hb; (try clear hb); (try clear hb2); (try clear hk); (try clear hi)))
  go_ret
  exact ⟨by first | rfl | (simp [*] <;> rfl), bw_ HB⟩
/-! ### num_simplest: function 72 -/
mutual
def num_simplest.j0 : Nat → Int → Int → Bool → Int → Int → Int → Int → Option (Int × Int)
  | 0, _, _, _, _, _, _, _ => none
  | k + 1, x5, x6, x12, x167000, x167001, x168000, x168001 => if x12 = true then ((num_simplest.f k x168001 (wrap64 (x168000 - (wrap64 (x5 * x168001)))) x167001 (wrap64 (x167000 - (wrap64 (x5 * x167001))))).bind fun bt170 => (some (wrap64 ((wrap64 (x5 * bt170.1)) + bt170.2), bt170.1))) else (if x6 ≥ 0 then (num_simplest.j1 k x6 true x168000 x168001) else (num_simplest.j1 k x6 (x168001 == 0) x168000 x168001))
def num_simplest.j1 : Nat → Int → Bool → Int → Int → Option (Int × Int)
  | 0, _, _, _, _ => none
  | k + 1, x6, x56, x168000, x168001 => if x56 = true then (some (mx x6 0, 1)) else (if x168000 > 0 then (some (0, 1)) else ((num_ratio_ceil.f x168000 x168001).bind fun t173 => (some (wrap64 (t173 - 1), 1))))
def num_simplest.f : Nat → Int → Int → Int → Int → Option (Int × Int)
  | 0, _, _, _, _ => none
  | k + 1, a0_0, a0_1, a1_0, a1_1 => (num_ratio_floor.f a0_0 a0_1).bind fun t169 => (if a1_1 > 0 then (num_simplest.j0 k t169 (wrap64 (t169 + 1)) (decide ((wrap64 ((wrap64 (t169 + 1)) * a1_1)) ≥ a1_0)) a0_0 a0_1 a1_0 a1_1) else (num_simplest.j0 k t169 (wrap64 (t169 + 1)) false a0_0 a0_1 a1_0 a1_1))
end
theorem num_simplest.mono_l : ∀ k, (∀ y0 y1 y2 y3, LeO (num_simplest.f k y0 y1 y2 y3) (num_simplest.f (k + 1) y0 y1 y2 y3)) ∧ (∀ y0 y1 y2 y3 y4 y5 y6, LeO (num_simplest.j0 k y0 y1 y2 y3 y4 y5 y6) (num_simplest.j0 (k + 1) y0 y1 y2 y3 y4 y5 y6)) ∧ (∀ y0 y1 y2 y3, LeO (num_simplest.j1 k y0 y1 y2 y3) (num_simplest.j1 (k + 1) y0 y1 y2 y3))
  | 0 => ⟨fun _ _ _ _ r h => by simp [num_simplest.f] at h, fun _ _ _ _ _ _ _ r h => by simp [num_simplest.j0] at h, fun _ _ _ _ r h => by simp [num_simplest.j1] at h⟩
  | k + 1 => by
    obtain ⟨ih0, ih1, ih2⟩ := num_simplest.mono_l k
    refine ⟨?_, ?_, ?_⟩
    · intro y0 y1 y2 y3
      unfold num_simplest.f
      repeat' first
      | (with_reducible exact ih0 _ _ _ _)
      | (with_reducible exact ih1 _ _ _ _ _ _ _)
      | (with_reducible exact ih2 _ _ _ _)
      | (with_reducible exact LeO.refl _)
      | (with_reducible exact LeO.none _)
      | (with_reducible refine LeO.ite ?_ ?_)
      | (with_reducible refine LeO.bind ?_ (fun _ => ?_))
      | (with_reducible refine LeO.exc (fun _ => ?_) (fun _ => ?_))
      | exact ih0 _ _ _ _
      | exact ih1 _ _ _ _ _ _ _
      | exact ih2 _ _ _ _
      | exact LeO.none _
      | refine LeO.ite ?_ ?_
      | refine LeO.bind ?_ (fun _ => ?_)
    · intro y0 y1 y2 y3 y4 y5 y6
      unfold num_simplest.j0
      repeat' first
      | (with_reducible exact ih0 _ _ _ _)
      | (with_reducible exact ih1 _ _ _ _ _ _ _)
      | (with_reducible exact ih2 _ _ _ _)
      | (with_reducible exact LeO.refl _)
      | (with_reducible exact LeO.none _)
      | (with_reducible refine LeO.ite ?_ ?_)
      | (with_reducible refine LeO.bind ?_ (fun _ => ?_))
      | (with_reducible refine LeO.exc (fun _ => ?_) (fun _ => ?_))
      | exact ih0 _ _ _ _
      | exact ih1 _ _ _ _ _ _ _
      | exact ih2 _ _ _ _
      | exact LeO.none _
      | refine LeO.ite ?_ ?_
      | refine LeO.bind ?_ (fun _ => ?_)
    · intro y0 y1 y2 y3
      unfold num_simplest.j1
      repeat' first
      | (with_reducible exact ih0 _ _ _ _)
      | (with_reducible exact ih1 _ _ _ _ _ _ _)
      | (with_reducible exact ih2 _ _ _ _)
      | (with_reducible exact LeO.refl _)
      | (with_reducible exact LeO.none _)
      | (with_reducible refine LeO.ite ?_ ?_)
      | (with_reducible refine LeO.bind ?_ (fun _ => ?_))
      | (with_reducible refine LeO.exc (fun _ => ?_) (fun _ => ?_))
      | exact ih0 _ _ _ _
      | exact ih1 _ _ _ _ _ _ _
      | exact ih2 _ _ _ _
      | exact LeO.none _
      | refine LeO.ite ?_ ?_
      | refine LeO.bind ?_ (fun _ => ?_)
theorem num_simplest.mono : ∀ a0 a1 a2 a3 k, LeO (num_simplest.f k a0 a1 a2 a3) (num_simplest.f (k + 1) a0 a1 a2 a3) := by
  intro a0 a1 a2 a3 k
  obtain ⟨ih0, ih1, ih2⟩ := num_simplest.mono_l k
  exact ih0 a0 a1 a2 a3
set_option maxHeartbeats 8000000 in
set_option maxRecDepth 100000 in
theorem num_simplest.calls (k : Nat) : ∀ (a0_0 : Int) (a0_1 : Int) (a1_0 : Int) (a1_1 : Int) (r1 : Int) (r2 : Int) (w : World) (h : num_simplest.f k a0_0 a0_1 a1_0 a1_1 = some (r1, r2)),
    Calls Try.prog 72 #[.agg #[.int .i64 a0_0, .int .i64 a0_1], .agg #[.int .i64 a1_0, .int .i64 a1_1]] w fun e w' => e = .returned (.agg #[.int .i64 r1, .int .i64 r2]) ∧ Below w.heap.size w w' := by
 induction k using Nat.strongRecOn with
 | _ k ih =>
 intro a0_0 a0_1 a1_0 a1_1 r1 r2 w h
 cases k with
 | zero => exact absurd h (by simp [num_simplest.f])
 | succ k =>
 simp only [num_simplest.f] at h
 have hu65 := Try.underlying65
 have HB := Aside0.mk (Below.refl w.heap.size w)
 have H : ((num_ratio_floor.f a0_0 a0_1).bind fun t169 => (if a1_1 > 0 then (num_simplest.j0 k t169 (wrap64 (t169 + 1)) (decide ((wrap64 ((wrap64 (t169 + 1)) * a1_1)) ≥ a1_0)) a0_0 a0_1 a1_0 a1_1) else (num_simplest.j0 k t169 (wrap64 (t169 + 1)) false a0_0 a0_1 a1_0 a1_1))) = some (r1, r2) := h
 clear h
 replace H := Option.bind_eq_some_iff.mp H
 obtain ⟨t169, A30, H⟩ := H
 replace H : (if a1_1 > 0 then (num_simplest.j0 k t169 (wrap64 (t169 + 1)) (decide ((wrap64 ((wrap64 (t169 + 1)) * a1_1)) ≥ a1_0)) a0_0 a0_1 a1_0 a1_1) else (num_simplest.j0 k t169 (wrap64 (t169 + 1)) false a0_0 a0_1 a1_0 a1_1)) = some (r1, r2) := H
 have A3 := Aside0.mk A30
 clear A30
 have HC4 := Aside0.mk H
 clear H
 go_enter Try.func72, Try.ntmps72
 go_upto_region 3 with (first | ((with_reducible refine gate_dst (N := 2) rfl ?_); refine box_event ?hg (N := 2) ?hd (cs := #[.int .i64 a0_0, .int .i64 a0_1]) (t := 65) ?hr ?_; (case hd => rfl); (case hg => rfl); (case hr => first | (go_simp; done) | (go_simp; rfl)); intro gb166 hg w5 hbox hb; have BK166 := Aside0.mk hbox; have GW166 := bwg_ HB hg; have GE166 := bwg_ HB hg; replace HB := bws_ HB hb; clear hb hbox hg) | ((with_reducible refine gate_dst (N := 3) rfl ?_); refine box_event ?hg (N := 3) ?hd (cs := #[.int .i64 a1_0, .int .i64 a1_1]) (t := 65) ?hr ?_; (case hd => rfl); (case hg => rfl); (case hr => first | (go_simp; done) | (go_simp; rfl)); intro gb167 hg w6 hbox hb; have BK167 := Aside0.mk hbox; have GW167 := bwg_ HB hg; have GE167 := bwg_ HB hg; replace HB := bws_ HB hb; have NB166_167 := bkl_ BK166 hg; have NB167_166 := bkr_ BK166 hg; replace BK166 := bkb_ BK166 hb; clear hb hbox hg) | ((with_reducible refine gate_dst (N := 4) rfl ?_); refine box_event ?hg (N := 4) ?hd (cs := #[.int .i64 0, .int .i64 0]) (t := 65) ?hr ?_; (case hd => rfl); (case hg => rfl); (case hr => first | (go_simp; done) | (go_simp; rfl)); intro gb168 hg w7 hbox hb; have BK168 := Aside0.mk hbox; have GW168 := bwg_ HB hg; have GE168 := bwg_ HB hg; replace HB := bws_ HB hb; have NB166_168 := bkl_ BK166 hg; have NB168_166 := bkr_ BK166 hg; replace BK166 := bkb_ BK166 hb; have NB167_168 := bkl_ BK167 hg; have NB168_167 := bkr_ BK167 hg; replace BK167 := bkb_ BK167 hb; clear hb hbox hg; have hnb8 := NB166_167.out; have hnc8 := NB167_166.out; have hnb9 := NB166_168.out; have hnc9 := NB168_166.out; obtain ⟨hcz10_0, hcz10_1, hfz10_0, hfz10_1⟩ := bc2_ BK166) | ((with_reducible refine gate_callee (f := 75) rfl ?_); refine gla_ (some 9) Try.func75 #[.agg #[.int .i64 a0_0, .int .i64 a0_1]] ?_; (with_reducible refine (num_ratio_floor.calls a0_0 a0_1 t169 _ A3.out).mono ?_); rintro e w11 ⟨rfl, hb⟩; refine ⟨_, rfl, ?_⟩; replace BK166 := bkb_ BK166 hb; replace BK167 := bkb_ BK167 hb; replace BK168 := bkb_ BK168 hb; replace HB := bws_ HB hb; (try clear hb); (try clear hb2); (try clear hk); (try clear hi)))
 (try simp only [Act.put, List.setIfInBounds_toArray, List.set_cons_zero, List.set_cons_succ])
 go_cut [12] (fun v12 wc => ∃ (kq : Nat) (x12_3 : Bool), v12 = .bool x12_3 ∧ Aside0 (num_simplest.j0 kq t169 (wrap64 (t169 + 1)) x12_3 a0_0 a0_1 a1_0 a1_1 = some (r1, r2)) ∧ Aside0 (kq ≤ k) ∧ Aside0 (wc.heap[gb166]? = some (.cells #[.int .i64 a0_0, .int .i64 a0_1] 65 (0, 0))) ∧ Aside0 (wc.heap[gb167]? = some (.cells #[.int .i64 a1_0, .int .i64 a1_1] 65 (0, 0))) ∧ Aside0 (wc.heap[gb168]? = some (.cells #[.int .i64 0, .int .i64 0] 65 (0, 0))) ∧ Aside0 (Below w.heap.size w wc))
 case first =>
  have H := HC4.out
  clear HC4
  by_cases c12 : a1_1 > 0
  · rw [if_pos c12] at H
    have c12b0 : decide (0 < a1_1) = true := decide_eq_true c12
    clear c12
    (first | rw [c12b0] | (simp only [i64_w, i32_w]; rw [c12b0]) | skip)
    have H' := Aside0.mk H
    clear H
    have hnb13 := NB167_166.out
    have hnc13 := NB166_167.out
    have hnb14 := NB167_168.out
    have hnc14 := NB168_167.out
    obtain ⟨hcz15_0, hcz15_1, hfz15_0, hfz15_1⟩ := bc2_ BK167
    go_wp2
    go_meet
    case rel => exact ⟨_, (decide ((wrap64 ((wrap64 (t169 + 1)) * a1_1)) ≥ a1_0)), (by first | rfl | (simp; done) | (simp [*]; done)), H', ⟨by first | omega | exact Nat.le_refl _⟩, ⟨by exact bk_ BK166⟩, ⟨by exact bk_ BK167⟩, ⟨by exact bk_ BK168⟩, ⟨bw_ HB⟩⟩
  · rw [if_neg c12] at H
    have c12b0 : decide (0 < a1_1) = false := decide_eq_false c12
    clear c12
    (first | rw [c12b0] | (simp only [i64_w, i32_w]; rw [c12b0]) | skip)
    have H' := Aside0.mk H
    clear H
    have hnb16 := NB167_166.out
    have hnc16 := NB166_167.out
    have hnb17 := NB167_168.out
    have hnc17 := NB168_167.out
    obtain ⟨hcz18_0, hcz18_1, hfz18_0, hfz18_1⟩ := bc2_ BK167
    go_wp2
    go_meet
    case rel => exact ⟨_, (false), (by first | rfl | (simp; done) | (simp [*]; done)), H', ⟨by first | omega | exact Nat.le_refl _⟩, ⟨by exact bk_ BK166⟩, ⟨by exact bk_ BK167⟩, ⟨by exact bk_ BK168⟩, ⟨bw_ HB⟩⟩
 case rest =>
  clear HC4
  try clear c1
  try clear p2
  try clear p6
  try clear c7
  try clear c8
  try clear c9
  try clear c12
  try clear c12b0
  try clear c13
  try clear c14
  try clear c16
  try clear c17
  try clear hcz10_0
  try clear hcz10_1
  try clear hcz15_0
  try clear hcz15_1
  try clear hcz18_0
  try clear hcz18_1
  try clear hfz10_0
  try clear hfz10_1
  try clear hfz15_0
  try clear hfz15_1
  try clear hfz18_0
  try clear hfz18_1
  obtain ⟨kq, x12_3, rfl, HA, HJ3, BK166, BK167, BK168, HB⟩ := hcut
  cases kq with
  | zero => exact absurd HA.out (by simp [num_simplest.j0])
  | succ kj3 =>
   have H := HA.out
   clear HA
   simp only [num_simplest.j0] at H
   by_cases c19 : x12_3 = true
   · subst c19
     have H1 : ((num_simplest.f kj3 a1_1 (wrap64 (a1_0 - (wrap64 (t169 * a1_1)))) a0_1 (wrap64 (a0_0 - (wrap64 (t169 * a0_1))))).bind fun bt170 => (some (wrap64 ((wrap64 (t169 * bt170.1)) + bt170.2), bt170.1))) = some (r1, r2) := by rw [if_pos rfl] at H; exact H
     clear H
     have H := H1
     clear H1
     replace H := Option.bind_eq_some_iff.mp H
     obtain ⟨⟨t170, t171⟩, A200, H⟩ := H
     replace H : (some (wrap64 ((wrap64 (t169 * t170)) + t171), t170)) = some (r1, r2) := H
     have A20 := Aside0.mk A200
     clear A200
     simp only [Option.some.injEq, Prod.mk.injEq] at H
     obtain ⟨rfl, rfl⟩ := H
     have hnb21 := NB167_166.out
     have hnc21 := NB166_167.out
     have hnb22 := NB167_168.out
     have hnc22 := NB168_167.out
     obtain ⟨hcz23_0, hcz23_1, hfz23_0, hfz23_1⟩ := bc2_ BK167
     have hnb24 := NB166_168.out
     have hnc24 := NB168_166.out
     obtain ⟨hcz25_0, hcz25_1, hfz25_0, hfz25_1⟩ := bc2_ BK166
     go_wp2_with (first | ((with_reducible refine gate_callee (f := 72) rfl ?_); refine gla_ (some 45) Try.func72 #[.agg #[.int .i64 a1_1, .int .i64 (wrap64 (a1_0 - (wrap64 (t169 * a1_1))))], .agg #[.int .i64 a0_1, .int .i64 (wrap64 (a0_0 - (wrap64 (t169 * a0_1))))]] ?_; (with_reducible refine (ih kj3 (by have := HJ3.out; omega) a1_1 (wrap64 (a1_0 - (wrap64 (t169 * a1_1)))) a0_1 (wrap64 (a0_0 - (wrap64 (t169 * a0_1)))) t170 t171 _ A20.out).mono ?_); rintro e w26 ⟨rfl, hb⟩; refine ⟨_, rfl, ?_⟩; replace BK166 := bkb_ BK166 hb; replace BK167 := bkb_ BK167 hb; replace BK168 := bkb_ BK168 hb; replace HB := bws_ HB hb; (try clear hb); (try clear hb2); (try clear hk); (try clear hi)) | ((with_reducible refine gate_dst (N := 7) rfl ?_); refine box_event ?hg (N := 7) ?hd (cs := #[.int .i64 0, .int .i64 0]) (t := 65) ?hr ?_; (case hd => rfl); (case hg => rfl); (case hr => first | (go_simp; done) | (go_simp; rfl)); intro gb172 hg w27 hbox hb; have BK172 := Aside0.mk hbox; have GW172 := bwg_ HB hg; have GE172 := bwg_ HB hg; replace HB := bws_ HB hb; have NB166_172 := bkl_ BK166 hg; have NB172_166 := bkr_ BK166 hg; replace BK166 := bkb_ BK166 hb; have NB167_172 := bkl_ BK167 hg; have NB172_167 := bkr_ BK167 hg; replace BK167 := bkb_ BK167 hb; have NB168_172 := bkl_ BK168 hg; have NB172_168 := bkr_ BK168 hg; replace BK168 := bkb_ BK168 hb; clear hb hbox hg; have hnb28 := NB172_166.out; have hnc28 := NB166_172.out; have hnb29 := NB172_167.out; have hnc29 := NB167_172.out; have hnb30 := NB172_168.out; have hnc30 := NB168_172.out; obtain ⟨hcz31_0, hcz31_1, hfz31_0, hfz31_1⟩ := bc2_ BK172; obtain ⟨hcz32_0, hcz32_1, hfz32_0, hfz32_1⟩ := bc2_ BK168))
     refine bodyPost_ret (results_cell_row rfl _ _ gb168 65 #[.int .i64 (wrap64 ((wrap64 (t169 * t170)) + t171)), .int .i64 t170] (0, 0) _ rfl (by refine bp_ (cs := #[.int .i64 (wrap64 ((wrap64 (t169 * t170)) + t171)), .int .i64 0]) ?_ 1; refine bp_ (cs := #[.int .i64 0, .int .i64 0]) ?_ 0; refine bf_ ?_ NB168_172; refine bf_ ?_ NB168_172; exact bk_ BK168) Try.underlying65 rfl (by kernel_rfl)) rfl ?_
     exact ⟨by first | rfl | (simp [*] <;> rfl), bw_ HB⟩
   · replace c19 := Bool.eq_false_iff.mpr c19
     subst c19
     have H1 : (if (wrap64 (t169 + 1)) ≥ 0 then (num_simplest.j1 kj3 (wrap64 (t169 + 1)) true a1_0 a1_1) else (num_simplest.j1 kj3 (wrap64 (t169 + 1)) (a1_1 == 0) a1_0 a1_1)) = some (r1, r2) := by rw [if_neg (show ¬ (false = true) by decide)] at H; exact H
     clear H
     have H := H1
     clear H1
     have HC33 := Aside0.mk H
     clear H
     go_upto_region 6 with (fail)
     go_cut [56] (fun v56 wc => ∃ (kq : Nat) (x56_32 : Bool), v56 = .bool x56_32 ∧ Aside0 (num_simplest.j1 kq (wrap64 (t169 + 1)) x56_32 a1_0 a1_1 = some (r1, r2)) ∧ Aside0 (kq ≤ kj3) ∧ Aside0 (wc.heap[gb166]? = some (.cells #[.int .i64 a0_0, .int .i64 a0_1] 65 (0, 0))) ∧ Aside0 (wc.heap[gb167]? = some (.cells #[.int .i64 a1_0, .int .i64 a1_1] 65 (0, 0))) ∧ Aside0 (wc.heap[gb168]? = some (.cells #[.int .i64 0, .int .i64 0] 65 (0, 0))) ∧ Aside0 (Below w.heap.size w wc))
     case first =>
      have H := HC33.out
      clear HC33
      by_cases c34 : (wrap64 (t169 + 1)) ≥ 0
      · rw [if_pos c34] at H
        have c34b0 : decide (0 ≤ (wrap64 (t169 + 1))) = true := decide_eq_true c34
        clear c34
        (first | rw [c34b0] | (simp only [i64_w, i32_w]; rw [c34b0]) | skip)
        have H' := Aside0.mk H
        clear H
        go_wp2
        go_meet
        case rel => exact ⟨_, (true), (by first | rfl | (simp; done) | (simp [*]; done)), H', ⟨by have := HJ3.out; first | omega | exact Nat.le_refl _⟩, ⟨by exact bk_ BK166⟩, ⟨by exact bk_ BK167⟩, ⟨by exact bk_ BK168⟩, ⟨bw_ HB⟩⟩
      · rw [if_neg c34] at H
        have c34b0 : decide (0 ≤ (wrap64 (t169 + 1))) = false := decide_eq_false c34
        clear c34
        (first | rw [c34b0] | (simp only [i64_w, i32_w]; rw [c34b0]) | skip)
        have H' := Aside0.mk H
        clear H
        have hnb35 := NB167_166.out
        have hnc35 := NB166_167.out
        have hnb36 := NB167_168.out
        have hnc36 := NB168_167.out
        obtain ⟨hcz37_0, hcz37_1, hfz37_0, hfz37_1⟩ := bc2_ BK167
        go_wp2
        go_meet
        case rel => exact ⟨_, ((a1_1 == 0)), (by first | rfl | (simp; done) | (simp [*]; done)), H', ⟨by have := HJ3.out; first | omega | exact Nat.le_refl _⟩, ⟨by exact bk_ BK166⟩, ⟨by exact bk_ BK167⟩, ⟨by exact bk_ BK168⟩, ⟨bw_ HB⟩⟩
     case rest =>
      clear HC33
      try clear c1
      try clear c2
      try clear p2
      try clear c3
      try clear p6
      try clear c7
      try clear c8
      try clear c9
      try clear c12
      try clear c12b0
      try clear c13
      try clear c14
      try clear c16
      try clear c17
      try clear c19
      try clear c21
      try clear c22
      try clear c24
      try clear c28
      try clear c29
      try clear c30
      try clear c34
      try clear c34b0
      try clear c35
      try clear c36
      try clear hcz10_0
      try clear hcz10_1
      try clear hcz15_0
      try clear hcz15_1
      try clear hcz18_0
      try clear hcz18_1
      try clear hcz23_0
      try clear hcz23_1
      try clear hcz25_0
      try clear hcz25_1
      try clear hcz31_0
      try clear hcz31_1
      try clear hcz32_0
      try clear hcz32_1
      try clear hcz37_0
      try clear hcz37_1
      try clear hfz10_0
      try clear hfz10_1
      try clear hfz15_0
      try clear hfz15_1
      try clear hfz18_0
      try clear hfz18_1
      try clear hfz23_0
      try clear hfz23_1
      try clear hfz25_0
      try clear hfz25_1
      try clear hfz31_0
      try clear hfz31_1
      try clear hfz32_0
      try clear hfz32_1
      try clear hfz37_0
      try clear hfz37_1
      try clear p2
      try clear p6
      obtain ⟨kq, x56_32, rfl, HA, HJ32, BK166, BK167, BK168, HB⟩ := hcut
      cases kq with
      | zero => exact absurd HA.out (by simp [num_simplest.j1])
      | succ kj32 =>
       have H := HA.out
       clear HA
       simp only [num_simplest.j1] at H
       by_cases c38 : x56_32 = true
       · subst c38
         have H1 : (some (mx (wrap64 (t169 + 1)) 0, 1)) = some (r1, r2) := by rw [if_pos rfl] at H; exact H
         clear H
         have H := H1
         clear H1
         obtain ⟨ji39, hji39⟩ : ∃ j_ : Int, (mx (wrap64 (t169 + 1)) 0) = j_ := ⟨_, rfl⟩
         replace H : (some (ji39, 1)) = some (r1, r2) := by first | (rw [hji39] at H; exact H) | (simp only [hji39] at H ⊢; exact H)
         have hji39_ : (if (wrap64 (t169 + 1)) < 0 then 0 else (wrap64 (t169 + 1))) = ji39 := hji39
         simp only [Option.some.injEq, Prod.mk.injEq] at H
         obtain ⟨rfl, rfl⟩ := H
         have hnb40 := NB168_166.out
         have hnc40 := NB166_168.out
         have hnb41 := NB168_167.out
         have hnc41 := NB167_168.out
         obtain ⟨hcz42_0, hcz42_1, hfz42_0, hfz42_1⟩ := bc2_ BK168
         go_wp2
         refine bodyPost_ret (results_cell_row rfl _ _ gb168 65 #[.int .i64 ji39, .int .i64 1] (0, 0) _ rfl (by refine bp_ (cs := #[.int .i64 ji39, .int .i64 0]) ?_ 1; refine bp_ (cs := #[.int .i64 0, .int .i64 0]) ?_ 0; exact bk_ BK168) Try.underlying65 rfl (by kernel_rfl)) rfl ?_
         exact ⟨by first | rfl | (simp [errW_none, errW_some] <;> rfl) | (simp only [← hji39]; first | rfl | (simp [errW_none, errW_some] <;> rfl)) | (simp [*, errW_none, errW_some] <;> rfl), bw_ HB⟩
       · replace c38 := Bool.eq_false_iff.mpr c38
         subst c38
         have H1 : (if a1_0 > 0 then (some (0, 1)) else ((num_ratio_ceil.f a1_0 a1_1).bind fun t173 => (some (wrap64 (t173 - 1), 1)))) = some (r1, r2) := by rw [if_neg (show ¬ (false = true) by decide)] at H; exact H
         clear H
         have H := H1
         clear H1
         by_cases c43 : a1_0 > 0
         · rw [if_pos c43] at H
           have c43b0 : decide (0 < a1_0) = true := decide_eq_true c43
           clear c43
           simp only [Option.some.injEq, Prod.mk.injEq] at H
           obtain ⟨rfl, rfl⟩ := H
           have hnb44 := NB167_166.out
           have hnc44 := NB166_167.out
           have hnb45 := NB167_168.out
           have hnc45 := NB168_167.out
           obtain ⟨hcz46_0, hcz46_1, hfz46_0, hfz46_1⟩ := bc2_ BK167
           have hnb47 := NB168_166.out
           have hnc47 := NB166_168.out
           obtain ⟨hcz48_0, hcz48_1, hfz48_0, hfz48_1⟩ := bc2_ BK168
           go_wp2
           refine bodyPost_ret (results_cell_row rfl _ _ gb168 65 #[.int .i64 0, .int .i64 1] (0, 0) _ rfl (by refine bp_ (cs := #[.int .i64 0, .int .i64 0]) ?_ 1; refine bp_ (cs := #[.int .i64 0, .int .i64 0]) ?_ 0; exact bk_ BK168) Try.underlying65 rfl (by kernel_rfl)) rfl ?_
           exact ⟨by first | rfl | (simp [*] <;> rfl), bw_ HB⟩
         · rw [if_neg c43] at H
           have c43b0 : decide (0 < a1_0) = false := decide_eq_false c43
           clear c43
           replace H := Option.bind_eq_some_iff.mp H
           obtain ⟨t173, A490, H⟩ := H
           replace H : (some (wrap64 (t173 - 1), 1)) = some (r1, r2) := H
           have A49 := Aside0.mk A490
           clear A490
           simp only [Option.some.injEq, Prod.mk.injEq] at H
           obtain ⟨rfl, rfl⟩ := H
           have hnb50 := NB167_166.out
           have hnc50 := NB166_167.out
           have hnb51 := NB167_168.out
           have hnc51 := NB168_167.out
           obtain ⟨hcz52_0, hcz52_1, hfz52_0, hfz52_1⟩ := bc2_ BK167
           go_wp2_with (first | ((with_reducible refine gate_callee (f := 77) rfl ?_); refine gla_ (some 73) Try.func77 #[.agg #[.int .i64 a1_0, .int .i64 a1_1]] ?_; (with_reducible refine (num_ratio_ceil.calls a1_0 a1_1 t173 _ A49.out).mono ?_); rintro e w53 ⟨rfl, hb⟩; refine ⟨_, rfl, ?_⟩; replace BK166 := bkb_ BK166 hb; replace BK167 := bkb_ BK167 hb; replace BK168 := bkb_ BK168 hb; replace HB := bws_ HB hb; (try clear hb); (try clear hb2); (try clear hk); (try clear hi); have hnb54 := NB168_166.out; have hnc54 := NB166_168.out; obtain ⟨hcz55_0, hcz55_1, hfz55_0, hfz55_1⟩ := bc2_ BK168))
           refine bodyPost_ret (results_cell_row rfl _ _ gb168 65 #[.int .i64 (wrap64 (t173 - 1)), .int .i64 1] (0, 0) _ rfl (by refine bp_ (cs := #[.int .i64 (wrap64 (t173 - 1)), .int .i64 0]) ?_ 1; refine bp_ (cs := #[.int .i64 0, .int .i64 0]) ?_ 0; exact bk_ BK168) Try.underlying65 rfl (by kernel_rfl)) rfl ?_
           exact ⟨by first | rfl | (simp [*] <;> rfl), bw_ HB⟩
/-! ### num_Simplest: function 25 -/
def num_Simplest.f (k : Nat) (a0_0 : Int) (a0_1 : Int) (a1_0 : Int) (a1_1 : Int) : Option (Int × Int × Int) := (num_checked.f k (([(⟨a0_0, a0_1⟩ : S23), (⟨a1_0, a1_1⟩ : S23)] : List (S23)))).bind fun t181 => (if t181 = 0 then ((num_of.f a0_0 a0_1).bind fun bt182 => ((num_of.f a1_0 a1_1).bind fun bt184 => ((num_ratio_compare.f bt182.1 bt182.2 bt184.1 bt184.2).bind fun t186 => (if t186 ≥ 0 then (some (0, 0, 10)) else ((num_of.f a0_0 a0_1).bind fun bt187 => ((num_of.f a1_0 a1_1).bind fun bt189 => ((num_simplest.f k bt187.1 bt187.2 bt189.1 bt189.2).bind fun bt191 => ((num_ratio_num.f k bt191.1 bt191.2).bind fun tz_ => exc tz_ (fun tp195 => (some (0, 0, 8))) (fun bt193 => (some (bt193.1, bt193.2, 0))))))))))) else (some (0, 0, t181)))
theorem num_Simplest.mono : ∀ a0 a1 a2 a3 k, LeO (num_Simplest.f k a0 a1 a2 a3) (num_Simplest.f (k + 1) a0 a1 a2 a3) := by
  intro a0 a1 a2 a3 k
  unfold num_Simplest.f
  repeat' first
      | (with_reducible exact num_checked.mono _ _)
      | (with_reducible exact num_ratio_num.mono _ _ _)
      | (with_reducible exact num_simplest.mono _ _ _ _ _)
      | (with_reducible exact LeO.refl _)
      | (with_reducible exact LeO.none _)
      | (with_reducible refine LeO.ite ?_ ?_)
      | (with_reducible refine LeO.bind ?_ (fun _ => ?_))
      | (with_reducible refine LeO.exc (fun _ => ?_) (fun _ => ?_))
      | exact num_checked.mono _ _
      | exact num_ratio_num.mono _ _ _
      | exact num_simplest.mono _ _ _ _ _
      | exact LeO.none _
      | refine LeO.ite ?_ ?_
      | refine LeO.bind ?_ (fun _ => ?_)
def num_Simplest.T7 : Bool × List (List Nat × List Nat) := (true, [([], []), ([0], [0]), ([], []), ([2, 1], [2]), ([1, 3, 3], [1, 3]), ([4, 4], [4]), ([5, 5, 0, 1, 2, 3, 4, 5], [5]), ([6, 0, 1, 2, 3, 4, 5, 6], [])])
def num_Simplest.B7 : List Nat := [0, 1, 0, 7, 15, 31, 63, 127]
theorem num_Simplest.tab7 : rtab .any (opsOf Try.f25 7) = num_Simplest.T7 := by kernel_rfl
theorem num_Simplest.bits7 : waitsOk num_Simplest.T7.2 num_Simplest.B7 = true := by kernel_rfl
set_option maxHeartbeats 8000000 in
set_option maxRecDepth 100000 in
theorem num_Simplest.calls (k : Nat) (a0_0 : Int) (a0_1 : Int) (a1_0 : Int) (a1_1 : Int) (r1 : Int) (r2 : Int) (r3 : Int) (w : World) (h : num_Simplest.f k a0_0 a0_1 a1_0 a1_1 = some (r1, r2, r3)) :
    Calls Try.prog 25 #[.agg #[.int .i64 a0_0, .int .i64 a0_1], .agg #[.int .i64 a1_0, .int .i64 a1_1]] w fun e w' => e = .returned (.tuple #[.agg #[.int .i64 r1, .int .i64 r2], .int .i64 r3]) ∧ Below w.heap.size w w' := by
 have hu23 := Try.underlying23
 have HB := Aside0.mk (Below.refl w.heap.size w)
 have H : ((num_checked.f k (([(⟨a0_0, a0_1⟩ : S23), (⟨a1_0, a1_1⟩ : S23)] : List (S23)))).bind fun t181 => (if t181 = 0 then ((num_of.f a0_0 a0_1).bind fun bt182 => ((num_of.f a1_0 a1_1).bind fun bt184 => ((num_ratio_compare.f bt182.1 bt182.2 bt184.1 bt184.2).bind fun t186 => (if t186 ≥ 0 then (some (0, 0, 10)) else ((num_of.f a0_0 a0_1).bind fun bt187 => ((num_of.f a1_0 a1_1).bind fun bt189 => ((num_simplest.f k bt187.1 bt187.2 bt189.1 bt189.2).bind fun bt191 => ((num_ratio_num.f k bt191.1 bt191.2).bind fun tz_ => exc tz_ (fun tp195 => (some (0, 0, 8))) (fun bt193 => (some (bt193.1, bt193.2, 0))))))))))) else (some (0, 0, t181)))) = some (r1, r2, r3) := h
 clear h
 obtain ⟨y178, hy178⟩ : ∃ y_ : List (S23), y_ = (([(⟨a0_0, a0_1⟩ : S23), (⟨a1_0, a1_1⟩ : S23)] : List (S23))) := ⟨_, rfl⟩
 replace H : ((num_checked.f k y178).bind fun t181 => (if t181 = 0 then ((num_of.f a0_0 a0_1).bind fun bt182 => ((num_of.f a1_0 a1_1).bind fun bt184 => ((num_ratio_compare.f bt182.1 bt182.2 bt184.1 bt184.2).bind fun t186 => (if t186 ≥ 0 then (some (0, 0, 10)) else ((num_of.f a0_0 a0_1).bind fun bt187 => ((num_of.f a1_0 a1_1).bind fun bt189 => ((num_simplest.f k bt187.1 bt187.2 bt189.1 bt189.2).bind fun bt191 => ((num_ratio_num.f k bt191.1 bt191.2).bind fun tz_ => exc tz_ (fun tp195 => (some (0, 0, 8))) (fun bt193 => (some (bt193.1, bt193.2, 0))))))))))) else (some (0, 0, t181)))) = some (r1, r2, r3) := by first | (rw [hy178]; with_reducible exact H) | (have H2_ := (Option.bind_some _ _).symm.trans H; rw [hy178]; with_reducible exact H2_) | (have H2_ := (Option.bind_some _ _).symm.trans H; with_reducible exact H2_) | with_reducible exact H | (rw [hy178]; exact H) | exact H
 have Ny178 := Aside0.mk hy178
 clear hy178
 replace H := Option.bind_eq_some_iff.mp H
 obtain ⟨t181, A30, H⟩ := H
 replace H : (if t181 = 0 then ((num_of.f a0_0 a0_1).bind fun bt182 => ((num_of.f a1_0 a1_1).bind fun bt184 => ((num_ratio_compare.f bt182.1 bt182.2 bt184.1 bt184.2).bind fun t186 => (if t186 ≥ 0 then (some (0, 0, 10)) else ((num_of.f a0_0 a0_1).bind fun bt187 => ((num_of.f a1_0 a1_1).bind fun bt189 => ((num_simplest.f k bt187.1 bt187.2 bt189.1 bt189.2).bind fun bt191 => ((num_ratio_num.f k bt191.1 bt191.2).bind fun tz_ => exc tz_ (fun tp195 => (some (0, 0, 8))) (fun bt193 => (some (bt193.1, bt193.2, 0))))))))))) else (some (0, 0, t181))) = some (r1, r2, r3) := H
 have A3 := Aside0.mk A30
 clear A30
 by_cases c4 : t181 = 0
 · rw [if_pos c4] at H
   have c4b0 : (t181 == 0) = true := beq_iff_eq.mpr c4
   have c4b1 : (t181 != 0) = false := bne_eq_false_iff_eq.mpr c4
   clear c4
   replace H := Option.bind_eq_some_iff.mp H
   obtain ⟨⟨t182, t183⟩, A50, H⟩ := H
   replace H : ((num_of.f a1_0 a1_1).bind fun bt184 => ((num_ratio_compare.f t182 t183 bt184.1 bt184.2).bind fun t186 => (if t186 ≥ 0 then (some (0, 0, 10)) else ((num_of.f a0_0 a0_1).bind fun bt187 => ((num_of.f a1_0 a1_1).bind fun bt189 => ((num_simplest.f k bt187.1 bt187.2 bt189.1 bt189.2).bind fun bt191 => ((num_ratio_num.f k bt191.1 bt191.2).bind fun tz_ => exc tz_ (fun tp195 => (some (0, 0, 8))) (fun bt193 => (some (bt193.1, bt193.2, 0)))))))))) = some (r1, r2, r3) := H
   have A5 := Aside0.mk A50
   clear A50
   replace H := Option.bind_eq_some_iff.mp H
   obtain ⟨⟨t184, t185⟩, A60, H⟩ := H
   replace H : ((num_ratio_compare.f t182 t183 t184 t185).bind fun t186 => (if t186 ≥ 0 then (some (0, 0, 10)) else ((num_of.f a0_0 a0_1).bind fun bt187 => ((num_of.f a1_0 a1_1).bind fun bt189 => ((num_simplest.f k bt187.1 bt187.2 bt189.1 bt189.2).bind fun bt191 => ((num_ratio_num.f k bt191.1 bt191.2).bind fun tz_ => exc tz_ (fun tp195 => (some (0, 0, 8))) (fun bt193 => (some (bt193.1, bt193.2, 0))))))))) = some (r1, r2, r3) := H
   have A6 := Aside0.mk A60
   clear A60
   replace H := Option.bind_eq_some_iff.mp H
   obtain ⟨t186, A70, H⟩ := H
   replace H : (if t186 ≥ 0 then (some (0, 0, 10)) else ((num_of.f a0_0 a0_1).bind fun bt187 => ((num_of.f a1_0 a1_1).bind fun bt189 => ((num_simplest.f k bt187.1 bt187.2 bt189.1 bt189.2).bind fun bt191 => ((num_ratio_num.f k bt191.1 bt191.2).bind fun tz_ => exc tz_ (fun tp195 => (some (0, 0, 8))) (fun bt193 => (some (bt193.1, bt193.2, 0)))))))) = some (r1, r2, r3) := H
   have A7 := Aside0.mk A70
   clear A70
   by_cases c8 : t186 ≥ 0
   · rw [if_pos c8] at H
     have c8b0 : decide (0 ≤ t186) = true := decide_eq_true c8
     clear c8
     simp only [Option.some.injEq, Prod.mk.injEq] at H
     obtain ⟨rfl, rfl, rfl⟩ := H
     go_enter_defers Try.func25, Try.ntmps25
     try go_wp2_with (first | ((with_reducible refine gate_dst (N := 2) rfl ?_); refine box_event ?hg (N := 2) ?hd (cs := #[.int .i64 a0_0, .int .i64 a0_1]) (t := 23) ?hr ?_; (case hd => rfl); (case hg => rfl); (case hr => first | (go_simp; done) | (go_simp; rfl)); intro gb174 hg w9 hbox hb; have BK174 := Aside0.mk hbox; have GW174 := bwg_ HB hg; have GE174 := bwg_ HB hg; replace HB := bws_ HB hb; clear hb hbox hg) | ((with_reducible refine gate_dst (N := 3) rfl ?_); refine box_event ?hg (N := 3) ?hd (cs := #[.int .i64 a1_0, .int .i64 a1_1]) (t := 23) ?hr ?_; (case hd => rfl); (case hg => rfl); (case hr => first | (go_simp; done) | (go_simp; rfl)); intro gb175 hg w10 hbox hb; have BK175 := Aside0.mk hbox; have GW175 := bwg_ HB hg; have GE175 := bwg_ HB hg; replace HB := bws_ HB hb; have NB174_175 := bkl_ BK174 hg; have NB175_174 := bkr_ BK174 hg; replace BK174 := bkb_ BK174 hb; clear hb hbox hg) | ((with_reducible refine gate_dst (N := 4) rfl ?_); refine box_event ?hg (N := 4) ?hd (cs := #[.int .i64 0, .int .i64 0]) (t := 23) ?hr ?_; (case hd => rfl); (case hg => rfl); (case hr => first | (go_simp; done) | (go_simp; rfl)); intro gb176 hg w11 hbox hb; have BK176 := Aside0.mk hbox; have GW176 := bwg_ HB hg; have GE176 := bwg_ HB hg; replace HB := bws_ HB hb; have NB174_176 := bkl_ BK174 hg; have NB176_174 := bkr_ BK174 hg; replace BK174 := bkb_ BK174 hb; have NB175_176 := bkl_ BK175 hg; have NB176_175 := bkr_ BK175 hg; replace BK175 := bkb_ BK175 hb; clear hb hbox hg) | ((with_reducible refine gate_dst (N := 5) rfl ?_); refine box_event ?hg (N := 5) ?hd (cs := #[.int .i64 0]) (t := 26) ?hr ?_; (case hd => rfl); (case hg => rfl); (case hr => first | (go_simp; done) | (go_simp; rfl)); intro gb177 hg w12 hbox hb; have BK177 := Aside0.mk hbox; have GW177 := bwg_ HB hg; have GE177 := bwg_ HB hg; replace HB := bws_ HB hb; have NB174_177 := bkl_ BK174 hg; have NB177_174 := bkr_ BK174 hg; replace BK174 := bkb_ BK174 hb; have NB175_177 := bkl_ BK175 hg; have NB177_175 := bkr_ BK175 hg; replace BK175 := bkb_ BK175 hb; have NB176_177 := bkl_ BK176 hg; have NB177_176 := bkr_ BK176 hg; replace BK176 := bkb_ BK176 hb; clear hb hbox hg; have hnb13 := NB174_175.out; have hnc13 := NB175_174.out; have hnb14 := NB174_176.out; have hnc14 := NB176_174.out; have hnb15 := NB174_177.out; have hnc15 := NB177_174.out; obtain ⟨hcz16_0, hcz16_1, hfz16_0, hfz16_1⟩ := bc2_ BK174; have hnb17 := NB175_176.out; have hnc17 := NB176_175.out; have hnb18 := NB175_177.out; have hnc18 := NB177_175.out; obtain ⟨hcz19_0, hcz19_1, hfz19_0, hfz19_1⟩ := bc2_ BK175) | ((with_reducible refine gate_dst (N := 9) rfl ?_); refine Kd.R_lit k23 _ 23 ?hg (N := 9) ?hd (xs := ([(⟨a0_0, a0_1⟩ : S23), (⟨a1_0, a1_1⟩ : S23)] : List (S23))) (inner := [.int .i64 a0_0, .int .i64 a0_1, .int .i64 a1_0, .int .i64 a1_1]) (ok := fun _ => True) (okp := fun _ => True) ?hr ?hp (fun _ hk => hk) trivial (Below.refl _ _) (Nat.le_refl _) (by simp) ?_; (case hd => rfl); (case hg => rfl); (case hr => first | (go_simp; done) | (go_simp; rfl)); (case hp => exact (Reps.c2 (show Kd.M k23 _ _ _ (⟨a0_0, a0_1⟩ : S23) [.int .i64 a0_0, .int .i64 a0_1] from (k23_mkM _ _ _ (⟨a0_0, a0_1⟩ : S23) )) (Reps.c2 (show Kd.M k23 _ _ _ (⟨a1_0, a1_1⟩ : S23) [.int .i64 a1_0, .int .i64 a1_1] from (k23_mkM _ _ _ (⟨a1_0, a1_1⟩ : S23) )) (Reps.none _ _)))); intro v179 w20 ho21 hb hg_ hnew_; clear hg_ hnew_; (first | rw [← Ny178.out] at ho21 | (simp only [Int.reduceToNat] at ho21; rw [← Ny178.out] at ho21)); have HO180 := Aside0.mk (Kd.R_lower (Kd.R_newB (Kd.R_newB (Kd.R_newB ho21 (bk_ BK174)) (bk_ BK175)) (bk_ BK176)) (below_size (bw_ HB))); replace BK174 := bkb_ BK174 hb; replace BK175 := bkb_ BK175 hb; replace BK176 := bkb_ BK176 hb; replace BK177 := bkb_ BK177 hb; replace HB := bws_ HB hb; clear hb ho21; obtain ⟨Ao22, co22, eo22⟩ := Kd.R_slice HO180.out; subst eo22) | ((with_reducible refine gate_callee (f := 68) rfl ?_); refine gla_ (some 10) Try.func68 #[.slice Ao22 y178.length co22] ?_; (with_reducible refine (num_checked.calls k _ _ y178 t181 _ ?side1 ?side2 A3.out).mono ?_); (case side1 => repeat (first | exact (Kd.R_reads' HO180.out).2.2 | (with_reducible refine Kd.C_alloc ?_ _) | (with_reducible refine Kd.C_drewN ?_ _) | (with_reducible refine Kd.C_drew ?_))); (case side2 => exact (Kd.R_reads' HO180.out).2.1); rintro e w23 ⟨rfl, hb⟩; refine ⟨_, rfl, ?_⟩; replace HO180 := Aside0.mk (Kd.R_below (by (with_reducible repeat (first | apply Kd.R_alloc | apply Kd.R_drewN | apply Kd.R_drew)); exact HO180.out) hb); replace BK174 := bkb_ BK174 hb; replace BK175 := bkb_ BK175 hb; replace BK176 := bkb_ BK176 hb; replace BK177 := bkb_ BK177 hb; replace HB := bws_ HB hb; (try clear hb); (try clear hb2); (try clear hk); (try clear hi)))
     replace HO180 := Aside0.mk (Kd.R_drew HO180.out)
     replace BK174 := Aside0.mk (blk_drew BK174.out)
     replace BK175 := Aside0.mk (blk_drew BK175.out)
     replace BK176 := Aside0.mk (blk_drew BK176.out)
     replace BK177 := Aside0.mk (blk_drew BK177.out)
     replace HB := Aside0.mk (below_drew1 HB.out)
     refine start_ (n := 6) (S := fun w' => w'.cell? ⟨gb174, 0, none⟩ = some (.int .i64 a0_0) ∧ w'.cell? ⟨gb174, 1, none⟩ = some (.int .i64 a0_1) ∧ w'.cell? ⟨gb175, 0, none⟩ = some (.int .i64 a1_0) ∧ w'.cell? ⟨gb175, 1, none⟩ = some (.int .i64 a1_1)) (ds := []) #[false, false, false, false, false, false] (by kernel_rfl) rfl rfl ⟨(blk_cell BK174.out 0).trans rfl, (blk_cell BK174.out 1).trans rfl, (blk_cell BK175.out 0).trans rfl, (blk_cell BK175.out 1).trans rfl⟩ (fun hHeld => ?_)
     generalize w23.drew = w24 at HO180 BK174 BK175 BK176 BK177 HB hHeld ⊢
     refine take_ (i := 0) (N := some 15) (v := ?_) (a' := ?_) #[true, false, false, false, false, false] rfl rfl (by kernel_rfl) (fun _ _ _ h => num_put (fn := Try.f25) rfl (N := 15) (by decide) (by decide) h) (Or.inl ⟨by rfl, ?_⟩) hHeld ?_ ?_
     rotate_left
     · rintro w' ⟨s0, s1, s2, s3⟩
       go_simp
       with_reducible rfl
     rotate_left
     · simp only [Act.put, List.setIfInBounds_toArray, List.set_cons_zero, List.set_cons_succ, i64_w, i32_w]
       rfl
     refine take_ (i := 2) (N := some 17) (v := ?_) (a' := ?_) #[true, false, true, false, false, false] rfl rfl (by kernel_rfl) (fun _ _ _ h => num_put (fn := Try.f25) rfl (N := 17) (by decide) (by decide) h) (Or.inl ⟨by rfl, ?_⟩) hHeld ?_ ?_
     rotate_left
     · rintro w' ⟨s0, s1, s2, s3⟩
       go_simp
       with_reducible rfl
     rotate_left
     · simp only [Act.put, List.setIfInBounds_toArray, List.set_cons_zero, List.set_cons_succ, i64_w, i32_w]
       rfl
     refine one_ (i := 1) (N := some 16) #[true, true, true, false, false, false] rfl rfl (by kernel_rfl) (by decide) (fun K hK => ?_)
     refine gos_ Try.func69 #[.agg #[.int .i64 a0_0, .int .i64 a0_1]] ?_
     with_reducible refine (num_of.calls a0_0 a0_1 t182 t183 _ A5.out).mono ?_
     rintro e w25 ⟨rfl, hb⟩
     refine ⟨_, rfl, ?_⟩
     replace HO180 := Aside0.mk (Kd.R_below (by (with_reducible repeat (first | apply Kd.R_alloc | apply Kd.R_drewN | apply Kd.R_drew)); exact HO180.out) hb)
     replace BK174 := bkb_ BK174 hb
     replace BK175 := bkb_ BK175 hb
     replace BK176 := bkb_ BK176 hb
     replace BK177 := bkb_ BK177 hb
     replace HB := bws_ HB hb
     (try clear hb)
     (try clear hb2)
     (try clear hk)
     (try clear hi)
     refine hK.out _ _ ⟨(blk_cell BK174.out 0).trans rfl, (blk_cell BK174.out 1).trans rfl, (blk_cell BK175.out 0).trans rfl, (blk_cell BK175.out 1).trans rfl⟩ (fun hHeld => ?_)
     clear hK K
     refine norm_ (a' := ?_) ?_ ?_
     rotate_left
     · show Act.put _ (some 16) _ = _
       simp only [Act.put, List.setIfInBounds_toArray, List.set_cons_zero, List.set_cons_succ, i64_w, i32_w]
       rfl
     refine one_ (i := 3) (N := some 18) #[true, true, true, true, false, false] rfl rfl (by kernel_rfl) (by decide) (fun K hK => ?_)
     refine gos_ Try.func69 #[.agg #[.int .i64 a1_0, .int .i64 a1_1]] ?_
     with_reducible refine (num_of.calls a1_0 a1_1 t184 t185 _ A6.out).mono ?_
     rintro e w26 ⟨rfl, hb⟩
     refine ⟨_, rfl, ?_⟩
     replace HO180 := Aside0.mk (Kd.R_below (by (with_reducible repeat (first | apply Kd.R_alloc | apply Kd.R_drewN | apply Kd.R_drew)); exact HO180.out) hb)
     replace BK174 := bkb_ BK174 hb
     replace BK175 := bkb_ BK175 hb
     replace BK176 := bkb_ BK176 hb
     replace BK177 := bkb_ BK177 hb
     replace HB := bws_ HB hb
     (try clear hb)
     (try clear hb2)
     (try clear hk)
     (try clear hi)
     refine hK.out _ _ ⟨(blk_cell BK174.out 0).trans rfl, (blk_cell BK174.out 1).trans rfl, (blk_cell BK175.out 0).trans rfl, (blk_cell BK175.out 1).trans rfl⟩ (fun hHeld => ?_)
     clear hK K
     refine norm_ (a' := ?_) ?_ ?_
     rotate_left
     · show Act.put _ (some 18) _ = _
       simp only [Act.put, List.setIfInBounds_toArray, List.set_cons_zero, List.set_cons_succ, i64_w, i32_w]
       rfl
     refine one_ (i := 4) (N := some 19) #[true, true, true, true, true, false] rfl rfl (by kernel_rfl) (by decide) (fun K hK => ?_)
     refine gos_ Try.func70 #[.agg #[.int .i64 t182, .int .i64 t183], .agg #[.int .i64 t184, .int .i64 t185]] ?_
     with_reducible refine (num_ratio_compare.calls t182 t183 t184 t185 t186 _ A7.out).mono ?_
     rintro e w27 ⟨rfl, hb⟩
     refine ⟨_, rfl, ?_⟩
     replace HO180 := Aside0.mk (Kd.R_below (by (with_reducible repeat (first | apply Kd.R_alloc | apply Kd.R_drewN | apply Kd.R_drew)); exact HO180.out) hb)
     replace BK174 := bkb_ BK174 hb
     replace BK175 := bkb_ BK175 hb
     replace BK176 := bkb_ BK176 hb
     replace BK177 := bkb_ BK177 hb
     replace HB := bws_ HB hb
     (try clear hb)
     (try clear hb2)
     (try clear hk)
     (try clear hi)
     refine hK.out _ _ ⟨(blk_cell BK174.out 0).trans rfl, (blk_cell BK174.out 1).trans rfl, (blk_cell BK175.out 0).trans rfl, (blk_cell BK175.out 1).trans rfl⟩ (fun hHeld => ?_)
     clear hK K
     refine norm_ (a' := ?_) ?_ ?_
     rotate_left
     · show Act.put _ (some 19) _ = _
       simp only [Act.put, List.setIfInBounds_toArray, List.set_cons_zero, List.set_cons_succ, i64_w, i32_w]
       rfl
     refine pure_ (i := 5) (N := some 20) (v := ?_) (a' := ?_) #[true, true, true, true, true, true] rfl rfl (by kernel_rfl) (fun _ _ _ h => num_put (fn := Try.f25) rfl (N := 20) (by decide) (by decide) h) (Or.inl ⟨by rfl, ?_⟩) ?_ ?_
     rotate_left
     · intro w'
       go_simp
       with_reducible rfl
     rotate_left
     · simp only [Act.put, List.setIfInBounds_toArray, List.set_cons_zero, List.set_cons_succ, i64_w, i32_w]
       rfl
     refine done_ (by kernel_rfl) ?_
     have hnb28 := NB176_177.out
     have hnc28 := NB177_176.out
     obtain ⟨hcz29_0, hcz29_1, hfz29_0, hfz29_1⟩ := bc2_ BK176
     obtain ⟨hcz30_0, hfz30_0⟩ := bc1_ BK177
     try go_wp2
     show Leaves _ _ _ _ _ _ _
     exact num_catch.door_ret rfl _ _ _ gb176 gb177 _ _ _ rfl rfl (by refine bf_ ?_ NB176_177; refine bp_ (cs := #[.int .i64 0, .int .i64 0]) ?_ 1; refine bp_ (cs := #[.int .i64 0, .int .i64 0]) ?_ 0; exact bk_ BK176) (by refine bp_ (cs := #[.int .i64 0]) ?_ 0; refine bf_ ?_ NB177_176; refine bf_ ?_ NB177_176; exact bk_ BK177) (bw_ HB)
   · rw [if_neg c8] at H
     have c8b0 : decide (0 ≤ t186) = false := decide_eq_false c8
     clear c8
     replace H := Option.bind_eq_some_iff.mp H
     obtain ⟨⟨t187, t188⟩, A310, H⟩ := H
     replace H : ((num_of.f a1_0 a1_1).bind fun bt189 => ((num_simplest.f k t187 t188 bt189.1 bt189.2).bind fun bt191 => ((num_ratio_num.f k bt191.1 bt191.2).bind fun tz_ => exc tz_ (fun tp195 => (some (0, 0, 8))) (fun bt193 => (some (bt193.1, bt193.2, 0)))))) = some (r1, r2, r3) := H
     have A31 := Aside0.mk A310
     clear A310
     replace H := Option.bind_eq_some_iff.mp H
     obtain ⟨⟨t189, t190⟩, A320, H⟩ := H
     replace H : ((num_simplest.f k t187 t188 t189 t190).bind fun bt191 => ((num_ratio_num.f k bt191.1 bt191.2).bind fun tz_ => exc tz_ (fun tp195 => (some (0, 0, 8))) (fun bt193 => (some (bt193.1, bt193.2, 0))))) = some (r1, r2, r3) := H
     have A32 := Aside0.mk A320
     clear A320
     replace H := Option.bind_eq_some_iff.mp H
     obtain ⟨⟨t191, t192⟩, A330, H⟩ := H
     replace H : ((num_ratio_num.f k t191 t192).bind fun tz_ => exc tz_ (fun tp195 => (some (0, 0, 8))) (fun bt193 => (some (bt193.1, bt193.2, 0)))) = some (r1, r2, r3) := H
     have A33 := Aside0.mk A330
     clear A330
     replace H := Option.bind_eq_some_iff.mp H
     obtain ⟨tz_, A340, H⟩ := H
     cases tz_ with
     | error tp195 =>
      replace H : (some (0, 0, 8)) = some (r1, r2, r3) := H
      have A34 := Aside0.mk A340
      clear A340
      simp only [Option.some.injEq, Prod.mk.injEq] at H
      obtain ⟨rfl, rfl, rfl⟩ := H
      go_enter_defers Try.func25, Try.ntmps25
      try go_wp2_with (first | ((with_reducible refine gate_dst (N := 2) rfl ?_); refine box_event ?hg (N := 2) ?hd (cs := #[.int .i64 a0_0, .int .i64 a0_1]) (t := 23) ?hr ?_; (case hd => rfl); (case hg => rfl); (case hr => first | (go_simp; done) | (go_simp; rfl)); intro gb174 hg w35 hbox hb; have BK174 := Aside0.mk hbox; have GW174 := bwg_ HB hg; have GE174 := bwg_ HB hg; replace HB := bws_ HB hb; clear hb hbox hg) | ((with_reducible refine gate_dst (N := 3) rfl ?_); refine box_event ?hg (N := 3) ?hd (cs := #[.int .i64 a1_0, .int .i64 a1_1]) (t := 23) ?hr ?_; (case hd => rfl); (case hg => rfl); (case hr => first | (go_simp; done) | (go_simp; rfl)); intro gb175 hg w36 hbox hb; have BK175 := Aside0.mk hbox; have GW175 := bwg_ HB hg; have GE175 := bwg_ HB hg; replace HB := bws_ HB hb; have NB174_175 := bkl_ BK174 hg; have NB175_174 := bkr_ BK174 hg; replace BK174 := bkb_ BK174 hb; clear hb hbox hg) | ((with_reducible refine gate_dst (N := 4) rfl ?_); refine box_event ?hg (N := 4) ?hd (cs := #[.int .i64 0, .int .i64 0]) (t := 23) ?hr ?_; (case hd => rfl); (case hg => rfl); (case hr => first | (go_simp; done) | (go_simp; rfl)); intro gb176 hg w37 hbox hb; have BK176 := Aside0.mk hbox; have GW176 := bwg_ HB hg; have GE176 := bwg_ HB hg; replace HB := bws_ HB hb; have NB174_176 := bkl_ BK174 hg; have NB176_174 := bkr_ BK174 hg; replace BK174 := bkb_ BK174 hb; have NB175_176 := bkl_ BK175 hg; have NB176_175 := bkr_ BK175 hg; replace BK175 := bkb_ BK175 hb; clear hb hbox hg) | ((with_reducible refine gate_dst (N := 5) rfl ?_); refine box_event ?hg (N := 5) ?hd (cs := #[.int .i64 0]) (t := 26) ?hr ?_; (case hd => rfl); (case hg => rfl); (case hr => first | (go_simp; done) | (go_simp; rfl)); intro gb177 hg w38 hbox hb; have BK177 := Aside0.mk hbox; have GW177 := bwg_ HB hg; have GE177 := bwg_ HB hg; replace HB := bws_ HB hb; have NB174_177 := bkl_ BK174 hg; have NB177_174 := bkr_ BK174 hg; replace BK174 := bkb_ BK174 hb; have NB175_177 := bkl_ BK175 hg; have NB177_175 := bkr_ BK175 hg; replace BK175 := bkb_ BK175 hb; have NB176_177 := bkl_ BK176 hg; have NB177_176 := bkr_ BK176 hg; replace BK176 := bkb_ BK176 hb; clear hb hbox hg; have hnb39 := NB174_175.out; have hnc39 := NB175_174.out; have hnb40 := NB174_176.out; have hnc40 := NB176_174.out; have hnb41 := NB174_177.out; have hnc41 := NB177_174.out; obtain ⟨hcz42_0, hcz42_1, hfz42_0, hfz42_1⟩ := bc2_ BK174; have hnb43 := NB175_176.out; have hnc43 := NB176_175.out; have hnb44 := NB175_177.out; have hnc44 := NB177_175.out; obtain ⟨hcz45_0, hcz45_1, hfz45_0, hfz45_1⟩ := bc2_ BK175) | ((with_reducible refine gate_dst (N := 9) rfl ?_); refine Kd.R_lit k23 _ 23 ?hg (N := 9) ?hd (xs := ([(⟨a0_0, a0_1⟩ : S23), (⟨a1_0, a1_1⟩ : S23)] : List (S23))) (inner := [.int .i64 a0_0, .int .i64 a0_1, .int .i64 a1_0, .int .i64 a1_1]) (ok := fun _ => True) (okp := fun _ => True) ?hr ?hp (fun _ hk => hk) trivial (Below.refl _ _) (Nat.le_refl _) (by simp) ?_; (case hd => rfl); (case hg => rfl); (case hr => first | (go_simp; done) | (go_simp; rfl)); (case hp => exact (Reps.c2 (show Kd.M k23 _ _ _ (⟨a0_0, a0_1⟩ : S23) [.int .i64 a0_0, .int .i64 a0_1] from (k23_mkM _ _ _ (⟨a0_0, a0_1⟩ : S23) )) (Reps.c2 (show Kd.M k23 _ _ _ (⟨a1_0, a1_1⟩ : S23) [.int .i64 a1_0, .int .i64 a1_1] from (k23_mkM _ _ _ (⟨a1_0, a1_1⟩ : S23) )) (Reps.none _ _)))); intro v179 w46 ho47 hb hg_ hnew_; clear hg_ hnew_; (first | rw [← Ny178.out] at ho47 | (simp only [Int.reduceToNat] at ho47; rw [← Ny178.out] at ho47)); have HO180 := Aside0.mk (Kd.R_lower (Kd.R_newB (Kd.R_newB (Kd.R_newB ho47 (bk_ BK174)) (bk_ BK175)) (bk_ BK176)) (below_size (bw_ HB))); replace BK174 := bkb_ BK174 hb; replace BK175 := bkb_ BK175 hb; replace BK176 := bkb_ BK176 hb; replace BK177 := bkb_ BK177 hb; replace HB := bws_ HB hb; clear hb ho47; obtain ⟨Ao48, co48, eo48⟩ := Kd.R_slice HO180.out; subst eo48) | ((with_reducible refine gate_callee (f := 68) rfl ?_); refine gla_ (some 10) Try.func68 #[.slice Ao48 y178.length co48] ?_; (with_reducible refine (num_checked.calls k _ _ y178 t181 _ ?side1 ?side2 A3.out).mono ?_); (case side1 => repeat (first | exact (Kd.R_reads' HO180.out).2.2 | (with_reducible refine Kd.C_alloc ?_ _) | (with_reducible refine Kd.C_drewN ?_ _) | (with_reducible refine Kd.C_drew ?_))); (case side2 => exact (Kd.R_reads' HO180.out).2.1); rintro e w49 ⟨rfl, hb⟩; refine ⟨_, rfl, ?_⟩; replace HO180 := Aside0.mk (Kd.R_below (by (with_reducible repeat (first | apply Kd.R_alloc | apply Kd.R_drewN | apply Kd.R_drew)); exact HO180.out) hb); replace BK174 := bkb_ BK174 hb; replace BK175 := bkb_ BK175 hb; replace BK176 := bkb_ BK176 hb; replace BK177 := bkb_ BK177 hb; replace HB := bws_ HB hb; (try clear hb); (try clear hb2); (try clear hk); (try clear hi)))
      replace HO180 := Aside0.mk (Kd.R_drew HO180.out)
      replace BK174 := Aside0.mk (blk_drew BK174.out)
      replace BK175 := Aside0.mk (blk_drew BK175.out)
      replace BK176 := Aside0.mk (blk_drew BK176.out)
      replace BK177 := Aside0.mk (blk_drew BK177.out)
      replace HB := Aside0.mk (below_drew1 HB.out)
      refine start_ (n := 6) (S := fun w' => w'.cell? ⟨gb174, 0, none⟩ = some (.int .i64 a0_0) ∧ w'.cell? ⟨gb174, 1, none⟩ = some (.int .i64 a0_1) ∧ w'.cell? ⟨gb175, 0, none⟩ = some (.int .i64 a1_0) ∧ w'.cell? ⟨gb175, 1, none⟩ = some (.int .i64 a1_1)) (ds := []) #[false, false, false, false, false, false] (by kernel_rfl) rfl rfl ⟨(blk_cell BK174.out 0).trans rfl, (blk_cell BK174.out 1).trans rfl, (blk_cell BK175.out 0).trans rfl, (blk_cell BK175.out 1).trans rfl⟩ (fun hHeld => ?_)
      generalize w49.drew = w50 at HO180 BK174 BK175 BK176 BK177 HB hHeld ⊢
      refine take_ (i := 0) (N := some 15) (v := ?_) (a' := ?_) #[true, false, false, false, false, false] rfl rfl (by kernel_rfl) (fun _ _ _ h => num_put (fn := Try.f25) rfl (N := 15) (by decide) (by decide) h) (Or.inl ⟨by rfl, ?_⟩) hHeld ?_ ?_
      rotate_left
      · rintro w' ⟨s0, s1, s2, s3⟩
        go_simp
        with_reducible rfl
      rotate_left
      · simp only [Act.put, List.setIfInBounds_toArray, List.set_cons_zero, List.set_cons_succ, i64_w, i32_w]
        rfl
      refine take_ (i := 2) (N := some 17) (v := ?_) (a' := ?_) #[true, false, true, false, false, false] rfl rfl (by kernel_rfl) (fun _ _ _ h => num_put (fn := Try.f25) rfl (N := 17) (by decide) (by decide) h) (Or.inl ⟨by rfl, ?_⟩) hHeld ?_ ?_
      rotate_left
      · rintro w' ⟨s0, s1, s2, s3⟩
        go_simp
        with_reducible rfl
      rotate_left
      · simp only [Act.put, List.setIfInBounds_toArray, List.set_cons_zero, List.set_cons_succ, i64_w, i32_w]
        rfl
      refine one_ (i := 1) (N := some 16) #[true, true, true, false, false, false] rfl rfl (by kernel_rfl) (by decide) (fun K hK => ?_)
      refine gos_ Try.func69 #[.agg #[.int .i64 a0_0, .int .i64 a0_1]] ?_
      with_reducible refine (num_of.calls a0_0 a0_1 t182 t183 _ A5.out).mono ?_
      rintro e w51 ⟨rfl, hb⟩
      refine ⟨_, rfl, ?_⟩
      replace HO180 := Aside0.mk (Kd.R_below (by (with_reducible repeat (first | apply Kd.R_alloc | apply Kd.R_drewN | apply Kd.R_drew)); exact HO180.out) hb)
      replace BK174 := bkb_ BK174 hb
      replace BK175 := bkb_ BK175 hb
      replace BK176 := bkb_ BK176 hb
      replace BK177 := bkb_ BK177 hb
      replace HB := bws_ HB hb
      (try clear hb)
      (try clear hb2)
      (try clear hk)
      (try clear hi)
      refine hK.out _ _ ⟨(blk_cell BK174.out 0).trans rfl, (blk_cell BK174.out 1).trans rfl, (blk_cell BK175.out 0).trans rfl, (blk_cell BK175.out 1).trans rfl⟩ (fun hHeld => ?_)
      clear hK K
      refine norm_ (a' := ?_) ?_ ?_
      rotate_left
      · show Act.put _ (some 16) _ = _
        simp only [Act.put, List.setIfInBounds_toArray, List.set_cons_zero, List.set_cons_succ, i64_w, i32_w]
        rfl
      refine one_ (i := 3) (N := some 18) #[true, true, true, true, false, false] rfl rfl (by kernel_rfl) (by decide) (fun K hK => ?_)
      refine gos_ Try.func69 #[.agg #[.int .i64 a1_0, .int .i64 a1_1]] ?_
      with_reducible refine (num_of.calls a1_0 a1_1 t184 t185 _ A6.out).mono ?_
      rintro e w52 ⟨rfl, hb⟩
      refine ⟨_, rfl, ?_⟩
      replace HO180 := Aside0.mk (Kd.R_below (by (with_reducible repeat (first | apply Kd.R_alloc | apply Kd.R_drewN | apply Kd.R_drew)); exact HO180.out) hb)
      replace BK174 := bkb_ BK174 hb
      replace BK175 := bkb_ BK175 hb
      replace BK176 := bkb_ BK176 hb
      replace BK177 := bkb_ BK177 hb
      replace HB := bws_ HB hb
      (try clear hb)
      (try clear hb2)
      (try clear hk)
      (try clear hi)
      refine hK.out _ _ ⟨(blk_cell BK174.out 0).trans rfl, (blk_cell BK174.out 1).trans rfl, (blk_cell BK175.out 0).trans rfl, (blk_cell BK175.out 1).trans rfl⟩ (fun hHeld => ?_)
      clear hK K
      refine norm_ (a' := ?_) ?_ ?_
      rotate_left
      · show Act.put _ (some 18) _ = _
        simp only [Act.put, List.setIfInBounds_toArray, List.set_cons_zero, List.set_cons_succ, i64_w, i32_w]
        rfl
      refine one_ (i := 4) (N := some 19) #[true, true, true, true, true, false] rfl rfl (by kernel_rfl) (by decide) (fun K hK => ?_)
      refine gos_ Try.func70 #[.agg #[.int .i64 t182, .int .i64 t183], .agg #[.int .i64 t184, .int .i64 t185]] ?_
      with_reducible refine (num_ratio_compare.calls t182 t183 t184 t185 t186 _ A7.out).mono ?_
      rintro e w53 ⟨rfl, hb⟩
      refine ⟨_, rfl, ?_⟩
      replace HO180 := Aside0.mk (Kd.R_below (by (with_reducible repeat (first | apply Kd.R_alloc | apply Kd.R_drewN | apply Kd.R_drew)); exact HO180.out) hb)
      replace BK174 := bkb_ BK174 hb
      replace BK175 := bkb_ BK175 hb
      replace BK176 := bkb_ BK176 hb
      replace BK177 := bkb_ BK177 hb
      replace HB := bws_ HB hb
      (try clear hb)
      (try clear hb2)
      (try clear hk)
      (try clear hi)
      refine hK.out _ _ ⟨(blk_cell BK174.out 0).trans rfl, (blk_cell BK174.out 1).trans rfl, (blk_cell BK175.out 0).trans rfl, (blk_cell BK175.out 1).trans rfl⟩ (fun hHeld => ?_)
      clear hK K
      refine norm_ (a' := ?_) ?_ ?_
      rotate_left
      · show Act.put _ (some 19) _ = _
        simp only [Act.put, List.setIfInBounds_toArray, List.set_cons_zero, List.set_cons_succ, i64_w, i32_w]
        rfl
      refine pure_ (i := 5) (N := some 20) (v := ?_) (a' := ?_) #[true, true, true, true, true, true] rfl rfl (by kernel_rfl) (fun _ _ _ h => num_put (fn := Try.f25) rfl (N := 20) (by decide) (by decide) h) (Or.inl ⟨by rfl, ?_⟩) ?_ ?_
      rotate_left
      · intro w'
        go_simp
        with_reducible rfl
      rotate_left
      · simp only [Act.put, List.setIfInBounds_toArray, List.set_cons_zero, List.set_cons_succ, i64_w, i32_w]
        rfl
      refine done_ (by kernel_rfl) ?_
      try go_wp2
      replace HO180 := Aside0.mk (Kd.R_drew HO180.out)
      replace BK174 := Aside0.mk (blk_drew BK174.out)
      replace BK175 := Aside0.mk (blk_drew BK175.out)
      replace BK176 := Aside0.mk (blk_drew BK176.out)
      replace BK177 := Aside0.mk (blk_drew BK177.out)
      replace HB := Aside0.mk (below_drew1 HB.out)
      refine start_ (n := 8) (S := fun w' => w'.cell? ⟨gb174, 0, none⟩ = some (.int .i64 a0_0) ∧ w'.cell? ⟨gb174, 1, none⟩ = some (.int .i64 a0_1) ∧ w'.cell? ⟨gb175, 0, none⟩ = some (.int .i64 a1_0) ∧ w'.cell? ⟨gb175, 1, none⟩ = some (.int .i64 a1_1)) (ds := []) #[false, false, false, false, false, false, false, false] (by kernel_rfl) rfl rfl ⟨(blk_cell BK174.out 0).trans rfl, (blk_cell BK174.out 1).trans rfl, (blk_cell BK175.out 0).trans rfl, (blk_cell BK175.out 1).trans rfl⟩ (fun hHeld => ?_); refine with_tabW num_Simplest.tab7 num_Simplest.bits7 (fun HT_ HW_ => ?_)
      generalize w53.drew = w54 at HO180 BK174 BK175 BK176 BK177 HB hHeld ⊢
      refine take_ (i := 0) (N := some 22) (v := ?_) (a' := ?_) #[true, false, false, false, false, false, false, false] rfl rfl (take_ofW HT_.out HW_.out (by kernel_rfl)) (fun _ _ _ h => num_put (fn := Try.f25) rfl (N := 22) (by decide) (by decide) h) (Or.inl ⟨by rfl, ?_⟩) hHeld ?_ ?_
      rotate_left
      · rintro w' ⟨s0, s1, s2, s3⟩
        go_simp
        with_reducible rfl
      rotate_left
      · simp only [Act.put, List.setIfInBounds_toArray, List.set_cons_zero, List.set_cons_succ, i64_w, i32_w]
        rfl
      refine take_ (i := 2) (N := some 24) (v := ?_) (a' := ?_) #[true, false, true, false, false, false, false, false] rfl rfl (take_ofW HT_.out HW_.out (by kernel_rfl)) (fun _ _ _ h => num_put (fn := Try.f25) rfl (N := 24) (by decide) (by decide) h) (Or.inl ⟨by rfl, ?_⟩) hHeld ?_ ?_
      rotate_left
      · rintro w' ⟨s0, s1, s2, s3⟩
        go_simp
        with_reducible rfl
      rotate_left
      · simp only [Act.put, List.setIfInBounds_toArray, List.set_cons_zero, List.set_cons_succ, i64_w, i32_w]
        rfl
      refine one_ (i := 1) (N := some 23) #[true, true, true, false, false, false, false, false] rfl rfl (one_of HT_.out (by kernel_rfl)) (by decide) (fun K hK => ?_)
      refine gos_ Try.func69 #[.agg #[.int .i64 a0_0, .int .i64 a0_1]] ?_
      with_reducible refine (num_of.calls a0_0 a0_1 t187 t188 _ A31.out).mono ?_
      rintro e w55 ⟨rfl, hb⟩
      refine ⟨_, rfl, ?_⟩
      replace HO180 := Aside0.mk (Kd.R_below (by (with_reducible repeat (first | apply Kd.R_alloc | apply Kd.R_drewN | apply Kd.R_drew)); exact HO180.out) hb)
      replace BK174 := bkb_ BK174 hb
      replace BK175 := bkb_ BK175 hb
      replace BK176 := bkb_ BK176 hb
      replace BK177 := bkb_ BK177 hb
      replace HB := bws_ HB hb
      (try clear hb)
      (try clear hb2)
      (try clear hk)
      (try clear hi)
      refine hK.out _ _ ⟨(blk_cell BK174.out 0).trans rfl, (blk_cell BK174.out 1).trans rfl, (blk_cell BK175.out 0).trans rfl, (blk_cell BK175.out 1).trans rfl⟩ (fun hHeld => ?_)
      clear hK K
      refine norm_ (a' := ?_) ?_ ?_
      rotate_left
      · show Act.put _ (some 23) _ = _
        simp only [Act.put, List.setIfInBounds_toArray, List.set_cons_zero, List.set_cons_succ, i64_w, i32_w]
        rfl
      refine one_ (i := 3) (N := some 25) #[true, true, true, true, false, false, false, false] rfl rfl (one_of HT_.out (by kernel_rfl)) (by decide) (fun K hK => ?_)
      refine gos_ Try.func69 #[.agg #[.int .i64 a1_0, .int .i64 a1_1]] ?_
      with_reducible refine (num_of.calls a1_0 a1_1 t189 t190 _ A32.out).mono ?_
      rintro e w56 ⟨rfl, hb⟩
      refine ⟨_, rfl, ?_⟩
      replace HO180 := Aside0.mk (Kd.R_below (by (with_reducible repeat (first | apply Kd.R_alloc | apply Kd.R_drewN | apply Kd.R_drew)); exact HO180.out) hb)
      replace BK174 := bkb_ BK174 hb
      replace BK175 := bkb_ BK175 hb
      replace BK176 := bkb_ BK176 hb
      replace BK177 := bkb_ BK177 hb
      replace HB := bws_ HB hb
      (try clear hb)
      (try clear hb2)
      (try clear hk)
      (try clear hi)
      refine hK.out _ _ ⟨(blk_cell BK174.out 0).trans rfl, (blk_cell BK174.out 1).trans rfl, (blk_cell BK175.out 0).trans rfl, (blk_cell BK175.out 1).trans rfl⟩ (fun hHeld => ?_)
      clear hK K
      refine norm_ (a' := ?_) ?_ ?_
      rotate_left
      · show Act.put _ (some 25) _ = _
        simp only [Act.put, List.setIfInBounds_toArray, List.set_cons_zero, List.set_cons_succ, i64_w, i32_w]
        rfl
      refine one_ (i := 4) (N := some 26) #[true, true, true, true, true, false, false, false] rfl rfl (one_of HT_.out (by kernel_rfl)) (by decide) (fun K hK => ?_)
      refine gos_ Try.func72 #[.agg #[.int .i64 t187, .int .i64 t188], .agg #[.int .i64 t189, .int .i64 t190]] ?_
      with_reducible refine (num_simplest.calls k t187 t188 t189 t190 t191 t192 _ A33.out).mono ?_
      rintro e w57 ⟨rfl, hb⟩
      refine ⟨_, rfl, ?_⟩
      replace HO180 := Aside0.mk (Kd.R_below (by (with_reducible repeat (first | apply Kd.R_alloc | apply Kd.R_drewN | apply Kd.R_drew)); exact HO180.out) hb)
      replace BK174 := bkb_ BK174 hb
      replace BK175 := bkb_ BK175 hb
      replace BK176 := bkb_ BK176 hb
      replace BK177 := bkb_ BK177 hb
      replace HB := bws_ HB hb
      (try clear hb)
      (try clear hb2)
      (try clear hk)
      (try clear hi)
      refine hK.out _ _ ⟨(blk_cell BK174.out 0).trans rfl, (blk_cell BK174.out 1).trans rfl, (blk_cell BK175.out 0).trans rfl, (blk_cell BK175.out 1).trans rfl⟩ (fun hHeld => ?_)
      clear hK K
      refine norm_ (a' := ?_) ?_ ?_
      rotate_left
      · show Act.put _ (some 26) _ = _
        simp only [Act.put, List.setIfInBounds_toArray, List.set_cons_zero, List.set_cons_succ, i64_w, i32_w]
        rfl
      refine one_ (i := 5) (N := some 27) #[true, true, true, true, true, true, false, false] rfl rfl (one_of HT_.out (by kernel_rfl)) (by decide) (fun K hK => ?_)
      refine goesT_ Try.func73 (by kernel_rfl) rfl #[.agg #[.int .i64 t191, .int .i64 t192]] (by rfl) (by rfl) (by (try simp only [List.map_toArray, List.map_cons, List.map_nil]); first | done | rfl | (simp only [List.length_drop, List.length_take]; rfl)) ?_
      with_reducible refine (num_ratio_num.throws k t191 t192 tp195 _ A34.out).mono ?_
      rintro e w58 ⟨rfl, hb⟩
      refine ⟨_, rfl, ?_⟩
      replace HO180 := Aside0.mk (Kd.R_below (by (with_reducible repeat (first | apply Kd.R_alloc | apply Kd.R_drewN | apply Kd.R_drew)); exact HO180.out) hb)
      replace BK174 := bkb_ BK174 hb
      replace BK175 := bkb_ BK175 hb
      replace BK176 := bkb_ BK176 hb
      replace BK177 := bkb_ BK177 hb
      replace HB := bws_ HB hb
      (try clear hb)
      (try clear hb2)
      (try clear hk)
      (try clear hi)
      show Leaves _ _ _ _ _ _ _
      exact num_catch.door_caught rfl _ _ _ gb176 gb177 _ _ _ rfl rfl (bk_ BK176) (bk_ BK177) NB176_177.out (bw_ HB) GE176.out GE177.out
     | ok bt193 =>
      obtain ⟨t193, t194⟩ := bt193
      replace H : (some (t193, t194, 0)) = some (r1, r2, r3) := H
      have A34 := Aside0.mk A340
      clear A340
      simp only [Option.some.injEq, Prod.mk.injEq] at H
      obtain ⟨rfl, rfl, rfl⟩ := H
      go_enter_defers Try.func25, Try.ntmps25
      try go_wp2_with (first | ((with_reducible refine gate_dst (N := 2) rfl ?_); refine box_event ?hg (N := 2) ?hd (cs := #[.int .i64 a0_0, .int .i64 a0_1]) (t := 23) ?hr ?_; (case hd => rfl); (case hg => rfl); (case hr => first | (go_simp; done) | (go_simp; rfl)); intro gb174 hg w62 hbox hb; have BK174 := Aside0.mk hbox; have GW174 := bwg_ HB hg; have GE174 := bwg_ HB hg; replace HB := bws_ HB hb; clear hb hbox hg) | ((with_reducible refine gate_dst (N := 3) rfl ?_); refine box_event ?hg (N := 3) ?hd (cs := #[.int .i64 a1_0, .int .i64 a1_1]) (t := 23) ?hr ?_; (case hd => rfl); (case hg => rfl); (case hr => first | (go_simp; done) | (go_simp; rfl)); intro gb175 hg w63 hbox hb; have BK175 := Aside0.mk hbox; have GW175 := bwg_ HB hg; have GE175 := bwg_ HB hg; replace HB := bws_ HB hb; have NB174_175 := bkl_ BK174 hg; have NB175_174 := bkr_ BK174 hg; replace BK174 := bkb_ BK174 hb; clear hb hbox hg) | ((with_reducible refine gate_dst (N := 4) rfl ?_); refine box_event ?hg (N := 4) ?hd (cs := #[.int .i64 0, .int .i64 0]) (t := 23) ?hr ?_; (case hd => rfl); (case hg => rfl); (case hr => first | (go_simp; done) | (go_simp; rfl)); intro gb176 hg w64 hbox hb; have BK176 := Aside0.mk hbox; have GW176 := bwg_ HB hg; have GE176 := bwg_ HB hg; replace HB := bws_ HB hb; have NB174_176 := bkl_ BK174 hg; have NB176_174 := bkr_ BK174 hg; replace BK174 := bkb_ BK174 hb; have NB175_176 := bkl_ BK175 hg; have NB176_175 := bkr_ BK175 hg; replace BK175 := bkb_ BK175 hb; clear hb hbox hg) | ((with_reducible refine gate_dst (N := 5) rfl ?_); refine box_event ?hg (N := 5) ?hd (cs := #[.int .i64 0]) (t := 26) ?hr ?_; (case hd => rfl); (case hg => rfl); (case hr => first | (go_simp; done) | (go_simp; rfl)); intro gb177 hg w65 hbox hb; have BK177 := Aside0.mk hbox; have GW177 := bwg_ HB hg; have GE177 := bwg_ HB hg; replace HB := bws_ HB hb; have NB174_177 := bkl_ BK174 hg; have NB177_174 := bkr_ BK174 hg; replace BK174 := bkb_ BK174 hb; have NB175_177 := bkl_ BK175 hg; have NB177_175 := bkr_ BK175 hg; replace BK175 := bkb_ BK175 hb; have NB176_177 := bkl_ BK176 hg; have NB177_176 := bkr_ BK176 hg; replace BK176 := bkb_ BK176 hb; clear hb hbox hg; have hnb66 := NB174_175.out; have hnc66 := NB175_174.out; have hnb67 := NB174_176.out; have hnc67 := NB176_174.out; have hnb68 := NB174_177.out; have hnc68 := NB177_174.out; obtain ⟨hcz69_0, hcz69_1, hfz69_0, hfz69_1⟩ := bc2_ BK174; have hnb70 := NB175_176.out; have hnc70 := NB176_175.out; have hnb71 := NB175_177.out; have hnc71 := NB177_175.out; obtain ⟨hcz72_0, hcz72_1, hfz72_0, hfz72_1⟩ := bc2_ BK175) | ((with_reducible refine gate_dst (N := 9) rfl ?_); refine Kd.R_lit k23 _ 23 ?hg (N := 9) ?hd (xs := ([(⟨a0_0, a0_1⟩ : S23), (⟨a1_0, a1_1⟩ : S23)] : List (S23))) (inner := [.int .i64 a0_0, .int .i64 a0_1, .int .i64 a1_0, .int .i64 a1_1]) (ok := fun _ => True) (okp := fun _ => True) ?hr ?hp (fun _ hk => hk) trivial (Below.refl _ _) (Nat.le_refl _) (by simp) ?_; (case hd => rfl); (case hg => rfl); (case hr => first | (go_simp; done) | (go_simp; rfl)); (case hp => exact (Reps.c2 (show Kd.M k23 _ _ _ (⟨a0_0, a0_1⟩ : S23) [.int .i64 a0_0, .int .i64 a0_1] from (k23_mkM _ _ _ (⟨a0_0, a0_1⟩ : S23) )) (Reps.c2 (show Kd.M k23 _ _ _ (⟨a1_0, a1_1⟩ : S23) [.int .i64 a1_0, .int .i64 a1_1] from (k23_mkM _ _ _ (⟨a1_0, a1_1⟩ : S23) )) (Reps.none _ _)))); intro v179 w73 ho74 hb hg_ hnew_; clear hg_ hnew_; (first | rw [← Ny178.out] at ho74 | (simp only [Int.reduceToNat] at ho74; rw [← Ny178.out] at ho74)); have HO180 := Aside0.mk (Kd.R_lower (Kd.R_newB (Kd.R_newB (Kd.R_newB ho74 (bk_ BK174)) (bk_ BK175)) (bk_ BK176)) (below_size (bw_ HB))); replace BK174 := bkb_ BK174 hb; replace BK175 := bkb_ BK175 hb; replace BK176 := bkb_ BK176 hb; replace BK177 := bkb_ BK177 hb; replace HB := bws_ HB hb; clear hb ho74; obtain ⟨Ao75, co75, eo75⟩ := Kd.R_slice HO180.out; subst eo75) | ((with_reducible refine gate_callee (f := 68) rfl ?_); refine gla_ (some 10) Try.func68 #[.slice Ao75 y178.length co75] ?_; (with_reducible refine (num_checked.calls k _ _ y178 t181 _ ?side1 ?side2 A3.out).mono ?_); (case side1 => repeat (first | exact (Kd.R_reads' HO180.out).2.2 | (with_reducible refine Kd.C_alloc ?_ _) | (with_reducible refine Kd.C_drewN ?_ _) | (with_reducible refine Kd.C_drew ?_))); (case side2 => exact (Kd.R_reads' HO180.out).2.1); rintro e w76 ⟨rfl, hb⟩; refine ⟨_, rfl, ?_⟩; replace HO180 := Aside0.mk (Kd.R_below (by (with_reducible repeat (first | apply Kd.R_alloc | apply Kd.R_drewN | apply Kd.R_drew)); exact HO180.out) hb); replace BK174 := bkb_ BK174 hb; replace BK175 := bkb_ BK175 hb; replace BK176 := bkb_ BK176 hb; replace BK177 := bkb_ BK177 hb; replace HB := bws_ HB hb; (try clear hb); (try clear hb2); (try clear hk); (try clear hi)))
      replace HO180 := Aside0.mk (Kd.R_drew HO180.out)
      replace BK174 := Aside0.mk (blk_drew BK174.out)
      replace BK175 := Aside0.mk (blk_drew BK175.out)
      replace BK176 := Aside0.mk (blk_drew BK176.out)
      replace BK177 := Aside0.mk (blk_drew BK177.out)
      replace HB := Aside0.mk (below_drew1 HB.out)
      refine start_ (n := 6) (S := fun w' => w'.cell? ⟨gb174, 0, none⟩ = some (.int .i64 a0_0) ∧ w'.cell? ⟨gb174, 1, none⟩ = some (.int .i64 a0_1) ∧ w'.cell? ⟨gb175, 0, none⟩ = some (.int .i64 a1_0) ∧ w'.cell? ⟨gb175, 1, none⟩ = some (.int .i64 a1_1)) (ds := []) #[false, false, false, false, false, false] (by kernel_rfl) rfl rfl ⟨(blk_cell BK174.out 0).trans rfl, (blk_cell BK174.out 1).trans rfl, (blk_cell BK175.out 0).trans rfl, (blk_cell BK175.out 1).trans rfl⟩ (fun hHeld => ?_)
      generalize w76.drew = w77 at HO180 BK174 BK175 BK176 BK177 HB hHeld ⊢
      refine take_ (i := 0) (N := some 15) (v := ?_) (a' := ?_) #[true, false, false, false, false, false] rfl rfl (by kernel_rfl) (fun _ _ _ h => num_put (fn := Try.f25) rfl (N := 15) (by decide) (by decide) h) (Or.inl ⟨by rfl, ?_⟩) hHeld ?_ ?_
      rotate_left
      · rintro w' ⟨s0, s1, s2, s3⟩
        go_simp
        with_reducible rfl
      rotate_left
      · simp only [Act.put, List.setIfInBounds_toArray, List.set_cons_zero, List.set_cons_succ, i64_w, i32_w]
        rfl
      refine take_ (i := 2) (N := some 17) (v := ?_) (a' := ?_) #[true, false, true, false, false, false] rfl rfl (by kernel_rfl) (fun _ _ _ h => num_put (fn := Try.f25) rfl (N := 17) (by decide) (by decide) h) (Or.inl ⟨by rfl, ?_⟩) hHeld ?_ ?_
      rotate_left
      · rintro w' ⟨s0, s1, s2, s3⟩
        go_simp
        with_reducible rfl
      rotate_left
      · simp only [Act.put, List.setIfInBounds_toArray, List.set_cons_zero, List.set_cons_succ, i64_w, i32_w]
        rfl
      refine one_ (i := 1) (N := some 16) #[true, true, true, false, false, false] rfl rfl (by kernel_rfl) (by decide) (fun K hK => ?_)
      refine gos_ Try.func69 #[.agg #[.int .i64 a0_0, .int .i64 a0_1]] ?_
      with_reducible refine (num_of.calls a0_0 a0_1 t182 t183 _ A5.out).mono ?_
      rintro e w78 ⟨rfl, hb⟩
      refine ⟨_, rfl, ?_⟩
      replace HO180 := Aside0.mk (Kd.R_below (by (with_reducible repeat (first | apply Kd.R_alloc | apply Kd.R_drewN | apply Kd.R_drew)); exact HO180.out) hb)
      replace BK174 := bkb_ BK174 hb
      replace BK175 := bkb_ BK175 hb
      replace BK176 := bkb_ BK176 hb
      replace BK177 := bkb_ BK177 hb
      replace HB := bws_ HB hb
      (try clear hb)
      (try clear hb2)
      (try clear hk)
      (try clear hi)
      refine hK.out _ _ ⟨(blk_cell BK174.out 0).trans rfl, (blk_cell BK174.out 1).trans rfl, (blk_cell BK175.out 0).trans rfl, (blk_cell BK175.out 1).trans rfl⟩ (fun hHeld => ?_)
      clear hK K
      refine norm_ (a' := ?_) ?_ ?_
      rotate_left
      · show Act.put _ (some 16) _ = _
        simp only [Act.put, List.setIfInBounds_toArray, List.set_cons_zero, List.set_cons_succ, i64_w, i32_w]
        rfl
      refine one_ (i := 3) (N := some 18) #[true, true, true, true, false, false] rfl rfl (by kernel_rfl) (by decide) (fun K hK => ?_)
      refine gos_ Try.func69 #[.agg #[.int .i64 a1_0, .int .i64 a1_1]] ?_
      with_reducible refine (num_of.calls a1_0 a1_1 t184 t185 _ A6.out).mono ?_
      rintro e w79 ⟨rfl, hb⟩
      refine ⟨_, rfl, ?_⟩
      replace HO180 := Aside0.mk (Kd.R_below (by (with_reducible repeat (first | apply Kd.R_alloc | apply Kd.R_drewN | apply Kd.R_drew)); exact HO180.out) hb)
      replace BK174 := bkb_ BK174 hb
      replace BK175 := bkb_ BK175 hb
      replace BK176 := bkb_ BK176 hb
      replace BK177 := bkb_ BK177 hb
      replace HB := bws_ HB hb
      (try clear hb)
      (try clear hb2)
      (try clear hk)
      (try clear hi)
      refine hK.out _ _ ⟨(blk_cell BK174.out 0).trans rfl, (blk_cell BK174.out 1).trans rfl, (blk_cell BK175.out 0).trans rfl, (blk_cell BK175.out 1).trans rfl⟩ (fun hHeld => ?_)
      clear hK K
      refine norm_ (a' := ?_) ?_ ?_
      rotate_left
      · show Act.put _ (some 18) _ = _
        simp only [Act.put, List.setIfInBounds_toArray, List.set_cons_zero, List.set_cons_succ, i64_w, i32_w]
        rfl
      refine one_ (i := 4) (N := some 19) #[true, true, true, true, true, false] rfl rfl (by kernel_rfl) (by decide) (fun K hK => ?_)
      refine gos_ Try.func70 #[.agg #[.int .i64 t182, .int .i64 t183], .agg #[.int .i64 t184, .int .i64 t185]] ?_
      with_reducible refine (num_ratio_compare.calls t182 t183 t184 t185 t186 _ A7.out).mono ?_
      rintro e w80 ⟨rfl, hb⟩
      refine ⟨_, rfl, ?_⟩
      replace HO180 := Aside0.mk (Kd.R_below (by (with_reducible repeat (first | apply Kd.R_alloc | apply Kd.R_drewN | apply Kd.R_drew)); exact HO180.out) hb)
      replace BK174 := bkb_ BK174 hb
      replace BK175 := bkb_ BK175 hb
      replace BK176 := bkb_ BK176 hb
      replace BK177 := bkb_ BK177 hb
      replace HB := bws_ HB hb
      (try clear hb)
      (try clear hb2)
      (try clear hk)
      (try clear hi)
      refine hK.out _ _ ⟨(blk_cell BK174.out 0).trans rfl, (blk_cell BK174.out 1).trans rfl, (blk_cell BK175.out 0).trans rfl, (blk_cell BK175.out 1).trans rfl⟩ (fun hHeld => ?_)
      clear hK K
      refine norm_ (a' := ?_) ?_ ?_
      rotate_left
      · show Act.put _ (some 19) _ = _
        simp only [Act.put, List.setIfInBounds_toArray, List.set_cons_zero, List.set_cons_succ, i64_w, i32_w]
        rfl
      refine pure_ (i := 5) (N := some 20) (v := ?_) (a' := ?_) #[true, true, true, true, true, true] rfl rfl (by kernel_rfl) (fun _ _ _ h => num_put (fn := Try.f25) rfl (N := 20) (by decide) (by decide) h) (Or.inl ⟨by rfl, ?_⟩) ?_ ?_
      rotate_left
      · intro w'
        go_simp
        with_reducible rfl
      rotate_left
      · simp only [Act.put, List.setIfInBounds_toArray, List.set_cons_zero, List.set_cons_succ, i64_w, i32_w]
        rfl
      refine done_ (by kernel_rfl) ?_
      try go_wp2
      replace HO180 := Aside0.mk (Kd.R_drew HO180.out)
      replace BK174 := Aside0.mk (blk_drew BK174.out)
      replace BK175 := Aside0.mk (blk_drew BK175.out)
      replace BK176 := Aside0.mk (blk_drew BK176.out)
      replace BK177 := Aside0.mk (blk_drew BK177.out)
      replace HB := Aside0.mk (below_drew1 HB.out)
      refine start_ (n := 8) (S := fun w' => w'.cell? ⟨gb174, 0, none⟩ = some (.int .i64 a0_0) ∧ w'.cell? ⟨gb174, 1, none⟩ = some (.int .i64 a0_1) ∧ w'.cell? ⟨gb175, 0, none⟩ = some (.int .i64 a1_0) ∧ w'.cell? ⟨gb175, 1, none⟩ = some (.int .i64 a1_1)) (ds := []) #[false, false, false, false, false, false, false, false] (by kernel_rfl) rfl rfl ⟨(blk_cell BK174.out 0).trans rfl, (blk_cell BK174.out 1).trans rfl, (blk_cell BK175.out 0).trans rfl, (blk_cell BK175.out 1).trans rfl⟩ (fun hHeld => ?_); refine with_tabW num_Simplest.tab7 num_Simplest.bits7 (fun HT_ HW_ => ?_)
      generalize w80.drew = w81 at HO180 BK174 BK175 BK176 BK177 HB hHeld ⊢
      refine take_ (i := 0) (N := some 22) (v := ?_) (a' := ?_) #[true, false, false, false, false, false, false, false] rfl rfl (take_ofW HT_.out HW_.out (by kernel_rfl)) (fun _ _ _ h => num_put (fn := Try.f25) rfl (N := 22) (by decide) (by decide) h) (Or.inl ⟨by rfl, ?_⟩) hHeld ?_ ?_
      rotate_left
      · rintro w' ⟨s0, s1, s2, s3⟩
        go_simp
        with_reducible rfl
      rotate_left
      · simp only [Act.put, List.setIfInBounds_toArray, List.set_cons_zero, List.set_cons_succ, i64_w, i32_w]
        rfl
      refine take_ (i := 2) (N := some 24) (v := ?_) (a' := ?_) #[true, false, true, false, false, false, false, false] rfl rfl (take_ofW HT_.out HW_.out (by kernel_rfl)) (fun _ _ _ h => num_put (fn := Try.f25) rfl (N := 24) (by decide) (by decide) h) (Or.inl ⟨by rfl, ?_⟩) hHeld ?_ ?_
      rotate_left
      · rintro w' ⟨s0, s1, s2, s3⟩
        go_simp
        with_reducible rfl
      rotate_left
      · simp only [Act.put, List.setIfInBounds_toArray, List.set_cons_zero, List.set_cons_succ, i64_w, i32_w]
        rfl
      refine one_ (i := 1) (N := some 23) #[true, true, true, false, false, false, false, false] rfl rfl (one_of HT_.out (by kernel_rfl)) (by decide) (fun K hK => ?_)
      refine gos_ Try.func69 #[.agg #[.int .i64 a0_0, .int .i64 a0_1]] ?_
      with_reducible refine (num_of.calls a0_0 a0_1 t187 t188 _ A31.out).mono ?_
      rintro e w82 ⟨rfl, hb⟩
      refine ⟨_, rfl, ?_⟩
      replace HO180 := Aside0.mk (Kd.R_below (by (with_reducible repeat (first | apply Kd.R_alloc | apply Kd.R_drewN | apply Kd.R_drew)); exact HO180.out) hb)
      replace BK174 := bkb_ BK174 hb
      replace BK175 := bkb_ BK175 hb
      replace BK176 := bkb_ BK176 hb
      replace BK177 := bkb_ BK177 hb
      replace HB := bws_ HB hb
      (try clear hb)
      (try clear hb2)
      (try clear hk)
      (try clear hi)
      refine hK.out _ _ ⟨(blk_cell BK174.out 0).trans rfl, (blk_cell BK174.out 1).trans rfl, (blk_cell BK175.out 0).trans rfl, (blk_cell BK175.out 1).trans rfl⟩ (fun hHeld => ?_)
      clear hK K
      refine norm_ (a' := ?_) ?_ ?_
      rotate_left
      · show Act.put _ (some 23) _ = _
        simp only [Act.put, List.setIfInBounds_toArray, List.set_cons_zero, List.set_cons_succ, i64_w, i32_w]
        rfl
      refine one_ (i := 3) (N := some 25) #[true, true, true, true, false, false, false, false] rfl rfl (one_of HT_.out (by kernel_rfl)) (by decide) (fun K hK => ?_)
      refine gos_ Try.func69 #[.agg #[.int .i64 a1_0, .int .i64 a1_1]] ?_
      with_reducible refine (num_of.calls a1_0 a1_1 t189 t190 _ A32.out).mono ?_
      rintro e w83 ⟨rfl, hb⟩
      refine ⟨_, rfl, ?_⟩
      replace HO180 := Aside0.mk (Kd.R_below (by (with_reducible repeat (first | apply Kd.R_alloc | apply Kd.R_drewN | apply Kd.R_drew)); exact HO180.out) hb)
      replace BK174 := bkb_ BK174 hb
      replace BK175 := bkb_ BK175 hb
      replace BK176 := bkb_ BK176 hb
      replace BK177 := bkb_ BK177 hb
      replace HB := bws_ HB hb
      (try clear hb)
      (try clear hb2)
      (try clear hk)
      (try clear hi)
      refine hK.out _ _ ⟨(blk_cell BK174.out 0).trans rfl, (blk_cell BK174.out 1).trans rfl, (blk_cell BK175.out 0).trans rfl, (blk_cell BK175.out 1).trans rfl⟩ (fun hHeld => ?_)
      clear hK K
      refine norm_ (a' := ?_) ?_ ?_
      rotate_left
      · show Act.put _ (some 25) _ = _
        simp only [Act.put, List.setIfInBounds_toArray, List.set_cons_zero, List.set_cons_succ, i64_w, i32_w]
        rfl
      refine one_ (i := 4) (N := some 26) #[true, true, true, true, true, false, false, false] rfl rfl (one_of HT_.out (by kernel_rfl)) (by decide) (fun K hK => ?_)
      refine gos_ Try.func72 #[.agg #[.int .i64 t187, .int .i64 t188], .agg #[.int .i64 t189, .int .i64 t190]] ?_
      with_reducible refine (num_simplest.calls k t187 t188 t189 t190 t191 t192 _ A33.out).mono ?_
      rintro e w84 ⟨rfl, hb⟩
      refine ⟨_, rfl, ?_⟩
      replace HO180 := Aside0.mk (Kd.R_below (by (with_reducible repeat (first | apply Kd.R_alloc | apply Kd.R_drewN | apply Kd.R_drew)); exact HO180.out) hb)
      replace BK174 := bkb_ BK174 hb
      replace BK175 := bkb_ BK175 hb
      replace BK176 := bkb_ BK176 hb
      replace BK177 := bkb_ BK177 hb
      replace HB := bws_ HB hb
      (try clear hb)
      (try clear hb2)
      (try clear hk)
      (try clear hi)
      refine hK.out _ _ ⟨(blk_cell BK174.out 0).trans rfl, (blk_cell BK174.out 1).trans rfl, (blk_cell BK175.out 0).trans rfl, (blk_cell BK175.out 1).trans rfl⟩ (fun hHeld => ?_)
      clear hK K
      refine norm_ (a' := ?_) ?_ ?_
      rotate_left
      · show Act.put _ (some 26) _ = _
        simp only [Act.put, List.setIfInBounds_toArray, List.set_cons_zero, List.set_cons_succ, i64_w, i32_w]
        rfl
      refine one_ (i := 5) (N := some 27) #[true, true, true, true, true, true, false, false] rfl rfl (one_of HT_.out (by kernel_rfl)) (by decide) (fun K hK => ?_)
      refine gos_ Try.func73 #[.agg #[.int .i64 t191, .int .i64 t192]] ?_
      with_reducible refine (num_ratio_num.calls k t191 t192 t193 t194 _ A34.out).mono ?_
      rintro e w85 ⟨rfl, hb⟩
      refine ⟨_, rfl, ?_⟩
      replace HO180 := Aside0.mk (Kd.R_below (by (with_reducible repeat (first | apply Kd.R_alloc | apply Kd.R_drewN | apply Kd.R_drew)); exact HO180.out) hb)
      replace BK174 := bkb_ BK174 hb
      replace BK175 := bkb_ BK175 hb
      replace BK176 := bkb_ BK176 hb
      replace BK177 := bkb_ BK177 hb
      replace HB := bws_ HB hb
      (try clear hb)
      (try clear hb2)
      (try clear hk)
      (try clear hi)
      refine hK.out _ _ ⟨(blk_cell BK174.out 0).trans rfl, (blk_cell BK174.out 1).trans rfl, (blk_cell BK175.out 0).trans rfl, (blk_cell BK175.out 1).trans rfl⟩ (fun hHeld => ?_)
      clear hK K
      refine norm_ (a' := ?_) ?_ ?_
      rotate_left
      · show Act.put _ (some 27) _ = _
        simp only [Act.put, List.setIfInBounds_toArray, List.set_cons_zero, List.set_cons_succ, i64_w, i32_w]
        rfl
      refine one_ (i := 6) (N := none) #[true, true, true, true, true, true, true, false] rfl rfl (one_of HT_.out (by kernel_rfl)) (by decide) (fun K hK => ?_)
      have hs86 : w85.cell? ⟨gb176, 0, none⟩ = some (.int .i64 0) := (blk_cell BK176.out 0).trans rfl
      have hfs86 := blk_frozen BK176.out 0
      have hns86_0 := NB174_176.out
      have hns86_1 := NB175_176.out
      have hns86_3 := NB177_176.out
      have hms86_0 := NB176_174.out
      have hms86_1 := NB176_175.out
      have hms86_3 := NB176_177.out
      have hs87 : w85.cell? ⟨gb176, 1, none⟩ = some (.int .i64 0) := (blk_cell BK176.out 1).trans rfl
      have hfs87 := blk_frozen BK176.out 1
      have hns87_0 := NB174_176.out
      have hns87_1 := NB175_176.out
      have hns87_3 := NB177_176.out
      have hms87_0 := NB176_174.out
      have hms87_1 := NB176_175.out
      have hms87_3 := NB176_177.out
      refine skip_ (w1 := ?_) (by rfl) rfl ?_ ?_
      rotate_left
      · go_simp
        rfl
      refine hK.out _ _ ⟨((cell_far (p := ⟨gb176, _, none⟩) NB174_176.out _).trans (((cell_far (p := ⟨gb176, _, none⟩) NB174_176.out _).trans (hHeld.1)))), ((cell_far (p := ⟨gb176, _, none⟩) NB174_176.out _).trans (((cell_far (p := ⟨gb176, _, none⟩) NB174_176.out _).trans (hHeld.2.1)))), ((cell_far (p := ⟨gb176, _, none⟩) NB175_176.out _).trans (((cell_far (p := ⟨gb176, _, none⟩) NB175_176.out _).trans (hHeld.2.2.1)))), ((cell_far (p := ⟨gb176, _, none⟩) NB175_176.out _).trans (((cell_far (p := ⟨gb176, _, none⟩) NB175_176.out _).trans (hHeld.2.2.2))))⟩ (fun hHeld => ?_)
      clear hK K
      refine one_ (i := 7) (N := none) #[true, true, true, true, true, true, true, true] rfl rfl (one_of HT_.out (by kernel_rfl)) (by decide) (fun K hK => ?_)
      have hs88 : w85.cell? ⟨gb177, 0, none⟩ = some (.int .i64 0) := (blk_cell BK177.out 0).trans rfl
      have hfs88 := blk_frozen BK177.out 0
      have hns88_0 := NB174_177.out
      have hns88_1 := NB175_177.out
      have hns88_2 := NB176_177.out
      have hms88_0 := NB177_174.out
      have hms88_1 := NB177_175.out
      have hms88_2 := NB177_176.out
      refine skip_ (w1 := ?_) (by rfl) rfl ?_ ?_
      rotate_left
      · go_simp
        rfl
      refine hK.out _ _ ⟨((cell_far (p := ⟨gb177, _, none⟩) NB174_177.out _).trans (hHeld.1)), ((cell_far (p := ⟨gb177, _, none⟩) NB174_177.out _).trans (hHeld.2.1)), ((cell_far (p := ⟨gb177, _, none⟩) NB175_177.out _).trans (hHeld.2.2.1)), ((cell_far (p := ⟨gb177, _, none⟩) NB175_177.out _).trans (hHeld.2.2.2))⟩ (fun hHeld => ?_)
      clear hK K
      refine done_ (done_of HT_.out (by kernel_rfl)) ?_
      try go_wp2
      show Leaves _ _ _ _ _ _ _
      exact num_catch.door_ok rfl _ _ _ gb176 gb177 _ _ _ rfl rfl (by refine bf_ ?_ NB176_177; refine bp_ (cs := #[.int .i64 t193, .int .i64 0]) ?_ 1; refine bp_ (cs := #[.int .i64 0, .int .i64 0]) ?_ 0; exact bk_ BK176) (by refine bp_ (cs := #[.int .i64 0]) ?_ 0; refine bf_ ?_ NB177_176; refine bf_ ?_ NB177_176; exact bk_ BK177) (bw_ HB)
 · rw [if_neg c4] at H
   have c4b0 : (t181 == 0) = false := beq_eq_false_iff_ne.mpr c4
   have c4b1 : (t181 != 0) = true := bne_iff_ne.mpr c4
   simp only [Option.some.injEq, Prod.mk.injEq] at H
   obtain ⟨rfl, rfl, rfl⟩ := H
   go_enter_defers Try.func25, Try.ntmps25
   go_wp2_with (first | ((with_reducible refine gate_dst (N := 2) rfl ?_); refine box_event ?hg (N := 2) ?hd (cs := #[.int .i64 a0_0, .int .i64 a0_1]) (t := 23) ?hr ?_; (case hd => rfl); (case hg => rfl); (case hr => first | (go_simp; done) | (go_simp; rfl)); intro gb174 hg w89 hbox hb; have BK174 := Aside0.mk hbox; have GW174 := bwg_ HB hg; have GE174 := bwg_ HB hg; replace HB := bws_ HB hb; clear hb hbox hg) | ((with_reducible refine gate_dst (N := 3) rfl ?_); refine box_event ?hg (N := 3) ?hd (cs := #[.int .i64 a1_0, .int .i64 a1_1]) (t := 23) ?hr ?_; (case hd => rfl); (case hg => rfl); (case hr => first | (go_simp; done) | (go_simp; rfl)); intro gb175 hg w90 hbox hb; have BK175 := Aside0.mk hbox; have GW175 := bwg_ HB hg; have GE175 := bwg_ HB hg; replace HB := bws_ HB hb; have NB174_175 := bkl_ BK174 hg; have NB175_174 := bkr_ BK174 hg; replace BK174 := bkb_ BK174 hb; clear hb hbox hg) | ((with_reducible refine gate_dst (N := 4) rfl ?_); refine box_event ?hg (N := 4) ?hd (cs := #[.int .i64 0, .int .i64 0]) (t := 23) ?hr ?_; (case hd => rfl); (case hg => rfl); (case hr => first | (go_simp; done) | (go_simp; rfl)); intro gb176 hg w91 hbox hb; have BK176 := Aside0.mk hbox; have GW176 := bwg_ HB hg; have GE176 := bwg_ HB hg; replace HB := bws_ HB hb; have NB174_176 := bkl_ BK174 hg; have NB176_174 := bkr_ BK174 hg; replace BK174 := bkb_ BK174 hb; have NB175_176 := bkl_ BK175 hg; have NB176_175 := bkr_ BK175 hg; replace BK175 := bkb_ BK175 hb; clear hb hbox hg) | ((with_reducible refine gate_dst (N := 5) rfl ?_); refine box_event ?hg (N := 5) ?hd (cs := #[.int .i64 0]) (t := 26) ?hr ?_; (case hd => rfl); (case hg => rfl); (case hr => first | (go_simp; done) | (go_simp; rfl)); intro gb177 hg w92 hbox hb; have BK177 := Aside0.mk hbox; have GW177 := bwg_ HB hg; have GE177 := bwg_ HB hg; replace HB := bws_ HB hb; have NB174_177 := bkl_ BK174 hg; have NB177_174 := bkr_ BK174 hg; replace BK174 := bkb_ BK174 hb; have NB175_177 := bkl_ BK175 hg; have NB177_175 := bkr_ BK175 hg; replace BK175 := bkb_ BK175 hb; have NB176_177 := bkl_ BK176 hg; have NB177_176 := bkr_ BK176 hg; replace BK176 := bkb_ BK176 hb; clear hb hbox hg; have hnb93 := NB174_175.out; have hnc93 := NB175_174.out; have hnb94 := NB174_176.out; have hnc94 := NB176_174.out; have hnb95 := NB174_177.out; have hnc95 := NB177_174.out; obtain ⟨hcz96_0, hcz96_1, hfz96_0, hfz96_1⟩ := bc2_ BK174; have hnb97 := NB175_176.out; have hnc97 := NB176_175.out; have hnb98 := NB175_177.out; have hnc98 := NB177_175.out; obtain ⟨hcz99_0, hcz99_1, hfz99_0, hfz99_1⟩ := bc2_ BK175) | ((with_reducible refine gate_dst (N := 9) rfl ?_); refine Kd.R_lit k23 _ 23 ?hg (N := 9) ?hd (xs := ([(⟨a0_0, a0_1⟩ : S23), (⟨a1_0, a1_1⟩ : S23)] : List (S23))) (inner := [.int .i64 a0_0, .int .i64 a0_1, .int .i64 a1_0, .int .i64 a1_1]) (ok := fun _ => True) (okp := fun _ => True) ?hr ?hp (fun _ hk => hk) trivial (Below.refl _ _) (Nat.le_refl _) (by simp) ?_; (case hd => rfl); (case hg => rfl); (case hr => first | (go_simp; done) | (go_simp; rfl)); (case hp => exact (Reps.c2 (show Kd.M k23 _ _ _ (⟨a0_0, a0_1⟩ : S23) [.int .i64 a0_0, .int .i64 a0_1] from (k23_mkM _ _ _ (⟨a0_0, a0_1⟩ : S23) )) (Reps.c2 (show Kd.M k23 _ _ _ (⟨a1_0, a1_1⟩ : S23) [.int .i64 a1_0, .int .i64 a1_1] from (k23_mkM _ _ _ (⟨a1_0, a1_1⟩ : S23) )) (Reps.none _ _)))); intro v179 w100 ho101 hb hg_ hnew_; clear hg_ hnew_; (first | rw [← Ny178.out] at ho101 | (simp only [Int.reduceToNat] at ho101; rw [← Ny178.out] at ho101)); have HO180 := Aside0.mk (Kd.R_lower (Kd.R_newB (Kd.R_newB (Kd.R_newB ho101 (bk_ BK174)) (bk_ BK175)) (bk_ BK176)) (below_size (bw_ HB))); replace BK174 := bkb_ BK174 hb; replace BK175 := bkb_ BK175 hb; replace BK176 := bkb_ BK176 hb; replace BK177 := bkb_ BK177 hb; replace HB := bws_ HB hb; clear hb ho101; obtain ⟨Ao102, co102, eo102⟩ := Kd.R_slice HO180.out; subst eo102) | ((with_reducible refine gate_callee (f := 68) rfl ?_); refine gla_ (some 10) Try.func68 #[.slice Ao102 y178.length co102] ?_; (with_reducible refine (num_checked.calls k _ _ y178 t181 _ ?side1 ?side2 A3.out).mono ?_); (case side1 => repeat (first | exact (Kd.R_reads' HO180.out).2.2 | (with_reducible refine Kd.C_alloc ?_ _) | (with_reducible refine Kd.C_drewN ?_ _) | (with_reducible refine Kd.C_drew ?_))); (case side2 => exact (Kd.R_reads' HO180.out).2.1); rintro e w103 ⟨rfl, hb⟩; refine ⟨_, rfl, ?_⟩; replace HO180 := Aside0.mk (Kd.R_below (by (with_reducible repeat (first | apply Kd.R_alloc | apply Kd.R_drewN | apply Kd.R_drew)); exact HO180.out) hb); replace BK174 := bkb_ BK174 hb; replace BK175 := bkb_ BK175 hb; replace BK176 := bkb_ BK176 hb; replace BK177 := bkb_ BK177 hb; replace HB := bws_ HB hb; (try clear hb); (try clear hb2); (try clear hk); (try clear hi); have hnb104 := NB176_177.out; have hnc104 := NB177_176.out; obtain ⟨hcz105_0, hcz105_1, hfz105_0, hfz105_1⟩ := bc2_ BK176; obtain ⟨hcz106_0, hfz106_0⟩ := bc1_ BK177))
   show Leaves _ _ _ _ _ _ _
   exact num_catch.door_ret rfl _ _ _ gb176 gb177 _ _ _ rfl rfl (by refine bf_ ?_ NB176_177; refine bp_ (cs := #[.int .i64 0, .int .i64 0]) ?_ 1; refine bp_ (cs := #[.int .i64 0, .int .i64 0]) ?_ 0; exact bk_ BK176) (by refine bp_ (cs := #[.int .i64 0]) ?_ 0; refine bf_ ?_ NB177_176; refine bf_ ?_ NB177_176; exact bk_ BK177) (bw_ HB)
end Go.Proofs.Ytakcdoahpbeckaa.H
