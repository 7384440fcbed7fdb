/- NumUnique: the plain law, without the program: what the printed functions come to. -/
import Derived.Test.YtakcdoahpbeckaaKNumUnique4
namespace Go.Proofs.Ytakcdoahpbeckaa.H
open Go.RowKit Go.Proofs.YtakcdoahpbeckaaW.PrintWords Go.Proofs.YtakcdoahpbeckaaW.PrintLast Go.Proofs.YtakcdoahpbeckaaW.PrintMore
attribute [local go_sem] max2_int min2_int max_two min_two max_three min_three max_four min_four   -- for this text's walks alone
set_option linter.unusedVariables false
set_option linter.unusedSimpArgs false

/-! ### the text VNumUnique -/
theorem w64 {n : Int} (h : -9223372036854775808 ≤ n) (h' : n ≤ 9223372036854775807) : wrap64 n = n := by unfold wrap64; omega
theorem Ev.isNow {α : Type} {g : Nat → Option α} {r : α} (h : ∀ k, g k = some r) : Ev g r := ⟨0, fun k _ => h k⟩
/-- both come to the same -/
theorem Ev.uniq {α : Type} {g : Nat → Option α} {r r' : α} (h : Ev g r) (h' : Ev g r') : r = r' := by
  obtain ⟨K, hK⟩ := h
  obtain ⟨K', hK'⟩ := h'
  have a := hK (max K K') (by omega)
  have b := hK' (max K K') (by omega)
  exact Option.some.inj (a.symm.trans b)
theorem mx_nat (g : Nat) (h : 0 < g) : mx (g : Int) 1 = g := by unfold mx; split <;> omega
theorem mx_abs {n : Int} (h : -9223372036854775807 ≤ n) (h' : n ≤ 9223372036854775807) : mx n (wrap64 (-n)) = (n.natAbs : Int) := by
  rw [w64 (by omega) (by omega)]
  unfold mx
  split <;> omega
theorem divisor_loop : ∀ (n m : Nat), Ev (fun k => num_divisor.l0 k (m : Int) (n : Int)) (mx (Nat.gcd m n : Nat) 1) := by
  intro n
  induction n using Nat.strongRecOn with
  | ind n ih =>
    intro m
    by_cases h : n = 0
    · subst h
      refine Ev.step (f := fun _ => some (mx (m : Int) 1)) (fun k => ?_) (by rw [Nat.gcd_zero_right]; exact Ev.now _)
      show (if (0 : Int) > 0 then _ else _) = _
      rfl
    · refine Ev.step (f := fun k => num_divisor.l0 k (n : Int) ((m % n : Nat) : Int)) (fun k => ?_) ?_
      · show (if (n : Int) > 0 then (if (n : Int) = 0 then none else num_divisor.l0 k (n : Int) (Int.tmod m n)) else _) = _
        rw [if_pos (by omega), if_neg (by omega)]
        rfl
      · have := ih (m % n) (Nat.mod_lt _ (by omega)) n
        rwa [Nat.gcd_comm n, ← Nat.gcd_rec, Nat.gcd_comm n] at this
theorem ev_divisor {n d : Int} (hn : -9223372036854775807 ≤ n) (hn' : n ≤ 9223372036854775807) (hd : -9223372036854775807 ≤ d) (hd' : d ≤ 9223372036854775807) (h0 : d ≠ 0) :
    Ev (fun k => num_divisor.f k n d) (Int.gcd n d) := by
  have h := divisor_loop d.natAbs n.natAbs
  rw [mx_nat _ (Nat.gcd_pos_of_pos_right _ (by omega))] at h
  refine Ev.congr (fun k => ?_) h
  show num_divisor.l0 k _ _ = _
  rw [mx_abs hn hn', mx_abs hd hd']
theorem of2_loop : ∀ (n m : Nat), 0 < Nat.gcd m n → Ev (fun k => withyref01_Of2.l0 k (m : Int) (n : Int)) ((Nat.gcd m n : Nat) : Int) := by
  intro n
  induction n using Nat.strongRecOn with
  | ind n ih =>
    intro m hp
    by_cases h : n = 0
    · subst h
      rw [Nat.gcd_zero_right] at hp ⊢
      refine Ev.step (f := fun _ => some ((m : Int))) (fun k => ?_) (Ev.now _)
      show (if (0 : Int) > 0 then _ else if (m : Int) = 0 then _ else _) = _
      rw [if_neg (by omega), if_neg (by omega)]
    · have hr : Nat.gcd n (m % n) = Nat.gcd m n := by rw [Nat.gcd_comm n, ← Nat.gcd_rec, Nat.gcd_comm n]
      refine Ev.step (f := fun k => withyref01_Of2.l0 k (n : Int) ((m % n : Nat) : Int)) (fun k => ?_) ?_
      · show (if (n : Int) > 0 then (if (n : Int) = 0 then none else withyref01_Of2.l0 k (n : Int) (Int.tmod m n)) else _) = _
        rw [if_pos (by omega), if_neg (by omega)]
        rfl
      · have := ih (m % n) (Nat.mod_lt _ (by omega)) n (by rw [hr]; exact hp)
        rwa [hr] at this
theorem ev_of2 {n d : Int} (hn : -9223372036854775807 ≤ n) (hn' : n ≤ 9223372036854775807) (hd : -9223372036854775807 ≤ d) (hd' : d ≤ 9223372036854775807) (h0 : d ≠ 0) :
    Ev (fun k => withyref01_Of2.f k n d) (Int.gcd n d) := by
  have h := of2_loop d.natAbs n.natAbs (Nat.gcd_pos_of_pos_right _ (by omega))
  have h2 : Ev (fun k => withyref01_Of2.j0 k (n.natAbs : Int) d) (Int.gcd n d) := by
    by_cases c : d < 0
    · refine Ev.step (f := fun k => withyref01_Of2.j1 k (n.natAbs : Int) (wrap64 (-d))) (fun k => ?_) (Ev.step (f := fun k => withyref01_Of2.l0 k (n.natAbs : Int) (wrap64 (-d))) (fun k => rfl) ?_)
      · show (if d < 0 then _ else _) = _
        rw [if_pos c]
      · rw [w64 (by omega) (by omega), show -d = (d.natAbs : Int) by omega]
        exact h
    · refine Ev.step (f := fun k => withyref01_Of2.j1 k (n.natAbs : Int) d) (fun k => ?_) (Ev.step (f := fun k => withyref01_Of2.l0 k (n.natAbs : Int) d) (fun k => rfl) ?_)
      · show (if d < 0 then _ else _) = _
        rw [if_neg c]
      · have e : d = (d.natAbs : Int) := by omega
        have h' := h
        rw [← e] at h'
        exact h'
  refine Ev.congr (fun k => ?_) h2
  unfold withyref01_Of2.f
  by_cases c : n < 0
  · rw [if_pos c, w64 (by omega) (by omega), show -n = (n.natAbs : Int) by omega]
  · rw [if_neg c]
    congr 1
    omega
/-- the error of a number -/
def Chk (n d : Int) : Int := if (1 ≤ d ∧ d ≤ 1000000000) ∧ (-1000000000 ≤ n ∧ n ≤ 1000000000) then (if Int.gcd n d > 1 then 1 else 0) else 3
theorem in_f (a b c : Int) : withyref01_In.f a b c = some (decide (b ≤ a ∧ a ≤ c)) := by
  unfold withyref01_In.f
  by_cases h : b ≤ a <;> simp [h]
theorem within_1 (a b n : Int) : num_within.f a b [n] = some (decide (a ≤ n ∧ n ≤ b)) := by
  unfold num_within.f
  simp
theorem ev_check (n d : Int) : Ev (fun k => num_Check.f k n d) (Chk n d) := by
  unfold num_Check.f Chk
  simp only [within_1, Option.bind_some]
  by_cases c : 1 ≤ d ∧ d ≤ 1000000000
  · by_cases c' : -1000000000 ≤ n ∧ n ≤ 1000000000
    · simp only [c, c', and_self, decide_true, if_true, Bool.not_true]
      refine Ev.step (f := fun k => (num_divisor.f k n d).bind fun t => if t > 1 then some 1 else some 0) (fun k => rfl) ?_
      · refine Ev.bind (ev_divisor (by omega) (by omega) (by omega) (by omega) (by omega)) ?_
        by_cases g : Int.gcd n d > 1
        · have g' : ((Int.gcd n d : Nat) : Int) > 1 := by omega
          simp only [g, g', if_true]
          exact Ev.now _
        · have g' : ¬ ((Int.gcd n d : Nat) : Int) > 1 := by omega
          simp only [g, g', if_false]
          exact Ev.now _
    · simp only [c, c', and_self, and_false, decide_true, decide_false, if_true, Bool.not_false, if_false]
      exact Ev.step (f := fun _ => some 3) (fun k => rfl) (Ev.now _)
  · simp only [c, false_and, decide_false, Bool.false_eq_true, if_false]
    exact Ev.step (f := fun _ => some 3) (fun k => rfl) (Ev.now _)
theorem ev_rcheck (n d : Int) : Ev (fun k => withyref01_Check.f k n d) (Chk n d) := by
  unfold withyref01_Check.f Chk
  simp only [in_f, Option.bind_some]
  by_cases c : 1 ≤ d ∧ d ≤ 1000000000
  · by_cases c' : -1000000000 ≤ n ∧ n ≤ 1000000000
    · simp only [c, c', and_self, decide_true, if_true, Bool.not_true]
      refine Ev.step (f := fun k => (withyref01_Of2.f k n d).bind fun t => if t > 1 then some 1 else some 0) (fun k => rfl) ?_
      · refine Ev.bind (ev_of2 (by omega) (by omega) (by omega) (by omega) (by omega)) ?_
        by_cases g : Int.gcd n d > 1
        · have g' : ((Int.gcd n d : Nat) : Int) > 1 := by omega
          simp only [g, g', if_true]
          exact Ev.now _
        · have g' : ¬ ((Int.gcd n d : Nat) : Int) > 1 := by omega
          simp only [g, g', if_false]
          exact Ev.now _
    · simp only [c, c', and_self, and_false, decide_true, decide_false, if_true, Bool.not_false, if_false]
      exact Ev.step (f := fun _ => some 3) (fun k => rfl) (Ev.now _)
  · simp only [c, false_and, decide_false, Bool.false_eq_true, if_false]
    exact Ev.step (f := fun _ => some 3) (fun k => rfl) (Ev.now _)
def Rn (n d : Int) : Int := (if d < 0 then -n else n) / (Int.gcd n d : Int)
def Rd (n d : Int) : Int := (if d < 0 then -d else d) / (Int.gcd n d : Int)
def Fits (n d : Int) : Prop := Rd n d ≤ 1000000000 ∧ (-1000000000 ≤ Rn n d ∧ Rn n d ≤ 1000000000)
instance (n d : Int) : Decidable (Fits n d) := inferInstanceAs (Decidable (_ ∧ _))
def Low (n d : Int) : Int × Int × Int := if Fits n d then (Rn n d, Rd n d, 0) else (0, 0, 8)
def NumE (n d : Int) : Except Int (Int × Int) := if Fits n d then .ok (Rn n d, Rd n d) else .error 0
theorem gcd_pos {n d : Int} (h : d ≠ 0) : 0 < Int.gcd n d := Nat.gcd_pos_of_pos_right _ (by omega)
theorem le_div {a : Int} {g : Nat} (hg : 0 < g) {b : Int} (h : -b ≤ a) (h' : a ≤ b) : -b ≤ a / (g : Int) ∧ a / (g : Int) ≤ b := by
  have hb : 0 ≤ b := by omega
  refine ⟨?_, ?_⟩
  · have : -b ≤ (-b) / (g : Int) := by
      have := Int.le_ediv_of_mul_le (a := -b) (b := -b) (c := (g : Int)) (by omega) (by
        have : (1 : Int) ≤ g := by omega
        have := Int.mul_le_mul_of_nonneg_left this hb
        have e : -b * (g : Int) = -(b * g) := by rw [Int.neg_mul]
        omega)
      exact this
    exact Int.le_trans this (Int.ediv_le_ediv (by omega) h)
  · exact Int.le_trans (Int.ediv_le_ediv (by omega) h') (Int.ediv_le_self _ hb)
theorem core_num (n d : Int) (hn : -9223372036854775807 ≤ n) (hn' : n ≤ 9223372036854775807) (hd : -9223372036854775807 ≤ d) (hd' : d ≤ 9223372036854775807) (h0 : d ≠ 0) :
    wrap64 (Int.tdiv (if d < 0 then wrap64 (-n) else n) (Int.gcd n d)) = Rn n d ∧ wrap64 (Int.tdiv (if d < 0 then wrap64 (-d) else d) (Int.gcd n d)) = Rd n d := by
  have hg := gcd_pos (n := n) h0
  have d1 : ((Int.gcd n d : Nat) : Int) ∣ (if d < 0 then -n else n) := by
    split
    · exact Int.dvd_neg.mpr (Int.gcd_dvd_left ..)
    · exact Int.gcd_dvd_left ..
  have d2 : ((Int.gcd n d : Nat) : Int) ∣ (if d < 0 then -d else d) := by
    split
    · exact Int.dvd_neg.mpr (Int.gcd_dvd_right ..)
    · exact Int.gcd_dvd_right ..
  have e1 : (if d < 0 then wrap64 (-n) else n) = (if d < 0 then -n else n) := by rw [w64 (by omega) (by omega)]
  have e2 : (if d < 0 then wrap64 (-d) else d) = (if d < 0 then -d else d) := by rw [w64 (by omega) (by omega)]
  rw [e1, e2, Int.tdiv_eq_ediv_of_dvd d1, Int.tdiv_eq_ediv_of_dvd d2]
  have b1 := le_div hg (a := if d < 0 then -n else n) (b := 9223372036854775807) (by split <;> omega) (by split <;> omega)
  have b2 := le_div hg (a := if d < 0 then -d else d) (b := 9223372036854775807) (by split <;> omega) (by split <;> omega)
  exact ⟨w64 (by omega) b1.2, w64 (by omega) b2.2⟩
theorem gcd_sign (n d : Int) : Int.gcd (if d < 0 then wrap64 (-n) else n) (if d < 0 then wrap64 (-d) else d) = Int.gcd n d ∨ ¬ (-9223372036854775807 ≤ n ∧ n ≤ 9223372036854775807 ∧ -9223372036854775807 ≤ d ∧ d ≤ 9223372036854775807) := by
  by_cases h : (-9223372036854775807 ≤ n ∧ n ≤ 9223372036854775807 ∧ -9223372036854775807 ≤ d ∧ d ≤ 9223372036854775807)
  · left
    rw [w64 (by omega) (by omega), w64 (by omega) (by omega)]
    split
    · rw [Int.neg_gcd, Int.gcd_neg]
    · rfl
  · exact Or.inr h
theorem ev_num {n d : Int} (hn : -9223372036854775807 ≤ n) (hn' : n ≤ 9223372036854775807) (hd : -9223372036854775807 ≤ d) (hd' : d ≤ 9223372036854775807) (h0 : d ≠ 0) :
    Ev (fun k => num_ratio_num.f k n d) (NumE n d) := by
  have hg := gcd_pos (n := n) h0
  obtain ⟨c1, c2⟩ := core_num n d hn hn' hd hd' h0
  have hs := (gcd_sign n d).resolve_right (by omega)
  refine Ev.congr (f := fun k => num_ratio_num.j0 k (if d < 0 then wrap64 (-n) else n) (if d < 0 then wrap64 (-d) else d)) (fun k => ?_) ?_
  · unfold num_ratio_num.f
    split <;> rfl
  · generalize hN : (if d < 0 then wrap64 (-n) else n) = N at *
    generalize hD : (if d < 0 then wrap64 (-d) else d) = D at *
    have hNr : -9223372036854775807 ≤ N ∧ N ≤ 9223372036854775807 := by rw [← hN, w64 (by omega) (by omega)]; split <;> omega
    have hDr : (-9223372036854775807 ≤ D ∧ D ≤ 9223372036854775807) ∧ D ≠ 0 := by rw [← hD, w64 (by omega) (by omega)]; split <;> omega
    refine Ev.step (f := fun k => (num_divisor.f k N D).bind fun t => if t = 0 then none else if wrap64 (Int.tdiv D t) > 1000000000 then some (.error (0 : Int)) else (num_within.f (-1000000000) 1000000000 [wrap64 (Int.tdiv N t)]).bind fun u => if u = true then some (.ok (ε := Int) (wrap64 (Int.tdiv N t), wrap64 (Int.tdiv D t))) else some (.error (0 : Int))) (fun k => rfl) ?_
    refine Ev.bind (ev_divisor hNr.1 hNr.2 hDr.1.1 hDr.1.2 hDr.2) ?_
    rw [hs]
    simp only [c1, c2, within_1, Option.bind_some]
    refine Ev.isNow fun k => ?_
    rw [if_neg (by omega)]
    unfold NumE
    by_cases a : Rd n d > 1000000000
    · rw [if_pos a, if_neg (fun h : Fits n d => by have := h.1; omega)]
    · rw [if_neg a]
      by_cases b : -1000000000 ≤ Rn n d ∧ Rn n d ≤ 1000000000
      · rw [if_pos (show Fits n d from ⟨by omega, b⟩)]
        simp only [b, and_self, decide_true, if_true]
      · rw [if_neg (fun h : Fits n d => b h.2)]
        simp only [b, decide_false, if_false, Bool.false_eq_true]
theorem ev_low {n d : Int} (hn : -9223372036854775807 ≤ n) (hn' : n ≤ 9223372036854775807) (hd : -9223372036854775807 ≤ d) (hd' : d ≤ 9223372036854775807) (h0 : d ≠ 0) :
    Ev (fun k => withyref01_low.f k n d) (Low n d) := by
  have hg := gcd_pos (n := n) h0
  obtain ⟨c1, c2⟩ := core_num n d hn hn' hd hd' h0
  have hs := (gcd_sign n d).resolve_right (by omega)
  refine Ev.congr (f := fun k => withyref01_low.j0 k (if d < 0 then wrap64 (-n) else n) (if d < 0 then wrap64 (-d) else d)) (fun k => ?_) ?_
  · unfold withyref01_low.f
    split <;> rfl
  · generalize hN : (if d < 0 then wrap64 (-n) else n) = N at *
    generalize hD : (if d < 0 then wrap64 (-d) else d) = D at *
    have hNr : -9223372036854775807 ≤ N ∧ N ≤ 9223372036854775807 := by rw [← hN, w64 (by omega) (by omega)]; split <;> omega
    have hDr : (-9223372036854775807 ≤ D ∧ D ≤ 9223372036854775807) ∧ D ≠ 0 := by rw [← hD, w64 (by omega) (by omega)]; split <;> omega
    refine Ev.step (f := fun k => (withyref01_Of2.f k N D).bind fun t => if t = 0 then none else if wrap64 (Int.tdiv D t) > 1000000000 then some (0, 0, 8) else (withyref01_In.f (wrap64 (Int.tdiv N t)) (-1000000000) 1000000000).bind fun u => if u = true then some (wrap64 (Int.tdiv N t), wrap64 (Int.tdiv D t), 0) else some (0, 0, 8)) (fun k => rfl) ?_
    refine Ev.bind (ev_of2 hNr.1 hNr.2 hDr.1.1 hDr.1.2 hDr.2) ?_
    rw [hs]
    simp only [c1, c2, in_f, Option.bind_some]
    refine Ev.isNow fun k => ?_
    rw [if_neg (by omega)]
    unfold Low
    by_cases a : Rd n d > 1000000000
    · rw [if_pos a, if_neg (fun h : Fits n d => by have := h.1; omega)]
    · rw [if_neg a]
      by_cases b : -1000000000 ≤ Rn n d ∧ Rn n d ≤ 1000000000
      · rw [if_pos (show Fits n d from ⟨by omega, b⟩)]
        simp only [b, and_self, decide_true, if_true]
      · rw [if_neg (fun h : Fits n d => b h.2)]
        simp only [b, decide_false, if_false, Bool.false_eq_true]
/-- a number's fields are in the bounds, and in lowest terms -/
structure Ok (n d : Int) : Prop where
  d1 : 1 ≤ d
  d2 : d ≤ 1000000000
  n1 : -1000000000 ≤ n
  n2 : n ≤ 1000000000
  g : Int.gcd n d = 1
theorem Chk_ok {n d : Int} : Chk n d = 0 ↔ Ok n d := by
  unfold Chk
  constructor
  · intro h
    split at h
    · rename_i c
      split at h
      · exact absurd h (by decide)
      · have := gcd_pos (n := n) (d := d) (by omega)
        exact ⟨c.1.1, c.1.2, c.2.1, c.2.2, by omega⟩
    · exact absurd h (by decide)
  · intro h
    have := h.d1; have := h.d2; have := h.n1; have := h.n2; have := h.g
    rw [if_pos (by omega), if_neg (by omega)]
theorem floor_div {n d : Int} (h0 : 1 ≤ d) (h1 : d ≤ 9223372036854775807) (hn : -9223372036854775807 ≤ n) (hn' : n ≤ 9223372036854775807) : num_ratio_floor.f n d = some (n / d) := by
  have b := le_div (a := n) (g := d.toNat) (by omega) hn hn'
  rw [Int.toNat_of_nonneg (by omega)] at b
  have e1 : n.tdiv d = n / d + (if 0 ≤ n ∨ d ∣ n then 0 else 1) := by
    rw [Int.tdiv_eq_ediv]
    have : d.sign = 1 := Int.sign_eq_one_of_pos (by omega)
    rw [this]
  have e2 : n.tmod d = n % d - (if 0 ≤ n ∨ d ∣ n then 0 else d) := by
    rw [Int.tmod_eq_emod]
    by_cases c : 0 ≤ n ∨ d ∣ n
    · rw [if_pos c, if_pos c]
      rfl
    · rw [if_neg c, if_neg c]
      omega
  have p1 := Int.emod_nonneg n (b := d) (by omega)
  have p2 := Int.emod_lt_of_pos n (b := d) (by omega)
  unfold num_ratio_floor.f
  rw [if_neg (by omega), e1, e2]
  by_cases c : 0 ≤ n ∨ d ∣ n
  · rw [if_pos c, if_pos c, if_neg (by omega), Int.add_zero, w64 (by omega) (by omega)]
  · rw [if_neg c, if_neg c, if_pos (by omega)]
    have hneg : n / d < 0 := Int.ediv_neg_of_neg_of_pos (by omega) (by omega)
    rw [w64 (n := n / d + 1) (by omega) (by omega), w64 (by omega) (by omega)]
    congr 1
    omega
theorem under_div {n d : Int} (h0 : 1 ≤ d) (h1 : d ≤ 1000000000) (hn : -4000000000000000000 ≤ n) (hn' : n ≤ 4000000000000000000) : withyref01_under.f n d = some (n / d) := by
  have b := le_div (a := n) (g := d.toNat) (by omega) hn hn'
  rw [Int.toNat_of_nonneg (by omega)] at b
  have p1 := Int.emod_nonneg n (b := d) (by omega)
  have p2 := Int.emod_lt_of_pos n (b := d) (by omega)
  have p3 := Int.emod_add_mul_ediv n d
  unfold withyref01_under.f
  by_cases c : n < 0
  · rw [if_pos c, if_neg (by omega), w64 (n := -n) (by omega) (by omega), w64 (n := -n + d) (by omega) (by omega), w64 (n := -n + d - 1) (by omega) (by omega), Int.tdiv_eq_ediv_of_nonneg (by omega)]
    have e : (-n + d - 1) / d = -(n / d) := by
      have : -n + d - 1 = (d - 1 - n % d) + (-(n / d)) * d := by
        have : d * (n / d) = n / d * d := Int.mul_comm ..
        rw [Int.neg_mul]
        omega
      rw [this, Int.add_mul_ediv_right _ _ (by omega), Int.ediv_eq_zero_of_lt (by omega) (by omega)]
      omega
    rw [e, w64 (n := -(n / d)) (by omega) (by omega), w64 (by omega) (by omega)]
    congr 1
    omega
  · rw [if_neg c, if_neg (by omega), Int.tdiv_eq_ediv_of_nonneg (by omega), w64 (by omega) (by omega)]
theorem Low_ok {n d : Int} (h0 : d ≠ 0) (h : Fits n d) : Ok (Rn n d) (Rd n d) := by
  have hg := gcd_pos (n := n) h0
  have e : Int.gcd (if d < 0 then -n else n) (if d < 0 then -d else d) = Int.gcd n d := by
    split
    · rw [Int.neg_gcd, Int.gcd_neg]
    · rfl
  have g1 : Int.gcd (Rn n d) (Rd n d) = 1 := by
    unfold Rn Rd
    rw [← e]
    exact Int.gcd_ediv_gcd_ediv_gcd (by rw [e]; exact hg)
  have hd : 1 ≤ Rd n d := by
    unfold Rd
    have d2 : ((Int.gcd n d : Nat) : Int) ∣ (if d < 0 then -d else d) := by
      split
      · exact Int.dvd_neg.mpr (Int.gcd_dvd_right ..)
      · exact Int.gcd_dvd_right ..
    have := Int.ediv_pos_of_pos_of_dvd (a := if d < 0 then -d else d) (b := (Int.gcd n d : Int)) (by split <;> omega) (by omega) d2
    omega
  exact ⟨hd, h.1, h.2.1, h.2.2, g1⟩
theorem exc_numK {β : Type} (n d : Int) (f : Option β) (g : Int → Int → Option β) : exc (NumE n d) (fun _ => f) (fun b => g b.1 b.2) = if Fits n d then g (Rn n d) (Rd n d) else f := by
  unfold NumE
  split <;> rfl
def CF : List Int → Int → Int → Prop
  | [], _, _ => False
  | [t], n, d => n = t ∧ d = 1
  | t :: s :: l, n, d => ∃ m e, CF (s :: l) m e ∧ (0 < e ∧ e < m) ∧ n = t * m + e ∧ d = m
theorem CF.den {L : List Int} {n d : Int} (h : CF L n d) : 0 < d := by
  match L, h with
  | [t], h => obtain ⟨_, rfl⟩ := h; decide
  | t :: s :: l, h => obtain ⟨m, e, _, h1, _, rfl⟩ := h; omega
theorem CF.uniq : ∀ {L : List Int} {n d n' d' : Int}, CF L n d → CF L n' d' → n = n' ∧ d = d'
  | [t], _, _, _, _, h, k => by
    obtain ⟨rfl, rfl⟩ := h
    obtain ⟨rfl, rfl⟩ := k
    exact ⟨rfl, rfl⟩
  | t :: s :: l, _, _, _, _, h, k => by
    obtain ⟨m, e, h0, _, rfl, rfl⟩ := h
    obtain ⟨m', e', k0, _, rfl, rfl⟩ := k
    obtain ⟨rfl, rfl⟩ := CF.uniq h0 k0
    exact ⟨rfl, rfl⟩
theorem CF.gcd : ∀ {L : List Int} {n d : Int}, CF L n d → Int.gcd n d = 1
  | [t], _, _, h => by
    obtain ⟨rfl, rfl⟩ := h
    exact Int.gcd_one_right ..
  | t :: s :: l, _, _, h => by
    obtain ⟨m, e, h0, _, rfl, rfl⟩ := h
    have := CF.gcd h0
    rw [Int.gcd_comm, Int.add_comm, Int.gcd_add_mul_right_right]
    exact this
theorem cf_some : ∀ (k : Nat) (n d : Int), 0 < d → d ≤ k → Int.gcd n d = 1 → ∃ L, CF L n d
  | 0, _, _, h, h', _ => by omega
  | k + 1, n, d, h, h', g => by
    have p1 := Int.emod_nonneg n (b := d) (by omega)
    have p2 := Int.emod_lt_of_pos n h
    have p3 := Int.emod_add_mul_ediv n d
    have p4 : d * (n / d) = n / d * d := Int.mul_comm ..
    by_cases c : n % d = 0
    · have hd : d ∣ n := Int.dvd_of_emod_eq_zero c
      have : (Int.gcd n d : Int) = d := by
        rw [Int.gcd_eq_right (by omega) hd]
      rw [g] at this
      exact ⟨[n], rfl, by omega⟩
    · have g' : Int.gcd d (n % d) = 1 := by
        have e := Int.gcd_add_mul_right_left d (n % d) (n / d)
        have e1 := Int.gcd_add_mul_right_left (n % d) d (n / d)
        have e2 : n % d + n / d * d = n := by omega
        first
          | (rw [e2, g] at e; rw [Int.gcd_comm]; exact e.symm)
          | (rw [e2, g] at e1; rw [Int.gcd_comm]; exact e1.symm)
      obtain ⟨L, hL⟩ := cf_some k d (n % d) (by omega) (by omega) g'
      match L, hL with
      | s :: l, hL => exact ⟨n / d :: s :: l, d, n % d, hL, ⟨by omega, p2⟩, by omega, rfl⟩
/-- a tail is above 1: its terms are from 1 on, its last one from 2 on -/
theorem CF.pos : ∀ {L : List Int} {m e : Int}, CF L m e → e < m → (∀ x ∈ L, 1 ≤ x) ∧ ∃ z, L.getLast? = some z ∧ 2 ≤ z
  | [t], _, _, h, k => by
    obtain ⟨hm, he⟩ := h
    refine ⟨fun x hx => ?_, t, rfl, by omega⟩
    rw [List.mem_singleton.mp hx]
    omega
  | t :: s :: l, _, _, h, k => by
    obtain ⟨m, e, h0, ⟨h1, h2⟩, hn, hd⟩ := h
    obtain ⟨a, z, b, c⟩ := CF.pos h0 h2
    have ht : 1 ≤ t := by
      refine Classical.byContradiction fun w => ?_
      have : t * m ≤ 0 * m := Int.mul_le_mul_of_nonneg_right (by omega) (by omega)
      omega
    refine ⟨fun x hx => ?_, z, ?_, c⟩
    · rcases List.mem_cons.mp hx with rfl | hx
      · exact ht
      · exact a x hx
    · rw [List.getLast?_cons_cons]
      exact b
def fibS : Nat → Int
  | 0 => 1
  | 1 => 1
  | m + 2 => fibS (m + 1) + fibS m
theorem fib_pos : ∀ m, 1 ≤ fibS m ∧ fibS m ≤ fibS (m + 1)
  | 0 => by decide
  | m + 1 => by
    have := fib_pos m
    show 1 ≤ fibS (m + 1) ∧ fibS (m + 1) ≤ fibS (m + 1) + fibS m
    omega
theorem fib_five (m : Nat) : 8 * fibS m ≤ fibS (m + 5) := by
  have h := fib_pos m
  have a2 : fibS (m + 2) = fibS (m + 1) + fibS m := rfl
  have a3 : fibS (m + 3) = fibS (m + 2) + fibS (m + 1) := rfl
  have a4 : fibS (m + 4) = fibS (m + 3) + fibS (m + 2) := rfl
  have a5 : fibS (m + 5) = fibS (m + 4) + fibS (m + 3) := rfl
  omega
theorem fib_le {m n : Nat} (h : m ≤ n) : fibS m ≤ fibS n := by
  induction h with
  | refl => exact Int.le_refl _
  | step _ ih => exact Int.le_trans ih (fib_pos _).2
theorem fib_50 : 1000000000 < fibS 50 := by
  have h0 : fibS 0 = 1 := rfl
  have a1 := fib_five 0; have a2 := fib_five 5; have a3 := fib_five 10; have a4 := fib_five 15; have a5 := fib_five 20
  have a6 := fib_five 25; have a7 := fib_five 30; have a8 := fib_five 35; have a9 := fib_five 40; have a10 := fib_five 45
  simp only [Nat.zero_add, Nat.reduceAdd] at *
  omega
theorem cf_fib : ∀ {L : List Int} {n d : Int}, CF L n d → fibS L.length ≤ d
  | [t], _, _, h => by
    obtain ⟨_, hd⟩ := h
    show 1 ≤ _
    omega
  | [t, s], _, d, h => by
    obtain ⟨m, e, ⟨hm, he⟩, ⟨h1, h2⟩, _, hd⟩ := h
    show 1 + 1 ≤ d
    omega
  | t :: s :: u :: l, _, _, h => by
    obtain ⟨m, e, h0, ⟨h1, h2⟩, _, hd⟩ := h
    have i1 := cf_fib h0
    obtain ⟨m', e', h0', ⟨k1, k2⟩, hm, he⟩ := h0
    have i2 := cf_fib h0'
    have hs : 1 ≤ s := by
      refine Classical.byContradiction fun w => ?_
      have : s * m' ≤ 0 * m' := Int.mul_le_mul_of_nonneg_right (by omega) (by omega)
      omega
    have : 1 * m' ≤ s * m' := Int.mul_le_mul_of_nonneg_right hs (by omega)
    show fibS ((u :: l).length + 1) + fibS (u :: l).length ≤ _
    have i1' : fibS ((u :: l).length + 1) ≤ e := i1
    omega
theorem cf_len {L : List Int} {n d : Int} (h : CF L n d) (hd : d ≤ 1000000000) : 1 ≤ L.length ∧ L.length ≤ 49 := by
  have h1 : 1 ≤ L.length := by
    match L, h with
    | t :: l, _ => exact Nat.succ_le_succ (Nat.zero_le _)
  refine ⟨h1, ?_⟩
  have := cf_fib h
  refine Classical.byContradiction fun w => ?_
  have := fib_le (m := 50) (n := L.length) (by omega)
  have := fib_50
  omega
/-- what stands behind some of the terms -/
theorem cf_tail : ∀ {P S : List Int} {n d : Int}, S ≠ [] → CF (P ++ S) n d → ∃ N D, CF S N D ∧ (P = [] ∧ N = n ∧ D = d ∨ P ≠ [] ∧ D < N ∧ N ≤ d)
  | [], S, n, d, _, h => ⟨n, d, h, .inl ⟨rfl, rfl, rfl⟩⟩
  | [t], s :: l, n, d, hS, h => by
    obtain ⟨m, e, h0, ⟨h1, h2⟩, _, hd⟩ := h
    exact ⟨m, e, h0, .inr ⟨by simp, h2, by omega⟩⟩
  | t :: p :: P, S, n, d, hS, h => by
    obtain ⟨m, e, h0, ⟨h1, h2⟩, _, hd⟩ : ∃ m e, CF (p :: (P ++ S)) m e ∧ (0 < e ∧ e < m) ∧ n = t * m + e ∧ d = m := h
    obtain ⟨N, D, a, b⟩ := cf_tail (P := p :: P) hS h0
    refine ⟨N, D, a, .inr ⟨by simp, ?_⟩⟩
    rcases b with ⟨b, _⟩ | ⟨_, b1, b2⟩
    · cases b
    · exact ⟨b1, by omega⟩
theorem low_step {t x y : Int} (hx : 0 < x) (g : Int.gcd x y = 1) : Low (t * x + y) x = if x ≤ 1000000000 ∧ (-1000000000 ≤ t * x + y ∧ t * x + y ≤ 1000000000) then (t * x + y, x, 0) else (0, 0, 8) := by
  have g1 : Int.gcd (t * x + y) x = 1 := by
    rw [Int.gcd_comm, Int.add_comm, Int.gcd_add_mul_right_right]
    exact g
  have r1 : Rn (t * x + y) x = t * x + y := by
    unfold Rn
    rw [g1, if_neg (by omega)]
    exact Int.ediv_one _
  have r2 : Rd (t * x + y) x = x := by
    unfold Rd
    rw [g1, if_neg (by omega)]
    exact Int.ediv_one _
  have hf : Fits (t * x + y) x ↔ (x ≤ 1000000000 ∧ (-1000000000 ≤ t * x + y ∧ t * x + y ≤ 1000000000)) := by
    unfold Fits
    rw [r1, r2]
  unfold Low
  by_cases c : Fits (t * x + y) x
  · rw [if_pos c, if_pos (hf.mp c), r1, r2]
  · rw [if_neg c, if_neg (fun k => c (hf.mpr k))]
/-- num.Of, from behind: the terms ahead of what has been done, the next one first -/
def contR : List Int → Int → Int → Int × Int × Int
  | [], x, y => (x, y, 0)
  | t :: r, x, y => if -1000000000 ≤ t ∧ t ≤ 1000000000 then (if (Low (t * x + y) x).2.2 = 0 then contR r (Low (t * x + y) x).1 (Low (t * x + y) x).2.1 else (0, 0, 8)) else (0, 0, 8)
theorem cont_back : ∀ (r S : List Int) (x y n d : Int), CF S x y → (r ≠ [] → y < x) → (∀ t ∈ r.dropLast, 1 ≤ t) → contR r x y = (n, d, 0) → CF (r.reverse ++ S) n d
  | [], S, x, y, n, d, h, _, _, e => by
    obtain ⟨rfl, rfl, _⟩ := Prod.mk.inj e |>.imp id Prod.mk.inj
    exact h
  | t :: r, S, x, y, n, d, h, hlt, hp, e => by
    have hy := h.den
    have hxy := hlt (by simp)
    unfold contR at e
    rw [low_step (by omega) h.gcd] at e
    by_cases c1 : -1000000000 ≤ t ∧ t ≤ 1000000000
    · rw [if_pos c1] at e
      by_cases fit : x ≤ 1000000000 ∧ (-1000000000 ≤ t * x + y ∧ t * x + y ≤ 1000000000)
      · rw [if_pos fit, if_pos rfl] at e
        have hS : CF (t :: S) (t * x + y) x := by
          match S, h with
          | s :: l, h => exact ⟨x, y, h, ⟨hy, hxy⟩, rfl, rfl⟩
        have := cont_back r (t :: S) (t * x + y) x n d hS (fun hr => ?_) (fun z hz => hp z ?_) e
        · rw [List.reverse_cons, List.append_assoc]
          exact this
        · have ht : 1 ≤ t := hp t (by match r, hr with | a :: b, _ => simp [List.dropLast])
          have : 1 * x ≤ t * x := Int.mul_le_mul_of_nonneg_right ht (by omega)
          omega
        · match r, hz with
          | a :: b, hz => simp only [List.dropLast]; exact List.mem_cons_of_mem _ hz
      · rw [if_neg fit, if_neg (by decide)] at e
        exact absurd (Prod.mk.inj (Prod.mk.inj e).2).2 (by decide)
    · rw [if_neg c1] at e
      exact absurd (Prod.mk.inj (Prod.mk.inj e).2).2 (by decide)
theorem term_le {t m e : Int} (h1 : 0 < e) (h2 : e < m) (hn : -1000000000 ≤ t * m + e ∧ t * m + e ≤ 1000000000) : -1000000000 ≤ t ∧ t ≤ 1000000000 := by
  refine ⟨?_, ?_⟩
  · refine Classical.byContradiction fun w => ?_
    have : t * m ≤ (-1000000001) * m := Int.mul_le_mul_of_nonneg_right (by omega) (by omega)
    omega
  · refine Classical.byContradiction fun w => ?_
    have : 1000000001 * m ≤ t * m := Int.mul_le_mul_of_nonneg_right (by omega) (by omega)
    omega
theorem cont_there : ∀ (r S : List Int) (x y n d : Int), S ≠ [] → CF S x y → CF (r.reverse ++ S) n d → d ≤ 1000000000 → -1000000000 ≤ n → n ≤ 1000000000 → contR r x y = (n, d, 0)
  | [], S, x, y, n, d, _, h, k, _, _, _ => by
    obtain ⟨rfl, rfl⟩ := h.uniq k
    rfl
  | t :: r, S, x, y, n, d, hS, h, k, b1, b2, b3 => by
    rw [List.reverse_cons, List.append_assoc] at k
    have k' : CF (r.reverse ++ (t :: S)) n d := k
    obtain ⟨N, D, hN, hb⟩ := cf_tail (P := r.reverse) (S := t :: S) (by simp) k'
    have hd := hN.den
    obtain ⟨m, e, h0, ⟨h1, h2⟩, rfl, rfl⟩ : ∃ m e, CF S m e ∧ (0 < e ∧ e < m) ∧ N = t * m + e ∧ D = m := by
      match S, hS, hN with
      | s :: l, _, hN => exact hN
    obtain ⟨rfl, rfl⟩ := h.uniq h0
    have bb : x ≤ 1000000000 ∧ (-1000000000 ≤ t * x + y ∧ t * x + y ≤ 1000000000) := by
      rcases hb with ⟨_, e1, e2⟩ | ⟨_, e1, e2⟩ <;> omega
    unfold contR
    rw [if_pos (term_le h1 h2 bb.2), low_step (by omega) h.gcd, if_pos bb]
    exact cont_there r (t :: S) _ _ n d (by simp) hN k' b1 b2 b3
theorem fl_term {t m e : Int} (h1 : 0 ≤ e) (h2 : e < m) : (t * m + e) / m = t := by
  rw [Int.add_comm, Int.add_mul_ediv_right _ _ (by omega), Int.ediv_eq_zero_of_lt h1 h2, Int.zero_add]
theorem ev_go : ∀ (L : List Int) (n d : Int), CF L n d → d ≤ 1000000000 → -1000000000 ≤ n → n ≤ 1000000000 → Ev (fun k => num_terms.go k n d) L
  | [t], n, d, h, b1, b2, b3 => by
    obtain ⟨rfl, rfl⟩ := h
    refine ⟨2, fun k hk => ?_⟩
    obtain ⟨j, rfl⟩ : ∃ j, k = j + 2 := ⟨k - 2, by omega⟩
    have fd := floor_div (n := n) (d := 1) (by omega) (by omega) (by omega) (by omega)
    have e1 : wrap64 (n * 1) = n := (w64 (by omega) (by omega)).trans (by omega)
    have e2 : wrap64 (n - n) = 0 := (w64 (by omega) (by omega)).trans (by omega)
    rw [Int.ediv_one] at fd
    show num_terms.go (j + 2) n 1 = _
    rw [num_terms.go, if_pos (by omega), fd, Option.bind_some, e1, e2, num_terms.go, if_neg (by omega)]
    rfl
  | t :: s :: l, n, d, h, b1, b2, b3 => by
    obtain ⟨m, e, h0, ⟨h1, h2⟩, hn, hd⟩ := h
    have ih := ev_go (s :: l) m e h0 (by omega) (by omega) (by omega)
    have fd := floor_div (n := n) (d := d) (by omega) (by omega) (by omega) (by omega)
    rw [hn, hd, fl_term (by omega) h2] at fd
    have e1 : wrap64 (t * m) = t * m := w64 (by omega) (by omega)
    have e2 : wrap64 (t * m + e - t * m) = e := (w64 (by omega) (by omega)).trans (by omega)
    rw [hn, hd]
    refine Ev.step (f := fun k => (num_terms.go k m e).bind fun l' => some (t :: l')) (fun k => ?_) (Ev.bind ih (Ev.now _))
    rw [num_terms.go, if_pos (by omega), fd, Option.bind_some, e1, e2]
theorem ev_rgo : ∀ (L : List Int) (n d : Int) (acc : List Int), CF L n d → d ≤ 1000000000 → -1000000000 ≤ n → n ≤ 1000000000 → acc.length + L.length ≤ 1000 → Ev (fun k => withyref01_Terms.l0 k acc n d) (acc ++ L, 0)
  | [t], n, d, acc, h, b1, b2, b3, hl => by
    obtain ⟨rfl, rfl⟩ := h
    simp only [List.length_cons, List.length_nil] at hl
    refine ⟨2, fun k hk => ?_⟩
    obtain ⟨j, rfl⟩ : ∃ j, k = j + 2 := ⟨k - 2, by omega⟩
    have fd := under_div (n := n) (d := 1) (by omega) (by omega) (by omega) (by omega)
    have e1 : wrap64 (n * 1) = n := (w64 (by omega) (by omega)).trans (by omega)
    have e2 : wrap64 (n - n) = 0 := (w64 (by omega) (by omega)).trans (by omega)
    rw [Int.ediv_one] at fd
    show withyref01_Terms.l0 (j + 2) acc n 1 = _
    rw [withyref01_Terms.l0, if_pos (by omega), fd, Option.bind_some, if_pos (by omega), e1, e2, withyref01_Terms.l0, if_neg (by omega)]
  | t :: s :: l, n, d, acc, h, b1, b2, b3, hl => by
    obtain ⟨m, e, h0, ⟨h1, h2⟩, hn, hd⟩ := h
    have ih := ev_rgo (s :: l) m e (acc ++ [t]) h0 (by omega) (by omega) (by omega) (by simp only [List.length_append, List.length_cons, List.length_nil] at hl ⊢; omega)
    have fd := under_div (n := n) (d := d) (by omega) (by omega) (by omega) (by omega)
    rw [hn, hd, fl_term (by omega) h2] at fd
    have e1 : wrap64 (t * m) = t * m := w64 (by omega) (by omega)
    have e2 : wrap64 (t * m + e - t * m) = e := (w64 (by omega) (by omega)).trans (by omega)
    rw [hn, hd]
    rw [List.append_assoc] at ih
    refine Ev.step (fun k => ?_) ih
    simp only [List.length_cons] at hl
    rw [withyref01_Terms.l0, if_pos (by omega), fd, Option.bind_some, if_pos (by omega), e1, e2]
theorem ev_Terms {n d : Int} (h : Chk n d = 0) : ∃ L, CF L n d ∧ (1 ≤ L.length ∧ L.length ≤ 49) ∧ Ev (fun k => num_Terms.f k n d) (L, 0) ∧ Ev (fun k => withyref01_Terms.f k n d) (L, 0) := by
  have ok := Chk_ok.mp h
  have h1 := ok.d1; have h2 := ok.d2; have h3 := ok.n1; have h4 := ok.n2
  obtain ⟨L, hL⟩ := cf_some d.toNat n d (by omega) (by omega) ok.g
  have hl := cf_len hL h2
  refine ⟨L, hL, hl, ?_, ?_⟩
  · unfold num_Terms.f
    refine Ev.bind (ev_check n d) ?_
    simp only [h, if_true]
    refine Ev.bind (ev_go L n d hL h2 h3 h4) ?_
    simp only [show L.length < 17592186044416 by omega, if_true]
    exact Ev.now _
  · unfold withyref01_Terms.f
    refine Ev.bind (ev_rcheck n d) ?_
    simp only [h, if_true]
    exact ev_rgo L n d [] hL h2 h3 h4 (by simp only [List.length_nil]; omega)
theorem rd_at1 {l : List Int} {i : Nat} (h : i < l.length) : rd l (i : Int) = l[i] := by
  simp [rd, List.getD_eq_getElem?_getD, h]
theorem take_rev {l : List Int} {i : Nat} (h : i < l.length) : (l.take (i + 1)).reverse = rd l (i : Int) :: (l.take i).reverse := by
  rw [List.take_succ_eq_append_getElem h, List.reverse_append, rd_at1 h]
  rfl
theorem Rn_pos {n d : Int} (hn : 1 ≤ n) (hd : 1 ≤ d) : 1 ≤ Rn n d := by
  have hg := gcd_pos (n := n) (d := d) (by omega)
  have dv : ((Int.gcd n d : Nat) : Int) ∣ n := Int.gcd_dvd_left ..
  have le := Int.le_of_dvd (by omega) dv
  unfold Rn
  rw [if_neg (by omega)]
  exact Int.le_ediv_of_mul_le (by omega) (by omega)
theorem of_loop (l : List Int) (last : Int) (hl : last < l.length) (hm : l.length ≤ 1000) (hpos : ∀ j : Nat, 1 ≤ j → j < l.length → 1 ≤ rd l (j : Int)) : ∀ (i : Nat) (x y : Int), (i : Int) ≤ last → (0 < i → (1 ≤ x ∧ x ≤ 1000000000) ∧ (1 ≤ y ∧ y ≤ 1000000000)) →
    Ev (fun k => num_Of.go k l last i x y) (contR (l.take i).reverse x y) ∧ Ev (fun k => withyref01_Of.l1 k l last ((i : Int) - 1) x y) (contR (l.take i).reverse x y)
  | 0, x, y, _, _ => by
    refine ⟨Ev.now _, Ev.step (f := fun _ => some (x, y, 0)) (fun k => ?_) (Ev.now _)⟩
    rw [withyref01_Of.l1, if_neg (by omega)]
  | i + 1, x, y, hi, hb => by
    have hlt : i < l.length := by omega
    obtain ⟨⟨x1, x2⟩, y1, y2⟩ := hb (Nat.succ_pos _)
    have hp := hpos i
    rw [take_rev hlt, show ((i + 1 : Nat) : Int) - 1 = (i : Int) by omega]
    obtain ⟨t, ht⟩ : ∃ t, t = rd l (i : Int) := ⟨_, rfl⟩
    rw [← ht] at hp ⊢
    unfold contR
    by_cases b : -1000000000 ≤ t ∧ t ≤ 1000000000
    · have m1 : t * x ≤ 1000000000 * x := Int.mul_le_mul_of_nonneg_right b.2 (by omega)
      have m2 : (-1000000000) * x ≤ t * x := Int.mul_le_mul_of_nonneg_right b.1 (by omega)
      have w1 : wrap64 (t * x) = t * x := w64 (by omega) (by omega)
      have w2 : wrap64 (t * x + y) = t * x + y := w64 (by omega) (by omega)
      rw [if_pos b]
      have nx : Fits (t * x + y) x → Ev (fun k => num_Of.go k l last i (Rn (t * x + y) x) (Rd (t * x + y) x)) (contR (l.take i).reverse (Rn (t * x + y) x) (Rd (t * x + y) x)) ∧ Ev (fun k => withyref01_Of.l1 k l last ((i : Int) - 1) (Rn (t * x + y) x) (Rd (t * x + y) x)) (contR (l.take i).reverse (Rn (t * x + y) x) (Rd (t * x + y) x)) := fun hf => by
        refine of_loop l last hl hm hpos i _ _ (by omega) (fun h0 => ?_)
        have o := Low_ok (by omega) hf
        have t1 := hp h0 hlt
        have : 1 * x ≤ t * x := Int.mul_le_mul_of_nonneg_right t1 (by omega)
        exact ⟨⟨Rn_pos (by omega) x1, o.n2⟩, o.d1, o.d2⟩
      have hlow : ∀ hf : Fits (t * x + y) x, Low (t * x + y) x = (Rn (t * x + y) x, Rd (t * x + y) x, 0) := fun hf => if_pos hf
      have hlow' : ∀ hf : ¬ Fits (t * x + y) x, Low (t * x + y) x = (0, 0, 8) := fun hf => if_neg hf
      constructor
      · refine Ev.congr (f := fun k => (num_ratio_num.f k (t * x + y) x).bind fun z => exc z (fun _ => some (0, 0, 8)) (fun b => num_Of.go k l last i b.1 b.2)) (fun k => ?_) ?_
        · rw [num_Of.go, ← ht, if_pos b, if_neg (by omega), w1, w2]
        · refine Ev.bind (ev_num (by omega) (by omega) (by omega) (by omega) (by omega)) ?_
          simp only [exc_numK (t * x + y) x]
          by_cases hf : Fits (t * x + y) x
          · simp only [hf, if_true, hlow hf]
            exact (nx hf).1
          · simp only [hf, if_false, hlow' hf]
            exact Ev.now _
      · refine Ev.step (f := fun k => (withyref01_low.f k (t * x + y) x).bind fun b => if b.2.2 = 0 then withyref01_Of.l1 k l last ((i : Int) - 1) b.1 b.2.1 else some (0, 0, b.2.2)) (fun k => ?_) ?_
        · rw [withyref01_Of.l1, if_pos (by omega), if_pos (by omega), if_pos (by omega), ← ht, in_f, Option.bind_some, decide_eq_true b, if_pos rfl, if_neg (by omega), w1, w2, w64 (n := (i : Int) - 1) (by omega) (by omega)]
        · refine Ev.bind (ev_low (by omega) (by omega) (by omega) (by omega) (by omega)) ?_
          by_cases hf : Fits (t * x + y) x
          · simp only [hlow hf, if_true]
            exact (nx hf).2
          · simp only [hlow' hf, show ¬ ((8 : Int) = 0) by decide, if_false]
            exact Ev.now _
    · rw [if_neg b]
      refine ⟨Ev.congr (f := fun _ => some (0, 0, 8)) (fun k => ?_) (Ev.now _), Ev.step (f := fun _ => some (0, 0, 8)) (fun k => ?_) (Ev.now _)⟩
      · rw [num_Of.go, ← ht, if_neg b]
      · rw [withyref01_Of.l1, if_pos (by omega), if_pos (by omega), if_pos (by omega), ← ht, in_f, Option.bind_some, decide_eq_false b, if_neg (by decide)]
/-- what the terms come to -/
def OfZ (l : List Int) : Int × Int × Int := if -1000000000 ≤ rd l ((l.length : Int) - 1) ∧ rd l ((l.length : Int) - 1) ≤ 1000000000 then contR (l.take (l.length - 1)).reverse (rd l ((l.length : Int) - 1)) 1 else (0, 0, 8)
def OfR (l : List Int) : Int × Int × Int := if 1 ≤ (l.length : Int) ∧ (l.length : Int) ≤ 50 then (if (l.drop 1).any (fun n => decide (n < 1)) = true then (0, 0, 3) else (if 0 < (l.length : Int) - 1 ∧ rd l ((l.length : Int) - 1) = 1 then (0, 0, 1) else OfZ l)) else (0, 0, 4)
theorem any_pos {l : List Int} (h : ¬ (l.drop 1).any (fun n => decide (n < 1)) = true) (j : Nat) (h1 : 1 ≤ j) (h2 : j < l.length) : 1 ≤ rd l (j : Int) := by
  rw [rd_at1 h2]
  refine Classical.byContradiction fun w => h (List.any_eq_true.mpr ⟨l[j], ?_, decide_eq_true (by omega)⟩)
  rw [List.mem_iff_getElem]
  exact ⟨j - 1, by rw [List.length_drop]; omega, by rw [List.getElem_drop]; congr 1; omega⟩
theorem of_top (l : List Int) (h1 : 1 ≤ l.length) (h2 : l.length ≤ 50) (h : ¬ (l.drop 1).any (fun n => decide (n < 1)) = true) :
    Ev (fun k => num_Of.go k l ((l.length : Int) - 1) l.length 0 0) (OfZ l) ∧ Ev (fun k => withyref01_Of.l1 k l ((l.length : Int) - 1) ((l.length : Int) - 1) 0 0) (OfZ l) := by
  obtain ⟨i, hi⟩ : ∃ i, l.length = i + 1 := ⟨l.length - 1, by omega⟩
  have hp := any_pos h
  unfold OfZ
  rw [hi, show ((i + 1 : Nat) : Int) - 1 = (i : Int) by omega, Nat.add_sub_cancel]
  have hpi := hp i
  obtain ⟨t, ht⟩ : ∃ t, t = rd l (i : Int) := ⟨_, rfl⟩
  rw [← ht] at hpi ⊢
  by_cases b : -1000000000 ≤ t ∧ t ≤ 1000000000
  · rw [if_pos b]
    obtain ⟨e1, e2⟩ := of_loop l i (by omega) (by omega) hp i t 1 (Int.le_refl _) (fun h0 => ⟨⟨hpi h0 (by omega), b.2⟩, by decide, by decide⟩)
    refine ⟨Ev.congr (fun k => ?_) e1, Ev.step (fun k => ?_) e2⟩
    · rw [num_Of.go, ← ht, if_pos b, if_pos rfl]
    · rw [withyref01_Of.l1, if_pos (by omega), if_pos (by omega), if_pos (by omega), ← ht, in_f, Option.bind_some, decide_eq_true b, if_pos rfl, if_pos rfl, w64 (n := (i : Int) - 1) (by omega) (by omega)]
      rfl
  · rw [if_neg b]
    refine ⟨Ev.congr (f := fun _ => some (0, 0, 8)) (fun k => ?_) (Ev.now _), Ev.step (f := fun _ => some (0, 0, 8)) (fun k => ?_) (Ev.now _)⟩
    · rw [num_Of.go, ← ht, if_neg b]
    · rw [withyref01_Of.l1, if_pos (by omega), if_pos (by omega), if_pos (by omega), ← ht, in_f, Option.bind_some, decide_eq_false b, if_neg (by decide)]
theorem ev_Of (l : List Int) : Ev (fun k => num_Of.f k l) (OfR l) := by
  unfold num_Of.f OfR
  by_cases c1 : 1 ≤ (l.length : Int) ∧ (l.length : Int) ≤ 50
  · simp only [c1, and_self, if_true]
    by_cases c2 : (l.drop 1).any (fun n => decide (n < 1)) = true
    · simp only [c2, if_true]
      exact Ev.now _
    · simp only [c2, if_false]
      by_cases c3 : 0 < (l.length : Int) - 1 ∧ rd l ((l.length : Int) - 1) = 1
      · simp only [c3, and_self, if_true]
        exact Ev.now _
      · simp only [c3, if_false]
        exact (of_top l (by omega) (by omega) c2).1
  · simp only [c1, if_false]
    exact Ev.now _
theorem rd_last {l : List Int} (h : 1 ≤ l.length) : l.take (l.length - 1) ++ [rd l ((l.length : Int) - 1)] = l := by
  have e : ((l.length : Int) - 1) = ((l.length - 1 : Nat) : Int) := by omega
  rw [e, rd_at1 (by omega), ← List.take_succ_eq_append_getElem (by omega), Nat.sub_add_cancel h, List.take_length]
theorem cf_any {L : List Int} {n d : Int} (h : CF L n d) : ¬ (L.drop 1).any (fun n => decide (n < 1)) = true := by
  intro w
  obtain ⟨z, hz, w⟩ := List.any_eq_true.mp w
  have w := of_decide_eq_true w
  match L, h, hz with
  | [t], _, hz => cases hz
  | t :: s :: l, h, hz =>
    obtain ⟨m, e, h0, ⟨h1, h2⟩, _, _⟩ := h
    have := (CF.pos h0 h2).1 z hz
    omega
theorem of_cf {L : List Int} {n d : Int} (h : CF L n d) (ok : Ok n d) : OfR L = (n, d, 0) := by
  have h1 := ok.d1; have h2 := ok.d2; have h3 := ok.n1; have h4 := ok.n2
  have hl := cf_len h h2
  have hr := rd_last hl.1
  unfold OfR
  rw [if_pos ⟨by omega, by omega⟩, if_neg (cf_any h)]
  unfold OfZ
  obtain ⟨z, hz⟩ : ∃ z, z = rd L ((L.length : Int) - 1) := ⟨_, rfl⟩
  rw [← hz] at hr ⊢
  have hp : L.take (L.length - 1) = [] ∨ L.take (L.length - 1) ≠ [] := by
    by_cases c : L.take (L.length - 1) = []
    · exact .inl c
    · exact .inr c
  rw [← hr] at h
  obtain ⟨N, D, ⟨rfl, rfl⟩, hb⟩ := cf_tail (S := [z]) (by simp) h
  have n1 : ¬ (0 < (L.length : Int) - 1 ∧ N = 1) := by
    rintro ⟨a, b⟩
    rcases hb with ⟨hb, _⟩ | ⟨_, hb, _⟩
    · have := congrArg List.length hb
      rw [List.length_take, List.length_nil] at this
      omega
    · omega
  have bd : -1000000000 ≤ N ∧ N ≤ 1000000000 := by rcases hb with ⟨_, hb, _⟩ | ⟨_, hb, hb'⟩ <;> omega
  rw [if_neg n1, if_pos bd]
  exact cont_there _ [N] N 1 n d (by simp) ⟨rfl, rfl⟩ (by rw [List.reverse_reverse]; exact h) h2 h3 h4
theorem cont_fit : ∀ (r : List Int) (x y n d : Int), (-1000000000 ≤ x ∧ x ≤ 1000000000) → y ≤ 1000000000 → contR r x y = (n, d, 0) → (-1000000000 ≤ n ∧ n ≤ 1000000000) ∧ d ≤ 1000000000
  | [], x, y, n, d, hx, hy, e => by
    have e1 := (Prod.mk.inj e).1
    have e2 := (Prod.mk.inj (Prod.mk.inj e).2).1
    subst e1 e2
    exact ⟨hx, hy⟩
  | t :: r, x, y, n, d, hx, hy, e => by
    unfold contR at e
    by_cases c1 : -1000000000 ≤ t ∧ t ≤ 1000000000
    · rw [if_pos c1] at e
      by_cases f : Fits (t * x + y) x
      · have hl : Low (t * x + y) x = (Rn (t * x + y) x, Rd (t * x + y) x, 0) := if_pos f
        rw [hl, if_pos rfl] at e
        exact cont_fit r _ _ n d f.2 f.1 e
      · have hl : Low (t * x + y) x = (0, 0, 8) := if_neg f
        rw [hl, if_neg (by decide)] at e
        exact absurd (Prod.mk.inj (Prod.mk.inj e).2).2 (by decide)
    · rw [if_neg c1] at e
      exact absurd (Prod.mk.inj (Prod.mk.inj e).2).2 (by decide)
theorem cont_err : ∀ (r : List Int) (x y : Int), (contR r x y).2.2 = 0 ∨ contR r x y = (0, 0, 8)
  | [], x, y => .inl rfl
  | t :: r, x, y => by
    unfold contR
    by_cases c1 : -1000000000 ≤ t ∧ t ≤ 1000000000
    · rw [if_pos c1]
      by_cases c2 : (Low (t * x + y) x).2.2 = 0
      · rw [if_pos c2]
        exact cont_err r _ _
      · rw [if_neg c2]
        exact .inr rfl
    · rw [if_neg c1]
      exact .inr rfl
theorem of_err (l : List Int) (h : ¬ (OfR l).2.2 = 0) : (OfR l).1 = 0 ∧ (OfR l).2.1 = 0 := by
  unfold OfR OfZ at h ⊢
  split
  · rename_i c1
    rw [if_pos c1] at h
    split
    · exact ⟨rfl, rfl⟩
    · rename_i c2
      rw [if_neg c2] at h
      split
      · exact ⟨rfl, rfl⟩
      · rename_i c3
        rw [if_neg c3] at h
        split
        · rename_i c4
          rw [if_pos c4] at h
          rcases cont_err (l.take (l.length - 1)).reverse (rd l ((l.length : Int) - 1)) 1 with e | e
          · exact absurd e h
          · rw [e]
            exact ⟨rfl, rfl⟩
        · exact ⟨rfl, rfl⟩
  · exact ⟨rfl, rfl⟩
theorem cf_of {l : List Int} {x y : Int} (e : OfR l = (x, y, 0)) : CF l x y ∧ Ok x y := by
  have no : ∀ c : Int, c ≠ 0 → ((0 : Int), (0 : Int), c) ≠ (x, y, 0) := fun c hc h => hc (Prod.mk.inj (Prod.mk.inj h).2).2
  unfold OfR at e
  by_cases c1 : 1 ≤ (l.length : Int) ∧ (l.length : Int) ≤ 50
  · rw [if_pos c1] at e
    by_cases c2 : (l.drop 1).any (fun n => decide (n < 1)) = true
    · rw [if_pos c2] at e
      exact absurd e (no 3 (by decide))
    · rw [if_neg c2] at e
      by_cases c3 : 0 < (l.length : Int) - 1 ∧ rd l ((l.length : Int) - 1) = 1
      · rw [if_pos c3] at e
        exact absurd e (no 1 (by decide))
      · rw [if_neg c3] at e
        unfold OfZ at e
        have hr := rd_last (l := l) (by omega)
        have hpz := any_pos c2 (l.length - 1)
        rw [show ((l.length - 1 : Nat) : Int) = (l.length : Int) - 1 by omega] at hpz
        obtain ⟨z, hz⟩ : ∃ z, z = rd l ((l.length : Int) - 1) := ⟨_, rfl⟩
        rw [← hz] at hr e c3 hpz
        by_cases b : -1000000000 ≤ z ∧ z ≤ 1000000000
        · rw [if_pos b] at e
          have hne : (l.take (l.length - 1)).reverse ≠ [] → 2 ≤ l.length := fun hn => by
            refine Classical.byContradiction fun w => hn ?_
            rw [show l.length - 1 = 0 by omega]
            rfl
          have cf := cont_back (l.take (l.length - 1)).reverse [z] z 1 x y ⟨rfl, rfl⟩ (fun hn => by have := hne hn; have := hpz (by omega) (by omega); omega) (fun t ht => by
            rw [List.dropLast_reverse, List.mem_reverse] at ht
            have ht' : t ∈ l.drop 1 := by
              rw [← List.drop_one] at ht
              rw [← hr, List.drop_append]
              exact List.mem_append_left _ ht
            refine Classical.byContradiction fun w => c2 (List.any_eq_true.mpr ⟨t, ht', decide_eq_true (by omega)⟩)) e
          rw [List.reverse_reverse, hr] at cf
          obtain ⟨f1, f2⟩ := cont_fit _ z 1 x y b (by decide) e
          exact ⟨cf, by have := cf.den; omega, f2, f1.1, f1.2, cf.gcd⟩
        · rw [if_neg b] at e
          exact absurd e (no 8 (by decide))
  · rw [if_neg c1] at e
    exact absurd e (no 4 (by decide))
theorem ev_alike (l : List Int) (hl : l.length ≤ 1000) : Ev (fun k => withyref01_Alike.f k l l) true := by
  have lp : ∀ (m i : Nat), i + m = l.length → Ev (fun k => withyref01_Alike.l0 k l l (i : Int)) true := by
    intro m
    induction m with
    | zero =>
      intro i hi
      refine Ev.step (f := fun _ => some true) (fun k => ?_) (Ev.now _)
      rw [withyref01_Alike.l0, if_neg (by omega)]
    | succ m ih =>
      intro i hi
      refine Ev.step (fun k => ?_) (ih (i + 1) (by omega))
      rw [withyref01_Alike.l0, if_pos (by omega), if_pos (by omega), if_pos (by omega), if_pos rfl, w64 (n := (i : Int) + 1) (by omega) (by omega)]
      rfl
  unfold withyref01_Alike.f
  simp only [if_true]
  exact lp l.length 0 (by omega)
theorem cf_uniq {L L' : List Int} {n d : Int} (h : CF L n d) (h' : CF L' n d) (ok : Ok n d) : L = L' :=
  Ev.uniq (ev_go L n d h ok.d2 ok.n1 ok.n2) (ev_go L' n d h' ok.d2 ok.n1 ok.n2)
set_option maxRecDepth 100000 in
theorem summed_at : withylaw01_summed.f 60 = some true := by kernel_rfl
theorem ev_summed : Ev (fun k => withylaw01_summed.f k) true := Ev.of (fun k => withylaw01_summed.mono k) summed_at
theorem unique_j0 (l : List Int) (hl : l.length ≤ 60) : Ev (fun k => withylaw01_NumUnique.j0 k l) true := by
  have hs := Ev.bind ev_summed (Ev.now true)
  refine Ev.step (fun k => by rw [withylaw01_NumUnique.j0]) (Ev.bind (ev_Of l) ?_)
  by_cases c : (OfR l).2.2 = 0
  · obtain ⟨x, hx⟩ : ∃ x, x = (OfR l).1 := ⟨_, rfl⟩
    obtain ⟨y, hy⟩ : ∃ y, y = (OfR l).2.1 := ⟨_, rfl⟩
    have e : OfR l = (x, y, 0) := by rw [hx, hy, ← c]
    obtain ⟨cf, ok⟩ := cf_of e
    obtain ⟨L, hL, _, h1, _⟩ := ev_Terms (Chk_ok.mpr ok)
    obtain rfl := cf_uniq hL cf ok
    rw [e]
    simp only [if_true]
    refine Ev.bind h1 ?_
    simp only [if_true]
    refine Ev.bind (ev_alike L (by omega)) ?_
    simp only [if_true]
    exact hs
  · obtain ⟨e1, e2⟩ := of_err l c
    simp only [c, if_false, e1, e2, beq_self_eq_true, Bool.and_self, if_true]
    exact hs
theorem withylaw01_NumUnique.ev (a0_0 a0_1 : Int) (l1 : List Int) : Ev (fun k => withylaw01_NumUnique.f k a0_0 a0_1 l1) true := by
  have hs := Ev.bind ev_summed (Ev.now true)
  unfold withylaw01_NumUnique.f
  by_cases c : (l1.length : Int) > 60
  · simp only [c, if_true]
    exact hs
  · simp only [c, if_false]
    refine Ev.bind (ev_rcheck a0_0 a0_1) ?_
    have j := unique_j0 l1 (by omega)
    by_cases d : Chk a0_0 a0_1 = 0
    · simp only [d, if_true]
      obtain ⟨L, hL, _, h1, _⟩ := ev_Terms d
      refine Ev.bind h1 (Ev.bind (ev_Of L) ?_)
      rw [of_cf hL (Chk_ok.mp d)]
      simp only [if_true, beq_self_eq_true, Bool.not_true, Bool.or_self, Bool.false_eq_true, if_false]
      exact j
    · simp only [d, if_false]
      exact j
theorem withylaw01_NumUnique.pure (a0_0 a0_1 : Int) (l1 : List Int) (_ : -9223372036854775808 ≤ a0_0 ∧ a0_0 ≤ 9223372036854775807) (_ : -9223372036854775808 ≤ a0_1 ∧ a0_1 ≤ 9223372036854775807) : ∃ k, withylaw01_NumUnique.f k a0_0 a0_1 l1 = some true :=
  (withylaw01_NumUnique.ev a0_0 a0_1 l1).rounds
end Go.Proofs.Ytakcdoahpbeckaa.H
