/- NumRounds: the plain law, without the program: what the printed functions come to. -/
import Derived.Test.YtakcdoahpbeckaaKNumRounds5
namespace Go.Proofs.Ytakcdoahpbeckaa.H
open Go.RowKit Go.Proofs.YtakcdoahpbeckaaW.PrintWords Go.Proofs.YtakcdoahpbeckaaW.PrintLast Go.Proofs.YtakcdoahpbeckaaW.PrintMore
attribute [local go_sem] max2_int min2_int max_two min_two max_three min_three max_four min_four   -- for this text's walks alone
set_option linter.unusedVariables false
set_option linter.unusedSimpArgs false

/-! ### the text U0 -/
/-! ### What the functions of num come to: divisors, checks, numbers in lowest terms -/
theorem w64 {n : Int} (h : -9223372036854775808 ≤ n) (h' : n ≤ 9223372036854775807) : wrap64 n = n := by unfold wrap64; omega
theorem Ev.isNow {α : Type} {g : Nat → Option α} {r : α} (h : ∀ k, g k = some r) : Ev g r := ⟨0, fun k _ => h k⟩
/-- both come to the same -/
theorem Ev.uniq {α : Type} {g : Nat → Option α} {r r' : α} (h : Ev g r) (h' : Ev g r') : r = r' := by
  obtain ⟨K, hK⟩ := h
  obtain ⟨K', hK'⟩ := h'
  have a := hK (max K K') (by omega)
  have b := hK' (max K K') (by omega)
  exact Option.some.inj (a.symm.trans b)
theorem mx_nat (g : Nat) (h : 0 < g) : mx (g : Int) 1 = g := by unfold mx; split <;> omega
theorem mx_abs {n : Int} (h : -9223372036854775807 ≤ n) (h' : n ≤ 9223372036854775807) : mx n (wrap64 (-n)) = (n.natAbs : Int) := by
  rw [w64 (by omega) (by omega)]
  unfold mx
  split <;> omega
theorem divisor_loop : ∀ (n m : Nat), Ev (fun k => num_divisor.l0 k (m : Int) (n : Int)) (mx (Nat.gcd m n : Nat) 1) := by
  intro n
  induction n using Nat.strongRecOn with
  | ind n ih =>
    intro m
    by_cases h : n = 0
    · subst h
      refine Ev.step (f := fun _ => some (mx (m : Int) 1)) (fun k => ?_) (by rw [Nat.gcd_zero_right]; exact Ev.now _)
      show (if (0 : Int) > 0 then _ else _) = _
      rfl
    · refine Ev.step (f := fun k => num_divisor.l0 k (n : Int) ((m % n : Nat) : Int)) (fun k => ?_) ?_
      · show (if (n : Int) > 0 then (if (n : Int) = 0 then none else num_divisor.l0 k (n : Int) (Int.tmod m n)) else _) = _
        rw [if_pos (by omega), if_neg (by omega)]
        rfl
      · have := ih (m % n) (Nat.mod_lt _ (by omega)) n
        rwa [Nat.gcd_comm n, ← Nat.gcd_rec, Nat.gcd_comm n] at this
theorem ev_divisor {n d : Int} (hn : -9223372036854775807 ≤ n) (hn' : n ≤ 9223372036854775807) (hd : -9223372036854775807 ≤ d) (hd' : d ≤ 9223372036854775807) (h0 : d ≠ 0) :
    Ev (fun k => num_divisor.f k n d) (Int.gcd n d) := by
  have h := divisor_loop d.natAbs n.natAbs
  rw [mx_nat _ (Nat.gcd_pos_of_pos_right _ (by omega))] at h
  refine Ev.congr (fun k => ?_) h
  show num_divisor.l0 k _ _ = _
  rw [mx_abs hn hn', mx_abs hd hd']
theorem of2_loop : ∀ (n m : Nat), 0 < Nat.gcd m n → Ev (fun k => withyref01_Of2.l0 k (m : Int) (n : Int)) ((Nat.gcd m n : Nat) : Int) := by
  intro n
  induction n using Nat.strongRecOn with
  | ind n ih =>
    intro m hp
    by_cases h : n = 0
    · subst h
      rw [Nat.gcd_zero_right] at hp ⊢
      refine Ev.step (f := fun _ => some ((m : Int))) (fun k => ?_) (Ev.now _)
      show (if (0 : Int) > 0 then _ else if (m : Int) = 0 then _ else _) = _
      rw [if_neg (by omega), if_neg (by omega)]
    · have hr : Nat.gcd n (m % n) = Nat.gcd m n := by rw [Nat.gcd_comm n, ← Nat.gcd_rec, Nat.gcd_comm n]
      refine Ev.step (f := fun k => withyref01_Of2.l0 k (n : Int) ((m % n : Nat) : Int)) (fun k => ?_) ?_
      · show (if (n : Int) > 0 then (if (n : Int) = 0 then none else withyref01_Of2.l0 k (n : Int) (Int.tmod m n)) else _) = _
        rw [if_pos (by omega), if_neg (by omega)]
        rfl
      · have := ih (m % n) (Nat.mod_lt _ (by omega)) n (by rw [hr]; exact hp)
        rwa [hr] at this
theorem ev_of2 {n d : Int} (hn : -9223372036854775807 ≤ n) (hn' : n ≤ 9223372036854775807) (hd : -9223372036854775807 ≤ d) (hd' : d ≤ 9223372036854775807) (h0 : d ≠ 0) :
    Ev (fun k => withyref01_Of2.f k n d) (Int.gcd n d) := by
  have h := of2_loop d.natAbs n.natAbs (Nat.gcd_pos_of_pos_right _ (by omega))
  have h2 : Ev (fun k => withyref01_Of2.j0 k (n.natAbs : Int) d) (Int.gcd n d) := by
    by_cases c : d < 0
    · refine Ev.step (f := fun k => withyref01_Of2.j1 k (n.natAbs : Int) (wrap64 (-d))) (fun k => ?_) (Ev.step (f := fun k => withyref01_Of2.l0 k (n.natAbs : Int) (wrap64 (-d))) (fun k => rfl) ?_)
      · show (if d < 0 then _ else _) = _
        rw [if_pos c]
      · rw [w64 (by omega) (by omega), show -d = (d.natAbs : Int) by omega]
        exact h
    · refine Ev.step (f := fun k => withyref01_Of2.j1 k (n.natAbs : Int) d) (fun k => ?_) (Ev.step (f := fun k => withyref01_Of2.l0 k (n.natAbs : Int) d) (fun k => rfl) ?_)
      · show (if d < 0 then _ else _) = _
        rw [if_neg c]
      · have e : d = (d.natAbs : Int) := by omega
        have h' := h
        rw [← e] at h'
        exact h'
  refine Ev.congr (fun k => ?_) h2
  unfold withyref01_Of2.f
  by_cases c : n < 0
  · rw [if_pos c, w64 (by omega) (by omega), show -n = (n.natAbs : Int) by omega]
  · rw [if_neg c]
    congr 1
    omega
/-- the error of a number -/
def Chk (n d : Int) : Int := if (1 ≤ d ∧ d ≤ 1000000000) ∧ (-1000000000 ≤ n ∧ n ≤ 1000000000) then (if Int.gcd n d > 1 then 1 else 0) else 3
theorem in_f (a b c : Int) : withyref01_In.f a b c = some (decide (b ≤ a ∧ a ≤ c)) := by
  unfold withyref01_In.f
  by_cases h : b ≤ a <;> simp [h]
theorem within_1 (a b n : Int) : num_within.f a b [n] = some (decide (a ≤ n ∧ n ≤ b)) := by
  unfold num_within.f
  simp
theorem within_2 (a b n m : Int) : num_within.f a b [n, m] = some (decide ((a ≤ n ∧ n ≤ b) ∧ (a ≤ m ∧ m ≤ b))) := by
  unfold num_within.f
  simp
theorem ev_check (n d : Int) : Ev (fun k => num_Check.f k n d) (Chk n d) := by
  unfold num_Check.f Chk
  simp only [within_1, Option.bind_some]
  by_cases c : 1 ≤ d ∧ d ≤ 1000000000
  · by_cases c' : -1000000000 ≤ n ∧ n ≤ 1000000000
    · simp only [c, c', and_self, decide_true, if_true, Bool.not_true]
      refine Ev.step (f := fun k => (num_divisor.f k n d).bind fun t => if t > 1 then some 1 else some 0) (fun k => rfl) ?_
      · refine Ev.bind (ev_divisor (by omega) (by omega) (by omega) (by omega) (by omega)) ?_
        by_cases g : Int.gcd n d > 1
        · have g' : ((Int.gcd n d : Nat) : Int) > 1 := by omega
          simp only [g, g', if_true]
          exact Ev.now _
        · have g' : ¬ ((Int.gcd n d : Nat) : Int) > 1 := by omega
          simp only [g, g', if_false]
          exact Ev.now _
    · simp only [c, c', and_self, and_false, decide_true, decide_false, if_true, Bool.not_false, if_false]
      exact Ev.step (f := fun _ => some 3) (fun k => rfl) (Ev.now _)
  · simp only [c, false_and, decide_false, Bool.false_eq_true, if_false]
    exact Ev.step (f := fun _ => some 3) (fun k => rfl) (Ev.now _)
theorem ev_rcheck (n d : Int) : Ev (fun k => withyref01_Check.f k n d) (Chk n d) := by
  unfold withyref01_Check.f Chk
  simp only [in_f, Option.bind_some]
  by_cases c : 1 ≤ d ∧ d ≤ 1000000000
  · by_cases c' : -1000000000 ≤ n ∧ n ≤ 1000000000
    · simp only [c, c', and_self, decide_true, if_true, Bool.not_true]
      refine Ev.step (f := fun k => (withyref01_Of2.f k n d).bind fun t => if t > 1 then some 1 else some 0) (fun k => rfl) ?_
      · refine Ev.bind (ev_of2 (by omega) (by omega) (by omega) (by omega) (by omega)) ?_
        by_cases g : Int.gcd n d > 1
        · have g' : ((Int.gcd n d : Nat) : Int) > 1 := by omega
          simp only [g, g', if_true]
          exact Ev.now _
        · have g' : ¬ ((Int.gcd n d : Nat) : Int) > 1 := by omega
          simp only [g, g', if_false]
          exact Ev.now _
    · simp only [c, c', and_self, and_false, decide_true, decide_false, if_true, Bool.not_false, if_false]
      exact Ev.step (f := fun _ => some 3) (fun k => rfl) (Ev.now _)
  · simp only [c, false_and, decide_false, Bool.false_eq_true, if_false]
    exact Ev.step (f := fun _ => some 3) (fun k => rfl) (Ev.now _)
/-! ### the text U1 -/
/-! ### Numbers in lowest terms, within the bounds -/
def Rn (n d : Int) : Int := (if d < 0 then -n else n) / (Int.gcd n d : Int)
def Rd (n d : Int) : Int := (if d < 0 then -d else d) / (Int.gcd n d : Int)
def Fits (n d : Int) : Prop := Rd n d ≤ 1000000000 ∧ (-1000000000 ≤ Rn n d ∧ Rn n d ≤ 1000000000)
instance (n d : Int) : Decidable (Fits n d) := inferInstanceAs (Decidable (_ ∧ _))
def Low (n d : Int) : Int × Int × Int := if Fits n d then (Rn n d, Rd n d, 0) else (0, 0, 8)
def NumE (n d : Int) : Except Int (Int × Int) := if Fits n d then .ok (Rn n d, Rd n d) else .error 0
theorem gcd_pos {n d : Int} (h : d ≠ 0) : 0 < Int.gcd n d := Nat.gcd_pos_of_pos_right _ (by omega)
theorem le_div {a : Int} {g : Nat} (hg : 0 < g) {b : Int} (h : -b ≤ a) (h' : a ≤ b) : -b ≤ a / (g : Int) ∧ a / (g : Int) ≤ b := by
  have hb : 0 ≤ b := by omega
  refine ⟨?_, ?_⟩
  · have : -b ≤ (-b) / (g : Int) := by
      have := Int.le_ediv_of_mul_le (a := -b) (b := -b) (c := (g : Int)) (by omega) (by
        have : (1 : Int) ≤ g := by omega
        have := Int.mul_le_mul_of_nonneg_left this hb
        have e : -b * (g : Int) = -(b * g) := by rw [Int.neg_mul]
        omega)
      exact this
    exact Int.le_trans this (Int.ediv_le_ediv (by omega) h)
  · exact Int.le_trans (Int.ediv_le_ediv (by omega) h') (Int.ediv_le_self _ hb)
theorem core_num (n d : Int) (hn : -9223372036854775807 ≤ n) (hn' : n ≤ 9223372036854775807) (hd : -9223372036854775807 ≤ d) (hd' : d ≤ 9223372036854775807) (h0 : d ≠ 0) :
    wrap64 (Int.tdiv (if d < 0 then wrap64 (-n) else n) (Int.gcd n d)) = Rn n d ∧ wrap64 (Int.tdiv (if d < 0 then wrap64 (-d) else d) (Int.gcd n d)) = Rd n d := by
  have hg := gcd_pos (n := n) h0
  have d1 : ((Int.gcd n d : Nat) : Int) ∣ (if d < 0 then -n else n) := by
    split
    · exact Int.dvd_neg.mpr (Int.gcd_dvd_left ..)
    · exact Int.gcd_dvd_left ..
  have d2 : ((Int.gcd n d : Nat) : Int) ∣ (if d < 0 then -d else d) := by
    split
    · exact Int.dvd_neg.mpr (Int.gcd_dvd_right ..)
    · exact Int.gcd_dvd_right ..
  have e1 : (if d < 0 then wrap64 (-n) else n) = (if d < 0 then -n else n) := by rw [w64 (by omega) (by omega)]
  have e2 : (if d < 0 then wrap64 (-d) else d) = (if d < 0 then -d else d) := by rw [w64 (by omega) (by omega)]
  rw [e1, e2, Int.tdiv_eq_ediv_of_dvd d1, Int.tdiv_eq_ediv_of_dvd d2]
  have b1 := le_div hg (a := if d < 0 then -n else n) (b := 9223372036854775807) (by split <;> omega) (by split <;> omega)
  have b2 := le_div hg (a := if d < 0 then -d else d) (b := 9223372036854775807) (by split <;> omega) (by split <;> omega)
  exact ⟨w64 (by omega) b1.2, w64 (by omega) b2.2⟩
theorem gcd_sign (n d : Int) : Int.gcd (if d < 0 then wrap64 (-n) else n) (if d < 0 then wrap64 (-d) else d) = Int.gcd n d ∨ ¬ (-9223372036854775807 ≤ n ∧ n ≤ 9223372036854775807 ∧ -9223372036854775807 ≤ d ∧ d ≤ 9223372036854775807) := by
  by_cases h : (-9223372036854775807 ≤ n ∧ n ≤ 9223372036854775807 ∧ -9223372036854775807 ≤ d ∧ d ≤ 9223372036854775807)
  · left
    rw [w64 (by omega) (by omega), w64 (by omega) (by omega)]
    split
    · rw [Int.neg_gcd, Int.gcd_neg]
    · rfl
  · exact Or.inr h
theorem ev_num {n d : Int} (hn : -9223372036854775807 ≤ n) (hn' : n ≤ 9223372036854775807) (hd : -9223372036854775807 ≤ d) (hd' : d ≤ 9223372036854775807) (h0 : d ≠ 0) :
    Ev (fun k => num_ratio_num.f k n d) (NumE n d) := by
  have hg := gcd_pos (n := n) h0
  obtain ⟨c1, c2⟩ := core_num n d hn hn' hd hd' h0
  have hs := (gcd_sign n d).resolve_right (by omega)
  refine Ev.congr (f := fun k => num_ratio_num.j0 k (if d < 0 then wrap64 (-n) else n) (if d < 0 then wrap64 (-d) else d)) (fun k => ?_) ?_
  · unfold num_ratio_num.f
    split <;> rfl
  · generalize hN : (if d < 0 then wrap64 (-n) else n) = N at *
    generalize hD : (if d < 0 then wrap64 (-d) else d) = D at *
    have hNr : -9223372036854775807 ≤ N ∧ N ≤ 9223372036854775807 := by rw [← hN, w64 (by omega) (by omega)]; split <;> omega
    have hDr : (-9223372036854775807 ≤ D ∧ D ≤ 9223372036854775807) ∧ D ≠ 0 := by rw [← hD, w64 (by omega) (by omega)]; split <;> omega
    refine Ev.step (f := fun k => (num_divisor.f k N D).bind fun t => if t = 0 then none else if wrap64 (Int.tdiv D t) > 1000000000 then some (.error (0 : Int)) else (num_within.f (-1000000000) 1000000000 [wrap64 (Int.tdiv N t)]).bind fun u => if u = true then some (.ok (ε := Int) (wrap64 (Int.tdiv N t), wrap64 (Int.tdiv D t))) else some (.error (0 : Int))) (fun k => rfl) ?_
    refine Ev.bind (ev_divisor hNr.1 hNr.2 hDr.1.1 hDr.1.2 hDr.2) ?_
    rw [hs]
    simp only [c1, c2, within_1, Option.bind_some]
    refine Ev.isNow fun k => ?_
    rw [if_neg (by omega)]
    unfold NumE
    by_cases a : Rd n d > 1000000000
    · rw [if_pos a, if_neg (fun h : Fits n d => by have := h.1; omega)]
    · rw [if_neg a]
      by_cases b : -1000000000 ≤ Rn n d ∧ Rn n d ≤ 1000000000
      · rw [if_pos (show Fits n d from ⟨by omega, b⟩)]
        simp only [b, and_self, decide_true, if_true]
      · rw [if_neg (fun h : Fits n d => b h.2)]
        simp only [b, decide_false, if_false, Bool.false_eq_true]
theorem ev_low {n d : Int} (hn : -9223372036854775807 ≤ n) (hn' : n ≤ 9223372036854775807) (hd : -9223372036854775807 ≤ d) (hd' : d ≤ 9223372036854775807) (h0 : d ≠ 0) :
    Ev (fun k => withyref01_low.f k n d) (Low n d) := by
  have hg := gcd_pos (n := n) h0
  obtain ⟨c1, c2⟩ := core_num n d hn hn' hd hd' h0
  have hs := (gcd_sign n d).resolve_right (by omega)
  refine Ev.congr (f := fun k => withyref01_low.j0 k (if d < 0 then wrap64 (-n) else n) (if d < 0 then wrap64 (-d) else d)) (fun k => ?_) ?_
  · unfold withyref01_low.f
    split <;> rfl
  · generalize hN : (if d < 0 then wrap64 (-n) else n) = N at *
    generalize hD : (if d < 0 then wrap64 (-d) else d) = D at *
    have hNr : -9223372036854775807 ≤ N ∧ N ≤ 9223372036854775807 := by rw [← hN, w64 (by omega) (by omega)]; split <;> omega
    have hDr : (-9223372036854775807 ≤ D ∧ D ≤ 9223372036854775807) ∧ D ≠ 0 := by rw [← hD, w64 (by omega) (by omega)]; split <;> omega
    refine Ev.step (f := fun k => (withyref01_Of2.f k N D).bind fun t => if t = 0 then none else if wrap64 (Int.tdiv D t) > 1000000000 then some (0, 0, 8) else (withyref01_In.f (wrap64 (Int.tdiv N t)) (-1000000000) 1000000000).bind fun u => if u = true then some (wrap64 (Int.tdiv N t), wrap64 (Int.tdiv D t), 0) else some (0, 0, 8)) (fun k => rfl) ?_
    refine Ev.bind (ev_of2 hNr.1 hNr.2 hDr.1.1 hDr.1.2 hDr.2) ?_
    rw [hs]
    simp only [c1, c2, in_f, Option.bind_some]
    refine Ev.isNow fun k => ?_
    rw [if_neg (by omega)]
    unfold Low
    by_cases a : Rd n d > 1000000000
    · rw [if_pos a, if_neg (fun h : Fits n d => by have := h.1; omega)]
    · rw [if_neg a]
      by_cases b : -1000000000 ≤ Rn n d ∧ Rn n d ≤ 1000000000
      · rw [if_pos (show Fits n d from ⟨by omega, b⟩)]
        simp only [b, and_self, decide_true, if_true]
      · rw [if_neg (fun h : Fits n d => b h.2)]
        simp only [b, decide_false, if_false, Bool.false_eq_true]
theorem exc_num (n d : Int) : exc (NumE n d) (fun _ => some (0, 0, 8)) (fun b => some (b.1, b.2, 0)) = some (Low n d) := by
  unfold NumE Low
  split <;> rfl
/-! ### the text U2 -/
/-! ### Sums and products, comparisons -/
def ChkL : List S23 → Int
  | [] => 0
  | a :: l => if Chk a.f0 a.f1 = 0 then ChkL l else Chk a.f0 a.f1
theorem checked_loop (l : List S23) (hl : l.length < 9223372036854775807) : ∀ (m i : Nat), i + m = l.length → Ev (fun k => num_checked.l0 k l (l.length : Int) (i : Int)) (ChkL (l.drop i)) := by
  intro m
  induction m with
  | zero =>
    intro i hi
    rw [List.drop_of_length_le (by omega)]
    refine Ev.step (f := fun _ => some 0) (fun k => ?_) (Ev.now _)
    show (if (i : Int) < (l.length : Int) then _ else _) = _
    rw [if_neg (by omega)]
  | succ m ih =>
    intro i hi
    have hlt : i < l.length := by omega
    have hx : rd_T23 l (i : Int) = l[i] := by
      unfold rd_T23
      rw [Int.toNat_natCast, List.getD_eq_getElem?_getD, List.getElem?_eq_getElem hlt]
      rfl
    rw [List.drop_eq_getElem_cons hlt]
    refine Ev.step (f := fun k => (num_Check.f k (l[i]).f0 (l[i]).f1).bind fun t => if t = 0 then num_checked.l0 k l (l.length : Int) ((i + 1 : Nat) : Int) else some t) (fun k => ?_) ?_
    · show (if (i : Int) < (l.length : Int) then (if 0 ≤ (i : Int) then (if (i : Int) < (l.length : Int) then _ else _) else _) else _) = _
      rw [if_pos (by omega), if_pos (by omega), if_pos (by omega), hx, w64 (by omega) (by omega)]
      rfl
    · refine Ev.bind (ev_check _ _) ?_
      show Ev _ (if Chk l[i].f0 l[i].f1 = 0 then ChkL (l.drop (i + 1)) else Chk l[i].f0 l[i].f1)
      by_cases c : Chk l[i].f0 l[i].f1 = 0
      · simp only [c, if_true]
        exact ih (i + 1) (by omega)
      · simp only [c, if_false]
        exact Ev.now _
theorem ev_checked (l : List S23) (hl : l.length < 9223372036854775807) : Ev (fun k => num_checked.f k l) (ChkL l) := by
  have := checked_loop l hl l.length 0 (by omega)
  rwa [List.drop_zero] at this
def Chk2 (a b c d : Int) : Int := if Chk a b = 0 then Chk c d else Chk a b
theorem ev_checked2 (a b c d : Int) : Ev (fun k => num_checked.f k [(⟨a, b⟩ : S23), ⟨c, d⟩]) (Chk2 a b c d) := by
  have h := ev_checked [(⟨a, b⟩ : S23), ⟨c, d⟩] (by simp)
  have e : ChkL [(⟨a, b⟩ : S23), ⟨c, d⟩] = Chk2 a b c d := by
    show (if Chk a b = 0 then (if Chk c d = 0 then (0 : Int) else Chk c d) else Chk a b) = _
    unfold Chk2
    by_cases x : Chk a b = 0
    · rw [if_pos x, if_pos x]
      by_cases y : Chk c d = 0
      · rw [if_pos y, y]
      · rw [if_neg y]
    · rw [if_neg x, if_neg x]
  rwa [e] at h
theorem ev_both (a b c d : Int) : Ev (fun k => withyref01_both.f k a b c d) (Chk2 a b c d) := by
  unfold withyref01_both.f Chk2
  refine Ev.bind (ev_rcheck _ _) ?_
  by_cases x : Chk a b = 0
  · simp only [x, if_true]
    exact Ev.bind (ev_rcheck _ _) (Ev.now _)
  · simp only [x, if_false]
    exact Ev.now _
/-- a number's fields are in the bounds, and in lowest terms -/
structure Ok (n d : Int) : Prop where
  d1 : 1 ≤ d
  d2 : d ≤ 1000000000
  n1 : -1000000000 ≤ n
  n2 : n ≤ 1000000000
  g : Int.gcd n d = 1
theorem Chk_ok {n d : Int} : Chk n d = 0 ↔ Ok n d := by
  unfold Chk
  constructor
  · intro h
    split at h
    · rename_i c
      split at h
      · exact absurd h (by decide)
      · have := gcd_pos (n := n) (d := d) (by omega)
        exact ⟨c.1.1, c.1.2, c.2.1, c.2.2, by omega⟩
    · exact absurd h (by decide)
  · intro h
    have := h.d1; have := h.d2; have := h.n1; have := h.n2; have := h.g
    rw [if_pos (by omega), if_neg (by omega)]
theorem Chk2_ok {a b c d : Int} : Chk2 a b c d = 0 ↔ Ok a b ∧ Ok c d := by
  unfold Chk2
  rw [← Chk_ok, ← Chk_ok]
  by_cases x : Chk a b = 0
  · simp [x]
  · simp [x]
theorem Ok.mul {a b c d : Int} (h : Ok a b) (k : Ok c d) : (-1000000000000000000 ≤ a * d ∧ a * d ≤ 1000000000000000000) ∧ (-1000000000000000000 ≤ c * b ∧ c * b ≤ 1000000000000000000) ∧ (1 ≤ b * d ∧ b * d ≤ 1000000000000000000) ∧ (-1000000000000000000 ≤ a * c ∧ a * c ≤ 1000000000000000000) ∧ (-1000000000000000000 ≤ b * c ∧ b * c ≤ 1000000000000000000) := by
  have bd : ∀ x y : Int, -1000000000 ≤ x → x ≤ 1000000000 → -1000000000 ≤ y → y ≤ 1000000000 → -1000000000000000000 ≤ x * y ∧ x * y ≤ 1000000000000000000 := by
    intro x y h1 h2 h3 h4
    have a1 : x.natAbs ≤ 1000000000 := by omega
    have a2 : y.natAbs ≤ 1000000000 := by omega
    have a3 := Nat.mul_le_mul a1 a2
    rw [← Int.natAbs_mul] at a3
    omega
  have := h.d1; have := h.d2; have := h.n1; have := h.n2; have := k.d1; have := k.d2; have := k.n1; have := k.n2
  refine ⟨bd _ _ (by omega) (by omega) (by omega) (by omega), bd _ _ (by omega) (by omega) (by omega) (by omega), ⟨?_, (bd b d (by omega) (by omega) (by omega) (by omega)).2⟩, bd _ _ (by omega) (by omega) (by omega) (by omega), bd _ _ (by omega) (by omega) (by omega) (by omega)⟩
  have := Int.mul_le_mul h.d1 k.d1 (by omega) (by omega)
  omega
def AddR (a b c d : Int) : Int × Int × Int := if Chk2 a b c d = 0 then Low (a * d + c * b) (b * d) else (0, 0, Chk2 a b c d)
def SubR (a b c d : Int) : Int × Int × Int := if Chk2 a b c d = 0 then Low (a * d - c * b) (b * d) else (0, 0, Chk2 a b c d)
def MulR (a b c d : Int) : Int × Int × Int := if Chk2 a b c d = 0 then Low (a * c) (b * d) else (0, 0, Chk2 a b c d)
def DivR (a b c d : Int) : Int × Int × Int := if Chk2 a b c d = 0 then (if c = 0 then (0, 0, 10) else Low (a * d) (b * c)) else (0, 0, Chk2 a b c d)
theorem reck {opf : Int → Int → Int → Int → Option (Int × Int)} {dv : Bool} {a b c d : Int} {R : Int × Int × Int} {N D : Int}
    (hop : Ok a b → Ok c d → ¬ (dv = true ∧ c = 0) → opf a b c d = some (N, D) ∧ (-9223372036854775807 ≤ N ∧ N ≤ 9223372036854775807) ∧ (-9223372036854775807 ≤ D ∧ D ≤ 9223372036854775807) ∧ D ≠ 0)
    (hR : R = if Chk2 a b c d = 0 then (if dv = true ∧ c = 0 then (0, 0, 10) else Low N D) else (0, 0, Chk2 a b c d)) : Ev (fun k => num_reckon.g opf dv k a b c d) R := by
  subst hR
  unfold num_reckon.g
  refine Ev.bind (ev_checked2 a b c d) ?_
  by_cases x : Chk2 a b c d = 0
  · simp only [x, if_true]
    by_cases y : dv = true ∧ c = 0
    · simp only [y, and_self, if_true]
      exact Ev.now _
    · simp only [y, if_false]
      obtain ⟨h1, h2⟩ := Chk2_ok.mp x
      obtain ⟨e, n1, d1, d0⟩ := hop h1 h2 y
      simp only [e, Option.bind_some]
      refine Ev.bind (ev_num n1.1 n1.2 d1.1 d1.2 d0) ?_
      rw [exc_num]
      exact Ev.now _
  · simp only [x, if_false]
    exact Ev.now _
theorem ev_three {g : Nat → Option (Int × Int × Int)} {R : Int × Int × Int} (h : Ev g R) : Ev (fun k => (g k).bind fun b => some (b.1, b.2.1, b.2.2)) R :=
  Ev.bind h (Ev.now _)
theorem ev_Add (a b c d : Int) : Ev (fun k => num_Add.f k a b c d) (AddR a b c d) := by
  refine ev_three (Ev.congr (f := fun k => num_reckon.g num_ratio_plus.f false k a b c d) (fun k => rfl) (reck (N := a * d + c * b) (D := b * d) (fun h k _ => ?_) ?_))
  · have := h.mul k
    refine ⟨?_, by omega, by omega, by omega⟩
    unfold num_ratio_plus.f
    rw [w64 (n := a * d) (by omega) (by omega), w64 (n := c * b) (by omega) (by omega), w64 (by omega) (by omega), w64 (by omega) (by omega)]
  · simp [AddR]
theorem ev_Sub (a b c d : Int) : Ev (fun k => num_Sub.f k a b c d) (SubR a b c d) := by
  refine ev_three (Ev.congr (f := fun k => num_reckon.g num_ratio_minus.f false k a b c d) (fun k => rfl) (reck (N := a * d - c * b) (D := b * d) (fun h k _ => ?_) ?_))
  · have := h.mul k
    refine ⟨?_, by omega, by omega, by omega⟩
    unfold num_ratio_minus.f
    rw [w64 (n := a * d) (by omega) (by omega), w64 (n := c * b) (by omega) (by omega), w64 (by omega) (by omega), w64 (by omega) (by omega)]
  · simp [SubR]
theorem ev_Mul (a b c d : Int) : Ev (fun k => num_Mul.f k a b c d) (MulR a b c d) := by
  refine ev_three (Ev.congr (f := fun k => num_reckon.g num_ratio_times.f false k a b c d) (fun k => rfl) (reck (N := a * c) (D := b * d) (fun h k _ => ?_) ?_))
  · have := h.mul k
    refine ⟨?_, by omega, by omega, by omega⟩
    unfold num_ratio_times.f
    rw [w64 (n := a * c) (by omega) (by omega), w64 (by omega) (by omega)]
  · simp [MulR]
theorem ev_Div (a b c d : Int) : Ev (fun k => num_Div.f k a b c d) (DivR a b c d) := by
  refine ev_three (Ev.congr (f := fun k => num_reckon.g num_ratio_by.f true k a b c d) (fun k => rfl) (reck (N := a * d) (D := b * c) (fun h k y => ?_) ?_))
  · have := h.mul k
    refine ⟨?_, by omega, by omega, fun e => ?_⟩
    · unfold num_ratio_by.f
      rw [w64 (n := a * d) (by omega) (by omega), w64 (by omega) (by omega)]
    · rcases Int.mul_eq_zero.mp e with e | e
      · have := h.d1
        omega
      · exact y ⟨rfl, e⟩
  · simp [DivR]
theorem ref_op {a b c d N D : Int} {g : Nat → Option (Int × Int × Int)} (hg : ∀ k, g k = (withyref01_both.f k a b c d).bind fun t => if t = 0 then ((withyref01_low.f k N D).bind fun b => some (b.1, b.2.1, b.2.2)) else some (0, 0, t)) {N' D' : Int}
    (hop : Ok a b → Ok c d → (N = N' ∧ D = D') ∧ (-9223372036854775807 ≤ N ∧ N ≤ 9223372036854775807) ∧ (-9223372036854775807 ≤ D ∧ D ≤ 9223372036854775807) ∧ D ≠ 0) : Ev g (if Chk2 a b c d = 0 then Low N' D' else (0, 0, Chk2 a b c d)) := by
  refine Ev.congr hg ?_
  refine Ev.bind (ev_both a b c d) ?_
  by_cases x : Chk2 a b c d = 0
  · simp only [x, if_true]
    obtain ⟨h1, h2⟩ := Chk2_ok.mp x
    obtain ⟨⟨rfl, rfl⟩, n1, d1, d0⟩ := hop h1 h2
    exact ev_three (ev_low n1.1 n1.2 d1.1 d1.2 d0)
  · simp only [x, if_false]
    exact Ev.now _
theorem ev_rAdd (a b c d : Int) : Ev (fun k => withyref01_Add.f k a b c d) (AddR a b c d) := by
  refine ref_op (fun k => rfl) (fun h k => ?_)
  have := h.mul k
  rw [w64 (n := a * d) (by omega) (by omega), w64 (n := c * b) (by omega) (by omega), w64 (by omega) (by omega), w64 (by omega) (by omega)]
  exact ⟨⟨rfl, rfl⟩, by omega, by omega, by omega⟩
theorem ev_rSub (a b c d : Int) : Ev (fun k => withyref01_Sub.f k a b c d) (SubR a b c d) := by
  refine ref_op (fun k => rfl) (fun h k => ?_)
  have := h.mul k
  rw [w64 (n := a * d) (by omega) (by omega), w64 (n := c * b) (by omega) (by omega), w64 (by omega) (by omega), w64 (by omega) (by omega)]
  exact ⟨⟨rfl, rfl⟩, by omega, by omega, by omega⟩
theorem ev_rMul (a b c d : Int) : Ev (fun k => withyref01_Mul.f k a b c d) (MulR a b c d) := by
  refine ref_op (fun k => rfl) (fun h k => ?_)
  have := h.mul k
  rw [w64 (n := a * c) (by omega) (by omega), w64 (by omega) (by omega)]
  exact ⟨⟨rfl, rfl⟩, by omega, by omega, by omega⟩
theorem ev_rDiv (a b c d : Int) : Ev (fun k => withyref01_Div.f k a b c d) (DivR a b c d) := by
  unfold withyref01_Div.f DivR
  refine Ev.bind (ev_both a b c d) ?_
  by_cases x : Chk2 a b c d = 0
  · simp only [x, if_true]
    obtain ⟨h1, h2⟩ := Chk2_ok.mp x
    by_cases y : c = 0
    · simp only [y, if_true]
      exact Ev.now _
    · simp only [y, if_false]
      have := h1.mul h2
      rw [w64 (n := a * d) (by omega) (by omega), w64 (by omega) (by omega)]
      refine ev_three (ev_low (by omega) (by omega) (by omega) (by omega) fun e => ?_)
      rcases Int.mul_eq_zero.mp e with e | e
      · have := h1.d1
        omega
      · exact y e
  · simp only [x, if_false]
    exact Ev.now _
/-! ### the text U3 -/
/-! ### Comparisons, whole numbers beside one -/
def CmpV (a b c d : Int) : Int := if a * d < c * b then -1 else if a * d > c * b then 1 else 0
def CmpR (a b c d : Int) : Int × Int := if Chk2 a b c d = 0 then (CmpV a b c d, 0) else (0, Chk2 a b c d)
theorem compare_f (x y : Int) : cmp_Compare_int.f x y = some (if x < y then -1 else if x > y then 1 else 0) := by
  unfold cmp_Compare_int.f cmp_isNaN_int.f
  simp only [bne_self_eq_false, Option.bind_some, Bool.false_eq_true, if_false]
  by_cases h : x < y
  · rw [if_pos h, if_pos h]
  · rw [if_neg h, if_neg h]
    by_cases k : x > y
    · rw [if_pos k, if_pos k]
    · rw [if_neg k, if_neg k]
theorem ratio_compare {a b c d : Int} (h : Ok a b) (k : Ok c d) : num_ratio_compare.f a b c d = some (CmpV a b c d) := by
  have := h.mul k
  unfold num_ratio_compare.f
  rw [w64 (n := a * d) (by omega) (by omega), w64 (n := c * b) (by omega) (by omega), compare_f]
  rfl
theorem ev_Cmp (a b c d : Int) : Ev (fun k => num_Cmp.f k a b c d) (CmpR a b c d) := by
  unfold num_Cmp.f CmpR
  refine Ev.bind (ev_checked2 a b c d) ?_
  by_cases x : Chk2 a b c d = 0
  · simp only [x, if_true]
    obtain ⟨h1, h2⟩ := Chk2_ok.mp x
    unfold num_of.f
    simp only [Option.bind_some, ratio_compare h1 h2]
    exact Ev.now _
  · simp only [x, if_false]
    exact Ev.now _
theorem ev_rCmp (a b c d : Int) : Ev (fun k => withyref01_Cmp.f k a b c d) (CmpR a b c d) := by
  unfold withyref01_Cmp.f CmpR
  refine Ev.bind (ev_both a b c d) ?_
  by_cases x : Chk2 a b c d = 0
  · simp only [x, if_true]
    obtain ⟨h1, h2⟩ := Chk2_ok.mp x
    have := h1.mul h2
    unfold withyref01_Less.f CmpV
    rw [w64 (n := a * d) (by omega) (by omega), w64 (n := c * b) (by omega) (by omega)]
    simp only [Option.bind_some, decide_eq_true_eq]
    refine Ev.isNow fun k => ?_
    by_cases p : a * d < c * b
    · simp only [p, if_true]
    · simp only [p, if_false]
      by_cases q : a * d > c * b
      · have q' : c * b < a * d := q
        simp only [q, q', if_true]
      · have q' : ¬ c * b < a * d := q
        simp only [q, q', if_false]
  · simp only [x, if_false]
    exact Ev.now _
def NegR (n d : Int) : Int × Int × Int := if Chk n d = 0 then (-n, d, 0) else (0, 0, Chk n d)
theorem ev_Neg (n d : Int) : Ev (fun k => num_Neg.f k n d) (NegR n d) := by
  unfold num_Neg.f NegR
  refine Ev.bind (ev_check n d) ?_
  by_cases x : Chk n d = 0
  · simp only [x, if_true]
    have := (Chk_ok.mp x).n1; have := (Chk_ok.mp x).n2
    rw [w64 (by omega) (by omega)]
    exact Ev.now _
  · simp only [x, if_false]
    exact Ev.now _
theorem ev_rNeg (n d : Int) : Ev (fun k => withyref01_Neg.f k n d) (NegR n d) := by
  unfold withyref01_Neg.f NegR
  refine Ev.bind (ev_rcheck n d) ?_
  by_cases x : Chk n d = 0
  · simp only [x, if_true]
    have := (Chk_ok.mp x).n1; have := (Chk_ok.mp x).n2
    rw [w64 (by omega) (by omega)]
    exact Ev.now _
  · simp only [x, if_false]
    exact Ev.now _
def WholeR (n d : Int) : Bool × Int := if Chk n d = 0 then (d == 1, 0) else (false, Chk n d)
theorem ev_Whole (n d : Int) : Ev (fun k => num_Whole.f k n d) (WholeR n d) := by
  unfold num_Whole.f WholeR
  refine Ev.bind (ev_check n d) ?_
  by_cases x : Chk n d = 0
  · simp only [x, if_true]
    exact Ev.now _
  · simp only [x, if_false]
    exact Ev.now _
theorem ev_rWhole (n d : Int) : Ev (fun k => withyref01_Whole.f k n d) (WholeR n d) := by
  unfold withyref01_Whole.f WholeR
  refine Ev.bind (ev_rcheck n d) ?_
  by_cases x : Chk n d = 0
  · simp only [x, if_true]
    exact Ev.now _
  · simp only [x, if_false]
    exact Ev.now _
def MakeR (n d : Int) : Int × Int × Int := if (-1000000000000000000 ≤ n ∧ n ≤ 1000000000000000000) ∧ (-1000000000000000000 ≤ d ∧ d ≤ 1000000000000000000) then (if d = 0 then (0, 0, 10) else Low n d) else (0, 0, 3)
theorem ev_Make (n d : Int) : Ev (fun k => num_Make.f k n d) (MakeR n d) := by
  unfold num_Make.f MakeR
  simp only [within_2, Option.bind_some, decide_eq_true_eq]
  by_cases x : (-1000000000000000000 ≤ n ∧ n ≤ 1000000000000000000) ∧ (-1000000000000000000 ≤ d ∧ d ≤ 1000000000000000000)
  · rw [if_pos x]
    simp only [x, and_self, if_true]
    by_cases y : d = 0
    · simp only [y, if_true]
      exact Ev.now _
    · simp only [y, if_false]
      refine Ev.bind (ev_num (by omega) (by omega) (by omega) (by omega) y) ?_
      rw [exc_num]
      exact Ev.now _
  · rw [if_neg x]
    simp only [x, if_false]
    exact Ev.now _
theorem ev_rMake (n d : Int) : Ev (fun k => withyref01_Make.f k n d) (MakeR n d) := by
  unfold withyref01_Make.f MakeR
  simp only [in_f, Option.bind_some, decide_eq_true_eq]
  by_cases x1 : -1000000000000000000 ≤ n ∧ n ≤ 1000000000000000000
  · by_cases x2 : -1000000000000000000 ≤ d ∧ d ≤ 1000000000000000000
    · simp only [x1, x2, and_self, if_true, decide_true, Bool.not_true]
      refine Ev.step (f := fun k => if d = 0 then some (0, 0, 10) else (withyref01_low.f k n d).bind fun b => some (b.1, b.2.1, b.2.2)) (fun k => rfl) ?_
      by_cases y : d = 0
      · simp only [y, if_true]
        exact Ev.now _
      · simp only [y, if_false]
        exact ev_three (ev_low (by omega) (by omega) (by omega) (by omega) y)
    · simp only [x1, x2, and_self, and_false, if_true, if_false, decide_false, Bool.not_false]
      exact Ev.step (f := fun _ => some (0, 0, 3)) (fun k => rfl) (Ev.now _)
  · simp only [x1, false_and, if_false]
    exact Ev.step (f := fun _ => some (0, 0, 3)) (fun k => rfl) (Ev.now _)
/-! floors -/
theorem floor_div {n d : Int} (h0 : 1 ≤ d) (h1 : d ≤ 9223372036854775807) (hn : -9223372036854775807 ≤ n) (hn' : n ≤ 9223372036854775807) : num_ratio_floor.f n d = some (n / d) := by
  have b := le_div (a := n) (g := d.toNat) (by omega) hn hn'
  rw [Int.toNat_of_nonneg (by omega)] at b
  have e1 : n.tdiv d = n / d + (if 0 ≤ n ∨ d ∣ n then 0 else 1) := by
    rw [Int.tdiv_eq_ediv]
    have : d.sign = 1 := Int.sign_eq_one_of_pos (by omega)
    rw [this]
  have e2 : n.tmod d = n % d - (if 0 ≤ n ∨ d ∣ n then 0 else d) := by
    rw [Int.tmod_eq_emod]
    by_cases c : 0 ≤ n ∨ d ∣ n
    · rw [if_pos c, if_pos c]
      rfl
    · rw [if_neg c, if_neg c]
      omega
  have p1 := Int.emod_nonneg n (b := d) (by omega)
  have p2 := Int.emod_lt_of_pos n (b := d) (by omega)
  unfold num_ratio_floor.f
  rw [if_neg (by omega), e1, e2]
  by_cases c : 0 ≤ n ∨ d ∣ n
  · rw [if_pos c, if_pos c, if_neg (by omega), Int.add_zero, w64 (by omega) (by omega)]
  · rw [if_neg c, if_neg c, if_pos (by omega)]
    have hneg : n / d < 0 := Int.ediv_neg_of_neg_of_pos (by omega) (by omega)
    rw [w64 (n := n / d + 1) (by omega) (by omega), w64 (by omega) (by omega)]
    congr 1
    omega
theorem under_div {n d : Int} (h0 : 1 ≤ d) (h1 : d ≤ 1000000000) (hn : -4000000000000000000 ≤ n) (hn' : n ≤ 4000000000000000000) : withyref01_under.f n d = some (n / d) := by
  have b := le_div (a := n) (g := d.toNat) (by omega) hn hn'
  rw [Int.toNat_of_nonneg (by omega)] at b
  have p1 := Int.emod_nonneg n (b := d) (by omega)
  have p2 := Int.emod_lt_of_pos n (b := d) (by omega)
  have p3 := Int.emod_add_mul_ediv n d
  unfold withyref01_under.f
  by_cases c : n < 0
  · rw [if_pos c, if_neg (by omega), w64 (n := -n) (by omega) (by omega), w64 (n := -n + d) (by omega) (by omega), w64 (n := -n + d - 1) (by omega) (by omega), Int.tdiv_eq_ediv_of_nonneg (by omega)]
    have e : (-n + d - 1) / d = -(n / d) := by
      have : -n + d - 1 = (d - 1 - n % d) + (-(n / d)) * d := by
        have : d * (n / d) = n / d * d := Int.mul_comm ..
        rw [Int.neg_mul]
        omega
      rw [this, Int.add_mul_ediv_right _ _ (by omega), Int.ediv_eq_zero_of_lt (by omega) (by omega)]
      omega
    rw [e, w64 (n := -(n / d)) (by omega) (by omega), w64 (by omega) (by omega)]
    congr 1
    omega
  · rw [if_neg c, if_neg (by omega), Int.tdiv_eq_ediv_of_nonneg (by omega), w64 (by omega) (by omega)]
/-- the nearest whole number, of two the even one -/
def Near1 (n d : Int) : Int := if n - n / d * d > d - (n - n / d * d) ∨ (n - n / d * d = d - (n - n / d * d) ∧ ¬ Int.tmod (n / d) 2 = 0) then n / d + 1 else n / d
theorem near_all {n d : Int} (h0 : 1 ≤ d) (h1 : d ≤ 1000000000) (hn : -4000000000000000000 ≤ n) (hn' : n ≤ 4000000000000000000) : num_ratio_nearest.f n d = some (Near1 n d) ∧ withyref01_nearest.f n d = some (Near1 n d) := by
  have b := le_div (a := n) (g := d.toNat) (by omega) hn hn'
  rw [Int.toNat_of_nonneg (by omega)] at b
  have p1 := Int.emod_nonneg n (b := d) (by omega)
  have p2 := Int.emod_lt_of_pos n (b := d) (by omega)
  have p3 := Int.emod_add_mul_ediv n d
  have p4 : d * (n / d) = n / d * d := Int.mul_comm ..
  have key : ∀ t : Int, t = n / d → (if (wrap64 (n - (wrap64 (t * d)))) > (wrap64 (d - (wrap64 (n - (wrap64 (t * d)))))) then (some (wrap64 (t + 1))) else (if (wrap64 (n - (wrap64 (t * d)))) = (wrap64 (d - (wrap64 (n - (wrap64 (t * d)))))) then (if (Int.tmod t 2) = 0 then (some t) else (some (wrap64 (t + 1)))) else (some t))) = some (Near1 n d) := by
    rintro t rfl
    rw [w64 (n := n / d * d) (by omega) (by omega), w64 (n := n - n / d * d) (by omega) (by omega), w64 (n := d - (n - n / d * d)) (by omega) (by omega), w64 (n := n / d + 1) (by omega) (by omega)]
    unfold Near1
    by_cases x : n - n / d * d > d - (n - n / d * d)
    · rw [if_pos x, if_pos (Or.inl x)]
    · rw [if_neg x]
      by_cases y : n - n / d * d = d - (n - n / d * d)
      · rw [if_pos y]
        by_cases z : Int.tmod (n / d) 2 = 0
        · rw [if_pos z, if_neg (fun h => h.elim x (fun h => h.2 z))]
        · rw [if_neg z, if_pos (Or.inr ⟨y, z⟩)]
      · rw [if_neg y, if_neg (fun h => h.elim x (fun h => y h.1))]
  refine ⟨?_, ?_⟩
  · unfold num_ratio_nearest.f
    rw [floor_div h0 (by omega) (by omega) (by omega), Option.bind_some]
    exact key _ rfl
  · unfold withyref01_nearest.f
    rw [under_div h0 h1 hn hn', Option.bind_some]
    exact key _ rfl
theorem ceil_div {n d : Int} (h0 : 1 ≤ d) (h1 : d ≤ 9223372036854775807) (hn : -9223372036854775807 ≤ n) (hn' : n ≤ 9223372036854775807) : num_ratio_ceil.f n d = some (-(-n / d)) := by
  have b := le_div (a := -n) (g := d.toNat) (b := 9223372036854775807) (by omega) (by omega) (by omega)
  rw [Int.toNat_of_nonneg (by omega)] at b
  unfold num_ratio_ceil.f
  rw [w64 (n := -n) (by omega) (by omega), floor_div h0 h1 (by omega) (by omega), Option.bind_some, w64 (by omega) (by omega)]
def RoundedR (p : Int → Int → Int) (n d : Int) : Int × Int := if Chk n d = 0 then (p n d, 0) else (0, Chk n d)
theorem ev_rounded {p : Int → Int → Option Int} {q : Int → Int → Int} (n d : Int) (h : Ok n d → p n d = some (q n d)) : Ev (fun k => num_rounded.g p k n d) (RoundedR q n d) := by
  unfold num_rounded.g RoundedR
  refine Ev.bind (ev_check n d) ?_
  by_cases x : Chk n d = 0
  · simp only [x, if_true, h (Chk_ok.mp x), Option.bind_some]
    exact Ev.now _
  · simp only [x, if_false]
    exact Ev.now _
theorem ev_Floor (n d : Int) : Ev (fun k => num_Floor.f k n d) (RoundedR (fun n d => n / d) n d) :=
  ev_rounded n d fun h => floor_div h.d1 (by have := h.d2; omega) (by have := h.n1; omega) (by have := h.n2; omega)
theorem ev_Ceil (n d : Int) : Ev (fun k => num_Ceil.f k n d) (RoundedR (fun n d => -(-n / d)) n d) :=
  ev_rounded n d fun h => ceil_div h.d1 (by have := h.d2; omega) (by have := h.n1; omega) (by have := h.n2; omega)
theorem ev_Round (n d : Int) : Ev (fun k => num_Round.f k n d) (RoundedR Near1 n d) :=
  ev_rounded n d fun h => (near_all h.d1 (by have := h.d2; omega) (by have := h.n1; omega) (by have := h.n2; omega)).1
theorem ev_rFloor (n d : Int) : Ev (fun k => withyref01_Floor.f k n d) (RoundedR (fun n d => n / d) n d) := by
  unfold withyref01_Floor.f RoundedR
  refine Ev.bind (ev_rcheck n d) ?_
  by_cases x : Chk n d = 0
  · have h := Chk_ok.mp x
    have := h.d2; have := h.n1; have := h.n2
    simp only [x, if_true]
    rw [under_div h.d1 (by omega) (by omega) (by omega)]
    exact Ev.now _
  · simp only [x, if_false]
    exact Ev.now _
theorem ev_rCeil (n d : Int) : Ev (fun k => withyref01_Ceil.f k n d) (RoundedR (fun n d => -(-n / d)) n d) := by
  unfold withyref01_Ceil.f RoundedR
  refine Ev.bind (ev_rcheck n d) ?_
  by_cases x : Chk n d = 0
  · have h := Chk_ok.mp x
    have := h.d1; have := h.d2; have := h.n1; have := h.n2
    have b := le_div (a := -n) (g := d.toNat) (b := 1000000000) (by omega) (by omega) (by omega)
    rw [Int.toNat_of_nonneg (by omega)] at b
    simp only [x, if_true]
    rw [w64 (n := -n) (by omega) (by omega), under_div h.d1 (by omega) (by omega) (by omega), Option.bind_some, w64 (by omega) (by omega)]
    exact Ev.now _
  · simp only [x, if_false]
    exact Ev.now _
theorem ev_rRound (n d : Int) : Ev (fun k => withyref01_Round.f k n d) (RoundedR Near1 n d) := by
  unfold withyref01_Round.f RoundedR
  refine Ev.bind (ev_rcheck n d) ?_
  by_cases x : Chk n d = 0
  · have h := Chk_ok.mp x
    have := h.d2; have := h.n1; have := h.n2
    simp only [x, if_true]
    rw [(near_all h.d1 (by omega) (by omega) (by omega)).2]
    exact Ev.now _
  · simp only [x, if_false]
    exact Ev.now _
/-! ### the text U4 -/
/-! ### Digits -/
theorem son_append (a b : List Int) : strOfNums a ++ strOfNums b = strOfNums (a ++ b) := by
  apply ByteArray.ext
  apply Array.ext'
  simp [strOfNums]
/-- the digits of a number, at most so many, at least so many -/
def PD : Nat → Nat → Nat → List Int
  | 0, _, _ => []
  | i + 1, m, n => if n > 0 ∨ m > 0 then PD i (m - 1) (n / 10) ++ [48 + ((n % 10 : Nat) : Int)] else []
theorem PD_len : ∀ (i m n : Nat), (PD i m n).length ≤ i := by
  intro i
  induction i with
  | zero => intro m n; simp [PD]
  | succ i ih =>
    intro m n
    unfold PD
    split
    · have := ih (m - 1) (n / 10)
      simp
      omega
    · simp
/-- as many places as it has digits do not matter -/
theorem PD_more : ∀ (i j m n : Nat), n < 10 ^ i → n < 10 ^ j → m ≤ i → m ≤ j → PD i m n = PD j m n := by
  intro i
  induction i with
  | zero =>
    intro j m n h _ hm _
    have h0 : n = 0 := by simpa using h
    have h1 : m = 0 := by omega
    subst h0 h1
    cases j <;> simp [PD]
  | succ i ih =>
    intro j m n h h' hm hm'
    cases j with
    | zero =>
      have h0 : n = 0 := by simpa using h'
      have h1 : m = 0 := by omega
      subst h0 h1
      simp [PD]
    | succ j =>
      unfold PD
      split
      · rw [ih j (m - 1) (n / 10) (by rw [Nat.pow_succ] at h; omega) (by rw [Nat.pow_succ] at h'; omega) (by omega) (by omega)]
      · rfl
theorem told_go (least : Nat) : ∀ (i n : Nat) (l : List Int), i ≤ 20 → n < 10 ^ i → least ≤ 20 → num_told.go (least : Int) i (n : Int) l = some (PD i (least - (20 - i)) n ++ l) := by
  intro i
  induction i with
  | zero =>
    intro n l _ h hl
    have h0 : n = 0 := by simpa using h
    subst h0
    show (if _ then _ else _) = _
    rw [if_neg (by omega)]
    rfl
  | succ i ih =>
    intro n l hi h hl
    show (if _ then _ else _) = _
    by_cases c : n > 0 ∨ least - (20 - (i + 1)) > 0
    · rw [if_pos (by omega)]
      have e1 : ((n : Int) / 10) = ((n / 10 : Nat) : Int) := by omega
      have e2 : ((n : Int) % 10) = ((n % 10 : Nat) : Int) := by omega
      rw [e1, e2, ih (n / 10) _ (by omega) (by rw [Nat.pow_succ] at h; omega) hl]
      show _ = some ((if n > 0 ∨ least - (20 - (i + 1)) > 0 then _ else _) ++ l)
      rw [if_pos c, show least - (20 - (i + 1)) - 1 = least - (20 - i) by omega, List.append_assoc]
      rfl
    · rw [if_neg (by omega)]
      show _ = some ((if n > 0 ∨ least - (20 - (i + 1)) > 0 then _ else _) ++ l)
      rw [if_neg c]
      rfl
/-- a number's digits, with so many at least -/
def Dig (m n : Nat) : List Int := PD 20 m n
theorem told_f (n m : Nat) (hn : n ≤ 9223372036854775807) (hm : m ≤ 20) : num_told.f (n : Int) (m : Int) = some (strOfNums (Dig m n)) := by
  unfold num_told.f
  rw [if_pos (by omega), told_go m 20 n [] (by omega) (by omega) hm]
  simp [Dig]
theorem Dig_small (n : Nat) (h : n < 10) : Dig 1 n = [48 + (n : Int)] := by
  show (if n > 0 ∨ 1 > 0 then PD 19 (1 - 1) (n / 10) ++ [48 + ((n % 10 : Nat) : Int)] else []) = _
  rw [if_pos (by omega), show n / 10 = 0 by omega, show n % 10 = n by omega]
  rfl
theorem PD_one (i n : Nat) (h : 0 < n) : PD i 0 n = PD i 1 n := by
  cases i with
  | zero => rfl
  | succ i =>
    unfold PD
    rw [if_pos (by omega), if_pos (by omega)]
theorem Dig_big (n : Nat) (h : 10 ≤ n) (hn : n < 10 ^ 19) : Dig 1 n = Dig 1 (n / 10) ++ Dig 1 (n % 10) := by
  rw [Dig_small (n % 10) (by omega)]
  show (if n > 0 ∨ 1 > 0 then PD 19 (1 - 1) (n / 10) ++ [48 + ((n % 10 : Nat) : Int)] else []) = _
  rw [if_pos (by omega), show (1 - 1 : Nat) = 0 from rfl, PD_one 19 _ (by omega), PD_more 19 20 1 (n / 10) (by omega) (by omega) (by omega) (by omega)]
  rfl
theorem Dig_len (m n : Nat) : (Dig m n).length ≤ 20 := PD_len 20 m n
theorem son_len (m n : Nat) : (strOfNums (Dig m n)).size ≤ 20 := by rw [strOfNums_size]; exact Dig_len m n
theorem ev_Tell : ∀ (n : Nat), n ≤ 9223372036854775807 → Ev (fun k => withyref01_Tell.f k (n : Int)) (strOfNums (Dig 1 n)) := by
  intro n
  induction n using Nat.strongRecOn with
  | ind n ih =>
    intro hn
    by_cases c : n < 10
    · refine Ev.step (f := fun _ => some (strOfNums [(wrap64 (48 + (n : Int))) % 256])) (fun k => ?_) ?_
      · show (if _ then _ else _) = _
        rw [if_neg (by omega), if_pos (by omega)]
      · rw [w64 (by omega) (by omega), Dig_small n c, show (48 + (n : Int)) % 256 = 48 + (n : Int) by omega]
        exact Ev.now _
    · refine Ev.step (f := fun k => (withyref01_Tell.f k ((n / 10 : Nat) : Int)).bind fun a => (withyref01_Tell.f k ((n % 10 : Nat) : Int)).bind fun b => if a.size + b.size ≤ 9223372036854775807 then some (a ++ b) else none) (fun k => ?_) ?_
      · show (if _ then _ else _) = _
        rw [if_neg (by omega), if_neg (by omega), Int.tdiv_eq_ediv_of_nonneg (by omega), Int.tmod_eq_emod_of_nonneg (by omega), w64 (by omega) (by omega)]
        rfl
      · refine Ev.bind (ih (n / 10) (by omega) (by omega)) (Ev.bind (ih (n % 10) (by omega) (by omega)) ?_)
        have h1 := son_len 1 (n / 10); have h2 := son_len 1 (n % 10)
        refine Ev.isNow fun k => ?_
        rw [if_pos (by omega), son_append, Dig_big n (by omega) (by omega)]
/-- a whole number's text -/
def TellT (n : Int) : ByteArray := if n < 0 then (⟨#[45]⟩ : ByteArray) ++ strOfNums (Dig 1 n.natAbs) else strOfNums (Dig 1 n.natAbs)
theorem minus_son (l : List Int) : (⟨#[45]⟩ : ByteArray) ++ strOfNums l = strOfNums (45 :: l) := son_append [45] l
theorem ev_TellNeg : ∀ (n : Nat), 0 < n → n ≤ 9223372036854775807 → Ev (fun k => withyref01_Tell.f k (-(n : Int))) (strOfNums (45 :: Dig 1 n)) := by
  intro n
  induction n using Nat.strongRecOn with
  | ind n ih =>
    intro h0 hn
    by_cases c : n < 10
    · refine Ev.step (f := fun k => (withyref01_Tell.f k (n : Int)).bind fun t => if 1 + t.size ≤ 9223372036854775807 then some ((⟨#[45]⟩ : ByteArray) ++ t) else none) (fun k => ?_) ?_
      · show (if _ then _ else _) = _
        rw [if_pos (by omega), if_pos (by omega), w64 (by omega) (by omega), Int.neg_neg]
      · refine Ev.bind (ev_Tell n (by omega)) ?_
        have h1 := son_len 1 n
        refine Ev.isNow fun k => ?_
        rw [if_pos (by omega), minus_son]
    · refine Ev.step (f := fun k => (withyref01_Tell.f k (-((n / 10 : Nat) : Int))).bind fun a => (withyref01_Tell.f k ((n % 10 : Nat) : Int)).bind fun b => if a.size + b.size ≤ 9223372036854775807 then some (a ++ b) else none) (fun k => ?_) ?_
      · show (if _ then _ else _) = _
        have e1 : Int.tdiv (-(n : Int)) 10 = -((n / 10 : Nat) : Int) := by rw [Int.neg_tdiv, Int.tdiv_eq_ediv_of_nonneg (by omega)]; omega
        have e2 : Int.tmod (-(n : Int)) 10 = -((n % 10 : Nat) : Int) := by rw [Int.neg_tmod, Int.tmod_eq_emod_of_nonneg (by omega)]; omega
        rw [if_pos (by omega), if_neg (by omega), e1, e2, w64 (by omega) (by omega), w64 (by omega) (by omega), Int.neg_neg]
      · refine Ev.bind (ih (n / 10) (by omega) (by omega) (by omega)) (Ev.bind (ev_Tell (n % 10) (by omega)) ?_)
        have h1 := Dig_len 1 (n / 10); have h2 := son_len 1 (n % 10)
        refine Ev.isNow fun k => ?_
        rw [if_pos (by rw [strOfNums_size]; simp; omega), son_append, Dig_big n (by omega) (by omega)]
        rfl
/-! ### the text U5 -/
/-! ### Decimals -/
theorem PD_nil (i : Nat) : PD i 0 0 = [] := by cases i <;> simp [PD]
theorem PD_zero : ∀ (i L n : Nat), n < 10 ^ L → L + 1 ≤ i → PD i (L + 1) n = 48 :: PD i L n := by
  intro i
  induction i with
  | zero => intro L n _ h; omega
  | succ i ih =>
    intro L n h hi
    have e : ∀ m, PD (i + 1) (m + 1) n = PD i m (n / 10) ++ [48 + ((n % 10 : Nat) : Int)] := fun m => by
      show (if _ then _ else _) = _
      rw [if_pos (by omega)]
      rfl
    cases L with
    | zero =>
      have h0 : n = 0 := by simpa using h
      subst h0
      rw [e, PD_nil (i + 1), Nat.zero_div, PD_nil]
      rfl
    | succ L =>
      rw [e, e, ih L (n / 10) (by rw [Nat.pow_succ] at h; omega) (by omega)]
      rfl
theorem PD_self : ∀ (i m n : Nat), PD i m n = PD i (PD i m n).length n := by
  intro i
  induction i with
  | zero => intro m n; rfl
  | succ i ih =>
    intro m n
    by_cases c : n > 0 ∨ m > 0
    · have e : PD (i + 1) m n = PD i (m - 1) (n / 10) ++ [48 + ((n % 10 : Nat) : Int)] := by
        show (if _ then _ else _) = _
        rw [if_pos c]
      have e2 : PD (i + 1) ((PD i (m - 1) (n / 10)).length + 1) n = PD i (PD i (m - 1) (n / 10)).length (n / 10) ++ [48 + ((n % 10 : Nat) : Int)] := by
        show (if _ then _ else _) = _
        rw [if_pos (by omega)]
        rfl
      rw [e, List.length_append, List.length_singleton, e2, ← ih]
    · have h0 : n = 0 := by omega
      have h1 : m = 0 := by omega
      subst h0 h1
      rw [PD_nil, List.length_nil, PD_nil]
theorem PD_lt : ∀ (i m n : Nat), n < 10 ^ i → n < 10 ^ (PD i m n).length := by
  intro i
  induction i with
  | zero => intro m n h; simpa [PD] using h
  | succ i ih =>
    intro m n h
    by_cases c : n > 0 ∨ m > 0
    · have e : PD (i + 1) m n = PD i (m - 1) (n / 10) ++ [48 + ((n % 10 : Nat) : Int)] := by
        show (if _ then _ else _) = _
        rw [if_pos c]
      have := ih (m - 1) (n / 10) (by rw [Nat.pow_succ] at h; omega)
      rw [e, List.length_append, List.length_singleton, Nat.pow_succ]
      omega
    · have h0 : n = 0 := by omega
      subst h0
      exact Nat.pow_pos (by omega)
theorem PD_len_eq : ∀ (i L n : Nat), n < 10 ^ L → L ≤ i → (PD i L n).length = L := by
  intro i
  induction i with
  | zero => intro L n _ h; have : L = 0 := by omega
            subst this; rfl
  | succ i ih =>
    intro L n h hi
    cases L with
    | zero =>
      have h0 : n = 0 := by simpa using h
      subst h0
      rw [PD_nil]
      rfl
    | succ L =>
      show (if _ then _ else _ : List Int).length = _
      rw [if_pos (by omega), List.length_append, List.length_singleton]
      have := ih L (n / 10) (by rw [Nat.pow_succ] at h; omega) (by omega)
      rw [show L + 1 - 1 = L by omega, this]
theorem PD_len_le : ∀ (i m n p : Nat), n < 10 ^ p → m ≤ p → (PD i m n).length ≤ p := by
  intro i
  induction i with
  | zero => intro m n p _ _; simp [PD]
  | succ i ih =>
    intro m n p h hm
    by_cases c : n > 0 ∨ m > 0
    · show (if _ then _ else _ : List Int).length ≤ _
      rw [if_pos c, List.length_append, List.length_singleton]
      cases p with
      | zero =>
        have h0 : n = 0 := by simpa using h
        omega
      | succ p =>
        have := ih (m - 1) (n / 10) p (by rw [Nat.pow_succ] at h; omega) (by omega)
        omega
    · have h0 : n = 0 := by omega
      have h1 : m = 0 := by omega
      subst h0 h1
      rw [PD_nil]
      simp
def DecL (N : Int) (p : Nat) : List Int := (if N < 0 then [45] else []) ++ (Dig 1 (N.natAbs / 10 ^ p) ++ (if p > 0 then 46 :: Dig p (N.natAbs % 10 ^ p) else []))
theorem ten_cases {p : Int} (h0 : 0 ≤ p) (h9 : p ≤ 9) : Ev (fun k => num_power.f k p) ((10 ^ p.toNat : Nat) : Int) ∧ Ev (fun k => withyref01_ten.f k p) ((10 ^ p.toNat : Nat) : Int) := by
  have : p = 0 ∨ p = 1 ∨ p = 2 ∨ p = 3 ∨ p = 4 ∨ p = 5 ∨ p = 6 ∨ p = 7 ∨ p = 8 ∨ p = 9 := by omega
  rcases this with rfl | rfl | rfl | rfl | rfl | rfl | rfl | rfl | rfl | rfl
  all_goals exact ⟨Ev.of (fun k => num_power.mono _ k) (k := 20) (by kernel_rfl), Ev.of (fun k => withyref01_ten.mono _ k) (k := 20) (by kernel_rfl)⟩
theorem sign_f (N : Int) (h : -9223372036854775807 ≤ N) (h' : N ≤ 9223372036854775807) : num_sign.f N = some (strOfNums (if N < 0 then [45] else []), (N.natAbs : Int)) := by
  unfold num_sign.f
  by_cases c : N < 0
  · rw [if_pos c, if_pos c, w64 (by omega) (by omega), show -N = (N.natAbs : Int) by omega]
    rfl
  · rw [if_neg c, if_neg c, show N = (N.natAbs : Int) by omega]
    rfl
theorem Near1_bound {n d : Int} (h0 : 1 ≤ d) (b : Int) (hb : 0 ≤ b) (hn : -b ≤ n) (hn' : n ≤ b) : -b ≤ Near1 n d ∧ Near1 n d ≤ b + 1 := by
  have q := le_div (a := n) (g := d.toNat) (b := b) (by omega) hn hn'
  rw [Int.toNat_of_nonneg (by omega)] at q
  unfold Near1
  split <;> omega
def DecR (n d p : Int) : ByteArray × Int := if Chk n d = 0 then (if 0 ≤ p ∧ p ≤ 9 then (strOfNums (DecL (Near1 (n * (10 ^ p.toNat : Nat)) d) p.toNat), 0) else ((⟨#[]⟩ : ByteArray), 3)) else ((⟨#[]⟩ : ByteArray), Chk n d)
theorem ten_le {p : Nat} (h : p ≤ 9) : 10 ^ p ≤ 1000000000 := Nat.le_trans (Nat.pow_le_pow_right (by omega) h) (by decide)
theorem scaled {n d p : Int} (h : Ok n d) (h0 : 0 ≤ p) (h9 : p ≤ 9) : -1000000000000000000 ≤ n * (10 ^ p.toNat : Nat) ∧ n * (10 ^ p.toNat : Nat) ≤ 1000000000000000000 := by
  have t := ten_le (p := p.toNat) (by omega)
  have a1 : n.natAbs ≤ 1000000000 := by have := h.n1; have := h.n2; omega
  have a3 := Nat.mul_le_mul a1 t
  have e : (n * (10 ^ p.toNat : Nat)).natAbs = n.natAbs * 10 ^ p.toNat := by rw [Int.natAbs_mul]; rfl
  omega
theorem ev_Decimal (n d p : Int) : Ev (fun k => num_Decimal.f k n d p) (DecR n d p) := by
  unfold num_Decimal.f DecR
  refine Ev.bind (ev_check n d) ?_
  by_cases x : Chk n d = 0
  · simp only [x, if_true, within_1, Option.bind_some, decide_eq_true_eq]
    by_cases y : 0 ≤ p ∧ p ≤ 9
    · have h := Chk_ok.mp x
      simp only [y, and_self, if_true]
      refine Ev.bind (ten_cases y.1 y.2).1 ?_
      have sc := scaled h y.1 y.2
      have hp := ten_le (p := p.toNat) (by omega)
      have hp0 : 0 < 10 ^ p.toNat := Nat.pow_pos (by omega)
      rw [w64 (by omega) (by omega), (near_all h.d1 h.d2 (by omega) (by omega)).1, Option.bind_some]
      have nb := Near1_bound (d := d) h.d1 1000000000000000000 (by omega) sc.1 sc.2
      generalize Near1 (n * (10 ^ p.toNat : Nat)) d = N at nb ⊢
      rw [sign_f N (by omega) (by omega), Option.bind_some]
      generalize hT : 10 ^ p.toNat = T at hp hp0 ⊢
      have e1 : wrap64 (Int.tdiv (N.natAbs : Int) (T : Int)) = ((N.natAbs / T : Nat) : Int) := by
        rw [Int.tdiv_eq_ediv_of_nonneg (by omega), ← Int.natCast_ediv]
        have := Nat.div_le_self N.natAbs T
        generalize N.natAbs / T = q at this ⊢
        exact w64 (by omega) (by omega)
      have e2 : Int.tmod (N.natAbs : Int) (T : Int) = ((N.natAbs % T : Nat) : Int) := rfl
      have b1 := Nat.div_le_self N.natAbs T
      have b2 := Nat.mod_lt N.natAbs hp0
      have t1 := told_f (N.natAbs / T) 1 (by omega) (by omega)
      have t2 := told_f (N.natAbs % T) p.toNat (by omega) (by omega)
      rw [show ((1 : Nat) : Int) = 1 from rfl] at t1
      rw [show ((p.toNat : Nat) : Int) = p by omega] at t2
      have l1 := son_len 1 (N.natAbs / T)
      have l2 := son_len p.toNat (N.natAbs % T)
      have l3 : (strOfNums (if N < 0 then [45] else [])).size ≤ 1 := by rw [strOfNums_size]; split <;> simp
      refine Ev.isNow fun k => ?_
      have l4 : (⟨#[46]⟩ : ByteArray) ++ strOfNums (Dig p.toNat (N.natAbs % T)) = strOfNums (46 :: Dig p.toNat (N.natAbs % T)) := son_append [46] _
      simp only [e1, e2, t1, t2, Option.bind_some]
      rw [if_neg (by omega), if_pos (by omega), l4, son_append]
      unfold DecL
      rw [hT]
      have g : p > 0 ↔ p.toNat > 0 := by omega
      by_cases z : p > 0
      · have l5 := Dig_len p.toNat (N.natAbs % T)
        have l6 := Dig_len 1 (N.natAbs / T)
        rw [if_pos z, if_pos (by omega), if_pos, son_append, if_pos (g.mp z), List.append_assoc]
        rw [strOfNums_size, strOfNums_size]
        simp only [List.length_append, List.length_cons]
        have : (if N < 0 then [(45 : Int)] else []).length ≤ 1 := by split <;> simp
        omega
      · rw [if_neg z, if_neg (fun w => z (g.mpr w)), List.append_nil]
    · simp only [y, if_false]
      exact Ev.now _
  · simp only [x, if_false]
    exact Ev.now _
theorem pad_loop (p : Nat) (hp : p ≤ 9) (m : Int) (s : List Int) (hs : s.length ≤ 1) (hm0 : 0 ≤ m) (hm : m ≤ 9223372036854775807) (r : Nat) : ∀ (q j : Nat), j + q = p → r < 10 ^ j → 1 ≤ j →
    Ev (fun k => withyref01_Decimal.l0 k (p : Int) m (strOfNums s) (strOfNums (Dig j r))) (strOfNums (s ++ (Dig 1 (m.natAbs / 10 ^ p) ++ 46 :: Dig p r)), 0) := by
  intro q
  induction q with
  | zero =>
    intro j hj hr h1
    obtain rfl : j = p := by omega
    have hT0 : 0 < 10 ^ j := Nat.pow_pos (by omega)
    have hT1 := ten_le hp
    have L1 : (Dig j r).length = j := PD_len_eq 20 j r hr (by omega)
    refine Ev.step (f := fun k => (withyref01_ten.f k (j : Int)).bind fun t430 => (if t430 = 0 then (none) else ((withyref01_Tell.f k (wrap64 (Int.tdiv m t430))).bind fun t431 => (if (strOfNums s).size + t431.size ≤ 9223372036854775807 then (if (strOfNums s ++ t431).size + 1 ≤ 9223372036854775807 then (if ((strOfNums s ++ t431) ++ (⟨#[46]⟩ : ByteArray)).size + (strOfNums (Dig j r)).size ≤ 9223372036854775807 then (some (((strOfNums s ++ t431) ++ (⟨#[46]⟩ : ByteArray)) ++ strOfNums (Dig j r), 0)) else (none)) else (none)) else (none))))) (fun k => ?_) ?_
    · show (if ((strOfNums (Dig j r)).size : Int) < (j : Int) then _ else _) = _
      rw [if_neg (by rw [strOfNums_size, L1]; omega)]
    · refine Ev.bind (ten_cases (p := (j : Int)) (by omega) (by omega)).2 ?_
      rw [show ((j : Int)).toNat = j by omega]
      generalize 10 ^ j = T at hT0 hT1 ⊢
      have e1 : wrap64 (Int.tdiv m (T : Int)) = ((m.natAbs / T : Nat) : Int) := by
        have hm' : m = (m.natAbs : Int) := by omega
        have := Nat.div_le_self m.natAbs T
        rw [hm', Int.tdiv_eq_ediv_of_nonneg (by omega), ← Int.natCast_ediv, Int.natAbs_natCast]
        generalize m.natAbs / T = q at this ⊢
        exact w64 (by omega) (by omega)
      have h0 : ¬ ((T : Nat) : Int) = 0 := by omega
      simp only [h0, if_false, e1]
      have := Nat.div_le_self m.natAbs T
      refine Ev.bind (ev_Tell _ (by omega)) ?_
      have l1 := Dig_len 1 (m.natAbs / T)
      have l2 := Dig_len j r
      have d46 : (⟨#[46]⟩ : ByteArray) = strOfNums [46] := rfl
      refine Ev.isNow fun k => ?_
      rw [d46, son_append, son_append, son_append]
      rw [if_pos (by rw [strOfNums_size, strOfNums_size]; omega), if_pos (by rw [strOfNums_size, List.length_append]; omega), if_pos (by rw [strOfNums_size, strOfNums_size, List.length_append, List.length_append, List.length_singleton]; omega)]
      simp only [List.append_assoc, List.singleton_append]
  | succ q ih =>
    intro j hj hr h1
    have L1 : (Dig j r).length = j := PD_len_eq 20 j r hr (by omega)
    have z : Dig (j + 1) r = 48 :: Dig j r := PD_zero 20 j r hr (by omega)
    have z2 : (⟨#[48]⟩ : ByteArray) ++ strOfNums (Dig j r) = strOfNums (Dig (j + 1) r) := by rw [z]; exact son_append [48] _
    refine Ev.step (f := fun k => withyref01_Decimal.l0 k (p : Int) m (strOfNums s) (strOfNums (Dig (j + 1) r))) (fun k => ?_) (ih (j + 1) (by omega) (Nat.lt_of_lt_of_le hr (Nat.pow_le_pow_right (by omega) (by omega))) (by omega))
    show (if ((strOfNums (Dig j r)).size : Int) < (p : Int) then _ else _) = _
    rw [if_pos (by rw [strOfNums_size, L1]; omega), if_pos (by rw [strOfNums_size, L1]; omega), z2]
theorem ref_dec (p : Nat) (hp : p ≤ 9) (m : Int) (s : List Int) (hs : s.length ≤ 1) (hm0 : 0 ≤ m) (hm : m ≤ 9223372036854775807) :
    Ev (fun k => withyref01_Decimal.j0 k (p : Int) m (strOfNums s)) (strOfNums (s ++ (Dig 1 (m.natAbs / 10 ^ p) ++ (if p > 0 then 46 :: Dig p (m.natAbs % 10 ^ p) else []))), 0) := by
  have hm' : m = (m.natAbs : Int) := by omega
  by_cases z : p > 0
  · rw [if_pos z]
    have hT0 : 0 < 10 ^ p := Nat.pow_pos (by omega)
    have hT1 := ten_le hp
    have r1 := Nat.mod_lt m.natAbs hT0
    refine Ev.step (f := fun k => (withyref01_ten.f k (p : Int)).bind fun t428 => (if t428 = 0 then (none) else ((withyref01_Tell.f k (Int.tmod m t428)).bind fun t429 => (withyref01_Decimal.l0 k (p : Int) m (strOfNums s) t429)))) (fun k => ?_) ?_
    · show (if (p : Int) = 0 then _ else _) = _
      rw [if_neg (by omega)]
    · refine Ev.bind (ten_cases (p := (p : Int)) (by omega) (by omega)).2 ?_
      rw [show ((p : Int)).toNat = p by omega]
      have h0 : ¬ ((10 ^ p : Nat) : Int) = 0 := by omega
      have e2 : Int.tmod m ((10 ^ p : Nat) : Int) = ((m.natAbs % 10 ^ p : Nat) : Int) := by rw [hm']; rfl
      rw [e2]
      simp only [h0, if_false]
      refine Ev.bind (ev_Tell _ (by omega)) ?_
      have L := PD_len_le 20 1 (m.natAbs % 10 ^ p) p r1 (by omega)
      have L0 : 1 ≤ (Dig 1 (m.natAbs % 10 ^ p)).length := by
        have : Dig 1 (m.natAbs % 10 ^ p) ≠ [] := by
          show (if _ then _ else _ : List Int) ≠ []
          rw [if_pos (by omega)]
          simp
        exact List.length_pos_iff.mpr this
      have e3 : Dig 1 (m.natAbs % 10 ^ p) = Dig (Dig 1 (m.natAbs % 10 ^ p)).length (m.natAbs % 10 ^ p) := PD_self 20 1 _
      have e4 := PD_lt 20 1 (m.natAbs % 10 ^ p) (by omega)
      have key := pad_loop p hp m s hs hm0 hm (m.natAbs % 10 ^ p) (p - (Dig 1 (m.natAbs % 10 ^ p)).length) (Dig 1 (m.natAbs % 10 ^ p)).length (by
        have : (Dig 1 (m.natAbs % 10 ^ p)).length ≤ p := L
        omega) e4 L0
      rw [← e3] at key
      exact key
  · have h0 : p = 0 := by omega
    subst h0
    rw [if_neg z]
    refine Ev.step (f := fun k => (withyref01_Tell.f k m).bind fun t => if (strOfNums s).size + t.size ≤ 9223372036854775807 then some (strOfNums s ++ t, 0) else none) (fun k => rfl) ?_
    rw [hm']
    refine Ev.bind (ev_Tell m.natAbs (by omega)) ?_
    have l1 := Dig_len 1 m.natAbs
    refine Ev.isNow fun k => ?_
    rw [if_pos (by rw [strOfNums_size, strOfNums_size]; omega), son_append]
    simp
theorem ev_rDecimal (n d p : Int) : Ev (fun k => withyref01_Decimal.f k n d p) (DecR n d p) := by
  unfold withyref01_Decimal.f DecR
  refine Ev.bind (ev_rcheck n d) ?_
  by_cases x : Chk n d = 0
  · simp only [x, if_true, in_f, Option.bind_some, decide_eq_true_eq]
    by_cases y : 0 ≤ p ∧ p ≤ 9
    · have h := Chk_ok.mp x
      simp only [y, and_self, if_true]
      refine Ev.bind (ten_cases y.1 y.2).2 ?_
      have sc := scaled h y.1 y.2
      rw [w64 (by omega) (by omega), (near_all h.d1 h.d2 (by omega) (by omega)).2]
      simp only [Option.bind_some]
      have nb := Near1_bound (d := d) h.d1 1000000000000000000 (by omega) sc.1 sc.2
      generalize Near1 (n * (10 ^ p.toNat : Nat)) d = N at nb ⊢
      unfold DecL
      by_cases c : N < 0
      · simp only [c, if_true]
        rw [w64 (by omega) (by omega)]
        have := ref_dec p.toNat (by omega) (-N) [45] (by simp) (by omega) (by omega)
        rw [show ((p.toNat : Nat) : Int) = p by omega, Int.natAbs_neg] at this
        exact this
      · simp only [c, if_false]
        have := ref_dec p.toNat (by omega) N [] (by simp) (by omega) (by omega)
        rw [show ((p.toNat : Nat) : Int) = p by omega] at this
        exact this
    · simp only [y, if_false]
      exact Ev.now _
  · simp only [x, if_false]
    exact Ev.now _
/-! ### the text U9 -/
/-! ### The examples of the chapter -/
set_option maxRecDepth 100000 in
theorem summed_at : withylaw01_summed.f 60 = some true := by kernel_rfl
theorem ev_summed : Ev (fun k => withylaw01_summed.f k) true := Ev.of (fun k => withylaw01_summed.mono k) summed_at
/-! ### the text VNumRounds -/
/-! ### NumRounds: both come to the same -/
theorem withylaw01_NumRounds.ev (a0_0 a0_1 a1 : Int) : Ev (fun k => withylaw01_NumRounds.f k a0_0 a0_1 a1) true := by
  unfold withylaw01_NumRounds.f
  refine Ev.bind (ev_Floor a0_0 a0_1) (Ev.bind (ev_rFloor a0_0 a0_1) ?_)
  simp only [if_true, bne_self_eq_false]
  refine Ev.step (f := fun k => (num_Ceil.f k a0_0 a0_1).bind fun b => (withyref01_Ceil.f k a0_0 a0_1).bind fun c => if b.2 = c.2 then withylaw01_NumRounds.j1 k a1 (b.1 != c.1) a0_0 a0_1 else withylaw01_NumRounds.j1 k a1 true a0_0 a0_1) (fun k => rfl) ?_
  refine Ev.bind (ev_Ceil a0_0 a0_1) (Ev.bind (ev_rCeil a0_0 a0_1) ?_)
  simp only [if_true, bne_self_eq_false]
  refine Ev.step (f := fun k => (num_Round.f k a0_0 a0_1).bind fun b => (withyref01_Round.f k a0_0 a0_1).bind fun c => (num_Decimal.f k a0_0 a0_1 a1).bind fun d => (withyref01_Decimal.f k a0_0 a0_1 a1).bind fun e => if b.2 = c.2 then (if b.1 = c.1 then (if d.2 = e.2 then (if d.1.toList = e.1.toList then ((withylaw01_summed.f k).bind fun t => some t) else some false) else some false) else some false) else some false) (fun k => rfl) ?_
  refine Ev.bind (ev_Round a0_0 a0_1) (Ev.bind (ev_rRound a0_0 a0_1) (Ev.bind (ev_Decimal a0_0 a0_1 a1) (Ev.bind (ev_rDecimal a0_0 a0_1 a1) ?_)))
  simp only [if_true]
  exact Ev.bind ev_summed (Ev.now _)
theorem withylaw01_NumRounds.pure (a0_0 a0_1 a1 : Int) (_ : -9223372036854775808 ≤ a0_0 ∧ a0_0 ≤ 9223372036854775807) (_ : -9223372036854775808 ≤ a0_1 ∧ a0_1 ≤ 9223372036854775807) (_ : -9223372036854775808 ≤ a1 ∧ a1 ≤ 9223372036854775807) : ∃ k, withylaw01_NumRounds.f k a0_0 a0_1 a1 = some true :=
  (withylaw01_NumRounds.ev a0_0 a0_1 a1).rounds
end Go.Proofs.Ytakcdoahpbeckaa.H
