/- NumBasics: the plain law, without the program: what the printed functions come to. -/
import Derived.Test.YtakcdoahpbeckaaKNumBasics4
namespace Go.Proofs.Ytakcdoahpbeckaa.H
open Go.RowKit Go.Proofs.YtakcdoahpbeckaaW.PrintWords Go.Proofs.YtakcdoahpbeckaaW.PrintLast Go.Proofs.YtakcdoahpbeckaaW.PrintMore
attribute [local go_sem] max2_int min2_int max_two min_two max_three min_three max_four min_four   -- for this text's walks alone
set_option linter.unusedVariables false
set_option linter.unusedSimpArgs false

/-! ### the text U0 -/
/-! ### What the functions of num come to: divisors, checks, numbers in lowest terms -/
theorem w64 {n : Int} (h : -9223372036854775808 ≤ n) (h' : n ≤ 9223372036854775807) : wrap64 n = n := by unfold wrap64; omega
theorem Ev.isNow {α : Type} {g : Nat → Option α} {r : α} (h : ∀ k, g k = some r) : Ev g r := ⟨0, fun k _ => h k⟩
/-- both come to the same -/
theorem Ev.uniq {α : Type} {g : Nat → Option α} {r r' : α} (h : Ev g r) (h' : Ev g r') : r = r' := by
  obtain ⟨K, hK⟩ := h
  obtain ⟨K', hK'⟩ := h'
  have a := hK (max K K') (by omega)
  have b := hK' (max K K') (by omega)
  exact Option.some.inj (a.symm.trans b)
theorem mx_nat (g : Nat) (h : 0 < g) : mx (g : Int) 1 = g := by unfold mx; split <;> omega
theorem mx_abs {n : Int} (h : -9223372036854775807 ≤ n) (h' : n ≤ 9223372036854775807) : mx n (wrap64 (-n)) = (n.natAbs : Int) := by
  rw [w64 (by omega) (by omega)]
  unfold mx
  split <;> omega
theorem divisor_loop : ∀ (n m : Nat), Ev (fun k => num_divisor.l0 k (m : Int) (n : Int)) (mx (Nat.gcd m n : Nat) 1) := by
  intro n
  induction n using Nat.strongRecOn with
  | ind n ih =>
    intro m
    by_cases h : n = 0
    · subst h
      refine Ev.step (f := fun _ => some (mx (m : Int) 1)) (fun k => ?_) (by rw [Nat.gcd_zero_right]; exact Ev.now _)
      show (if (0 : Int) > 0 then _ else _) = _
      rfl
    · refine Ev.step (f := fun k => num_divisor.l0 k (n : Int) ((m % n : Nat) : Int)) (fun k => ?_) ?_
      · show (if (n : Int) > 0 then (if (n : Int) = 0 then none else num_divisor.l0 k (n : Int) (Int.tmod m n)) else _) = _
        rw [if_pos (by omega), if_neg (by omega)]
        rfl
      · have := ih (m % n) (Nat.mod_lt _ (by omega)) n
        rwa [Nat.gcd_comm n, ← Nat.gcd_rec, Nat.gcd_comm n] at this
theorem ev_divisor {n d : Int} (hn : -9223372036854775807 ≤ n) (hn' : n ≤ 9223372036854775807) (hd : -9223372036854775807 ≤ d) (hd' : d ≤ 9223372036854775807) (h0 : d ≠ 0) :
    Ev (fun k => num_divisor.f k n d) (Int.gcd n d) := by
  have h := divisor_loop d.natAbs n.natAbs
  rw [mx_nat _ (Nat.gcd_pos_of_pos_right _ (by omega))] at h
  refine Ev.congr (fun k => ?_) h
  show num_divisor.l0 k _ _ = _
  rw [mx_abs hn hn', mx_abs hd hd']
theorem of2_loop : ∀ (n m : Nat), 0 < Nat.gcd m n → Ev (fun k => withyref01_Of2.l0 k (m : Int) (n : Int)) ((Nat.gcd m n : Nat) : Int) := by
  intro n
  induction n using Nat.strongRecOn with
  | ind n ih =>
    intro m hp
    by_cases h : n = 0
    · subst h
      rw [Nat.gcd_zero_right] at hp ⊢
      refine Ev.step (f := fun _ => some ((m : Int))) (fun k => ?_) (Ev.now _)
      show (if (0 : Int) > 0 then _ else if (m : Int) = 0 then _ else _) = _
      rw [if_neg (by omega), if_neg (by omega)]
    · have hr : Nat.gcd n (m % n) = Nat.gcd m n := by rw [Nat.gcd_comm n, ← Nat.gcd_rec, Nat.gcd_comm n]
      refine Ev.step (f := fun k => withyref01_Of2.l0 k (n : Int) ((m % n : Nat) : Int)) (fun k => ?_) ?_
      · show (if (n : Int) > 0 then (if (n : Int) = 0 then none else withyref01_Of2.l0 k (n : Int) (Int.tmod m n)) else _) = _
        rw [if_pos (by omega), if_neg (by omega)]
        rfl
      · have := ih (m % n) (Nat.mod_lt _ (by omega)) n (by rw [hr]; exact hp)
        rwa [hr] at this
theorem ev_of2 {n d : Int} (hn : -9223372036854775807 ≤ n) (hn' : n ≤ 9223372036854775807) (hd : -9223372036854775807 ≤ d) (hd' : d ≤ 9223372036854775807) (h0 : d ≠ 0) :
    Ev (fun k => withyref01_Of2.f k n d) (Int.gcd n d) := by
  have h := of2_loop d.natAbs n.natAbs (Nat.gcd_pos_of_pos_right _ (by omega))
  have h2 : Ev (fun k => withyref01_Of2.j0 k (n.natAbs : Int) d) (Int.gcd n d) := by
    by_cases c : d < 0
    · refine Ev.step (f := fun k => withyref01_Of2.j1 k (n.natAbs : Int) (wrap64 (-d))) (fun k => ?_) (Ev.step (f := fun k => withyref01_Of2.l0 k (n.natAbs : Int) (wrap64 (-d))) (fun k => rfl) ?_)
      · show (if d < 0 then _ else _) = _
        rw [if_pos c]
      · rw [w64 (by omega) (by omega), show -d = (d.natAbs : Int) by omega]
        exact h
    · refine Ev.step (f := fun k => withyref01_Of2.j1 k (n.natAbs : Int) d) (fun k => ?_) (Ev.step (f := fun k => withyref01_Of2.l0 k (n.natAbs : Int) d) (fun k => rfl) ?_)
      · show (if d < 0 then _ else _) = _
        rw [if_neg c]
      · have e : d = (d.natAbs : Int) := by omega
        have h' := h
        rw [← e] at h'
        exact h'
  refine Ev.congr (fun k => ?_) h2
  unfold withyref01_Of2.f
  by_cases c : n < 0
  · rw [if_pos c, w64 (by omega) (by omega), show -n = (n.natAbs : Int) by omega]
  · rw [if_neg c]
    congr 1
    omega
/-- the error of a number -/
def Chk (n d : Int) : Int := if (1 ≤ d ∧ d ≤ 1000000000) ∧ (-1000000000 ≤ n ∧ n ≤ 1000000000) then (if Int.gcd n d > 1 then 1 else 0) else 3
theorem in_f (a b c : Int) : withyref01_In.f a b c = some (decide (b ≤ a ∧ a ≤ c)) := by
  unfold withyref01_In.f
  by_cases h : b ≤ a <;> simp [h]
theorem within_1 (a b n : Int) : num_within.f a b [n] = some (decide (a ≤ n ∧ n ≤ b)) := by
  unfold num_within.f
  simp
theorem within_2 (a b n m : Int) : num_within.f a b [n, m] = some (decide ((a ≤ n ∧ n ≤ b) ∧ (a ≤ m ∧ m ≤ b))) := by
  unfold num_within.f
  simp
theorem ev_check (n d : Int) : Ev (fun k => num_Check.f k n d) (Chk n d) := by
  unfold num_Check.f Chk
  simp only [within_1, Option.bind_some]
  by_cases c : 1 ≤ d ∧ d ≤ 1000000000
  · by_cases c' : -1000000000 ≤ n ∧ n ≤ 1000000000
    · simp only [c, c', and_self, decide_true, if_true, Bool.not_true]
      refine Ev.step (f := fun k => (num_divisor.f k n d).bind fun t => if t > 1 then some 1 else some 0) (fun k => rfl) ?_
      · refine Ev.bind (ev_divisor (by omega) (by omega) (by omega) (by omega) (by omega)) ?_
        by_cases g : Int.gcd n d > 1
        · have g' : ((Int.gcd n d : Nat) : Int) > 1 := by omega
          simp only [g, g', if_true]
          exact Ev.now _
        · have g' : ¬ ((Int.gcd n d : Nat) : Int) > 1 := by omega
          simp only [g, g', if_false]
          exact Ev.now _
    · simp only [c, c', and_self, and_false, decide_true, decide_false, if_true, Bool.not_false, if_false]
      exact Ev.step (f := fun _ => some 3) (fun k => rfl) (Ev.now _)
  · simp only [c, false_and, decide_false, Bool.false_eq_true, if_false]
    exact Ev.step (f := fun _ => some 3) (fun k => rfl) (Ev.now _)
theorem ev_rcheck (n d : Int) : Ev (fun k => withyref01_Check.f k n d) (Chk n d) := by
  unfold withyref01_Check.f Chk
  simp only [in_f, Option.bind_some]
  by_cases c : 1 ≤ d ∧ d ≤ 1000000000
  · by_cases c' : -1000000000 ≤ n ∧ n ≤ 1000000000
    · simp only [c, c', and_self, decide_true, if_true, Bool.not_true]
      refine Ev.step (f := fun k => (withyref01_Of2.f k n d).bind fun t => if t > 1 then some 1 else some 0) (fun k => rfl) ?_
      · refine Ev.bind (ev_of2 (by omega) (by omega) (by omega) (by omega) (by omega)) ?_
        by_cases g : Int.gcd n d > 1
        · have g' : ((Int.gcd n d : Nat) : Int) > 1 := by omega
          simp only [g, g', if_true]
          exact Ev.now _
        · have g' : ¬ ((Int.gcd n d : Nat) : Int) > 1 := by omega
          simp only [g, g', if_false]
          exact Ev.now _
    · simp only [c, c', and_self, and_false, decide_true, decide_false, if_true, Bool.not_false, if_false]
      exact Ev.step (f := fun _ => some 3) (fun k => rfl) (Ev.now _)
  · simp only [c, false_and, decide_false, Bool.false_eq_true, if_false]
    exact Ev.step (f := fun _ => some 3) (fun k => rfl) (Ev.now _)
/-! ### the text U1 -/
/-! ### Numbers in lowest terms, within the bounds -/
def Rn (n d : Int) : Int := (if d < 0 then -n else n) / (Int.gcd n d : Int)
def Rd (n d : Int) : Int := (if d < 0 then -d else d) / (Int.gcd n d : Int)
def Fits (n d : Int) : Prop := Rd n d ≤ 1000000000 ∧ (-1000000000 ≤ Rn n d ∧ Rn n d ≤ 1000000000)
instance (n d : Int) : Decidable (Fits n d) := inferInstanceAs (Decidable (_ ∧ _))
def Low (n d : Int) : Int × Int × Int := if Fits n d then (Rn n d, Rd n d, 0) else (0, 0, 8)
def NumE (n d : Int) : Except Int (Int × Int) := if Fits n d then .ok (Rn n d, Rd n d) else .error 0
theorem gcd_pos {n d : Int} (h : d ≠ 0) : 0 < Int.gcd n d := Nat.gcd_pos_of_pos_right _ (by omega)
theorem le_div {a : Int} {g : Nat} (hg : 0 < g) {b : Int} (h : -b ≤ a) (h' : a ≤ b) : -b ≤ a / (g : Int) ∧ a / (g : Int) ≤ b := by
  have hb : 0 ≤ b := by omega
  refine ⟨?_, ?_⟩
  · have : -b ≤ (-b) / (g : Int) := by
      have := Int.le_ediv_of_mul_le (a := -b) (b := -b) (c := (g : Int)) (by omega) (by
        have : (1 : Int) ≤ g := by omega
        have := Int.mul_le_mul_of_nonneg_left this hb
        have e : -b * (g : Int) = -(b * g) := by rw [Int.neg_mul]
        omega)
      exact this
    exact Int.le_trans this (Int.ediv_le_ediv (by omega) h)
  · exact Int.le_trans (Int.ediv_le_ediv (by omega) h') (Int.ediv_le_self _ hb)
theorem core_num (n d : Int) (hn : -9223372036854775807 ≤ n) (hn' : n ≤ 9223372036854775807) (hd : -9223372036854775807 ≤ d) (hd' : d ≤ 9223372036854775807) (h0 : d ≠ 0) :
    wrap64 (Int.tdiv (if d < 0 then wrap64 (-n) else n) (Int.gcd n d)) = Rn n d ∧ wrap64 (Int.tdiv (if d < 0 then wrap64 (-d) else d) (Int.gcd n d)) = Rd n d := by
  have hg := gcd_pos (n := n) h0
  have d1 : ((Int.gcd n d : Nat) : Int) ∣ (if d < 0 then -n else n) := by
    split
    · exact Int.dvd_neg.mpr (Int.gcd_dvd_left ..)
    · exact Int.gcd_dvd_left ..
  have d2 : ((Int.gcd n d : Nat) : Int) ∣ (if d < 0 then -d else d) := by
    split
    · exact Int.dvd_neg.mpr (Int.gcd_dvd_right ..)
    · exact Int.gcd_dvd_right ..
  have e1 : (if d < 0 then wrap64 (-n) else n) = (if d < 0 then -n else n) := by rw [w64 (by omega) (by omega)]
  have e2 : (if d < 0 then wrap64 (-d) else d) = (if d < 0 then -d else d) := by rw [w64 (by omega) (by omega)]
  rw [e1, e2, Int.tdiv_eq_ediv_of_dvd d1, Int.tdiv_eq_ediv_of_dvd d2]
  have b1 := le_div hg (a := if d < 0 then -n else n) (b := 9223372036854775807) (by split <;> omega) (by split <;> omega)
  have b2 := le_div hg (a := if d < 0 then -d else d) (b := 9223372036854775807) (by split <;> omega) (by split <;> omega)
  exact ⟨w64 (by omega) b1.2, w64 (by omega) b2.2⟩
theorem gcd_sign (n d : Int) : Int.gcd (if d < 0 then wrap64 (-n) else n) (if d < 0 then wrap64 (-d) else d) = Int.gcd n d ∨ ¬ (-9223372036854775807 ≤ n ∧ n ≤ 9223372036854775807 ∧ -9223372036854775807 ≤ d ∧ d ≤ 9223372036854775807) := by
  by_cases h : (-9223372036854775807 ≤ n ∧ n ≤ 9223372036854775807 ∧ -9223372036854775807 ≤ d ∧ d ≤ 9223372036854775807)
  · left
    rw [w64 (by omega) (by omega), w64 (by omega) (by omega)]
    split
    · rw [Int.neg_gcd, Int.gcd_neg]
    · rfl
  · exact Or.inr h
theorem ev_num {n d : Int} (hn : -9223372036854775807 ≤ n) (hn' : n ≤ 9223372036854775807) (hd : -9223372036854775807 ≤ d) (hd' : d ≤ 9223372036854775807) (h0 : d ≠ 0) :
    Ev (fun k => num_ratio_num.f k n d) (NumE n d) := by
  have hg := gcd_pos (n := n) h0
  obtain ⟨c1, c2⟩ := core_num n d hn hn' hd hd' h0
  have hs := (gcd_sign n d).resolve_right (by omega)
  refine Ev.congr (f := fun k => num_ratio_num.j0 k (if d < 0 then wrap64 (-n) else n) (if d < 0 then wrap64 (-d) else d)) (fun k => ?_) ?_
  · unfold num_ratio_num.f
    split <;> rfl
  · generalize hN : (if d < 0 then wrap64 (-n) else n) = N at *
    generalize hD : (if d < 0 then wrap64 (-d) else d) = D at *
    have hNr : -9223372036854775807 ≤ N ∧ N ≤ 9223372036854775807 := by rw [← hN, w64 (by omega) (by omega)]; split <;> omega
    have hDr : (-9223372036854775807 ≤ D ∧ D ≤ 9223372036854775807) ∧ D ≠ 0 := by rw [← hD, w64 (by omega) (by omega)]; split <;> omega
    refine Ev.step (f := fun k => (num_divisor.f k N D).bind fun t => if t = 0 then none else if wrap64 (Int.tdiv D t) > 1000000000 then some (.error (0 : Int)) else (num_within.f (-1000000000) 1000000000 [wrap64 (Int.tdiv N t)]).bind fun u => if u = true then some (.ok (ε := Int) (wrap64 (Int.tdiv N t), wrap64 (Int.tdiv D t))) else some (.error (0 : Int))) (fun k => rfl) ?_
    refine Ev.bind (ev_divisor hNr.1 hNr.2 hDr.1.1 hDr.1.2 hDr.2) ?_
    rw [hs]
    simp only [c1, c2, within_1, Option.bind_some]
    refine Ev.isNow fun k => ?_
    rw [if_neg (by omega)]
    unfold NumE
    by_cases a : Rd n d > 1000000000
    · rw [if_pos a, if_neg (fun h : Fits n d => by have := h.1; omega)]
    · rw [if_neg a]
      by_cases b : -1000000000 ≤ Rn n d ∧ Rn n d ≤ 1000000000
      · rw [if_pos (show Fits n d from ⟨by omega, b⟩)]
        simp only [b, and_self, decide_true, if_true]
      · rw [if_neg (fun h : Fits n d => b h.2)]
        simp only [b, decide_false, if_false, Bool.false_eq_true]
theorem ev_low {n d : Int} (hn : -9223372036854775807 ≤ n) (hn' : n ≤ 9223372036854775807) (hd : -9223372036854775807 ≤ d) (hd' : d ≤ 9223372036854775807) (h0 : d ≠ 0) :
    Ev (fun k => withyref01_low.f k n d) (Low n d) := by
  have hg := gcd_pos (n := n) h0
  obtain ⟨c1, c2⟩ := core_num n d hn hn' hd hd' h0
  have hs := (gcd_sign n d).resolve_right (by omega)
  refine Ev.congr (f := fun k => withyref01_low.j0 k (if d < 0 then wrap64 (-n) else n) (if d < 0 then wrap64 (-d) else d)) (fun k => ?_) ?_
  · unfold withyref01_low.f
    split <;> rfl
  · generalize hN : (if d < 0 then wrap64 (-n) else n) = N at *
    generalize hD : (if d < 0 then wrap64 (-d) else d) = D at *
    have hNr : -9223372036854775807 ≤ N ∧ N ≤ 9223372036854775807 := by rw [← hN, w64 (by omega) (by omega)]; split <;> omega
    have hDr : (-9223372036854775807 ≤ D ∧ D ≤ 9223372036854775807) ∧ D ≠ 0 := by rw [← hD, w64 (by omega) (by omega)]; split <;> omega
    refine Ev.step (f := fun k => (withyref01_Of2.f k N D).bind fun t => if t = 0 then none else if wrap64 (Int.tdiv D t) > 1000000000 then some (0, 0, 8) else (withyref01_In.f (wrap64 (Int.tdiv N t)) (-1000000000) 1000000000).bind fun u => if u = true then some (wrap64 (Int.tdiv N t), wrap64 (Int.tdiv D t), 0) else some (0, 0, 8)) (fun k => rfl) ?_
    refine Ev.bind (ev_of2 hNr.1 hNr.2 hDr.1.1 hDr.1.2 hDr.2) ?_
    rw [hs]
    simp only [c1, c2, in_f, Option.bind_some]
    refine Ev.isNow fun k => ?_
    rw [if_neg (by omega)]
    unfold Low
    by_cases a : Rd n d > 1000000000
    · rw [if_pos a, if_neg (fun h : Fits n d => by have := h.1; omega)]
    · rw [if_neg a]
      by_cases b : -1000000000 ≤ Rn n d ∧ Rn n d ≤ 1000000000
      · rw [if_pos (show Fits n d from ⟨by omega, b⟩)]
        simp only [b, and_self, decide_true, if_true]
      · rw [if_neg (fun h : Fits n d => b h.2)]
        simp only [b, decide_false, if_false, Bool.false_eq_true]
theorem exc_num (n d : Int) : exc (NumE n d) (fun _ => some (0, 0, 8)) (fun b => some (b.1, b.2, 0)) = some (Low n d) := by
  unfold NumE Low
  split <;> rfl
/-! ### the text U2 -/
/-! ### Sums and products, comparisons -/
def ChkL : List S23 → Int
  | [] => 0
  | a :: l => if Chk a.f0 a.f1 = 0 then ChkL l else Chk a.f0 a.f1
theorem checked_loop (l : List S23) (hl : l.length < 9223372036854775807) : ∀ (m i : Nat), i + m = l.length → Ev (fun k => num_checked.l0 k l (l.length : Int) (i : Int)) (ChkL (l.drop i)) := by
  intro m
  induction m with
  | zero =>
    intro i hi
    rw [List.drop_of_length_le (by omega)]
    refine Ev.step (f := fun _ => some 0) (fun k => ?_) (Ev.now _)
    show (if (i : Int) < (l.length : Int) then _ else _) = _
    rw [if_neg (by omega)]
  | succ m ih =>
    intro i hi
    have hlt : i < l.length := by omega
    have hx : rd_T23 l (i : Int) = l[i] := by
      unfold rd_T23
      rw [Int.toNat_natCast, List.getD_eq_getElem?_getD, List.getElem?_eq_getElem hlt]
      rfl
    rw [List.drop_eq_getElem_cons hlt]
    refine Ev.step (f := fun k => (num_Check.f k (l[i]).f0 (l[i]).f1).bind fun t => if t = 0 then num_checked.l0 k l (l.length : Int) ((i + 1 : Nat) : Int) else some t) (fun k => ?_) ?_
    · show (if (i : Int) < (l.length : Int) then (if 0 ≤ (i : Int) then (if (i : Int) < (l.length : Int) then _ else _) else _) else _) = _
      rw [if_pos (by omega), if_pos (by omega), if_pos (by omega), hx, w64 (by omega) (by omega)]
      rfl
    · refine Ev.bind (ev_check _ _) ?_
      show Ev _ (if Chk l[i].f0 l[i].f1 = 0 then ChkL (l.drop (i + 1)) else Chk l[i].f0 l[i].f1)
      by_cases c : Chk l[i].f0 l[i].f1 = 0
      · simp only [c, if_true]
        exact ih (i + 1) (by omega)
      · simp only [c, if_false]
        exact Ev.now _
theorem ev_checked (l : List S23) (hl : l.length < 9223372036854775807) : Ev (fun k => num_checked.f k l) (ChkL l) := by
  have := checked_loop l hl l.length 0 (by omega)
  rwa [List.drop_zero] at this
def Chk2 (a b c d : Int) : Int := if Chk a b = 0 then Chk c d else Chk a b
theorem ev_checked2 (a b c d : Int) : Ev (fun k => num_checked.f k [(⟨a, b⟩ : S23), ⟨c, d⟩]) (Chk2 a b c d) := by
  have h := ev_checked [(⟨a, b⟩ : S23), ⟨c, d⟩] (by simp)
  have e : ChkL [(⟨a, b⟩ : S23), ⟨c, d⟩] = Chk2 a b c d := by
    show (if Chk a b = 0 then (if Chk c d = 0 then (0 : Int) else Chk c d) else Chk a b) = _
    unfold Chk2
    by_cases x : Chk a b = 0
    · rw [if_pos x, if_pos x]
      by_cases y : Chk c d = 0
      · rw [if_pos y, y]
      · rw [if_neg y]
    · rw [if_neg x, if_neg x]
  rwa [e] at h
theorem ev_both (a b c d : Int) : Ev (fun k => withyref01_both.f k a b c d) (Chk2 a b c d) := by
  unfold withyref01_both.f Chk2
  refine Ev.bind (ev_rcheck _ _) ?_
  by_cases x : Chk a b = 0
  · simp only [x, if_true]
    exact Ev.bind (ev_rcheck _ _) (Ev.now _)
  · simp only [x, if_false]
    exact Ev.now _
/-- a number's fields are in the bounds, and in lowest terms -/
structure Ok (n d : Int) : Prop where
  d1 : 1 ≤ d
  d2 : d ≤ 1000000000
  n1 : -1000000000 ≤ n
  n2 : n ≤ 1000000000
  g : Int.gcd n d = 1
theorem Chk_ok {n d : Int} : Chk n d = 0 ↔ Ok n d := by
  unfold Chk
  constructor
  · intro h
    split at h
    · rename_i c
      split at h
      · exact absurd h (by decide)
      · have := gcd_pos (n := n) (d := d) (by omega)
        exact ⟨c.1.1, c.1.2, c.2.1, c.2.2, by omega⟩
    · exact absurd h (by decide)
  · intro h
    have := h.d1; have := h.d2; have := h.n1; have := h.n2; have := h.g
    rw [if_pos (by omega), if_neg (by omega)]
theorem Chk2_ok {a b c d : Int} : Chk2 a b c d = 0 ↔ Ok a b ∧ Ok c d := by
  unfold Chk2
  rw [← Chk_ok, ← Chk_ok]
  by_cases x : Chk a b = 0
  · simp [x]
  · simp [x]
theorem Ok.mul {a b c d : Int} (h : Ok a b) (k : Ok c d) : (-1000000000000000000 ≤ a * d ∧ a * d ≤ 1000000000000000000) ∧ (-1000000000000000000 ≤ c * b ∧ c * b ≤ 1000000000000000000) ∧ (1 ≤ b * d ∧ b * d ≤ 1000000000000000000) ∧ (-1000000000000000000 ≤ a * c ∧ a * c ≤ 1000000000000000000) ∧ (-1000000000000000000 ≤ b * c ∧ b * c ≤ 1000000000000000000) := by
  have bd : ∀ x y : Int, -1000000000 ≤ x → x ≤ 1000000000 → -1000000000 ≤ y → y ≤ 1000000000 → -1000000000000000000 ≤ x * y ∧ x * y ≤ 1000000000000000000 := by
    intro x y h1 h2 h3 h4
    have a1 : x.natAbs ≤ 1000000000 := by omega
    have a2 : y.natAbs ≤ 1000000000 := by omega
    have a3 := Nat.mul_le_mul a1 a2
    rw [← Int.natAbs_mul] at a3
    omega
  have := h.d1; have := h.d2; have := h.n1; have := h.n2; have := k.d1; have := k.d2; have := k.n1; have := k.n2
  refine ⟨bd _ _ (by omega) (by omega) (by omega) (by omega), bd _ _ (by omega) (by omega) (by omega) (by omega), ⟨?_, (bd b d (by omega) (by omega) (by omega) (by omega)).2⟩, bd _ _ (by omega) (by omega) (by omega) (by omega), bd _ _ (by omega) (by omega) (by omega) (by omega)⟩
  have := Int.mul_le_mul h.d1 k.d1 (by omega) (by omega)
  omega
def AddR (a b c d : Int) : Int × Int × Int := if Chk2 a b c d = 0 then Low (a * d + c * b) (b * d) else (0, 0, Chk2 a b c d)
def SubR (a b c d : Int) : Int × Int × Int := if Chk2 a b c d = 0 then Low (a * d - c * b) (b * d) else (0, 0, Chk2 a b c d)
def MulR (a b c d : Int) : Int × Int × Int := if Chk2 a b c d = 0 then Low (a * c) (b * d) else (0, 0, Chk2 a b c d)
def DivR (a b c d : Int) : Int × Int × Int := if Chk2 a b c d = 0 then (if c = 0 then (0, 0, 10) else Low (a * d) (b * c)) else (0, 0, Chk2 a b c d)
theorem reck {opf : Int → Int → Int → Int → Option (Int × Int)} {dv : Bool} {a b c d : Int} {R : Int × Int × Int} {N D : Int}
    (hop : Ok a b → Ok c d → ¬ (dv = true ∧ c = 0) → opf a b c d = some (N, D) ∧ (-9223372036854775807 ≤ N ∧ N ≤ 9223372036854775807) ∧ (-9223372036854775807 ≤ D ∧ D ≤ 9223372036854775807) ∧ D ≠ 0)
    (hR : R = if Chk2 a b c d = 0 then (if dv = true ∧ c = 0 then (0, 0, 10) else Low N D) else (0, 0, Chk2 a b c d)) : Ev (fun k => num_reckon.g opf dv k a b c d) R := by
  subst hR
  unfold num_reckon.g
  refine Ev.bind (ev_checked2 a b c d) ?_
  by_cases x : Chk2 a b c d = 0
  · simp only [x, if_true]
    by_cases y : dv = true ∧ c = 0
    · simp only [y, and_self, if_true]
      exact Ev.now _
    · simp only [y, if_false]
      obtain ⟨h1, h2⟩ := Chk2_ok.mp x
      obtain ⟨e, n1, d1, d0⟩ := hop h1 h2 y
      simp only [e, Option.bind_some]
      refine Ev.bind (ev_num n1.1 n1.2 d1.1 d1.2 d0) ?_
      rw [exc_num]
      exact Ev.now _
  · simp only [x, if_false]
    exact Ev.now _
theorem ev_three {g : Nat → Option (Int × Int × Int)} {R : Int × Int × Int} (h : Ev g R) : Ev (fun k => (g k).bind fun b => some (b.1, b.2.1, b.2.2)) R :=
  Ev.bind h (Ev.now _)
theorem ev_Add (a b c d : Int) : Ev (fun k => num_Add.f k a b c d) (AddR a b c d) := by
  refine ev_three (Ev.congr (f := fun k => num_reckon.g num_ratio_plus.f false k a b c d) (fun k => rfl) (reck (N := a * d + c * b) (D := b * d) (fun h k _ => ?_) ?_))
  · have := h.mul k
    refine ⟨?_, by omega, by omega, by omega⟩
    unfold num_ratio_plus.f
    rw [w64 (n := a * d) (by omega) (by omega), w64 (n := c * b) (by omega) (by omega), w64 (by omega) (by omega), w64 (by omega) (by omega)]
  · simp [AddR]
theorem ev_Sub (a b c d : Int) : Ev (fun k => num_Sub.f k a b c d) (SubR a b c d) := by
  refine ev_three (Ev.congr (f := fun k => num_reckon.g num_ratio_minus.f false k a b c d) (fun k => rfl) (reck (N := a * d - c * b) (D := b * d) (fun h k _ => ?_) ?_))
  · have := h.mul k
    refine ⟨?_, by omega, by omega, by omega⟩
    unfold num_ratio_minus.f
    rw [w64 (n := a * d) (by omega) (by omega), w64 (n := c * b) (by omega) (by omega), w64 (by omega) (by omega), w64 (by omega) (by omega)]
  · simp [SubR]
theorem ev_Mul (a b c d : Int) : Ev (fun k => num_Mul.f k a b c d) (MulR a b c d) := by
  refine ev_three (Ev.congr (f := fun k => num_reckon.g num_ratio_times.f false k a b c d) (fun k => rfl) (reck (N := a * c) (D := b * d) (fun h k _ => ?_) ?_))
  · have := h.mul k
    refine ⟨?_, by omega, by omega, by omega⟩
    unfold num_ratio_times.f
    rw [w64 (n := a * c) (by omega) (by omega), w64 (by omega) (by omega)]
  · simp [MulR]
theorem ev_Div (a b c d : Int) : Ev (fun k => num_Div.f k a b c d) (DivR a b c d) := by
  refine ev_three (Ev.congr (f := fun k => num_reckon.g num_ratio_by.f true k a b c d) (fun k => rfl) (reck (N := a * d) (D := b * c) (fun h k y => ?_) ?_))
  · have := h.mul k
    refine ⟨?_, by omega, by omega, fun e => ?_⟩
    · unfold num_ratio_by.f
      rw [w64 (n := a * d) (by omega) (by omega), w64 (by omega) (by omega)]
    · rcases Int.mul_eq_zero.mp e with e | e
      · have := h.d1
        omega
      · exact y ⟨rfl, e⟩
  · simp [DivR]
theorem ref_op {a b c d N D : Int} {g : Nat → Option (Int × Int × Int)} (hg : ∀ k, g k = (withyref01_both.f k a b c d).bind fun t => if t = 0 then ((withyref01_low.f k N D).bind fun b => some (b.1, b.2.1, b.2.2)) else some (0, 0, t)) {N' D' : Int}
    (hop : Ok a b → Ok c d → (N = N' ∧ D = D') ∧ (-9223372036854775807 ≤ N ∧ N ≤ 9223372036854775807) ∧ (-9223372036854775807 ≤ D ∧ D ≤ 9223372036854775807) ∧ D ≠ 0) : Ev g (if Chk2 a b c d = 0 then Low N' D' else (0, 0, Chk2 a b c d)) := by
  refine Ev.congr hg ?_
  refine Ev.bind (ev_both a b c d) ?_
  by_cases x : Chk2 a b c d = 0
  · simp only [x, if_true]
    obtain ⟨h1, h2⟩ := Chk2_ok.mp x
    obtain ⟨⟨rfl, rfl⟩, n1, d1, d0⟩ := hop h1 h2
    exact ev_three (ev_low n1.1 n1.2 d1.1 d1.2 d0)
  · simp only [x, if_false]
    exact Ev.now _
theorem ev_rAdd (a b c d : Int) : Ev (fun k => withyref01_Add.f k a b c d) (AddR a b c d) := by
  refine ref_op (fun k => rfl) (fun h k => ?_)
  have := h.mul k
  rw [w64 (n := a * d) (by omega) (by omega), w64 (n := c * b) (by omega) (by omega), w64 (by omega) (by omega), w64 (by omega) (by omega)]
  exact ⟨⟨rfl, rfl⟩, by omega, by omega, by omega⟩
theorem ev_rSub (a b c d : Int) : Ev (fun k => withyref01_Sub.f k a b c d) (SubR a b c d) := by
  refine ref_op (fun k => rfl) (fun h k => ?_)
  have := h.mul k
  rw [w64 (n := a * d) (by omega) (by omega), w64 (n := c * b) (by omega) (by omega), w64 (by omega) (by omega), w64 (by omega) (by omega)]
  exact ⟨⟨rfl, rfl⟩, by omega, by omega, by omega⟩
theorem ev_rMul (a b c d : Int) : Ev (fun k => withyref01_Mul.f k a b c d) (MulR a b c d) := by
  refine ref_op (fun k => rfl) (fun h k => ?_)
  have := h.mul k
  rw [w64 (n := a * c) (by omega) (by omega), w64 (by omega) (by omega)]
  exact ⟨⟨rfl, rfl⟩, by omega, by omega, by omega⟩
theorem ev_rDiv (a b c d : Int) : Ev (fun k => withyref01_Div.f k a b c d) (DivR a b c d) := by
  unfold withyref01_Div.f DivR
  refine Ev.bind (ev_both a b c d) ?_
  by_cases x : Chk2 a b c d = 0
  · simp only [x, if_true]
    obtain ⟨h1, h2⟩ := Chk2_ok.mp x
    by_cases y : c = 0
    · simp only [y, if_true]
      exact Ev.now _
    · simp only [y, if_false]
      have := h1.mul h2
      rw [w64 (n := a * d) (by omega) (by omega), w64 (by omega) (by omega)]
      refine ev_three (ev_low (by omega) (by omega) (by omega) (by omega) fun e => ?_)
      rcases Int.mul_eq_zero.mp e with e | e
      · have := h1.d1
        omega
      · exact y e
  · simp only [x, if_false]
    exact Ev.now _
/-! ### the text U3 -/
/-! ### Comparisons, whole numbers beside one -/
def CmpV (a b c d : Int) : Int := if a * d < c * b then -1 else if a * d > c * b then 1 else 0
def CmpR (a b c d : Int) : Int × Int := if Chk2 a b c d = 0 then (CmpV a b c d, 0) else (0, Chk2 a b c d)
theorem compare_f (x y : Int) : cmp_Compare_int.f x y = some (if x < y then -1 else if x > y then 1 else 0) := by
  unfold cmp_Compare_int.f cmp_isNaN_int.f
  simp only [bne_self_eq_false, Option.bind_some, Bool.false_eq_true, if_false]
  by_cases h : x < y
  · rw [if_pos h, if_pos h]
  · rw [if_neg h, if_neg h]
    by_cases k : x > y
    · rw [if_pos k, if_pos k]
    · rw [if_neg k, if_neg k]
theorem ratio_compare {a b c d : Int} (h : Ok a b) (k : Ok c d) : num_ratio_compare.f a b c d = some (CmpV a b c d) := by
  have := h.mul k
  unfold num_ratio_compare.f
  rw [w64 (n := a * d) (by omega) (by omega), w64 (n := c * b) (by omega) (by omega), compare_f]
  rfl
theorem ev_Cmp (a b c d : Int) : Ev (fun k => num_Cmp.f k a b c d) (CmpR a b c d) := by
  unfold num_Cmp.f CmpR
  refine Ev.bind (ev_checked2 a b c d) ?_
  by_cases x : Chk2 a b c d = 0
  · simp only [x, if_true]
    obtain ⟨h1, h2⟩ := Chk2_ok.mp x
    unfold num_of.f
    simp only [Option.bind_some, ratio_compare h1 h2]
    exact Ev.now _
  · simp only [x, if_false]
    exact Ev.now _
theorem ev_rCmp (a b c d : Int) : Ev (fun k => withyref01_Cmp.f k a b c d) (CmpR a b c d) := by
  unfold withyref01_Cmp.f CmpR
  refine Ev.bind (ev_both a b c d) ?_
  by_cases x : Chk2 a b c d = 0
  · simp only [x, if_true]
    obtain ⟨h1, h2⟩ := Chk2_ok.mp x
    have := h1.mul h2
    unfold withyref01_Less.f CmpV
    rw [w64 (n := a * d) (by omega) (by omega), w64 (n := c * b) (by omega) (by omega)]
    simp only [Option.bind_some, decide_eq_true_eq]
    refine Ev.isNow fun k => ?_
    by_cases p : a * d < c * b
    · simp only [p, if_true]
    · simp only [p, if_false]
      by_cases q : a * d > c * b
      · have q' : c * b < a * d := q
        simp only [q, q', if_true]
      · have q' : ¬ c * b < a * d := q
        simp only [q, q', if_false]
  · simp only [x, if_false]
    exact Ev.now _
def NegR (n d : Int) : Int × Int × Int := if Chk n d = 0 then (-n, d, 0) else (0, 0, Chk n d)
theorem ev_Neg (n d : Int) : Ev (fun k => num_Neg.f k n d) (NegR n d) := by
  unfold num_Neg.f NegR
  refine Ev.bind (ev_check n d) ?_
  by_cases x : Chk n d = 0
  · simp only [x, if_true]
    have := (Chk_ok.mp x).n1; have := (Chk_ok.mp x).n2
    rw [w64 (by omega) (by omega)]
    exact Ev.now _
  · simp only [x, if_false]
    exact Ev.now _
theorem ev_rNeg (n d : Int) : Ev (fun k => withyref01_Neg.f k n d) (NegR n d) := by
  unfold withyref01_Neg.f NegR
  refine Ev.bind (ev_rcheck n d) ?_
  by_cases x : Chk n d = 0
  · simp only [x, if_true]
    have := (Chk_ok.mp x).n1; have := (Chk_ok.mp x).n2
    rw [w64 (by omega) (by omega)]
    exact Ev.now _
  · simp only [x, if_false]
    exact Ev.now _
def WholeR (n d : Int) : Bool × Int := if Chk n d = 0 then (d == 1, 0) else (false, Chk n d)
theorem ev_Whole (n d : Int) : Ev (fun k => num_Whole.f k n d) (WholeR n d) := by
  unfold num_Whole.f WholeR
  refine Ev.bind (ev_check n d) ?_
  by_cases x : Chk n d = 0
  · simp only [x, if_true]
    exact Ev.now _
  · simp only [x, if_false]
    exact Ev.now _
theorem ev_rWhole (n d : Int) : Ev (fun k => withyref01_Whole.f k n d) (WholeR n d) := by
  unfold withyref01_Whole.f WholeR
  refine Ev.bind (ev_rcheck n d) ?_
  by_cases x : Chk n d = 0
  · simp only [x, if_true]
    exact Ev.now _
  · simp only [x, if_false]
    exact Ev.now _
def MakeR (n d : Int) : Int × Int × Int := if (-1000000000000000000 ≤ n ∧ n ≤ 1000000000000000000) ∧ (-1000000000000000000 ≤ d ∧ d ≤ 1000000000000000000) then (if d = 0 then (0, 0, 10) else Low n d) else (0, 0, 3)
theorem ev_Make (n d : Int) : Ev (fun k => num_Make.f k n d) (MakeR n d) := by
  unfold num_Make.f MakeR
  simp only [within_2, Option.bind_some, decide_eq_true_eq]
  by_cases x : (-1000000000000000000 ≤ n ∧ n ≤ 1000000000000000000) ∧ (-1000000000000000000 ≤ d ∧ d ≤ 1000000000000000000)
  · rw [if_pos x]
    simp only [x, and_self, if_true]
    by_cases y : d = 0
    · simp only [y, if_true]
      exact Ev.now _
    · simp only [y, if_false]
      refine Ev.bind (ev_num (by omega) (by omega) (by omega) (by omega) y) ?_
      rw [exc_num]
      exact Ev.now _
  · rw [if_neg x]
    simp only [x, if_false]
    exact Ev.now _
theorem ev_rMake (n d : Int) : Ev (fun k => withyref01_Make.f k n d) (MakeR n d) := by
  unfold withyref01_Make.f MakeR
  simp only [in_f, Option.bind_some, decide_eq_true_eq]
  by_cases x1 : -1000000000000000000 ≤ n ∧ n ≤ 1000000000000000000
  · by_cases x2 : -1000000000000000000 ≤ d ∧ d ≤ 1000000000000000000
    · simp only [x1, x2, and_self, if_true, decide_true, Bool.not_true]
      refine Ev.step (f := fun k => if d = 0 then some (0, 0, 10) else (withyref01_low.f k n d).bind fun b => some (b.1, b.2.1, b.2.2)) (fun k => rfl) ?_
      by_cases y : d = 0
      · simp only [y, if_true]
        exact Ev.now _
      · simp only [y, if_false]
        exact ev_three (ev_low (by omega) (by omega) (by omega) (by omega) y)
    · simp only [x1, x2, and_self, and_false, if_true, if_false, decide_false, Bool.not_false]
      exact Ev.step (f := fun _ => some (0, 0, 3)) (fun k => rfl) (Ev.now _)
  · simp only [x1, false_and, if_false]
    exact Ev.step (f := fun _ => some (0, 0, 3)) (fun k => rfl) (Ev.now _)
/-! floors -/
theorem floor_div {n d : Int} (h0 : 1 ≤ d) (h1 : d ≤ 9223372036854775807) (hn : -9223372036854775807 ≤ n) (hn' : n ≤ 9223372036854775807) : num_ratio_floor.f n d = some (n / d) := by
  have b := le_div (a := n) (g := d.toNat) (by omega) hn hn'
  rw [Int.toNat_of_nonneg (by omega)] at b
  have e1 : n.tdiv d = n / d + (if 0 ≤ n ∨ d ∣ n then 0 else 1) := by
    rw [Int.tdiv_eq_ediv]
    have : d.sign = 1 := Int.sign_eq_one_of_pos (by omega)
    rw [this]
  have e2 : n.tmod d = n % d - (if 0 ≤ n ∨ d ∣ n then 0 else d) := by
    rw [Int.tmod_eq_emod]
    by_cases c : 0 ≤ n ∨ d ∣ n
    · rw [if_pos c, if_pos c]
      rfl
    · rw [if_neg c, if_neg c]
      omega
  have p1 := Int.emod_nonneg n (b := d) (by omega)
  have p2 := Int.emod_lt_of_pos n (b := d) (by omega)
  unfold num_ratio_floor.f
  rw [if_neg (by omega), e1, e2]
  by_cases c : 0 ≤ n ∨ d ∣ n
  · rw [if_pos c, if_pos c, if_neg (by omega), Int.add_zero, w64 (by omega) (by omega)]
  · rw [if_neg c, if_neg c, if_pos (by omega)]
    have hneg : n / d < 0 := Int.ediv_neg_of_neg_of_pos (by omega) (by omega)
    rw [w64 (n := n / d + 1) (by omega) (by omega), w64 (by omega) (by omega)]
    congr 1
    omega
theorem under_div {n d : Int} (h0 : 1 ≤ d) (h1 : d ≤ 1000000000) (hn : -4000000000000000000 ≤ n) (hn' : n ≤ 4000000000000000000) : withyref01_under.f n d = some (n / d) := by
  have b := le_div (a := n) (g := d.toNat) (by omega) hn hn'
  rw [Int.toNat_of_nonneg (by omega)] at b
  have p1 := Int.emod_nonneg n (b := d) (by omega)
  have p2 := Int.emod_lt_of_pos n (b := d) (by omega)
  have p3 := Int.emod_add_mul_ediv n d
  unfold withyref01_under.f
  by_cases c : n < 0
  · rw [if_pos c, if_neg (by omega), w64 (n := -n) (by omega) (by omega), w64 (n := -n + d) (by omega) (by omega), w64 (n := -n + d - 1) (by omega) (by omega), Int.tdiv_eq_ediv_of_nonneg (by omega)]
    have e : (-n + d - 1) / d = -(n / d) := by
      have : -n + d - 1 = (d - 1 - n % d) + (-(n / d)) * d := by
        have : d * (n / d) = n / d * d := Int.mul_comm ..
        rw [Int.neg_mul]
        omega
      rw [this, Int.add_mul_ediv_right _ _ (by omega), Int.ediv_eq_zero_of_lt (by omega) (by omega)]
      omega
    rw [e, w64 (n := -(n / d)) (by omega) (by omega), w64 (by omega) (by omega)]
    congr 1
    omega
  · rw [if_neg c, if_neg (by omega), Int.tdiv_eq_ediv_of_nonneg (by omega), w64 (by omega) (by omega)]
/-- the nearest whole number, of two the even one -/
def Near1 (n d : Int) : Int := if n - n / d * d > d - (n - n / d * d) ∨ (n - n / d * d = d - (n - n / d * d) ∧ ¬ Int.tmod (n / d) 2 = 0) then n / d + 1 else n / d
theorem near_all {n d : Int} (h0 : 1 ≤ d) (h1 : d ≤ 1000000000) (hn : -4000000000000000000 ≤ n) (hn' : n ≤ 4000000000000000000) : num_ratio_nearest.f n d = some (Near1 n d) ∧ withyref01_nearest.f n d = some (Near1 n d) := by
  have b := le_div (a := n) (g := d.toNat) (by omega) hn hn'
  rw [Int.toNat_of_nonneg (by omega)] at b
  have p1 := Int.emod_nonneg n (b := d) (by omega)
  have p2 := Int.emod_lt_of_pos n (b := d) (by omega)
  have p3 := Int.emod_add_mul_ediv n d
  have p4 : d * (n / d) = n / d * d := Int.mul_comm ..
  have key : ∀ t : Int, t = n / d → (if (wrap64 (n - (wrap64 (t * d)))) > (wrap64 (d - (wrap64 (n - (wrap64 (t * d)))))) then (some (wrap64 (t + 1))) else (if (wrap64 (n - (wrap64 (t * d)))) = (wrap64 (d - (wrap64 (n - (wrap64 (t * d)))))) then (if (Int.tmod t 2) = 0 then (some t) else (some (wrap64 (t + 1)))) else (some t))) = some (Near1 n d) := by
    rintro t rfl
    rw [w64 (n := n / d * d) (by omega) (by omega), w64 (n := n - n / d * d) (by omega) (by omega), w64 (n := d - (n - n / d * d)) (by omega) (by omega), w64 (n := n / d + 1) (by omega) (by omega)]
    unfold Near1
    by_cases x : n - n / d * d > d - (n - n / d * d)
    · rw [if_pos x, if_pos (Or.inl x)]
    · rw [if_neg x]
      by_cases y : n - n / d * d = d - (n - n / d * d)
      · rw [if_pos y]
        by_cases z : Int.tmod (n / d) 2 = 0
        · rw [if_pos z, if_neg (fun h => h.elim x (fun h => h.2 z))]
        · rw [if_neg z, if_pos (Or.inr ⟨y, z⟩)]
      · rw [if_neg y, if_neg (fun h => h.elim x (fun h => y h.1))]
  refine ⟨?_, ?_⟩
  · unfold num_ratio_nearest.f
    rw [floor_div h0 (by omega) (by omega) (by omega), Option.bind_some]
    exact key _ rfl
  · unfold withyref01_nearest.f
    rw [under_div h0 h1 hn hn', Option.bind_some]
    exact key _ rfl
theorem ceil_div {n d : Int} (h0 : 1 ≤ d) (h1 : d ≤ 9223372036854775807) (hn : -9223372036854775807 ≤ n) (hn' : n ≤ 9223372036854775807) : num_ratio_ceil.f n d = some (-(-n / d)) := by
  have b := le_div (a := -n) (g := d.toNat) (b := 9223372036854775807) (by omega) (by omega) (by omega)
  rw [Int.toNat_of_nonneg (by omega)] at b
  unfold num_ratio_ceil.f
  rw [w64 (n := -n) (by omega) (by omega), floor_div h0 h1 (by omega) (by omega), Option.bind_some, w64 (by omega) (by omega)]
def RoundedR (p : Int → Int → Int) (n d : Int) : Int × Int := if Chk n d = 0 then (p n d, 0) else (0, Chk n d)
theorem ev_rounded {p : Int → Int → Option Int} {q : Int → Int → Int} (n d : Int) (h : Ok n d → p n d = some (q n d)) : Ev (fun k => num_rounded.g p k n d) (RoundedR q n d) := by
  unfold num_rounded.g RoundedR
  refine Ev.bind (ev_check n d) ?_
  by_cases x : Chk n d = 0
  · simp only [x, if_true, h (Chk_ok.mp x), Option.bind_some]
    exact Ev.now _
  · simp only [x, if_false]
    exact Ev.now _
theorem ev_Floor (n d : Int) : Ev (fun k => num_Floor.f k n d) (RoundedR (fun n d => n / d) n d) :=
  ev_rounded n d fun h => floor_div h.d1 (by have := h.d2; omega) (by have := h.n1; omega) (by have := h.n2; omega)
theorem ev_Ceil (n d : Int) : Ev (fun k => num_Ceil.f k n d) (RoundedR (fun n d => -(-n / d)) n d) :=
  ev_rounded n d fun h => ceil_div h.d1 (by have := h.d2; omega) (by have := h.n1; omega) (by have := h.n2; omega)
theorem ev_Round (n d : Int) : Ev (fun k => num_Round.f k n d) (RoundedR Near1 n d) :=
  ev_rounded n d fun h => (near_all h.d1 (by have := h.d2; omega) (by have := h.n1; omega) (by have := h.n2; omega)).1
theorem ev_rFloor (n d : Int) : Ev (fun k => withyref01_Floor.f k n d) (RoundedR (fun n d => n / d) n d) := by
  unfold withyref01_Floor.f RoundedR
  refine Ev.bind (ev_rcheck n d) ?_
  by_cases x : Chk n d = 0
  · have h := Chk_ok.mp x
    have := h.d2; have := h.n1; have := h.n2
    simp only [x, if_true]
    rw [under_div h.d1 (by omega) (by omega) (by omega)]
    exact Ev.now _
  · simp only [x, if_false]
    exact Ev.now _
theorem ev_rCeil (n d : Int) : Ev (fun k => withyref01_Ceil.f k n d) (RoundedR (fun n d => -(-n / d)) n d) := by
  unfold withyref01_Ceil.f RoundedR
  refine Ev.bind (ev_rcheck n d) ?_
  by_cases x : Chk n d = 0
  · have h := Chk_ok.mp x
    have := h.d1; have := h.d2; have := h.n1; have := h.n2
    have b := le_div (a := -n) (g := d.toNat) (b := 1000000000) (by omega) (by omega) (by omega)
    rw [Int.toNat_of_nonneg (by omega)] at b
    simp only [x, if_true]
    rw [w64 (n := -n) (by omega) (by omega), under_div h.d1 (by omega) (by omega) (by omega), Option.bind_some, w64 (by omega) (by omega)]
    exact Ev.now _
  · simp only [x, if_false]
    exact Ev.now _
theorem ev_rRound (n d : Int) : Ev (fun k => withyref01_Round.f k n d) (RoundedR Near1 n d) := by
  unfold withyref01_Round.f RoundedR
  refine Ev.bind (ev_rcheck n d) ?_
  by_cases x : Chk n d = 0
  · have h := Chk_ok.mp x
    have := h.d2; have := h.n1; have := h.n2
    simp only [x, if_true]
    rw [(near_all h.d1 (by omega) (by omega) (by omega)).2]
    exact Ev.now _
  · simp only [x, if_false]
    exact Ev.now _
/-! ### the text U9 -/
/-! ### The examples of the chapter -/
set_option maxRecDepth 100000 in
theorem summed_at : withylaw01_summed.f 60 = some true := by kernel_rfl
theorem ev_summed : Ev (fun k => withylaw01_summed.f k) true := Ev.of (fun k => withylaw01_summed.mono k) summed_at
/-! ### the text VNumBasics -/
/-! ### NumBasics: both come to the same -/
theorem withylaw01_NumBasics.ev (a0_0 a0_1 a1_0 a1_1 a2 a3 : Int) : Ev (fun k => withylaw01_NumBasics.f k a0_0 a0_1 a1_0 a1_1 a2 a3) true := by
  unfold withylaw01_NumBasics.f
  refine Ev.bind (ev_check a0_0 a0_1) (Ev.bind (ev_rcheck a0_0 a0_1) ?_)
  simp only [if_true]
  refine Ev.bind (ev_Make a2 a3) (Ev.bind (ev_rMake a2 a3) (Ev.bind (ev_Neg a0_0 a0_1) (Ev.bind (ev_rNeg a0_0 a0_1) (Ev.bind (ev_Cmp a0_0 a0_1 a1_0 a1_1) (Ev.bind (ev_rCmp a0_0 a0_1 a1_0 a1_1) (Ev.bind (ev_Whole a0_0 a0_1) (Ev.bind (ev_rWhole a0_0 a0_1) ?_)))))))
  simp only [if_true, beq_self_eq_true, Bool.and_self]
  exact Ev.bind ev_summed (Ev.now _)
theorem withylaw01_NumBasics.pure (a0_0 a0_1 a1_0 a1_1 a2 a3 : Int) (_ : -9223372036854775808 ≤ a0_0 ∧ a0_0 ≤ 9223372036854775807) (_ : -9223372036854775808 ≤ a0_1 ∧ a0_1 ≤ 9223372036854775807) (_ : -9223372036854775808 ≤ a1_0 ∧ a1_0 ≤ 9223372036854775807) (_ : -9223372036854775808 ≤ a1_1 ∧ a1_1 ≤ 9223372036854775807) (_ : -9223372036854775808 ≤ a2 ∧ a2 ≤ 9223372036854775807) (_ : -9223372036854775808 ≤ a3 ∧ a3 ≤ 9223372036854775807) : ∃ k, withylaw01_NumBasics.f k a0_0 a0_1 a1_0 a1_1 a2 a3 = some true :=
  (withylaw01_NumBasics.ev a0_0 a0_1 a1_0 a1_1 a2 a3).rounds
end Go.Proofs.Ytakcdoahpbeckaa.H
