/- NumSums: the plain law, without the program: what the printed functions come to. -/
import Derived.Test.YtakcdoahpbeckaaKNumSums4
namespace Go.Proofs.Ytakcdoahpbeckaa.H
open Go.RowKit Go.Proofs.YtakcdoahpbeckaaW.PrintWords Go.Proofs.YtakcdoahpbeckaaW.PrintLast Go.Proofs.YtakcdoahpbeckaaW.PrintMore
attribute [local go_sem] max2_int min2_int max_two min_two max_three min_three max_four min_four   -- for this text's walks alone
set_option linter.unusedVariables false
set_option linter.unusedSimpArgs false

/-! ### the text VNumSums -/
theorem w64 {n : Int} (h : -9223372036854775808 ≤ n) (h' : n ≤ 9223372036854775807) : wrap64 n = n := by unfold wrap64; omega
theorem Ev.isNow {α : Type} {g : Nat → Option α} {r : α} (h : ∀ k, g k = some r) : Ev g r := ⟨0, fun k _ => h k⟩
theorem mx_nat (g : Nat) (h : 0 < g) : mx (g : Int) 1 = g := by unfold mx; split <;> omega
theorem mx_abs {n : Int} (h : -9223372036854775807 ≤ n) (h' : n ≤ 9223372036854775807) : mx n (wrap64 (-n)) = (n.natAbs : Int) := by
  rw [w64 (by omega) (by omega)]
  unfold mx
  split <;> omega
theorem divisor_loop : ∀ (n m : Nat), Ev (fun k => num_divisor.l0 k (m : Int) (n : Int)) (mx (Nat.gcd m n : Nat) 1) := by
  intro n
  induction n using Nat.strongRecOn with
  | ind n ih =>
    intro m
    by_cases h : n = 0
    · subst h
      refine Ev.step (f := fun _ => some (mx (m : Int) 1)) (fun k => ?_) (by rw [Nat.gcd_zero_right]; exact Ev.now _)
      show (if (0 : Int) > 0 then _ else _) = _
      rfl
    · refine Ev.step (f := fun k => num_divisor.l0 k (n : Int) ((m % n : Nat) : Int)) (fun k => ?_) ?_
      · show (if (n : Int) > 0 then (if (n : Int) = 0 then none else num_divisor.l0 k (n : Int) (Int.tmod m n)) else _) = _
        rw [if_pos (by omega), if_neg (by omega)]
        rfl
      · have := ih (m % n) (Nat.mod_lt _ (by omega)) n
        rwa [Nat.gcd_comm n, ← Nat.gcd_rec, Nat.gcd_comm n] at this
theorem ev_divisor {n d : Int} (hn : -9223372036854775807 ≤ n) (hn' : n ≤ 9223372036854775807) (hd : -9223372036854775807 ≤ d) (hd' : d ≤ 9223372036854775807) (h0 : d ≠ 0) :
    Ev (fun k => num_divisor.f k n d) (Int.gcd n d) := by
  have h := divisor_loop d.natAbs n.natAbs
  rw [mx_nat _ (Nat.gcd_pos_of_pos_right _ (by omega))] at h
  refine Ev.congr (fun k => ?_) h
  show num_divisor.l0 k _ _ = _
  rw [mx_abs hn hn', mx_abs hd hd']
theorem of2_loop : ∀ (n m : Nat), 0 < Nat.gcd m n → Ev (fun k => withyref01_Of2.l0 k (m : Int) (n : Int)) ((Nat.gcd m n : Nat) : Int) := by
  intro n
  induction n using Nat.strongRecOn with
  | ind n ih =>
    intro m hp
    by_cases h : n = 0
    · subst h
      rw [Nat.gcd_zero_right] at hp ⊢
      refine Ev.step (f := fun _ => some ((m : Int))) (fun k => ?_) (Ev.now _)
      show (if (0 : Int) > 0 then _ else if (m : Int) = 0 then _ else _) = _
      rw [if_neg (by omega), if_neg (by omega)]
    · have hr : Nat.gcd n (m % n) = Nat.gcd m n := by rw [Nat.gcd_comm n, ← Nat.gcd_rec, Nat.gcd_comm n]
      refine Ev.step (f := fun k => withyref01_Of2.l0 k (n : Int) ((m % n : Nat) : Int)) (fun k => ?_) ?_
      · show (if (n : Int) > 0 then (if (n : Int) = 0 then none else withyref01_Of2.l0 k (n : Int) (Int.tmod m n)) else _) = _
        rw [if_pos (by omega), if_neg (by omega)]
        rfl
      · have := ih (m % n) (Nat.mod_lt _ (by omega)) n (by rw [hr]; exact hp)
        rwa [hr] at this
theorem ev_of2 {n d : Int} (hn : -9223372036854775807 ≤ n) (hn' : n ≤ 9223372036854775807) (hd : -9223372036854775807 ≤ d) (hd' : d ≤ 9223372036854775807) (h0 : d ≠ 0) :
    Ev (fun k => withyref01_Of2.f k n d) (Int.gcd n d) := by
  have h := of2_loop d.natAbs n.natAbs (Nat.gcd_pos_of_pos_right _ (by omega))
  have h2 : Ev (fun k => withyref01_Of2.j0 k (n.natAbs : Int) d) (Int.gcd n d) := by
    by_cases c : d < 0
    · refine Ev.step (f := fun k => withyref01_Of2.j1 k (n.natAbs : Int) (wrap64 (-d))) (fun k => ?_) (Ev.step (f := fun k => withyref01_Of2.l0 k (n.natAbs : Int) (wrap64 (-d))) (fun k => rfl) ?_)
      · show (if d < 0 then _ else _) = _
        rw [if_pos c]
      · rw [w64 (by omega) (by omega), show -d = (d.natAbs : Int) by omega]
        exact h
    · refine Ev.step (f := fun k => withyref01_Of2.j1 k (n.natAbs : Int) d) (fun k => ?_) (Ev.step (f := fun k => withyref01_Of2.l0 k (n.natAbs : Int) d) (fun k => rfl) ?_)
      · show (if d < 0 then _ else _) = _
        rw [if_neg c]
      · have e : d = (d.natAbs : Int) := by omega
        have h' := h
        rw [← e] at h'
        exact h'
  refine Ev.congr (fun k => ?_) h2
  unfold withyref01_Of2.f
  by_cases c : n < 0
  · rw [if_pos c, w64 (by omega) (by omega), show -n = (n.natAbs : Int) by omega]
  · rw [if_neg c]
    congr 1
    omega
/-- the error of a number -/
def Chk (n d : Int) : Int := if (1 ≤ d ∧ d ≤ 1000000000) ∧ (-1000000000 ≤ n ∧ n ≤ 1000000000) then (if Int.gcd n d > 1 then 1 else 0) else 3
theorem in_f (a b c : Int) : withyref01_In.f a b c = some (decide (b ≤ a ∧ a ≤ c)) := by
  unfold withyref01_In.f
  by_cases h : b ≤ a <;> simp [h]
theorem within_1 (a b n : Int) : num_within.f a b [n] = some (decide (a ≤ n ∧ n ≤ b)) := by
  unfold num_within.f
  simp
theorem ev_check (n d : Int) : Ev (fun k => num_Check.f k n d) (Chk n d) := by
  unfold num_Check.f Chk
  simp only [within_1, Option.bind_some]
  by_cases c : 1 ≤ d ∧ d ≤ 1000000000
  · by_cases c' : -1000000000 ≤ n ∧ n ≤ 1000000000
    · simp only [c, c', and_self, decide_true, if_true, Bool.not_true]
      refine Ev.step (f := fun k => (num_divisor.f k n d).bind fun t => if t > 1 then some 1 else some 0) (fun k => rfl) ?_
      · refine Ev.bind (ev_divisor (by omega) (by omega) (by omega) (by omega) (by omega)) ?_
        by_cases g : Int.gcd n d > 1
        · have g' : ((Int.gcd n d : Nat) : Int) > 1 := by omega
          simp only [g, g', if_true]
          exact Ev.now _
        · have g' : ¬ ((Int.gcd n d : Nat) : Int) > 1 := by omega
          simp only [g, g', if_false]
          exact Ev.now _
    · simp only [c, c', and_self, and_false, decide_true, decide_false, if_true, Bool.not_false, if_false]
      exact Ev.step (f := fun _ => some 3) (fun k => rfl) (Ev.now _)
  · simp only [c, false_and, decide_false, Bool.false_eq_true, if_false]
    exact Ev.step (f := fun _ => some 3) (fun k => rfl) (Ev.now _)
theorem ev_rcheck (n d : Int) : Ev (fun k => withyref01_Check.f k n d) (Chk n d) := by
  unfold withyref01_Check.f Chk
  simp only [in_f, Option.bind_some]
  by_cases c : 1 ≤ d ∧ d ≤ 1000000000
  · by_cases c' : -1000000000 ≤ n ∧ n ≤ 1000000000
    · simp only [c, c', and_self, decide_true, if_true, Bool.not_true]
      refine Ev.step (f := fun k => (withyref01_Of2.f k n d).bind fun t => if t > 1 then some 1 else some 0) (fun k => rfl) ?_
      · refine Ev.bind (ev_of2 (by omega) (by omega) (by omega) (by omega) (by omega)) ?_
        by_cases g : Int.gcd n d > 1
        · have g' : ((Int.gcd n d : Nat) : Int) > 1 := by omega
          simp only [g, g', if_true]
          exact Ev.now _
        · have g' : ¬ ((Int.gcd n d : Nat) : Int) > 1 := by omega
          simp only [g, g', if_false]
          exact Ev.now _
    · simp only [c, c', and_self, and_false, decide_true, decide_false, if_true, Bool.not_false, if_false]
      exact Ev.step (f := fun _ => some 3) (fun k => rfl) (Ev.now _)
  · simp only [c, false_and, decide_false, Bool.false_eq_true, if_false]
    exact Ev.step (f := fun _ => some 3) (fun k => rfl) (Ev.now _)
def Rn (n d : Int) : Int := (if d < 0 then -n else n) / (Int.gcd n d : Int)
def Rd (n d : Int) : Int := (if d < 0 then -d else d) / (Int.gcd n d : Int)
def Fits (n d : Int) : Prop := Rd n d ≤ 1000000000 ∧ (-1000000000 ≤ Rn n d ∧ Rn n d ≤ 1000000000)
instance (n d : Int) : Decidable (Fits n d) := inferInstanceAs (Decidable (_ ∧ _))
def Low (n d : Int) : Int × Int × Int := if Fits n d then (Rn n d, Rd n d, 0) else (0, 0, 8)
def NumE (n d : Int) : Except Int (Int × Int) := if Fits n d then .ok (Rn n d, Rd n d) else .error 0
theorem gcd_pos {n d : Int} (h : d ≠ 0) : 0 < Int.gcd n d := Nat.gcd_pos_of_pos_right _ (by omega)
theorem le_div {a : Int} {g : Nat} (hg : 0 < g) {b : Int} (h : -b ≤ a) (h' : a ≤ b) : -b ≤ a / (g : Int) ∧ a / (g : Int) ≤ b := by
  have hb : 0 ≤ b := by omega
  refine ⟨?_, ?_⟩
  · have : -b ≤ (-b) / (g : Int) := by
      have := Int.le_ediv_of_mul_le (a := -b) (b := -b) (c := (g : Int)) (by omega) (by
        have : (1 : Int) ≤ g := by omega
        have := Int.mul_le_mul_of_nonneg_left this hb
        have e : -b * (g : Int) = -(b * g) := by rw [Int.neg_mul]
        omega)
      exact this
    exact Int.le_trans this (Int.ediv_le_ediv (by omega) h)
  · exact Int.le_trans (Int.ediv_le_ediv (by omega) h') (Int.ediv_le_self _ hb)
theorem core_num (n d : Int) (hn : -9223372036854775807 ≤ n) (hn' : n ≤ 9223372036854775807) (hd : -9223372036854775807 ≤ d) (hd' : d ≤ 9223372036854775807) (h0 : d ≠ 0) :
    wrap64 (Int.tdiv (if d < 0 then wrap64 (-n) else n) (Int.gcd n d)) = Rn n d ∧ wrap64 (Int.tdiv (if d < 0 then wrap64 (-d) else d) (Int.gcd n d)) = Rd n d := by
  have hg := gcd_pos (n := n) h0
  have d1 : ((Int.gcd n d : Nat) : Int) ∣ (if d < 0 then -n else n) := by
    split
    · exact Int.dvd_neg.mpr (Int.gcd_dvd_left ..)
    · exact Int.gcd_dvd_left ..
  have d2 : ((Int.gcd n d : Nat) : Int) ∣ (if d < 0 then -d else d) := by
    split
    · exact Int.dvd_neg.mpr (Int.gcd_dvd_right ..)
    · exact Int.gcd_dvd_right ..
  have e1 : (if d < 0 then wrap64 (-n) else n) = (if d < 0 then -n else n) := by rw [w64 (by omega) (by omega)]
  have e2 : (if d < 0 then wrap64 (-d) else d) = (if d < 0 then -d else d) := by rw [w64 (by omega) (by omega)]
  rw [e1, e2, Int.tdiv_eq_ediv_of_dvd d1, Int.tdiv_eq_ediv_of_dvd d2]
  have b1 := le_div hg (a := if d < 0 then -n else n) (b := 9223372036854775807) (by split <;> omega) (by split <;> omega)
  have b2 := le_div hg (a := if d < 0 then -d else d) (b := 9223372036854775807) (by split <;> omega) (by split <;> omega)
  exact ⟨w64 (by omega) b1.2, w64 (by omega) b2.2⟩
theorem gcd_sign (n d : Int) : Int.gcd (if d < 0 then wrap64 (-n) else n) (if d < 0 then wrap64 (-d) else d) = Int.gcd n d ∨ ¬ (-9223372036854775807 ≤ n ∧ n ≤ 9223372036854775807 ∧ -9223372036854775807 ≤ d ∧ d ≤ 9223372036854775807) := by
  by_cases h : (-9223372036854775807 ≤ n ∧ n ≤ 9223372036854775807 ∧ -9223372036854775807 ≤ d ∧ d ≤ 9223372036854775807)
  · left
    rw [w64 (by omega) (by omega), w64 (by omega) (by omega)]
    split
    · rw [Int.neg_gcd, Int.gcd_neg]
    · rfl
  · exact Or.inr h
theorem ev_num {n d : Int} (hn : -9223372036854775807 ≤ n) (hn' : n ≤ 9223372036854775807) (hd : -9223372036854775807 ≤ d) (hd' : d ≤ 9223372036854775807) (h0 : d ≠ 0) :
    Ev (fun k => num_ratio_num.f k n d) (NumE n d) := by
  have hg := gcd_pos (n := n) h0
  obtain ⟨c1, c2⟩ := core_num n d hn hn' hd hd' h0
  have hs := (gcd_sign n d).resolve_right (by omega)
  refine Ev.congr (f := fun k => num_ratio_num.j0 k (if d < 0 then wrap64 (-n) else n) (if d < 0 then wrap64 (-d) else d)) (fun k => ?_) ?_
  · unfold num_ratio_num.f
    split <;> rfl
  · generalize hN : (if d < 0 then wrap64 (-n) else n) = N at *
    generalize hD : (if d < 0 then wrap64 (-d) else d) = D at *
    have hNr : -9223372036854775807 ≤ N ∧ N ≤ 9223372036854775807 := by rw [← hN, w64 (by omega) (by omega)]; split <;> omega
    have hDr : (-9223372036854775807 ≤ D ∧ D ≤ 9223372036854775807) ∧ D ≠ 0 := by rw [← hD, w64 (by omega) (by omega)]; split <;> omega
    refine Ev.step (f := fun k => (num_divisor.f k N D).bind fun t => if t = 0 then none else if wrap64 (Int.tdiv D t) > 1000000000 then some (.error (0 : Int)) else (num_within.f (-1000000000) 1000000000 [wrap64 (Int.tdiv N t)]).bind fun u => if u = true then some (.ok (ε := Int) (wrap64 (Int.tdiv N t), wrap64 (Int.tdiv D t))) else some (.error (0 : Int))) (fun k => rfl) ?_
    refine Ev.bind (ev_divisor hNr.1 hNr.2 hDr.1.1 hDr.1.2 hDr.2) ?_
    rw [hs]
    simp only [c1, c2, within_1, Option.bind_some]
    refine Ev.isNow fun k => ?_
    rw [if_neg (by omega)]
    unfold NumE
    by_cases a : Rd n d > 1000000000
    · rw [if_pos a, if_neg (fun h : Fits n d => by have := h.1; omega)]
    · rw [if_neg a]
      by_cases b : -1000000000 ≤ Rn n d ∧ Rn n d ≤ 1000000000
      · rw [if_pos (show Fits n d from ⟨by omega, b⟩)]
        simp only [b, and_self, decide_true, if_true]
      · rw [if_neg (fun h : Fits n d => b h.2)]
        simp only [b, decide_false, if_false, Bool.false_eq_true]
theorem ev_low {n d : Int} (hn : -9223372036854775807 ≤ n) (hn' : n ≤ 9223372036854775807) (hd : -9223372036854775807 ≤ d) (hd' : d ≤ 9223372036854775807) (h0 : d ≠ 0) :
    Ev (fun k => withyref01_low.f k n d) (Low n d) := by
  have hg := gcd_pos (n := n) h0
  obtain ⟨c1, c2⟩ := core_num n d hn hn' hd hd' h0
  have hs := (gcd_sign n d).resolve_right (by omega)
  refine Ev.congr (f := fun k => withyref01_low.j0 k (if d < 0 then wrap64 (-n) else n) (if d < 0 then wrap64 (-d) else d)) (fun k => ?_) ?_
  · unfold withyref01_low.f
    split <;> rfl
  · generalize hN : (if d < 0 then wrap64 (-n) else n) = N at *
    generalize hD : (if d < 0 then wrap64 (-d) else d) = D at *
    have hNr : -9223372036854775807 ≤ N ∧ N ≤ 9223372036854775807 := by rw [← hN, w64 (by omega) (by omega)]; split <;> omega
    have hDr : (-9223372036854775807 ≤ D ∧ D ≤ 9223372036854775807) ∧ D ≠ 0 := by rw [← hD, w64 (by omega) (by omega)]; split <;> omega
    refine Ev.step (f := fun k => (withyref01_Of2.f k N D).bind fun t => if t = 0 then none else if wrap64 (Int.tdiv D t) > 1000000000 then some (0, 0, 8) else (withyref01_In.f (wrap64 (Int.tdiv N t)) (-1000000000) 1000000000).bind fun u => if u = true then some (wrap64 (Int.tdiv N t), wrap64 (Int.tdiv D t), 0) else some (0, 0, 8)) (fun k => rfl) ?_
    refine Ev.bind (ev_of2 hNr.1 hNr.2 hDr.1.1 hDr.1.2 hDr.2) ?_
    rw [hs]
    simp only [c1, c2, in_f, Option.bind_some]
    refine Ev.isNow fun k => ?_
    rw [if_neg (by omega)]
    unfold Low
    by_cases a : Rd n d > 1000000000
    · rw [if_pos a, if_neg (fun h : Fits n d => by have := h.1; omega)]
    · rw [if_neg a]
      by_cases b : -1000000000 ≤ Rn n d ∧ Rn n d ≤ 1000000000
      · rw [if_pos (show Fits n d from ⟨by omega, b⟩)]
        simp only [b, and_self, decide_true, if_true]
      · rw [if_neg (fun h : Fits n d => b h.2)]
        simp only [b, decide_false, if_false, Bool.false_eq_true]
theorem exc_num (n d : Int) : exc (NumE n d) (fun _ => some (0, 0, 8)) (fun b => some (b.1, b.2, 0)) = some (Low n d) := by
  unfold NumE Low
  split <;> rfl
def ChkL : List S23 → Int
  | [] => 0
  | a :: l => if Chk a.f0 a.f1 = 0 then ChkL l else Chk a.f0 a.f1
theorem checked_loop (l : List S23) (hl : l.length < 9223372036854775807) : ∀ (m i : Nat), i + m = l.length → Ev (fun k => num_checked.l0 k l (l.length : Int) (i : Int)) (ChkL (l.drop i)) := by
  intro m
  induction m with
  | zero =>
    intro i hi
    rw [List.drop_of_length_le (by omega)]
    refine Ev.step (f := fun _ => some 0) (fun k => ?_) (Ev.now _)
    show (if (i : Int) < (l.length : Int) then _ else _) = _
    rw [if_neg (by omega)]
  | succ m ih =>
    intro i hi
    have hlt : i < l.length := by omega
    have hx : rd_T23 l (i : Int) = l[i] := by
      unfold rd_T23
      rw [Int.toNat_natCast, List.getD_eq_getElem?_getD, List.getElem?_eq_getElem hlt]
      rfl
    rw [List.drop_eq_getElem_cons hlt]
    refine Ev.step (f := fun k => (num_Check.f k (l[i]).f0 (l[i]).f1).bind fun t => if t = 0 then num_checked.l0 k l (l.length : Int) ((i + 1 : Nat) : Int) else some t) (fun k => ?_) ?_
    · show (if (i : Int) < (l.length : Int) then (if 0 ≤ (i : Int) then (if (i : Int) < (l.length : Int) then _ else _) else _) else _) = _
      rw [if_pos (by omega), if_pos (by omega), if_pos (by omega), hx, w64 (by omega) (by omega)]
      rfl
    · refine Ev.bind (ev_check _ _) ?_
      show Ev _ (if Chk l[i].f0 l[i].f1 = 0 then ChkL (l.drop (i + 1)) else Chk l[i].f0 l[i].f1)
      by_cases c : Chk l[i].f0 l[i].f1 = 0
      · simp only [c, if_true]
        exact ih (i + 1) (by omega)
      · simp only [c, if_false]
        exact Ev.now _
theorem ev_checked (l : List S23) (hl : l.length < 9223372036854775807) : Ev (fun k => num_checked.f k l) (ChkL l) := by
  have := checked_loop l hl l.length 0 (by omega)
  rwa [List.drop_zero] at this
def Chk2 (a b c d : Int) : Int := if Chk a b = 0 then Chk c d else Chk a b
theorem ev_checked2 (a b c d : Int) : Ev (fun k => num_checked.f k [(⟨a, b⟩ : S23), ⟨c, d⟩]) (Chk2 a b c d) := by
  have h := ev_checked [(⟨a, b⟩ : S23), ⟨c, d⟩] (by simp)
  have e : ChkL [(⟨a, b⟩ : S23), ⟨c, d⟩] = Chk2 a b c d := by
    show (if Chk a b = 0 then (if Chk c d = 0 then (0 : Int) else Chk c d) else Chk a b) = _
    unfold Chk2
    by_cases x : Chk a b = 0
    · rw [if_pos x, if_pos x]
      by_cases y : Chk c d = 0
      · rw [if_pos y, y]
      · rw [if_neg y]
    · rw [if_neg x, if_neg x]
  rwa [e] at h
theorem ev_both (a b c d : Int) : Ev (fun k => withyref01_both.f k a b c d) (Chk2 a b c d) := by
  unfold withyref01_both.f Chk2
  refine Ev.bind (ev_rcheck _ _) ?_
  by_cases x : Chk a b = 0
  · simp only [x, if_true]
    exact Ev.bind (ev_rcheck _ _) (Ev.now _)
  · simp only [x, if_false]
    exact Ev.now _
/-- a number's fields are in the bounds, and in lowest terms -/
structure Ok (n d : Int) : Prop where
  d1 : 1 ≤ d
  d2 : d ≤ 1000000000
  n1 : -1000000000 ≤ n
  n2 : n ≤ 1000000000
  g : Int.gcd n d = 1
theorem Chk_ok {n d : Int} : Chk n d = 0 ↔ Ok n d := by
  unfold Chk
  constructor
  · intro h
    split at h
    · rename_i c
      split at h
      · exact absurd h (by decide)
      · have := gcd_pos (n := n) (d := d) (by omega)
        exact ⟨c.1.1, c.1.2, c.2.1, c.2.2, by omega⟩
    · exact absurd h (by decide)
  · intro h
    have := h.d1; have := h.d2; have := h.n1; have := h.n2; have := h.g
    rw [if_pos (by omega), if_neg (by omega)]
theorem Chk2_ok {a b c d : Int} : Chk2 a b c d = 0 ↔ Ok a b ∧ Ok c d := by
  unfold Chk2
  rw [← Chk_ok, ← Chk_ok]
  by_cases x : Chk a b = 0
  · simp [x]
  · simp [x]
theorem Ok.mul {a b c d : Int} (h : Ok a b) (k : Ok c d) : (-1000000000000000000 ≤ a * d ∧ a * d ≤ 1000000000000000000) ∧ (-1000000000000000000 ≤ c * b ∧ c * b ≤ 1000000000000000000) ∧ (1 ≤ b * d ∧ b * d ≤ 1000000000000000000) ∧ (-1000000000000000000 ≤ a * c ∧ a * c ≤ 1000000000000000000) ∧ (-1000000000000000000 ≤ b * c ∧ b * c ≤ 1000000000000000000) := by
  have bd : ∀ x y : Int, -1000000000 ≤ x → x ≤ 1000000000 → -1000000000 ≤ y → y ≤ 1000000000 → -1000000000000000000 ≤ x * y ∧ x * y ≤ 1000000000000000000 := by
    intro x y h1 h2 h3 h4
    have a1 : x.natAbs ≤ 1000000000 := by omega
    have a2 : y.natAbs ≤ 1000000000 := by omega
    have a3 := Nat.mul_le_mul a1 a2
    rw [← Int.natAbs_mul] at a3
    omega
  have := h.d1; have := h.d2; have := h.n1; have := h.n2; have := k.d1; have := k.d2; have := k.n1; have := k.n2
  refine ⟨bd _ _ (by omega) (by omega) (by omega) (by omega), bd _ _ (by omega) (by omega) (by omega) (by omega), ⟨?_, (bd b d (by omega) (by omega) (by omega) (by omega)).2⟩, bd _ _ (by omega) (by omega) (by omega) (by omega), bd _ _ (by omega) (by omega) (by omega) (by omega)⟩
  have := Int.mul_le_mul h.d1 k.d1 (by omega) (by omega)
  omega
def AddR (a b c d : Int) : Int × Int × Int := if Chk2 a b c d = 0 then Low (a * d + c * b) (b * d) else (0, 0, Chk2 a b c d)
def SubR (a b c d : Int) : Int × Int × Int := if Chk2 a b c d = 0 then Low (a * d - c * b) (b * d) else (0, 0, Chk2 a b c d)
def MulR (a b c d : Int) : Int × Int × Int := if Chk2 a b c d = 0 then Low (a * c) (b * d) else (0, 0, Chk2 a b c d)
def DivR (a b c d : Int) : Int × Int × Int := if Chk2 a b c d = 0 then (if c = 0 then (0, 0, 10) else Low (a * d) (b * c)) else (0, 0, Chk2 a b c d)
theorem reck {opf : Int → Int → Int → Int → Option (Int × Int)} {dv : Bool} {a b c d : Int} {R : Int × Int × Int} {N D : Int}
    (hop : Ok a b → Ok c d → ¬ (dv = true ∧ c = 0) → opf a b c d = some (N, D) ∧ (-9223372036854775807 ≤ N ∧ N ≤ 9223372036854775807) ∧ (-9223372036854775807 ≤ D ∧ D ≤ 9223372036854775807) ∧ D ≠ 0)
    (hR : R = if Chk2 a b c d = 0 then (if dv = true ∧ c = 0 then (0, 0, 10) else Low N D) else (0, 0, Chk2 a b c d)) : Ev (fun k => num_reckon.g opf dv k a b c d) R := by
  subst hR
  unfold num_reckon.g
  refine Ev.bind (ev_checked2 a b c d) ?_
  by_cases x : Chk2 a b c d = 0
  · simp only [x, if_true]
    by_cases y : dv = true ∧ c = 0
    · simp only [y, and_self, if_true]
      exact Ev.now _
    · simp only [y, if_false]
      obtain ⟨h1, h2⟩ := Chk2_ok.mp x
      obtain ⟨e, n1, d1, d0⟩ := hop h1 h2 y
      simp only [e, Option.bind_some]
      refine Ev.bind (ev_num n1.1 n1.2 d1.1 d1.2 d0) ?_
      rw [exc_num]
      exact Ev.now _
  · simp only [x, if_false]
    exact Ev.now _
theorem ev_three {g : Nat → Option (Int × Int × Int)} {R : Int × Int × Int} (h : Ev g R) : Ev (fun k => (g k).bind fun b => some (b.1, b.2.1, b.2.2)) R :=
  Ev.bind h (Ev.now _)
theorem ev_Add (a b c d : Int) : Ev (fun k => num_Add.f k a b c d) (AddR a b c d) := by
  refine ev_three (Ev.congr (f := fun k => num_reckon.g num_ratio_plus.f false k a b c d) (fun k => rfl) (reck (N := a * d + c * b) (D := b * d) (fun h k _ => ?_) ?_))
  · have := h.mul k
    refine ⟨?_, by omega, by omega, by omega⟩
    unfold num_ratio_plus.f
    rw [w64 (n := a * d) (by omega) (by omega), w64 (n := c * b) (by omega) (by omega), w64 (by omega) (by omega), w64 (by omega) (by omega)]
  · simp [AddR]
theorem ev_Sub (a b c d : Int) : Ev (fun k => num_Sub.f k a b c d) (SubR a b c d) := by
  refine ev_three (Ev.congr (f := fun k => num_reckon.g num_ratio_minus.f false k a b c d) (fun k => rfl) (reck (N := a * d - c * b) (D := b * d) (fun h k _ => ?_) ?_))
  · have := h.mul k
    refine ⟨?_, by omega, by omega, by omega⟩
    unfold num_ratio_minus.f
    rw [w64 (n := a * d) (by omega) (by omega), w64 (n := c * b) (by omega) (by omega), w64 (by omega) (by omega), w64 (by omega) (by omega)]
  · simp [SubR]
theorem ev_Mul (a b c d : Int) : Ev (fun k => num_Mul.f k a b c d) (MulR a b c d) := by
  refine ev_three (Ev.congr (f := fun k => num_reckon.g num_ratio_times.f false k a b c d) (fun k => rfl) (reck (N := a * c) (D := b * d) (fun h k _ => ?_) ?_))
  · have := h.mul k
    refine ⟨?_, by omega, by omega, by omega⟩
    unfold num_ratio_times.f
    rw [w64 (n := a * c) (by omega) (by omega), w64 (by omega) (by omega)]
  · simp [MulR]
theorem ev_Div (a b c d : Int) : Ev (fun k => num_Div.f k a b c d) (DivR a b c d) := by
  refine ev_three (Ev.congr (f := fun k => num_reckon.g num_ratio_by.f true k a b c d) (fun k => rfl) (reck (N := a * d) (D := b * c) (fun h k y => ?_) ?_))
  · have := h.mul k
    refine ⟨?_, by omega, by omega, fun e => ?_⟩
    · unfold num_ratio_by.f
      rw [w64 (n := a * d) (by omega) (by omega), w64 (by omega) (by omega)]
    · rcases Int.mul_eq_zero.mp e with e | e
      · have := h.d1
        omega
      · exact y ⟨rfl, e⟩
  · simp [DivR]
theorem ref_op {a b c d N D : Int} {g : Nat → Option (Int × Int × Int)} (hg : ∀ k, g k = (withyref01_both.f k a b c d).bind fun t => if t = 0 then ((withyref01_low.f k N D).bind fun b => some (b.1, b.2.1, b.2.2)) else some (0, 0, t)) {N' D' : Int}
    (hop : Ok a b → Ok c d → (N = N' ∧ D = D') ∧ (-9223372036854775807 ≤ N ∧ N ≤ 9223372036854775807) ∧ (-9223372036854775807 ≤ D ∧ D ≤ 9223372036854775807) ∧ D ≠ 0) : Ev g (if Chk2 a b c d = 0 then Low N' D' else (0, 0, Chk2 a b c d)) := by
  refine Ev.congr hg ?_
  refine Ev.bind (ev_both a b c d) ?_
  by_cases x : Chk2 a b c d = 0
  · simp only [x, if_true]
    obtain ⟨h1, h2⟩ := Chk2_ok.mp x
    obtain ⟨⟨rfl, rfl⟩, n1, d1, d0⟩ := hop h1 h2
    exact ev_three (ev_low n1.1 n1.2 d1.1 d1.2 d0)
  · simp only [x, if_false]
    exact Ev.now _
theorem ev_rAdd (a b c d : Int) : Ev (fun k => withyref01_Add.f k a b c d) (AddR a b c d) := by
  refine ref_op (fun k => rfl) (fun h k => ?_)
  have := h.mul k
  rw [w64 (n := a * d) (by omega) (by omega), w64 (n := c * b) (by omega) (by omega), w64 (by omega) (by omega), w64 (by omega) (by omega)]
  exact ⟨⟨rfl, rfl⟩, by omega, by omega, by omega⟩
theorem ev_rSub (a b c d : Int) : Ev (fun k => withyref01_Sub.f k a b c d) (SubR a b c d) := by
  refine ref_op (fun k => rfl) (fun h k => ?_)
  have := h.mul k
  rw [w64 (n := a * d) (by omega) (by omega), w64 (n := c * b) (by omega) (by omega), w64 (by omega) (by omega), w64 (by omega) (by omega)]
  exact ⟨⟨rfl, rfl⟩, by omega, by omega, by omega⟩
theorem ev_rMul (a b c d : Int) : Ev (fun k => withyref01_Mul.f k a b c d) (MulR a b c d) := by
  refine ref_op (fun k => rfl) (fun h k => ?_)
  have := h.mul k
  rw [w64 (n := a * c) (by omega) (by omega), w64 (by omega) (by omega)]
  exact ⟨⟨rfl, rfl⟩, by omega, by omega, by omega⟩
theorem ev_rDiv (a b c d : Int) : Ev (fun k => withyref01_Div.f k a b c d) (DivR a b c d) := by
  unfold withyref01_Div.f DivR
  refine Ev.bind (ev_both a b c d) ?_
  by_cases x : Chk2 a b c d = 0
  · simp only [x, if_true]
    obtain ⟨h1, h2⟩ := Chk2_ok.mp x
    by_cases y : c = 0
    · simp only [y, if_true]
      exact Ev.now _
    · simp only [y, if_false]
      have := h1.mul h2
      rw [w64 (n := a * d) (by omega) (by omega), w64 (by omega) (by omega)]
      refine ev_three (ev_low (by omega) (by omega) (by omega) (by omega) fun e => ?_)
      rcases Int.mul_eq_zero.mp e with e | e
      · have := h1.d1
        omega
      · exact y e
  · simp only [x, if_false]
    exact Ev.now _
theorem Low_ok {n d : Int} (h0 : d ≠ 0) (h : Fits n d) : Ok (Rn n d) (Rd n d) := by
  have hg := gcd_pos (n := n) h0
  have e : Int.gcd (if d < 0 then -n else n) (if d < 0 then -d else d) = Int.gcd n d := by
    split
    · rw [Int.neg_gcd, Int.gcd_neg]
    · rfl
  have g1 : Int.gcd (Rn n d) (Rd n d) = 1 := by
    unfold Rn Rd
    rw [← e]
    exact Int.gcd_ediv_gcd_ediv_gcd (by rw [e]; exact hg)
  have hd : 1 ≤ Rd n d := by
    unfold Rd
    have d2 : ((Int.gcd n d : Nat) : Int) ∣ (if d < 0 then -d else d) := by
      split
      · exact Int.dvd_neg.mpr (Int.gcd_dvd_right ..)
      · exact Int.gcd_dvd_right ..
    have := Int.ediv_pos_of_pos_of_dvd (a := if d < 0 then -d else d) (b := (Int.gcd n d : Int)) (by split <;> omega) (by omega) d2
    omega
  exact ⟨hd, h.1, h.2.1, h.2.2, g1⟩
theorem ok_one : Ok 1 1 := ⟨by decide, by decide, by decide, by decide, by decide⟩
theorem ok_zero : Ok 0 1 := ⟨by decide, by decide, by decide, by decide, by decide⟩
theorem Chk2_zero {a b c d : Int} (h : Ok a b) (k : Ok c d) : Chk2 a b c d = 0 := Chk2_ok.mpr ⟨h, k⟩
/-- so many times multiplied -/
def PowL (a b : Int) : Nat → Int → Int → Int × Int × Int
  | 0, x, y => (x, y, 0)
  | m + 1, x, y => if Fits (x * a) (y * b) then PowL a b m (Rn (x * a) (y * b)) (Rd (x * a) (y * b)) else (0, 0, 8)
theorem exc_numK {β : Type} (n d : Int) (f : Option β) (g : Int → Int → Option β) : exc (NumE n d) (fun _ => f) (fun b => g b.1 b.2) = if Fits n d then g (Rn n d) (Rd n d) else f := by
  unfold NumE
  split <;> rfl
theorem pow_loop {a b : Int} (h : Ok a b) (n : Nat) (hn : n ≤ 30) : ∀ (m i : Nat) (x y : Int), i + m = n → Ok x y → Ev (fun k => num_Pow.l0 k (n : Int) (i : Int) a b x y) (PowL a b m x y) ∧ Ev (fun k => withyref01_Pow.l0 k (n : Int) (i : Int) a b x y) (PowL a b m x y) := by
  intro m
  induction m with
  | zero =>
    intro i x y hi _
    refine ⟨Ev.step (f := fun _ => some (x, y, 0)) (fun k => ?_) (Ev.now _), Ev.step (f := fun _ => some (x, y, 0)) (fun k => ?_) (Ev.now _)⟩
    · show (if (i : Int) < (n : Int) then _ else _) = _
      rw [if_neg (by omega)]
    · show (if (i : Int) < (n : Int) then _ else _) = _
      rw [if_neg (by omega)]
  | succ m ih =>
    intro i x y hi hx
    have b1 := hx.mul h
    have hd0 : y * b ≠ 0 := by omega
    refine ⟨?_, ?_⟩
    · refine Ev.step (f := fun k => (num_ratio_num.f k (x * a) (y * b)).bind fun tz_ => exc tz_ (fun _ => some (0, 0, 8)) (fun bt => num_Pow.l0 k (n : Int) ((i + 1 : Nat) : Int) a b bt.1 bt.2)) (fun k => ?_) ?_
      · show (if (i : Int) < (n : Int) then _ else _) = _
        rw [if_pos (by omega)]
        unfold num_of.f num_ratio_times.f
        simp only [Option.bind_some]
        rw [w64 (n := x * a) (by omega) (by omega), w64 (n := y * b) (by omega) (by omega), w64 (by omega) (by omega)]
        rfl
      · refine Ev.bind (ev_num (by omega) (by omega) (by omega) (by omega) hd0) ?_
        refine Ev.congr (fun k => exc_numK _ _ _ (fun u v => num_Pow.l0 k (n : Int) ((i + 1 : Nat) : Int) a b u v)) ?_
        unfold PowL
        by_cases c : Fits (x * a) (y * b)
        · simp only [c, if_true]
          exact (ih (i + 1) _ _ (by omega) (Low_ok hd0 c)).1
        · simp only [c, if_false]
          exact Ev.now _
    · refine Ev.step (f := fun k => (withyref01_Mul.f k x y a b).bind fun t => if t.2.2 = 0 then withyref01_Pow.l0 k (n : Int) ((i + 1 : Nat) : Int) a b t.1 t.2.1 else some (0, 0, t.2.2)) (fun k => ?_) ?_
      · show (if (i : Int) < (n : Int) then _ else _) = _
        rw [if_pos (by omega), w64 (by omega) (by omega)]
        rfl
      · refine Ev.bind (ev_rMul x y a b) ?_
        unfold MulR PowL Low
        rw [if_pos (Chk2_zero hx h)]
        by_cases c : Fits (x * a) (y * b)
        · simp only [c, if_true]
          exact (ih (i + 1) _ _ (by omega) (Low_ok hd0 c)).2
        · simp only [c, if_false]
          exact Ev.now _
def PowR (a b n : Int) : Int × Int × Int := if Chk a b = 0 then (if 0 ≤ n ∧ n ≤ 30 then PowL a b n.toNat 1 1 else (0, 0, 3)) else (0, 0, Chk a b)
theorem ev_Pow (a b n : Int) : Ev (fun k => num_Pow.f k a b n) (PowR a b n) := by
  unfold num_Pow.f PowR
  refine Ev.bind (ev_check a b) ?_
  by_cases x : Chk a b = 0
  · simp only [x, if_true, within_1, Option.bind_some, decide_eq_true_eq]
    by_cases y : 0 ≤ n ∧ n ≤ 30
    · simp only [y, and_self, if_true]
      have := (pow_loop (Chk_ok.mp x) n.toNat (by omega) n.toNat 0 1 1 (by omega) ok_one).1
      rw [show ((n.toNat : Nat) : Int) = n by omega] at this
      exact this
    · simp only [y, if_false]
      exact Ev.now _
  · simp only [x, if_false]
    exact Ev.now _
theorem ev_rPow (a b n : Int) : Ev (fun k => withyref01_Pow.f k a b n) (PowR a b n) := by
  unfold withyref01_Pow.f PowR withyref01_Int.f
  refine Ev.bind (ev_rcheck a b) ?_
  by_cases x : Chk a b = 0
  · simp only [x, if_true, in_f, Option.bind_some, decide_eq_true_eq]
    by_cases y : 0 ≤ n ∧ n ≤ 30
    · simp only [y, and_self, if_true]
      have := (pow_loop (Chk_ok.mp x) n.toNat (by omega) n.toNat 0 1 1 (by omega) ok_one).2
      rw [show ((n.toNat : Nat) : Int) = n by omega] at this
      exact this
    · simp only [y, if_false]
      exact Ev.now _
  · simp only [x, if_false]
    exact Ev.now _
/-- the sum, from a number on -/
def SumL : List S23 → Int → Int → Int × Int × Int
  | [], x, y => (x, y, 0)
  | a :: l, x, y => if Fits (x * a.f1 + a.f0 * y) (y * a.f1) then SumL l (Rn (x * a.f1 + a.f0 * y) (y * a.f1)) (Rd (x * a.f1 + a.f0 * y) (y * a.f1)) else (0, 0, 8)
def TotL : List S23 → Int → Int → Except Int (Int × Int)
  | [], x, y => .ok (x, y)
  | a :: l, x, y => if Fits (x * a.f1 + a.f0 * y) (y * a.f1) then TotL l (Rn (x * a.f1 + a.f0 * y) (y * a.f1)) (Rd (x * a.f1 + a.f0 * y) (y * a.f1)) else .error 0
theorem exc_tot : ∀ (l : List S23) (x y : Int), exc (TotL l x y) (fun _ => some (0, 0, 8)) (fun b => some (b.1, b.2, 0)) = some (SumL l x y) := by
  intro l
  induction l with
  | nil => intro x y; rfl
  | cons a l ih =>
    intro x y
    unfold TotL SumL
    split
    · exact ih _ _
    · rfl
def AllOk (l : List S23) : Prop := ∀ a ∈ l, Ok a.f0 a.f1
theorem ChkL_ok : ∀ (l : List S23), ChkL l = 0 → AllOk l := by
  intro l
  induction l with
  | nil => intro _ a h; exact absurd h (by simp)
  | cons a l ih =>
    intro h
    unfold ChkL at h
    by_cases c : Chk a.f0 a.f1 = 0
    · rw [if_pos c] at h
      intro b hb
      rcases List.mem_cons.mp hb with rfl | hb
      · exact Chk_ok.mp c
      · exact ih h b hb
    · rw [if_neg c] at h
      exact absurd h c
theorem rd_at (l : List S23) (i : Nat) (h : i < l.length) : rd_T23 l (i : Int) = l[i] := by
  unfold rd_T23
  rw [Int.toNat_natCast, List.getD_eq_getElem?_getD, List.getElem?_eq_getElem h]
  rfl
theorem sum_loop (l : List S23) (hl : l.length ≤ 1000000) (ho : AllOk l) : ∀ (m i : Nat) (x y : Int), i + m = l.length → Ok x y → Ev (fun k => num_total.l0 k l (l.length : Int) (i : Int) x y) (TotL (l.drop i) x y) ∧ Ev (fun k => withyref01_Sum.l1 k l (i : Int) x y) (SumL (l.drop i) x y) := by
  intro m
  induction m with
  | zero =>
    intro i x y hi _
    rw [List.drop_of_length_le (by omega)]
    refine ⟨Ev.step (f := fun _ => some (.ok (x, y))) (fun k => ?_) (Ev.now _), Ev.step (f := fun _ => some (x, y, 0)) (fun k => ?_) (Ev.now _)⟩
    · show (if (i : Int) < (l.length : Int) then _ else _) = _
      rw [if_neg (by omega)]
    · show (if (i : Int) < (l.length : Int) then _ else _) = _
      rw [if_neg (by omega)]
  | succ m ih =>
    intro i x y hi hx
    have hlt : i < l.length := by omega
    have ha := ho l[i] (List.getElem_mem hlt)
    have b1 := hx.mul ha
    have hd0 : y * l[i].f1 ≠ 0 := by omega
    rw [List.drop_eq_getElem_cons hlt]
    refine ⟨?_, ?_⟩
    · refine Ev.step (f := fun k => (num_ratio_num.f k (x * l[i].f1 + l[i].f0 * y) (y * l[i].f1)).bind fun tz_ => exc tz_ (fun p => some (Except.error p)) (fun bt => num_total.l0 k l (l.length : Int) ((i + 1 : Nat) : Int) bt.1 bt.2)) (fun k => ?_) ?_
      · show (if (i : Int) < (l.length : Int) then _ else _) = _
        rw [if_pos (by omega), if_pos (by omega), if_pos (by omega), rd_at l i hlt]
        unfold num_of.f num_ratio_plus.f
        simp only [Option.bind_some]
        rw [w64 (n := x * l[i].f1) (by omega) (by omega), w64 (n := l[i].f0 * y) (by omega) (by omega), w64 (n := x * l[i].f1 + l[i].f0 * y) (by omega) (by omega), w64 (n := y * l[i].f1) (by omega) (by omega), w64 (by omega) (by omega)]
        rfl
      · refine Ev.bind (ev_num (by omega) (by omega) (by omega) (by omega) hd0) ?_
        unfold TotL
        by_cases c : Fits (x * l[i].f1 + l[i].f0 * y) (y * l[i].f1)
        · simp only [NumE, c, if_true]
          exact (ih (i + 1) _ _ (by omega) (Low_ok hd0 c)).1
        · simp only [NumE, c, if_false]
          exact Ev.now _
    · refine Ev.step (f := fun k => (withyref01_Add.f k x y l[i].f0 l[i].f1).bind fun t => if t.2.2 = 0 then withyref01_Sum.l1 k l ((i + 1 : Nat) : Int) t.1 t.2.1 else some (0, 0, t.2.2)) (fun k => ?_) ?_
      · show (if (i : Int) < (l.length : Int) then _ else _) = _
        rw [if_pos (by omega), if_pos (by omega), rd_at l i hlt, w64 (by omega) (by omega)]
        rfl
      · refine Ev.bind (ev_rAdd x y _ _) ?_
        unfold AddR SumL Low
        rw [if_pos (Chk2_zero hx ha)]
        by_cases c : Fits (x * l[i].f1 + l[i].f0 * y) (y * l[i].f1)
        · simp only [c, if_true]
          exact (ih (i + 1) _ _ (by omega) (Low_ok hd0 c)).2
        · simp only [c, if_false]
          exact Ev.now _
def SumR (l : List S23) : Int × Int × Int := if ChkL l = 0 then SumL l 0 1 else (0, 0, ChkL l)
theorem ev_Sum (l : List S23) (hl : l.length ≤ 1000000) : Ev (fun k => num_Sum.f k l) (SumR l) := by
  unfold num_Sum.f SumR
  refine Ev.bind (ev_checked l (by omega)) ?_
  by_cases x : ChkL l = 0
  · simp only [x, if_true]
    have t := (sum_loop l hl (ChkL_ok l x) l.length 0 0 1 (by omega) ok_zero).1
    rw [List.drop_zero] at t
    refine Ev.bind (g := fun k => num_total.f k l) t ?_
    rw [exc_tot]
    exact Ev.now _
  · simp only [x, if_false]
    exact Ev.now _
theorem rsum_check (l : List S23) (hl : l.length ≤ 1000000) (R : Int × Int × Int) : ∀ (m i : Nat), i + m = l.length → (ChkL (l.drop i) = 0 → Ev (fun k => withyref01_Sum.l1 k l 0 0 1) R) → Ev (fun k => withyref01_Sum.l0 k l (i : Int)) (if ChkL (l.drop i) = 0 then R else (0, 0, ChkL (l.drop i))) := by
  intro m
  induction m with
  | zero =>
    intro i hi h
    rw [List.drop_of_length_le (by omega)] at h ⊢
    refine Ev.step (f := fun k => withyref01_Sum.l1 k l 0 0 1) (fun k => ?_) (h rfl)
    show (if (i : Int) < (l.length : Int) then _ else _) = _
    rw [if_neg (by omega)]
    rfl
  | succ m ih =>
    intro i hi h
    have hlt : i < l.length := by omega
    rw [List.drop_eq_getElem_cons hlt] at h ⊢
    refine Ev.step (f := fun k => (withyref01_Check.f k l[i].f0 l[i].f1).bind fun t => if t = 0 then withyref01_Sum.l0 k l ((i + 1 : Nat) : Int) else some (0, 0, t)) (fun k => ?_) ?_
    · show (if (i : Int) < (l.length : Int) then _ else _) = _
      rw [if_pos (by omega), if_pos (by omega), rd_at l i hlt, w64 (by omega) (by omega)]
      rfl
    · refine Ev.bind (ev_rcheck _ _) ?_
      unfold ChkL at h ⊢
      by_cases c : Chk l[i].f0 l[i].f1 = 0
      · simp only [c, if_true] at h ⊢
        exact ih (i + 1) (by omega) h
      · simp only [c, if_false]
        exact Ev.now _
theorem ev_rSum (l : List S23) (hl : l.length ≤ 1000000) : Ev (fun k => withyref01_Sum.f k l) (SumR l) := by
  have := rsum_check l hl (SumL l 0 1) l.length 0 (by omega) (fun h => by
    rw [List.drop_zero] at h
    have t := (sum_loop l hl (ChkL_ok l h) l.length 0 0 1 (by omega) ok_zero).2
    rw [List.drop_zero] at t
    exact t)
  rw [List.drop_zero] at this
  exact this
set_option maxRecDepth 100000 in
theorem summed_at : withylaw01_summed.f 60 = some true := by kernel_rfl
theorem ev_summed : Ev (fun k => withylaw01_summed.f k) true := Ev.of (fun k => withylaw01_summed.mono k) summed_at
theorem withylaw01_NumSums.ev (a0_0 a0_1 a1_0 a1_1 : Int) (l2 : List S23) (a3 : Int) : Ev (fun k => withylaw01_NumSums.f k a0_0 a0_1 a1_0 a1_1 l2 a3) true := by
  unfold withylaw01_NumSums.f
  by_cases c : (l2.length : Int) > 30
  · simp only [c, if_true]
    exact Ev.bind ev_summed (Ev.now _)
  · simp only [c, if_false]
    refine Ev.bind (ev_Add a0_0 a0_1 a1_0 a1_1) (Ev.bind (ev_rAdd a0_0 a0_1 a1_0 a1_1) ?_)
    simp only [if_true, beq_self_eq_true, Bool.not_true, Bool.or_self]
    refine Ev.step (f := fun k => (num_Sub.f k a0_0 a0_1 a1_0 a1_1).bind fun b => (withyref01_Sub.f k a0_0 a0_1 a1_0 a1_1).bind fun c => if b.2.2 = c.2.2 then withylaw01_NumSums.j1 k l2 a3 (!(b.1 == c.1) || (!(b.2.1 == c.2.1))) a0_0 a0_1 a1_0 a1_1 else withylaw01_NumSums.j1 k l2 a3 true a0_0 a0_1 a1_0 a1_1) (fun k => rfl) ?_
    refine Ev.bind (ev_Sub a0_0 a0_1 a1_0 a1_1) (Ev.bind (ev_rSub a0_0 a0_1 a1_0 a1_1) ?_)
    simp only [if_true, beq_self_eq_true, Bool.not_true, Bool.or_self]
    refine Ev.step (f := fun k => (num_Mul.f k a0_0 a0_1 a1_0 a1_1).bind fun b => (withyref01_Mul.f k a0_0 a0_1 a1_0 a1_1).bind fun c => if b.2.2 = c.2.2 then withylaw01_NumSums.j2 k l2 a3 (!(b.1 == c.1) || (!(b.2.1 == c.2.1))) a0_0 a0_1 a1_0 a1_1 else withylaw01_NumSums.j2 k l2 a3 true a0_0 a0_1 a1_0 a1_1) (fun k => rfl) ?_
    refine Ev.bind (ev_Mul a0_0 a0_1 a1_0 a1_1) (Ev.bind (ev_rMul a0_0 a0_1 a1_0 a1_1) ?_)
    simp only [if_true, beq_self_eq_true, Bool.not_true, Bool.or_self]
    refine Ev.step (f := fun k => (num_Div.f k a0_0 a0_1 a1_0 a1_1).bind fun b => (withyref01_Div.f k a0_0 a0_1 a1_0 a1_1).bind fun c => if b.2.2 = c.2.2 then withylaw01_NumSums.j3 k l2 a3 (!(b.1 == c.1) || (!(b.2.1 == c.2.1))) a0_0 a0_1 else withylaw01_NumSums.j3 k l2 a3 true a0_0 a0_1) (fun k => rfl) ?_
    refine Ev.bind (ev_Div a0_0 a0_1 a1_0 a1_1) (Ev.bind (ev_rDiv a0_0 a0_1 a1_0 a1_1) ?_)
    simp only [if_true, beq_self_eq_true, Bool.not_true, Bool.or_self]
    refine Ev.step (f := fun k => (num_Sum.f k l2).bind fun b => (withyref01_Sum.f k l2).bind fun c => (num_Pow.f k a0_0 a0_1 a3).bind fun d => (withyref01_Pow.f k a0_0 a0_1 a3).bind fun e => if b.2.2 = c.2.2 then (if (b.1 == c.1 && (b.2.1 == c.2.1)) = true then (if d.2.2 = e.2.2 then (if (d.1 == e.1 && (d.2.1 == e.2.1)) = true then ((withylaw01_summed.f k).bind fun t => some t) else some false) else some false) else some false) else some false) (fun k => rfl) ?_
    refine Ev.bind (ev_Sum l2 (by omega)) (Ev.bind (ev_rSum l2 (by omega)) (Ev.bind (ev_Pow a0_0 a0_1 a3) (Ev.bind (ev_rPow a0_0 a0_1 a3) ?_)))
    simp only [if_true, beq_self_eq_true, Bool.and_self]
    exact Ev.bind ev_summed (Ev.now _)
theorem withylaw01_NumSums.pure (a0_0 a0_1 a1_0 a1_1 : Int) (l2 : List S23) (a3 : Int) (_ : -9223372036854775808 ≤ a0_0 ∧ a0_0 ≤ 9223372036854775807) (_ : -9223372036854775808 ≤ a0_1 ∧ a0_1 ≤ 9223372036854775807) (_ : -9223372036854775808 ≤ a1_0 ∧ a1_0 ≤ 9223372036854775807) (_ : -9223372036854775808 ≤ a1_1 ∧ a1_1 ≤ 9223372036854775807) (_ : -9223372036854775808 ≤ a3 ∧ a3 ≤ 9223372036854775807) : ∃ k, withylaw01_NumSums.f k a0_0 a0_1 a1_0 a1_1 l2 a3 = some true :=
  (withylaw01_NumSums.ev a0_0 a0_1 a1_0 a1_1 l2 a3).rounds
end Go.Proofs.Ytakcdoahpbeckaa.H
