/- NumNears: the plain law, without the program: what the printed functions come to. -/
import Derived.Test.YtakcdoahpbeckaaKNumNears5
namespace Go.Proofs.Ytakcdoahpbeckaa.H
open Go.RowKit Go.Proofs.YtakcdoahpbeckaaW.PrintWords Go.Proofs.YtakcdoahpbeckaaW.PrintLast Go.Proofs.YtakcdoahpbeckaaW.PrintMore
attribute [local go_sem] max2_int min2_int max_two min_two max_three min_three max_four min_four   -- for this text's walks alone
set_option linter.unusedVariables false
set_option linter.unusedSimpArgs false

/-! ### the text VNumNears -/
theorem w64 {n : Int} (h : -9223372036854775808 ≤ n) (h' : n ≤ 9223372036854775807) : wrap64 n = n := by unfold wrap64; omega
theorem Ev.isNow {α : Type} {g : Nat → Option α} {r : α} (h : ∀ k, g k = some r) : Ev g r := ⟨0, fun k _ => h k⟩
/-- both come to the same -/
theorem Ev.uniq {α : Type} {g : Nat → Option α} {r r' : α} (h : Ev g r) (h' : Ev g r') : r = r' := by
  obtain ⟨K, hK⟩ := h
  obtain ⟨K', hK'⟩ := h'
  have a := hK (max K K') (by omega)
  have b := hK' (max K K') (by omega)
  exact Option.some.inj (a.symm.trans b)
theorem mx_nat (g : Nat) (h : 0 < g) : mx (g : Int) 1 = g := by unfold mx; split <;> omega
theorem mx_abs {n : Int} (h : -9223372036854775807 ≤ n) (h' : n ≤ 9223372036854775807) : mx n (wrap64 (-n)) = (n.natAbs : Int) := by
  rw [w64 (by omega) (by omega)]
  unfold mx
  split <;> omega
theorem divisor_loop : ∀ (n m : Nat), Ev (fun k => num_divisor.l0 k (m : Int) (n : Int)) (mx (Nat.gcd m n : Nat) 1) := by
  intro n
  induction n using Nat.strongRecOn with
  | ind n ih =>
    intro m
    by_cases h : n = 0
    · subst h
      refine Ev.step (f := fun _ => some (mx (m : Int) 1)) (fun k => ?_) (by rw [Nat.gcd_zero_right]; exact Ev.now _)
      show (if (0 : Int) > 0 then _ else _) = _
      rfl
    · refine Ev.step (f := fun k => num_divisor.l0 k (n : Int) ((m % n : Nat) : Int)) (fun k => ?_) ?_
      · show (if (n : Int) > 0 then (if (n : Int) = 0 then none else num_divisor.l0 k (n : Int) (Int.tmod m n)) else _) = _
        rw [if_pos (by omega), if_neg (by omega)]
        rfl
      · have := ih (m % n) (Nat.mod_lt _ (by omega)) n
        rwa [Nat.gcd_comm n, ← Nat.gcd_rec, Nat.gcd_comm n] at this
theorem ev_divisor {n d : Int} (hn : -9223372036854775807 ≤ n) (hn' : n ≤ 9223372036854775807) (hd : -9223372036854775807 ≤ d) (hd' : d ≤ 9223372036854775807) (h0 : d ≠ 0) :
    Ev (fun k => num_divisor.f k n d) (Int.gcd n d) := by
  have h := divisor_loop d.natAbs n.natAbs
  rw [mx_nat _ (Nat.gcd_pos_of_pos_right _ (by omega))] at h
  refine Ev.congr (fun k => ?_) h
  show num_divisor.l0 k _ _ = _
  rw [mx_abs hn hn', mx_abs hd hd']
theorem of2_loop : ∀ (n m : Nat), 0 < Nat.gcd m n → Ev (fun k => withyref01_Of2.l0 k (m : Int) (n : Int)) ((Nat.gcd m n : Nat) : Int) := by
  intro n
  induction n using Nat.strongRecOn with
  | ind n ih =>
    intro m hp
    by_cases h : n = 0
    · subst h
      rw [Nat.gcd_zero_right] at hp ⊢
      refine Ev.step (f := fun _ => some ((m : Int))) (fun k => ?_) (Ev.now _)
      show (if (0 : Int) > 0 then _ else if (m : Int) = 0 then _ else _) = _
      rw [if_neg (by omega), if_neg (by omega)]
    · have hr : Nat.gcd n (m % n) = Nat.gcd m n := by rw [Nat.gcd_comm n, ← Nat.gcd_rec, Nat.gcd_comm n]
      refine Ev.step (f := fun k => withyref01_Of2.l0 k (n : Int) ((m % n : Nat) : Int)) (fun k => ?_) ?_
      · show (if (n : Int) > 0 then (if (n : Int) = 0 then none else withyref01_Of2.l0 k (n : Int) (Int.tmod m n)) else _) = _
        rw [if_pos (by omega), if_neg (by omega)]
        rfl
      · have := ih (m % n) (Nat.mod_lt _ (by omega)) n (by rw [hr]; exact hp)
        rwa [hr] at this
theorem ev_of2 {n d : Int} (hn : -9223372036854775807 ≤ n) (hn' : n ≤ 9223372036854775807) (hd : -9223372036854775807 ≤ d) (hd' : d ≤ 9223372036854775807) (h0 : d ≠ 0) :
    Ev (fun k => withyref01_Of2.f k n d) (Int.gcd n d) := by
  have h := of2_loop d.natAbs n.natAbs (Nat.gcd_pos_of_pos_right _ (by omega))
  have h2 : Ev (fun k => withyref01_Of2.j0 k (n.natAbs : Int) d) (Int.gcd n d) := by
    by_cases c : d < 0
    · refine Ev.step (f := fun k => withyref01_Of2.j1 k (n.natAbs : Int) (wrap64 (-d))) (fun k => ?_) (Ev.step (f := fun k => withyref01_Of2.l0 k (n.natAbs : Int) (wrap64 (-d))) (fun k => rfl) ?_)
      · show (if d < 0 then _ else _) = _
        rw [if_pos c]
      · rw [w64 (by omega) (by omega), show -d = (d.natAbs : Int) by omega]
        exact h
    · refine Ev.step (f := fun k => withyref01_Of2.j1 k (n.natAbs : Int) d) (fun k => ?_) (Ev.step (f := fun k => withyref01_Of2.l0 k (n.natAbs : Int) d) (fun k => rfl) ?_)
      · show (if d < 0 then _ else _) = _
        rw [if_neg c]
      · have e : d = (d.natAbs : Int) := by omega
        have h' := h
        rw [← e] at h'
        exact h'
  refine Ev.congr (fun k => ?_) h2
  unfold withyref01_Of2.f
  by_cases c : n < 0
  · rw [if_pos c, w64 (by omega) (by omega), show -n = (n.natAbs : Int) by omega]
  · rw [if_neg c]
    congr 1
    omega
/-- the error of a number -/
def Chk (n d : Int) : Int := if (1 ≤ d ∧ d ≤ 1000000000) ∧ (-1000000000 ≤ n ∧ n ≤ 1000000000) then (if Int.gcd n d > 1 then 1 else 0) else 3
theorem in_f (a b c : Int) : withyref01_In.f a b c = some (decide (b ≤ a ∧ a ≤ c)) := by
  unfold withyref01_In.f
  by_cases h : b ≤ a <;> simp [h]
theorem within_1 (a b n : Int) : num_within.f a b [n] = some (decide (a ≤ n ∧ n ≤ b)) := by
  unfold num_within.f
  simp
theorem ev_check (n d : Int) : Ev (fun k => num_Check.f k n d) (Chk n d) := by
  unfold num_Check.f Chk
  simp only [within_1, Option.bind_some]
  by_cases c : 1 ≤ d ∧ d ≤ 1000000000
  · by_cases c' : -1000000000 ≤ n ∧ n ≤ 1000000000
    · simp only [c, c', and_self, decide_true, if_true, Bool.not_true]
      refine Ev.step (f := fun k => (num_divisor.f k n d).bind fun t => if t > 1 then some 1 else some 0) (fun k => rfl) ?_
      · refine Ev.bind (ev_divisor (by omega) (by omega) (by omega) (by omega) (by omega)) ?_
        by_cases g : Int.gcd n d > 1
        · have g' : ((Int.gcd n d : Nat) : Int) > 1 := by omega
          simp only [g, g', if_true]
          exact Ev.now _
        · have g' : ¬ ((Int.gcd n d : Nat) : Int) > 1 := by omega
          simp only [g, g', if_false]
          exact Ev.now _
    · simp only [c, c', and_self, and_false, decide_true, decide_false, if_true, Bool.not_false, if_false]
      exact Ev.step (f := fun _ => some 3) (fun k => rfl) (Ev.now _)
  · simp only [c, false_and, decide_false, Bool.false_eq_true, if_false]
    exact Ev.step (f := fun _ => some 3) (fun k => rfl) (Ev.now _)
theorem ev_rcheck (n d : Int) : Ev (fun k => withyref01_Check.f k n d) (Chk n d) := by
  unfold withyref01_Check.f Chk
  simp only [in_f, Option.bind_some]
  by_cases c : 1 ≤ d ∧ d ≤ 1000000000
  · by_cases c' : -1000000000 ≤ n ∧ n ≤ 1000000000
    · simp only [c, c', and_self, decide_true, if_true, Bool.not_true]
      refine Ev.step (f := fun k => (withyref01_Of2.f k n d).bind fun t => if t > 1 then some 1 else some 0) (fun k => rfl) ?_
      · refine Ev.bind (ev_of2 (by omega) (by omega) (by omega) (by omega) (by omega)) ?_
        by_cases g : Int.gcd n d > 1
        · have g' : ((Int.gcd n d : Nat) : Int) > 1 := by omega
          simp only [g, g', if_true]
          exact Ev.now _
        · have g' : ¬ ((Int.gcd n d : Nat) : Int) > 1 := by omega
          simp only [g, g', if_false]
          exact Ev.now _
    · simp only [c, c', and_self, and_false, decide_true, decide_false, if_true, Bool.not_false, if_false]
      exact Ev.step (f := fun _ => some 3) (fun k => rfl) (Ev.now _)
  · simp only [c, false_and, decide_false, Bool.false_eq_true, if_false]
    exact Ev.step (f := fun _ => some 3) (fun k => rfl) (Ev.now _)
def Rn (n d : Int) : Int := (if d < 0 then -n else n) / (Int.gcd n d : Int)
def Rd (n d : Int) : Int := (if d < 0 then -d else d) / (Int.gcd n d : Int)
def Fits (n d : Int) : Prop := Rd n d ≤ 1000000000 ∧ (-1000000000 ≤ Rn n d ∧ Rn n d ≤ 1000000000)
instance (n d : Int) : Decidable (Fits n d) := inferInstanceAs (Decidable (_ ∧ _))
def Low (n d : Int) : Int × Int × Int := if Fits n d then (Rn n d, Rd n d, 0) else (0, 0, 8)
def NumE (n d : Int) : Except Int (Int × Int) := if Fits n d then .ok (Rn n d, Rd n d) else .error 0
theorem gcd_pos {n d : Int} (h : d ≠ 0) : 0 < Int.gcd n d := Nat.gcd_pos_of_pos_right _ (by omega)
theorem le_div {a : Int} {g : Nat} (hg : 0 < g) {b : Int} (h : -b ≤ a) (h' : a ≤ b) : -b ≤ a / (g : Int) ∧ a / (g : Int) ≤ b := by
  have hb : 0 ≤ b := by omega
  refine ⟨?_, ?_⟩
  · have : -b ≤ (-b) / (g : Int) := by
      have := Int.le_ediv_of_mul_le (a := -b) (b := -b) (c := (g : Int)) (by omega) (by
        have : (1 : Int) ≤ g := by omega
        have := Int.mul_le_mul_of_nonneg_left this hb
        have e : -b * (g : Int) = -(b * g) := by rw [Int.neg_mul]
        omega)
      exact this
    exact Int.le_trans this (Int.ediv_le_ediv (by omega) h)
  · exact Int.le_trans (Int.ediv_le_ediv (by omega) h') (Int.ediv_le_self _ hb)
theorem core_num (n d : Int) (hn : -9223372036854775807 ≤ n) (hn' : n ≤ 9223372036854775807) (hd : -9223372036854775807 ≤ d) (hd' : d ≤ 9223372036854775807) (h0 : d ≠ 0) :
    wrap64 (Int.tdiv (if d < 0 then wrap64 (-n) else n) (Int.gcd n d)) = Rn n d ∧ wrap64 (Int.tdiv (if d < 0 then wrap64 (-d) else d) (Int.gcd n d)) = Rd n d := by
  have hg := gcd_pos (n := n) h0
  have d1 : ((Int.gcd n d : Nat) : Int) ∣ (if d < 0 then -n else n) := by
    split
    · exact Int.dvd_neg.mpr (Int.gcd_dvd_left ..)
    · exact Int.gcd_dvd_left ..
  have d2 : ((Int.gcd n d : Nat) : Int) ∣ (if d < 0 then -d else d) := by
    split
    · exact Int.dvd_neg.mpr (Int.gcd_dvd_right ..)
    · exact Int.gcd_dvd_right ..
  have e1 : (if d < 0 then wrap64 (-n) else n) = (if d < 0 then -n else n) := by rw [w64 (by omega) (by omega)]
  have e2 : (if d < 0 then wrap64 (-d) else d) = (if d < 0 then -d else d) := by rw [w64 (by omega) (by omega)]
  rw [e1, e2, Int.tdiv_eq_ediv_of_dvd d1, Int.tdiv_eq_ediv_of_dvd d2]
  have b1 := le_div hg (a := if d < 0 then -n else n) (b := 9223372036854775807) (by split <;> omega) (by split <;> omega)
  have b2 := le_div hg (a := if d < 0 then -d else d) (b := 9223372036854775807) (by split <;> omega) (by split <;> omega)
  exact ⟨w64 (by omega) b1.2, w64 (by omega) b2.2⟩
theorem gcd_sign (n d : Int) : Int.gcd (if d < 0 then wrap64 (-n) else n) (if d < 0 then wrap64 (-d) else d) = Int.gcd n d ∨ ¬ (-9223372036854775807 ≤ n ∧ n ≤ 9223372036854775807 ∧ -9223372036854775807 ≤ d ∧ d ≤ 9223372036854775807) := by
  by_cases h : (-9223372036854775807 ≤ n ∧ n ≤ 9223372036854775807 ∧ -9223372036854775807 ≤ d ∧ d ≤ 9223372036854775807)
  · left
    rw [w64 (by omega) (by omega), w64 (by omega) (by omega)]
    split
    · rw [Int.neg_gcd, Int.gcd_neg]
    · rfl
  · exact Or.inr h
theorem ev_num {n d : Int} (hn : -9223372036854775807 ≤ n) (hn' : n ≤ 9223372036854775807) (hd : -9223372036854775807 ≤ d) (hd' : d ≤ 9223372036854775807) (h0 : d ≠ 0) :
    Ev (fun k => num_ratio_num.f k n d) (NumE n d) := by
  have hg := gcd_pos (n := n) h0
  obtain ⟨c1, c2⟩ := core_num n d hn hn' hd hd' h0
  have hs := (gcd_sign n d).resolve_right (by omega)
  refine Ev.congr (f := fun k => num_ratio_num.j0 k (if d < 0 then wrap64 (-n) else n) (if d < 0 then wrap64 (-d) else d)) (fun k => ?_) ?_
  · unfold num_ratio_num.f
    split <;> rfl
  · generalize hN : (if d < 0 then wrap64 (-n) else n) = N at *
    generalize hD : (if d < 0 then wrap64 (-d) else d) = D at *
    have hNr : -9223372036854775807 ≤ N ∧ N ≤ 9223372036854775807 := by rw [← hN, w64 (by omega) (by omega)]; split <;> omega
    have hDr : (-9223372036854775807 ≤ D ∧ D ≤ 9223372036854775807) ∧ D ≠ 0 := by rw [← hD, w64 (by omega) (by omega)]; split <;> omega
    refine Ev.step (f := fun k => (num_divisor.f k N D).bind fun t => if t = 0 then none else if wrap64 (Int.tdiv D t) > 1000000000 then some (.error (0 : Int)) else (num_within.f (-1000000000) 1000000000 [wrap64 (Int.tdiv N t)]).bind fun u => if u = true then some (.ok (ε := Int) (wrap64 (Int.tdiv N t), wrap64 (Int.tdiv D t))) else some (.error (0 : Int))) (fun k => rfl) ?_
    refine Ev.bind (ev_divisor hNr.1 hNr.2 hDr.1.1 hDr.1.2 hDr.2) ?_
    rw [hs]
    simp only [c1, c2, within_1, Option.bind_some]
    refine Ev.isNow fun k => ?_
    rw [if_neg (by omega)]
    unfold NumE
    by_cases a : Rd n d > 1000000000
    · rw [if_pos a, if_neg (fun h : Fits n d => by have := h.1; omega)]
    · rw [if_neg a]
      by_cases b : -1000000000 ≤ Rn n d ∧ Rn n d ≤ 1000000000
      · rw [if_pos (show Fits n d from ⟨by omega, b⟩)]
        simp only [b, and_self, decide_true, if_true]
      · rw [if_neg (fun h : Fits n d => b h.2)]
        simp only [b, decide_false, if_false, Bool.false_eq_true]
theorem ev_low {n d : Int} (hn : -9223372036854775807 ≤ n) (hn' : n ≤ 9223372036854775807) (hd : -9223372036854775807 ≤ d) (hd' : d ≤ 9223372036854775807) (h0 : d ≠ 0) :
    Ev (fun k => withyref01_low.f k n d) (Low n d) := by
  have hg := gcd_pos (n := n) h0
  obtain ⟨c1, c2⟩ := core_num n d hn hn' hd hd' h0
  have hs := (gcd_sign n d).resolve_right (by omega)
  refine Ev.congr (f := fun k => withyref01_low.j0 k (if d < 0 then wrap64 (-n) else n) (if d < 0 then wrap64 (-d) else d)) (fun k => ?_) ?_
  · unfold withyref01_low.f
    split <;> rfl
  · generalize hN : (if d < 0 then wrap64 (-n) else n) = N at *
    generalize hD : (if d < 0 then wrap64 (-d) else d) = D at *
    have hNr : -9223372036854775807 ≤ N ∧ N ≤ 9223372036854775807 := by rw [← hN, w64 (by omega) (by omega)]; split <;> omega
    have hDr : (-9223372036854775807 ≤ D ∧ D ≤ 9223372036854775807) ∧ D ≠ 0 := by rw [← hD, w64 (by omega) (by omega)]; split <;> omega
    refine Ev.step (f := fun k => (withyref01_Of2.f k N D).bind fun t => if t = 0 then none else if wrap64 (Int.tdiv D t) > 1000000000 then some (0, 0, 8) else (withyref01_In.f (wrap64 (Int.tdiv N t)) (-1000000000) 1000000000).bind fun u => if u = true then some (wrap64 (Int.tdiv N t), wrap64 (Int.tdiv D t), 0) else some (0, 0, 8)) (fun k => rfl) ?_
    refine Ev.bind (ev_of2 hNr.1 hNr.2 hDr.1.1 hDr.1.2 hDr.2) ?_
    rw [hs]
    simp only [c1, c2, in_f, Option.bind_some]
    refine Ev.isNow fun k => ?_
    rw [if_neg (by omega)]
    unfold Low
    by_cases a : Rd n d > 1000000000
    · rw [if_pos a, if_neg (fun h : Fits n d => by have := h.1; omega)]
    · rw [if_neg a]
      by_cases b : -1000000000 ≤ Rn n d ∧ Rn n d ≤ 1000000000
      · rw [if_pos (show Fits n d from ⟨by omega, b⟩)]
        simp only [b, and_self, decide_true, if_true]
      · rw [if_neg (fun h : Fits n d => b h.2)]
        simp only [b, decide_false, if_false, Bool.false_eq_true]
theorem exc_num (n d : Int) : exc (NumE n d) (fun _ => some (0, 0, 8)) (fun b => some (b.1, b.2, 0)) = some (Low n d) := by
  unfold NumE Low
  split <;> rfl
def ChkL : List S23 → Int
  | [] => 0
  | a :: l => if Chk a.f0 a.f1 = 0 then ChkL l else Chk a.f0 a.f1
theorem checked_loop (l : List S23) (hl : l.length < 9223372036854775807) : ∀ (m i : Nat), i + m = l.length → Ev (fun k => num_checked.l0 k l (l.length : Int) (i : Int)) (ChkL (l.drop i)) := by
  intro m
  induction m with
  | zero =>
    intro i hi
    rw [List.drop_of_length_le (by omega)]
    refine Ev.step (f := fun _ => some 0) (fun k => ?_) (Ev.now _)
    show (if (i : Int) < (l.length : Int) then _ else _) = _
    rw [if_neg (by omega)]
  | succ m ih =>
    intro i hi
    have hlt : i < l.length := by omega
    have hx : rd_T23 l (i : Int) = l[i] := by
      unfold rd_T23
      rw [Int.toNat_natCast, List.getD_eq_getElem?_getD, List.getElem?_eq_getElem hlt]
      rfl
    rw [List.drop_eq_getElem_cons hlt]
    refine Ev.step (f := fun k => (num_Check.f k (l[i]).f0 (l[i]).f1).bind fun t => if t = 0 then num_checked.l0 k l (l.length : Int) ((i + 1 : Nat) : Int) else some t) (fun k => ?_) ?_
    · show (if (i : Int) < (l.length : Int) then (if 0 ≤ (i : Int) then (if (i : Int) < (l.length : Int) then _ else _) else _) else _) = _
      rw [if_pos (by omega), if_pos (by omega), if_pos (by omega), hx, w64 (by omega) (by omega)]
      rfl
    · refine Ev.bind (ev_check _ _) ?_
      show Ev _ (if Chk l[i].f0 l[i].f1 = 0 then ChkL (l.drop (i + 1)) else Chk l[i].f0 l[i].f1)
      by_cases c : Chk l[i].f0 l[i].f1 = 0
      · simp only [c, if_true]
        exact ih (i + 1) (by omega)
      · simp only [c, if_false]
        exact Ev.now _
theorem ev_checked (l : List S23) (hl : l.length < 9223372036854775807) : Ev (fun k => num_checked.f k l) (ChkL l) := by
  have := checked_loop l hl l.length 0 (by omega)
  rwa [List.drop_zero] at this
def Chk2 (a b c d : Int) : Int := if Chk a b = 0 then Chk c d else Chk a b
theorem ev_checked2 (a b c d : Int) : Ev (fun k => num_checked.f k [(⟨a, b⟩ : S23), ⟨c, d⟩]) (Chk2 a b c d) := by
  have h := ev_checked [(⟨a, b⟩ : S23), ⟨c, d⟩] (by simp)
  have e : ChkL [(⟨a, b⟩ : S23), ⟨c, d⟩] = Chk2 a b c d := by
    show (if Chk a b = 0 then (if Chk c d = 0 then (0 : Int) else Chk c d) else Chk a b) = _
    unfold Chk2
    by_cases x : Chk a b = 0
    · rw [if_pos x, if_pos x]
      by_cases y : Chk c d = 0
      · rw [if_pos y, y]
      · rw [if_neg y]
    · rw [if_neg x, if_neg x]
  rwa [e] at h
theorem ev_both (a b c d : Int) : Ev (fun k => withyref01_both.f k a b c d) (Chk2 a b c d) := by
  unfold withyref01_both.f Chk2
  refine Ev.bind (ev_rcheck _ _) ?_
  by_cases x : Chk a b = 0
  · simp only [x, if_true]
    exact Ev.bind (ev_rcheck _ _) (Ev.now _)
  · simp only [x, if_false]
    exact Ev.now _
/-- a number's fields are in the bounds, and in lowest terms -/
structure Ok (n d : Int) : Prop where
  d1 : 1 ≤ d
  d2 : d ≤ 1000000000
  n1 : -1000000000 ≤ n
  n2 : n ≤ 1000000000
  g : Int.gcd n d = 1
theorem Chk_ok {n d : Int} : Chk n d = 0 ↔ Ok n d := by
  unfold Chk
  constructor
  · intro h
    split at h
    · rename_i c
      split at h
      · exact absurd h (by decide)
      · have := gcd_pos (n := n) (d := d) (by omega)
        exact ⟨c.1.1, c.1.2, c.2.1, c.2.2, by omega⟩
    · exact absurd h (by decide)
  · intro h
    have := h.d1; have := h.d2; have := h.n1; have := h.n2; have := h.g
    rw [if_pos (by omega), if_neg (by omega)]
theorem Chk2_ok {a b c d : Int} : Chk2 a b c d = 0 ↔ Ok a b ∧ Ok c d := by
  unfold Chk2
  rw [← Chk_ok, ← Chk_ok]
  by_cases x : Chk a b = 0
  · simp [x]
  · simp [x]
theorem Ok.mul {a b c d : Int} (h : Ok a b) (k : Ok c d) : (-1000000000000000000 ≤ a * d ∧ a * d ≤ 1000000000000000000) ∧ (-1000000000000000000 ≤ c * b ∧ c * b ≤ 1000000000000000000) ∧ (1 ≤ b * d ∧ b * d ≤ 1000000000000000000) ∧ (-1000000000000000000 ≤ a * c ∧ a * c ≤ 1000000000000000000) ∧ (-1000000000000000000 ≤ b * c ∧ b * c ≤ 1000000000000000000) := by
  have bd : ∀ x y : Int, -1000000000 ≤ x → x ≤ 1000000000 → -1000000000 ≤ y → y ≤ 1000000000 → -1000000000000000000 ≤ x * y ∧ x * y ≤ 1000000000000000000 := by
    intro x y h1 h2 h3 h4
    have a1 : x.natAbs ≤ 1000000000 := by omega
    have a2 : y.natAbs ≤ 1000000000 := by omega
    have a3 := Nat.mul_le_mul a1 a2
    rw [← Int.natAbs_mul] at a3
    omega
  have := h.d1; have := h.d2; have := h.n1; have := h.n2; have := k.d1; have := k.d2; have := k.n1; have := k.n2
  refine ⟨bd _ _ (by omega) (by omega) (by omega) (by omega), bd _ _ (by omega) (by omega) (by omega) (by omega), ⟨?_, (bd b d (by omega) (by omega) (by omega) (by omega)).2⟩, bd _ _ (by omega) (by omega) (by omega) (by omega), bd _ _ (by omega) (by omega) (by omega) (by omega)⟩
  have := Int.mul_le_mul h.d1 k.d1 (by omega) (by omega)
  omega
theorem ev_three {g : Nat → Option (Int × Int × Int)} {R : Int × Int × Int} (h : Ev g R) : Ev (fun k => (g k).bind fun b => some (b.1, b.2.1, b.2.2)) R :=
  Ev.bind h (Ev.now _)
def CmpV (a b c d : Int) : Int := if a * d < c * b then -1 else if a * d > c * b then 1 else 0
theorem compare_f (x y : Int) : cmp_Compare_int.f x y = some (if x < y then -1 else if x > y then 1 else 0) := by
  unfold cmp_Compare_int.f cmp_isNaN_int.f
  simp only [bne_self_eq_false, Option.bind_some, Bool.false_eq_true, if_false]
  by_cases h : x < y
  · rw [if_pos h, if_pos h]
  · rw [if_neg h, if_neg h]
    by_cases k : x > y
    · rw [if_pos k, if_pos k]
    · rw [if_neg k, if_neg k]
theorem ratio_compare {a b c d : Int} (h : Ok a b) (k : Ok c d) : num_ratio_compare.f a b c d = some (CmpV a b c d) := by
  have := h.mul k
  unfold num_ratio_compare.f
  rw [w64 (n := a * d) (by omega) (by omega), w64 (n := c * b) (by omega) (by omega), compare_f]
  rfl
theorem floor_div {n d : Int} (h0 : 1 ≤ d) (h1 : d ≤ 9223372036854775807) (hn : -9223372036854775807 ≤ n) (hn' : n ≤ 9223372036854775807) : num_ratio_floor.f n d = some (n / d) := by
  have b := le_div (a := n) (g := d.toNat) (by omega) hn hn'
  rw [Int.toNat_of_nonneg (by omega)] at b
  have e1 : n.tdiv d = n / d + (if 0 ≤ n ∨ d ∣ n then 0 else 1) := by
    rw [Int.tdiv_eq_ediv]
    have : d.sign = 1 := Int.sign_eq_one_of_pos (by omega)
    rw [this]
  have e2 : n.tmod d = n % d - (if 0 ≤ n ∨ d ∣ n then 0 else d) := by
    rw [Int.tmod_eq_emod]
    by_cases c : 0 ≤ n ∨ d ∣ n
    · rw [if_pos c, if_pos c]
      rfl
    · rw [if_neg c, if_neg c]
      omega
  have p1 := Int.emod_nonneg n (b := d) (by omega)
  have p2 := Int.emod_lt_of_pos n (b := d) (by omega)
  unfold num_ratio_floor.f
  rw [if_neg (by omega), e1, e2]
  by_cases c : 0 ≤ n ∨ d ∣ n
  · rw [if_pos c, if_pos c, if_neg (by omega), Int.add_zero, w64 (by omega) (by omega)]
  · rw [if_neg c, if_neg c, if_pos (by omega)]
    have hneg : n / d < 0 := Int.ediv_neg_of_neg_of_pos (by omega) (by omega)
    rw [w64 (n := n / d + 1) (by omega) (by omega), w64 (by omega) (by omega)]
    congr 1
    omega
theorem under_div {n d : Int} (h0 : 1 ≤ d) (h1 : d ≤ 1000000000) (hn : -4000000000000000000 ≤ n) (hn' : n ≤ 4000000000000000000) : withyref01_under.f n d = some (n / d) := by
  have b := le_div (a := n) (g := d.toNat) (by omega) hn hn'
  rw [Int.toNat_of_nonneg (by omega)] at b
  have p1 := Int.emod_nonneg n (b := d) (by omega)
  have p2 := Int.emod_lt_of_pos n (b := d) (by omega)
  have p3 := Int.emod_add_mul_ediv n d
  unfold withyref01_under.f
  by_cases c : n < 0
  · rw [if_pos c, if_neg (by omega), w64 (n := -n) (by omega) (by omega), w64 (n := -n + d) (by omega) (by omega), w64 (n := -n + d - 1) (by omega) (by omega), Int.tdiv_eq_ediv_of_nonneg (by omega)]
    have e : (-n + d - 1) / d = -(n / d) := by
      have : -n + d - 1 = (d - 1 - n % d) + (-(n / d)) * d := by
        have : d * (n / d) = n / d * d := Int.mul_comm ..
        rw [Int.neg_mul]
        omega
      rw [this, Int.add_mul_ediv_right _ _ (by omega), Int.ediv_eq_zero_of_lt (by omega) (by omega)]
      omega
    rw [e, w64 (n := -(n / d)) (by omega) (by omega), w64 (by omega) (by omega)]
    congr 1
    omega
  · rw [if_neg c, if_neg (by omega), Int.tdiv_eq_ediv_of_nonneg (by omega), w64 (by omega) (by omega)]
theorem ceil_div {n d : Int} (h0 : 1 ≤ d) (h1 : d ≤ 9223372036854775807) (hn : -9223372036854775807 ≤ n) (hn' : n ≤ 9223372036854775807) : num_ratio_ceil.f n d = some (-(-n / d)) := by
  have b := le_div (a := -n) (g := d.toNat) (b := 9223372036854775807) (by omega) (by omega) (by omega)
  rw [Int.toNat_of_nonneg (by omega)] at b
  unfold num_ratio_ceil.f
  rw [w64 (n := -n) (by omega) (by omega), floor_div h0 h1 (by omega) (by omega), Option.bind_some, w64 (by omega) (by omega)]
theorem Low_ok {n d : Int} (h0 : d ≠ 0) (h : Fits n d) : Ok (Rn n d) (Rd n d) := by
  have hg := gcd_pos (n := n) h0
  have e : Int.gcd (if d < 0 then -n else n) (if d < 0 then -d else d) = Int.gcd n d := by
    split
    · rw [Int.neg_gcd, Int.gcd_neg]
    · rfl
  have g1 : Int.gcd (Rn n d) (Rd n d) = 1 := by
    unfold Rn Rd
    rw [← e]
    exact Int.gcd_ediv_gcd_ediv_gcd (by rw [e]; exact hg)
  have hd : 1 ≤ Rd n d := by
    unfold Rd
    have d2 : ((Int.gcd n d : Nat) : Int) ∣ (if d < 0 then -d else d) := by
      split
      · exact Int.dvd_neg.mpr (Int.gcd_dvd_right ..)
      · exact Int.gcd_dvd_right ..
    have := Int.ediv_pos_of_pos_of_dvd (a := if d < 0 then -d else d) (b := (Int.gcd n d : Int)) (by split <;> omega) (by omega) d2
    omega
  exact ⟨hd, h.1, h.2.1, h.2.2, g1⟩
theorem exc_numK {β : Type} (n d : Int) (f : Option β) (g : Int → Int → Option β) : exc (NumE n d) (fun _ => f) (fun b => g b.1 b.2) = if Fits n d then g (Rn n d) (Rd n d) else f := by
  unfold NumE
  split <;> rfl
def Btw (ln ld hn hd s t : Int) : Prop := 0 < t ∧ ln * t < s * ld ∧ s * hd < hn * t
theorem Btw_shift (f ln ld hn hd s t : Int) : Btw ln ld hn hd s t ↔ Btw (ln - f * ld) ld (hn - f * hd) hd (s - f * t) t := by
  unfold Btw
  have e1 : (ln - f * ld) * t = ln * t - f * ld * t := Int.sub_mul ..
  have e2 : (s - f * t) * ld = s * ld - f * t * ld := Int.sub_mul ..
  have e3 : (s - f * t) * hd = s * hd - f * t * hd := Int.sub_mul ..
  have e4 : (hn - f * hd) * t = hn * t - f * hd * t := Int.sub_mul ..
  have e5 : f * t * ld = f * ld * t := by grind
  have e6 : f * t * hd = f * hd * t := by grind
  rw [e1, e2, e3, e4, e5, e6]
  constructor
  · rintro ⟨a, b, c⟩
    exact ⟨a, by omega, by omega⟩
  · rintro ⟨a, b, c⟩
    exact ⟨a, by omega, by omega⟩
theorem pos_of_mul {a b : Int} (hb : 0 < b) (h : 0 < a * b) : 0 < a := by
  rcases Int.lt_or_le 0 a with c | c
  · exact c
  · have := Int.mul_le_mul_of_nonneg_right c (Int.le_of_lt hb)
    omega
/-- no other one is simpler: of those between r / ld and g / hd -/
def Simp (r ld g hd u q : Int) : Prop := Btw r ld g hd u q ∧ ∀ v t, Btw r ld g hd v t → q ≤ t ∧ u ≤ v ∧ (g ≤ hd → q - u ≤ t - v)
theorem Btw_pos {r ld g hd v t : Int} (hr : 0 ≤ r) (hld : 0 < ld) (h : Btw r ld g hd v t) : 0 < v := by
  have := Int.mul_nonneg hr (Int.le_of_lt h.1)
  have := h.2.1
  exact pos_of_mul hld (by omega)
theorem Simp_one {r ld g hd : Int} (hr : 0 ≤ r) (hld : r < ld) (h : hd < g) : Simp r ld g hd 1 1 := by
  refine ⟨⟨by omega, by omega, by omega⟩, fun v t hb => ?_⟩
  have := Btw_pos hr (by omega) hb
  have := hb.1
  exact ⟨by omega, by omega, fun _ => by omega⟩
theorem Simp_rec {r ld g hd f' u' q' : Int} (hr : 0 ≤ r) (hld : r < ld) (hhd : 0 < hd) (hg : 0 < g) (hf : 1 ≤ f') (h : Simp (hd - f' * g) g (ld - f' * r) r u' q') : Simp r ld g hd q' (f' * q' + u') := by
  obtain ⟨h1, h2⟩ := h
  have e : f' * q' + u' - f' * q' = u' := by omega
  have b1 : Btw hd g ld r (f' * q' + u') q' := (Btw_shift f' hd g ld r _ _).mpr (by rw [e]; exact h1)
  have p0 : 0 < f' * q' + u' := Btw_pos (Int.le_of_lt hhd) hg b1
  refine ⟨⟨p0, ?_, ?_⟩, fun v t hb => ?_⟩
  · have := b1.2.2
    rw [Int.mul_comm r, Int.mul_comm q']
    exact this
  · have := b1.2.1
    rw [Int.mul_comm q', Int.mul_comm g]
    exact this
  · have hv := Btw_pos hr (by omega) hb
    have b2 : Btw hd g ld r t v := ⟨hv, by have := hb.2.2; rw [Int.mul_comm hd, Int.mul_comm t]; exact this, by have := hb.2.1; rw [Int.mul_comm t, Int.mul_comm ld]; exact this⟩
    obtain ⟨c1, c2, _⟩ := h2 _ _ ((Btw_shift f' hd g ld r t v).mp b2)
    have m1 : f' * q' ≤ f' * v := Int.mul_le_mul_of_nonneg_left c1 (by omega)
    have m2 : (f' - 1) * q' ≤ (f' - 1) * v := Int.mul_le_mul_of_nonneg_left c1 (by omega)
    rw [Int.sub_mul, Int.sub_mul, Int.one_mul, Int.one_mul] at m2
    exact ⟨by omega, c1, fun _ => by omega⟩
theorem Btw_mid {r ld g hd : Int} (hr : 0 ≤ r) (hld : 0 < ld) (hhd : 0 ≤ hd) (h : r * hd < g * ld) : Btw r ld g hd (r + g) (ld + hd) := by
  have e1 : r * (ld + hd) = r * ld + r * hd := Int.mul_add ..
  have e2 : (r + g) * ld = r * ld + g * ld := Int.add_mul ..
  have e3 : (r + g) * hd = r * hd + g * hd := Int.add_mul ..
  have e4 : g * (ld + hd) = g * ld + g * hd := Int.mul_add ..
  exact ⟨by omega, by omega, by omega⟩
theorem prod_le {a b M N : Int} (h0 : 0 ≤ a) (h1 : a ≤ M) (h2 : 0 ≤ b) (h3 : b ≤ N) : 0 ≤ a * b ∧ a * b ≤ M * N := ⟨Int.mul_nonneg h0 h2, Int.mul_le_mul h1 h3 h2 (by omega)⟩
theorem simplest_step (k : Nat) (ln ld hn hd : Int) (f : Int) (hfl : num_ratio_floor.f ln ld = some f) (hf : -1000000001 ≤ f ∧ f ≤ 1000000000) (hhd : 0 ≤ hd ∧ hd ≤ 1000000000) (hld : 0 < ld ∧ ld ≤ 1000000000) :
    num_simplest.f (k + 1) ln ld hn hd = if hd > 0 then num_simplest.j0 k f (f + 1) (decide ((f + 1) * hd ≥ hn)) ln ld hn hd else num_simplest.j0 k f (f + 1) false ln ld hn hd := by
  show (num_ratio_floor.f ln ld).bind _ = _
  rw [hfl, Option.bind_some]
  have n1 : (f + 1).natAbs ≤ 1000000001 := by omega
  have n2 : hd.natAbs ≤ 1000000000 := by omega
  have n3 := Nat.mul_le_mul n1 n2
  rw [← Int.natAbs_mul] at n3
  rw [w64 (n := f + 1) (by omega) (by omega), w64 (n := (f + 1) * hd) (by omega) (by omega)]
/-- from 0 on, by rounds -/
theorem simplest_pos : ∀ (N : Nat) (ln ld hn hd : Int), ld + hd ≤ N → 0 ≤ ln ∧ ln ≤ 1000000000 → 0 < ld ∧ ld ≤ 1000000000 → hn ≤ 1000000000 → 0 ≤ hd ∧ hd ≤ 1000000000 → ln * hd < hn * ld →
    ∃ u q, Ev (fun k => num_simplest.f k ln ld hn hd) (ln / ld * q + u, q) ∧ Simp (ln - ln / ld * ld) ld (hn - ln / ld * hd) hd u q := by
  intro N
  induction N with
  | zero => intro ln ld hn hd h _ h2 _ h4 _; omega
  | succ N ih =>
    intro ln ld hn hd hN hln hld hhn hhd hlt
    have hfl := floor_div (n := ln) (d := ld) (by omega) (by omega) (by omega) (by omega)
    have m1 := Int.emod_nonneg ln (b := ld) (by omega)
    have m2 := Int.emod_lt_of_pos ln (b := ld) (by omega)
    have m3 := Int.emod_add_mul_ediv ln ld
    have m4 : ld * (ln / ld) = ln / ld * ld := Int.mul_comm ..
    have f0 : 0 ≤ ln / ld := Int.ediv_nonneg hln.1 (by omega)
    have f1 : ln / ld ≤ ln := Int.ediv_le_self _ hln.1
    generalize ln / ld = f at hfl m3 m4 f0 f1 ⊢
    have hr0 : 0 ≤ ln - f * ld := by omega
    have hr1 : ln - f * ld < ld := by omega
    have sh : (ln - f * ld) * hd < (hn - f * hd) * ld := by
      have e1 : (ln - f * ld) * hd = ln * hd - f * ld * hd := Int.sub_mul ..
      have e2 : (hn - f * hd) * ld = hn * ld - f * hd * ld := Int.sub_mul ..
      have e3 : f * ld * hd = f * hd * ld := by grind
      omega
    have g0 : 0 < hn - f * hd := by
      have := Int.mul_nonneg hr0 hhd.1
      exact pos_of_mul hld.1 (by omega)
    have pf := prod_le (a := f) (b := hd) (M := 1000000000) (N := 1000000000) f0 (by omega) hhd.1 hhd.2
    have hst := fun k => simplest_step k ln ld hn hd f hfl (by omega) hhd hld
    have nx : (f + 1) * hd = f * hd + hd := by rw [Int.add_mul, Int.one_mul]
    by_cases c : 0 < hd ∧ hn - f * hd ≤ hd
    · -- what is left lies between two others, turned over
      have gle := c.2
      have e1 := Int.ediv_mul_le hd (b := hn - f * hd) (by omega)
      have f'1 : 1 ≤ hd / (hn - f * hd) := by
        rw [Int.le_ediv_iff_mul_le g0]
        omega
      obtain ⟨u', q', hev, hs⟩ := ih hd (hn - f * hd) ld (ln - f * ld) (by omega) ⟨hhd.1, hhd.2⟩ ⟨g0, by omega⟩ hld.2 ⟨hr0, by omega⟩ (by rw [Int.mul_comm hd, Int.mul_comm ld]; exact sh)
      have key := Simp_rec hr0 hr1 c.1 g0 f'1 hs
      generalize hd / (hn - f * hd) * q' + u' = p' at hev key
      refine ⟨q', p', ?_, key⟩
      have mid := key.2 _ _ (Btw_mid hr0 hld.1 hhd.1 sh)
      have k1 := key.1.1
      have pq := prod_le (a := f) (b := p') (M := 1000000000) (N := 2000000000) f0 (by omega) (by omega) (by omega)
      have kq := Btw_pos hr0 hld.1 key.1
      refine Ev.step (f := fun k => num_simplest.j0 k f (f + 1) true ln ld hn hd) (fun k => ?_) ?_
      · rw [hst k, if_pos c.1, decide_eq_true (show (f + 1) * hd ≥ hn by omega)]
      · refine Ev.step (f := fun k => (num_simplest.f k hd (hn - f * hd) ld (ln - f * ld)).bind fun b => some (wrap64 ((wrap64 (f * b.1)) + b.2), b.1)) (fun k => ?_) ?_
        · show (num_simplest.f k hd (wrap64 (hn - wrap64 (f * hd))) ld (wrap64 (ln - wrap64 (f * ld)))).bind _ = _
          rw [w64 (n := f * hd) (by omega) (by omega), w64 (n := f * ld) (by omega) (by omega), w64 (n := hn - f * hd) (by omega) (by omega), w64 (n := ln - f * ld) (by omega) (by omega)]
        · refine Ev.bind hev ?_
          rw [w64 (n := f * p') (by omega) (by omega), w64 (n := f * p' + q') (by omega) (by omega)]
          exact Ev.now _
    · refine ⟨1, 1, ?_, Simp_one hr0 hr1 (by omega)⟩
      rw [Int.mul_one]
      refine Ev.step (f := fun k => num_simplest.j0 k f (f + 1) false ln ld hn hd) (fun k => ?_) ?_
      · rw [hst k]
        by_cases d : hd > 0
        · rw [if_pos d, decide_eq_false (show ¬ (f + 1) * hd ≥ hn by omega)]
        · rw [if_neg d]
      · refine Ev.step (f := fun k => num_simplest.j1 k (f + 1) true hn hd) (fun k => ?_) (Ev.step (f := fun _ => some (mx (f + 1) 0, 1)) (fun k => rfl) ?_)
        · show (if f + 1 ≥ 0 then _ else _) = _
          rw [if_pos (by omega)]
        · unfold mx
          rw [if_neg (by omega)]
          exact Ev.now _
theorem simplest_top {an ad bn bd : Int} (ha : Ok an ad) (hb : Ok bn bd) (hlt : an * bd < bn * ad) :
    ∃ p q, Ev (fun k => num_simplest.f k an ad bn bd) (p, q) ∧ Btw an ad bn bd p q ∧ (∀ s t, Btw an ad bn bd s t → q ≤ t ∧ p.natAbs ≤ s.natAbs ∧ (p < 0 → s < 0)) ∧ (-4000000000000000000 ≤ p ∧ p ≤ 4000000000000000000) ∧ q ≤ 2000000000 := by
  have a1 := ha.d1; have a2 := ha.d2; have a3 := ha.n1; have a4 := ha.n2
  have b1 := hb.d1; have b2 := hb.d2; have b3 := hb.n1; have b4 := hb.n2
  have hfl := floor_div (n := an) (d := ad) (by omega) (by omega) (by omega) (by omega)
  have m1 := Int.emod_nonneg an (b := ad) (by omega)
  have m2 := Int.emod_lt_of_pos an (b := ad) (by omega)
  have m3 := Int.emod_add_mul_ediv an ad
  have m4 : ad * (an / ad) = an / ad * ad := Int.mul_comm ..
  have fb := le_div (a := an) (g := ad.toNat) (b := 1000000000) (by omega) (by omega) (by omega)
  rw [Int.toNat_of_nonneg (by omega)] at fb
  generalize an / ad = f at hfl m3 m4 fb ⊢
  have hr0 : 0 ≤ an - f * ad := by omega
  have hr1 : an - f * ad < ad := by omega
  have sh : (an - f * ad) * bd < (bn - f * bd) * ad := by
    have e1 : (an - f * ad) * bd = an * bd - f * ad * bd := Int.sub_mul ..
    have e2 : (bn - f * bd) * ad = bn * ad - f * bd * ad := Int.sub_mul ..
    have e3 : f * ad * bd = f * bd * ad := by grind
    omega
  have g0 : 0 < bn - f * bd := by
    have := Int.mul_nonneg hr0 (show 0 ≤ bd by omega)
    exact pos_of_mul (b := ad) (by omega) (by omega)
  have pf : -1000000000000000000 ≤ f * bd ∧ f * bd ≤ 1000000000000000000 := by
    have n1 : f.natAbs ≤ 1000000000 := by omega
    have n2 : bd.natAbs ≤ 1000000000 := by omega
    have n3 := Nat.mul_le_mul n1 n2
    rw [← Int.natAbs_mul] at n3
    omega
  have hst := fun k => simplest_step k an ad bn bd f hfl (by omega) (by omega) (by omega)
  have nx : (f + 1) * bd = f * bd + bd := by rw [Int.add_mul, Int.one_mul]
  by_cases c : bn - f * bd ≤ bd
  · have f'1 : 1 ≤ bd / (bn - f * bd) := by
      rw [Int.le_ediv_iff_mul_le g0]
      omega
    obtain ⟨u', q', hev, hs⟩ := simplest_pos (ad + bn - f * bd).toNat bd (bn - f * bd) ad (an - f * ad) (by omega) ⟨by omega, by omega⟩ ⟨g0, by omega⟩ a2 ⟨hr0, by omega⟩ (by rw [Int.mul_comm bd, Int.mul_comm ad]; exact sh)
    have key := Simp_rec hr0 hr1 (by omega) g0 f'1 hs
    generalize bd / (bn - f * bd) * q' + u' = p' at hev key
    have mid := key.2 _ _ (Btw_mid hr0 (by omega) (by omega) sh)
    have k1 := key.1.1
    have kq := Btw_pos hr0 (by omega) key.1
    have klt : q' < p' := by
      have h1 := key.1.2.2
      have h2 : (bn - f * bd) * p' ≤ bd * p' := Int.mul_le_mul_of_nonneg_right c (by omega)
      have h3 : q' * bd < p' * bd := by rw [Int.mul_comm p']; omega
      exact Int.lt_of_mul_lt_mul_right h3 (by omega)
    have pq : -2000000000000000000 ≤ f * p' ∧ f * p' ≤ 2000000000000000000 := by
      have n1 : f.natAbs ≤ 1000000000 := by omega
      have n2 : p'.natAbs ≤ 2000000000 := by omega
      have n3 := Nat.mul_le_mul n1 n2
      rw [← Int.natAbs_mul] at n3
      omega
    have e : f * p' + q' - f * p' = q' := by omega
    refine ⟨f * p' + q', p', ?_, (Btw_shift f an ad bn bd _ _).mpr (by rw [e]; exact key.1), fun s t h => ?_, by omega, by omega⟩
    · refine Ev.step (f := fun k => num_simplest.j0 k f (f + 1) true an ad bn bd) (fun k => ?_) ?_
      · rw [hst k, if_pos (by omega), decide_eq_true (show (f + 1) * bd ≥ bn by omega)]
      · refine Ev.step (f := fun k => (num_simplest.f k bd (bn - f * bd) ad (an - f * ad)).bind fun b => some (wrap64 ((wrap64 (f * b.1)) + b.2), b.1)) (fun k => ?_) ?_
        · show (num_simplest.f k bd (wrap64 (bn - wrap64 (f * bd))) ad (wrap64 (an - wrap64 (f * ad)))).bind _ = _
          rw [w64 (n := f * bd) (by omega) (by omega), w64 (n := f * ad) (by omega) (by omega), w64 (n := bn - f * bd) (by omega) (by omega), w64 (n := an - f * ad) (by omega) (by omega)]
        · refine Ev.bind hev ?_
          rw [w64 (n := f * p') (by omega) (by omega), w64 (n := f * p' + q') (by omega) (by omega)]
          exact Ev.now _
    · obtain ⟨c1, c2, c3⟩ := key.2 _ _ ((Btw_shift f an ad bn bd s t).mp h)
      have c3 := c3 c
      refine ⟨c1, ?_⟩
      by_cases fz : 0 ≤ f
      · have m5 : f * p' ≤ f * t := Int.mul_le_mul_of_nonneg_left c1 fz
        have m6 := Int.mul_nonneg fz (show 0 ≤ p' by omega)
        exact ⟨by omega, fun _ => by omega⟩
      · have m5 : (-f - 1) * p' ≤ (-f - 1) * t := Int.mul_le_mul_of_nonneg_left c1 (by omega)
        have m6 := Int.mul_nonneg (show 0 ≤ -f - 1 by omega) (show 0 ≤ p' by omega)
        rw [Int.sub_mul, Int.one_mul, Int.neg_mul] at m5 m6
        rw [Int.sub_mul, Int.one_mul, Int.neg_mul] at m5
        exact ⟨by omega, fun _ => by omega⟩
  · have s1 : Simp (an - f * ad) ad (bn - f * bd) bd 1 1 := Simp_one hr0 hr1 (by omega)
    have j0 : ∀ k, num_simplest.f (k + 1) an ad bn bd = num_simplest.j0 k f (f + 1) false an ad bn bd := fun k => by
      rw [hst k, if_pos (by omega), decide_eq_false (show ¬ (f + 1) * bd ≥ bn by omega)]
    by_cases n : 0 ≤ f + 1
    · refine ⟨f + 1, 1, ?_, (Btw_shift f an ad bn bd _ _).mpr (by rw [Int.mul_one, show f + 1 - f = 1 by omega]; exact s1.1), fun s t h => ?_, by omega, by omega⟩
      · refine Ev.step j0 (Ev.step (f := fun k => num_simplest.j1 k (f + 1) true bn bd) (fun k => ?_) (Ev.step (f := fun _ => some (mx (f + 1) 0, 1)) (fun k => rfl) ?_))
        · show (if f + 1 ≥ 0 then _ else _) = _
          rw [if_pos (by omega)]
        · unfold mx
          rw [if_neg (by omega)]
          exact Ev.now _
      · obtain ⟨c1, c2, _⟩ := s1.2 _ _ ((Btw_shift f an ad bn bd s t).mp h)
        refine ⟨c1, ?_, fun _ => by omega⟩
        by_cases fz : 0 ≤ f
        · have m5 : f * 1 ≤ f * t := Int.mul_le_mul_of_nonneg_left c1 fz
          omega
        · omega
    · have st : ∀ k, num_simplest.j0 (k + 1) f (f + 1) false an ad bn bd = num_simplest.j1 k (f + 1) false bn bd := fun k => by
        show (if f + 1 ≥ 0 then _ else num_simplest.j1 k (f + 1) (bd == 0) bn bd) = _
        rw [if_neg (by omega), beq_eq_false_iff_ne.mpr (by omega)]
      by_cases z : bn > 0
      · refine ⟨0, 1, Ev.step j0 (Ev.step st (Ev.step (f := fun _ => some (0, 1)) (fun k => ?_) (Ev.now _))), ⟨by omega, ?_, by omega⟩, fun s t h => ⟨by have := h.1; omega, by omega, fun h => by omega⟩, by omega, by omega⟩
        · show (if bn > 0 then _ else _) = _
          rw [if_pos z]
        · have h1 : f * ad ≤ (-2) * ad := Int.mul_le_mul_of_nonneg_right (by omega) (by omega)
          omega
      · have hc := ceil_div (n := bn) (d := bd) (by omega) (by omega) (by omega) (by omega)
        have q1 := Int.emod_nonneg (-bn) (b := bd) (by omega)
        have q2 := Int.emod_lt_of_pos (-bn) (b := bd) (by omega)
        have q3 := Int.emod_add_mul_ediv (-bn) bd
        have q4 : bd * (-bn / bd) = -bn / bd * bd := Int.mul_comm ..
        have q5 := le_div (a := -bn) (g := bd.toNat) (b := 1000000000) (by omega) (by omega) (by omega)
        rw [Int.toNat_of_nonneg (by omega)] at q5
        have q6 : 0 ≤ -bn / bd := Int.ediv_nonneg (by omega) (by omega)
        generalize -bn / bd = c' at hc q3 q4 q5 q6
        have low : (-c' - 1) * bd < bn := by
          rw [Int.sub_mul, Int.neg_mul, Int.one_mul]
          omega
        have up : bn ≤ -c' * bd := by
          rw [Int.neg_mul]
          omega
        have fc : f + 1 ≤ -c' - 1 := by
          have h1 : (f + 1) * bd < -c' * bd := by omega
          have := Int.lt_of_mul_lt_mul_right h1 (by omega)
          omega
        refine ⟨-c' - 1, 1, Ev.step j0 (Ev.step st (Ev.step (f := fun _ => some (-c' - 1, 1)) (fun k => ?_) (Ev.now _))), ⟨by omega, ?_, by omega⟩, fun s t h => ⟨by have := h.1; omega, ?_⟩, by omega, by omega⟩
        · show (if bn > 0 then _ else (num_ratio_ceil.f bn bd).bind fun t => some (wrap64 (t - 1), 1)) = _
          rw [if_neg z, hc, Option.bind_some, w64 (by omega) (by omega)]
        · have h1 : (f + 1) * ad ≤ (-c' - 1) * ad := Int.mul_le_mul_of_nonneg_right fc (by omega)
          rw [Int.add_mul, Int.one_mul] at h1
          omega
        · have h1 := h.2.2
          have h0 := h.1
          have h2 : bn * t ≤ -c' * bd * t := Int.mul_le_mul_of_nonneg_right up (by omega)
          have h3 : -c' * bd * t = (-c' * t) * bd := by grind
          have h4 : s < -c' * t := Int.lt_of_mul_lt_mul_right (a := bd) (by omega) (by omega)
          have h5 : c' * 1 ≤ c' * t := Int.mul_le_mul_of_nonneg_left (by omega) q6
          rw [Int.neg_mul] at h4
          exact ⟨by omega, fun _ => by omega⟩
theorem between_step (k : Nat) (ln ld hn hd : Int) (f : Int) (hfl : withyref01_under.f ln ld = some f) (hf : -1000000001 ≤ f ∧ f ≤ 1000000000) (hhd : 0 ≤ hd ∧ hd ≤ 1000000000) :
    withyref01_between.f (k + 1) ln ld hn hd = if hd = 0 then withyref01_between.j0 k f true ln ld hn hd else withyref01_between.j0 k f (decide ((f + 1) * hd < hn)) ln ld hn hd := by
  show (withyref01_under.f ln ld).bind _ = _
  rw [hfl, Option.bind_some]
  have n1 : (f + 1).natAbs ≤ 1000000001 := by omega
  have n2 : hd.natAbs ≤ 1000000000 := by omega
  have n3 := Nat.mul_le_mul n1 n2
  rw [← Int.natAbs_mul] at n3
  rw [w64 (n := f + 1) (by omega) (by omega), w64 (n := (f + 1) * hd) (by omega) (by omega)]
theorem both_turn {ln ld hn hd f : Int} (hfl : num_ratio_floor.f ln ld = some f) (hfr : withyref01_under.f ln ld = some f) (hf : -1000000001 ≤ f ∧ f ≤ 1000000000) (hhd : 0 < hd ∧ hd ≤ 1000000000) (hld : 0 < ld ∧ ld ≤ 1000000000) (c : hn ≤ (f + 1) * hd)
    (b1 : -4000000000000000000 ≤ hn - f * hd ∧ hn - f * hd ≤ 4000000000000000000) (b2 : -4000000000000000000 ≤ ln - f * ld ∧ ln - f * ld ≤ 4000000000000000000)
    {r : Int × Int} (h1 : Ev (fun k => num_simplest.f k hd (hn - f * hd) ld (ln - f * ld)) r) (h2 : Ev (fun k => withyref01_between.f k hd (hn - f * hd) ld (ln - f * ld)) r) :
    ∃ r, Ev (fun k => num_simplest.f k ln ld hn hd) r ∧ Ev (fun k => withyref01_between.f k ln ld hn hd) r := by
  have n1 : f.natAbs ≤ 1000000001 := by omega
  have n2 : hd.natAbs ≤ 1000000000 := by omega
  have n3 := Nat.mul_le_mul n1 n2
  rw [← Int.natAbs_mul] at n3
  have n4 : ld.natAbs ≤ 1000000000 := by omega
  have n5 := Nat.mul_le_mul n1 n4
  rw [← Int.natAbs_mul] at n5
  have w1 : wrap64 (f * hd) = f * hd := w64 (by omega) (by omega)
  have w2 : wrap64 (f * ld) = f * ld := w64 (by omega) (by omega)
  have w3 : wrap64 (hn - f * hd) = hn - f * hd := w64 (by omega) (by omega)
  have w4 : wrap64 (ln - f * ld) = ln - f * ld := w64 (by omega) (by omega)
  refine ⟨(wrap64 (wrap64 (f * r.1) + r.2), r.1), ?_, ?_⟩
  · refine Ev.step (f := fun k => num_simplest.j0 k f (f + 1) true ln ld hn hd) (fun k => ?_) ?_
    · rw [simplest_step k ln ld hn hd f hfl hf ⟨by omega, hhd.2⟩ hld, if_pos hhd.1, decide_eq_true (show (f + 1) * hd ≥ hn from c)]
    · refine Ev.step (f := fun k => (num_simplest.f k hd (hn - f * hd) ld (ln - f * ld)).bind fun b => some (wrap64 ((wrap64 (f * b.1)) + b.2), b.1)) (fun k => ?_) (Ev.bind h1 (Ev.now _))
      show (num_simplest.f k hd (wrap64 (hn - wrap64 (f * hd))) ld (wrap64 (ln - wrap64 (f * ld)))).bind _ = _
      rw [w1, w2, w3, w4]
  · refine Ev.step (f := fun k => withyref01_between.j0 k f false ln ld hn hd) (fun k => ?_) ?_
    · rw [between_step k ln ld hn hd f hfr hf ⟨by omega, hhd.2⟩, if_neg (by omega), decide_eq_false (by omega)]
    · refine Ev.step (f := fun k => (withyref01_between.f k hd (hn - f * hd) ld (ln - f * ld)).bind fun b => some (wrap64 (b.2 + (wrap64 (f * b.1))), b.1)) (fun k => ?_) ?_
      · show (withyref01_between.f k hd (wrap64 (hn - wrap64 (f * hd))) ld (wrap64 (ln - wrap64 (f * ld)))).bind _ = _
        rw [w1, w2, w3, w4]
      · refine Ev.bind h2 ?_
        rw [Int.add_comm r.2]
        exact Ev.now _
/-- a whole number lies between, and none below 0 -/
theorem both_whole {ln ld hn hd f : Int} (hfl : num_ratio_floor.f ln ld = some f) (hfr : withyref01_under.f ln ld = some f) (hf : -1 ≤ f ∧ f ≤ 1000000000) (h0 : 0 ≤ ln) (f0 : 0 ≤ f) (hhd : 0 ≤ hd ∧ hd ≤ 1000000000) (hld : 0 < ld ∧ ld ≤ 1000000000) (c : 0 < hd → (f + 1) * hd < hn) :
    ∃ r, Ev (fun k => num_simplest.f k ln ld hn hd) r ∧ Ev (fun k => withyref01_between.f k ln ld hn hd) r := by
  refine ⟨(f + 1, 1), ?_, ?_⟩
  · refine Ev.step (f := fun k => num_simplest.j0 k f (f + 1) false ln ld hn hd) (fun k => ?_) ?_
    · rw [simplest_step k ln ld hn hd f hfl (by omega) hhd hld]
      by_cases d : hd > 0
      · rw [if_pos d, decide_eq_false (show ¬ (f + 1) * hd ≥ hn by have := c d; omega)]
      · rw [if_neg d]
    · refine Ev.step (f := fun k => num_simplest.j1 k (f + 1) true hn hd) (fun k => ?_) (Ev.step (f := fun _ => some (mx (f + 1) 0, 1)) (fun k => rfl) ?_)
      · show (if f + 1 ≥ 0 then _ else _) = _
        rw [if_pos (by omega)]
      · unfold mx
        rw [if_neg (by omega)]
        exact Ev.now _
  · refine Ev.step (f := fun k => withyref01_between.j0 k f true ln ld hn hd) (fun k => ?_) ?_
    · rw [between_step k ln ld hn hd f hfr (by omega) hhd]
      by_cases d : hd = 0
      · rw [if_pos d]
      · rw [if_neg d, decide_eq_true (c (by omega))]
    · refine Ev.step (f := fun k => withyref01_between.j1 k f false ln ld hn hd) (fun k => ?_) (Ev.step (f := fun k => withyref01_between.j2 k f true hn hd) (fun k => ?_) (Ev.step (f := fun _ => some (f + 1, 1)) (fun k => ?_) (Ev.now _)))
      · show (if ln < 0 then _ else _) = _
        rw [if_neg (by omega)]
      · show (if ln ≥ 0 then _ else _) = _
        rw [if_pos (by omega)]
      · show some (wrap64 (f + 1), (1 : Int)) = _
        rw [w64 (by omega) (by omega)]
theorem both_pos : ∀ (N : Nat) (ln ld hn hd : Int), ld + hd ≤ N → 0 ≤ ln ∧ ln ≤ 1000000000 → 0 < ld ∧ ld ≤ 1000000000 → hn ≤ 1000000000 → 0 ≤ hd ∧ hd ≤ 1000000000 → ln * hd < hn * ld →
    ∃ r, Ev (fun k => num_simplest.f k ln ld hn hd) r ∧ Ev (fun k => withyref01_between.f k ln ld hn hd) r := by
  intro N
  induction N with
  | zero => intro ln ld hn hd h _ h2 _ h4 _; omega
  | succ N ih =>
    intro ln ld hn hd hN hln hld hhn hhd hlt
    have hfl := floor_div (n := ln) (d := ld) (by omega) (by omega) (by omega) (by omega)
    have hfr := under_div (n := ln) (d := ld) (by omega) (by omega) (by omega) (by omega)
    have m1 := Int.emod_nonneg ln (b := ld) (by omega)
    have m2 := Int.emod_lt_of_pos ln (b := ld) (by omega)
    have m3 := Int.emod_add_mul_ediv ln ld
    have m4 : ld * (ln / ld) = ln / ld * ld := Int.mul_comm ..
    have f0 : 0 ≤ ln / ld := Int.ediv_nonneg hln.1 (by omega)
    have f1 : ln / ld ≤ ln := Int.ediv_le_self _ hln.1
    generalize ln / ld = f at hfl hfr m3 m4 f0 f1 ⊢
    have hr0 : 0 ≤ ln - f * ld := by omega
    have sh : (ln - f * ld) * hd < (hn - f * hd) * ld := by
      have e1 : (ln - f * ld) * hd = ln * hd - f * ld * hd := Int.sub_mul ..
      have e2 : (hn - f * hd) * ld = hn * ld - f * hd * ld := Int.sub_mul ..
      have e3 : f * ld * hd = f * hd * ld := by grind
      omega
    have g0 : 0 < hn - f * hd := by
      have := Int.mul_nonneg hr0 hhd.1
      exact pos_of_mul hld.1 (by omega)
    have nx : (f + 1) * hd = f * hd + hd := by rw [Int.add_mul, Int.one_mul]
    by_cases c : 0 < hd ∧ hn - f * hd ≤ hd
    · obtain ⟨r, h1, h2⟩ := ih hd (hn - f * hd) ld (ln - f * ld) (by omega) ⟨hhd.1, hhd.2⟩ ⟨g0, by omega⟩ hld.2 ⟨hr0, by omega⟩ (by rw [Int.mul_comm hd, Int.mul_comm ld]; exact sh)
      exact both_turn hfl hfr (by omega) ⟨c.1, hhd.2⟩ hld (by omega) (by omega) (by omega) h1 h2
    · exact both_whole hfl hfr (by omega) hln.1 f0 hhd hld (fun d => by omega)
theorem both_top {an ad bn bd : Int} (ha : Ok an ad) (hb : Ok bn bd) (hlt : an * bd < bn * ad) :
    ∃ r, Ev (fun k => num_simplest.f k an ad bn bd) r ∧ Ev (fun k => withyref01_between.f k an ad bn bd) r := by
  have a1 := ha.d1; have a2 := ha.d2; have a3 := ha.n1; have a4 := ha.n2
  have b1 := hb.d1; have b2 := hb.d2; have b3 := hb.n1; have b4 := hb.n2
  have hfl := floor_div (n := an) (d := ad) (by omega) (by omega) (by omega) (by omega)
  have hfr := under_div (n := an) (d := ad) (by omega) (by omega) (by omega) (by omega)
  have m1 := Int.emod_nonneg an (b := ad) (by omega)
  have m2 := Int.emod_lt_of_pos an (b := ad) (by omega)
  have m3 := Int.emod_add_mul_ediv an ad
  have m4 : ad * (an / ad) = an / ad * ad := Int.mul_comm ..
  have fb := le_div (a := an) (g := ad.toNat) (b := 1000000000) (by omega) (by omega) (by omega)
  rw [Int.toNat_of_nonneg (by omega)] at fb
  generalize an / ad = f at hfl hfr m3 m4 fb ⊢
  have hr0 : 0 ≤ an - f * ad := by omega
  have sh : (an - f * ad) * bd < (bn - f * bd) * ad := by
    have e1 : (an - f * ad) * bd = an * bd - f * ad * bd := Int.sub_mul ..
    have e2 : (bn - f * bd) * ad = bn * ad - f * bd * ad := Int.sub_mul ..
    have e3 : f * ad * bd = f * bd * ad := by grind
    omega
  have g0 : 0 < bn - f * bd := by
    have := Int.mul_nonneg hr0 (show 0 ≤ bd by omega)
    exact pos_of_mul (b := ad) (by omega) (by omega)
  have nx : (f + 1) * bd = f * bd + bd := by rw [Int.add_mul, Int.one_mul]
  by_cases c : bn - f * bd ≤ bd
  · obtain ⟨r, h1, h2⟩ := both_pos (ad + bn - f * bd).toNat bd (bn - f * bd) ad (an - f * ad) (by omega) ⟨by omega, by omega⟩ ⟨g0, by omega⟩ a2 ⟨hr0, by omega⟩ (by rw [Int.mul_comm bd, Int.mul_comm ad]; exact sh)
    exact both_turn hfl hfr (by omega) ⟨by omega, b2⟩ ⟨by omega, a2⟩ (by omega) (by omega) (by omega) h1 h2
  · by_cases n : 0 ≤ an
    · have f0 : 0 ≤ f := by
        refine Classical.byContradiction fun w => ?_
        have : f * ad ≤ (-1) * ad := Int.mul_le_mul_of_nonneg_right (by omega) (by omega)
        omega
      exact both_whole hfl hfr (by omega) n f0 ⟨by omega, b2⟩ ⟨by omega, a2⟩ (fun _ => by omega)
    · have fneg : f ≤ -1 := by
        refine Classical.byContradiction fun w => ?_
        have : 0 * ad ≤ f * ad := Int.mul_le_mul_of_nonneg_right (by omega) (by omega)
        omega
      have j0 : ∀ k, num_simplest.f (k + 1) an ad bn bd = num_simplest.j0 k f (f + 1) false an ad bn bd := fun k => by
        rw [simplest_step k an ad bn bd f hfl (by omega) ⟨by omega, b2⟩ ⟨by omega, a2⟩, if_pos (by omega), decide_eq_false (show ¬ (f + 1) * bd ≥ bn by omega)]
      have i0 : ∀ k, withyref01_between.f (k + 1) an ad bn bd = withyref01_between.j0 k f true an ad bn bd := fun k => by
        rw [between_step k an ad bn bd f hfr (by omega) ⟨by omega, b2⟩, if_neg (by omega), decide_eq_true (by omega)]
      have i1 : ∀ k, withyref01_between.j0 (k + 1) f true an ad bn bd = withyref01_between.j1 k f (decide (bn > 0)) an ad bn bd := fun k => by
        show (if an < 0 then _ else _) = _
        rw [if_pos (by omega)]
      by_cases z : bn > 0
      · refine ⟨(0, 1), ?_, Ev.step i0 (Ev.step i1 (Ev.step (f := fun _ => some (0, 1)) (fun k => ?_) (Ev.now _)))⟩
        · by_cases q : f + 1 ≥ 0
          · refine Ev.step j0 (Ev.step (f := fun k => num_simplest.j1 k (f + 1) true bn bd) (fun k => ?_) (Ev.step (f := fun _ => some (mx (f + 1) 0, 1)) (fun k => rfl) ?_))
            · show (if f + 1 ≥ 0 then _ else _) = _
              rw [if_pos q]
            · have e : mx (f + 1) 0 = 0 := by unfold mx; split <;> omega
              rw [e]
              exact Ev.now _
          · refine Ev.step j0 (Ev.step (f := fun k => num_simplest.j1 k (f + 1) false bn bd) (fun k => ?_) (Ev.step (f := fun _ => some (0, 1)) (fun k => ?_) (Ev.now _)))
            · show (if f + 1 ≥ 0 then _ else num_simplest.j1 k (f + 1) (bd == 0) bn bd) = _
              rw [if_neg q, beq_eq_false_iff_ne.mpr (by omega)]
            · show (if bn > 0 then _ else _) = _
              rw [if_pos z]
        · rw [decide_eq_true z]
          rfl
      · have q : ¬ f + 1 ≥ 0 := fun q => by
          have e : f + 1 = 0 := by omega
          rw [e, Int.zero_mul] at nx
          omega
        have hc := ceil_div (n := bn) (d := bd) (by omega) (by omega) (by omega) (by omega)
        have hu := under_div (n := -bn) (d := bd) (by omega) (by omega) (by omega) (by omega)
        have q5 := le_div (a := -bn) (g := bd.toNat) (b := 1000000000) (by omega) (by omega) (by omega)
        rw [Int.toNat_of_nonneg (by omega)] at q5
        generalize -bn / bd = c' at hc hu q5
        refine ⟨(wrap64 (-c' - 1), 1), ?_, ?_⟩
        · refine Ev.step j0 (Ev.step (f := fun k => num_simplest.j1 k (f + 1) false bn bd) (fun k => ?_) (Ev.step (f := fun _ => some (wrap64 (-c' - 1), 1)) (fun k => ?_) (Ev.now _)))
          · show (if f + 1 ≥ 0 then _ else num_simplest.j1 k (f + 1) (bd == 0) bn bd) = _
            rw [if_neg q, beq_eq_false_iff_ne.mpr (by omega)]
          · show (if bn > 0 then _ else (num_ratio_ceil.f bn bd).bind fun t => some (wrap64 (t - 1), 1)) = _
            rw [if_neg z, hc, Option.bind_some]
        · refine Ev.step i0 (Ev.step i1 (Ev.step (f := fun k => withyref01_between.j2 k f false bn bd) (fun k => ?_) (Ev.step (f := fun _ => some (wrap64 (-c' - 1), 1)) (fun k => ?_) (Ev.now _))))
          · rw [decide_eq_false z]
            show (if an ≥ 0 then _ else withyref01_between.j2 k f (bd == 0) bn bd) = _
            rw [if_neg (by omega), beq_eq_false_iff_ne.mpr (by omega)]
          · show ((withyref01_under.f (wrap64 (-bn)) bd).bind fun t => some (wrap64 (wrap64 (-t) - 1), (1 : Int))) = _
            rw [w64 (n := -bn) (by omega) (by omega), hu, Option.bind_some, w64 (n := -c') (by omega) (by omega)]
/-- Simplest, here and in the specification -/
theorem ev_Simplest2 (a b c d : Int) : ∃ R, Ev (fun k => num_Simplest.f k a b c d) R ∧ Ev (fun k => withyref01_Simplest.f k a b c d) R := by
  by_cases h : Chk2 a b c d = 0
  · obtain ⟨oa, ob⟩ := Chk2_ok.mp h
    have hc := ratio_compare oa ob
    have st : ∀ k, num_Simplest.f k a b c d = (num_checked.f k [(⟨a, b⟩ : S23), ⟨c, d⟩]).bind fun t => if t = 0 then (if CmpV a b c d ≥ 0 then some (0, 0, 10) else (num_simplest.f k a b c d).bind fun b => (num_ratio_num.f k b.1 b.2).bind fun z => exc z (fun _ => some (0, 0, 8)) (fun b => some (b.1, b.2, 0))) else some (0, 0, t) := fun k => by
      unfold num_Simplest.f num_of.f
      simp only [Option.bind_some, hc]
    have hl : withyref01_Less.f a b c d = some (decide (a * d < c * b)) := by
      obtain ⟨m1, m2, _⟩ := oa.mul ob
      unfold withyref01_Less.f
      rw [w64 (n := a * d) (by omega) (by omega), w64 (n := c * b) (by omega) (by omega)]
    by_cases lt : a * d < c * b
    · obtain ⟨r, h1, h2⟩ := both_top oa ob lt
      obtain ⟨p, q, k1, ⟨k2, _⟩, _, k3, k4⟩ := simplest_top oa ob lt
      obtain rfl := Ev.uniq h1 k1
      have cv : ¬ CmpV a b c d ≥ 0 := by
        unfold CmpV
        rw [if_pos lt]
        decide
      refine ⟨Low p q, Ev.congr st (Ev.bind (ev_checked2 _ _ _ _) ?_), ?_⟩
      · simp only [h, if_true, cv, if_false]
        refine Ev.bind h1 (Ev.bind (ev_num (by omega) (by omega) (by omega) (by omega) (by omega)) ?_)
        rw [exc_num]
        exact Ev.now _
      · unfold withyref01_Simplest.f
        refine Ev.bind (ev_both _ _ _ _) ?_
        simp only [h, if_true, hl, Option.bind_some, lt, decide_true]
        exact Ev.bind h2 (ev_three (ev_low (by omega) (by omega) (by omega) (by omega) (by omega)))
    · have cv : CmpV a b c d ≥ 0 := by
        unfold CmpV
        rw [if_neg lt]
        split <;> decide
      refine ⟨(0, 0, 10), Ev.congr st (Ev.bind (ev_checked2 _ _ _ _) ?_), ?_⟩
      · simp only [h, if_true, cv]
        exact Ev.now _
      · unfold withyref01_Simplest.f
        refine Ev.bind (ev_both _ _ _ _) ?_
        simp only [h, if_true, hl, Option.bind_some, lt, decide_false, Bool.false_eq_true, if_false]
        exact Ev.now _
  · refine ⟨(0, 0, Chk2 a b c d), ?_, ?_⟩
    · unfold num_Simplest.f
      refine Ev.bind (ev_checked2 _ _ _ _) ?_
      simp only [h, if_false]
      exact Ev.now _
    · unfold withyref01_Simplest.f
      refine Ev.bind (ev_both _ _ _ _) ?_
      simp only [h, if_false]
      exact Ev.now _
def Off (an ad n d : Int) : Int := ((an * d - n * ad).natAbs : Int)
def Smpl (x y : Int × Int) : Prop := x.2 < y.2 ∨ x.2 = y.2 ∧ (x.1.natAbs < y.1.natAbs ∨ x.1.natAbs = y.1.natAbs ∧ y.1 < x.1)
def Bt (an ad : Int) (x y : Int × Int) : Prop := Off an ad x.1 x.2 * y.2 < Off an ad y.1 y.2 * x.2 ∨ Off an ad x.1 x.2 * y.2 = Off an ad y.1 y.2 * x.2 ∧ Smpl x y
instance (x y : Int × Int) : Decidable (Smpl x y) := inferInstanceAs (Decidable (_ ∨ _))
instance (an ad : Int) (x y : Int × Int) : Decidable (Bt an ad x y) := inferInstanceAs (Decidable (_ ∨ _))
theorem Smpl.trans {x y z : Int × Int} (h : Smpl x y) (k : Smpl y z) : Smpl x z := by
  unfold Smpl at *
  omega
theorem Smpl.irrefl (x : Int × Int) : ¬ Smpl x x := by
  unfold Smpl
  omega
theorem Bt.irrefl (an ad : Int) (x : Int × Int) : ¬ Bt an ad x x := by
  rintro (h | ⟨_, h⟩)
  · exact Int.lt_irrefl _ h
  · exact Smpl.irrefl x h
theorem Bt.trans {an ad : Int} {x y z : Int × Int} (hx : 0 < x.2) (hy : 0 < y.2) (hz : 0 < z.2) (h : Bt an ad x y) (k : Bt an ad y z) : Bt an ad x z := by
  have ho : Off an ad x.1 x.2 * y.2 ≤ Off an ad y.1 y.2 * x.2 := by rcases h with h | ⟨h, _⟩ <;> omega
  have ko : Off an ad y.1 y.2 * z.2 ≤ Off an ad z.1 z.2 * y.2 := by rcases k with k | ⟨k, _⟩ <;> omega
  have a1 := Int.mul_le_mul_of_nonneg_right ho (Int.le_of_lt hz)
  have a2 := Int.mul_le_mul_of_nonneg_right ko (Int.le_of_lt hx)
  have e1 : Off an ad x.1 x.2 * y.2 * z.2 = Off an ad x.1 x.2 * z.2 * y.2 := Int.mul_right_comm ..
  have e2 : Off an ad y.1 y.2 * x.2 * z.2 = Off an ad y.1 y.2 * z.2 * x.2 := Int.mul_right_comm ..
  have e3 : Off an ad z.1 z.2 * y.2 * x.2 = Off an ad z.1 z.2 * x.2 * y.2 := Int.mul_right_comm ..
  rcases Int.lt_or_le (Off an ad x.1 x.2 * z.2) (Off an ad z.1 z.2 * x.2) with c | c
  · exact Or.inl c
  · have c1 := Int.mul_le_mul_of_nonneg_right c (Int.le_of_lt hy)
    have le : Off an ad x.1 x.2 * z.2 ≤ Off an ad z.1 z.2 * x.2 := by
      have : Off an ad x.1 x.2 * z.2 * y.2 ≤ Off an ad z.1 z.2 * x.2 * y.2 := by omega
      exact Int.le_of_mul_le_mul_right this hy
    right
    refine ⟨by omega, ?_⟩
    have f1 : ¬ Off an ad x.1 x.2 * y.2 < Off an ad y.1 y.2 * x.2 := fun w => by
      have := Int.mul_lt_mul_of_pos_right w hz
      omega
    have f2 : ¬ Off an ad y.1 y.2 * z.2 < Off an ad z.1 z.2 * y.2 := fun w => by
      have := Int.mul_lt_mul_of_pos_right w hx
      omega
    rcases h with h | ⟨_, h⟩
    · exact absurd h f1
    · rcases k with k | ⟨_, k⟩
      · exact absurd k f2
      · exact h.trans k
/-- the first one that is better than all before it -/
def BestZ (an ad : Int) : Int × Int → List (Int × Int) → Int × Int
  | o, [] => o
  | o, x :: l => BestZ an ad (if Bt an ad x o then x else o) l
theorem BestZ_mem (an ad : Int) : ∀ (l : List (Int × Int)) (o : Int × Int), BestZ an ad o l ∈ o :: l
  | [], o => List.mem_singleton.mpr rfl
  | x :: l, o => by
    have := BestZ_mem an ad l (if Bt an ad x o then x else o)
    unfold BestZ
    rcases List.mem_cons.mp this with h | h
    · rw [h]
      split
      · exact List.mem_cons_of_mem _ (List.mem_cons_self ..)
      · exact List.mem_cons_self ..
    · exact List.mem_cons_of_mem _ (List.mem_cons_of_mem _ h)
theorem BestZ_best (an ad : Int) : ∀ (l : List (Int × Int)) (o : Int × Int), 0 < o.2 → (∀ x ∈ l, 0 < x.2) → ∀ z : Int × Int, 0 < z.2 → (¬ Bt an ad z o ∨ z ∈ l) → ¬ Bt an ad z (BestZ an ad o l)
  | [], o, _, _, z, _, h => h.resolve_right (List.not_mem_nil)
  | x :: l, o, ho, hl, z, hz, h => by
    unfold BestZ
    have hx := hl x (List.mem_cons_self ..)
    refine BestZ_best an ad l _ (by split <;> assumption) (fun y hy => hl y (List.mem_cons_of_mem _ hy)) z hz ?_
    rcases h with h | h
    · left
      split
      · rename_i c
        exact fun w => h (w.trans hz hx ho c)
      · exact h
    · rcases List.mem_cons.mp h with rfl | h
      · left
        split
        · exact Bt.irrefl _ _ _
        · assumption
      · exact Or.inr h
/-- the whole numbers beside a, over each denominator -/
def CandZ (an ad : Int) : Nat → List (Int × Int)
  | 0 => []
  | m + 1 => CandZ an ad m ++ [(an * ((m + 1 : Nat) : Int) / ad, ((m + 1 : Nat) : Int)), (an * ((m + 1 : Nat) : Int) / ad + 1, ((m + 1 : Nat) : Int))]
theorem CandZ_mem {an ad : Int} {x : Int × Int} : ∀ {m : Nat}, x ∈ CandZ an ad m ↔ ∃ d : Nat, 1 ≤ d ∧ d ≤ m ∧ (x = (an * (d : Int) / ad, (d : Int)) ∨ x = (an * (d : Int) / ad + 1, (d : Int)))
  | 0 => by
    refine ⟨fun h => absurd h (List.not_mem_nil), ?_⟩
    rintro ⟨d, a, b, _⟩
    omega
  | m + 1 => by
    unfold CandZ
    rw [List.mem_append, CandZ_mem]
    constructor
    · rintro (⟨d, a, b, c⟩ | h)
      · exact ⟨d, a, by omega, c⟩
      · rcases List.mem_cons.mp h with h | h
        · exact ⟨m + 1, by omega, by omega, Or.inl h⟩
        · exact ⟨m + 1, by omega, by omega, Or.inr (List.mem_singleton.mp h)⟩
    · rintro ⟨d, a, b, c⟩
      by_cases e : d = m + 1
      · subst e
        right
        rcases c with c | c
        · rw [c]; exact List.mem_cons_self ..
        · rw [c]; exact List.mem_cons_of_mem _ (List.mem_cons_self ..)
      · exact Or.inl ⟨d, a, by omega, c⟩
theorem or_f (a b c : Int) : Ev (fun k => cmp_Or_int.f k [a, b, c]) (if a = 0 then (if b = 0 then c else b) else a) := by
  refine ⟨4, fun k hk => ?_⟩
  obtain ⟨j, rfl⟩ : ∃ j, k = j + 4 := ⟨k - 4, by omega⟩
  have w1 : wrap64 1 = 1 := w64 (by decide) (by decide)
  have w2 : wrap64 2 = 2 := w64 (by decide) (by decide)
  have w3 : wrap64 3 = 3 := w64 (by decide) (by decide)
  show cmp_Or_int.l0 (j + 4) 0 [a, b, c] 3 0 = _
  by_cases ha : a = 0
  · by_cases hb : b = 0
    · by_cases hc : c = 0
      · simp [cmp_Or_int.l0, rd, ha, hb, hc, w1, w2, w3]
      · simp [cmp_Or_int.l0, rd, ha, hb, hc, w1, w2]
    · simp [cmp_Or_int.l0, rd, ha, hb, w1]
  · simp [cmp_Or_int.l0, rd, ha]
theorem simpler_f (a b c d : Int) (ha : -9223372036854775807 ≤ a ∧ a ≤ 9223372036854775807) (hc : -9223372036854775807 ≤ c ∧ c ≤ 9223372036854775807) :
    Ev (fun k => num_ratio_simpler.f k a b c d) (decide (Smpl (a, b) (c, d))) := by
  unfold num_ratio_simpler.f
  simp only [compare_f, Option.bind_some, mx_abs ha.1 ha.2, mx_abs hc.1 hc.2]
  refine Ev.bind (or_f _ _ _) (Ev.isNow fun k => congrArg some (decide_eq_decide.mpr ?_))
  unfold Smpl
  dsimp only
  omega
/-- beside a, over a denominator of at most 1000 -/
def CandB (an ad : Int) (x : Int × Int) : Prop := (1 ≤ x.2 ∧ x.2 ≤ 1000) ∧ (-ad ≤ an * x.2 - x.1 * ad ∧ an * x.2 - x.1 * ad ≤ ad)
theorem off_f {an ad : Int} (h : Ok an ad) {x : Int × Int} (hx : CandB an ad x) : num_ratio_off.f x.1 x.2 an ad = some (Off an ad x.1 x.2) := by
  have h1 := h.d1; have h2 := h.d2; have h3 := h.n1; have h4 := h.n2
  obtain ⟨⟨a1, a2⟩, b1, b2⟩ := hx
  have m1 : an * x.2 ≤ 1000000000 * x.2 := Int.mul_le_mul_of_nonneg_right h4 (by omega)
  have m2 : (-1000000000) * x.2 ≤ an * x.2 := Int.mul_le_mul_of_nonneg_right h3 (by omega)
  unfold num_ratio_off.f
  rw [w64 (n := an * x.2) (by omega) (by omega), w64 (n := x.1 * ad) (by omega) (by omega), w64 (n := an * x.2 - x.1 * ad) (by omega) (by omega), mx_abs (by omega) (by omega)]
  rfl
theorem off_le {an ad : Int} {x : Int × Int} (hx : CandB an ad x) : 0 ≤ Off an ad x.1 x.2 ∧ Off an ad x.1 x.2 ≤ ad := by
  obtain ⟨_, b1, b2⟩ := hx
  unfold Off
  omega
theorem cand_n {an ad : Int} (h : Ok an ad) {x : Int × Int} (hx : CandB an ad x) : -1000000000001 ≤ x.1 ∧ x.1 ≤ 1000000000001 := by
  have h1 := h.d1; have h2 := h.d2; have h3 := h.n1; have h4 := h.n2
  obtain ⟨⟨a1, a2⟩, b1, b2⟩ := hx
  have m1 : an * x.2 ≤ 1000000000 * x.2 := Int.mul_le_mul_of_nonneg_right h4 (by omega)
  have m2 : (-1000000000) * x.2 ≤ an * x.2 := Int.mul_le_mul_of_nonneg_right h3 (by omega)
  refine ⟨?_, ?_⟩
  · refine Classical.byContradiction fun c => ?_
    have : x.1 * ad ≤ (-1000000000002) * ad := Int.mul_le_mul_of_nonneg_right (by omega) (by omega)
    omega
  · refine Classical.byContradiction fun c => ?_
    have : 1000000000002 * ad ≤ x.1 * ad := Int.mul_le_mul_of_nonneg_right (by omega) (by omega)
    omega
theorem ev_better {an ad : Int} (h : Ok an ad) {x y : Int × Int} (hx : CandB an ad x) (hy : CandB an ad y) : Ev (fun k => num_Near_1.f k x.1 x.2 y.1 y.2 an ad) (decide (Bt an ad x y)) := by
  have h2 := h.d2
  obtain ⟨x1, x2⟩ := off_le hx
  obtain ⟨y1, y2⟩ := off_le hy
  obtain ⟨nx1, nx2⟩ := cand_n h hx
  obtain ⟨ny1, ny2⟩ := cand_n h hy
  have dx := hx.1; have dy := hy.1
  unfold num_Near_1.f
  simp only [off_f h hx, off_f h hy, Option.bind_some]
  have eB : decide (Bt an ad x y) = decide (Off an ad x.1 x.2 * y.2 < Off an ad y.1 y.2 * x.2 ∨ Off an ad x.1 x.2 * y.2 = Off an ad y.1 y.2 * x.2 ∧ Smpl x y) := rfl
  rw [eB]
  clear eB
  generalize Off an ad x.1 x.2 = p at x1 x2 ⊢
  generalize Off an ad y.1 y.2 = q at y1 y2 ⊢
  have p1 : p * y.2 ≤ 1000000000 * 1000 := Int.mul_le_mul (by omega) (by omega) (by omega) (by omega)
  have p0 : 0 ≤ p * y.2 := Int.mul_nonneg (by omega) (by omega)
  have q1 : q * x.2 ≤ 1000000000 * 1000 := Int.mul_le_mul (by omega) (by omega) (by omega) (by omega)
  have q0 : 0 ≤ q * x.2 := Int.mul_nonneg (by omega) (by omega)
  rw [w64 (n := p * y.2) (by omega) (by omega), w64 (n := q * x.2) (by omega) (by omega)]
  by_cases c1 : p * y.2 < q * x.2
  · simp only [c1, if_true, true_or, decide_true]
    exact Ev.now _
  · by_cases c2 : p * y.2 = q * x.2
    · simp only [c1, c2, if_true, if_false, true_and]
      have := simpler_f x.1 x.2 y.1 y.2 ⟨by omega, by omega⟩ ⟨by omega, by omega⟩
      rw [show decide (q * x.2 < q * x.2 ∨ Smpl x y) = decide (Smpl (x.1, x.2) (y.1, y.2)) from decide_eq_decide.mpr ⟨fun h => h.resolve_left (Int.lt_irrefl _), Or.inr⟩]
      simp only [Int.lt_irrefl, if_false]
      exact Ev.bind this (Ev.now _)
    · simp only [c1, c2, if_false, false_and, or_self, decide_false]
      exact Ev.now _
def toS (x : Int × Int) : S65 := ⟨x.1, x.2⟩
theorem best_loop {an ad : Int} (h : Ok an ad) (l : List (Int × Int)) (hl : ∀ x ∈ l, CandB an ad x) (hn : l.length ≤ 1000000) : ∀ (m i : Nat) (o : Int × Int), i + m = l.length → CandB an ad o →
    Ev (fun k => num_ratio.l0 k (l.map toS) (l.length : Int) (i : Int) an ad o.1 o.2) (BestZ an ad o (l.drop i)) := by
  intro m
  induction m with
  | zero =>
    intro i o hi ho
    refine Ev.step (f := fun _ => some o) (fun k => ?_) ?_
    · rw [num_ratio.l0, if_neg (by omega)]
    · rw [List.drop_of_length_le (by omega)]
      exact Ev.now _
  | succ m ih =>
    intro i o hi ho
    have hlt : i < l.length := by omega
    rw [List.drop_eq_getElem_cons hlt]
    have hx := hl l[i] (List.getElem_mem hlt)
    have er : rd_T65 (l.map toS) (i : Int) = toS l[i] := by
      unfold rd_T65
      rw [List.getD_eq_getElem?_getD, Int.toNat_natCast, List.getElem?_map, List.getElem?_eq_getElem hlt]
      rfl
    have w1 : wrap64 ((i : Int) + 1) = ((i + 1 : Nat) : Int) := (w64 (by omega) (by omega)).trans (by omega)
    refine Ev.step (f := fun k => (num_Near_1.f k (l[i]).1 (l[i]).2 o.1 o.2 an ad).bind fun t => if t = true then num_ratio.l0 k (l.map toS) (l.length : Int) ((i + 1 : Nat) : Int) an ad (l[i]).1 (l[i]).2 else num_ratio.l0 k (l.map toS) (l.length : Int) ((i + 1 : Nat) : Int) an ad o.1 o.2) (fun k => ?_) ?_
    · rw [num_ratio.l0, if_pos (by omega), if_pos (by omega), if_pos (by rw [List.length_map]; omega), er, w1]
      rfl
    · refine Ev.bind (ev_better h hx ho) ?_
      unfold BestZ
      by_cases c : Bt an ad l[i] o
      · rw [decide_eq_true c, if_pos c]
        simp only [if_true]
        exact ih (i + 1) l[i] (by omega) hx
      · rw [decide_eq_false c, if_neg c]
        simp only [Bool.false_eq_true, if_false]
        exact ih (i + 1) o (by omega) ho
theorem ev_best {an ad : Int} (h : Ok an ad) (o : Int × Int) (l : List (Int × Int)) (ho : CandB an ad o) (hl : ∀ x ∈ l, CandB an ad x) (hn : l.length ≤ 1000000) : Ev (fun k => num_ratio.f k ((o :: l).map toS) an ad) (BestZ an ad o l) := by
  have := best_loop h l hl hn l.length 0 o (by omega) ho
  refine Ev.congr (fun k => ?_) this
  have e0 : rd_T65 ((o :: l).map toS) 0 = toS o := rfl
  unfold num_ratio.f
  rw [if_pos (by simp only [List.map_cons, List.length_cons]; omega), if_pos (by simp only [List.map_cons, List.length_cons]; omega), Option.bind_some, e0]
  simp only [List.map_cons, List.drop_succ_cons, List.drop_zero, List.length_map]
  rfl
theorem CandZ_len (an ad : Int) : ∀ m, (CandZ an ad m).length = 2 * m
  | 0 => rfl
  | m + 1 => by
    unfold CandZ
    rw [List.length_append, CandZ_len an ad m]
    rfl
theorem CandZ_B {an ad : Int} (h : Ok an ad) {m : Nat} (hm : m ≤ 1000) : ∀ x ∈ CandZ an ad m, CandB an ad x := by
  intro x hx
  have h1 := h.d1
  obtain ⟨d, d1, d2, c⟩ := CandZ_mem.mp hx
  have p1 := Int.emod_nonneg (an * (d : Int)) (b := ad) (by omega)
  have p2 := Int.emod_lt_of_pos (an * (d : Int)) (b := ad) (by omega)
  have p3 := Int.emod_add_mul_ediv (an * (d : Int)) ad
  have p4 : ad * (an * (d : Int) / ad) = an * (d : Int) / ad * ad := Int.mul_comm ..
  have e3 : (an * (d : Int) / ad + 1) * ad = an * (d : Int) / ad * ad + ad := by rw [Int.add_mul, Int.one_mul]
  rcases c with rfl | rfl
  · refine ⟨⟨by dsimp only; omega, by dsimp only; omega⟩, by dsimp only; omega, by dsimp only; omega⟩
  · refine ⟨⟨by dsimp only; omega, by dsimp only; omega⟩, by dsimp only; omega, by dsimp only; omega⟩
/-- the best candidate -/
def NearZ (an ad : Int) (m : Nat) : Int × Int := match CandZ an ad m with
  | [] => (0, 0)
  | o :: l => BestZ an ad o l
def NearR (n d m : Int) : Int × Int × Int := if Chk n d = 0 then (if 1 ≤ m ∧ m ≤ 1000 then (if d ≤ m then (n, d, 0) else Low (NearZ n d m.toNat).1 (NearZ n d m.toNat).2) else (0, 0, 3)) else (0, 0, Chk n d)
theorem NearZ_spec {an ad : Int} {m : Nat} (h1 : 1 ≤ m) (h0 : 0 < ad) : ∃ o l, CandZ an ad m = o :: l ∧ NearZ an ad m = BestZ an ad o l := by
  cases h : CandZ an ad m with
  | nil =>
    have := CandZ_len an ad m
    rw [h] at this
    exact absurd this (by simp; omega)
  | cons o l =>
    refine ⟨o, l, rfl, ?_⟩
    unfold NearZ
    rw [h]
theorem NearZ_best {an ad : Int} {m : Nat} (h : Ok an ad) (h1 : 1 ≤ m) (hm : m ≤ 1000) : NearZ an ad m ∈ CandZ an ad m ∧ ∀ x ∈ CandZ an ad m, ¬ Bt an ad x (NearZ an ad m) := by
  have hd := h.d1
  obtain ⟨o, l, e, e2⟩ := NearZ_spec (an := an) (ad := ad) h1 (by omega)
  have hB := CandZ_B h hm
  rw [e] at hB
  rw [e2, e]
  refine ⟨BestZ_mem an ad l o, fun x hx => BestZ_best an ad l o (by have := hB o (List.mem_cons_self ..); have := this.1; omega) (fun y hy => by have := hB y (List.mem_cons_of_mem _ hy); have := this.1; omega) x (by have := (hB x hx).1; omega) ?_⟩
  rcases List.mem_cons.mp hx with rfl | hx
  · exact Or.inl (Bt.irrefl _ _ _)
  · exact Or.inr hx
/-- no candidate is beyond the bounds -/
theorem CandZ_fit {an ad : Int} (h : Ok an ad) {m : Nat} (hm : (m : Int) < ad) : ∀ x ∈ CandZ an ad m, -1000000000 ≤ x.1 ∧ x.1 ≤ 1000000000 := by
  intro x hx
  have h1 := h.d1; have h2 := h.d2; have h3 := h.n1; have h4 := h.n2
  obtain ⟨d, d1, d2, c⟩ := CandZ_mem.mp hx
  have p1 := Int.emod_nonneg (an * (d : Int)) (b := ad) (by omega)
  have p2 := Int.emod_lt_of_pos (an * (d : Int)) (b := ad) (by omega)
  have p3 := Int.emod_add_mul_ediv (an * (d : Int)) ad
  have p4 : ad * (an * (d : Int) / ad) = an * (d : Int) / ad * ad := Int.mul_comm ..
  have m1 : an * (d : Int) ≤ 1000000000 * d := Int.mul_le_mul_of_nonneg_right h4 (by omega)
  have m2 : (-1000000000) * (d : Int) ≤ an * (d : Int) := Int.mul_le_mul_of_nonneg_right h3 (by omega)
  generalize an * (d : Int) / ad = f at *
  have u1 : f < 1000000000 := by
    refine Classical.byContradiction fun w => ?_
    have : 1000000000 * ad ≤ f * ad := Int.mul_le_mul_of_nonneg_right (by omega) (by omega)
    omega
  have u2 : -1000000000 ≤ f := by
    refine Classical.byContradiction fun w => ?_
    have : f * ad ≤ (-1000000001) * ad := Int.mul_le_mul_of_nonneg_right (by omega) (by omega)
    omega
  rcases c with rfl | rfl
  · exact ⟨u2, by dsimp only; omega⟩
  · exact ⟨by dsimp only; omega, by dsimp only; omega⟩
theorem near_loop {an ad : Int} (h : Ok an ad) (n : Nat) (h1 : 1 ≤ n) (hn : n ≤ 1000) (hd : (n : Int) < ad) : ∀ (m i : Nat), i + m = n → Ev (fun k => num_Near.l0 k ((CandZ an ad i).map toS) (n : Int) (i : Int) an ad) (Low (NearZ an ad n).1 (NearZ an ad n).2) := by
  intro m
  have a1 := h.d1; have a2 := h.d2; have a3 := h.n1; have a4 := h.n2
  induction m with
  | zero =>
    intro i hi
    obtain rfl : i = n := by omega
    obtain ⟨o, l, e, e2⟩ := NearZ_spec (an := an) (ad := ad) h1 (by omega)
    have hB := CandZ_B h hn
    have hl := CandZ_len an ad i
    have nb := (NearZ_best h h1 hn).1
    have nf := CandZ_fit h hd _ nb
    obtain ⟨⟨nd1, nd2⟩, _⟩ := hB _ nb
    rw [e] at hB hl
    refine Ev.step (f := fun k => (num_ratio.f k ((o :: l).map toS) an ad).bind fun b => (num_ratio_num.f k b.1 b.2).bind fun tz => exc tz (fun _ => none) (fun b => some (b.1, b.2, 0))) (fun k => ?_) ?_
    · rw [num_Near.l0, if_neg (by omega), e]
    · refine Ev.bind (ev_best h o l (hB o (List.mem_cons_self ..)) (fun y hy => hB y (List.mem_cons_of_mem _ hy)) (by simp at hl; omega)) ?_
      rw [← e2]
      refine Ev.bind (ev_num (by omega) (by omega) (by omega) (by omega) (by omega)) ?_
      have hf : Fits (NearZ an ad i).1 (NearZ an ad i).2 := by
        have hg := gcd_pos (n := (NearZ an ad i).1) (d := (NearZ an ad i).2) (by omega)
        have l1 := le_div hg (a := (NearZ an ad i).1) (b := 1000000000) (by omega) (by omega)
        have l2 := le_div hg (a := (NearZ an ad i).2) (b := 1000000000) (by omega) (by omega)
        unfold Fits Rn Rd
        rw [if_neg (by omega), if_neg (by omega)]
        exact ⟨l2.2, l1⟩
      unfold NumE Low
      rw [if_pos hf, if_pos hf]
      exact Ev.now _
  | succ m ih =>
    intro i hi
    have w1 : wrap64 ((i : Int) + 1) = ((i + 1 : Nat) : Int) := (w64 (by omega) (by omega)).trans (by omega)
    have m1 : an * ((i + 1 : Nat) : Int) ≤ 1000000000 * ((i + 1 : Nat) : Int) := Int.mul_le_mul_of_nonneg_right a4 (by omega)
    have m2 : (-1000000000) * ((i + 1 : Nat) : Int) ≤ an * ((i + 1 : Nat) : Int) := Int.mul_le_mul_of_nonneg_right a3 (by omega)
    have w2 : wrap64 (an * ((i + 1 : Nat) : Int)) = an * ((i + 1 : Nat) : Int) := w64 (by omega) (by omega)
    have fd := floor_div (n := an * ((i + 1 : Nat) : Int)) (d := ad) (by omega) (by omega) (by omega) (by omega)
    have fit := CandZ_fit h (m := i + 1) (by omega) (an * ((i + 1 : Nat) : Int) / ad, ((i + 1 : Nat) : Int)) (CandZ_mem.mpr ⟨i + 1, by omega, by omega, Or.inl rfl⟩)
    dsimp only at fit
    have w3 : wrap64 (an * ((i + 1 : Nat) : Int) / ad + 1) = an * ((i + 1 : Nat) : Int) / ad + 1 := w64 (by omega) (by omega)
    have hl := CandZ_len an ad i
    refine Ev.step (f := fun k => num_Near.l0 k ((CandZ an ad (i + 1)).map toS) (n : Int) ((i + 1 : Nat) : Int) an ad) (fun k => ?_) (ih (i + 1) (by omega))
    rw [num_Near.l0, if_pos (by omega), w1, w2, fd, Option.bind_some, Option.bind_some, w3, if_pos (by rw [List.length_map, hl]; simp only [List.length_cons, List.length_nil]; omega)]
    rw [show CandZ an ad (i + 1) = CandZ an ad i ++ [(an * ((i + 1 : Nat) : Int) / ad, ((i + 1 : Nat) : Int)), (an * ((i + 1 : Nat) : Int) / ad + 1, ((i + 1 : Nat) : Int))] from rfl, List.map_append]
    rfl
theorem ev_Near (n d m : Int) : Ev (fun k => num_Near.f k n d m) (NearR n d m) := by
  unfold num_Near.f NearR
  refine Ev.bind (ev_check n d) ?_
  by_cases c : Chk n d = 0
  · simp only [c, if_true, within_1, Option.bind_some]
    by_cases b : 1 ≤ m ∧ m ≤ 1000
    · simp only [b, and_self, decide_true, if_true]
      by_cases e : d ≤ m
      · simp only [e, if_true]
        exact Ev.now _
      · simp only [e, if_false]
        obtain ⟨j, rfl⟩ : ∃ j : Nat, m = j := ⟨m.toNat, by omega⟩
        rw [Int.toNat_natCast]
        exact near_loop (Chk_ok.mp c) j (by omega) (by omega) (by omega) j 0 (by omega)
    · simp only [b, decide_false, Bool.false_eq_true, if_false]
      exact Ev.now _
  · simp only [c, if_false]
    exact Ev.now _
theorem simpler_gen {a b c d : Int} (ha : -9223372036854775807 ≤ a ∧ a ≤ 9223372036854775807) (hc : -9223372036854775807 ≤ c ∧ c ≤ 9223372036854775807) : withyref01_Simpler.f a b c d = some (decide (Smpl (a, b) (c, d))) := by
  unfold withyref01_Simpler.f
  rw [w64 (n := -a) (by omega) (by omega), w64 (n := -c) (by omega) (by omega)]
  have key : ∀ q : Bool, (q = true ↔ Smpl (a, b) (c, d)) → some q = some (decide (Smpl (a, b) (c, d))) := fun q h => by
    congr 1
    rw [Bool.eq_iff_iff, h, decide_eq_true_iff]
  have no : ¬ Smpl (a, b) (c, d) → some false = some (decide (Smpl (a, b) (c, d))) := fun h => by rw [decide_eq_false h]
  have yes : Smpl (a, b) (c, d) → some true = some (decide (Smpl (a, b) (c, d))) := fun h => by rw [decide_eq_true h]
  unfold Smpl at key no yes ⊢
  dsimp only at key no yes ⊢
  by_cases e : b = d
  · rw [if_pos e]
    split <;> split <;> split <;> first | exact yes (by omega) | skip
    all_goals split
    all_goals first | exact no (by omega) | (refine key _ ?_; rw [decide_eq_true_iff]; omega)
  · rw [if_neg e]
    refine key _ ?_
    rw [decide_eq_true_iff]
    omega
theorem gap_f {an ad : Int} (h : Ok an ad) {x : Int × Int} (hx : CandB an ad x) : withyref01_gap.f an ad x.1 x.2 = some (Off an ad x.1 x.2) := by
  have h1 := h.d1; have h2 := h.d2; have h3 := h.n1; have h4 := h.n2
  obtain ⟨⟨a1, a2⟩, b1, b2⟩ := hx
  have m1 : an * x.2 ≤ 1000000000 * x.2 := Int.mul_le_mul_of_nonneg_right h4 (by omega)
  have m2 : (-1000000000) * x.2 ≤ an * x.2 := Int.mul_le_mul_of_nonneg_right h3 (by omega)
  unfold withyref01_gap.f
  rw [w64 (n := an * x.2) (by omega) (by omega), w64 (n := x.1 * ad) (by omega) (by omega), w64 (n := an * x.2 - x.1 * ad) (by omega) (by omega), w64 (n := -(an * x.2 - x.1 * ad)) (by omega) (by omega)]
  unfold Off
  split
  · congr 1
    omega
  · congr 1
    omega
theorem gap_0 (an ad : Int) : withyref01_gap.f an ad 0 0 = some 0 := by
  unfold withyref01_gap.f
  rw [Int.mul_zero, Int.zero_mul, w64 (n := 0) (by decide) (by decide), Int.sub_zero, w64 (n := 0) (by decide) (by decide), if_neg (by decide)]
/-- the best of a list; (0, 0) if it is empty -/
def BestL (an ad : Int) : List (Int × Int) → Int × Int
  | [] => (0, 0)
  | o :: l => BestZ an ad o l
theorem BestZ_snoc (an ad : Int) (x : Int × Int) : ∀ (l : List (Int × Int)) (o : Int × Int), BestZ an ad o (l ++ [x]) = if Bt an ad x (BestZ an ad o l) then x else BestZ an ad o l
  | [], o => rfl
  | y :: l, o => BestZ_snoc an ad x l _
theorem NearZ_L (an ad : Int) (m : Nat) : NearZ an ad m = BestL an ad (CandZ an ad m) := by
  unfold NearZ BestL
  rfl
theorem near_inner {an ad : Int} (h : Ok an ad) (m d : Int) (f n : Int) (L : List (Int × Int)) (hL : ∀ x ∈ L, CandB an ad x) (hx : CandB an ad (n, d)) (hf : -1000000000001 ≤ f ∧ f ≤ 1000000000001) (hn : n ≤ f + 1) {R : Int × Int × Int}
    (hR : Ev (fun k => withyref01_Near.l1 k m d f (n + 1) an ad (BestL an ad (L ++ [(n, d)])).1 (BestL an ad (L ++ [(n, d)])).2) R) : Ev (fun k => withyref01_Near.l1 k m d f n an ad (BestL an ad L).1 (BestL an ad L).2) R := by
  have hnb := cand_n h hx
  dsimp only at hnb
  have wn : wrap64 (n + 1) = n + 1 := w64 (by omega) (by omega)
  have wf : wrap64 (f + 1) = f + 1 := w64 (by omega) (by omega)
  have h2 := h.d2
  have gx := gap_f h hx
  dsimp only at gx
  cases L with
  | nil =>
    refine Ev.step (fun k => ?_) hR
    show (if n ≤ wrap64 (f + 1) then _ else _) = _
    rw [wf, if_pos hn, gx, Option.bind_some]
    show ((withyref01_gap.f an ad 0 0).bind fun t => _) = _
    rw [gap_0, Option.bind_some, if_pos (show (BestL an ad []).2 = 0 from rfl), wn]
    rfl
  | cons o l =>
    have hy : CandB an ad (BestZ an ad o l) := hL _ (BestZ_mem an ad l o)
    have hbs : BestL an ad ((o :: l) ++ [(n, d)]) = if Bt an ad (n, d) (BestZ an ad o l) then (n, d) else BestZ an ad o l := BestZ_snoc an ad (n, d) l o
    rw [hbs] at hR
    show Ev (fun k => withyref01_Near.l1 k m d f n an ad (BestZ an ad o l).1 (BestZ an ad o l).2) R
    generalize BestZ an ad o l = y at hy hR
    obtain ⟨x1, x2⟩ := off_le hx
    obtain ⟨y1, y2⟩ := off_le hy
    obtain ⟨ny1, ny2⟩ := cand_n h hy
    have dx := hx.1; have dy := hy.1
    dsimp only at dx x1 x2
    have sm := simpler_gen (a := n) (b := d) (c := y.1) (d := y.2) ⟨by omega, by omega⟩ ⟨by omega, by omega⟩
    have eB : Bt an ad (n, d) y ↔ (Off an ad n d * y.2 < Off an ad y.1 y.2 * d ∨ Off an ad n d * y.2 = Off an ad y.1 y.2 * d ∧ Smpl (n, d) (y.1, y.2)) := Iff.rfl
    have gy := gap_f h hy
    have p1 : Off an ad n d * y.2 ≤ 1000000000 * 1000 := Int.mul_le_mul (by omega) (by omega) (by omega) (by omega)
    have p0 : 0 ≤ Off an ad n d * y.2 := Int.mul_nonneg (by omega) (by omega)
    have q1 : Off an ad y.1 y.2 * d ≤ 1000000000 * 1000 := Int.mul_le_mul (by omega) (by omega) (by omega) (by omega)
    have q0 : 0 ≤ Off an ad y.1 y.2 * d := Int.mul_nonneg (by omega) (by omega)
    generalize Off an ad n d = p at gx p0 p1 eB
    generalize Off an ad y.1 y.2 = q at gy q0 q1 eB
    have wp : wrap64 (p * y.2) = p * y.2 := w64 (by omega) (by omega)
    have wq : wrap64 (q * d) = q * d := w64 (by omega) (by omega)
    have e0 : ∀ k, withyref01_Near.l1 (k + 1) m d f n an ad y.1 y.2 = if Bt an ad (n, d) y then withyref01_Near.l1 k m d f (n + 1) an ad n d else withyref01_Near.l1 k m d f (n + 1) an ad y.1 y.2 := fun k => by
      show (if n ≤ wrap64 (f + 1) then _ else _) = _
      rw [wf, if_pos hn, gx, Option.bind_some, gy, Option.bind_some, if_neg (show ¬ y.2 = 0 by omega), wp, wq, wn]
      by_cases c1 : p * y.2 < q * d
      · rw [if_pos c1, if_pos (eB.mpr (.inl c1))]
      · rw [if_neg c1]
        by_cases c2 : p * y.2 = q * d
        · rw [if_pos c2, sm, Option.bind_some]
          by_cases c3 : Smpl (n, d) (y.1, y.2)
          · rw [decide_eq_true c3, if_pos rfl, if_pos (eB.mpr (.inr ⟨c2, c3⟩))]
          · rw [decide_eq_false c3, if_neg (by decide), if_neg (fun w => by
              rcases eB.mp w with w | w
              · exact c1 w
              · exact c3 w.2)]
        · rw [if_neg c2, if_neg (fun w => by
            rcases eB.mp w with w | w
            · exact c1 w
            · exact c2 w.1)]
    by_cases c : Bt an ad (n, d) y
    · rw [if_pos c] at hR
      refine Ev.step (fun k => ?_) hR
      rw [e0, if_pos c]
    · rw [if_neg c] at hR
      refine Ev.step (fun k => ?_) hR
      rw [e0, if_neg c]
theorem near_ref {an ad : Int} (h : Ok an ad) (n : Nat) (h1 : 1 ≤ n) (hn : n ≤ 1000) (hd : (n : Int) < ad) : ∀ (m i : Nat), i + m = n → Ev (fun k => withyref01_Near.l0 k (n : Int) ((i + 1 : Nat) : Int) an ad (BestL an ad (CandZ an ad i)).1 (BestL an ad (CandZ an ad i)).2) (Low (NearZ an ad n).1 (NearZ an ad n).2) := by
  intro m
  have a1 := h.d1; have a2 := h.d2; have a3 := h.n1; have a4 := h.n2
  induction m with
  | zero =>
    intro i hi
    obtain rfl : i = n := by omega
    have nb := (NearZ_best h h1 hn).1
    have nf := CandZ_fit h hd _ nb
    obtain ⟨⟨nd1, nd2⟩, _⟩ := CandZ_B h hn _ nb
    rw [← NearZ_L]
    refine Ev.step (f := fun k => (withyref01_low.f k (NearZ an ad i).1 (NearZ an ad i).2).bind fun b => some (b.1, b.2.1, b.2.2)) (fun k => ?_) (ev_three (ev_low (by omega) (by omega) (by omega) (by omega) (by omega)))
    rw [withyref01_Near.l0, if_neg (by omega)]
  | succ m ih =>
    intro i hi
    have m1 : an * ((i + 1 : Nat) : Int) ≤ 1000000000 * ((i + 1 : Nat) : Int) := Int.mul_le_mul_of_nonneg_right a4 (by omega)
    have m2 : (-1000000000) * ((i + 1 : Nat) : Int) ≤ an * ((i + 1 : Nat) : Int) := Int.mul_le_mul_of_nonneg_right a3 (by omega)
    have w2 : wrap64 (an * ((i + 1 : Nat) : Int)) = an * ((i + 1 : Nat) : Int) := w64 (by omega) (by omega)
    have fd := under_div (n := an * ((i + 1 : Nat) : Int)) (d := ad) (by omega) (by omega) (by omega) (by omega)
    have hB := CandZ_B h (m := i + 1) (by omega)
    have hB0 := CandZ_B h (m := i) (by omega)
    have e1 : CandZ an ad (i + 1) = (CandZ an ad i ++ [(an * ((i + 1 : Nat) : Int) / ad, ((i + 1 : Nat) : Int))]) ++ [(an * ((i + 1 : Nat) : Int) / ad + 1, ((i + 1 : Nat) : Int))] := by
      rw [List.append_assoc]
      rfl
    have c1 := hB (an * ((i + 1 : Nat) : Int) / ad, ((i + 1 : Nat) : Int)) (CandZ_mem.mpr ⟨i + 1, by omega, by omega, .inl rfl⟩)
    have c2 := hB (an * ((i + 1 : Nat) : Int) / ad + 1, ((i + 1 : Nat) : Int)) (CandZ_mem.mpr ⟨i + 1, by omega, by omega, .inr rfl⟩)
    have hb := cand_n h c1
    dsimp only at hb
    have nx := ih (i + 1) (by omega)
    rw [e1] at nx
    generalize an * ((i + 1 : Nat) : Int) / ad = f at fd c1 c2 hb nx
    have wf : wrap64 (f + 1) = f + 1 := w64 (by omega) (by omega)
    have last : Ev (fun k => withyref01_Near.l1 k (n : Int) ((i + 1 : Nat) : Int) f (f + 1 + 1) an ad (BestL an ad ((CandZ an ad i ++ [(f, ((i + 1 : Nat) : Int))]) ++ [(f + 1, ((i + 1 : Nat) : Int))])).1 (BestL an ad ((CandZ an ad i ++ [(f, ((i + 1 : Nat) : Int))]) ++ [(f + 1, ((i + 1 : Nat) : Int))])).2) (Low (NearZ an ad n).1 (NearZ an ad n).2) := by
      refine Ev.step (fun k => ?_) nx
      show (if f + 1 + 1 ≤ wrap64 (f + 1) then _ else _) = _
      rw [wf, if_neg (by omega), w64 (n := ((i + 1 : Nat) : Int) + 1) (by omega) (by omega)]
      rfl
    have mid := near_inner h (n : Int) ((i + 1 : Nat) : Int) f (f + 1) (CandZ an ad i ++ [(f, ((i + 1 : Nat) : Int))]) (fun x hx => by
      rcases List.mem_append.mp hx with hx | hx
      · exact hB0 x hx
      · rw [List.mem_singleton.mp hx]; exact c1) c2 hb (Int.le_refl _) last
    have first := near_inner h (n : Int) ((i + 1 : Nat) : Int) f f (CandZ an ad i) hB0 c1 hb (by omega) mid
    refine Ev.step (fun k => ?_) first
    rw [withyref01_Near.l0, if_pos (by omega), w2, fd, Option.bind_some]
theorem ev_rNear (n d m : Int) : Ev (fun k => withyref01_Near.f k n d m) (NearR n d m) := by
  unfold withyref01_Near.f NearR
  refine Ev.bind (ev_rcheck n d) ?_
  by_cases c : Chk n d = 0
  · simp only [c, if_true, in_f, Option.bind_some]
    by_cases b : 1 ≤ m ∧ m ≤ 1000
    · simp only [b, and_self, decide_true, if_true]
      by_cases e : d ≤ m
      · simp only [e, if_true]
        exact Ev.now _
      · simp only [e, if_false]
        obtain ⟨j, rfl⟩ : ∃ j : Nat, m = j := ⟨m.toNat, by omega⟩
        rw [Int.toNat_natCast]
        exact near_ref (Chk_ok.mp c) j (by omega) (by omega) (by omega) j 0 (by omega)
    · simp only [b, decide_false, Bool.false_eq_true, if_false]
      exact Ev.now _
  · simp only [c, if_false]
    exact Ev.now _
def CF : List Int → Int → Int → Prop
  | [], _, _ => False
  | [t], n, d => n = t ∧ d = 1
  | t :: s :: l, n, d => ∃ m e, CF (s :: l) m e ∧ (0 < e ∧ e < m) ∧ n = t * m + e ∧ d = m
theorem CF.uniq : ∀ {L : List Int} {n d n' d' : Int}, CF L n d → CF L n' d' → n = n' ∧ d = d'
  | [t], _, _, _, _, h, k => by
    obtain ⟨rfl, rfl⟩ := h
    obtain ⟨rfl, rfl⟩ := k
    exact ⟨rfl, rfl⟩
  | t :: s :: l, _, _, _, _, h, k => by
    obtain ⟨m, e, h0, _, rfl, rfl⟩ := h
    obtain ⟨m', e', k0, _, rfl, rfl⟩ := k
    obtain ⟨rfl, rfl⟩ := CF.uniq h0 k0
    exact ⟨rfl, rfl⟩
theorem CF.gcd : ∀ {L : List Int} {n d : Int}, CF L n d → Int.gcd n d = 1
  | [t], _, _, h => by
    obtain ⟨rfl, rfl⟩ := h
    exact Int.gcd_one_right ..
  | t :: s :: l, _, _, h => by
    obtain ⟨m, e, h0, _, rfl, rfl⟩ := h
    have := CF.gcd h0
    rw [Int.gcd_comm, Int.add_comm, Int.gcd_add_mul_right_right]
    exact this
theorem cf_some : ∀ (k : Nat) (n d : Int), 0 < d → d ≤ k → Int.gcd n d = 1 → ∃ L, CF L n d
  | 0, _, _, h, h', _ => by omega
  | k + 1, n, d, h, h', g => by
    have p1 := Int.emod_nonneg n (b := d) (by omega)
    have p2 := Int.emod_lt_of_pos n h
    have p3 := Int.emod_add_mul_ediv n d
    have p4 : d * (n / d) = n / d * d := Int.mul_comm ..
    by_cases c : n % d = 0
    · have hd : d ∣ n := Int.dvd_of_emod_eq_zero c
      have : (Int.gcd n d : Int) = d := by
        rw [Int.gcd_eq_right (by omega) hd]
      rw [g] at this
      exact ⟨[n], rfl, by omega⟩
    · have g' : Int.gcd d (n % d) = 1 := by
        have e := Int.gcd_add_mul_right_left d (n % d) (n / d)
        have e1 := Int.gcd_add_mul_right_left (n % d) d (n / d)
        have e2 : n % d + n / d * d = n := by omega
        first
          | (rw [e2, g] at e; rw [Int.gcd_comm]; exact e.symm)
          | (rw [e2, g] at e1; rw [Int.gcd_comm]; exact e1.symm)
      obtain ⟨L, hL⟩ := cf_some k d (n % d) (by omega) (by omega) g'
      match L, hL with
      | s :: l, hL => exact ⟨n / d :: s :: l, d, n % d, hL, ⟨by omega, p2⟩, by omega, rfl⟩
def fibS : Nat → Int
  | 0 => 1
  | 1 => 1
  | m + 2 => fibS (m + 1) + fibS m
theorem fib_pos : ∀ m, 1 ≤ fibS m ∧ fibS m ≤ fibS (m + 1)
  | 0 => by decide
  | m + 1 => by
    have := fib_pos m
    show 1 ≤ fibS (m + 1) ∧ fibS (m + 1) ≤ fibS (m + 1) + fibS m
    omega
theorem fib_five (m : Nat) : 8 * fibS m ≤ fibS (m + 5) := by
  have h := fib_pos m
  have a2 : fibS (m + 2) = fibS (m + 1) + fibS m := rfl
  have a3 : fibS (m + 3) = fibS (m + 2) + fibS (m + 1) := rfl
  have a4 : fibS (m + 4) = fibS (m + 3) + fibS (m + 2) := rfl
  have a5 : fibS (m + 5) = fibS (m + 4) + fibS (m + 3) := rfl
  omega
theorem fib_le {m n : Nat} (h : m ≤ n) : fibS m ≤ fibS n := by
  induction h with
  | refl => exact Int.le_refl _
  | step _ ih => exact Int.le_trans ih (fib_pos _).2
theorem fib_50 : 1000000000 < fibS 50 := by
  have h0 : fibS 0 = 1 := rfl
  have a1 := fib_five 0; have a2 := fib_five 5; have a3 := fib_five 10; have a4 := fib_five 15; have a5 := fib_five 20
  have a6 := fib_five 25; have a7 := fib_five 30; have a8 := fib_five 35; have a9 := fib_five 40; have a10 := fib_five 45
  simp only [Nat.zero_add, Nat.reduceAdd] at *
  omega
theorem cf_fib : ∀ {L : List Int} {n d : Int}, CF L n d → fibS L.length ≤ d
  | [t], _, _, h => by
    obtain ⟨_, hd⟩ := h
    show 1 ≤ _
    omega
  | [t, s], _, d, h => by
    obtain ⟨m, e, ⟨hm, he⟩, ⟨h1, h2⟩, _, hd⟩ := h
    show 1 + 1 ≤ d
    omega
  | t :: s :: u :: l, _, _, h => by
    obtain ⟨m, e, h0, ⟨h1, h2⟩, _, hd⟩ := h
    have i1 := cf_fib h0
    obtain ⟨m', e', h0', ⟨k1, k2⟩, hm, he⟩ := h0
    have i2 := cf_fib h0'
    have hs : 1 ≤ s := by
      refine Classical.byContradiction fun w => ?_
      have : s * m' ≤ 0 * m' := Int.mul_le_mul_of_nonneg_right (by omega) (by omega)
      omega
    have : 1 * m' ≤ s * m' := Int.mul_le_mul_of_nonneg_right hs (by omega)
    show fibS ((u :: l).length + 1) + fibS (u :: l).length ≤ _
    have i1' : fibS ((u :: l).length + 1) ≤ e := i1
    omega
theorem cf_len {L : List Int} {n d : Int} (h : CF L n d) (hd : d ≤ 1000000000) : 1 ≤ L.length ∧ L.length ≤ 49 := by
  have h1 : 1 ≤ L.length := by
    match L, h with
    | t :: l, _ => exact Nat.succ_le_succ (Nat.zero_le _)
  refine ⟨h1, ?_⟩
  have := cf_fib h
  refine Classical.byContradiction fun w => ?_
  have := fib_le (m := 50) (n := L.length) (by omega)
  have := fib_50
  omega
/-- num.Of, from behind: the terms ahead of what has been done, the next one first -/
def contR : List Int → Int → Int → Int × Int × Int
  | [], x, y => (x, y, 0)
  | t :: r, x, y => if -1000000000 ≤ t ∧ t ≤ 1000000000 then (if (Low (t * x + y) x).2.2 = 0 then contR r (Low (t * x + y) x).1 (Low (t * x + y) x).2.1 else (0, 0, 8)) else (0, 0, 8)
theorem fl_term {t m e : Int} (h1 : 0 ≤ e) (h2 : e < m) : (t * m + e) / m = t := by
  rw [Int.add_comm, Int.add_mul_ediv_right _ _ (by omega), Int.ediv_eq_zero_of_lt h1 h2, Int.zero_add]
theorem ev_go : ∀ (L : List Int) (n d : Int), CF L n d → d ≤ 1000000000 → -1000000000 ≤ n → n ≤ 1000000000 → Ev (fun k => num_terms.go k n d) L
  | [t], n, d, h, b1, b2, b3 => by
    obtain ⟨rfl, rfl⟩ := h
    refine ⟨2, fun k hk => ?_⟩
    obtain ⟨j, rfl⟩ : ∃ j, k = j + 2 := ⟨k - 2, by omega⟩
    have fd := floor_div (n := n) (d := 1) (by omega) (by omega) (by omega) (by omega)
    have e1 : wrap64 (n * 1) = n := (w64 (by omega) (by omega)).trans (by omega)
    have e2 : wrap64 (n - n) = 0 := (w64 (by omega) (by omega)).trans (by omega)
    rw [Int.ediv_one] at fd
    show num_terms.go (j + 2) n 1 = _
    rw [num_terms.go, if_pos (by omega), fd, Option.bind_some, e1, e2, num_terms.go, if_neg (by omega)]
    rfl
  | t :: s :: l, n, d, h, b1, b2, b3 => by
    obtain ⟨m, e, h0, ⟨h1, h2⟩, hn, hd⟩ := h
    have ih := ev_go (s :: l) m e h0 (by omega) (by omega) (by omega)
    have fd := floor_div (n := n) (d := d) (by omega) (by omega) (by omega) (by omega)
    rw [hn, hd, fl_term (by omega) h2] at fd
    have e1 : wrap64 (t * m) = t * m := w64 (by omega) (by omega)
    have e2 : wrap64 (t * m + e - t * m) = e := (w64 (by omega) (by omega)).trans (by omega)
    rw [hn, hd]
    refine Ev.step (f := fun k => (num_terms.go k m e).bind fun l' => some (t :: l')) (fun k => ?_) (Ev.bind ih (Ev.now _))
    rw [num_terms.go, if_pos (by omega), fd, Option.bind_some, e1, e2]
theorem ev_rgo : ∀ (L : List Int) (n d : Int) (acc : List Int), CF L n d → d ≤ 1000000000 → -1000000000 ≤ n → n ≤ 1000000000 → acc.length + L.length ≤ 1000 → Ev (fun k => withyref01_Terms.l0 k acc n d) (acc ++ L, 0)
  | [t], n, d, acc, h, b1, b2, b3, hl => by
    obtain ⟨rfl, rfl⟩ := h
    simp only [List.length_cons, List.length_nil] at hl
    refine ⟨2, fun k hk => ?_⟩
    obtain ⟨j, rfl⟩ : ∃ j, k = j + 2 := ⟨k - 2, by omega⟩
    have fd := under_div (n := n) (d := 1) (by omega) (by omega) (by omega) (by omega)
    have e1 : wrap64 (n * 1) = n := (w64 (by omega) (by omega)).trans (by omega)
    have e2 : wrap64 (n - n) = 0 := (w64 (by omega) (by omega)).trans (by omega)
    rw [Int.ediv_one] at fd
    show withyref01_Terms.l0 (j + 2) acc n 1 = _
    rw [withyref01_Terms.l0, if_pos (by omega), fd, Option.bind_some, if_pos (by omega), e1, e2, withyref01_Terms.l0, if_neg (by omega)]
  | t :: s :: l, n, d, acc, h, b1, b2, b3, hl => by
    obtain ⟨m, e, h0, ⟨h1, h2⟩, hn, hd⟩ := h
    have ih := ev_rgo (s :: l) m e (acc ++ [t]) h0 (by omega) (by omega) (by omega) (by simp only [List.length_append, List.length_cons, List.length_nil] at hl ⊢; omega)
    have fd := under_div (n := n) (d := d) (by omega) (by omega) (by omega) (by omega)
    rw [hn, hd, fl_term (by omega) h2] at fd
    have e1 : wrap64 (t * m) = t * m := w64 (by omega) (by omega)
    have e2 : wrap64 (t * m + e - t * m) = e := (w64 (by omega) (by omega)).trans (by omega)
    rw [hn, hd]
    rw [List.append_assoc] at ih
    refine Ev.step (fun k => ?_) ih
    simp only [List.length_cons] at hl
    rw [withyref01_Terms.l0, if_pos (by omega), fd, Option.bind_some, if_pos (by omega), e1, e2]
theorem ev_Terms {n d : Int} (h : Chk n d = 0) : ∃ L, CF L n d ∧ (1 ≤ L.length ∧ L.length ≤ 49) ∧ Ev (fun k => num_Terms.f k n d) (L, 0) ∧ Ev (fun k => withyref01_Terms.f k n d) (L, 0) := by
  have ok := Chk_ok.mp h
  have h1 := ok.d1; have h2 := ok.d2; have h3 := ok.n1; have h4 := ok.n2
  obtain ⟨L, hL⟩ := cf_some d.toNat n d (by omega) (by omega) ok.g
  have hl := cf_len hL h2
  refine ⟨L, hL, hl, ?_, ?_⟩
  · unfold num_Terms.f
    refine Ev.bind (ev_check n d) ?_
    simp only [h, if_true]
    refine Ev.bind (ev_go L n d hL h2 h3 h4) ?_
    simp only [show L.length < 17592186044416 by omega, if_true]
    exact Ev.now _
  · unfold withyref01_Terms.f
    refine Ev.bind (ev_rcheck n d) ?_
    simp only [h, if_true]
    exact ev_rgo L n d [] hL h2 h3 h4 (by simp only [List.length_nil]; omega)
theorem ev_Terms_no {n d : Int} (h : ¬ Chk n d = 0) : Ev (fun k => num_Terms.f k n d) ([], Chk n d) ∧ Ev (fun k => withyref01_Terms.f k n d) ([], Chk n d) := by
  refine ⟨?_, ?_⟩
  · unfold num_Terms.f
    refine Ev.bind (ev_check n d) ?_
    simp only [h, if_false]
    exact Ev.now _
  · unfold withyref01_Terms.f
    refine Ev.bind (ev_rcheck n d) ?_
    simp only [h, if_false]
    exact Ev.now _
theorem rd_at1 {l : List Int} {i : Nat} (h : i < l.length) : rd l (i : Int) = l[i] := by
  simp [rd, List.getD_eq_getElem?_getD, h]
theorem take_rev {l : List Int} {i : Nat} (h : i < l.length) : (l.take (i + 1)).reverse = rd l (i : Int) :: (l.take i).reverse := by
  rw [List.take_succ_eq_append_getElem h, List.reverse_append, rd_at1 h]
  rfl
theorem Rn_pos {n d : Int} (hn : 1 ≤ n) (hd : 1 ≤ d) : 1 ≤ Rn n d := by
  have hg := gcd_pos (n := n) (d := d) (by omega)
  have dv : ((Int.gcd n d : Nat) : Int) ∣ n := Int.gcd_dvd_left ..
  have le := Int.le_of_dvd (by omega) dv
  unfold Rn
  rw [if_neg (by omega)]
  exact Int.le_ediv_of_mul_le (by omega) (by omega)
theorem of_loop (l : List Int) (last : Int) (hl : last < l.length) (hm : l.length ≤ 1000) (hpos : ∀ j : Nat, 1 ≤ j → j < l.length → 1 ≤ rd l (j : Int)) : ∀ (i : Nat) (x y : Int), (i : Int) ≤ last → (0 < i → (1 ≤ x ∧ x ≤ 1000000000) ∧ (1 ≤ y ∧ y ≤ 1000000000)) →
    Ev (fun k => num_Of.go k l last i x y) (contR (l.take i).reverse x y) ∧ Ev (fun k => withyref01_Of.l1 k l last ((i : Int) - 1) x y) (contR (l.take i).reverse x y)
  | 0, x, y, _, _ => by
    refine ⟨Ev.now _, Ev.step (f := fun _ => some (x, y, 0)) (fun k => ?_) (Ev.now _)⟩
    rw [withyref01_Of.l1, if_neg (by omega)]
  | i + 1, x, y, hi, hb => by
    have hlt : i < l.length := by omega
    obtain ⟨⟨x1, x2⟩, y1, y2⟩ := hb (Nat.succ_pos _)
    have hp := hpos i
    rw [take_rev hlt, show ((i + 1 : Nat) : Int) - 1 = (i : Int) by omega]
    obtain ⟨t, ht⟩ : ∃ t, t = rd l (i : Int) := ⟨_, rfl⟩
    rw [← ht] at hp ⊢
    unfold contR
    by_cases b : -1000000000 ≤ t ∧ t ≤ 1000000000
    · have m1 : t * x ≤ 1000000000 * x := Int.mul_le_mul_of_nonneg_right b.2 (by omega)
      have m2 : (-1000000000) * x ≤ t * x := Int.mul_le_mul_of_nonneg_right b.1 (by omega)
      have w1 : wrap64 (t * x) = t * x := w64 (by omega) (by omega)
      have w2 : wrap64 (t * x + y) = t * x + y := w64 (by omega) (by omega)
      rw [if_pos b]
      have nx : Fits (t * x + y) x → Ev (fun k => num_Of.go k l last i (Rn (t * x + y) x) (Rd (t * x + y) x)) (contR (l.take i).reverse (Rn (t * x + y) x) (Rd (t * x + y) x)) ∧ Ev (fun k => withyref01_Of.l1 k l last ((i : Int) - 1) (Rn (t * x + y) x) (Rd (t * x + y) x)) (contR (l.take i).reverse (Rn (t * x + y) x) (Rd (t * x + y) x)) := fun hf => by
        refine of_loop l last hl hm hpos i _ _ (by omega) (fun h0 => ?_)
        have o := Low_ok (by omega) hf
        have t1 := hp h0 hlt
        have : 1 * x ≤ t * x := Int.mul_le_mul_of_nonneg_right t1 (by omega)
        exact ⟨⟨Rn_pos (by omega) x1, o.n2⟩, o.d1, o.d2⟩
      have hlow : ∀ hf : Fits (t * x + y) x, Low (t * x + y) x = (Rn (t * x + y) x, Rd (t * x + y) x, 0) := fun hf => if_pos hf
      have hlow' : ∀ hf : ¬ Fits (t * x + y) x, Low (t * x + y) x = (0, 0, 8) := fun hf => if_neg hf
      constructor
      · refine Ev.congr (f := fun k => (num_ratio_num.f k (t * x + y) x).bind fun z => exc z (fun _ => some (0, 0, 8)) (fun b => num_Of.go k l last i b.1 b.2)) (fun k => ?_) ?_
        · rw [num_Of.go, ← ht, if_pos b, if_neg (by omega), w1, w2]
        · refine Ev.bind (ev_num (by omega) (by omega) (by omega) (by omega) (by omega)) ?_
          simp only [exc_numK (t * x + y) x]
          by_cases hf : Fits (t * x + y) x
          · simp only [hf, if_true, hlow hf]
            exact (nx hf).1
          · simp only [hf, if_false, hlow' hf]
            exact Ev.now _
      · refine Ev.step (f := fun k => (withyref01_low.f k (t * x + y) x).bind fun b => if b.2.2 = 0 then withyref01_Of.l1 k l last ((i : Int) - 1) b.1 b.2.1 else some (0, 0, b.2.2)) (fun k => ?_) ?_
        · rw [withyref01_Of.l1, if_pos (by omega), if_pos (by omega), if_pos (by omega), ← ht, in_f, Option.bind_some, decide_eq_true b, if_pos rfl, if_neg (by omega), w1, w2, w64 (n := (i : Int) - 1) (by omega) (by omega)]
        · refine Ev.bind (ev_low (by omega) (by omega) (by omega) (by omega) (by omega)) ?_
          by_cases hf : Fits (t * x + y) x
          · simp only [hlow hf, if_true]
            exact (nx hf).2
          · simp only [hlow' hf, show ¬ ((8 : Int) = 0) by decide, if_false]
            exact Ev.now _
    · rw [if_neg b]
      refine ⟨Ev.congr (f := fun _ => some (0, 0, 8)) (fun k => ?_) (Ev.now _), Ev.step (f := fun _ => some (0, 0, 8)) (fun k => ?_) (Ev.now _)⟩
      · rw [num_Of.go, ← ht, if_neg b]
      · rw [withyref01_Of.l1, if_pos (by omega), if_pos (by omega), if_pos (by omega), ← ht, in_f, Option.bind_some, decide_eq_false b, if_neg (by decide)]
/-- what the terms come to -/
def OfZ (l : List Int) : Int × Int × Int := if -1000000000 ≤ rd l ((l.length : Int) - 1) ∧ rd l ((l.length : Int) - 1) ≤ 1000000000 then contR (l.take (l.length - 1)).reverse (rd l ((l.length : Int) - 1)) 1 else (0, 0, 8)
def OfR (l : List Int) : Int × Int × Int := if 1 ≤ (l.length : Int) ∧ (l.length : Int) ≤ 50 then (if (l.drop 1).any (fun n => decide (n < 1)) = true then (0, 0, 3) else (if 0 < (l.length : Int) - 1 ∧ rd l ((l.length : Int) - 1) = 1 then (0, 0, 1) else OfZ l)) else (0, 0, 4)
theorem any_pos {l : List Int} (h : ¬ (l.drop 1).any (fun n => decide (n < 1)) = true) (j : Nat) (h1 : 1 ≤ j) (h2 : j < l.length) : 1 ≤ rd l (j : Int) := by
  rw [rd_at1 h2]
  refine Classical.byContradiction fun w => h (List.any_eq_true.mpr ⟨l[j], ?_, decide_eq_true (by omega)⟩)
  rw [List.mem_iff_getElem]
  exact ⟨j - 1, by rw [List.length_drop]; omega, by rw [List.getElem_drop]; congr 1; omega⟩
theorem of_top (l : List Int) (h1 : 1 ≤ l.length) (h2 : l.length ≤ 50) (h : ¬ (l.drop 1).any (fun n => decide (n < 1)) = true) :
    Ev (fun k => num_Of.go k l ((l.length : Int) - 1) l.length 0 0) (OfZ l) ∧ Ev (fun k => withyref01_Of.l1 k l ((l.length : Int) - 1) ((l.length : Int) - 1) 0 0) (OfZ l) := by
  obtain ⟨i, hi⟩ : ∃ i, l.length = i + 1 := ⟨l.length - 1, by omega⟩
  have hp := any_pos h
  unfold OfZ
  rw [hi, show ((i + 1 : Nat) : Int) - 1 = (i : Int) by omega, Nat.add_sub_cancel]
  have hpi := hp i
  obtain ⟨t, ht⟩ : ∃ t, t = rd l (i : Int) := ⟨_, rfl⟩
  rw [← ht] at hpi ⊢
  by_cases b : -1000000000 ≤ t ∧ t ≤ 1000000000
  · rw [if_pos b]
    obtain ⟨e1, e2⟩ := of_loop l i (by omega) (by omega) hp i t 1 (Int.le_refl _) (fun h0 => ⟨⟨hpi h0 (by omega), b.2⟩, by decide, by decide⟩)
    refine ⟨Ev.congr (fun k => ?_) e1, Ev.step (fun k => ?_) e2⟩
    · rw [num_Of.go, ← ht, if_pos b, if_pos rfl]
    · rw [withyref01_Of.l1, if_pos (by omega), if_pos (by omega), if_pos (by omega), ← ht, in_f, Option.bind_some, decide_eq_true b, if_pos rfl, if_pos rfl, w64 (n := (i : Int) - 1) (by omega) (by omega)]
      rfl
  · rw [if_neg b]
    refine ⟨Ev.congr (f := fun _ => some (0, 0, 8)) (fun k => ?_) (Ev.now _), Ev.step (f := fun _ => some (0, 0, 8)) (fun k => ?_) (Ev.now _)⟩
    · rw [num_Of.go, ← ht, if_neg b]
    · rw [withyref01_Of.l1, if_pos (by omega), if_pos (by omega), if_pos (by omega), ← ht, in_f, Option.bind_some, decide_eq_false b, if_neg (by decide)]
theorem ev_Of (l : List Int) : Ev (fun k => num_Of.f k l) (OfR l) := by
  unfold num_Of.f OfR
  by_cases c1 : 1 ≤ (l.length : Int) ∧ (l.length : Int) ≤ 50
  · simp only [c1, and_self, if_true]
    by_cases c2 : (l.drop 1).any (fun n => decide (n < 1)) = true
    · simp only [c2, if_true]
      exact Ev.now _
    · simp only [c2, if_false]
      by_cases c3 : 0 < (l.length : Int) - 1 ∧ rd l ((l.length : Int) - 1) = 1
      · simp only [c3, and_self, if_true]
        exact Ev.now _
      · simp only [c3, if_false]
        exact (of_top l (by omega) (by omega) c2).1
  · simp only [c1, if_false]
    exact Ev.now _
theorem rof_guard (l : List Int) (h1 : 1 ≤ l.length) (h2 : l.length ≤ 50) (R : Int × Int × Int) (hR : ¬ (l.drop 1).any (fun n => decide (n < 1)) = true → Ev (fun k => if (l.length : Int) - 1 > 0 then (if 0 ≤ (l.length : Int) - 1 then (if (l.length : Int) - 1 < (l.length : Int) then (withyref01_Of.j1 k l ((l.length : Int) - 1) ((rd l ((l.length : Int) - 1)) == 1)) else (none)) else (none)) else (withyref01_Of.j1 k l ((l.length : Int) - 1) false)) R) :
    ∀ (m i : Nat), 1 ≤ i → i + m = l.length → (¬ (l.drop i).any (fun n => decide (n < 1)) = true → ¬ (l.drop 1).any (fun n => decide (n < 1)) = true) → Ev (fun k => withyref01_Of.l0 k l ((l.length : Int) - 1) (i : Int)) (if (l.drop i).any (fun n => decide (n < 1)) = true then (0, 0, 3) else R)
  | 0, i, h0, hi, hh => by
    have e : l.drop i = [] := List.drop_of_length_le (by omega)
    rw [e] at hh ⊢
    rw [if_neg (by simp)]
    refine Ev.step (fun k => ?_) (hR (hh (by simp)))
    rw [withyref01_Of.l0, if_neg (by omega)]
  | m + 1, i, h0, hi, hh => by
    have hlt : i < l.length := by omega
    rw [List.drop_eq_getElem_cons hlt, List.any_cons, ← rd_at1 hlt] at hh ⊢
    by_cases c : rd l (i : Int) < 1
    · rw [decide_eq_true c, Bool.true_or, if_pos rfl]
      refine Ev.step (f := fun _ => some (0, 0, 3)) (fun k => ?_) (Ev.now _)
      rw [withyref01_Of.l0, if_pos (by omega), if_pos (by omega), if_pos (by omega), if_pos c]
    · rw [decide_eq_false c, Bool.false_or] at hh ⊢
      refine Ev.step (fun k => ?_) (rof_guard l h1 h2 R hR m (i + 1) (by omega) (by omega) hh)
      rw [withyref01_Of.l0, if_pos (by omega), if_pos (by omega), if_pos (by omega), if_neg c, w64 (n := (i : Int) + 1) (by omega) (by omega)]
      rfl
theorem ev_rOf (l : List Int) (hl : l.length ≤ 1000) : Ev (fun k => withyref01_Of.f k l) (OfR l) := by
  unfold withyref01_Of.f OfR
  simp only [in_f, Option.bind_some]
  by_cases c1 : 1 ≤ (l.length : Int) ∧ (l.length : Int) ≤ 50
  · simp only [c1, and_self, decide_true, if_true]
    rw [w64 (n := (l.length : Int) - 1) (by omega) (by omega)]
    refine rof_guard l (by omega) (by omega) _ (fun c2 => ?_) (l.length - 1) 1 (Nat.le_refl _) (by omega) id
    have j1 : ∀ b : Bool, Ev (fun k => withyref01_Of.j1 k l ((l.length : Int) - 1) b) (if b = true then (0, 0, 1) else OfZ l) := fun b => by
      cases b
      · refine Ev.step (fun k => ?_) (of_top l (by omega) (by omega) c2).2
        rw [withyref01_Of.j1, if_neg (by decide)]
      · refine Ev.step (f := fun _ => some (0, 0, 1)) (fun k => ?_) (Ev.now _)
        rw [withyref01_Of.j1, if_pos rfl]
    by_cases c3 : 0 < (l.length : Int) - 1
    · have := j1 (rd l ((l.length : Int) - 1) == 1)
      simp only [beq_iff_eq] at this
      simp only [show (l.length : Int) - 1 > 0 from c3, show 0 ≤ (l.length : Int) - 1 by omega, show (l.length : Int) - 1 < (l.length : Int) by omega, if_true, c3, true_and]
      exact this
    · have := j1 false
      simp only [show ¬ ((l.length : Int) - 1 > 0) from c3, if_false, c3, false_and]
      exact this
  · simp only [c1, decide_false, Bool.false_eq_true, if_false]
    exact Ev.now _
theorem ev_alike (l : List Int) (hl : l.length ≤ 1000) : Ev (fun k => withyref01_Alike.f k l l) true := by
  have lp : ∀ (m i : Nat), i + m = l.length → Ev (fun k => withyref01_Alike.l0 k l l (i : Int)) true := by
    intro m
    induction m with
    | zero =>
      intro i hi
      refine Ev.step (f := fun _ => some true) (fun k => ?_) (Ev.now _)
      rw [withyref01_Alike.l0, if_neg (by omega)]
    | succ m ih =>
      intro i hi
      refine Ev.step (fun k => ?_) (ih (i + 1) (by omega))
      rw [withyref01_Alike.l0, if_pos (by omega), if_pos (by omega), if_pos (by omega), if_pos rfl, w64 (n := (i : Int) + 1) (by omega) (by omega)]
      rfl
  unfold withyref01_Alike.f
  simp only [if_true]
  exact lp l.length 0 (by omega)
set_option maxRecDepth 100000 in
theorem summed_at : withylaw01_summed.f 60 = some true := by kernel_rfl
theorem ev_summed : Ev (fun k => withylaw01_summed.f k) true := Ev.of (fun k => withylaw01_summed.mono k) summed_at
theorem nears_j1 (a b : Int) (l : List Int) (hl : l.length ≤ 60) : Ev (fun k => withylaw01_NumNears.j1 k l false a b) true := by
  have hs := Ev.bind ev_summed (Ev.now true)
  have fin : ∀ (L : List Int) (c : Int), L.length ≤ 1000 → Ev (fun k => num_Terms.f k a b) (L, c) → Ev (fun k => withyref01_Terms.f k a b) (L, c) → Ev (fun k => withylaw01_NumNears.j1 k l false a b) true := fun L c hL h1 h2 => by
    refine Ev.step (fun k => by rw [withylaw01_NumNears.j1, if_neg (by decide)]) (Ev.bind h1 (Ev.bind h2 (Ev.bind (ev_Of l) (Ev.bind (ev_rOf l (by omega)) ?_))))
    simp only [if_true, beq_self_eq_true, Bool.and_self]
    refine Ev.bind (ev_alike L hL) ?_
    simp only [if_true]
    exact hs
  by_cases d : Chk a b = 0
  · obtain ⟨L, _, hl, h1, h2⟩ := ev_Terms d
    exact fin L 0 (by omega) h1 h2
  · obtain ⟨h1, h2⟩ := ev_Terms_no d
    exact fin [] _ (by decide) h1 h2
theorem withylaw01_NumNears.ev (a0_0 a0_1 a1_0 a1_1 a2 : Int) (l3 : List Int) : Ev (fun k => withylaw01_NumNears.f k a0_0 a0_1 a1_0 a1_1 a2 l3) true := by
  have hs := Ev.bind ev_summed (Ev.now true)
  unfold withylaw01_NumNears.f
  by_cases c : (l3.length : Int) > 60
  · simp only [c, if_true]
    exact hs
  · simp only [c, if_false]
    obtain ⟨R, h1, h2⟩ := ev_Simplest2 a0_0 a0_1 a1_0 a1_1
    refine Ev.bind h1 (Ev.bind h2 ?_)
    simp only [if_true, beq_self_eq_true, Bool.not_true, Bool.or_self]
    refine Ev.step (fun k => by rw [withylaw01_NumNears.j0, if_neg (by decide)]) (Ev.bind (ev_Near _ _ _) (Ev.bind (ev_rNear _ _ _) ?_))
    simp only [if_true, beq_self_eq_true, Bool.not_true, Bool.or_self]
    exact nears_j1 a0_0 a0_1 l3 (by omega)
theorem withylaw01_NumNears.pure (a0_0 a0_1 a1_0 a1_1 a2 : Int) (l3 : List Int) (_ : -9223372036854775808 ≤ a0_0 ∧ a0_0 ≤ 9223372036854775807) (_ : -9223372036854775808 ≤ a0_1 ∧ a0_1 ≤ 9223372036854775807) (_ : -9223372036854775808 ≤ a1_0 ∧ a1_0 ≤ 9223372036854775807) (_ : -9223372036854775808 ≤ a1_1 ∧ a1_1 ≤ 9223372036854775807) (_ : -9223372036854775808 ≤ a2 ∧ a2 ≤ 9223372036854775807) : ∃ k, withylaw01_NumNears.f k a0_0 a0_1 a1_0 a1_1 a2 l3 = some true :=
  (withylaw01_NumNears.ev a0_0 a0_1 a1_0 a1_1 a2 l3).rounds
end Go.Proofs.Ytakcdoahpbeckaa.H
