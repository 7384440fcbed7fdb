/- NumRounded: the plain law, without the program: what the printed functions come to. -/
import Derived.Test.YtakcdoahpbeckaaKNumRounded4
namespace Go.Proofs.Ytakcdoahpbeckaa.H
open Go.RowKit Go.Proofs.YtakcdoahpbeckaaW.PrintWords Go.Proofs.YtakcdoahpbeckaaW.PrintLast Go.Proofs.YtakcdoahpbeckaaW.PrintMore
attribute [local go_sem] max2_int min2_int max_two min_two max_three min_three max_four min_four   -- for this text's walks alone
set_option linter.unusedVariables false
set_option linter.unusedSimpArgs false

/-! ### the text VNumRounded -/
theorem w64 {n : Int} (h : -9223372036854775808 ≤ n) (h' : n ≤ 9223372036854775807) : wrap64 n = n := by unfold wrap64; omega
theorem Ev.isNow {α : Type} {g : Nat → Option α} {r : α} (h : ∀ k, g k = some r) : Ev g r := ⟨0, fun k _ => h k⟩
theorem mx_nat (g : Nat) (h : 0 < g) : mx (g : Int) 1 = g := by unfold mx; split <;> omega
theorem mx_abs {n : Int} (h : -9223372036854775807 ≤ n) (h' : n ≤ 9223372036854775807) : mx n (wrap64 (-n)) = (n.natAbs : Int) := by
  rw [w64 (by omega) (by omega)]
  unfold mx
  split <;> omega
theorem divisor_loop : ∀ (n m : Nat), Ev (fun k => num_divisor.l0 k (m : Int) (n : Int)) (mx (Nat.gcd m n : Nat) 1) := by
  intro n
  induction n using Nat.strongRecOn with
  | ind n ih =>
    intro m
    by_cases h : n = 0
    · subst h
      refine Ev.step (f := fun _ => some (mx (m : Int) 1)) (fun k => ?_) (by rw [Nat.gcd_zero_right]; exact Ev.now _)
      show (if (0 : Int) > 0 then _ else _) = _
      rfl
    · refine Ev.step (f := fun k => num_divisor.l0 k (n : Int) ((m % n : Nat) : Int)) (fun k => ?_) ?_
      · show (if (n : Int) > 0 then (if (n : Int) = 0 then none else num_divisor.l0 k (n : Int) (Int.tmod m n)) else _) = _
        rw [if_pos (by omega), if_neg (by omega)]
        rfl
      · have := ih (m % n) (Nat.mod_lt _ (by omega)) n
        rwa [Nat.gcd_comm n, ← Nat.gcd_rec, Nat.gcd_comm n] at this
theorem ev_divisor {n d : Int} (hn : -9223372036854775807 ≤ n) (hn' : n ≤ 9223372036854775807) (hd : -9223372036854775807 ≤ d) (hd' : d ≤ 9223372036854775807) (h0 : d ≠ 0) :
    Ev (fun k => num_divisor.f k n d) (Int.gcd n d) := by
  have h := divisor_loop d.natAbs n.natAbs
  rw [mx_nat _ (Nat.gcd_pos_of_pos_right _ (by omega))] at h
  refine Ev.congr (fun k => ?_) h
  show num_divisor.l0 k _ _ = _
  rw [mx_abs hn hn', mx_abs hd hd']
theorem of2_loop : ∀ (n m : Nat), 0 < Nat.gcd m n → Ev (fun k => withyref01_Of2.l0 k (m : Int) (n : Int)) ((Nat.gcd m n : Nat) : Int) := by
  intro n
  induction n using Nat.strongRecOn with
  | ind n ih =>
    intro m hp
    by_cases h : n = 0
    · subst h
      rw [Nat.gcd_zero_right] at hp ⊢
      refine Ev.step (f := fun _ => some ((m : Int))) (fun k => ?_) (Ev.now _)
      show (if (0 : Int) > 0 then _ else if (m : Int) = 0 then _ else _) = _
      rw [if_neg (by omega), if_neg (by omega)]
    · have hr : Nat.gcd n (m % n) = Nat.gcd m n := by rw [Nat.gcd_comm n, ← Nat.gcd_rec, Nat.gcd_comm n]
      refine Ev.step (f := fun k => withyref01_Of2.l0 k (n : Int) ((m % n : Nat) : Int)) (fun k => ?_) ?_
      · show (if (n : Int) > 0 then (if (n : Int) = 0 then none else withyref01_Of2.l0 k (n : Int) (Int.tmod m n)) else _) = _
        rw [if_pos (by omega), if_neg (by omega)]
        rfl
      · have := ih (m % n) (Nat.mod_lt _ (by omega)) n (by rw [hr]; exact hp)
        rwa [hr] at this
theorem ev_of2 {n d : Int} (hn : -9223372036854775807 ≤ n) (hn' : n ≤ 9223372036854775807) (hd : -9223372036854775807 ≤ d) (hd' : d ≤ 9223372036854775807) (h0 : d ≠ 0) :
    Ev (fun k => withyref01_Of2.f k n d) (Int.gcd n d) := by
  have h := of2_loop d.natAbs n.natAbs (Nat.gcd_pos_of_pos_right _ (by omega))
  have h2 : Ev (fun k => withyref01_Of2.j0 k (n.natAbs : Int) d) (Int.gcd n d) := by
    by_cases c : d < 0
    · refine Ev.step (f := fun k => withyref01_Of2.j1 k (n.natAbs : Int) (wrap64 (-d))) (fun k => ?_) (Ev.step (f := fun k => withyref01_Of2.l0 k (n.natAbs : Int) (wrap64 (-d))) (fun k => rfl) ?_)
      · show (if d < 0 then _ else _) = _
        rw [if_pos c]
      · rw [w64 (by omega) (by omega), show -d = (d.natAbs : Int) by omega]
        exact h
    · refine Ev.step (f := fun k => withyref01_Of2.j1 k (n.natAbs : Int) d) (fun k => ?_) (Ev.step (f := fun k => withyref01_Of2.l0 k (n.natAbs : Int) d) (fun k => rfl) ?_)
      · show (if d < 0 then _ else _) = _
        rw [if_neg c]
      · have e : d = (d.natAbs : Int) := by omega
        have h' := h
        rw [← e] at h'
        exact h'
  refine Ev.congr (fun k => ?_) h2
  unfold withyref01_Of2.f
  by_cases c : n < 0
  · rw [if_pos c, w64 (by omega) (by omega), show -n = (n.natAbs : Int) by omega]
  · rw [if_neg c]
    congr 1
    omega
/-- the error of a number -/
def Chk (n d : Int) : Int := if (1 ≤ d ∧ d ≤ 1000000000) ∧ (-1000000000 ≤ n ∧ n ≤ 1000000000) then (if Int.gcd n d > 1 then 1 else 0) else 3
theorem in_f (a b c : Int) : withyref01_In.f a b c = some (decide (b ≤ a ∧ a ≤ c)) := by
  unfold withyref01_In.f
  by_cases h : b ≤ a <;> simp [h]
theorem within_1 (a b n : Int) : num_within.f a b [n] = some (decide (a ≤ n ∧ n ≤ b)) := by
  unfold num_within.f
  simp
theorem ev_check (n d : Int) : Ev (fun k => num_Check.f k n d) (Chk n d) := by
  unfold num_Check.f Chk
  simp only [within_1, Option.bind_some]
  by_cases c : 1 ≤ d ∧ d ≤ 1000000000
  · by_cases c' : -1000000000 ≤ n ∧ n ≤ 1000000000
    · simp only [c, c', and_self, decide_true, if_true, Bool.not_true]
      refine Ev.step (f := fun k => (num_divisor.f k n d).bind fun t => if t > 1 then some 1 else some 0) (fun k => rfl) ?_
      · refine Ev.bind (ev_divisor (by omega) (by omega) (by omega) (by omega) (by omega)) ?_
        by_cases g : Int.gcd n d > 1
        · have g' : ((Int.gcd n d : Nat) : Int) > 1 := by omega
          simp only [g, g', if_true]
          exact Ev.now _
        · have g' : ¬ ((Int.gcd n d : Nat) : Int) > 1 := by omega
          simp only [g, g', if_false]
          exact Ev.now _
    · simp only [c, c', and_self, and_false, decide_true, decide_false, if_true, Bool.not_false, if_false]
      exact Ev.step (f := fun _ => some 3) (fun k => rfl) (Ev.now _)
  · simp only [c, false_and, decide_false, Bool.false_eq_true, if_false]
    exact Ev.step (f := fun _ => some 3) (fun k => rfl) (Ev.now _)
theorem ev_rcheck (n d : Int) : Ev (fun k => withyref01_Check.f k n d) (Chk n d) := by
  unfold withyref01_Check.f Chk
  simp only [in_f, Option.bind_some]
  by_cases c : 1 ≤ d ∧ d ≤ 1000000000
  · by_cases c' : -1000000000 ≤ n ∧ n ≤ 1000000000
    · simp only [c, c', and_self, decide_true, if_true, Bool.not_true]
      refine Ev.step (f := fun k => (withyref01_Of2.f k n d).bind fun t => if t > 1 then some 1 else some 0) (fun k => rfl) ?_
      · refine Ev.bind (ev_of2 (by omega) (by omega) (by omega) (by omega) (by omega)) ?_
        by_cases g : Int.gcd n d > 1
        · have g' : ((Int.gcd n d : Nat) : Int) > 1 := by omega
          simp only [g, g', if_true]
          exact Ev.now _
        · have g' : ¬ ((Int.gcd n d : Nat) : Int) > 1 := by omega
          simp only [g, g', if_false]
          exact Ev.now _
    · simp only [c, c', and_self, and_false, decide_true, decide_false, if_true, Bool.not_false, if_false]
      exact Ev.step (f := fun _ => some 3) (fun k => rfl) (Ev.now _)
  · simp only [c, false_and, decide_false, Bool.false_eq_true, if_false]
    exact Ev.step (f := fun _ => some 3) (fun k => rfl) (Ev.now _)
def Rn (n d : Int) : Int := (if d < 0 then -n else n) / (Int.gcd n d : Int)
def Rd (n d : Int) : Int := (if d < 0 then -d else d) / (Int.gcd n d : Int)
def Fits (n d : Int) : Prop := Rd n d ≤ 1000000000 ∧ (-1000000000 ≤ Rn n d ∧ Rn n d ≤ 1000000000)
instance (n d : Int) : Decidable (Fits n d) := inferInstanceAs (Decidable (_ ∧ _))
def Low (n d : Int) : Int × Int × Int := if Fits n d then (Rn n d, Rd n d, 0) else (0, 0, 8)
def NumE (n d : Int) : Except Int (Int × Int) := if Fits n d then .ok (Rn n d, Rd n d) else .error 0
theorem gcd_pos {n d : Int} (h : d ≠ 0) : 0 < Int.gcd n d := Nat.gcd_pos_of_pos_right _ (by omega)
theorem le_div {a : Int} {g : Nat} (hg : 0 < g) {b : Int} (h : -b ≤ a) (h' : a ≤ b) : -b ≤ a / (g : Int) ∧ a / (g : Int) ≤ b := by
  have hb : 0 ≤ b := by omega
  refine ⟨?_, ?_⟩
  · have : -b ≤ (-b) / (g : Int) := by
      have := Int.le_ediv_of_mul_le (a := -b) (b := -b) (c := (g : Int)) (by omega) (by
        have : (1 : Int) ≤ g := by omega
        have := Int.mul_le_mul_of_nonneg_left this hb
        have e : -b * (g : Int) = -(b * g) := by rw [Int.neg_mul]
        omega)
      exact this
    exact Int.le_trans this (Int.ediv_le_ediv (by omega) h)
  · exact Int.le_trans (Int.ediv_le_ediv (by omega) h') (Int.ediv_le_self _ hb)
theorem core_num (n d : Int) (hn : -9223372036854775807 ≤ n) (hn' : n ≤ 9223372036854775807) (hd : -9223372036854775807 ≤ d) (hd' : d ≤ 9223372036854775807) (h0 : d ≠ 0) :
    wrap64 (Int.tdiv (if d < 0 then wrap64 (-n) else n) (Int.gcd n d)) = Rn n d ∧ wrap64 (Int.tdiv (if d < 0 then wrap64 (-d) else d) (Int.gcd n d)) = Rd n d := by
  have hg := gcd_pos (n := n) h0
  have d1 : ((Int.gcd n d : Nat) : Int) ∣ (if d < 0 then -n else n) := by
    split
    · exact Int.dvd_neg.mpr (Int.gcd_dvd_left ..)
    · exact Int.gcd_dvd_left ..
  have d2 : ((Int.gcd n d : Nat) : Int) ∣ (if d < 0 then -d else d) := by
    split
    · exact Int.dvd_neg.mpr (Int.gcd_dvd_right ..)
    · exact Int.gcd_dvd_right ..
  have e1 : (if d < 0 then wrap64 (-n) else n) = (if d < 0 then -n else n) := by rw [w64 (by omega) (by omega)]
  have e2 : (if d < 0 then wrap64 (-d) else d) = (if d < 0 then -d else d) := by rw [w64 (by omega) (by omega)]
  rw [e1, e2, Int.tdiv_eq_ediv_of_dvd d1, Int.tdiv_eq_ediv_of_dvd d2]
  have b1 := le_div hg (a := if d < 0 then -n else n) (b := 9223372036854775807) (by split <;> omega) (by split <;> omega)
  have b2 := le_div hg (a := if d < 0 then -d else d) (b := 9223372036854775807) (by split <;> omega) (by split <;> omega)
  exact ⟨w64 (by omega) b1.2, w64 (by omega) b2.2⟩
theorem gcd_sign (n d : Int) : Int.gcd (if d < 0 then wrap64 (-n) else n) (if d < 0 then wrap64 (-d) else d) = Int.gcd n d ∨ ¬ (-9223372036854775807 ≤ n ∧ n ≤ 9223372036854775807 ∧ -9223372036854775807 ≤ d ∧ d ≤ 9223372036854775807) := by
  by_cases h : (-9223372036854775807 ≤ n ∧ n ≤ 9223372036854775807 ∧ -9223372036854775807 ≤ d ∧ d ≤ 9223372036854775807)
  · left
    rw [w64 (by omega) (by omega), w64 (by omega) (by omega)]
    split
    · rw [Int.neg_gcd, Int.gcd_neg]
    · rfl
  · exact Or.inr h
theorem ev_num {n d : Int} (hn : -9223372036854775807 ≤ n) (hn' : n ≤ 9223372036854775807) (hd : -9223372036854775807 ≤ d) (hd' : d ≤ 9223372036854775807) (h0 : d ≠ 0) :
    Ev (fun k => num_ratio_num.f k n d) (NumE n d) := by
  have hg := gcd_pos (n := n) h0
  obtain ⟨c1, c2⟩ := core_num n d hn hn' hd hd' h0
  have hs := (gcd_sign n d).resolve_right (by omega)
  refine Ev.congr (f := fun k => num_ratio_num.j0 k (if d < 0 then wrap64 (-n) else n) (if d < 0 then wrap64 (-d) else d)) (fun k => ?_) ?_
  · unfold num_ratio_num.f
    split <;> rfl
  · generalize hN : (if d < 0 then wrap64 (-n) else n) = N at *
    generalize hD : (if d < 0 then wrap64 (-d) else d) = D at *
    have hNr : -9223372036854775807 ≤ N ∧ N ≤ 9223372036854775807 := by rw [← hN, w64 (by omega) (by omega)]; split <;> omega
    have hDr : (-9223372036854775807 ≤ D ∧ D ≤ 9223372036854775807) ∧ D ≠ 0 := by rw [← hD, w64 (by omega) (by omega)]; split <;> omega
    refine Ev.step (f := fun k => (num_divisor.f k N D).bind fun t => if t = 0 then none else if wrap64 (Int.tdiv D t) > 1000000000 then some (.error (0 : Int)) else (num_within.f (-1000000000) 1000000000 [wrap64 (Int.tdiv N t)]).bind fun u => if u = true then some (.ok (ε := Int) (wrap64 (Int.tdiv N t), wrap64 (Int.tdiv D t))) else some (.error (0 : Int))) (fun k => rfl) ?_
    refine Ev.bind (ev_divisor hNr.1 hNr.2 hDr.1.1 hDr.1.2 hDr.2) ?_
    rw [hs]
    simp only [c1, c2, within_1, Option.bind_some]
    refine Ev.isNow fun k => ?_
    rw [if_neg (by omega)]
    unfold NumE
    by_cases a : Rd n d > 1000000000
    · rw [if_pos a, if_neg (fun h : Fits n d => by have := h.1; omega)]
    · rw [if_neg a]
      by_cases b : -1000000000 ≤ Rn n d ∧ Rn n d ≤ 1000000000
      · rw [if_pos (show Fits n d from ⟨by omega, b⟩)]
        simp only [b, and_self, decide_true, if_true]
      · rw [if_neg (fun h : Fits n d => b h.2)]
        simp only [b, decide_false, if_false, Bool.false_eq_true]
theorem exc_num (n d : Int) : exc (NumE n d) (fun _ => some (0, 0, 8)) (fun b => some (b.1, b.2, 0)) = some (Low n d) := by
  unfold NumE Low
  split <;> rfl
def ChkL : List S23 → Int
  | [] => 0
  | a :: l => if Chk a.f0 a.f1 = 0 then ChkL l else Chk a.f0 a.f1
theorem checked_loop (l : List S23) (hl : l.length < 9223372036854775807) : ∀ (m i : Nat), i + m = l.length → Ev (fun k => num_checked.l0 k l (l.length : Int) (i : Int)) (ChkL (l.drop i)) := by
  intro m
  induction m with
  | zero =>
    intro i hi
    rw [List.drop_of_length_le (by omega)]
    refine Ev.step (f := fun _ => some 0) (fun k => ?_) (Ev.now _)
    show (if (i : Int) < (l.length : Int) then _ else _) = _
    rw [if_neg (by omega)]
  | succ m ih =>
    intro i hi
    have hlt : i < l.length := by omega
    have hx : rd_T23 l (i : Int) = l[i] := by
      unfold rd_T23
      rw [Int.toNat_natCast, List.getD_eq_getElem?_getD, List.getElem?_eq_getElem hlt]
      rfl
    rw [List.drop_eq_getElem_cons hlt]
    refine Ev.step (f := fun k => (num_Check.f k (l[i]).f0 (l[i]).f1).bind fun t => if t = 0 then num_checked.l0 k l (l.length : Int) ((i + 1 : Nat) : Int) else some t) (fun k => ?_) ?_
    · show (if (i : Int) < (l.length : Int) then (if 0 ≤ (i : Int) then (if (i : Int) < (l.length : Int) then _ else _) else _) else _) = _
      rw [if_pos (by omega), if_pos (by omega), if_pos (by omega), hx, w64 (by omega) (by omega)]
      rfl
    · refine Ev.bind (ev_check _ _) ?_
      show Ev _ (if Chk l[i].f0 l[i].f1 = 0 then ChkL (l.drop (i + 1)) else Chk l[i].f0 l[i].f1)
      by_cases c : Chk l[i].f0 l[i].f1 = 0
      · simp only [c, if_true]
        exact ih (i + 1) (by omega)
      · simp only [c, if_false]
        exact Ev.now _
theorem ev_checked (l : List S23) (hl : l.length < 9223372036854775807) : Ev (fun k => num_checked.f k l) (ChkL l) := by
  have := checked_loop l hl l.length 0 (by omega)
  rwa [List.drop_zero] at this
def Chk2 (a b c d : Int) : Int := if Chk a b = 0 then Chk c d else Chk a b
theorem ev_checked2 (a b c d : Int) : Ev (fun k => num_checked.f k [(⟨a, b⟩ : S23), ⟨c, d⟩]) (Chk2 a b c d) := by
  have h := ev_checked [(⟨a, b⟩ : S23), ⟨c, d⟩] (by simp)
  have e : ChkL [(⟨a, b⟩ : S23), ⟨c, d⟩] = Chk2 a b c d := by
    show (if Chk a b = 0 then (if Chk c d = 0 then (0 : Int) else Chk c d) else Chk a b) = _
    unfold Chk2
    by_cases x : Chk a b = 0
    · rw [if_pos x, if_pos x]
      by_cases y : Chk c d = 0
      · rw [if_pos y, y]
      · rw [if_neg y]
    · rw [if_neg x, if_neg x]
  rwa [e] at h
/-- a number's fields are in the bounds, and in lowest terms -/
structure Ok (n d : Int) : Prop where
  d1 : 1 ≤ d
  d2 : d ≤ 1000000000
  n1 : -1000000000 ≤ n
  n2 : n ≤ 1000000000
  g : Int.gcd n d = 1
theorem Chk_ok {n d : Int} : Chk n d = 0 ↔ Ok n d := by
  unfold Chk
  constructor
  · intro h
    split at h
    · rename_i c
      split at h
      · exact absurd h (by decide)
      · have := gcd_pos (n := n) (d := d) (by omega)
        exact ⟨c.1.1, c.1.2, c.2.1, c.2.2, by omega⟩
    · exact absurd h (by decide)
  · intro h
    have := h.d1; have := h.d2; have := h.n1; have := h.n2; have := h.g
    rw [if_pos (by omega), if_neg (by omega)]
theorem Chk2_ok {a b c d : Int} : Chk2 a b c d = 0 ↔ Ok a b ∧ Ok c d := by
  unfold Chk2
  rw [← Chk_ok, ← Chk_ok]
  by_cases x : Chk a b = 0
  · simp [x]
  · simp [x]
theorem Ok.mul {a b c d : Int} (h : Ok a b) (k : Ok c d) : (-1000000000000000000 ≤ a * d ∧ a * d ≤ 1000000000000000000) ∧ (-1000000000000000000 ≤ c * b ∧ c * b ≤ 1000000000000000000) ∧ (1 ≤ b * d ∧ b * d ≤ 1000000000000000000) ∧ (-1000000000000000000 ≤ a * c ∧ a * c ≤ 1000000000000000000) ∧ (-1000000000000000000 ≤ b * c ∧ b * c ≤ 1000000000000000000) := by
  have bd : ∀ x y : Int, -1000000000 ≤ x → x ≤ 1000000000 → -1000000000 ≤ y → y ≤ 1000000000 → -1000000000000000000 ≤ x * y ∧ x * y ≤ 1000000000000000000 := by
    intro x y h1 h2 h3 h4
    have a1 : x.natAbs ≤ 1000000000 := by omega
    have a2 : y.natAbs ≤ 1000000000 := by omega
    have a3 := Nat.mul_le_mul a1 a2
    rw [← Int.natAbs_mul] at a3
    omega
  have := h.d1; have := h.d2; have := h.n1; have := h.n2; have := k.d1; have := k.d2; have := k.n1; have := k.n2
  refine ⟨bd _ _ (by omega) (by omega) (by omega) (by omega), bd _ _ (by omega) (by omega) (by omega) (by omega), ⟨?_, (bd b d (by omega) (by omega) (by omega) (by omega)).2⟩, bd _ _ (by omega) (by omega) (by omega) (by omega), bd _ _ (by omega) (by omega) (by omega) (by omega)⟩
  have := Int.mul_le_mul h.d1 k.d1 (by omega) (by omega)
  omega
def SubR (a b c d : Int) : Int × Int × Int := if Chk2 a b c d = 0 then Low (a * d - c * b) (b * d) else (0, 0, Chk2 a b c d)
def MulR (a b c d : Int) : Int × Int × Int := if Chk2 a b c d = 0 then Low (a * c) (b * d) else (0, 0, Chk2 a b c d)
theorem reck {opf : Int → Int → Int → Int → Option (Int × Int)} {dv : Bool} {a b c d : Int} {R : Int × Int × Int} {N D : Int}
    (hop : Ok a b → Ok c d → ¬ (dv = true ∧ c = 0) → opf a b c d = some (N, D) ∧ (-9223372036854775807 ≤ N ∧ N ≤ 9223372036854775807) ∧ (-9223372036854775807 ≤ D ∧ D ≤ 9223372036854775807) ∧ D ≠ 0)
    (hR : R = if Chk2 a b c d = 0 then (if dv = true ∧ c = 0 then (0, 0, 10) else Low N D) else (0, 0, Chk2 a b c d)) : Ev (fun k => num_reckon.g opf dv k a b c d) R := by
  subst hR
  unfold num_reckon.g
  refine Ev.bind (ev_checked2 a b c d) ?_
  by_cases x : Chk2 a b c d = 0
  · simp only [x, if_true]
    by_cases y : dv = true ∧ c = 0
    · simp only [y, and_self, if_true]
      exact Ev.now _
    · simp only [y, if_false]
      obtain ⟨h1, h2⟩ := Chk2_ok.mp x
      obtain ⟨e, n1, d1, d0⟩ := hop h1 h2 y
      simp only [e, Option.bind_some]
      refine Ev.bind (ev_num n1.1 n1.2 d1.1 d1.2 d0) ?_
      rw [exc_num]
      exact Ev.now _
  · simp only [x, if_false]
    exact Ev.now _
theorem ev_three {g : Nat → Option (Int × Int × Int)} {R : Int × Int × Int} (h : Ev g R) : Ev (fun k => (g k).bind fun b => some (b.1, b.2.1, b.2.2)) R :=
  Ev.bind h (Ev.now _)
theorem ev_Sub (a b c d : Int) : Ev (fun k => num_Sub.f k a b c d) (SubR a b c d) := by
  refine ev_three (Ev.congr (f := fun k => num_reckon.g num_ratio_minus.f false k a b c d) (fun k => rfl) (reck (N := a * d - c * b) (D := b * d) (fun h k _ => ?_) ?_))
  · have := h.mul k
    refine ⟨?_, by omega, by omega, by omega⟩
    unfold num_ratio_minus.f
    rw [w64 (n := a * d) (by omega) (by omega), w64 (n := c * b) (by omega) (by omega), w64 (by omega) (by omega), w64 (by omega) (by omega)]
  · simp [SubR]
theorem ev_Mul (a b c d : Int) : Ev (fun k => num_Mul.f k a b c d) (MulR a b c d) := by
  refine ev_three (Ev.congr (f := fun k => num_reckon.g num_ratio_times.f false k a b c d) (fun k => rfl) (reck (N := a * c) (D := b * d) (fun h k _ => ?_) ?_))
  · have := h.mul k
    refine ⟨?_, by omega, by omega, by omega⟩
    unfold num_ratio_times.f
    rw [w64 (n := a * c) (by omega) (by omega), w64 (by omega) (by omega)]
  · simp [MulR]
def CmpV (a b c d : Int) : Int := if a * d < c * b then -1 else if a * d > c * b then 1 else 0
def CmpR (a b c d : Int) : Int × Int := if Chk2 a b c d = 0 then (CmpV a b c d, 0) else (0, Chk2 a b c d)
theorem compare_f (x y : Int) : cmp_Compare_int.f x y = some (if x < y then -1 else if x > y then 1 else 0) := by
  unfold cmp_Compare_int.f cmp_isNaN_int.f
  simp only [bne_self_eq_false, Option.bind_some, Bool.false_eq_true, if_false]
  by_cases h : x < y
  · rw [if_pos h, if_pos h]
  · rw [if_neg h, if_neg h]
    by_cases k : x > y
    · rw [if_pos k, if_pos k]
    · rw [if_neg k, if_neg k]
theorem ratio_compare {a b c d : Int} (h : Ok a b) (k : Ok c d) : num_ratio_compare.f a b c d = some (CmpV a b c d) := by
  have := h.mul k
  unfold num_ratio_compare.f
  rw [w64 (n := a * d) (by omega) (by omega), w64 (n := c * b) (by omega) (by omega), compare_f]
  rfl
theorem ev_Cmp (a b c d : Int) : Ev (fun k => num_Cmp.f k a b c d) (CmpR a b c d) := by
  unfold num_Cmp.f CmpR
  refine Ev.bind (ev_checked2 a b c d) ?_
  by_cases x : Chk2 a b c d = 0
  · simp only [x, if_true]
    obtain ⟨h1, h2⟩ := Chk2_ok.mp x
    unfold num_of.f
    simp only [Option.bind_some, ratio_compare h1 h2]
    exact Ev.now _
  · simp only [x, if_false]
    exact Ev.now _
def WholeR (n d : Int) : Bool × Int := if Chk n d = 0 then (d == 1, 0) else (false, Chk n d)
theorem ev_Whole (n d : Int) : Ev (fun k => num_Whole.f k n d) (WholeR n d) := by
  unfold num_Whole.f WholeR
  refine Ev.bind (ev_check n d) ?_
  by_cases x : Chk n d = 0
  · simp only [x, if_true]
    exact Ev.now _
  · simp only [x, if_false]
    exact Ev.now _
theorem floor_div {n d : Int} (h0 : 1 ≤ d) (h1 : d ≤ 9223372036854775807) (hn : -9223372036854775807 ≤ n) (hn' : n ≤ 9223372036854775807) : num_ratio_floor.f n d = some (n / d) := by
  have b := le_div (a := n) (g := d.toNat) (by omega) hn hn'
  rw [Int.toNat_of_nonneg (by omega)] at b
  have e1 : n.tdiv d = n / d + (if 0 ≤ n ∨ d ∣ n then 0 else 1) := by
    rw [Int.tdiv_eq_ediv]
    have : d.sign = 1 := Int.sign_eq_one_of_pos (by omega)
    rw [this]
  have e2 : n.tmod d = n % d - (if 0 ≤ n ∨ d ∣ n then 0 else d) := by
    rw [Int.tmod_eq_emod]
    by_cases c : 0 ≤ n ∨ d ∣ n
    · rw [if_pos c, if_pos c]
      rfl
    · rw [if_neg c, if_neg c]
      omega
  have p1 := Int.emod_nonneg n (b := d) (by omega)
  have p2 := Int.emod_lt_of_pos n (b := d) (by omega)
  unfold num_ratio_floor.f
  rw [if_neg (by omega), e1, e2]
  by_cases c : 0 ≤ n ∨ d ∣ n
  · rw [if_pos c, if_pos c, if_neg (by omega), Int.add_zero, w64 (by omega) (by omega)]
  · rw [if_neg c, if_neg c, if_pos (by omega)]
    have hneg : n / d < 0 := Int.ediv_neg_of_neg_of_pos (by omega) (by omega)
    rw [w64 (n := n / d + 1) (by omega) (by omega), w64 (by omega) (by omega)]
    congr 1
    omega
theorem under_div {n d : Int} (h0 : 1 ≤ d) (h1 : d ≤ 1000000000) (hn : -4000000000000000000 ≤ n) (hn' : n ≤ 4000000000000000000) : withyref01_under.f n d = some (n / d) := by
  have b := le_div (a := n) (g := d.toNat) (by omega) hn hn'
  rw [Int.toNat_of_nonneg (by omega)] at b
  have p1 := Int.emod_nonneg n (b := d) (by omega)
  have p2 := Int.emod_lt_of_pos n (b := d) (by omega)
  have p3 := Int.emod_add_mul_ediv n d
  unfold withyref01_under.f
  by_cases c : n < 0
  · rw [if_pos c, if_neg (by omega), w64 (n := -n) (by omega) (by omega), w64 (n := -n + d) (by omega) (by omega), w64 (n := -n + d - 1) (by omega) (by omega), Int.tdiv_eq_ediv_of_nonneg (by omega)]
    have e : (-n + d - 1) / d = -(n / d) := by
      have : -n + d - 1 = (d - 1 - n % d) + (-(n / d)) * d := by
        have : d * (n / d) = n / d * d := Int.mul_comm ..
        rw [Int.neg_mul]
        omega
      rw [this, Int.add_mul_ediv_right _ _ (by omega), Int.ediv_eq_zero_of_lt (by omega) (by omega)]
      omega
    rw [e, w64 (n := -(n / d)) (by omega) (by omega), w64 (by omega) (by omega)]
    congr 1
    omega
  · rw [if_neg c, if_neg (by omega), Int.tdiv_eq_ediv_of_nonneg (by omega), w64 (by omega) (by omega)]
/-- the nearest whole number, of two the even one -/
def Near1 (n d : Int) : Int := if n - n / d * d > d - (n - n / d * d) ∨ (n - n / d * d = d - (n - n / d * d) ∧ ¬ Int.tmod (n / d) 2 = 0) then n / d + 1 else n / d
theorem near_all {n d : Int} (h0 : 1 ≤ d) (h1 : d ≤ 1000000000) (hn : -4000000000000000000 ≤ n) (hn' : n ≤ 4000000000000000000) : num_ratio_nearest.f n d = some (Near1 n d) ∧ withyref01_nearest.f n d = some (Near1 n d) := by
  have b := le_div (a := n) (g := d.toNat) (by omega) hn hn'
  rw [Int.toNat_of_nonneg (by omega)] at b
  have p1 := Int.emod_nonneg n (b := d) (by omega)
  have p2 := Int.emod_lt_of_pos n (b := d) (by omega)
  have p3 := Int.emod_add_mul_ediv n d
  have p4 : d * (n / d) = n / d * d := Int.mul_comm ..
  have key : ∀ t : Int, t = n / d → (if (wrap64 (n - (wrap64 (t * d)))) > (wrap64 (d - (wrap64 (n - (wrap64 (t * d)))))) then (some (wrap64 (t + 1))) else (if (wrap64 (n - (wrap64 (t * d)))) = (wrap64 (d - (wrap64 (n - (wrap64 (t * d)))))) then (if (Int.tmod t 2) = 0 then (some t) else (some (wrap64 (t + 1)))) else (some t))) = some (Near1 n d) := by
    rintro t rfl
    rw [w64 (n := n / d * d) (by omega) (by omega), w64 (n := n - n / d * d) (by omega) (by omega), w64 (n := d - (n - n / d * d)) (by omega) (by omega), w64 (n := n / d + 1) (by omega) (by omega)]
    unfold Near1
    by_cases x : n - n / d * d > d - (n - n / d * d)
    · rw [if_pos x, if_pos (Or.inl x)]
    · rw [if_neg x]
      by_cases y : n - n / d * d = d - (n - n / d * d)
      · rw [if_pos y]
        by_cases z : Int.tmod (n / d) 2 = 0
        · rw [if_pos z, if_neg (fun h => h.elim x (fun h => h.2 z))]
        · rw [if_neg z, if_pos (Or.inr ⟨y, z⟩)]
      · rw [if_neg y, if_neg (fun h => h.elim x (fun h => y h.1))]
  refine ⟨?_, ?_⟩
  · unfold num_ratio_nearest.f
    rw [floor_div h0 (by omega) (by omega) (by omega), Option.bind_some]
    exact key _ rfl
  · unfold withyref01_nearest.f
    rw [under_div h0 h1 hn hn', Option.bind_some]
    exact key _ rfl
theorem ceil_div {n d : Int} (h0 : 1 ≤ d) (h1 : d ≤ 9223372036854775807) (hn : -9223372036854775807 ≤ n) (hn' : n ≤ 9223372036854775807) : num_ratio_ceil.f n d = some (-(-n / d)) := by
  have b := le_div (a := -n) (g := d.toNat) (b := 9223372036854775807) (by omega) (by omega) (by omega)
  rw [Int.toNat_of_nonneg (by omega)] at b
  unfold num_ratio_ceil.f
  rw [w64 (n := -n) (by omega) (by omega), floor_div h0 h1 (by omega) (by omega), Option.bind_some, w64 (by omega) (by omega)]
def RoundedR (p : Int → Int → Int) (n d : Int) : Int × Int := if Chk n d = 0 then (p n d, 0) else (0, Chk n d)
theorem ev_rounded {p : Int → Int → Option Int} {q : Int → Int → Int} (n d : Int) (h : Ok n d → p n d = some (q n d)) : Ev (fun k => num_rounded.g p k n d) (RoundedR q n d) := by
  unfold num_rounded.g RoundedR
  refine Ev.bind (ev_check n d) ?_
  by_cases x : Chk n d = 0
  · simp only [x, if_true, h (Chk_ok.mp x), Option.bind_some]
    exact Ev.now _
  · simp only [x, if_false]
    exact Ev.now _
theorem ev_Floor (n d : Int) : Ev (fun k => num_Floor.f k n d) (RoundedR (fun n d => n / d) n d) :=
  ev_rounded n d fun h => floor_div h.d1 (by have := h.d2; omega) (by have := h.n1; omega) (by have := h.n2; omega)
theorem ev_Ceil (n d : Int) : Ev (fun k => num_Ceil.f k n d) (RoundedR (fun n d => -(-n / d)) n d) :=
  ev_rounded n d fun h => ceil_div h.d1 (by have := h.d2; omega) (by have := h.n1; omega) (by have := h.n2; omega)
theorem ev_Round (n d : Int) : Ev (fun k => num_Round.f k n d) (RoundedR Near1 n d) :=
  ev_rounded n d fun h => (near_all h.d1 (by have := h.d2; omega) (by have := h.n1; omega) (by have := h.n2; omega)).1
theorem son_append (a b : List Int) : strOfNums a ++ strOfNums b = strOfNums (a ++ b) := by
  apply ByteArray.ext
  apply Array.ext'
  simp [strOfNums]
/-- the digits of a number, at most so many, at least so many -/
def PD : Nat → Nat → Nat → List Int
  | 0, _, _ => []
  | i + 1, m, n => if n > 0 ∨ m > 0 then PD i (m - 1) (n / 10) ++ [48 + ((n % 10 : Nat) : Int)] else []
theorem PD_len : ∀ (i m n : Nat), (PD i m n).length ≤ i := by
  intro i
  induction i with
  | zero => intro m n; simp [PD]
  | succ i ih =>
    intro m n
    unfold PD
    split
    · have := ih (m - 1) (n / 10)
      simp
      omega
    · simp
theorem told_go (least : Nat) : ∀ (i n : Nat) (l : List Int), i ≤ 20 → n < 10 ^ i → least ≤ 20 → num_told.go (least : Int) i (n : Int) l = some (PD i (least - (20 - i)) n ++ l) := by
  intro i
  induction i with
  | zero =>
    intro n l _ h hl
    have h0 : n = 0 := by simpa using h
    subst h0
    show (if _ then _ else _) = _
    rw [if_neg (by omega)]
    rfl
  | succ i ih =>
    intro n l hi h hl
    show (if _ then _ else _) = _
    by_cases c : n > 0 ∨ least - (20 - (i + 1)) > 0
    · rw [if_pos (by omega)]
      have e1 : ((n : Int) / 10) = ((n / 10 : Nat) : Int) := by omega
      have e2 : ((n : Int) % 10) = ((n % 10 : Nat) : Int) := by omega
      rw [e1, e2, ih (n / 10) _ (by omega) (by rw [Nat.pow_succ] at h; omega) hl]
      show _ = some ((if n > 0 ∨ least - (20 - (i + 1)) > 0 then _ else _) ++ l)
      rw [if_pos c, show least - (20 - (i + 1)) - 1 = least - (20 - i) by omega, List.append_assoc]
      rfl
    · rw [if_neg (by omega)]
      show _ = some ((if n > 0 ∨ least - (20 - (i + 1)) > 0 then _ else _) ++ l)
      rw [if_neg c]
      rfl
/-- a number's digits, with so many at least -/
def Dig (m n : Nat) : List Int := PD 20 m n
theorem told_f (n m : Nat) (hn : n ≤ 9223372036854775807) (hm : m ≤ 20) : num_told.f (n : Int) (m : Int) = some (strOfNums (Dig m n)) := by
  unfold num_told.f
  rw [if_pos (by omega), told_go m 20 n [] (by omega) (by omega) hm]
  simp [Dig]
theorem PD_one (i n : Nat) (h : 0 < n) : PD i 0 n = PD i 1 n := by
  cases i with
  | zero => rfl
  | succ i =>
    unfold PD
    rw [if_pos (by omega), if_pos (by omega)]
theorem Dig_len (m n : Nat) : (Dig m n).length ≤ 20 := PD_len 20 m n
theorem son_len (m n : Nat) : (strOfNums (Dig m n)).size ≤ 20 := by rw [strOfNums_size]; exact Dig_len m n
theorem PD_nil (i : Nat) : PD i 0 0 = [] := by cases i <;> simp [PD]
theorem PD_self : ∀ (i m n : Nat), PD i m n = PD i (PD i m n).length n := by
  intro i
  induction i with
  | zero => intro m n; rfl
  | succ i ih =>
    intro m n
    by_cases c : n > 0 ∨ m > 0
    · have e : PD (i + 1) m n = PD i (m - 1) (n / 10) ++ [48 + ((n % 10 : Nat) : Int)] := by
        show (if _ then _ else _) = _
        rw [if_pos c]
      have e2 : PD (i + 1) ((PD i (m - 1) (n / 10)).length + 1) n = PD i (PD i (m - 1) (n / 10)).length (n / 10) ++ [48 + ((n % 10 : Nat) : Int)] := by
        show (if _ then _ else _) = _
        rw [if_pos (by omega)]
        rfl
      rw [e, List.length_append, List.length_singleton, e2, ← ih]
    · have h0 : n = 0 := by omega
      have h1 : m = 0 := by omega
      subst h0 h1
      rw [PD_nil, List.length_nil, PD_nil]
theorem PD_lt : ∀ (i m n : Nat), n < 10 ^ i → n < 10 ^ (PD i m n).length := by
  intro i
  induction i with
  | zero => intro m n h; simpa [PD] using h
  | succ i ih =>
    intro m n h
    by_cases c : n > 0 ∨ m > 0
    · have e : PD (i + 1) m n = PD i (m - 1) (n / 10) ++ [48 + ((n % 10 : Nat) : Int)] := by
        show (if _ then _ else _) = _
        rw [if_pos c]
      have := ih (m - 1) (n / 10) (by rw [Nat.pow_succ] at h; omega)
      rw [e, List.length_append, List.length_singleton, Nat.pow_succ]
      omega
    · have h0 : n = 0 := by omega
      subst h0
      exact Nat.pow_pos (by omega)
theorem PD_len_eq : ∀ (i L n : Nat), n < 10 ^ L → L ≤ i → (PD i L n).length = L := by
  intro i
  induction i with
  | zero => intro L n _ h; have : L = 0 := by omega
            subst this; rfl
  | succ i ih =>
    intro L n h hi
    cases L with
    | zero =>
      have h0 : n = 0 := by simpa using h
      subst h0
      rw [PD_nil]
      rfl
    | succ L =>
      show (if _ then _ else _ : List Int).length = _
      rw [if_pos (by omega), List.length_append, List.length_singleton]
      have := ih L (n / 10) (by rw [Nat.pow_succ] at h; omega) (by omega)
      rw [show L + 1 - 1 = L by omega, this]
theorem PD_len_le : ∀ (i m n p : Nat), n < 10 ^ p → m ≤ p → (PD i m n).length ≤ p := by
  intro i
  induction i with
  | zero => intro m n p _ _; simp [PD]
  | succ i ih =>
    intro m n p h hm
    by_cases c : n > 0 ∨ m > 0
    · show (if _ then _ else _ : List Int).length ≤ _
      rw [if_pos c, List.length_append, List.length_singleton]
      cases p with
      | zero =>
        have h0 : n = 0 := by simpa using h
        omega
      | succ p =>
        have := ih (m - 1) (n / 10) p (by rw [Nat.pow_succ] at h; omega) (by omega)
        omega
    · have h0 : n = 0 := by omega
      have h1 : m = 0 := by omega
      subst h0 h1
      rw [PD_nil]
      simp
def DecL (N : Int) (p : Nat) : List Int := (if N < 0 then [45] else []) ++ (Dig 1 (N.natAbs / 10 ^ p) ++ (if p > 0 then 46 :: Dig p (N.natAbs % 10 ^ p) else []))
theorem ten_cases {p : Int} (h0 : 0 ≤ p) (h9 : p ≤ 9) : Ev (fun k => num_power.f k p) ((10 ^ p.toNat : Nat) : Int) ∧ Ev (fun k => withyref01_ten.f k p) ((10 ^ p.toNat : Nat) : Int) := by
  have : p = 0 ∨ p = 1 ∨ p = 2 ∨ p = 3 ∨ p = 4 ∨ p = 5 ∨ p = 6 ∨ p = 7 ∨ p = 8 ∨ p = 9 := by omega
  rcases this with rfl | rfl | rfl | rfl | rfl | rfl | rfl | rfl | rfl | rfl
  all_goals exact ⟨Ev.of (fun k => num_power.mono _ k) (k := 20) (by kernel_rfl), Ev.of (fun k => withyref01_ten.mono _ k) (k := 20) (by kernel_rfl)⟩
theorem sign_f (N : Int) (h : -9223372036854775807 ≤ N) (h' : N ≤ 9223372036854775807) : num_sign.f N = some (strOfNums (if N < 0 then [45] else []), (N.natAbs : Int)) := by
  unfold num_sign.f
  by_cases c : N < 0
  · rw [if_pos c, if_pos c, w64 (by omega) (by omega), show -N = (N.natAbs : Int) by omega]
    rfl
  · rw [if_neg c, if_neg c, show N = (N.natAbs : Int) by omega]
    rfl
theorem Near1_bound {n d : Int} (h0 : 1 ≤ d) (b : Int) (hb : 0 ≤ b) (hn : -b ≤ n) (hn' : n ≤ b) : -b ≤ Near1 n d ∧ Near1 n d ≤ b + 1 := by
  have q := le_div (a := n) (g := d.toNat) (b := b) (by omega) hn hn'
  rw [Int.toNat_of_nonneg (by omega)] at q
  unfold Near1
  split <;> omega
def DecR (n d p : Int) : ByteArray × Int := if Chk n d = 0 then (if 0 ≤ p ∧ p ≤ 9 then (strOfNums (DecL (Near1 (n * (10 ^ p.toNat : Nat)) d) p.toNat), 0) else ((⟨#[]⟩ : ByteArray), 3)) else ((⟨#[]⟩ : ByteArray), Chk n d)
theorem ten_le {p : Nat} (h : p ≤ 9) : 10 ^ p ≤ 1000000000 := Nat.le_trans (Nat.pow_le_pow_right (by omega) h) (by decide)
theorem scaled {n d p : Int} (h : Ok n d) (h0 : 0 ≤ p) (h9 : p ≤ 9) : -1000000000000000000 ≤ n * (10 ^ p.toNat : Nat) ∧ n * (10 ^ p.toNat : Nat) ≤ 1000000000000000000 := by
  have t := ten_le (p := p.toNat) (by omega)
  have a1 : n.natAbs ≤ 1000000000 := by have := h.n1; have := h.n2; omega
  have a3 := Nat.mul_le_mul a1 t
  have e : (n * (10 ^ p.toNat : Nat)).natAbs = n.natAbs * 10 ^ p.toNat := by rw [Int.natAbs_mul]; rfl
  omega
theorem ev_Decimal (n d p : Int) : Ev (fun k => num_Decimal.f k n d p) (DecR n d p) := by
  unfold num_Decimal.f DecR
  refine Ev.bind (ev_check n d) ?_
  by_cases x : Chk n d = 0
  · simp only [x, if_true, within_1, Option.bind_some, decide_eq_true_eq]
    by_cases y : 0 ≤ p ∧ p ≤ 9
    · have h := Chk_ok.mp x
      simp only [y, and_self, if_true]
      refine Ev.bind (ten_cases y.1 y.2).1 ?_
      have sc := scaled h y.1 y.2
      have hp := ten_le (p := p.toNat) (by omega)
      have hp0 : 0 < 10 ^ p.toNat := Nat.pow_pos (by omega)
      rw [w64 (by omega) (by omega), (near_all h.d1 h.d2 (by omega) (by omega)).1, Option.bind_some]
      have nb := Near1_bound (d := d) h.d1 1000000000000000000 (by omega) sc.1 sc.2
      generalize Near1 (n * (10 ^ p.toNat : Nat)) d = N at nb ⊢
      rw [sign_f N (by omega) (by omega), Option.bind_some]
      generalize hT : 10 ^ p.toNat = T at hp hp0 ⊢
      have e1 : wrap64 (Int.tdiv (N.natAbs : Int) (T : Int)) = ((N.natAbs / T : Nat) : Int) := by
        rw [Int.tdiv_eq_ediv_of_nonneg (by omega), ← Int.natCast_ediv]
        have := Nat.div_le_self N.natAbs T
        generalize N.natAbs / T = q at this ⊢
        exact w64 (by omega) (by omega)
      have e2 : Int.tmod (N.natAbs : Int) (T : Int) = ((N.natAbs % T : Nat) : Int) := rfl
      have b1 := Nat.div_le_self N.natAbs T
      have b2 := Nat.mod_lt N.natAbs hp0
      have t1 := told_f (N.natAbs / T) 1 (by omega) (by omega)
      have t2 := told_f (N.natAbs % T) p.toNat (by omega) (by omega)
      rw [show ((1 : Nat) : Int) = 1 from rfl] at t1
      rw [show ((p.toNat : Nat) : Int) = p by omega] at t2
      have l1 := son_len 1 (N.natAbs / T)
      have l2 := son_len p.toNat (N.natAbs % T)
      have l3 : (strOfNums (if N < 0 then [45] else [])).size ≤ 1 := by rw [strOfNums_size]; split <;> simp
      refine Ev.isNow fun k => ?_
      have l4 : (⟨#[46]⟩ : ByteArray) ++ strOfNums (Dig p.toNat (N.natAbs % T)) = strOfNums (46 :: Dig p.toNat (N.natAbs % T)) := son_append [46] _
      simp only [e1, e2, t1, t2, Option.bind_some]
      rw [if_neg (by omega), if_pos (by omega), l4, son_append]
      unfold DecL
      rw [hT]
      have g : p > 0 ↔ p.toNat > 0 := by omega
      by_cases z : p > 0
      · have l5 := Dig_len p.toNat (N.natAbs % T)
        have l6 := Dig_len 1 (N.natAbs / T)
        rw [if_pos z, if_pos (by omega), if_pos, son_append, if_pos (g.mp z), List.append_assoc]
        rw [strOfNums_size, strOfNums_size]
        simp only [List.length_append, List.length_cons]
        have : (if N < 0 then [(45 : Int)] else []).length ≤ 1 := by split <;> simp
        omega
      · rw [if_neg z, if_neg (fun w => z (g.mpr w)), List.append_nil]
    · simp only [y, if_false]
      exact Ev.now _
  · simp only [x, if_false]
    exact Ev.now _
def PrintL (n d : Int) : List Int := (if n < 0 then [45] else []) ++ (Dig 1 n.natAbs ++ (if d > 1 then 47 :: Dig 1 d.natAbs else []))
def VG : List UInt8 → Int → Option Int
  | [], n => some n
  | c :: l, n => if 48 ≤ (c.toNat : Int) ∧ (c.toNat : Int) ≤ 57 then VG l (10 * n + ((c.toNat : Int) - 48)) else none
theorem VG_go : ∀ (l : List UInt8) (n : Int) (j : Nat), 0 ≤ n → n < 10 ^ j → j + l.length ≤ 18 → num_count.go l n = VG l n := by
  intro l
  induction l with
  | nil => intro n j _ _ _; rfl
  | cons c l ih =>
    intro n j h0 h1 h2
    simp only [List.length_cons] at h2
    have hp : (10 : Int) ^ j ≤ 10 ^ 17 := by
      have := Nat.pow_le_pow_right (n := 10) (by decide) (show j ≤ 17 by omega)
      exact_mod_cast this
    show (if _ then _ else if _ then _ else _) = if _ then _ else _
    by_cases a : (c.toNat : Int) < 48
    · rw [if_pos a, if_neg (by omega)]
    · rw [if_neg a]
      by_cases b : (c.toNat : Int) > 57
      · rw [if_pos b, if_neg (by omega)]
      · rw [if_neg b, if_pos (by omega), w64 (n := 10 * n) (by omega) (by omega), w64 (by omega) (by omega)]
        refine ih _ (j + 1) (by omega) ?_ (by omega)
        rw [Int.pow_succ]
        omega
theorem VG_bound : ∀ (l : List UInt8) (n v : Int), 0 ≤ n → VG l n = some v → n * 10 ^ l.length ≤ v ∧ v < (n + 1) * 10 ^ l.length := by
  intro l
  induction l with
  | nil =>
    intro n v _ h
    obtain rfl := Option.some.inj h
    simp
    omega
  | cons c l ih =>
    intro n v h0 h
    unfold VG at h
    by_cases a : 48 ≤ (c.toNat : Int) ∧ (c.toNat : Int) ≤ 57
    · rw [if_pos a] at h
      obtain ⟨h1, h2⟩ := ih _ v (by omega) h
      rw [List.length_cons, Int.pow_succ]
      have hp : (0 : Int) < 10 ^ l.length := Int.pow_pos (by decide)
      generalize (10 : Int) ^ l.length = P at *
      have e1 : n * (P * 10) = (10 * n) * P := by grind
      have e2 : (n + 1) * (P * 10) = (10 * n + 10) * P := by grind
      have m1 : (10 * n) * P ≤ (10 * n + ((c.toNat : Int) - 48)) * P := Int.mul_le_mul_of_nonneg_right (by omega) (by omega)
      have m2 : (10 * n + ((c.toNat : Int) - 48) + 1) * P ≤ (10 * n + 10) * P := Int.mul_le_mul_of_nonneg_right (by omega) (by omega)
      rw [e1, e2]
      omega
    · rw [if_neg a] at h
      cases h
/-- a number of 1 to so many digits -/
def CntL (l : List UInt8) (most : Nat) : Option Int := if 1 ≤ l.length ∧ l.length ≤ most then VG l 0 else none
def PlnL (l : List UInt8) (most : Nat) : Option Int := if l.length = 1 ∨ l.head? ≠ some 48 then CntL l most else none
def pairO (o : Option Int) : Int × Bool := match o with | some n => (n, true) | none => (0, false)
theorem count_f (s : ByteArray) (most : Nat) (hm : most ≤ 18) : num_count.f s (most : Int) = some (pairO (CntL s.data.toList most)) := by
  unfold num_count.f CntL
  rw [data_length]
  by_cases c : 1 ≤ s.size ∧ s.size ≤ most
  · rw [if_pos (by omega), if_pos (by omega), if_pos c, VG_go _ 0 0 (by omega) (by simp) (by rw [data_length]; omega)]
    cases VG s.data.toList 0 <;> rfl
  · rw [if_neg (by omega), if_neg c]
    rfl
theorem bt_list (s : ByteArray) (i : Nat) (h : i < s.data.toList.length) : bt s (i : Int) = ((s.data.toList[i]).toNat : Int) := by
  have h' : i < s.size := by rw [data_length] at h; exact h
  unfold bt
  rw [dif_pos (by simpa using h')]
  rfl
theorem head_list (s : ByteArray) (h : 0 < s.size) : (bt s 0 = 48) ↔ s.data.toList.head? = some 48 := by
  have hl : 0 < s.data.toList.length := by rw [data_length]; exact h
  have := bt_list s 0 hl
  rw [show ((0 : Nat) : Int) = 0 from rfl] at this
  rw [this, List.head?_eq_getElem?, List.getElem?_eq_getElem hl, Option.some.injEq]
  constructor
  · intro e
    apply UInt8.toNat_inj.mp
    show _ = 48
    omega
  · intro e
    rw [e]
    rfl
/-- what plain answers: a number, and whether it is one -/
theorem plain_f (s : ByteArray) (most : Nat) (hm : most ≤ 18) : ∃ v, num_plain.f s (most : Int) = some (v, (PlnL s.data.toList most).isSome) ∧ ∀ n, PlnL s.data.toList most = some n → v = n := by
  unfold num_plain.f
  rw [count_f s most hm, Option.bind_some]
  cases hc : CntL s.data.toList most with
  | none =>
    have : PlnL s.data.toList most = none := by unfold PlnL; rw [hc]; split <;> rfl
    rw [this]
    exact ⟨0, rfl, fun n h => by cases h⟩
  | some n =>
    have hs : 0 < s.size := by
      unfold CntL at hc
      split at hc
      · rename_i h; rw [data_length] at h; omega
      · cases hc
    simp only [pairO, if_true]
    unfold PlnL
    rw [hc, data_length]
    by_cases o : (s.size : Int) = 1
    · rw [if_pos o, if_pos (Or.inl (by omega))]
      exact ⟨n, rfl, fun m h => Option.some.inj h⟩
    · rw [if_neg o, if_pos (by omega)]
      have hh := head_list s hs
      by_cases z : bt s 0 = 48
      · rw [if_neg (fun h => h.elim (fun h => o (by omega)) (fun h => h (hh.mp z))), bne_eq_false_iff_eq.mpr z]
        exact ⟨n, rfl, fun m h => by cases h⟩
      · rw [if_pos (Or.inr (fun h => z (hh.mpr h))), bne_iff_ne.mpr z]
        exact ⟨n, rfl, fun m h => Option.some.inj h⟩
theorem VG_append : ∀ (l r : List UInt8) (n : Int), VG (l ++ r) n = (VG l n).bind (VG r) := by
  intro l
  induction l with
  | nil => intro r n; rfl
  | cons c l ih =>
    intro r n
    show (if _ then VG (l ++ r) _ else _) = Option.bind (if _ then _ else _) _
    by_cases a : 48 ≤ (c.toNat : Int) ∧ (c.toNat : Int) ≤ 57
    · rw [if_pos a, if_pos a, ih]
    · rw [if_neg a, if_neg a]
      rfl
theorem VG_nonneg {l : List UInt8} {v : Int} (h : VG l 0 = some v) : 0 ≤ v ∧ v < 10 ^ l.length := by
  have := VG_bound l 0 v (by omega) h
  omega
theorem dig_of : ∀ (m i : Nat) (l : List UInt8) (n : Int), l.length = m → m ≤ i → VG l 0 = some n → PD i m n.toNat = l.map (fun c => (c.toNat : Int)) := by
  intro m
  induction m with
  | zero =>
    intro i l n hl _ h
    have : l = [] := List.length_eq_zero_iff.mp hl
    subst this
    obtain rfl := Option.some.inj h
    exact PD_nil i
  | succ m ih =>
    intro i l n hl hi h
    obtain ⟨i, rfl⟩ : ∃ i', i = i' + 1 := ⟨i - 1, by omega⟩
    rcases List.eq_nil_or_concat l with rfl | ⟨l', c, rfl⟩
    · simp at hl
    · rw [List.concat_eq_append] at *
      rw [List.length_append, List.length_singleton] at hl
      rw [VG_append] at h
      obtain ⟨n', h1, h2⟩ := Option.bind_eq_some_iff.mp h
      unfold VG at h2
      by_cases a : 48 ≤ (c.toNat : Int) ∧ (c.toNat : Int) ≤ 57
      · rw [if_pos a] at h2
        obtain rfl := Option.some.inj h2
        have n0 := VG_nonneg h1
        have e1 : (10 * n' + ((c.toNat : Int) - 48)).toNat / 10 = n'.toNat := by omega
        have e2 : (((10 * n' + ((c.toNat : Int) - 48)).toNat % 10 : Nat) : Int) = (c.toNat : Int) - 48 := by omega
        have e : PD (i + 1) (m + 1) (10 * n' + ((c.toNat : Int) - 48)).toNat = PD i m n'.toNat ++ [48 + ((c.toNat : Int) - 48)] := by
          show (if _ then _ else _) = _
          rw [if_pos (by omega), e1, e2]
          rfl
        rw [e, ih i l' n' (by omega) (by omega) h1, List.map_append, show 48 + ((c.toNat : Int) - 48) = (c.toNat : Int) by omega]
        rfl
      · rw [if_neg a] at h2
        cases h2
theorem pow_nat (k : Nat) : ((10 : Int) ^ k) = ((10 ^ k : Nat) : Int) := by push_cast; rfl
/-- a number without a zero ahead is told as it was read -/
theorem dig_plain {l : List UInt8} {most : Nat} {n : Int} (hm : most ≤ 18) (h : PlnL l most = some n) : Dig 1 n.toNat = l.map (fun c => (c.toNat : Int)) ∧ 0 ≤ n ∧ n < 10 ^ most := by
  unfold PlnL at h
  split at h
  · rename_i ho
    unfold CntL at h
    split at h
    · rename_i hl
      have n0 := VG_nonneg h
      rw [pow_nat] at n0
      have hle : 10 ^ l.length ≤ 10 ^ most := Nat.pow_le_pow_right (by decide) hl.2
      refine ⟨?_, n0.1, by rw [pow_nat]; omega⟩
      rw [← dig_of l.length 20 l n rfl (by omega) h]
      unfold Dig
      rcases ho with ho | ho
      · rw [ho]
      · have hlt : n.toNat < 10 ^ l.length := by omega
        have hself := PD_self 20 1 n.toNat
        have hlt2 := PD_lt 20 1 n.toNat (Nat.lt_of_lt_of_le hlt (Nat.pow_le_pow_right (by decide) (by omega)))
        have hle2 := PD_len_le 20 1 n.toNat l.length hlt (by omega)
        have hge : 10 ^ (l.length - 1) ≤ n.toNat := by
          cases l with
          | nil => simp at hl
          | cons c r =>
            unfold VG at h
            by_cases a : 48 ≤ (c.toNat : Int) ∧ (c.toNat : Int) ≤ 57
            · rw [if_pos a] at h
              have c0 : (c.toNat : Int) ≠ 48 := fun e => ho (by
                rw [List.head?_cons, Option.some.injEq]
                apply UInt8.toNat_inj.mp
                show _ = 48
                omega)
              have b := (VG_bound r _ n (by omega) h).1
              rw [pow_nat] at b
              have m1 : 1 * ((10 ^ r.length : Nat) : Int) ≤ (10 * 0 + ((c.toNat : Int) - 48)) * ((10 ^ r.length : Nat) : Int) := Int.mul_le_mul_of_nonneg_right (by omega) (Int.natCast_nonneg _)
              rw [List.length_cons, Nat.add_sub_cancel]
              omega
            · rw [if_neg a] at h
              cases h
        have : (PD 20 1 n.toNat).length = l.length := by
          rcases Nat.lt_or_ge (PD 20 1 n.toNat).length l.length with c | c
          · have := Nat.pow_le_pow_right (n := 10) (by decide) (show (PD 20 1 n.toNat).length ≤ l.length - 1 by omega)
            omega
          · omega
        rw [this] at hself
        exact hself
    · cases h
  · cases h
theorem prod_nn {a b M N : Int} (h0 : 0 ≤ a) (h1 : a ≤ M) (h2 : 0 ≤ b) (h3 : b ≤ N) : 0 ≤ a * b ∧ a * b ≤ M * N := ⟨Int.mul_nonneg h0 h2, Int.mul_le_mul h1 h3 h2 (by omega)⟩
def DecP (w p : List UInt8) (neg : Bool) : Int × Int × Int := match PlnL w 9, CntL p 9 with
  | some n, some m => Low (if neg then -(n * 10 ^ p.length + m) else n * 10 ^ p.length + m) (10 ^ p.length)
  | _, _ => (0, 0, 1)
theorem dec_bounds {w p : List UInt8} {n m : Int} (hn : PlnL w 9 = some n) (hm : CntL p 9 = some m) : (0 ≤ n ∧ n < 1000000000) ∧ (0 ≤ m ∧ m < ((10 ^ p.length : Nat) : Int)) ∧ (1 ≤ p.length ∧ p.length ≤ 9) ∧ (0 ≤ n * ((10 ^ p.length : Nat) : Int) ∧ n * ((10 ^ p.length : Nat) : Int) ≤ 1000000000000000000) := by
  have h1 := (dig_plain (by omega) hn).2
  unfold CntL at hm
  split at hm
  · rename_i hl
    have h2 := VG_nonneg hm
    rw [pow_nat] at h2
    have h3 := ten_le hl.2
    have hn9 : n < 1000000000 := h1.2
    exact ⟨⟨h1.1, hn9⟩, h2, hl, prod_nn (M := 1000000000) (N := 1000000000) h1.1 (by omega) (by omega) (by omega)⟩
  · cases hm
theorem ev_decimal (w p : ByteArray) (neg : Bool) : Ev (fun k => num_decimal.f k w p neg) (DecP w.data.toList p.data.toList neg) := by
  unfold num_decimal.f
  obtain ⟨v, e1, e2⟩ := plain_f w 9 (by omega)
  have e3 := count_f p 9 (by omega)
  rw [show ((9 : Nat) : Int) = 9 from rfl] at e1 e3
  simp only [e1, e3, Option.bind_some]
  unfold DecP
  cases hn : PlnL w.data.toList 9 with
  | none =>
    simp only [Option.isSome_none, Bool.false_eq_true, if_false]
    exact Ev.now _
  | some n =>
    obtain rfl := e2 n hn
    cases hm : CntL p.data.toList 9 with
    | none =>
      simp only [Option.isSome_some, pairO, Bool.false_eq_true, if_true, if_false]
      exact Ev.now _
    | some m =>
      obtain ⟨b1, b2, b3, b4⟩ := dec_bounds hn hm
      rw [data_length] at b2 b3 b4
      have hp9 := ten_le b3.2
      have hp0 : 0 < 10 ^ p.size := Nat.pow_pos (by omega)
      simp only [Option.isSome_some, pairO, if_true]
      refine Ev.bind (ten_cases (p := (p.size : Int)) (by omega) (by omega)).1 ?_
      rw [show ((p.size : Int)).toNat = p.size by omega, data_length, pow_nat]
      generalize 10 ^ p.size = T at *
      rw [w64 (n := v * (T : Int)) (by omega) (by omega), w64 (n := v * (T : Int) + m) (by omega) (by omega), w64 (n := -(v * (T : Int) + m)) (by omega) (by omega)]
      cases neg with
      | true =>
        simp only [if_true]
        refine Ev.bind (ev_num (by omega) (by omega) (by omega) (by omega) (by omega)) ?_
        rw [exc_num]
        exact Ev.now _
      | false =>
        simp only [Bool.false_eq_true, if_false]
        refine Ev.bind (ev_num (by omega) (by omega) (by omega) (by omega) (by omega)) ?_
        rw [exc_num]
        exact Ev.now _
def isSep (c : UInt8) : Bool := c == 46 || c == 47
def PlnO (b : Option (List UInt8)) : Option Int := match b with | none => some 1 | some r => PlnL r 10
def FracP (a : List UInt8) (b : Option (List UInt8)) (neg : Bool) : Int × Int × Int :=
  match PlnL a 10, PlnO b with
  | some n, some d => if (b.isSome = true → d > 1) ∧ ¬ (neg = true ∧ n = 0) ∧ Chk (if neg then -n else n) d = 0 then (if neg then -n else n, d, 0) else (0, 0, 1)
  | _, _ => (0, 0, 1)
def ParseL (l : List UInt8) (neg : Bool) : Int × Int × Int :=
  if l[l.findIdx isSep]? = some 46 then DecP (l.take (l.findIdx isSep)) (l.drop (l.findIdx isSep + 1)) neg
  else FracP (l.take (l.findIdx isSep)) (if l.findIdx isSep < l.length then some (l.drop (l.findIdx isSep + 1)) else none) neg
theorem ext_take (s : ByteArray) (i : Nat) : (s.extract 0 i).data.toList = s.data.toList.take i := by
  rw [ByteArray.data_extract, Array.toList_extract, List.extract_eq_take_drop, List.drop_zero, Nat.sub_zero]
theorem ext_drop (s : ByteArray) (i : Nat) : (s.extract i s.size).data.toList = s.data.toList.drop i := by
  rw [ByteArray.data_extract, Array.toList_extract, List.extract_eq_take_drop]
  exact List.take_of_length_le (by rw [List.length_drop, data_length]; omega)
theorem bt_eq (s : ByteArray) (i : Nat) (h : i < s.data.toList.length) (c : UInt8) : bt s (i : Int) = (c.toNat : Int) ↔ s.data.toList[i] = c := by
  rw [bt_list s i h]
  constructor
  · intro e
    exact UInt8.toNat_inj.mp (by omega)
  · intro e
    rw [e]
theorem parse_j3 (neg ok : Bool) (n d : Int) (h : ok = true → 0 ≤ n ∧ n ≤ 10000000000) : Ev (fun k => num_Parse.j3 k neg n ok d) (if ok = true ∧ ¬ (neg = true ∧ n = 0) ∧ Chk (if neg then -n else n) d = 0 then (if neg then -n else n, d, 0) else (0, 0, 1)) := by
  cases ok with
  | false =>
    rw [if_neg (fun h => absurd h.1 (by decide))]
    exact Ev.step (f := fun _ => some (0, 0, 1)) (fun k => by cases neg <;> rfl) (Ev.now _)
  | true =>
    have b := h rfl
    cases neg with
    | true =>
      refine Ev.step (f := fun k => if wrap64 (-n) = 0 then some (0, 0, 1) else (num_Check.f k (wrap64 (-n)) d).bind fun t => if t = 0 then some (wrap64 (-n), d, 0) else some (0, 0, 1)) (fun k => rfl) ?_
      rw [w64 (by omega) (by omega)]
      by_cases z : n = 0
      · subst z
        rw [if_neg (fun h => h.2.1 ⟨rfl, rfl⟩)]
        exact Ev.isNow fun k => if_pos rfl
      · have z' : ¬ -n = 0 := by omega
        simp only [z', if_false, z, and_false, not_false_eq_true, true_and, if_true]
        refine Ev.bind (ev_check _ _) ?_
        by_cases c : Chk (-n) d = 0
        · simp only [c, if_true]
          exact Ev.now _
        · simp only [c, if_false]
          exact Ev.now _
    | false =>
      refine Ev.step (f := fun k => (num_Check.f k n d).bind fun t => if t = 0 then some (n, d, 0) else some (0, 0, 1)) (fun k => rfl) ?_
      simp only [Bool.false_eq_true, false_and, not_false_eq_true, true_and, if_false]
      refine Ev.bind (ev_check _ _) ?_
      by_cases c : Chk n d = 0
      · simp only [c, if_true]
        exact Ev.now _
      · simp only [c, if_false]
        exact Ev.now _
theorem parse_j3C (neg ok : Bool) (n d : Int) (h : ok = true → 0 ≤ n ∧ n ≤ 10000000000) {C : Prop} [Decidable C] (hC : C ↔ ok = true ∧ ¬ (neg = true ∧ n = 0) ∧ Chk (if neg then -n else n) d = 0) : Ev (fun k => num_Parse.j3 k neg n ok d) (if C then (if neg then -n else n, d, 0) else (0, 0, 1)) := by
  have := parse_j3 neg ok n d h
  by_cases c : C
  · rw [if_pos c]
    rwa [if_pos (hC.mp c)] at this
  · rw [if_neg c]
    rwa [if_neg (fun w => c (hC.mpr w))] at this
theorem parse_no (neg : Bool) (n d : Int) : Ev (fun k => num_Parse.j3 k neg n false d) (0, 0, 1) := Ev.step (f := fun _ => some (0, 0, 1)) (fun k => by cases neg <;> rfl) (Ev.now _)
theorem pln_le {l : List UInt8} {n : Int} (h : PlnL l 10 = some n) : 0 ≤ n ∧ n ≤ 10000000000 := by
  have := (dig_plain (by omega) h).2
  have h2 : n < 10000000000 := this.2
  exact ⟨this.1, by omega⟩
theorem frac_ev (s : ByteArray) (hs : s.size ≤ 1000000) (neg : Bool) (i : Nat) (hi : i ≤ s.size) : Ev (fun k => num_Parse.j2 k s neg (i : Int) false) (FracP (s.data.toList.take i) (if i < s.size then some (s.data.toList.drop (i + 1)) else none) neg) := by
  obtain ⟨v, e1, e2⟩ := plain_f (s.extract 0 i) 10 (by omega)
  rw [ext_take] at e1 e2
  rw [show ((10 : Nat) : Int) = 10 from rfl] at e1
  have w1 : wrap64 ((i : Int) + 1) = ((i + 1 : Nat) : Int) := (w64 (by omega) (by omega)).trans (by omega)
  have st : ∀ k, num_Parse.j2 (k + 1) s neg (i : Int) false = if (i : Int) < (s.size : Int) then (num_plain.f (s.extract (i + 1) s.size) 10).bind fun b => (if (PlnL (s.data.toList.take i) 10).isSome = true then (if b.2 = true then num_Parse.j3 k neg v (decide (b.1 > 1)) b.1 else num_Parse.j3 k neg v false b.1) else num_Parse.j3 k neg v false b.1) else num_Parse.j3 k neg v (PlnL (s.data.toList.take i) 10).isSome 1 := fun k => by
    show (if 0 ≤ (i : Int) then (if (i : Int) ≤ (s.size : Int) then ((num_plain.f (s.extract 0 ((i : Int)).toNat) 10).bind fun a => if (i : Int) < (s.size : Int) then (if 0 ≤ (wrap64 ((i : Int) + 1)) then (if (wrap64 ((i : Int) + 1)) ≤ (s.size : Int) then ((num_plain.f (s.extract ((wrap64 ((i : Int) + 1)) : Int).toNat s.size) 10).bind fun b => (if a.2 = true then (if b.2 = true then (num_Parse.j3 k neg a.1 (decide (b.1 > 1)) b.1) else (num_Parse.j3 k neg a.1 false b.1)) else (num_Parse.j3 k neg a.1 false b.1))) else none) else none) else (num_Parse.j3 k neg a.1 a.2 1)) else none) else none) = _
    rw [if_pos (by omega), if_pos (by omega), Int.toNat_natCast, e1, Option.bind_some, w1, Int.toNat_natCast]
    by_cases c : (i : Int) < (s.size : Int)
    · rw [if_pos c, if_pos (by omega), if_pos (by omega), if_pos c]
    · rw [if_neg c, if_neg c]
  refine Ev.step st ?_
  by_cases c : i < s.size
  · have c' : (i : Int) < (s.size : Int) := by omega
    simp only [c', if_true, c]
    obtain ⟨v2, f1, f2⟩ := plain_f (s.extract (i + 1) s.size) 10 (by omega)
    rw [ext_drop] at f1 f2
    rw [show ((10 : Nat) : Int) = 10 from rfl] at f1
    simp only [f1, Option.bind_some]
    unfold FracP PlnO
    dsimp only
    cases hn : PlnL (s.data.toList.take i) 10 with
    | none =>
      simp only [Option.isSome_none, Bool.false_eq_true, if_false]
      exact parse_no neg v v2
    | some n =>
      obtain rfl := e2 n hn
      cases hd : PlnL (s.data.toList.drop (i + 1)) 10 with
      | none =>
        simp only [Option.isSome_some, Option.isSome_none, Bool.false_eq_true, if_false, if_true]
        exact parse_no neg v v2
      | some d =>
        obtain rfl := f2 d hd
        simp only [Option.isSome_some, if_true]
        exact parse_j3C neg (decide (v2 > 1)) v v2 (fun _ => pln_le hn) (by simp)
  · have c' : ¬ (i : Int) < (s.size : Int) := by omega
    simp only [c', if_false, c]
    unfold FracP PlnO
    dsimp only
    cases hn : PlnL (s.data.toList.take i) 10 with
    | none =>
      exact parse_no neg v 1
    | some n =>
      obtain rfl := e2 n hn
      exact parse_j3C neg true v 1 (fun _ => pln_le hn) (by simp)
theorem bt46 (s : ByteArray) (i : Nat) (h : i < s.data.toList.length) : bt s (i : Int) = 46 ↔ s.data.toList[i] = 46 := bt_eq s i h 46
theorem bt47 (s : ByteArray) (i : Nat) (h : i < s.data.toList.length) : bt s (i : Int) = 47 ↔ s.data.toList[i] = 47 := bt_eq s i h 47
theorem parse_dot (s : ByteArray) (hs : s.size ≤ 1000000) (neg : Bool) (i : Nat) (hi : i < s.size) : Ev (fun k => num_Parse.j2 k s neg (i : Int) true) (DecP (s.data.toList.take i) (s.data.toList.drop (i + 1)) neg) := by
  have w1 : wrap64 ((i : Int) + 1) = ((i + 1 : Nat) : Int) := (w64 (by omega) (by omega)).trans (by omega)
  refine Ev.step (f := fun k => (num_decimal.f k (s.extract 0 i) (s.extract (i + 1) s.size) neg).bind fun b => some (b.1, b.2.1, b.2.2)) (fun k => ?_) ?_
  · rw [num_Parse.j2, if_pos rfl, if_pos (by omega), if_pos (by omega), w1, if_pos (by omega), if_pos (by omega), Int.toNat_natCast, Int.toNat_natCast]
  · have := ev_decimal (s.extract 0 i) (s.extract (i + 1) s.size) neg
    rw [ext_take, ext_drop] at this
    exact ev_three this
theorem parse_at (s : ByteArray) (hs : s.size ≤ 1000000) (neg : Bool) (i : Nat) (hi : i ≤ s.size) : Ev (fun k => num_Parse.j1 k s neg (i : Int)) (if s.data.toList[i]? = some 46 then DecP (s.data.toList.take i) (s.data.toList.drop (i + 1)) neg else FracP (s.data.toList.take i) (if i < s.data.toList.length then some (s.data.toList.drop (i + 1)) else none) neg) := by
  rw [data_length]
  by_cases c : i < s.size
  · have c' : i < s.data.toList.length := by rwa [data_length]
    have hb := bt46 s i c'
    rw [List.getElem?_eq_getElem c']
    refine Ev.step (f := fun k => num_Parse.j2 k s neg (i : Int) (bt s (i : Int) == 46)) (fun k => ?_) ?_
    · show (if (i : Int) < (s.size : Int) then (if 0 ≤ (i : Int) then num_Parse.j2 k s neg (i : Int) (bt s (i : Int) == 46) else none) else _) = _
      rw [if_pos (by omega), if_pos (by omega)]
    · by_cases z : s.data.toList[i] = 46
      · rw [if_pos (congrArg some z), beq_iff_eq.mpr (hb.mpr z)]
        exact parse_dot s hs neg i c
      · rw [if_neg (fun h => z (Option.some.inj h)), beq_eq_false_iff_ne.mpr (fun h => z (hb.mp h))]
        exact frac_ev s hs neg i hi
  · have c' : ¬ i < s.data.toList.length := by rwa [data_length]
    rw [List.getElem?_eq_none (Nat.le_of_not_lt c'), if_neg (fun h => by cases h)]
    refine Ev.step (f := fun k => num_Parse.j2 k s neg (i : Int) false) (fun k => ?_) (frac_ev s hs neg i hi)
    show (if (i : Int) < (s.size : Int) then _ else num_Parse.j2 k s neg (i : Int) false) = _
    rw [if_neg (by omega)]
theorem parse_l0 (s : ByteArray) (neg : Bool) (i : Nat) (k : Nat) (hi : i < s.size) : num_Parse.l0 (k + 1) s neg (i : Int) = if bt s (i : Int) = 46 then num_Parse.j1 k s neg (i : Int) else if bt s (i : Int) = 47 then num_Parse.j1 k s neg (i : Int) else num_Parse.l0 k s neg (wrap64 ((i : Int) + 1)) := by
  show (if (i : Int) < (s.size : Int) then (if 0 ≤ (i : Int) then (if bt s (i : Int) = 46 then num_Parse.j1 k s neg (i : Int) else if bt s (i : Int) = 47 then num_Parse.j1 k s neg (i : Int) else num_Parse.l0 k s neg (wrap64 ((i : Int) + 1))) else none) else num_Parse.j1 k s neg (i : Int)) = _
  rw [if_pos (by omega), if_pos (by omega)]
theorem sep_bt (s : ByteArray) (i : Nat) (h : i < s.data.toList.length) : isSep s.data.toList[i] = true ↔ bt s (i : Int) = 46 ∨ bt s (i : Int) = 47 := by
  rw [bt46 s i h, bt47 s i h]
  unfold isSep
  simp
theorem parse_loop (s : ByteArray) (hs : s.size ≤ 1000000) (neg : Bool) (R : Int × Int × Int) (a : Nat) (ha : a ≤ s.size) (hat : ∀ h : a < s.data.toList.length, isSep s.data.toList[a] = true) (hno : ∀ (i : Nat) (h : i < s.data.toList.length), i < a → isSep s.data.toList[i] = false) (hR : Ev (fun k => num_Parse.j1 k s neg (a : Int)) R) :
    ∀ (m i : Nat), i + m = a → Ev (fun k => num_Parse.l0 k s neg (i : Int)) R := by
  intro m
  induction m with
  | zero =>
    intro i hi
    obtain rfl : i = a := by omega
    refine Ev.step (f := fun k => num_Parse.j1 k s neg (i : Int)) (fun k => ?_) hR
    by_cases c : i < s.size
    · rw [parse_l0 s neg i k c]
      have c' : i < s.data.toList.length := by rwa [data_length]
      rcases (sep_bt s i c').mp (hat c') with z | z
      · rw [if_pos z]
      · rw [if_pos z]
        split <;> rfl
    · show (if (i : Int) < (s.size : Int) then _ else num_Parse.j1 k s neg (i : Int)) = _
      rw [if_neg (by omega)]
  | succ m ih =>
    intro i hi
    have hlt : i < s.size := by omega
    have hlt' : i < s.data.toList.length := by rwa [data_length]
    have hn := hno i hlt' (by omega)
    have nb : ¬ (bt s (i : Int) = 46 ∨ bt s (i : Int) = 47) := fun h => by
      rw [(sep_bt s i hlt').mpr h] at hn
      cases hn
    refine Ev.step (f := fun k => num_Parse.l0 k s neg ((i + 1 : Nat) : Int)) (fun k => ?_) (ih (i + 1) (by omega))
    rw [parse_l0 s neg i k hlt, if_neg (fun h => nb (Or.inl h)), if_neg (fun h => nb (Or.inr h)), w64 (by omega) (by omega)]
    rfl
theorem parse_rest (s : ByteArray) (hs : s.size ≤ 1000000) (neg : Bool) : Ev (fun k => num_Parse.l0 k s neg 0) (ParseL s.data.toList neg) := by
  have hle : s.data.toList.findIdx isSep ≤ s.size := by
    have := List.findIdx_le_length (p := isSep) (xs := s.data.toList)
    rwa [data_length] at this
  exact parse_loop s hs neg _ _ hle (fun h => List.findIdx_getElem (w := h)) (fun i h hi => List.not_of_lt_findIdx hi) (parse_at s hs neg _ hle) _ 0 (Nat.zero_add _)
/-- a byte that is no digit -/
theorem VG_bad : ∀ (l : List UInt8) (c : UInt8) (n : Int), c ∈ l → ¬ (48 ≤ (c.toNat : Int) ∧ (c.toNat : Int) ≤ 57) → VG l n = none := by
  intro l
  induction l with
  | nil => intro c n h; exact absurd h (by simp)
  | cons a l ih =>
    intro c n h hc
    unfold VG
    by_cases d : 48 ≤ (a.toNat : Int) ∧ (a.toNat : Int) ≤ 57
    · rw [if_pos d]
      rcases List.mem_cons.mp h with rfl | h
      · exact absurd d hc
      · exact ih c _ h hc
    · rw [if_neg d]
def ParseR (l : List UInt8) : Int × Int × Int := if l.head? = some 45 then ParseL l.tail true else ParseL l false
theorem one_prefix (l : List UInt8) : (l.take 1 == [45]) = decide (l.head? = some 45) := by
  cases l with
  | nil => rfl
  | cons a l => rw [Bool.eq_iff_iff]; simp
theorem cut_minus (s : ByteArray) : strings_CutPrefix.f s (⟨#[45]⟩ : ByteArray) = some (if s.data.toList.head? = some 45 then (s.extract 1 s.size, true) else (s, false)) := by
  have e1 : (((⟨#[45]⟩ : ByteArray).size : Nat) : Int) = 1 := rfl
  have hp : stringslite_HasPrefix.f s (⟨#[45]⟩ : ByteArray) = some (decide (s.data.toList.head? = some 45)) := by
    unfold stringslite_HasPrefix.f
    rw [e1]
    by_cases c : (s.size : Int) ≥ 1
    · rw [if_pos c, if_pos (by omega), if_pos (by omega), ByteArray.toList_eq, ByteArray.toList_eq, ext_take, show ((1 : Int)).toNat = 1 from rfl]
      exact congrArg some (one_prefix _)
    · rw [if_neg c]
      have hl : s.data.toList = [] := List.length_eq_zero_iff.mp (by rw [data_length]; omega)
      rw [hl]
      rfl
  unfold strings_CutPrefix.f stringslite_CutPrefix.f
  rw [hp, e1, Option.bind_some]
  by_cases c : s.data.toList.head? = some 45
  · have : 0 < s.size := by
      rw [← data_length]
      cases h : s.data.toList with
      | nil => rw [h] at c; cases c
      | cons a l => simp
    rw [decide_eq_true c, if_pos rfl, if_pos (by omega), if_pos (by omega), if_pos c]
    rfl
  · rw [decide_eq_false c, if_neg (by simp), if_neg c]
    rfl
theorem ev_Parse (s : ByteArray) (hs : s.size ≤ 1000000) : Ev (fun k => num_Parse.f k s) (ParseR s.data.toList) := by
  unfold num_Parse.f
  rw [cut_minus]
  simp only [Option.bind_some]
  unfold ParseR
  by_cases c : s.data.toList.head? = some 45
  · simp only [c, if_true]
    have := parse_rest (s.extract 1 s.size) (by rw [← data_length, ext_drop, List.length_drop, data_length]; omega) true
    rw [ext_drop, List.drop_one] at this
    exact this
  · simp only [c, if_false]
    exact parse_rest s hs false
theorem Chk2_zero {a b c d : Int} (h : Ok a b) (k : Ok c d) : Chk2 a b c d = 0 := Chk2_ok.mpr ⟨h, k⟩
def by8 (l : List Int) : List UInt8 := l.map (fun n => UInt8.ofNat n.toNat)
theorem son_by8 (l : List Int) : (strOfNums l).data.toList = by8 l := strOfNums_data l
theorem by8_append (a b : List Int) : by8 (a ++ b) = by8 a ++ by8 b := List.map_append
theorem VG_PD : ∀ (i m n : Nat), n < 10 ^ i → VG (by8 (PD i m n)) 0 = some (n : Int) := by
  intro i
  induction i with
  | zero =>
    intro m n h
    have h0 : n = 0 := by simpa using h
    subst h0
    rfl
  | succ i ih =>
    intro m n h
    by_cases c : n > 0 ∨ m > 0
    · have e : PD (i + 1) m n = PD i (m - 1) (n / 10) ++ [48 + ((n % 10 : Nat) : Int)] := by
        show (if _ then _ else _) = _
        rw [if_pos c]
      rw [e, by8_append, VG_append, ih (m - 1) (n / 10) (by rw [Nat.pow_succ] at h; omega), Option.bind_some]
      have hc : (UInt8.ofNat (48 + ((n % 10 : Nat) : Int)).toNat).toNat = 48 + n % 10 := by
        rw [UInt8.toNat_ofNat', Nat.mod_eq_of_lt (by omega)]
        omega
      show (if 48 ≤ (((UInt8.ofNat (48 + ((n % 10 : Nat) : Int)).toNat).toNat : Nat) : Int) ∧ _ then _ else none) = _
      rw [hc, if_pos (by omega)]
      show some _ = _
      congr 1
      omega
    · have h0 : n = 0 := by omega
      have h1 : m = 0 := by omega
      subst h0 h1
      rw [PD_nil]
      rfl
theorem PD_head : ∀ (i n : Nat), 0 < n → n < 10 ^ i → PD i 0 n ≠ [] ∧ (by8 (PD i 0 n)).head? ≠ some 48 := by
  intro i
  induction i with
  | zero => intro n h0 h; simp at h; omega
  | succ i ih =>
    intro n h0 h
    have e : PD (i + 1) 0 n = PD i 0 (n / 10) ++ [48 + ((n % 10 : Nat) : Int)] := by
      show (if _ then _ else _) = _
      rw [if_pos (by omega)]
    rw [e]
    refine ⟨by simp, ?_⟩
    by_cases z : 0 < n / 10
    · obtain ⟨h1, h2⟩ := ih (n / 10) z (by rw [Nat.pow_succ] at h; omega)
      rw [by8_append, List.head?_append]
      cases hq : PD i 0 (n / 10) with
      | nil => exact absurd hq h1
      | cons a l => rw [hq] at h2; exact h2
    · have z' : n / 10 = 0 := by omega
      rw [z', PD_nil]
      show some (UInt8.ofNat (48 + ((n % 10 : Nat) : Int)).toNat) ≠ some 48
      intro w
      have := congrArg UInt8.toNat (Option.some.inj w)
      rw [UInt8.toNat_ofNat', Nat.mod_eq_of_lt (by omega)] at this
      have h48 : (48 : UInt8).toNat = 48 := rfl
      omega
theorem Dig_ne (n : Nat) : Dig 1 n ≠ [] := by
  show (if _ then _ else _ : List Int) ≠ []
  rw [if_pos (by omega)]
  simp
theorem Dig_VG (n m : Nat) (h : n < 10 ^ 20) : VG (by8 (Dig m n)) 0 = some (n : Int) := VG_PD 20 m n h
theorem Dig_pln (n most : Nat) (h : n < 10 ^ most) (h1 : 1 ≤ most) (hm : most ≤ 18) : PlnL (by8 (Dig 1 n)) most = some (n : Int) := by
  have h20 : n < 10 ^ 20 := Nat.lt_of_lt_of_le h (Nat.pow_le_pow_right (by decide) (by omega))
  have hl := PD_len_le 20 1 n most h h1
  have hn := List.length_pos_iff.mpr (Dig_ne n)
  have hlen : (by8 (Dig 1 n)).length = (Dig 1 n).length := List.length_map ..
  have hc : CntL (by8 (Dig 1 n)) most = some (n : Int) := by
    unfold CntL
    rw [hlen, if_pos ⟨hn, hl⟩]
    exact Dig_VG n 1 h20
  unfold PlnL
  rw [hc, if_pos]
  by_cases z : n = 0
  · left
    subst z
    rfl
  · right
    have := (PD_head 20 n (by omega) h20).2
    rw [PD_one 20 n (by omega)] at this
    exact this
theorem Dig_digit {n m : Nat} (h : n < 10 ^ 20) {c : UInt8} (hc : c ∈ by8 (Dig m n)) : 48 ≤ (c.toNat : Int) ∧ (c.toNat : Int) ≤ 57 := by
  refine Classical.byContradiction fun w => ?_
  have := VG_bad _ c 0 hc w
  rw [Dig_VG n m h] at this
  cases this
theorem digit_not_sep {c : UInt8} (h : 48 ≤ (c.toNat : Int) ∧ (c.toNat : Int) ≤ 57) : isSep c = false := by
  unfold isSep
  rw [Bool.or_eq_false_iff]
  refine ⟨beq_eq_false_iff_ne.mpr fun e => ?_, beq_eq_false_iff_ne.mpr fun e => ?_⟩
  · subst e
    exact absurd h.1 (by decide)
  · subst e
    exact absurd h.1 (by decide)
theorem sep_at {A : List UInt8} (hA : ∀ c ∈ A, isSep c = false) (c : UInt8) (R : List UInt8) (hc : isSep c = true) : (A ++ c :: R).findIdx isSep = A.length := by
  induction A with
  | nil => simp [List.findIdx_cons, hc]
  | cons a A ih =>
    rw [List.cons_append, List.findIdx_cons, hA a (List.mem_cons_self ..), ih (fun x hx => hA x (List.mem_cons_of_mem _ hx))]
    rfl
theorem sep_none {A : List UInt8} (hA : ∀ c ∈ A, isSep c = false) : A.findIdx isSep = A.length := by
  induction A with
  | nil => rfl
  | cons a A ih =>
    rw [List.findIdx_cons, hA a (List.mem_cons_self ..), ih (fun x hx => hA x (List.mem_cons_of_mem _ hx))]
    rfl
theorem at_len (A : List UInt8) (c : UInt8) (R : List UInt8) : (A ++ c :: R)[A.length]? = some c := by
  rw [List.getElem?_append_right (Nat.le_refl _), Nat.sub_self]
  rfl
theorem drop_len (A : List UInt8) (c : UInt8) (R : List UInt8) : (A ++ c :: R).drop (A.length + 1) = R := by
  rw [← List.drop_drop, List.drop_left]
  rfl
theorem take_len (A : List UInt8) (c : UInt8) (R : List UInt8) : (A ++ c :: R).take A.length = A := List.take_left
theorem ParseL_slash {A : List UInt8} (hA : ∀ c ∈ A, isSep c = false) (R : List UInt8) (neg : Bool) : ParseL (A ++ 47 :: R) neg = FracP A (some R) neg := by
  unfold ParseL
  rw [sep_at hA 47 R (by decide), at_len, if_neg (by decide), take_len, drop_len, if_pos (by rw [List.length_append, List.length_cons]; omega)]
theorem ParseL_dot {A : List UInt8} (hA : ∀ c ∈ A, isSep c = false) (R : List UInt8) (neg : Bool) : ParseL (A ++ 46 :: R) neg = DecP A R neg := by
  unfold ParseL
  rw [sep_at hA 46 R (by decide), at_len, if_pos rfl, take_len, drop_len]
theorem ParseL_none {A : List UInt8} (hA : ∀ c ∈ A, isSep c = false) (neg : Bool) : ParseL A neg = FracP A none neg := by
  unfold ParseL
  rw [sep_none hA, List.getElem?_eq_none (Nat.le_refl _), if_neg (fun h => by cases h), if_neg (Nat.lt_irrefl _), List.take_length]
/-- a sign and what begins with no sign -/
theorem ParseR_sign (neg : Bool) (X : List UInt8) (h : X.head? ≠ some 45) : ParseR ((if neg then [45] else []) ++ X) = ParseL X neg := by
  unfold ParseR
  cases neg with
  | true => exact if_pos rfl
  | false => exact if_neg h
theorem Dig_head {n : Nat} (h : n < 10 ^ 20) (R : List UInt8) : (by8 (Dig 1 n) ++ R).head? ≠ some 45 := by
  cases hq : by8 (Dig 1 n) with
  | nil =>
    have : (Dig 1 n).length = 0 := by
      have := congrArg List.length hq
      rwa [by8, List.length_map] at this
    exact absurd (List.length_eq_zero_iff.mp this) (Dig_ne n)
  | cons a l =>
    have hd := Dig_digit (m := 1) h (c := a) (by rw [hq]; exact List.mem_cons_self ..)
    intro w
    have : a = 45 := Option.some.inj w
    subst this
    exact absurd hd.1 (by decide)
theorem sign_by8 (n : Int) : by8 (if n < 0 then [45] else []) = if decide (n < 0) then [45] else [] := by
  by_cases c : n < 0
  · rw [if_pos c, decide_eq_true c]; rfl
  · rw [if_neg c, decide_eq_false c]; rfl
theorem print_back {n d : Int} (h : Ok n d) : ParseR (by8 (PrintL n d)) = (n, d, 0) := by
  have h1 := h.d1; have h2 := h.d2; have h3 := h.n1; have h4 := h.n2
  have pn := Dig_pln n.natAbs 10 (by omega) (by omega) (by omega)
  have pd := Dig_pln d.natAbs 10 (by omega) (by omega) (by omega)
  have ns : ∀ c ∈ by8 (Dig 1 n.natAbs), isSep c = false := fun c hc => digit_not_sep (Dig_digit (by omega) hc)
  have back : (if decide (n < 0) then -((n.natAbs : Nat) : Int) else ((n.natAbs : Nat) : Int)) = n := by
    by_cases c : n < 0
    · rw [decide_eq_true c, if_pos rfl]; omega
    · rw [decide_eq_false c, if_neg (by decide)]; omega
  have nz : ¬ (decide (n < 0) = true ∧ ((n.natAbs : Nat) : Int) = 0) := fun w => by
    have := of_decide_eq_true w.1
    omega
  unfold PrintL
  rw [by8_append, by8_append, sign_by8]
  by_cases z : d > 1
  · rw [if_pos z]
    show ParseR (_ ++ (_ ++ 47 :: by8 (Dig 1 d.natAbs))) = _
    rw [ParseR_sign _ _ (Dig_head (by omega) _), ParseL_slash ns]
    unfold FracP PlnO
    dsimp only
    rw [pn, pd]
    dsimp only
    rw [back, show ((d.natAbs : Nat) : Int) = d by omega, if_pos ⟨fun _ => z, nz, Chk_ok.mpr h⟩]
  · rw [if_neg z]
    show ParseR (_ ++ (_ ++ [])) = _
    rw [ParseR_sign _ _ (Dig_head (by omega) _), List.append_nil, ParseL_none ns]
    obtain rfl : d = 1 := by omega
    unfold FracP PlnO
    dsimp only
    rw [pn]
    dsimp only
    rw [back, if_pos ⟨fun w => absurd w (by decide), nz, Chk_ok.mpr h⟩]
def FitQ (q : Rat) : Prop := (q.den : Int) ≤ 1000000000 ∧ (-1000000000 ≤ q.num ∧ q.num ≤ 1000000000)
instance (q : Rat) : Decidable (FitQ q) := inferInstanceAs (Decidable (_ ∧ _))
def LowQ (q : Rat) : Int × Int × Int := if FitQ q then (q.num, (q.den : Int), 0) else (0, 0, 8)
theorem Rn_q {n d : Int} (h0 : d ≠ 0) : Rn n d = (Rat.divInt n d).num ∧ Rd n d = ((Rat.divInt n d).den : Int) := by
  rw [Rat.num_divInt, Rat.den_divInt, if_neg h0, Int.gcd_comm d n]
  unfold Rn Rd
  refine ⟨?_, ?_⟩
  · congr 1
    split
    · rename_i h
      rw [Int.sign_eq_neg_one_of_neg h, Int.neg_one_mul]
    · rw [Int.sign_eq_one_of_pos (by omega), Int.one_mul]
  · rw [Int.natCast_ediv]
    congr 1
    split <;> omega
theorem Low_q {n d : Int} (h0 : d ≠ 0) : Low n d = LowQ (Rat.divInt n d) := by
  obtain ⟨e1, e2⟩ := Rn_q (n := n) h0
  unfold Low LowQ
  have : Fits n d ↔ FitQ (Rat.divInt n d) := by
    unfold Fits FitQ
    rw [e1, e2]
  by_cases c : Fits n d
  · rw [if_pos c, if_pos (this.mp c), e1, e2]
  · rw [if_neg c, if_neg (fun h => c (this.mpr h))]
theorem ok_q {q : Rat} (h : FitQ q) : Ok q.num q.den := by
  have := q.den_pos
  refine ⟨by omega, h.1, h.2.1, h.2.2, ?_⟩
  have := q.reduced
  unfold Nat.Coprime at this
  exact this
theorem q_ok {n d : Int} (h : Ok n d) : ∃ q, FitQ q ∧ n = q.num ∧ d = (q.den : Int) := by
  have h0 : d ≠ 0 := by have := h.d1; omega
  obtain ⟨e1, e2⟩ := Rn_q (n := n) h0
  have g := h.g
  have r1 : Rn n d = n := by
    unfold Rn
    rw [g, if_neg (by have := h.d1; omega)]
    exact Int.ediv_one n
  have r2 : Rd n d = d := by
    unfold Rd
    rw [g, if_neg (by have := h.d1; omega)]
    exact Int.ediv_one d
  refine ⟨Rat.divInt n d, ⟨?_, ?_⟩, by rw [← e1, r1], by rw [← e2, r2]⟩
  · rw [← e2, r2]; exact h.d2
  · rw [← e1, r1]; exact ⟨h.n1, h.n2⟩
theorem den_ne (q : Rat) : (q.den : Int) ≠ 0 := by have := q.den_pos; omega
theorem Chk2_q {p q : Rat} (hp : FitQ p) (hq : FitQ q) : Chk2 p.num p.den q.num q.den = 0 := Chk2_zero (ok_q hp) (ok_q hq)
theorem SubQ {p q : Rat} (hp : FitQ p) (hq : FitQ q) : SubR p.num p.den q.num q.den = LowQ (p - q) := by
  unfold SubR
  rw [if_pos (Chk2_q hp hq), Low_q (Int.mul_ne_zero (den_ne p) (den_ne q)), ← Rat.divInt_sub_divInt _ _ (den_ne p) (den_ne q), Rat.num_divInt_den, Rat.num_divInt_den]
theorem MulQ {p q : Rat} (hp : FitQ p) (hq : FitQ q) : MulR p.num p.den q.num q.den = LowQ (p * q) := by
  unfold MulR
  rw [if_pos (Chk2_q hp hq), Low_q (Int.mul_ne_zero (den_ne p) (den_ne q)), ← Rat.divInt_mul_divInt, Rat.num_divInt_den, Rat.num_divInt_den]
def cmpQ (p q : Rat) : Int := if p < q then -1 else if q < p then 1 else 0
theorem CmpQ {p q : Rat} (hp : FitQ p) (hq : FitQ q) : CmpR p.num p.den q.num q.den = (cmpQ p q, 0) := by
  unfold CmpR CmpV cmpQ
  rw [if_pos (Chk2_q hp hq)]
  simp only [Rat.lt_iff]
theorem FitQ.neg {p : Rat} (hp : FitQ p) : FitQ (-p) := by
  unfold FitQ at *
  rw [Rat.neg_num, Rat.neg_den]
  omega
theorem LowQ_fit {q : Rat} (h : FitQ q) : LowQ q = (q.num, (q.den : Int), 0) := if_pos h
theorem LowQ_no {q : Rat} (h : ¬ FitQ q) : LowQ q = (0, 0, 8) := if_neg h
theorem near_half {m d : Int} (h0 : 1 ≤ d) : 2 * (m - Near1 m d * d) ≤ d ∧ -d ≤ 2 * (m - Near1 m d * d) := by
  have p1 := Int.emod_nonneg m (b := d) (by omega)
  have p2 := Int.emod_lt_of_pos m (b := d) (by omega)
  have p3 := Int.emod_add_mul_ediv m d
  have p4 : d * (m / d) = m / d * d := Int.mul_comm ..
  have e : (m / d + 1) * d = m / d * d + d := by rw [Int.add_mul, Int.one_mul]
  unfold Near1
  generalize hq : m / d = q at *
  generalize Int.tmod q 2 = z
  split
  · rename_i c
    rw [e]
    omega
  · rename_i c
    omega
theorem near_tight {n d : Int} (h : Ok n d) : -1000000000 ≤ Near1 n d ∧ Near1 n d ≤ 1000000000 := by
  have h1 := h.d1; have h2 := h.d2; have h3 := h.n1; have h4 := h.n2
  have nh := near_half (m := n) h.d1
  generalize Near1 n d = N at *
  refine ⟨?_, ?_⟩
  · refine Classical.byContradiction fun c => ?_
    have : N * d ≤ (-1000000001) * d := Int.mul_le_mul_of_nonneg_right (by omega) (by omega)
    omega
  · refine Classical.byContradiction fun c => ?_
    have : 1000000001 * d ≤ N * d := Int.mul_le_mul_of_nonneg_right (by omega) (by omega)
    omega
theorem near_big {n d T N : Int} (h : Ok n d) (hT : 1 ≤ T ∧ T ≤ 1000000000) (u1 : 2 * (n * T - N * d) ≤ d) (u2 : -d ≤ 2 * (n * T - N * d)) : (1000000000 * T ≤ N → n = 1000000000 ∧ d = 1) ∧ (N ≤ -(1000000000 * T) → n = -1000000000 ∧ d = 1) := by
  have h1 := h.d1; have h2 := h.d2; have h3 := h.n1; have h4 := h.n2
  have a1 : n * T ≤ 1000000000 * T := Int.mul_le_mul_of_nonneg_right (by omega) (by omega)
  have a2 : (-1000000000) * T ≤ n * T := Int.mul_le_mul_of_nonneg_right (by omega) (by omega)
  have a3 := Int.mul_nonneg (show 0 ≤ T - 1 by omega) (show 0 ≤ d - 1 by omega)
  have e3 : (T - 1) * (d - 1) = T * d - T - d + 1 := by grind
  refine ⟨fun c => ?_, fun c => ?_⟩
  · have b1 : 1000000000 * T * d ≤ N * d := Int.mul_le_mul_of_nonneg_right c (by omega)
    have e1 : 1000000000 * T * d = 1000000000 * (T * d) := Int.mul_assoc ..
    have d1 : d = 1 := by omega
    subst d1
    refine ⟨?_, rfl⟩
    refine Classical.byContradiction fun w => ?_
    have : n * T ≤ 999999999 * T := Int.mul_le_mul_of_nonneg_right (by omega) (by omega)
    omega
  · have b1 : N * d ≤ -(1000000000 * T) * d := Int.mul_le_mul_of_nonneg_right c (by omega)
    have e1 : -(1000000000 * T) * d = -(1000000000 * (T * d)) := by grind
    have d1 : d = 1 := by omega
    subst d1
    refine ⟨?_, rfl⟩
    refine Classical.byContradiction fun w => ?_
    have : (-999999999) * T ≤ n * T := Int.mul_le_mul_of_nonneg_right (by omega) (by omega)
    omega
theorem Pln_long {n most : Nat} (h : 10 ^ most ≤ n) (hn : n < 10 ^ 20) : PlnL (by8 (Dig 1 n)) most = none := by
  have hlt : n < 10 ^ (Dig 1 n).length := PD_lt 20 1 n hn
  have hlen : (by8 (Dig 1 n)).length = (Dig 1 n).length := List.length_map ..
  have hm : most < (Dig 1 n).length := by
    rcases Nat.lt_or_ge most (Dig 1 n).length with c | c
    · exact c
    · have := Nat.pow_le_pow_right (n := 10) (by decide) c
      omega
  have hc : CntL (by8 (Dig 1 n)) most = none := by
    unfold CntL
    rw [hlen, if_neg (fun w => by omega)]
  unfold PlnL
  rw [hc]
  split <;> rfl
theorem dec_parse (N : Int) (p : Nat) (hp : 1 ≤ p ∧ p ≤ 9) (hN : N.natAbs < 10 ^ 20) : ParseR (by8 (DecL N p)) = if N.natAbs / 10 ^ p < 1000000000 then Low N ((10 ^ p : Nat) : Int) else (0, 0, 1) := by
  have hT0 : 0 < 10 ^ p := Nat.pow_pos (by omega)
  have q1 := Nat.div_le_self N.natAbs (10 ^ p)
  have r1 := Nat.mod_lt N.natAbs hT0
  have r2 := Nat.mod_le N.natAbs (10 ^ p)
  have ns : ∀ c ∈ by8 (Dig 1 (N.natAbs / 10 ^ p)), isSep c = false := fun c hc => digit_not_sep (Dig_digit (Nat.lt_of_le_of_lt q1 hN) hc)
  unfold DecL
  rw [if_pos (show p > 0 by omega), by8_append, by8_append, sign_by8]
  show ParseR (_ ++ (_ ++ 46 :: by8 (Dig p (N.natAbs % 10 ^ p)))) = _
  rw [ParseR_sign _ _ (Dig_head (Nat.lt_of_le_of_lt q1 hN) _), ParseL_dot ns]
  have len : (by8 (Dig p (N.natAbs % 10 ^ p))).length = p := by
    rw [by8, List.length_map]
    exact PD_len_eq 20 p _ r1 (by omega)
  have hc : CntL (by8 (Dig p (N.natAbs % 10 ^ p))) 9 = some ((N.natAbs % 10 ^ p : Nat) : Int) := by
    unfold CntL
    rw [len, if_pos hp]
    exact Dig_VG _ p (Nat.lt_of_le_of_lt r2 hN)
  have back : (if decide (N < 0) = true then -(((N.natAbs / 10 ^ p : Nat) : Int) * 10 ^ p + ((N.natAbs % 10 ^ p : Nat) : Int)) else ((N.natAbs / 10 ^ p : Nat) : Int) * 10 ^ p + ((N.natAbs % 10 ^ p : Nat) : Int)) = N := by
    rw [pow_nat]
    have h := Nat.div_add_mod N.natAbs (10 ^ p)
    have e : ((N.natAbs / 10 ^ p : Nat) : Int) * ((10 ^ p : Nat) : Int) + ((N.natAbs % 10 ^ p : Nat) : Int) = (N.natAbs : Int) := by
      rw [← Int.natCast_mul, ← Int.natCast_add, Nat.mul_comm]
      exact congrArg _ h
    rw [e]
    by_cases c : N < 0
    · rw [decide_eq_true c, if_pos rfl]; omega
    · rw [decide_eq_false c, if_neg (by decide)]; omega
  by_cases c : N.natAbs / 10 ^ p < 1000000000
  · have hn := Dig_pln (N.natAbs / 10 ^ p) 9 c (by omega) (by omega)
    rw [if_pos c]
    unfold DecP
    rw [hn, hc]
    dsimp only
    rw [len, back, pow_nat]
  · have hn := Pln_long (most := 9) (n := N.natAbs / 10 ^ p) (by omega) (Nat.lt_of_le_of_lt q1 hN)
    rw [if_neg c]
    unfold DecP
    rw [hn, hc]
theorem ok_int {N : Int} (h1 : -1000000000 ≤ N) (h2 : N ≤ 1000000000) : Ok N 1 := ⟨by decide, by decide, h1, h2, Int.gcd_one_right ..⟩
theorem dec_parse0 (N : Int) (h1 : -1000000000 ≤ N) (h2 : N ≤ 1000000000) : ParseR (by8 (DecL N 0)) = (N, 1, 0) := by
  have e : DecL N 0 = PrintL N 1 := by
    unfold DecL PrintL
    rw [if_neg (show ¬ (0 : Nat) > 0 by omega), if_neg (show ¬ (1 : Int) > 1 by omega), Nat.pow_zero, Nat.div_one]
  rw [e, print_back (ok_int h1 h2)]
theorem DecL_len (N : Int) (p : Nat) : (DecL N p).length ≤ 50 := by
  have l1 := Dig_len 1 (N.natAbs / 10 ^ p)
  have l2 := Dig_len p (N.natAbs % 10 ^ p)
  unfold DecL
  rw [List.length_append, List.length_append]
  have : (if N < 0 then [(45 : Int)] else []).length ≤ 1 := by split <;> simp
  have : (if p > 0 then 46 :: Dig p (N.natAbs % 10 ^ p) else []).length ≤ 21 := by split <;> simp; omega
  omega
theorem divInt_cast (d : Int) : Rat.divInt d 1 = (d : Rat) := Rat.num_divInt_den (d : Rat)
theorem divInt_back {n d : Int} (h0 : d ≠ 0) : Rat.divInt n d * (d : Rat) = (n : Rat) := by
  have e := Rat.divInt_mul_divInt n d (d₁ := d) (d₂ := 1)
  rw [divInt_cast, Int.mul_one] at e
  rw [e, ← divInt_cast n]
  exact (Rat.divInt_eq_divInt_iff h0 (by decide)).mpr (by rw [Int.mul_one])
theorem num_den (a : Rat) : a * ((a.den : Int) : Rat) = ((a.num : Int) : Rat) := by
  have := divInt_back (n := a.num) (den_ne a)
  rwa [Rat.num_divInt_den] at this
theorem gap_le {x a u : Rat} {N T n d : Int} (hT : 0 < T) (hd : 0 < d) (hx : x * (T : Rat) = (N : Rat)) (ha : a * (d : Rat) = (n : Rat)) (hu : u * (T : Rat) = 1) (h1 : 2 * (n * T - N * d) ≤ d) (h2 : -d ≤ 2 * (n * T - N * d)) : (x - a) * 2 ≤ u ∧ -(x - a) * 2 ≤ u := by
  have p : (0 : Rat) < (T : Rat) * (d : Rat) := Rat.mul_pos (Rat.intCast_lt_intCast.mpr hT) (Rat.intCast_lt_intCast.mpr hd)
  have k1 := Rat.intCast_le_intCast.mpr h1
  have k2 := Rat.intCast_le_intCast.mpr h2
  simp only [Rat.intCast_mul, Rat.intCast_sub, Rat.intCast_neg, Rat.intCast_ofNat] at k1 k2
  rw [← hx, ← ha] at k1 k2
  have eu : u * ((T : Rat) * (d : Rat)) = (d : Rat) := by rw [← Rat.mul_assoc, hu, Rat.one_mul]
  refine ⟨Rat.le_of_mul_le_mul_right (c := (T : Rat) * (d : Rat)) ?_ p, Rat.le_of_mul_le_mul_right (c := (T : Rat) * (d : Rat)) ?_ p⟩
  · rw [eu]
    grind
  · rw [eu]
    grind
set_option maxRecDepth 100000 in
theorem summed_at : withylaw01_summed.f 60 = some true := by kernel_rfl
theorem ev_summed : Ev (fun k => withylaw01_summed.f k) true := Ev.of (fun k => withylaw01_summed.mono k) summed_at
theorem rd_end (p : Nat) (hp : p ≤ 9) (e1 e2 : Int) (g : Int × Int) (h : e1 = 0 → e2 = 0 → ∃ q u : Rat, FitQ q ∧ FitQ u ∧ g = (q.num, (q.den : Int)) ∧ u.num = 1 ∧ (u.den : Int) = ((10 ^ p : Nat) : Int) ∧ q ≤ u) :
    ∀ (m i : Nat), i + m = p → Ev (fun k => withylaw01_NumRounded.l0 k (p : Int) e1 e2 ((10 ^ i : Nat) : Int) (i : Int) g.1 g.2) true := by
  have hs := Ev.bind ev_summed (Ev.now true)
  intro m
  induction m with
  | zero =>
    intro i hi
    obtain rfl : i = p := by omega
    refine Ev.step (f := fun k => (num_Cmp.f k g.1 g.2 1 ((10 ^ i : Nat) : Int)).bind fun b => (if e1 = 0 then (if e2 = 0 then (if b.2 = 0 then (if b.1 ≤ 0 then ((withylaw01_summed.f k).bind fun t => some t) else some false) else some false) else ((withylaw01_summed.f k).bind fun t => some t)) else ((withylaw01_summed.f k).bind fun t => some t))) (fun k => ?_) ?_
    · rw [withylaw01_NumRounded.l0, if_neg (by omega)]
    · refine Ev.bind (ev_Cmp _ _ _ _) ?_
      by_cases c1 : e1 = 0
      · by_cases c2 : e2 = 0
        · obtain ⟨q, u, hq, hu, rfl, u1, u2, le⟩ := h c1 c2
          simp only [c1, c2, if_true]
          rw [← u1, ← u2, CmpQ hq hu]
          have : cmpQ q u ≤ 0 := by
            unfold cmpQ
            rw [if_neg (c := u < q) (Rat.not_lt.mpr le)]
            split <;> decide
          simp only [if_true, this]
          exact hs
        · simp only [c1, c2, if_true, if_false]
          exact hs
      · simp only [c1, if_false]
        exact hs
  | succ m ih =>
    intro i hi
    have t := ten_le (p := i) (by omega)
    refine Ev.step (f := fun k => withylaw01_NumRounded.l0 k (p : Int) e1 e2 ((10 ^ (i + 1) : Nat) : Int) ((i + 1 : Nat) : Int) g.1 g.2) (fun k => ?_) (ih (i + 1) (by omega))
    have w1 : wrap64 ((i : Int) + 1) = ((i + 1 : Nat) : Int) := (w64 (by omega) (by omega)).trans (by omega)
    have w2 : wrap64 (10 * ((10 ^ i : Nat) : Int)) = ((10 ^ (i + 1) : Nat) : Int) := by
      rw [Nat.pow_succ]
      generalize 10 ^ i = T at t ⊢
      exact (w64 (by omega) (by omega)).trans (by omega)
    rw [withylaw01_NumRounded.l0, if_pos (by omega), w1, w2]
theorem two_fit : FitQ 2 := by decide
theorem rd_j2 (p : Nat) (hp : p ≤ 9) (e1 : Int) (g : Int × Int) (h : e1 = 0 → ∃ q u : Rat, FitQ q ∧ FitQ u ∧ g = (q.num, (q.den : Int)) ∧ u.num = 1 ∧ (u.den : Int) = ((10 ^ p : Nat) : Int) ∧ q * 2 ≤ u) : Ev (fun k => withylaw01_NumRounded.j2 k (p : Int) e1 g.1 g.2) true := by
  refine Ev.step (f := fun k => (num_Mul.f k g.1 g.2 2 1).bind fun b => withylaw01_NumRounded.l0 k (p : Int) e1 b.2.2 1 0 b.1 b.2.1) (fun k => rfl) ?_
  refine Ev.bind (ev_Mul _ _ _ _) ?_
  refine rd_end p hp e1 _ (_, _) (fun c1 c2 => ?_) p 0 (Nat.zero_add _)
  obtain ⟨q, u, hq, hu, rfl, u1, u2, le⟩ := h c1
  have mq := MulQ hq two_fit
  rw [show (2 : Rat).num = 2 from rfl, show (((2 : Rat).den : Nat) : Int) = 1 from rfl] at mq
  rw [mq] at c2 ⊢
  by_cases f : FitQ (q * 2)
  · rw [LowQ_fit f]
    exact ⟨q * 2, u, f, hu, rfl, u1, u2, le⟩
  · rw [LowQ_no f] at c2
    exact absurd c2 (by decide)
theorem rd_sub (p : Nat) (hp : p ≤ 9) (x a u : Rat) (hx : FitQ x) (ha : FitQ a) (hu : FitQ u) (u1 : u.num = 1) (u2 : (u.den : Int) = ((10 ^ p : Nat) : Int)) (h1 : (x - a) * 2 ≤ u) (h2 : -(x - a) * 2 ≤ u) :
    Ev (fun k => (num_Sub.f k x.num x.den a.num a.den).bind fun b => if b.1 < 0 then withylaw01_NumRounded.j2 k (p : Int) b.2.2 (wrap64 (-b.1)) b.2.1 else withylaw01_NumRounded.j2 k (p : Int) b.2.2 b.1 b.2.1) true := by
  refine Ev.bind (ev_Sub _ _ _ _) ?_
  rw [SubQ hx ha]
  by_cases f : FitQ (x - a)
  · rw [LowQ_fit f]
    dsimp only
    have b2 := f.2
    by_cases c : (x - a).num < 0
    · simp only [c, if_true]
      rw [w64 (by omega) (by omega)]
      refine rd_j2 p hp 0 (_, _) fun _ => ⟨-(x - a), u, f.neg, hu, ?_, u1, u2, h2⟩
      rw [Rat.neg_num, Rat.neg_den]
    · simp only [c, if_false]
      exact rd_j2 p hp 0 (_, _) fun _ => ⟨x - a, u, f, hu, rfl, u1, u2, h1⟩
  · rw [LowQ_no f]
    exact rd_j2 p hp 8 (0, 0) fun h => absurd h (by decide)
theorem rd_j1 {n d : Int} (h : Ok n d) (p : Nat) (hp : p ≤ 9) (f c : Int) (hf : n = -1000000000 → d = 1 → f = -1000000000) (hc : n = 1000000000 → d = 1 → c = 1000000000) : Ev (fun k => withylaw01_NumRounded.j1 k (p : Int) f c false n d) true := by
  have hs := Ev.bind ev_summed (Ev.now true)
  have h1 := h.d1; have h2 := h.d2; have h3 := h.n1; have h4 := h.n2
  have T0 : 0 < 10 ^ p := Nat.pow_pos (by omega)
  have T1 := ten_le hp
  refine Ev.step (f := fun k => (num_Decimal.f k n d (p : Int)).bind fun s => (if s.2 = 0 then ((num_Parse.f k s.1).bind fun x => (if x.2.2 = 0 then ((num_Sub.f k x.1 x.2.1 n d).bind fun b => (if b.1 < 0 then withylaw01_NumRounded.j2 k (p : Int) b.2.2 (wrap64 (-b.1)) b.2.1 else withylaw01_NumRounded.j2 k (p : Int) b.2.2 b.1 b.2.1)) else (if (p : Int) > 0 then (if x.2.2 = 8 then ((withylaw01_summed.f k).bind fun t => some t) else ((withyref01_In.f f (-1000000000) (-999999999)).bind fun t => (if t = true then ((withylaw01_summed.f k).bind fun t => some t) else ((withyref01_In.f c 999999999 1000000000).bind fun t => (if t = true then ((withylaw01_summed.f k).bind fun t => some t) else some false))))) else some false))) else some false)) (fun k => rfl) ?_
  refine Ev.bind (ev_Decimal n d (p : Int)) ?_
  unfold DecR
  rw [if_pos (Chk_ok.mpr h), if_pos (by omega), Int.toNat_natCast]
  simp only [if_true]
  have sc := scaled h (p := (p : Int)) (by omega) (by omega)
  rw [Int.toNat_natCast] at sc
  have nb := Near1_bound (d := d) h1 1000000000000000000 (by omega) sc.1 sc.2
  obtain ⟨u1, u2⟩ := near_half (m := n * ((10 ^ p : Nat) : Int)) h1
  have big := near_big h (T := ((10 ^ p : Nat) : Int)) (by omega) u1 u2
  have tight : p = 0 → -1000000000 ≤ Near1 (n * ((10 ^ p : Nat) : Int)) d ∧ Near1 (n * ((10 ^ p : Nat) : Int)) d ≤ 1000000000 := fun z => by
    subst z
    rw [Nat.pow_zero, Int.natCast_one, Int.mul_one]
    exact near_tight h
  generalize Near1 (n * ((10 ^ p : Nat) : Int)) d = N at *
  have len := DecL_len N p
  refine Ev.bind (ev_Parse _ (by rw [strOfNums_size]; omega)) ?_
  rw [son_by8]
  -- a number that is N by 10 to the power of p
  have good : ∀ x : Rat, FitQ x → x * ((((10 ^ p : Nat) : Int)) : Rat) = ((N : Int) : Rat) → Ev (fun k => (num_Sub.f k x.num x.den n d).bind fun b => (if b.1 < 0 then withylaw01_NumRounded.j2 k (p : Int) b.2.2 (wrap64 (-b.1)) b.2.1 else withylaw01_NumRounded.j2 k (p : Int) b.2.2 b.1 b.2.1)) true := fun x fx ex => by
    obtain ⟨a, ha, rfl, rfl⟩ := q_ok h
    obtain ⟨u, hu, u3, u4⟩ := q_ok (n := 1) (d := ((10 ^ p : Nat) : Int)) ⟨by omega, by omega, by decide, by decide, Int.gcd_one_left ..⟩
    have eu : u * ((((10 ^ p : Nat) : Int)) : Rat) = 1 := by
      rw [u4, num_den, ← u3]
      rfl
    obtain ⟨k1, k2⟩ := gap_le (T := ((10 ^ p : Nat) : Int)) (by omega) (by omega) ex (num_den a) eu u1 u2
    exact rd_sub p hp x a u fx ha hu u3.symm u4.symm k1 k2
  rcases Nat.eq_zero_or_pos p with z | z
  · have t := tight z
    subst z
    rw [dec_parse0 N t.1 t.2]
    simp only [if_true]
    obtain ⟨x, fx, x1, x2⟩ := q_ok (ok_int t.1 t.2)
    have ex : x * ((((10 ^ 0 : Nat) : Int)) : Rat) = ((N : Int) : Rat) := by
      rw [show ((10 ^ 0 : Nat) : Int) = (x.den : Int) from x2, num_den, x1]
    have := good x fx ex
    rw [← x1, ← x2] at this
    exact this
  · rw [dec_parse N p ⟨z, hp⟩ (by omega)]
    by_cases c : N.natAbs / 10 ^ p < 1000000000
    · rw [if_pos c, Low_q (by omega)]
      by_cases fx : FitQ (Rat.divInt N ((10 ^ p : Nat) : Int))
      · rw [LowQ_fit fx]
        simp only [if_true]
        exact good _ fx (divInt_back (by omega))
      · rw [LowQ_no fx]
        simp only [show ¬ ((8 : Int) = 0) by decide, if_false, show (p : Int) > 0 by omega, if_true]
        exact hs
    · rw [if_neg c]
      have z' : (p : Int) > 0 := by omega
      simp only [show ¬ ((1 : Int) = 0) by decide, show ¬ ((1 : Int) = 8) by decide, if_false, z', if_true, in_f, Option.bind_some]
      have c2 : 1000000000 * 10 ^ p ≤ N.natAbs := by
        have := Nat.le_div_iff_mul_le T0 (x := 1000000000) (y := N.natAbs)
        exact this.mp (by omega)
      by_cases s : N < 0
      · obtain ⟨b1, b2⟩ := big.2 (by omega)
        rw [hf b1 b2]
        simp only [show decide ((-1000000000 : Int) ≤ -1000000000 ∧ (-1000000000 : Int) ≤ -999999999) = true by decide, if_true]
        exact hs
      · obtain ⟨b1, b2⟩ := big.1 (by omega)
        rw [hc b1 b2]
        simp only [show decide ((999999999 : Int) ≤ 1000000000 ∧ (1000000000 : Int) ≤ 1000000000) = true by decide, if_true]
        by_cases t : decide (-1000000000 ≤ f ∧ f ≤ -999999999) = true
        · simp only [t, if_true]
          exact hs
        · simp only [t, if_false]
          exact hs
theorem tmod2 (x : Int) : Int.tmod x 2 = 0 ↔ x % 2 = 0 := by
  rw [← Int.dvd_iff_tmod_eq_zero, Int.dvd_iff_emod_eq_zero]
theorem withylaw01_NumRounded.ev (a0_0 a0_1 a1 : Int) (ha : 0 ≤ a1 ∧ a1 ≤ 255) : Ev (fun k => withylaw01_NumRounded.f k a0_0 a0_1 a1) true := by
  have hs := Ev.bind ev_summed (Ev.now true)
  unfold withylaw01_NumRounded.f
  refine Ev.bind (ev_rcheck a0_0 a0_1) ?_
  by_cases ok0 : Chk a0_0 a0_1 = 0
  · have h := Chk_ok.mp ok0
    have h1 := h.d1; have h2 := h.d2; have h3 := h.n1; have h4 := h.n2
    simp only [ok0, if_true]
    refine Ev.bind (ev_Floor a0_0 a0_1) (Ev.bind (ev_Ceil a0_0 a0_1) (Ev.bind (ev_Round a0_0 a0_1) (Ev.bind (ev_Whole a0_0 a0_1) ?_)))
    unfold RoundedR WholeR
    rw [if_pos ok0, if_pos ok0, if_pos ok0, if_pos ok0]
    have w : wrap64 a1 = a1 := w64 (by omega) (by omega)
    obtain ⟨p, hp, hp9⟩ : ∃ p : Nat, Int.tmod (wrap64 a1) 10 = (p : Int) ∧ p ≤ 9 := ⟨(a1 % 10).toNat, by rw [w, Int.tmod_eq_emod_of_nonneg ha.1]; omega, by omega⟩
    rw [hp]
    have p1 := Int.emod_nonneg a0_0 (b := a0_1) (by omega)
    have p2 := Int.emod_lt_of_pos a0_0 (b := a0_1) (by omega)
    have p3 := Int.emod_add_mul_ediv a0_0 a0_1
    have p4 : a0_1 * (a0_0 / a0_1) = a0_0 / a0_1 * a0_1 := Int.mul_comm ..
    have fb := le_div (a := a0_0) (g := a0_1.toNat) (b := 1000000000) (by omega) (by omega) (by omega)
    rw [Int.toNat_of_nonneg (by omega)] at fb
    have q1 := Int.emod_nonneg (-a0_0) (b := a0_1) (by omega)
    have q2 := Int.emod_lt_of_pos (-a0_0) (b := a0_1) (by omega)
    have q3 := Int.emod_add_mul_ediv (-a0_0) a0_1
    have q4 : a0_1 * (-a0_0 / a0_1) = -a0_0 / a0_1 * a0_1 := Int.mul_comm ..
    -- whole just if the denominator is 1
    have whole : a0_0 % a0_1 = 0 ↔ a0_1 = 1 := by
      constructor
      · intro z
        have dv : a0_1 ∣ a0_0 := Int.dvd_of_emod_eq_zero z
        have g := h.g
        have := Int.gcd_eq_right_iff_dvd (a := a0_0) (b := a0_1) (by omega)
        have e := this.mpr dv
        omega
      · intro z
        rw [z]
        exact Int.emod_one ..
    have cf : -(-a0_0 / a0_1) = if a0_1 = 1 then a0_0 / a0_1 else a0_0 / a0_1 + 1 := by
      generalize hF : a0_0 / a0_1 = F at *
      generalize hC : -a0_0 / a0_1 = C at *
      have s : (C + F) * a0_1 = -((-a0_0) % a0_1) - a0_0 % a0_1 := by
        rw [Int.add_mul]
        omega
      by_cases z : a0_1 = 1
      · rw [if_pos z]
        have z0 := whole.mpr z
        subst z
        omega
      · rw [if_neg z]
        have z0 : a0_0 % a0_1 ≠ 0 := fun w => z (whole.mp w)
        have lo : -2 * a0_1 < (C + F) * a0_1 := by omega
        have hi : (C + F) * a0_1 < 0 * a0_1 := by omega
        have l1 := Int.lt_of_mul_lt_mul_right lo (by omega)
        have l2 := Int.lt_of_mul_lt_mul_right hi (by omega)
        omega
    have hfm : a0_0 = -1000000000 → a0_1 = 1 → a0_0 / a0_1 = -1000000000 := fun e1 e2 => by rw [e1, e2]; rfl
    have hcm : a0_0 = 1000000000 → a0_1 = 1 → -(-a0_0 / a0_1) = 1000000000 := fun e1 e2 => by rw [e1, e2]; rfl
    have fin := rd_j1 h p hp9 (a0_0 / a0_1) (-(-a0_0 / a0_1)) hfm hcm
    dsimp only
    clear hfm hcm q1 q2 q3 q4 hp
    simp only [if_true]
    have near : Near1 a0_0 a0_1 = if a0_0 - a0_0 / a0_1 * a0_1 > a0_1 - (a0_0 - a0_0 / a0_1 * a0_1) ∨ (a0_0 - a0_0 / a0_1 * a0_1 = a0_1 - (a0_0 - a0_0 / a0_1 * a0_1) ∧ ¬ Int.tmod (a0_0 / a0_1) 2 = 0) then a0_0 / a0_1 + 1 else a0_0 / a0_1 := rfl
    suffices key : ∀ (C0 N0 : Int), Ev (fun k => withylaw01_NumRounded.j1 k (p : Int) (a0_0 / a0_1) C0 false a0_0 a0_1) true → (C0 = if a0_1 = 1 then a0_0 / a0_1 else a0_0 / a0_1 + 1) → (N0 = if a0_0 - a0_0 / a0_1 * a0_1 > a0_1 - (a0_0 - a0_0 / a0_1 * a0_1) ∨ (a0_0 - a0_0 / a0_1 * a0_1 = a0_1 - (a0_0 - a0_0 / a0_1 * a0_1) ∧ ¬ Int.tmod (a0_0 / a0_1) 2 = 0) then a0_0 / a0_1 + 1 else a0_0 / a0_1) →
        Ev (fun k => (withyref01_In.f (a0_0 / a0_1) (-1000000000) 1000000000).bind fun t => if t = true then ((withyref01_In.f C0 (a0_0 / a0_1) (wrap64 (a0_0 / a0_1 + 1))).bind fun u => if u = true then (if ((C0 == a0_0 / a0_1) != (a0_1 == 1)) = true then withylaw01_NumRounded.j0 k (p : Int) (a0_0 / a0_1) C0 N0 true a0_0 a0_1 else if N0 = a0_0 / a0_1 then withylaw01_NumRounded.j0 k (p : Int) (a0_0 / a0_1) C0 N0 false a0_0 a0_1 else withylaw01_NumRounded.j0 k (p : Int) (a0_0 / a0_1) C0 N0 (N0 != C0) a0_0 a0_1) else withylaw01_NumRounded.j0 k (p : Int) (a0_0 / a0_1) C0 N0 true a0_0 a0_1) else withylaw01_NumRounded.j0 k (p : Int) (a0_0 / a0_1) C0 N0 true a0_0 a0_1) true from key _ _ fin cf near
    clear near cf fin
    intro C0 N0 fin cf near
    have rest : a0_0 - a0_0 / a0_1 * a0_1 = a0_0 % a0_1 := by omega
    rw [rest] at near
    have one0 : a0_1 = 1 → a0_0 % a0_1 = 0 := whole.mpr
    generalize hR : a0_0 % a0_1 = R at *
    generalize hF : a0_0 / a0_1 = F at *
    have wF : wrap64 (F * a0_1) = F * a0_1 := w64 (by omega) (by omega)
    have wR : wrap64 (a0_0 - F * a0_1) = R := (w64 (by omega) (by omega)).trans (by omega)
    have w2 : wrap64 (2 * R) = 2 * R := w64 (by omega) (by omega)
    have wF1 : wrap64 (F + 1) = F + 1 := w64 (by omega) (by omega)
    -- the check of the distances
    have j0 : ∀ r c : Int, (2 * R < a0_1 → r = F) → (2 * R > a0_1 → r = c) → (2 * R = a0_1 → Int.tmod r 2 = 0) → Ev (fun k => withylaw01_NumRounded.j1 k (p : Int) F c false a0_0 a0_1) true → Ev (fun k => withylaw01_NumRounded.j0 k (p : Int) F c r false a0_0 a0_1) true := fun r c c1 c2 c3 fin => by
      refine Ev.step (f := fun k => withylaw01_NumRounded.j1 k (p : Int) F c false a0_0 a0_1) (fun k => ?_) fin
      rw [withylaw01_NumRounded.j0, if_neg (by decide), wF, wR, w2, if_neg (by omega), if_neg (by omega)]
      by_cases x1 : 2 * R < a0_1
      · rw [if_pos x1, if_pos (c1 x1), if_neg (by omega), if_neg (by omega)]
      · rw [if_neg x1]
        by_cases x2 : 2 * R > a0_1
        · rw [if_pos x2, if_pos (c2 x2), if_neg (by omega)]
        · rw [if_neg x2, if_pos (by omega), c3 (by omega)]
          rfl
    simp only [if_true, in_f, Option.bind_some, wF1]
    have i1 : decide (-1000000000 ≤ F ∧ F ≤ 1000000000) = true := decide_eq_true ⟨fb.1, fb.2⟩
    simp only [i1, if_true]
    by_cases z : a0_1 = 1
    · have z0 := one0 z
      rw [if_pos z] at cf
      have nr : ¬ (R > a0_1 - R ∨ (R = a0_1 - R ∧ ¬ Int.tmod F 2 = 0)) := by omega
      rw [if_neg nr] at near
      subst cf near
      have i2 : decide (N0 ≤ N0 ∧ N0 ≤ N0 + 1) = true := decide_eq_true ⟨by omega, by omega⟩
      have b2 : (a0_1 == 1) = true := beq_iff_eq.mpr z
      simp only [i2, if_true, beq_self_eq_true, b2, bne_self_eq_false, Bool.false_eq_true, if_false]
      exact j0 N0 N0 (fun _ => rfl) (fun _ => rfl) (fun w => by omega) fin
    · have z0 : R ≠ 0 := fun w => z (whole.mp w)
      rw [if_neg z] at cf
      subst cf
      have i2 : decide (F ≤ F + 1 ∧ F + 1 ≤ F + 1) = true := decide_eq_true ⟨by omega, by omega⟩
      have b1 : (F + 1 == F) = false := beq_eq_false_iff_ne.mpr (by omega)
      have b2 : (a0_1 == 1) = false := beq_eq_false_iff_ne.mpr z
      simp only [i2, if_true, b1, b2, bne_self_eq_false, Bool.false_eq_true, if_false]
      by_cases up : R > a0_1 - R ∨ (R = a0_1 - R ∧ ¬ Int.tmod F 2 = 0)
      · rw [if_pos up] at near
        subst near
        have b3 : ¬ F + 1 = F := by omega
        simp only [b3, if_false, bne_self_eq_false]
        refine j0 (F + 1) (F + 1) (fun _ => by omega) (fun _ => rfl) (fun w => ?_) fin
        have : ¬ Int.tmod F 2 = 0 := by
          rcases up with up | up
          · omega
          · exact up.2
        rw [tmod2] at this ⊢
        omega
      · rw [if_neg up] at near
        subst near
        simp only [if_true]
        refine j0 N0 (N0 + 1) (fun _ => rfl) (fun _ => by omega) (fun w => ?_) fin
        refine Classical.byContradiction fun v => up (Or.inr ⟨by omega, v⟩)
  · simp only [ok0, if_false]
    exact hs
theorem withylaw01_NumRounded.pure (a0_0 a0_1 a1 : Int) (_ : -9223372036854775808 ≤ a0_0 ∧ a0_0 ≤ 9223372036854775807) (_ : -9223372036854775808 ≤ a0_1 ∧ a0_1 ≤ 9223372036854775807) (h : 0 ≤ a1 ∧ a1 ≤ 255) : ∃ k, withylaw01_NumRounded.f k a0_0 a0_1 a1 = some true :=
  (withylaw01_NumRounded.ev a0_0 a0_1 a1 h).rounds
end Go.Proofs.Ytakcdoahpbeckaa.H
