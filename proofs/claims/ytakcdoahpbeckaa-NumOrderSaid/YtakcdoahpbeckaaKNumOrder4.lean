/- NumOrder: the plain law, without the program: what the printed functions come to. -/
import Derived.Test.YtakcdoahpbeckaaKNumOrder3
namespace Go.Proofs.Ytakcdoahpbeckaa.H
open Go.RowKit Go.Proofs.YtakcdoahpbeckaaW.PrintWords Go.Proofs.YtakcdoahpbeckaaW.PrintLast Go.Proofs.YtakcdoahpbeckaaW.PrintMore
attribute [local go_sem] max2_int min2_int max_two min_two max_three min_three max_four min_four   -- for this text's walks alone
set_option linter.unusedVariables false
set_option linter.unusedSimpArgs false

/-! ### the text VNumOrder -/
theorem w64 {n : Int} (h : -9223372036854775808 ≤ n) (h' : n ≤ 9223372036854775807) : wrap64 n = n := by unfold wrap64; omega
theorem Ev.isNow {α : Type} {g : Nat → Option α} {r : α} (h : ∀ k, g k = some r) : Ev g r := ⟨0, fun k _ => h k⟩
theorem mx_nat (g : Nat) (h : 0 < g) : mx (g : Int) 1 = g := by unfold mx; split <;> omega
theorem mx_abs {n : Int} (h : -9223372036854775807 ≤ n) (h' : n ≤ 9223372036854775807) : mx n (wrap64 (-n)) = (n.natAbs : Int) := by
  rw [w64 (by omega) (by omega)]
  unfold mx
  split <;> omega
theorem divisor_loop : ∀ (n m : Nat), Ev (fun k => num_divisor.l0 k (m : Int) (n : Int)) (mx (Nat.gcd m n : Nat) 1) := by
  intro n
  induction n using Nat.strongRecOn with
  | ind n ih =>
    intro m
    by_cases h : n = 0
    · subst h
      refine Ev.step (f := fun _ => some (mx (m : Int) 1)) (fun k => ?_) (by rw [Nat.gcd_zero_right]; exact Ev.now _)
      show (if (0 : Int) > 0 then _ else _) = _
      rfl
    · refine Ev.step (f := fun k => num_divisor.l0 k (n : Int) ((m % n : Nat) : Int)) (fun k => ?_) ?_
      · show (if (n : Int) > 0 then (if (n : Int) = 0 then none else num_divisor.l0 k (n : Int) (Int.tmod m n)) else _) = _
        rw [if_pos (by omega), if_neg (by omega)]
        rfl
      · have := ih (m % n) (Nat.mod_lt _ (by omega)) n
        rwa [Nat.gcd_comm n, ← Nat.gcd_rec, Nat.gcd_comm n] at this
theorem ev_divisor {n d : Int} (hn : -9223372036854775807 ≤ n) (hn' : n ≤ 9223372036854775807) (hd : -9223372036854775807 ≤ d) (hd' : d ≤ 9223372036854775807) (h0 : d ≠ 0) :
    Ev (fun k => num_divisor.f k n d) (Int.gcd n d) := by
  have h := divisor_loop d.natAbs n.natAbs
  rw [mx_nat _ (Nat.gcd_pos_of_pos_right _ (by omega))] at h
  refine Ev.congr (fun k => ?_) h
  show num_divisor.l0 k _ _ = _
  rw [mx_abs hn hn', mx_abs hd hd']
theorem of2_loop : ∀ (n m : Nat), 0 < Nat.gcd m n → Ev (fun k => withyref01_Of2.l0 k (m : Int) (n : Int)) ((Nat.gcd m n : Nat) : Int) := by
  intro n
  induction n using Nat.strongRecOn with
  | ind n ih =>
    intro m hp
    by_cases h : n = 0
    · subst h
      rw [Nat.gcd_zero_right] at hp ⊢
      refine Ev.step (f := fun _ => some ((m : Int))) (fun k => ?_) (Ev.now _)
      show (if (0 : Int) > 0 then _ else if (m : Int) = 0 then _ else _) = _
      rw [if_neg (by omega), if_neg (by omega)]
    · have hr : Nat.gcd n (m % n) = Nat.gcd m n := by rw [Nat.gcd_comm n, ← Nat.gcd_rec, Nat.gcd_comm n]
      refine Ev.step (f := fun k => withyref01_Of2.l0 k (n : Int) ((m % n : Nat) : Int)) (fun k => ?_) ?_
      · show (if (n : Int) > 0 then (if (n : Int) = 0 then none else withyref01_Of2.l0 k (n : Int) (Int.tmod m n)) else _) = _
        rw [if_pos (by omega), if_neg (by omega)]
        rfl
      · have := ih (m % n) (Nat.mod_lt _ (by omega)) n (by rw [hr]; exact hp)
        rwa [hr] at this
theorem ev_of2 {n d : Int} (hn : -9223372036854775807 ≤ n) (hn' : n ≤ 9223372036854775807) (hd : -9223372036854775807 ≤ d) (hd' : d ≤ 9223372036854775807) (h0 : d ≠ 0) :
    Ev (fun k => withyref01_Of2.f k n d) (Int.gcd n d) := by
  have h := of2_loop d.natAbs n.natAbs (Nat.gcd_pos_of_pos_right _ (by omega))
  have h2 : Ev (fun k => withyref01_Of2.j0 k (n.natAbs : Int) d) (Int.gcd n d) := by
    by_cases c : d < 0
    · refine Ev.step (f := fun k => withyref01_Of2.j1 k (n.natAbs : Int) (wrap64 (-d))) (fun k => ?_) (Ev.step (f := fun k => withyref01_Of2.l0 k (n.natAbs : Int) (wrap64 (-d))) (fun k => rfl) ?_)
      · show (if d < 0 then _ else _) = _
        rw [if_pos c]
      · rw [w64 (by omega) (by omega), show -d = (d.natAbs : Int) by omega]
        exact h
    · refine Ev.step (f := fun k => withyref01_Of2.j1 k (n.natAbs : Int) d) (fun k => ?_) (Ev.step (f := fun k => withyref01_Of2.l0 k (n.natAbs : Int) d) (fun k => rfl) ?_)
      · show (if d < 0 then _ else _) = _
        rw [if_neg c]
      · have e : d = (d.natAbs : Int) := by omega
        have h' := h
        rw [← e] at h'
        exact h'
  refine Ev.congr (fun k => ?_) h2
  unfold withyref01_Of2.f
  by_cases c : n < 0
  · rw [if_pos c, w64 (by omega) (by omega), show -n = (n.natAbs : Int) by omega]
  · rw [if_neg c]
    congr 1
    omega
/-- the error of a number -/
def Chk (n d : Int) : Int := if (1 ≤ d ∧ d ≤ 1000000000) ∧ (-1000000000 ≤ n ∧ n ≤ 1000000000) then (if Int.gcd n d > 1 then 1 else 0) else 3
theorem in_f (a b c : Int) : withyref01_In.f a b c = some (decide (b ≤ a ∧ a ≤ c)) := by
  unfold withyref01_In.f
  by_cases h : b ≤ a <;> simp [h]
theorem within_1 (a b n : Int) : num_within.f a b [n] = some (decide (a ≤ n ∧ n ≤ b)) := by
  unfold num_within.f
  simp
theorem ev_check (n d : Int) : Ev (fun k => num_Check.f k n d) (Chk n d) := by
  unfold num_Check.f Chk
  simp only [within_1, Option.bind_some]
  by_cases c : 1 ≤ d ∧ d ≤ 1000000000
  · by_cases c' : -1000000000 ≤ n ∧ n ≤ 1000000000
    · simp only [c, c', and_self, decide_true, if_true, Bool.not_true]
      refine Ev.step (f := fun k => (num_divisor.f k n d).bind fun t => if t > 1 then some 1 else some 0) (fun k => rfl) ?_
      · refine Ev.bind (ev_divisor (by omega) (by omega) (by omega) (by omega) (by omega)) ?_
        by_cases g : Int.gcd n d > 1
        · have g' : ((Int.gcd n d : Nat) : Int) > 1 := by omega
          simp only [g, g', if_true]
          exact Ev.now _
        · have g' : ¬ ((Int.gcd n d : Nat) : Int) > 1 := by omega
          simp only [g, g', if_false]
          exact Ev.now _
    · simp only [c, c', and_self, and_false, decide_true, decide_false, if_true, Bool.not_false, if_false]
      exact Ev.step (f := fun _ => some 3) (fun k => rfl) (Ev.now _)
  · simp only [c, false_and, decide_false, Bool.false_eq_true, if_false]
    exact Ev.step (f := fun _ => some 3) (fun k => rfl) (Ev.now _)
theorem ev_rcheck (n d : Int) : Ev (fun k => withyref01_Check.f k n d) (Chk n d) := by
  unfold withyref01_Check.f Chk
  simp only [in_f, Option.bind_some]
  by_cases c : 1 ≤ d ∧ d ≤ 1000000000
  · by_cases c' : -1000000000 ≤ n ∧ n ≤ 1000000000
    · simp only [c, c', and_self, decide_true, if_true, Bool.not_true]
      refine Ev.step (f := fun k => (withyref01_Of2.f k n d).bind fun t => if t > 1 then some 1 else some 0) (fun k => rfl) ?_
      · refine Ev.bind (ev_of2 (by omega) (by omega) (by omega) (by omega) (by omega)) ?_
        by_cases g : Int.gcd n d > 1
        · have g' : ((Int.gcd n d : Nat) : Int) > 1 := by omega
          simp only [g, g', if_true]
          exact Ev.now _
        · have g' : ¬ ((Int.gcd n d : Nat) : Int) > 1 := by omega
          simp only [g, g', if_false]
          exact Ev.now _
    · simp only [c, c', and_self, and_false, decide_true, decide_false, if_true, Bool.not_false, if_false]
      exact Ev.step (f := fun _ => some 3) (fun k => rfl) (Ev.now _)
  · simp only [c, false_and, decide_false, Bool.false_eq_true, if_false]
    exact Ev.step (f := fun _ => some 3) (fun k => rfl) (Ev.now _)
def Rn (n d : Int) : Int := (if d < 0 then -n else n) / (Int.gcd n d : Int)
def Rd (n d : Int) : Int := (if d < 0 then -d else d) / (Int.gcd n d : Int)
def Fits (n d : Int) : Prop := Rd n d ≤ 1000000000 ∧ (-1000000000 ≤ Rn n d ∧ Rn n d ≤ 1000000000)
instance (n d : Int) : Decidable (Fits n d) := inferInstanceAs (Decidable (_ ∧ _))
def Low (n d : Int) : Int × Int × Int := if Fits n d then (Rn n d, Rd n d, 0) else (0, 0, 8)
def NumE (n d : Int) : Except Int (Int × Int) := if Fits n d then .ok (Rn n d, Rd n d) else .error 0
theorem gcd_pos {n d : Int} (h : d ≠ 0) : 0 < Int.gcd n d := Nat.gcd_pos_of_pos_right _ (by omega)
theorem le_div {a : Int} {g : Nat} (hg : 0 < g) {b : Int} (h : -b ≤ a) (h' : a ≤ b) : -b ≤ a / (g : Int) ∧ a / (g : Int) ≤ b := by
  have hb : 0 ≤ b := by omega
  refine ⟨?_, ?_⟩
  · have : -b ≤ (-b) / (g : Int) := by
      have := Int.le_ediv_of_mul_le (a := -b) (b := -b) (c := (g : Int)) (by omega) (by
        have : (1 : Int) ≤ g := by omega
        have := Int.mul_le_mul_of_nonneg_left this hb
        have e : -b * (g : Int) = -(b * g) := by rw [Int.neg_mul]
        omega)
      exact this
    exact Int.le_trans this (Int.ediv_le_ediv (by omega) h)
  · exact Int.le_trans (Int.ediv_le_ediv (by omega) h') (Int.ediv_le_self _ hb)
theorem core_num (n d : Int) (hn : -9223372036854775807 ≤ n) (hn' : n ≤ 9223372036854775807) (hd : -9223372036854775807 ≤ d) (hd' : d ≤ 9223372036854775807) (h0 : d ≠ 0) :
    wrap64 (Int.tdiv (if d < 0 then wrap64 (-n) else n) (Int.gcd n d)) = Rn n d ∧ wrap64 (Int.tdiv (if d < 0 then wrap64 (-d) else d) (Int.gcd n d)) = Rd n d := by
  have hg := gcd_pos (n := n) h0
  have d1 : ((Int.gcd n d : Nat) : Int) ∣ (if d < 0 then -n else n) := by
    split
    · exact Int.dvd_neg.mpr (Int.gcd_dvd_left ..)
    · exact Int.gcd_dvd_left ..
  have d2 : ((Int.gcd n d : Nat) : Int) ∣ (if d < 0 then -d else d) := by
    split
    · exact Int.dvd_neg.mpr (Int.gcd_dvd_right ..)
    · exact Int.gcd_dvd_right ..
  have e1 : (if d < 0 then wrap64 (-n) else n) = (if d < 0 then -n else n) := by rw [w64 (by omega) (by omega)]
  have e2 : (if d < 0 then wrap64 (-d) else d) = (if d < 0 then -d else d) := by rw [w64 (by omega) (by omega)]
  rw [e1, e2, Int.tdiv_eq_ediv_of_dvd d1, Int.tdiv_eq_ediv_of_dvd d2]
  have b1 := le_div hg (a := if d < 0 then -n else n) (b := 9223372036854775807) (by split <;> omega) (by split <;> omega)
  have b2 := le_div hg (a := if d < 0 then -d else d) (b := 9223372036854775807) (by split <;> omega) (by split <;> omega)
  exact ⟨w64 (by omega) b1.2, w64 (by omega) b2.2⟩
theorem gcd_sign (n d : Int) : Int.gcd (if d < 0 then wrap64 (-n) else n) (if d < 0 then wrap64 (-d) else d) = Int.gcd n d ∨ ¬ (-9223372036854775807 ≤ n ∧ n ≤ 9223372036854775807 ∧ -9223372036854775807 ≤ d ∧ d ≤ 9223372036854775807) := by
  by_cases h : (-9223372036854775807 ≤ n ∧ n ≤ 9223372036854775807 ∧ -9223372036854775807 ≤ d ∧ d ≤ 9223372036854775807)
  · left
    rw [w64 (by omega) (by omega), w64 (by omega) (by omega)]
    split
    · rw [Int.neg_gcd, Int.gcd_neg]
    · rfl
  · exact Or.inr h
theorem ev_num {n d : Int} (hn : -9223372036854775807 ≤ n) (hn' : n ≤ 9223372036854775807) (hd : -9223372036854775807 ≤ d) (hd' : d ≤ 9223372036854775807) (h0 : d ≠ 0) :
    Ev (fun k => num_ratio_num.f k n d) (NumE n d) := by
  have hg := gcd_pos (n := n) h0
  obtain ⟨c1, c2⟩ := core_num n d hn hn' hd hd' h0
  have hs := (gcd_sign n d).resolve_right (by omega)
  refine Ev.congr (f := fun k => num_ratio_num.j0 k (if d < 0 then wrap64 (-n) else n) (if d < 0 then wrap64 (-d) else d)) (fun k => ?_) ?_
  · unfold num_ratio_num.f
    split <;> rfl
  · generalize hN : (if d < 0 then wrap64 (-n) else n) = N at *
    generalize hD : (if d < 0 then wrap64 (-d) else d) = D at *
    have hNr : -9223372036854775807 ≤ N ∧ N ≤ 9223372036854775807 := by rw [← hN, w64 (by omega) (by omega)]; split <;> omega
    have hDr : (-9223372036854775807 ≤ D ∧ D ≤ 9223372036854775807) ∧ D ≠ 0 := by rw [← hD, w64 (by omega) (by omega)]; split <;> omega
    refine Ev.step (f := fun k => (num_divisor.f k N D).bind fun t => if t = 0 then none else if wrap64 (Int.tdiv D t) > 1000000000 then some (.error (0 : Int)) else (num_within.f (-1000000000) 1000000000 [wrap64 (Int.tdiv N t)]).bind fun u => if u = true then some (.ok (ε := Int) (wrap64 (Int.tdiv N t), wrap64 (Int.tdiv D t))) else some (.error (0 : Int))) (fun k => rfl) ?_
    refine Ev.bind (ev_divisor hNr.1 hNr.2 hDr.1.1 hDr.1.2 hDr.2) ?_
    rw [hs]
    simp only [c1, c2, within_1, Option.bind_some]
    refine Ev.isNow fun k => ?_
    rw [if_neg (by omega)]
    unfold NumE
    by_cases a : Rd n d > 1000000000
    · rw [if_pos a, if_neg (fun h : Fits n d => by have := h.1; omega)]
    · rw [if_neg a]
      by_cases b : -1000000000 ≤ Rn n d ∧ Rn n d ≤ 1000000000
      · rw [if_pos (show Fits n d from ⟨by omega, b⟩)]
        simp only [b, and_self, decide_true, if_true]
      · rw [if_neg (fun h : Fits n d => b h.2)]
        simp only [b, decide_false, if_false, Bool.false_eq_true]
theorem exc_num (n d : Int) : exc (NumE n d) (fun _ => some (0, 0, 8)) (fun b => some (b.1, b.2, 0)) = some (Low n d) := by
  unfold NumE Low
  split <;> rfl
def ChkL : List S23 → Int
  | [] => 0
  | a :: l => if Chk a.f0 a.f1 = 0 then ChkL l else Chk a.f0 a.f1
theorem checked_loop (l : List S23) (hl : l.length < 9223372036854775807) : ∀ (m i : Nat), i + m = l.length → Ev (fun k => num_checked.l0 k l (l.length : Int) (i : Int)) (ChkL (l.drop i)) := by
  intro m
  induction m with
  | zero =>
    intro i hi
    rw [List.drop_of_length_le (by omega)]
    refine Ev.step (f := fun _ => some 0) (fun k => ?_) (Ev.now _)
    show (if (i : Int) < (l.length : Int) then _ else _) = _
    rw [if_neg (by omega)]
  | succ m ih =>
    intro i hi
    have hlt : i < l.length := by omega
    have hx : rd_T23 l (i : Int) = l[i] := by
      unfold rd_T23
      rw [Int.toNat_natCast, List.getD_eq_getElem?_getD, List.getElem?_eq_getElem hlt]
      rfl
    rw [List.drop_eq_getElem_cons hlt]
    refine Ev.step (f := fun k => (num_Check.f k (l[i]).f0 (l[i]).f1).bind fun t => if t = 0 then num_checked.l0 k l (l.length : Int) ((i + 1 : Nat) : Int) else some t) (fun k => ?_) ?_
    · show (if (i : Int) < (l.length : Int) then (if 0 ≤ (i : Int) then (if (i : Int) < (l.length : Int) then _ else _) else _) else _) = _
      rw [if_pos (by omega), if_pos (by omega), if_pos (by omega), hx, w64 (by omega) (by omega)]
      rfl
    · refine Ev.bind (ev_check _ _) ?_
      show Ev _ (if Chk l[i].f0 l[i].f1 = 0 then ChkL (l.drop (i + 1)) else Chk l[i].f0 l[i].f1)
      by_cases c : Chk l[i].f0 l[i].f1 = 0
      · simp only [c, if_true]
        exact ih (i + 1) (by omega)
      · simp only [c, if_false]
        exact Ev.now _
theorem ev_checked (l : List S23) (hl : l.length < 9223372036854775807) : Ev (fun k => num_checked.f k l) (ChkL l) := by
  have := checked_loop l hl l.length 0 (by omega)
  rwa [List.drop_zero] at this
def Chk2 (a b c d : Int) : Int := if Chk a b = 0 then Chk c d else Chk a b
theorem ev_checked2 (a b c d : Int) : Ev (fun k => num_checked.f k [(⟨a, b⟩ : S23), ⟨c, d⟩]) (Chk2 a b c d) := by
  have h := ev_checked [(⟨a, b⟩ : S23), ⟨c, d⟩] (by simp)
  have e : ChkL [(⟨a, b⟩ : S23), ⟨c, d⟩] = Chk2 a b c d := by
    show (if Chk a b = 0 then (if Chk c d = 0 then (0 : Int) else Chk c d) else Chk a b) = _
    unfold Chk2
    by_cases x : Chk a b = 0
    · rw [if_pos x, if_pos x]
      by_cases y : Chk c d = 0
      · rw [if_pos y, y]
      · rw [if_neg y]
    · rw [if_neg x, if_neg x]
  rwa [e] at h
/-- a number's fields are in the bounds, and in lowest terms -/
structure Ok (n d : Int) : Prop where
  d1 : 1 ≤ d
  d2 : d ≤ 1000000000
  n1 : -1000000000 ≤ n
  n2 : n ≤ 1000000000
  g : Int.gcd n d = 1
theorem Chk_ok {n d : Int} : Chk n d = 0 ↔ Ok n d := by
  unfold Chk
  constructor
  · intro h
    split at h
    · rename_i c
      split at h
      · exact absurd h (by decide)
      · have := gcd_pos (n := n) (d := d) (by omega)
        exact ⟨c.1.1, c.1.2, c.2.1, c.2.2, by omega⟩
    · exact absurd h (by decide)
  · intro h
    have := h.d1; have := h.d2; have := h.n1; have := h.n2; have := h.g
    rw [if_pos (by omega), if_neg (by omega)]
theorem Chk2_ok {a b c d : Int} : Chk2 a b c d = 0 ↔ Ok a b ∧ Ok c d := by
  unfold Chk2
  rw [← Chk_ok, ← Chk_ok]
  by_cases x : Chk a b = 0
  · simp [x]
  · simp [x]
theorem Ok.mul {a b c d : Int} (h : Ok a b) (k : Ok c d) : (-1000000000000000000 ≤ a * d ∧ a * d ≤ 1000000000000000000) ∧ (-1000000000000000000 ≤ c * b ∧ c * b ≤ 1000000000000000000) ∧ (1 ≤ b * d ∧ b * d ≤ 1000000000000000000) ∧ (-1000000000000000000 ≤ a * c ∧ a * c ≤ 1000000000000000000) ∧ (-1000000000000000000 ≤ b * c ∧ b * c ≤ 1000000000000000000) := by
  have bd : ∀ x y : Int, -1000000000 ≤ x → x ≤ 1000000000 → -1000000000 ≤ y → y ≤ 1000000000 → -1000000000000000000 ≤ x * y ∧ x * y ≤ 1000000000000000000 := by
    intro x y h1 h2 h3 h4
    have a1 : x.natAbs ≤ 1000000000 := by omega
    have a2 : y.natAbs ≤ 1000000000 := by omega
    have a3 := Nat.mul_le_mul a1 a2
    rw [← Int.natAbs_mul] at a3
    omega
  have := h.d1; have := h.d2; have := h.n1; have := h.n2; have := k.d1; have := k.d2; have := k.n1; have := k.n2
  refine ⟨bd _ _ (by omega) (by omega) (by omega) (by omega), bd _ _ (by omega) (by omega) (by omega) (by omega), ⟨?_, (bd b d (by omega) (by omega) (by omega) (by omega)).2⟩, bd _ _ (by omega) (by omega) (by omega) (by omega), bd _ _ (by omega) (by omega) (by omega) (by omega)⟩
  have := Int.mul_le_mul h.d1 k.d1 (by omega) (by omega)
  omega
def AddR (a b c d : Int) : Int × Int × Int := if Chk2 a b c d = 0 then Low (a * d + c * b) (b * d) else (0, 0, Chk2 a b c d)
def MulR (a b c d : Int) : Int × Int × Int := if Chk2 a b c d = 0 then Low (a * c) (b * d) else (0, 0, Chk2 a b c d)
theorem reck {opf : Int → Int → Int → Int → Option (Int × Int)} {dv : Bool} {a b c d : Int} {R : Int × Int × Int} {N D : Int}
    (hop : Ok a b → Ok c d → ¬ (dv = true ∧ c = 0) → opf a b c d = some (N, D) ∧ (-9223372036854775807 ≤ N ∧ N ≤ 9223372036854775807) ∧ (-9223372036854775807 ≤ D ∧ D ≤ 9223372036854775807) ∧ D ≠ 0)
    (hR : R = if Chk2 a b c d = 0 then (if dv = true ∧ c = 0 then (0, 0, 10) else Low N D) else (0, 0, Chk2 a b c d)) : Ev (fun k => num_reckon.g opf dv k a b c d) R := by
  subst hR
  unfold num_reckon.g
  refine Ev.bind (ev_checked2 a b c d) ?_
  by_cases x : Chk2 a b c d = 0
  · simp only [x, if_true]
    by_cases y : dv = true ∧ c = 0
    · simp only [y, and_self, if_true]
      exact Ev.now _
    · simp only [y, if_false]
      obtain ⟨h1, h2⟩ := Chk2_ok.mp x
      obtain ⟨e, n1, d1, d0⟩ := hop h1 h2 y
      simp only [e, Option.bind_some]
      refine Ev.bind (ev_num n1.1 n1.2 d1.1 d1.2 d0) ?_
      rw [exc_num]
      exact Ev.now _
  · simp only [x, if_false]
    exact Ev.now _
theorem ev_three {g : Nat → Option (Int × Int × Int)} {R : Int × Int × Int} (h : Ev g R) : Ev (fun k => (g k).bind fun b => some (b.1, b.2.1, b.2.2)) R :=
  Ev.bind h (Ev.now _)
theorem ev_Add (a b c d : Int) : Ev (fun k => num_Add.f k a b c d) (AddR a b c d) := by
  refine ev_three (Ev.congr (f := fun k => num_reckon.g num_ratio_plus.f false k a b c d) (fun k => rfl) (reck (N := a * d + c * b) (D := b * d) (fun h k _ => ?_) ?_))
  · have := h.mul k
    refine ⟨?_, by omega, by omega, by omega⟩
    unfold num_ratio_plus.f
    rw [w64 (n := a * d) (by omega) (by omega), w64 (n := c * b) (by omega) (by omega), w64 (by omega) (by omega), w64 (by omega) (by omega)]
  · simp [AddR]
theorem ev_Mul (a b c d : Int) : Ev (fun k => num_Mul.f k a b c d) (MulR a b c d) := by
  refine ev_three (Ev.congr (f := fun k => num_reckon.g num_ratio_times.f false k a b c d) (fun k => rfl) (reck (N := a * c) (D := b * d) (fun h k _ => ?_) ?_))
  · have := h.mul k
    refine ⟨?_, by omega, by omega, by omega⟩
    unfold num_ratio_times.f
    rw [w64 (n := a * c) (by omega) (by omega), w64 (by omega) (by omega)]
  · simp [MulR]
def CmpV (a b c d : Int) : Int := if a * d < c * b then -1 else if a * d > c * b then 1 else 0
def CmpR (a b c d : Int) : Int × Int := if Chk2 a b c d = 0 then (CmpV a b c d, 0) else (0, Chk2 a b c d)
theorem compare_f (x y : Int) : cmp_Compare_int.f x y = some (if x < y then -1 else if x > y then 1 else 0) := by
  unfold cmp_Compare_int.f cmp_isNaN_int.f
  simp only [bne_self_eq_false, Option.bind_some, Bool.false_eq_true, if_false]
  by_cases h : x < y
  · rw [if_pos h, if_pos h]
  · rw [if_neg h, if_neg h]
    by_cases k : x > y
    · rw [if_pos k, if_pos k]
    · rw [if_neg k, if_neg k]
theorem ratio_compare {a b c d : Int} (h : Ok a b) (k : Ok c d) : num_ratio_compare.f a b c d = some (CmpV a b c d) := by
  have := h.mul k
  unfold num_ratio_compare.f
  rw [w64 (n := a * d) (by omega) (by omega), w64 (n := c * b) (by omega) (by omega), compare_f]
  rfl
theorem ev_Cmp (a b c d : Int) : Ev (fun k => num_Cmp.f k a b c d) (CmpR a b c d) := by
  unfold num_Cmp.f CmpR
  refine Ev.bind (ev_checked2 a b c d) ?_
  by_cases x : Chk2 a b c d = 0
  · simp only [x, if_true]
    obtain ⟨h1, h2⟩ := Chk2_ok.mp x
    unfold num_of.f
    simp only [Option.bind_some, ratio_compare h1 h2]
    exact Ev.now _
  · simp only [x, if_false]
    exact Ev.now _
def NegR (n d : Int) : Int × Int × Int := if Chk n d = 0 then (-n, d, 0) else (0, 0, Chk n d)
theorem ev_Neg (n d : Int) : Ev (fun k => num_Neg.f k n d) (NegR n d) := by
  unfold num_Neg.f NegR
  refine Ev.bind (ev_check n d) ?_
  by_cases x : Chk n d = 0
  · simp only [x, if_true]
    have := (Chk_ok.mp x).n1; have := (Chk_ok.mp x).n2
    rw [w64 (by omega) (by omega)]
    exact Ev.now _
  · simp only [x, if_false]
    exact Ev.now _
theorem Chk2_zero {a b c d : Int} (h : Ok a b) (k : Ok c d) : Chk2 a b c d = 0 := Chk2_ok.mpr ⟨h, k⟩
def FitQ (q : Rat) : Prop := (q.den : Int) ≤ 1000000000 ∧ (-1000000000 ≤ q.num ∧ q.num ≤ 1000000000)
instance (q : Rat) : Decidable (FitQ q) := inferInstanceAs (Decidable (_ ∧ _))
def LowQ (q : Rat) : Int × Int × Int := if FitQ q then (q.num, (q.den : Int), 0) else (0, 0, 8)
theorem Rn_q {n d : Int} (h0 : d ≠ 0) : Rn n d = (Rat.divInt n d).num ∧ Rd n d = ((Rat.divInt n d).den : Int) := by
  rw [Rat.num_divInt, Rat.den_divInt, if_neg h0, Int.gcd_comm d n]
  unfold Rn Rd
  refine ⟨?_, ?_⟩
  · congr 1
    split
    · rename_i h
      rw [Int.sign_eq_neg_one_of_neg h, Int.neg_one_mul]
    · rw [Int.sign_eq_one_of_pos (by omega), Int.one_mul]
  · rw [Int.natCast_ediv]
    congr 1
    split <;> omega
theorem Low_q {n d : Int} (h0 : d ≠ 0) : Low n d = LowQ (Rat.divInt n d) := by
  obtain ⟨e1, e2⟩ := Rn_q (n := n) h0
  unfold Low LowQ
  have : Fits n d ↔ FitQ (Rat.divInt n d) := by
    unfold Fits FitQ
    rw [e1, e2]
  by_cases c : Fits n d
  · rw [if_pos c, if_pos (this.mp c), e1, e2]
  · rw [if_neg c, if_neg (fun h => c (this.mpr h))]
theorem ok_q {q : Rat} (h : FitQ q) : Ok q.num q.den := by
  have := q.den_pos
  refine ⟨by omega, h.1, h.2.1, h.2.2, ?_⟩
  have := q.reduced
  unfold Nat.Coprime at this
  exact this
theorem q_ok {n d : Int} (h : Ok n d) : ∃ q, FitQ q ∧ n = q.num ∧ d = (q.den : Int) := by
  have h0 : d ≠ 0 := by have := h.d1; omega
  obtain ⟨e1, e2⟩ := Rn_q (n := n) h0
  have g := h.g
  have r1 : Rn n d = n := by
    unfold Rn
    rw [g, if_neg (by have := h.d1; omega)]
    exact Int.ediv_one n
  have r2 : Rd n d = d := by
    unfold Rd
    rw [g, if_neg (by have := h.d1; omega)]
    exact Int.ediv_one d
  refine ⟨Rat.divInt n d, ⟨?_, ?_⟩, by rw [← e1, r1], by rw [← e2, r2]⟩
  · rw [← e2, r2]; exact h.d2
  · rw [← e1, r1]; exact ⟨h.n1, h.n2⟩
theorem den_ne (q : Rat) : (q.den : Int) ≠ 0 := by have := q.den_pos; omega
theorem Chk2_q {p q : Rat} (hp : FitQ p) (hq : FitQ q) : Chk2 p.num p.den q.num q.den = 0 := Chk2_zero (ok_q hp) (ok_q hq)
theorem AddQ {p q : Rat} (hp : FitQ p) (hq : FitQ q) : AddR p.num p.den q.num q.den = LowQ (p + q) := by
  unfold AddR
  rw [if_pos (Chk2_q hp hq), Low_q (Int.mul_ne_zero (den_ne p) (den_ne q)), ← Rat.divInt_add_divInt _ _ (den_ne p) (den_ne q), Rat.num_divInt_den, Rat.num_divInt_den]
theorem MulQ {p q : Rat} (hp : FitQ p) (hq : FitQ q) : MulR p.num p.den q.num q.den = LowQ (p * q) := by
  unfold MulR
  rw [if_pos (Chk2_q hp hq), Low_q (Int.mul_ne_zero (den_ne p) (den_ne q)), ← Rat.divInt_mul_divInt, Rat.num_divInt_den, Rat.num_divInt_den]
def cmpQ (p q : Rat) : Int := if p < q then -1 else if q < p then 1 else 0
theorem CmpQ {p q : Rat} (hp : FitQ p) (hq : FitQ q) : CmpR p.num p.den q.num q.den = (cmpQ p q, 0) := by
  unfold CmpR CmpV cmpQ
  rw [if_pos (Chk2_q hp hq)]
  simp only [Rat.lt_iff]
theorem NegQ {p : Rat} (hp : FitQ p) : NegR p.num p.den = ((-p).num, ((-p).den : Int), 0) := by
  unfold NegR
  rw [if_pos (Chk_ok.mpr (ok_q hp)), Rat.neg_num, Rat.neg_den]
theorem FitQ.neg {p : Rat} (hp : FitQ p) : FitQ (-p) := by
  unfold FitQ at *
  rw [Rat.neg_num, Rat.neg_den]
  omega
theorem LowQ_fit {q : Rat} (h : FitQ q) : LowQ q = (q.num, (q.den : Int), 0) := if_pos h
theorem LowQ_no {q : Rat} (h : ¬ FitQ q) : LowQ q = (0, 0, 8) := if_neg h
theorem eqQ (p q : Rat) : (p.num == q.num && ((p.den : Int) == (q.den : Int))) = decide (p = q) := by
  by_cases h : p = q
  · subst h
    simp
  · rw [decide_eq_false h]
    by_cases a : p.num = q.num
    · by_cases b : p.den = q.den
      · exact absurd (Rat.ext a b) h
      · simp [a]
        omega
    · simp [a]
theorem lt_trans_q {a b c : Rat} (h : a < b) (k : b < c) : a < c := by
  rcases Rat.le_iff_lt_or_eq.mp (Rat.le_trans (Rat.le_of_lt h) (Rat.le_of_lt k)) with x | x
  · exact x
  · subst x
    exact absurd h (Rat.not_lt.mpr (Rat.le_of_lt k))
theorem tri (p q : Rat) : p < q ∧ ¬ q < p ∧ p ≠ q ∨ q < p ∧ ¬ p < q ∧ p ≠ q ∨ p = q ∧ ¬ p < q ∧ ¬ q < p := by
  rcases Rat.le_total (a := p) (b := q) with h | h
  · rcases Rat.le_iff_lt_or_eq.mp h with a | a
    · exact Or.inl ⟨a, Rat.not_lt.mpr h, fun e => by subst e; exact Rat.lt_irrefl a⟩
    · subst a; exact Or.inr (Or.inr ⟨rfl, Rat.lt_irrefl, Rat.lt_irrefl⟩)
  · rcases Rat.le_iff_lt_or_eq.mp h with a | a
    · exact Or.inr (Or.inl ⟨a, Rat.not_lt.mpr h, fun e => by subst e; exact Rat.lt_irrefl a⟩)
    · subst a; exact Or.inr (Or.inr ⟨rfl, Rat.lt_irrefl, Rat.lt_irrefl⟩)
theorem cmpQ_lt {p q : Rat} (h : p < q) : cmpQ p q = -1 := if_pos h
theorem cmpQ_gt {p q : Rat} (h : q < p) : cmpQ p q = 1 := by
  unfold cmpQ
  rw [if_neg (Rat.not_lt.mpr (Rat.le_of_lt h)), if_pos h]
theorem cmpQ_eq (p : Rat) : cmpQ p p = 0 := by
  unfold cmpQ
  rw [if_neg Rat.lt_irrefl, if_neg Rat.lt_irrefl]
theorem cmpQ_mono {p q p' q' : Rat} (h1 : p < q → p' < q') (h2 : q < p → q' < p') (h3 : p = q → p' = q') : cmpQ p' q' = cmpQ p q := by
  rcases tri p q with ⟨a, _⟩ | ⟨a, _⟩ | ⟨a, _⟩
  · rw [cmpQ_lt a, cmpQ_lt (h1 a)]
  · rw [cmpQ_gt a, cmpQ_gt (h2 a)]
  · subst a
    rw [h3 rfl, cmpQ_eq, cmpQ_eq]
theorem cmpQ_swap (p q : Rat) : cmpQ p q = -cmpQ q p := by
  rcases tri p q with ⟨a, _⟩ | ⟨a, _⟩ | ⟨a, _⟩
  · rw [cmpQ_lt a, cmpQ_gt a]
  · rw [cmpQ_gt a, cmpQ_lt a]
    rfl
  · subst a
    rw [cmpQ_eq]
    rfl
theorem cmpQ_range (p q : Rat) : cmpQ p q = -1 ∨ cmpQ p q = 0 ∨ cmpQ p q = 1 := by
  rcases tri p q with ⟨a, _⟩ | ⟨a, _⟩ | ⟨a, _⟩
  · exact Or.inl (cmpQ_lt a)
  · exact Or.inr (Or.inr (cmpQ_gt a))
  · subst a
    exact Or.inr (Or.inl (cmpQ_eq p))
theorem cmpQ_zero (p q : Rat) : (cmpQ p q == 0) = decide (p = q) := by
  rcases tri p q with ⟨a, _, c⟩ | ⟨a, _, c⟩ | ⟨a, _⟩
  · rw [cmpQ_lt a, decide_eq_false c]
    rfl
  · rw [cmpQ_gt a, decide_eq_false c]
    rfl
  · subst a
    rw [cmpQ_eq, decide_eq_true rfl]
    rfl
theorem cmpQ_trans {p q r : Rat} (h : cmpQ p q = cmpQ q r) : cmpQ p r = cmpQ p q := by
  rcases tri p q with ⟨a, _⟩ | ⟨a, _⟩ | ⟨a, _⟩
  · rw [cmpQ_lt a] at h ⊢
    rcases tri q r with ⟨b, _⟩ | ⟨b, _⟩ | ⟨b, _⟩
    · exact cmpQ_lt (lt_trans_q a b)
    · rw [cmpQ_gt b] at h
      exact absurd h (by decide)
    · subst b
      exact cmpQ_lt a
  · rw [cmpQ_gt a] at h ⊢
    rcases tri q r with ⟨b, _⟩ | ⟨b, _⟩ | ⟨b, _⟩
    · rw [cmpQ_lt b] at h
      exact absurd h (by decide)
    · exact cmpQ_gt (lt_trans_q b a)
    · subst b
      exact cmpQ_gt a
  · subst a
    exact h.symm
theorem ev_fit (a b c d e f : Int) : Ev (fun k => withylaw01_fit.f k a b c d e f) (decide (Chk a b = 0 ∧ Chk c d = 0 ∧ Chk e f = 0)) := by
  unfold withylaw01_fit.f
  refine Ev.bind (ev_rcheck a b) ?_
  by_cases x : Chk a b = 0
  · simp only [x, if_true, true_and]
    refine Ev.bind (ev_rcheck c d) ?_
    by_cases y : Chk c d = 0
    · simp only [y, if_true, true_and]
      refine Ev.bind (ev_rcheck e f) ?_
      by_cases z : Chk e f = 0
      · simp only [z, decide_true, beq_self_eq_true]
        exact Ev.now _
      · rw [decide_eq_false z, beq_eq_false_iff_ne.mpr z]
        exact Ev.now _
    · simp only [y, if_false, false_and, decide_false]
      exact Ev.now _
  · simp only [x, if_false, false_and, decide_false]
    exact Ev.now _
set_option maxRecDepth 100000 in
theorem summed_at : withylaw01_summed.f 60 = some true := by kernel_rfl
theorem ev_summed : Ev (fun k => withylaw01_summed.f k) true := Ev.of (fun k => withylaw01_summed.mono k) summed_at
theorem ord4 {p q : Rat} (hp : FitQ p) (hq : FitQ q) : Ev (fun k => withylaw01_NumOrder.j4 k (cmpQ q p) p.num p.den q.num q.den) true := by
  refine Ev.step (f := fun k => (num_Neg.f k p.num p.den).bind fun b => (num_Neg.f k q.num q.den).bind fun c => (num_Cmp.f k b.1 b.2.1 c.1 c.2.1).bind fun d => if b.2.2 = 0 then (if c.2.2 = 0 then (if d.2 = 0 then (if d.1 = cmpQ q p then ((withylaw01_summed.f k).bind fun t => some t) else some false) else some false) else some false) else some false) (fun k => rfl) ?_
  refine Ev.bind (ev_Neg _ _) (Ev.bind (ev_Neg _ _) (Ev.bind (ev_Cmp _ _ _ _) ?_))
  rw [NegQ hp, NegQ hq]
  simp only [CmpQ hp.neg hq.neg, if_true]
  have e : cmpQ (-p) (-q) = cmpQ q p := cmpQ_mono (fun h => Rat.neg_lt_neg h) (fun h => Rat.neg_lt_neg h) (fun h => by rw [h])
  simp only [e, if_true]
  exact Ev.bind ev_summed (Ev.now _)
theorem ord3 {p q : Rat} (hp : FitQ p) (hq : FitQ q) (b : Bool) {x y : Int × Int × Int} (h : b = true → ∃ u v, FitQ u ∧ FitQ v ∧ x = (u.num, (u.den : Int), 0) ∧ y = (v.num, (v.den : Int), 0) ∧ cmpQ u v = cmpQ p q) :
    Ev (fun k => withylaw01_NumOrder.j3 k (cmpQ p q) (cmpQ q p) b p.num p.den q.num q.den x.1 x.2.1 y.1 y.2.1) true := by
  cases b with
  | false => exact Ev.step (f := fun k => withylaw01_NumOrder.j4 k (cmpQ q p) p.num p.den q.num q.den) (fun k => rfl) (ord4 hp hq)
  | true =>
    obtain ⟨u, v, hu, hv, rfl, rfl, e⟩ := h rfl
    refine Ev.step (f := fun k => (num_Cmp.f k u.num u.den v.num v.den).bind fun d => if d.2 = 0 then (if d.1 = cmpQ p q then withylaw01_NumOrder.j4 k (cmpQ q p) p.num p.den q.num q.den else some false) else some false) (fun k => rfl) ?_
    refine Ev.bind (ev_Cmp _ _ _ _) ?_
    simp only [CmpQ hu hv, e, if_true]
    exact ord4 hp hq
theorem ord2 {p q r : Rat} (hp : FitQ p) (hq : FitQ q) (hr : FitQ r) : Ev (fun k => withylaw01_NumOrder.j2 k (cmpQ p q) (cmpQ q p) p.num p.den q.num q.den r.num r.den) true := by
  refine Ev.step (f := fun k => (num_Mul.f k p.num p.den r.num r.den).bind fun b => (num_Mul.f k q.num q.den r.num r.den).bind fun c => if b.2.2 = 0 then (if c.2.2 = 0 then withylaw01_NumOrder.j3 k (cmpQ p q) (cmpQ q p) (decide (r.num > 0)) p.num p.den q.num q.den b.1 b.2.1 c.1 c.2.1 else withylaw01_NumOrder.j3 k (cmpQ p q) (cmpQ q p) false p.num p.den q.num q.den b.1 b.2.1 c.1 c.2.1) else withylaw01_NumOrder.j3 k (cmpQ p q) (cmpQ q p) false p.num p.den q.num q.den b.1 b.2.1 c.1 c.2.1) (fun k => rfl) ?_
  refine Ev.bind (ev_Mul _ _ _ _) (Ev.bind (ev_Mul _ _ _ _) ?_)
  rw [MulQ hp hr, MulQ hq hr]
  by_cases a : FitQ (p * r)
  · by_cases b : FitQ (q * r)
    · rw [LowQ_fit a, LowQ_fit b]
      simp only [if_true]
      refine ord3 hp hq _ (x := (_, _, 0)) (y := (_, _, 0)) fun h => ⟨p * r, q * r, a, b, rfl, rfl, ?_⟩
      have h0 : 0 < r := by
        rw [Rat.lt_iff]
        have := of_decide_eq_true h
        show (0 : Int) * _ < _ * 1
        omega
      exact cmpQ_mono (fun h => Rat.mul_lt_mul_of_pos_right h h0) (fun h => Rat.mul_lt_mul_of_pos_right h h0) (fun h => by rw [h])
    · rw [LowQ_no b]
      simp only [show ¬ ((8 : Int) = 0) by decide, if_false, ite_self]
      exact ord3 hp hq false (x := LowQ (p * r)) (y := (0, 0, 8)) fun h => by cases h
  · rw [LowQ_no a]
    simp only [show ¬ ((8 : Int) = 0) by decide, if_false]
    exact ord3 hp hq false (x := (0, 0, 8)) (y := LowQ (q * r)) fun h => by cases h
theorem ord1 {p q r : Rat} (hp : FitQ p) (hq : FitQ q) (hr : FitQ r) (b : Bool) {x y : Int × Int × Int} (h : b = true → ∃ u v, FitQ u ∧ FitQ v ∧ x = (u.num, (u.den : Int), 0) ∧ y = (v.num, (v.den : Int), 0) ∧ cmpQ u v = cmpQ p q) :
    Ev (fun k => withylaw01_NumOrder.j1 k (cmpQ p q) (cmpQ q p) b p.num p.den q.num q.den r.num r.den x.1 x.2.1 y.1 y.2.1) true := by
  cases b with
  | false => exact Ev.step (f := fun k => withylaw01_NumOrder.j2 k (cmpQ p q) (cmpQ q p) p.num p.den q.num q.den r.num r.den) (fun k => rfl) (ord2 hp hq hr)
  | true =>
    obtain ⟨u, v, hu, hv, rfl, rfl, e⟩ := h rfl
    refine Ev.step (f := fun k => (num_Cmp.f k u.num u.den v.num v.den).bind fun d => if d.2 = 0 then (if d.1 = cmpQ p q then withylaw01_NumOrder.j2 k (cmpQ p q) (cmpQ q p) p.num p.den q.num q.den r.num r.den else some false) else some false) (fun k => rfl) ?_
    refine Ev.bind (ev_Cmp _ _ _ _) ?_
    simp only [CmpQ hu hv, e, if_true]
    exact ord2 hp hq hr
theorem ord0 {p q r : Rat} (hp : FitQ p) (hq : FitQ q) (hr : FitQ r) : Ev (fun k => withylaw01_NumOrder.j0 k (cmpQ p q) (cmpQ q p) false p.num p.den q.num q.den r.num r.den) true := by
  refine Ev.step (f := fun k => (num_Add.f k p.num p.den r.num r.den).bind fun b => (num_Add.f k q.num q.den r.num r.den).bind fun c => if b.2.2 = 0 then withylaw01_NumOrder.j1 k (cmpQ p q) (cmpQ q p) (c.2.2 == 0) p.num p.den q.num q.den r.num r.den b.1 b.2.1 c.1 c.2.1 else withylaw01_NumOrder.j1 k (cmpQ p q) (cmpQ q p) false p.num p.den q.num q.den r.num r.den b.1 b.2.1 c.1 c.2.1) (fun k => rfl) ?_
  refine Ev.bind (ev_Add _ _ _ _) (Ev.bind (ev_Add _ _ _ _) ?_)
  rw [AddQ hp hr, AddQ hq hr]
  by_cases a : FitQ (p + r)
  · rw [LowQ_fit a]
    simp only [if_true]
    refine ord1 hp hq hr _ (x := (_, _, 0)) (y := LowQ (q + r)) fun h => ?_
    by_cases b : FitQ (q + r)
    · exact ⟨p + r, q + r, a, b, rfl, LowQ_fit b, cmpQ_mono (fun h => Rat.add_lt_add_right.mpr h) (fun h => Rat.add_lt_add_right.mpr h) (fun h => by rw [h])⟩
    · rw [LowQ_no b] at h
      exact absurd h (by decide)
  · rw [LowQ_no a]
    simp only [show ¬ ((8 : Int) = 0) by decide, if_false]
    exact ord1 hp hq hr false (x := (0, 0, 8)) (y := LowQ (q + r)) fun h => by cases h
theorem withylaw01_NumOrder.ev (a0_0 a0_1 a1_0 a1_1 a2_0 a2_1 : Int) : Ev (fun k => withylaw01_NumOrder.f k a0_0 a0_1 a1_0 a1_1 a2_0 a2_1) true := by
  unfold withylaw01_NumOrder.f
  refine Ev.bind (ev_fit a0_0 a0_1 a1_0 a1_1 a2_0 a2_1) ?_
  by_cases c : Chk a0_0 a0_1 = 0 ∧ Chk a1_0 a1_1 = 0 ∧ Chk a2_0 a2_1 = 0
  · obtain ⟨p, hp, rfl, rfl⟩ := q_ok (Chk_ok.mp c.1)
    obtain ⟨q, hq, rfl, rfl⟩ := q_ok (Chk_ok.mp c.2.1)
    obtain ⟨r, hr, rfl, rfl⟩ := q_ok (Chk_ok.mp c.2.2)
    rw [decide_eq_true c]
    simp only [if_true]
    refine Ev.bind (ev_Cmp _ _ _ _) (Ev.bind (ev_Cmp _ _ _ _) (Ev.bind (ev_Cmp _ _ _ _) (Ev.bind (ev_Cmp _ _ _ _) ?_)))
    have hs := cmpQ_swap p q
    have hw : wrap64 (-cmpQ q p) = cmpQ p q := (w64 (by rcases cmpQ_range q p with h | h | h <;> omega) (by rcases cmpQ_range q p with h | h | h <;> omega)).trans hs.symm
    have hin : (-1 ≤ cmpQ p q ∧ cmpQ p q ≤ 1) := by rcases cmpQ_range p q with h | h | h <;> omega
    rw [CmpQ hp hq, CmpQ hq hp, CmpQ hq hr, CmpQ hp hr]
    simp only [if_true, hw, in_f, Option.bind_some, hin, and_self, decide_true, cmpQ_zero, eqQ, bne_self_eq_false, Bool.false_eq_true, if_false]
    by_cases d : cmpQ p q = cmpQ q r
    · simp only [← d, if_true, cmpQ_trans d, bne_self_eq_false]
      exact ord0 hp hq hr
    · simp only [d, if_false]
      exact ord0 hp hq hr
  · rw [decide_eq_false c]
    simp only [Bool.false_eq_true, if_false]
    exact Ev.bind ev_summed (Ev.now _)
theorem withylaw01_NumOrder.pure (a0_0 a0_1 a1_0 a1_1 a2_0 a2_1 : Int) (_ : -9223372036854775808 ≤ a0_0 ∧ a0_0 ≤ 9223372036854775807) (_ : -9223372036854775808 ≤ a0_1 ∧ a0_1 ≤ 9223372036854775807) (_ : -9223372036854775808 ≤ a1_0 ∧ a1_0 ≤ 9223372036854775807) (_ : -9223372036854775808 ≤ a1_1 ∧ a1_1 ≤ 9223372036854775807) (_ : -9223372036854775808 ≤ a2_0 ∧ a2_0 ≤ 9223372036854775807) (_ : -9223372036854775808 ≤ a2_1 ∧ a2_1 ≤ 9223372036854775807) : ∃ k, withylaw01_NumOrder.f k a0_0 a0_1 a1_0 a1_1 a2_0 a2_1 = some true :=
  (withylaw01_NumOrder.ev a0_0 a0_1 a1_0 a1_1 a2_0 a2_1).rounds
end Go.Proofs.Ytakcdoahpbeckaa.H
