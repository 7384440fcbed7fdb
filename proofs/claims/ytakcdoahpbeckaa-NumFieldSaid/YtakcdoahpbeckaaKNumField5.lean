/- NumField: the plain law, without the program: what the printed functions come to. -/
import Derived.Test.YtakcdoahpbeckaaKNumField4
namespace Go.Proofs.Ytakcdoahpbeckaa.H
open Go.RowKit Go.Proofs.YtakcdoahpbeckaaW.PrintWords Go.Proofs.YtakcdoahpbeckaaW.PrintLast Go.Proofs.YtakcdoahpbeckaaW.PrintMore
attribute [local go_sem] max2_int min2_int max_two min_two max_three min_three max_four min_four   -- for this text's walks alone
set_option linter.unusedVariables false
set_option linter.unusedSimpArgs false

/-! ### the text VNumField -/
theorem w64 {n : Int} (h : -9223372036854775808 ≤ n) (h' : n ≤ 9223372036854775807) : wrap64 n = n := by unfold wrap64; omega
theorem Ev.isNow {α : Type} {g : Nat → Option α} {r : α} (h : ∀ k, g k = some r) : Ev g r := ⟨0, fun k _ => h k⟩
theorem mx_nat (g : Nat) (h : 0 < g) : mx (g : Int) 1 = g := by unfold mx; split <;> omega
theorem mx_abs {n : Int} (h : -9223372036854775807 ≤ n) (h' : n ≤ 9223372036854775807) : mx n (wrap64 (-n)) = (n.natAbs : Int) := by
  rw [w64 (by omega) (by omega)]
  unfold mx
  split <;> omega
theorem divisor_loop : ∀ (n m : Nat), Ev (fun k => num_divisor.l0 k (m : Int) (n : Int)) (mx (Nat.gcd m n : Nat) 1) := by
  intro n
  induction n using Nat.strongRecOn with
  | ind n ih =>
    intro m
    by_cases h : n = 0
    · subst h
      refine Ev.step (f := fun _ => some (mx (m : Int) 1)) (fun k => ?_) (by rw [Nat.gcd_zero_right]; exact Ev.now _)
      show (if (0 : Int) > 0 then _ else _) = _
      rfl
    · refine Ev.step (f := fun k => num_divisor.l0 k (n : Int) ((m % n : Nat) : Int)) (fun k => ?_) ?_
      · show (if (n : Int) > 0 then (if (n : Int) = 0 then none else num_divisor.l0 k (n : Int) (Int.tmod m n)) else _) = _
        rw [if_pos (by omega), if_neg (by omega)]
        rfl
      · have := ih (m % n) (Nat.mod_lt _ (by omega)) n
        rwa [Nat.gcd_comm n, ← Nat.gcd_rec, Nat.gcd_comm n] at this
theorem ev_divisor {n d : Int} (hn : -9223372036854775807 ≤ n) (hn' : n ≤ 9223372036854775807) (hd : -9223372036854775807 ≤ d) (hd' : d ≤ 9223372036854775807) (h0 : d ≠ 0) :
    Ev (fun k => num_divisor.f k n d) (Int.gcd n d) := by
  have h := divisor_loop d.natAbs n.natAbs
  rw [mx_nat _ (Nat.gcd_pos_of_pos_right _ (by omega))] at h
  refine Ev.congr (fun k => ?_) h
  show num_divisor.l0 k _ _ = _
  rw [mx_abs hn hn', mx_abs hd hd']
theorem of2_loop : ∀ (n m : Nat), 0 < Nat.gcd m n → Ev (fun k => withyref01_Of2.l0 k (m : Int) (n : Int)) ((Nat.gcd m n : Nat) : Int) := by
  intro n
  induction n using Nat.strongRecOn with
  | ind n ih =>
    intro m hp
    by_cases h : n = 0
    · subst h
      rw [Nat.gcd_zero_right] at hp ⊢
      refine Ev.step (f := fun _ => some ((m : Int))) (fun k => ?_) (Ev.now _)
      show (if (0 : Int) > 0 then _ else if (m : Int) = 0 then _ else _) = _
      rw [if_neg (by omega), if_neg (by omega)]
    · have hr : Nat.gcd n (m % n) = Nat.gcd m n := by rw [Nat.gcd_comm n, ← Nat.gcd_rec, Nat.gcd_comm n]
      refine Ev.step (f := fun k => withyref01_Of2.l0 k (n : Int) ((m % n : Nat) : Int)) (fun k => ?_) ?_
      · show (if (n : Int) > 0 then (if (n : Int) = 0 then none else withyref01_Of2.l0 k (n : Int) (Int.tmod m n)) else _) = _
        rw [if_pos (by omega), if_neg (by omega)]
        rfl
      · have := ih (m % n) (Nat.mod_lt _ (by omega)) n (by rw [hr]; exact hp)
        rwa [hr] at this
theorem ev_of2 {n d : Int} (hn : -9223372036854775807 ≤ n) (hn' : n ≤ 9223372036854775807) (hd : -9223372036854775807 ≤ d) (hd' : d ≤ 9223372036854775807) (h0 : d ≠ 0) :
    Ev (fun k => withyref01_Of2.f k n d) (Int.gcd n d) := by
  have h := of2_loop d.natAbs n.natAbs (Nat.gcd_pos_of_pos_right _ (by omega))
  have h2 : Ev (fun k => withyref01_Of2.j0 k (n.natAbs : Int) d) (Int.gcd n d) := by
    by_cases c : d < 0
    · refine Ev.step (f := fun k => withyref01_Of2.j1 k (n.natAbs : Int) (wrap64 (-d))) (fun k => ?_) (Ev.step (f := fun k => withyref01_Of2.l0 k (n.natAbs : Int) (wrap64 (-d))) (fun k => rfl) ?_)
      · show (if d < 0 then _ else _) = _
        rw [if_pos c]
      · rw [w64 (by omega) (by omega), show -d = (d.natAbs : Int) by omega]
        exact h
    · refine Ev.step (f := fun k => withyref01_Of2.j1 k (n.natAbs : Int) d) (fun k => ?_) (Ev.step (f := fun k => withyref01_Of2.l0 k (n.natAbs : Int) d) (fun k => rfl) ?_)
      · show (if d < 0 then _ else _) = _
        rw [if_neg c]
      · have e : d = (d.natAbs : Int) := by omega
        have h' := h
        rw [← e] at h'
        exact h'
  refine Ev.congr (fun k => ?_) h2
  unfold withyref01_Of2.f
  by_cases c : n < 0
  · rw [if_pos c, w64 (by omega) (by omega), show -n = (n.natAbs : Int) by omega]
  · rw [if_neg c]
    congr 1
    omega
/-- the error of a number -/
def Chk (n d : Int) : Int := if (1 ≤ d ∧ d ≤ 1000000000) ∧ (-1000000000 ≤ n ∧ n ≤ 1000000000) then (if Int.gcd n d > 1 then 1 else 0) else 3
theorem in_f (a b c : Int) : withyref01_In.f a b c = some (decide (b ≤ a ∧ a ≤ c)) := by
  unfold withyref01_In.f
  by_cases h : b ≤ a <;> simp [h]
theorem within_1 (a b n : Int) : num_within.f a b [n] = some (decide (a ≤ n ∧ n ≤ b)) := by
  unfold num_within.f
  simp
theorem ev_check (n d : Int) : Ev (fun k => num_Check.f k n d) (Chk n d) := by
  unfold num_Check.f Chk
  simp only [within_1, Option.bind_some]
  by_cases c : 1 ≤ d ∧ d ≤ 1000000000
  · by_cases c' : -1000000000 ≤ n ∧ n ≤ 1000000000
    · simp only [c, c', and_self, decide_true, if_true, Bool.not_true]
      refine Ev.step (f := fun k => (num_divisor.f k n d).bind fun t => if t > 1 then some 1 else some 0) (fun k => rfl) ?_
      · refine Ev.bind (ev_divisor (by omega) (by omega) (by omega) (by omega) (by omega)) ?_
        by_cases g : Int.gcd n d > 1
        · have g' : ((Int.gcd n d : Nat) : Int) > 1 := by omega
          simp only [g, g', if_true]
          exact Ev.now _
        · have g' : ¬ ((Int.gcd n d : Nat) : Int) > 1 := by omega
          simp only [g, g', if_false]
          exact Ev.now _
    · simp only [c, c', and_self, and_false, decide_true, decide_false, if_true, Bool.not_false, if_false]
      exact Ev.step (f := fun _ => some 3) (fun k => rfl) (Ev.now _)
  · simp only [c, false_and, decide_false, Bool.false_eq_true, if_false]
    exact Ev.step (f := fun _ => some 3) (fun k => rfl) (Ev.now _)
theorem ev_rcheck (n d : Int) : Ev (fun k => withyref01_Check.f k n d) (Chk n d) := by
  unfold withyref01_Check.f Chk
  simp only [in_f, Option.bind_some]
  by_cases c : 1 ≤ d ∧ d ≤ 1000000000
  · by_cases c' : -1000000000 ≤ n ∧ n ≤ 1000000000
    · simp only [c, c', and_self, decide_true, if_true, Bool.not_true]
      refine Ev.step (f := fun k => (withyref01_Of2.f k n d).bind fun t => if t > 1 then some 1 else some 0) (fun k => rfl) ?_
      · refine Ev.bind (ev_of2 (by omega) (by omega) (by omega) (by omega) (by omega)) ?_
        by_cases g : Int.gcd n d > 1
        · have g' : ((Int.gcd n d : Nat) : Int) > 1 := by omega
          simp only [g, g', if_true]
          exact Ev.now _
        · have g' : ¬ ((Int.gcd n d : Nat) : Int) > 1 := by omega
          simp only [g, g', if_false]
          exact Ev.now _
    · simp only [c, c', and_self, and_false, decide_true, decide_false, if_true, Bool.not_false, if_false]
      exact Ev.step (f := fun _ => some 3) (fun k => rfl) (Ev.now _)
  · simp only [c, false_and, decide_false, Bool.false_eq_true, if_false]
    exact Ev.step (f := fun _ => some 3) (fun k => rfl) (Ev.now _)
def Rn (n d : Int) : Int := (if d < 0 then -n else n) / (Int.gcd n d : Int)
def Rd (n d : Int) : Int := (if d < 0 then -d else d) / (Int.gcd n d : Int)
def Fits (n d : Int) : Prop := Rd n d ≤ 1000000000 ∧ (-1000000000 ≤ Rn n d ∧ Rn n d ≤ 1000000000)
instance (n d : Int) : Decidable (Fits n d) := inferInstanceAs (Decidable (_ ∧ _))
def Low (n d : Int) : Int × Int × Int := if Fits n d then (Rn n d, Rd n d, 0) else (0, 0, 8)
def NumE (n d : Int) : Except Int (Int × Int) := if Fits n d then .ok (Rn n d, Rd n d) else .error 0
theorem gcd_pos {n d : Int} (h : d ≠ 0) : 0 < Int.gcd n d := Nat.gcd_pos_of_pos_right _ (by omega)
theorem le_div {a : Int} {g : Nat} (hg : 0 < g) {b : Int} (h : -b ≤ a) (h' : a ≤ b) : -b ≤ a / (g : Int) ∧ a / (g : Int) ≤ b := by
  have hb : 0 ≤ b := by omega
  refine ⟨?_, ?_⟩
  · have : -b ≤ (-b) / (g : Int) := by
      have := Int.le_ediv_of_mul_le (a := -b) (b := -b) (c := (g : Int)) (by omega) (by
        have : (1 : Int) ≤ g := by omega
        have := Int.mul_le_mul_of_nonneg_left this hb
        have e : -b * (g : Int) = -(b * g) := by rw [Int.neg_mul]
        omega)
      exact this
    exact Int.le_trans this (Int.ediv_le_ediv (by omega) h)
  · exact Int.le_trans (Int.ediv_le_ediv (by omega) h') (Int.ediv_le_self _ hb)
theorem core_num (n d : Int) (hn : -9223372036854775807 ≤ n) (hn' : n ≤ 9223372036854775807) (hd : -9223372036854775807 ≤ d) (hd' : d ≤ 9223372036854775807) (h0 : d ≠ 0) :
    wrap64 (Int.tdiv (if d < 0 then wrap64 (-n) else n) (Int.gcd n d)) = Rn n d ∧ wrap64 (Int.tdiv (if d < 0 then wrap64 (-d) else d) (Int.gcd n d)) = Rd n d := by
  have hg := gcd_pos (n := n) h0
  have d1 : ((Int.gcd n d : Nat) : Int) ∣ (if d < 0 then -n else n) := by
    split
    · exact Int.dvd_neg.mpr (Int.gcd_dvd_left ..)
    · exact Int.gcd_dvd_left ..
  have d2 : ((Int.gcd n d : Nat) : Int) ∣ (if d < 0 then -d else d) := by
    split
    · exact Int.dvd_neg.mpr (Int.gcd_dvd_right ..)
    · exact Int.gcd_dvd_right ..
  have e1 : (if d < 0 then wrap64 (-n) else n) = (if d < 0 then -n else n) := by rw [w64 (by omega) (by omega)]
  have e2 : (if d < 0 then wrap64 (-d) else d) = (if d < 0 then -d else d) := by rw [w64 (by omega) (by omega)]
  rw [e1, e2, Int.tdiv_eq_ediv_of_dvd d1, Int.tdiv_eq_ediv_of_dvd d2]
  have b1 := le_div hg (a := if d < 0 then -n else n) (b := 9223372036854775807) (by split <;> omega) (by split <;> omega)
  have b2 := le_div hg (a := if d < 0 then -d else d) (b := 9223372036854775807) (by split <;> omega) (by split <;> omega)
  exact ⟨w64 (by omega) b1.2, w64 (by omega) b2.2⟩
theorem gcd_sign (n d : Int) : Int.gcd (if d < 0 then wrap64 (-n) else n) (if d < 0 then wrap64 (-d) else d) = Int.gcd n d ∨ ¬ (-9223372036854775807 ≤ n ∧ n ≤ 9223372036854775807 ∧ -9223372036854775807 ≤ d ∧ d ≤ 9223372036854775807) := by
  by_cases h : (-9223372036854775807 ≤ n ∧ n ≤ 9223372036854775807 ∧ -9223372036854775807 ≤ d ∧ d ≤ 9223372036854775807)
  · left
    rw [w64 (by omega) (by omega), w64 (by omega) (by omega)]
    split
    · rw [Int.neg_gcd, Int.gcd_neg]
    · rfl
  · exact Or.inr h
theorem ev_num {n d : Int} (hn : -9223372036854775807 ≤ n) (hn' : n ≤ 9223372036854775807) (hd : -9223372036854775807 ≤ d) (hd' : d ≤ 9223372036854775807) (h0 : d ≠ 0) :
    Ev (fun k => num_ratio_num.f k n d) (NumE n d) := by
  have hg := gcd_pos (n := n) h0
  obtain ⟨c1, c2⟩ := core_num n d hn hn' hd hd' h0
  have hs := (gcd_sign n d).resolve_right (by omega)
  refine Ev.congr (f := fun k => num_ratio_num.j0 k (if d < 0 then wrap64 (-n) else n) (if d < 0 then wrap64 (-d) else d)) (fun k => ?_) ?_
  · unfold num_ratio_num.f
    split <;> rfl
  · generalize hN : (if d < 0 then wrap64 (-n) else n) = N at *
    generalize hD : (if d < 0 then wrap64 (-d) else d) = D at *
    have hNr : -9223372036854775807 ≤ N ∧ N ≤ 9223372036854775807 := by rw [← hN, w64 (by omega) (by omega)]; split <;> omega
    have hDr : (-9223372036854775807 ≤ D ∧ D ≤ 9223372036854775807) ∧ D ≠ 0 := by rw [← hD, w64 (by omega) (by omega)]; split <;> omega
    refine Ev.step (f := fun k => (num_divisor.f k N D).bind fun t => if t = 0 then none else if wrap64 (Int.tdiv D t) > 1000000000 then some (.error (0 : Int)) else (num_within.f (-1000000000) 1000000000 [wrap64 (Int.tdiv N t)]).bind fun u => if u = true then some (.ok (ε := Int) (wrap64 (Int.tdiv N t), wrap64 (Int.tdiv D t))) else some (.error (0 : Int))) (fun k => rfl) ?_
    refine Ev.bind (ev_divisor hNr.1 hNr.2 hDr.1.1 hDr.1.2 hDr.2) ?_
    rw [hs]
    simp only [c1, c2, within_1, Option.bind_some]
    refine Ev.isNow fun k => ?_
    rw [if_neg (by omega)]
    unfold NumE
    by_cases a : Rd n d > 1000000000
    · rw [if_pos a, if_neg (fun h : Fits n d => by have := h.1; omega)]
    · rw [if_neg a]
      by_cases b : -1000000000 ≤ Rn n d ∧ Rn n d ≤ 1000000000
      · rw [if_pos (show Fits n d from ⟨by omega, b⟩)]
        simp only [b, and_self, decide_true, if_true]
      · rw [if_neg (fun h : Fits n d => b h.2)]
        simp only [b, decide_false, if_false, Bool.false_eq_true]
theorem exc_num (n d : Int) : exc (NumE n d) (fun _ => some (0, 0, 8)) (fun b => some (b.1, b.2, 0)) = some (Low n d) := by
  unfold NumE Low
  split <;> rfl
def ChkL : List S23 → Int
  | [] => 0
  | a :: l => if Chk a.f0 a.f1 = 0 then ChkL l else Chk a.f0 a.f1
theorem checked_loop (l : List S23) (hl : l.length < 9223372036854775807) : ∀ (m i : Nat), i + m = l.length → Ev (fun k => num_checked.l0 k l (l.length : Int) (i : Int)) (ChkL (l.drop i)) := by
  intro m
  induction m with
  | zero =>
    intro i hi
    rw [List.drop_of_length_le (by omega)]
    refine Ev.step (f := fun _ => some 0) (fun k => ?_) (Ev.now _)
    show (if (i : Int) < (l.length : Int) then _ else _) = _
    rw [if_neg (by omega)]
  | succ m ih =>
    intro i hi
    have hlt : i < l.length := by omega
    have hx : rd_T23 l (i : Int) = l[i] := by
      unfold rd_T23
      rw [Int.toNat_natCast, List.getD_eq_getElem?_getD, List.getElem?_eq_getElem hlt]
      rfl
    rw [List.drop_eq_getElem_cons hlt]
    refine Ev.step (f := fun k => (num_Check.f k (l[i]).f0 (l[i]).f1).bind fun t => if t = 0 then num_checked.l0 k l (l.length : Int) ((i + 1 : Nat) : Int) else some t) (fun k => ?_) ?_
    · show (if (i : Int) < (l.length : Int) then (if 0 ≤ (i : Int) then (if (i : Int) < (l.length : Int) then _ else _) else _) else _) = _
      rw [if_pos (by omega), if_pos (by omega), if_pos (by omega), hx, w64 (by omega) (by omega)]
      rfl
    · refine Ev.bind (ev_check _ _) ?_
      show Ev _ (if Chk l[i].f0 l[i].f1 = 0 then ChkL (l.drop (i + 1)) else Chk l[i].f0 l[i].f1)
      by_cases c : Chk l[i].f0 l[i].f1 = 0
      · simp only [c, if_true]
        exact ih (i + 1) (by omega)
      · simp only [c, if_false]
        exact Ev.now _
theorem ev_checked (l : List S23) (hl : l.length < 9223372036854775807) : Ev (fun k => num_checked.f k l) (ChkL l) := by
  have := checked_loop l hl l.length 0 (by omega)
  rwa [List.drop_zero] at this
def Chk2 (a b c d : Int) : Int := if Chk a b = 0 then Chk c d else Chk a b
theorem ev_checked2 (a b c d : Int) : Ev (fun k => num_checked.f k [(⟨a, b⟩ : S23), ⟨c, d⟩]) (Chk2 a b c d) := by
  have h := ev_checked [(⟨a, b⟩ : S23), ⟨c, d⟩] (by simp)
  have e : ChkL [(⟨a, b⟩ : S23), ⟨c, d⟩] = Chk2 a b c d := by
    show (if Chk a b = 0 then (if Chk c d = 0 then (0 : Int) else Chk c d) else Chk a b) = _
    unfold Chk2
    by_cases x : Chk a b = 0
    · rw [if_pos x, if_pos x]
      by_cases y : Chk c d = 0
      · rw [if_pos y, y]
      · rw [if_neg y]
    · rw [if_neg x, if_neg x]
  rwa [e] at h
/-- a number's fields are in the bounds, and in lowest terms -/
structure Ok (n d : Int) : Prop where
  d1 : 1 ≤ d
  d2 : d ≤ 1000000000
  n1 : -1000000000 ≤ n
  n2 : n ≤ 1000000000
  g : Int.gcd n d = 1
theorem Chk_ok {n d : Int} : Chk n d = 0 ↔ Ok n d := by
  unfold Chk
  constructor
  · intro h
    split at h
    · rename_i c
      split at h
      · exact absurd h (by decide)
      · have := gcd_pos (n := n) (d := d) (by omega)
        exact ⟨c.1.1, c.1.2, c.2.1, c.2.2, by omega⟩
    · exact absurd h (by decide)
  · intro h
    have := h.d1; have := h.d2; have := h.n1; have := h.n2; have := h.g
    rw [if_pos (by omega), if_neg (by omega)]
theorem Chk2_ok {a b c d : Int} : Chk2 a b c d = 0 ↔ Ok a b ∧ Ok c d := by
  unfold Chk2
  rw [← Chk_ok, ← Chk_ok]
  by_cases x : Chk a b = 0
  · simp [x]
  · simp [x]
theorem Ok.mul {a b c d : Int} (h : Ok a b) (k : Ok c d) : (-1000000000000000000 ≤ a * d ∧ a * d ≤ 1000000000000000000) ∧ (-1000000000000000000 ≤ c * b ∧ c * b ≤ 1000000000000000000) ∧ (1 ≤ b * d ∧ b * d ≤ 1000000000000000000) ∧ (-1000000000000000000 ≤ a * c ∧ a * c ≤ 1000000000000000000) ∧ (-1000000000000000000 ≤ b * c ∧ b * c ≤ 1000000000000000000) := by
  have bd : ∀ x y : Int, -1000000000 ≤ x → x ≤ 1000000000 → -1000000000 ≤ y → y ≤ 1000000000 → -1000000000000000000 ≤ x * y ∧ x * y ≤ 1000000000000000000 := by
    intro x y h1 h2 h3 h4
    have a1 : x.natAbs ≤ 1000000000 := by omega
    have a2 : y.natAbs ≤ 1000000000 := by omega
    have a3 := Nat.mul_le_mul a1 a2
    rw [← Int.natAbs_mul] at a3
    omega
  have := h.d1; have := h.d2; have := h.n1; have := h.n2; have := k.d1; have := k.d2; have := k.n1; have := k.n2
  refine ⟨bd _ _ (by omega) (by omega) (by omega) (by omega), bd _ _ (by omega) (by omega) (by omega) (by omega), ⟨?_, (bd b d (by omega) (by omega) (by omega) (by omega)).2⟩, bd _ _ (by omega) (by omega) (by omega) (by omega), bd _ _ (by omega) (by omega) (by omega) (by omega)⟩
  have := Int.mul_le_mul h.d1 k.d1 (by omega) (by omega)
  omega
def AddR (a b c d : Int) : Int × Int × Int := if Chk2 a b c d = 0 then Low (a * d + c * b) (b * d) else (0, 0, Chk2 a b c d)
def SubR (a b c d : Int) : Int × Int × Int := if Chk2 a b c d = 0 then Low (a * d - c * b) (b * d) else (0, 0, Chk2 a b c d)
def MulR (a b c d : Int) : Int × Int × Int := if Chk2 a b c d = 0 then Low (a * c) (b * d) else (0, 0, Chk2 a b c d)
def DivR (a b c d : Int) : Int × Int × Int := if Chk2 a b c d = 0 then (if c = 0 then (0, 0, 10) else Low (a * d) (b * c)) else (0, 0, Chk2 a b c d)
theorem reck {opf : Int → Int → Int → Int → Option (Int × Int)} {dv : Bool} {a b c d : Int} {R : Int × Int × Int} {N D : Int}
    (hop : Ok a b → Ok c d → ¬ (dv = true ∧ c = 0) → opf a b c d = some (N, D) ∧ (-9223372036854775807 ≤ N ∧ N ≤ 9223372036854775807) ∧ (-9223372036854775807 ≤ D ∧ D ≤ 9223372036854775807) ∧ D ≠ 0)
    (hR : R = if Chk2 a b c d = 0 then (if dv = true ∧ c = 0 then (0, 0, 10) else Low N D) else (0, 0, Chk2 a b c d)) : Ev (fun k => num_reckon.g opf dv k a b c d) R := by
  subst hR
  unfold num_reckon.g
  refine Ev.bind (ev_checked2 a b c d) ?_
  by_cases x : Chk2 a b c d = 0
  · simp only [x, if_true]
    by_cases y : dv = true ∧ c = 0
    · simp only [y, and_self, if_true]
      exact Ev.now _
    · simp only [y, if_false]
      obtain ⟨h1, h2⟩ := Chk2_ok.mp x
      obtain ⟨e, n1, d1, d0⟩ := hop h1 h2 y
      simp only [e, Option.bind_some]
      refine Ev.bind (ev_num n1.1 n1.2 d1.1 d1.2 d0) ?_
      rw [exc_num]
      exact Ev.now _
  · simp only [x, if_false]
    exact Ev.now _
theorem ev_three {g : Nat → Option (Int × Int × Int)} {R : Int × Int × Int} (h : Ev g R) : Ev (fun k => (g k).bind fun b => some (b.1, b.2.1, b.2.2)) R :=
  Ev.bind h (Ev.now _)
theorem ev_Add (a b c d : Int) : Ev (fun k => num_Add.f k a b c d) (AddR a b c d) := by
  refine ev_three (Ev.congr (f := fun k => num_reckon.g num_ratio_plus.f false k a b c d) (fun k => rfl) (reck (N := a * d + c * b) (D := b * d) (fun h k _ => ?_) ?_))
  · have := h.mul k
    refine ⟨?_, by omega, by omega, by omega⟩
    unfold num_ratio_plus.f
    rw [w64 (n := a * d) (by omega) (by omega), w64 (n := c * b) (by omega) (by omega), w64 (by omega) (by omega), w64 (by omega) (by omega)]
  · simp [AddR]
theorem ev_Sub (a b c d : Int) : Ev (fun k => num_Sub.f k a b c d) (SubR a b c d) := by
  refine ev_three (Ev.congr (f := fun k => num_reckon.g num_ratio_minus.f false k a b c d) (fun k => rfl) (reck (N := a * d - c * b) (D := b * d) (fun h k _ => ?_) ?_))
  · have := h.mul k
    refine ⟨?_, by omega, by omega, by omega⟩
    unfold num_ratio_minus.f
    rw [w64 (n := a * d) (by omega) (by omega), w64 (n := c * b) (by omega) (by omega), w64 (by omega) (by omega), w64 (by omega) (by omega)]
  · simp [SubR]
theorem ev_Mul (a b c d : Int) : Ev (fun k => num_Mul.f k a b c d) (MulR a b c d) := by
  refine ev_three (Ev.congr (f := fun k => num_reckon.g num_ratio_times.f false k a b c d) (fun k => rfl) (reck (N := a * c) (D := b * d) (fun h k _ => ?_) ?_))
  · have := h.mul k
    refine ⟨?_, by omega, by omega, by omega⟩
    unfold num_ratio_times.f
    rw [w64 (n := a * c) (by omega) (by omega), w64 (by omega) (by omega)]
  · simp [MulR]
theorem ev_Div (a b c d : Int) : Ev (fun k => num_Div.f k a b c d) (DivR a b c d) := by
  refine ev_three (Ev.congr (f := fun k => num_reckon.g num_ratio_by.f true k a b c d) (fun k => rfl) (reck (N := a * d) (D := b * c) (fun h k y => ?_) ?_))
  · have := h.mul k
    refine ⟨?_, by omega, by omega, fun e => ?_⟩
    · unfold num_ratio_by.f
      rw [w64 (n := a * d) (by omega) (by omega), w64 (by omega) (by omega)]
    · rcases Int.mul_eq_zero.mp e with e | e
      · have := h.d1
        omega
      · exact y ⟨rfl, e⟩
  · simp [DivR]
theorem Chk2_zero {a b c d : Int} (h : Ok a b) (k : Ok c d) : Chk2 a b c d = 0 := Chk2_ok.mpr ⟨h, k⟩
def FitQ (q : Rat) : Prop := (q.den : Int) ≤ 1000000000 ∧ (-1000000000 ≤ q.num ∧ q.num ≤ 1000000000)
instance (q : Rat) : Decidable (FitQ q) := inferInstanceAs (Decidable (_ ∧ _))
def LowQ (q : Rat) : Int × Int × Int := if FitQ q then (q.num, (q.den : Int), 0) else (0, 0, 8)
theorem Rn_q {n d : Int} (h0 : d ≠ 0) : Rn n d = (Rat.divInt n d).num ∧ Rd n d = ((Rat.divInt n d).den : Int) := by
  rw [Rat.num_divInt, Rat.den_divInt, if_neg h0, Int.gcd_comm d n]
  unfold Rn Rd
  refine ⟨?_, ?_⟩
  · congr 1
    split
    · rename_i h
      rw [Int.sign_eq_neg_one_of_neg h, Int.neg_one_mul]
    · rw [Int.sign_eq_one_of_pos (by omega), Int.one_mul]
  · rw [Int.natCast_ediv]
    congr 1
    split <;> omega
theorem Low_q {n d : Int} (h0 : d ≠ 0) : Low n d = LowQ (Rat.divInt n d) := by
  obtain ⟨e1, e2⟩ := Rn_q (n := n) h0
  unfold Low LowQ
  have : Fits n d ↔ FitQ (Rat.divInt n d) := by
    unfold Fits FitQ
    rw [e1, e2]
  by_cases c : Fits n d
  · rw [if_pos c, if_pos (this.mp c), e1, e2]
  · rw [if_neg c, if_neg (fun h => c (this.mpr h))]
theorem ok_q {q : Rat} (h : FitQ q) : Ok q.num q.den := by
  have := q.den_pos
  refine ⟨by omega, h.1, h.2.1, h.2.2, ?_⟩
  have := q.reduced
  unfold Nat.Coprime at this
  exact this
theorem q_ok {n d : Int} (h : Ok n d) : ∃ q, FitQ q ∧ n = q.num ∧ d = (q.den : Int) := by
  have h0 : d ≠ 0 := by have := h.d1; omega
  obtain ⟨e1, e2⟩ := Rn_q (n := n) h0
  have g := h.g
  have r1 : Rn n d = n := by
    unfold Rn
    rw [g, if_neg (by have := h.d1; omega)]
    exact Int.ediv_one n
  have r2 : Rd n d = d := by
    unfold Rd
    rw [g, if_neg (by have := h.d1; omega)]
    exact Int.ediv_one d
  refine ⟨Rat.divInt n d, ⟨?_, ?_⟩, by rw [← e1, r1], by rw [← e2, r2]⟩
  · rw [← e2, r2]; exact h.d2
  · rw [← e1, r1]; exact ⟨h.n1, h.n2⟩
theorem den_ne (q : Rat) : (q.den : Int) ≠ 0 := by have := q.den_pos; omega
theorem Chk2_q {p q : Rat} (hp : FitQ p) (hq : FitQ q) : Chk2 p.num p.den q.num q.den = 0 := Chk2_zero (ok_q hp) (ok_q hq)
theorem AddQ {p q : Rat} (hp : FitQ p) (hq : FitQ q) : AddR p.num p.den q.num q.den = LowQ (p + q) := by
  unfold AddR
  rw [if_pos (Chk2_q hp hq), Low_q (Int.mul_ne_zero (den_ne p) (den_ne q)), ← Rat.divInt_add_divInt _ _ (den_ne p) (den_ne q), Rat.num_divInt_den, Rat.num_divInt_den]
theorem SubQ {p q : Rat} (hp : FitQ p) (hq : FitQ q) : SubR p.num p.den q.num q.den = LowQ (p - q) := by
  unfold SubR
  rw [if_pos (Chk2_q hp hq), Low_q (Int.mul_ne_zero (den_ne p) (den_ne q)), ← Rat.divInt_sub_divInt _ _ (den_ne p) (den_ne q), Rat.num_divInt_den, Rat.num_divInt_den]
theorem MulQ {p q : Rat} (hp : FitQ p) (hq : FitQ q) : MulR p.num p.den q.num q.den = LowQ (p * q) := by
  unfold MulR
  rw [if_pos (Chk2_q hp hq), Low_q (Int.mul_ne_zero (den_ne p) (den_ne q)), ← Rat.divInt_mul_divInt, Rat.num_divInt_den, Rat.num_divInt_den]
theorem DivQ {p q : Rat} (hp : FitQ p) (hq : FitQ q) (h0 : q.num ≠ 0) : DivR p.num p.den q.num q.den = LowQ (p / q) := by
  unfold DivR
  rw [if_pos (Chk2_q hp hq), if_neg h0, Low_q (Int.mul_ne_zero (den_ne p) h0), Rat.div_def, Rat.inv_def, ← Rat.divInt_mul_divInt, Rat.num_divInt_den]
theorem LowQ_fit {q : Rat} (h : FitQ q) : LowQ q = (q.num, (q.den : Int), 0) := if_pos h
theorem LowQ_no {q : Rat} (h : ¬ FitQ q) : LowQ q = (0, 0, 8) := if_neg h
theorem ev_fit (a b c d e f : Int) : Ev (fun k => withylaw01_fit.f k a b c d e f) (decide (Chk a b = 0 ∧ Chk c d = 0 ∧ Chk e f = 0)) := by
  unfold withylaw01_fit.f
  refine Ev.bind (ev_rcheck a b) ?_
  by_cases x : Chk a b = 0
  · simp only [x, if_true, true_and]
    refine Ev.bind (ev_rcheck c d) ?_
    by_cases y : Chk c d = 0
    · simp only [y, if_true, true_and]
      refine Ev.bind (ev_rcheck e f) ?_
      by_cases z : Chk e f = 0
      · simp only [z, decide_true, beq_self_eq_true]
        exact Ev.now _
      · rw [decide_eq_false z, beq_eq_false_iff_ne.mpr z]
        exact Ev.now _
    · simp only [y, if_false, false_and, decide_false]
      exact Ev.now _
  · simp only [x, if_false, false_and, decide_false]
    exact Ev.now _
set_option maxRecDepth 100000 in
theorem summed_at : withylaw01_summed.f 60 = some true := by kernel_rfl
theorem ev_summed : Ev (fun k => withylaw01_summed.f k) true := Ev.of (fun k => withylaw01_summed.mono k) summed_at
theorem fld3t (a b c d e f g h : Int) : Ev (fun k => withylaw01_joined.j3 k true a b c d e f g h) true := Ev.step (f := fun _ => some true) (fun k => rfl) (Ev.now _)
theorem fld3 {p q r : Rat} (hp : FitQ p) (hr : FitQ r) (hu : FitQ (p * q)) (hv : FitQ (q * r)) : Ev (fun k => withylaw01_joined.j3 k false p.num p.den r.num r.den (p * q).num (p * q).den (q * r).num (q * r).den) true := by
  refine Ev.step (f := fun k => (num_Mul.f k (p * q).num (p * q).den r.num r.den).bind fun b => (num_Mul.f k p.num p.den (q * r).num (q * r).den).bind fun c => if b.2.2 = c.2.2 then some (b.1 == c.1 && (b.2.1 == c.2.1)) else some false) (fun k => rfl) ?_
  refine Ev.bind (ev_Mul _ _ _ _) (Ev.bind (ev_Mul _ _ _ _) ?_)
  rw [MulQ hu hr, MulQ hp hv, Rat.mul_assoc]
  simp only [if_true, beq_self_eq_true, Bool.and_self]
  exact Ev.now _
theorem fld2 {p q r : Rat} (hp : FitQ p) (hq : FitQ q) (hr : FitQ r) : Ev (fun k => withylaw01_joined.j2 k p.num p.den q.num q.den r.num r.den) true := by
  refine Ev.step (f := fun k => (num_Mul.f k p.num p.den q.num q.den).bind fun b => (num_Mul.f k q.num q.den r.num r.den).bind fun c => if b.2.2 = 0 then withylaw01_joined.j3 k (c.2.2 != 0) p.num p.den r.num r.den b.1 b.2.1 c.1 c.2.1 else withylaw01_joined.j3 k true p.num p.den r.num r.den b.1 b.2.1 c.1 c.2.1) (fun k => rfl) ?_
  refine Ev.bind (ev_Mul _ _ _ _) (Ev.bind (ev_Mul _ _ _ _) ?_)
  rw [MulQ hp hq, MulQ hq hr]
  by_cases a : FitQ (p * q)
  · rw [LowQ_fit a]
    by_cases b : FitQ (q * r)
    · rw [LowQ_fit b]
      simp only [if_true, bne_self_eq_false]
      exact fld3 hp hr a b
    · rw [LowQ_no b]
      simp only [if_true, show ((8 : Int) != 0) = true by decide]
      exact fld3t ..
  · rw [LowQ_no a]
    simp only [show ¬ ((8 : Int) = 0) by decide, if_false]
    exact fld3t ..
theorem fld1 {p q r : Rat} (hp : FitQ p) (hq : FitQ q) (hr : FitQ r) (hy : FitQ (q + r)) : Ev (fun k => withylaw01_joined.j1 k false p.num p.den q.num q.den r.num r.den (q + r).num (q + r).den) true := by
  have f2 := fld2 hp hq hr
  refine Ev.step (f := fun k => (num_Mul.f k p.num p.den (q + r).num (q + r).den).bind fun a => (num_Mul.f k p.num p.den q.num q.den).bind fun b => (num_Mul.f k p.num p.den r.num r.den).bind fun c => (num_Add.f k b.1 b.2.1 c.1 c.2.1).bind fun d => (if a.2.2 = 0 then (if b.2.2 = 0 then (if c.2.2 = 0 then (if d.2.2 = 0 then (if (!(d.1 == a.1) || (!(d.2.1 == a.2.1))) = true then some false else withylaw01_joined.j2 k p.num p.den q.num q.den r.num r.den) else some false) else withylaw01_joined.j2 k p.num p.den q.num q.den r.num r.den) else withylaw01_joined.j2 k p.num p.den q.num q.den r.num r.den) else withylaw01_joined.j2 k p.num p.den q.num q.den r.num r.den)) (fun k => rfl) ?_
  refine Ev.bind (ev_Mul _ _ _ _) (Ev.bind (ev_Mul _ _ _ _) (Ev.bind (ev_Mul _ _ _ _) (Ev.bind (ev_Add _ _ _ _) ?_)))
  rw [MulQ hp hy, MulQ hp hq, MulQ hp hr]
  by_cases a : FitQ (p * (q + r))
  · by_cases b : FitQ (p * q)
    · by_cases c : FitQ (p * r)
      · rw [LowQ_fit a, LowQ_fit b, LowQ_fit c]
        dsimp only
        rw [AddQ b c, ← Rat.mul_add, LowQ_fit a]
        simp only [if_true, beq_self_eq_true, Bool.not_true, Bool.or_self, Bool.false_eq_true, if_false]
        exact f2
      · rw [LowQ_no c]
        simp only [show ¬ ((8 : Int) = 0) by decide, if_false, ite_self]
        exact f2
    · rw [LowQ_no b]
      simp only [show ¬ ((8 : Int) = 0) by decide, if_false, ite_self]
      exact f2
  · rw [LowQ_no a]
    simp only [show ¬ ((8 : Int) = 0) by decide, if_false]
    exact f2
theorem fld0f {p q r : Rat} (hp : FitQ p) (hq : FitQ q) (hr : FitQ r) (a b c d : Int) : Ev (fun k => withylaw01_joined.j0 k false p.num p.den q.num q.den r.num r.den a b c d) true :=
  Ev.step (f := fun k => withylaw01_joined.j2 k p.num p.den q.num q.den r.num r.den) (fun k => rfl) (fld2 hp hq hr)
theorem fld0 {p q r : Rat} (hp : FitQ p) (hq : FitQ q) (hr : FitQ r) (hx : FitQ (p + q)) (hy : FitQ (q + r)) : Ev (fun k => withylaw01_joined.j0 k true p.num p.den q.num q.den r.num r.den (p + q).num (p + q).den (q + r).num (q + r).den) true := by
  refine Ev.step (f := fun k => (num_Add.f k (p + q).num (p + q).den r.num r.den).bind fun b => (num_Add.f k p.num p.den (q + r).num (q + r).den).bind fun c => if b.2.2 = c.2.2 then withylaw01_joined.j1 k (!(b.1 == c.1) || (!(b.2.1 == c.2.1))) p.num p.den q.num q.den r.num r.den (q + r).num (q + r).den else withylaw01_joined.j1 k true p.num p.den q.num q.den r.num r.den (q + r).num (q + r).den) (fun k => rfl) ?_
  refine Ev.bind (ev_Add _ _ _ _) (Ev.bind (ev_Add _ _ _ _) ?_)
  rw [AddQ hx hr, AddQ hp hy, Rat.add_assoc]
  simp only [if_true, beq_self_eq_true, Bool.not_true, Bool.or_self]
  exact fld1 hp hq hr hy
theorem joined_ev {p q r : Rat} (hp : FitQ p) (hq : FitQ q) (hr : FitQ r) : Ev (fun k => withylaw01_joined.f k p.num p.den q.num q.den r.num r.den) true := by
  unfold withylaw01_joined.f
  refine Ev.bind (ev_Add _ _ _ _) (Ev.bind (ev_Add _ _ _ _) ?_)
  rw [AddQ hp hq, AddQ hq hr]
  by_cases a : FitQ (p + q)
  · rw [LowQ_fit a]
    by_cases b : FitQ (q + r)
    · rw [LowQ_fit b]
      simp only [if_true, beq_self_eq_true]
      exact fld0 hp hq hr a b
    · rw [LowQ_no b]
      simp only [if_true, show ((8 : Int) == 0) = false by decide]
      exact fld0f hp hq hr ..
  · rw [LowQ_no a]
    simp only [show ¬ ((8 : Int) = 0) by decide, if_false]
    exact fld0f hp hq hr ..
theorem zero_fit : FitQ 0 := by decide
theorem one_fit' : FitQ 1 := by decide
theorem nf3 {p q r : Rat} (hp : FitQ p) (hq : FitQ q) (hr : FitQ r) : Ev (fun k => withylaw01_NumField.j3 k p.num p.den q.num q.den r.num r.den) true := by
  have ez : AddR p.num p.den 0 1 = LowQ p := by
    have : AddR p.num p.den 0 1 = LowQ (p + 0) := AddQ hp zero_fit
    rwa [Rat.add_zero] at this
  have eo : MulR p.num p.den 1 1 = LowQ p := by
    have : MulR p.num p.den 1 1 = LowQ (p * 1) := MulQ hp one_fit'
    rwa [Rat.mul_one] at this
  refine Ev.step (f := fun k => (num_Add.f k p.num p.den 0 1).bind fun a => (num_Mul.f k p.num p.den 1 1).bind fun m => (if a.2.2 = 0 then (if m.2.2 = 0 then (if (a.1 == p.num && (a.2.1 == (p.den : Int))) = true then (if (m.1 == p.num && (m.2.1 == (p.den : Int))) = true then ((withylaw01_joined.f k p.num p.den q.num q.den r.num r.den).bind fun t => (if t = true then ((withylaw01_summed.f k).bind fun t => (some t)) else (some false))) else (some false)) else (some false)) else (some false)) else (some false))) (fun k => rfl) ?_
  refine Ev.bind (ev_Add _ _ _ _) (Ev.bind (ev_Mul _ _ _ _) ?_)
  rw [ez, eo, LowQ_fit hp]
  simp only [if_true, beq_self_eq_true, Bool.and_self]
  refine Ev.bind (joined_ev hp hq hr) ?_
  simp only [if_true]
  exact Ev.bind ev_summed (Ev.now _)
theorem nf2 {p q r : Rat} (hp : FitQ p) (hq : FitQ q) (hr : FitQ r) (b : Bool) {z : Int × Int × Int} (h : b = true → FitQ (p * q) ∧ z = LowQ (p * q) ∧ q.num ≠ 0) : Ev (fun k => withylaw01_NumField.j2 k b p.num p.den q.num q.den r.num r.den z.1 z.2.1) true := by
  cases b with
  | false => exact Ev.step (f := fun k => withylaw01_NumField.j3 k p.num p.den q.num q.den r.num r.den) (fun k => rfl) (nf3 hp hq hr)
  | true =>
    obtain ⟨hx, rfl, h0⟩ := h rfl
    rw [LowQ_fit hx]
    refine Ev.step (f := fun k => (num_Div.f k (p * q).num (p * q).den q.num q.den).bind fun b => (if b.2.2 = 0 then (if (!(b.1 == p.num) || (!(b.2.1 == (p.den : Int)))) = true then (some false) else (withylaw01_NumField.j3 k p.num p.den q.num q.den r.num r.den)) else (some false))) (fun k => rfl) ?_
    refine Ev.bind (ev_Div _ _ _ _) ?_
    have hq0 : q ≠ 0 := fun e => h0 (by rw [e]; rfl)
    rw [DivQ hx hq h0, Rat.div_def, Rat.mul_assoc, Rat.mul_inv_cancel q hq0, Rat.mul_one, LowQ_fit hp]
    simp only [if_true, beq_self_eq_true, Bool.not_true, Bool.or_self, Bool.false_eq_true, if_false]
    exact nf3 hp hq hr
theorem nf1 {p q r : Rat} (hp : FitQ p) (hq : FitQ q) (hr : FitQ r) : Ev (fun k => withylaw01_NumField.j1 k (LowQ (p * q)).2.2 p.num p.den q.num q.den r.num r.den (LowQ (p * q)).1 (LowQ (p * q)).2.1) true := by
  refine Ev.step (f := fun k => if (LowQ (p * q)).2.2 = 0 then withylaw01_NumField.j2 k (q.num != 0) p.num p.den q.num q.den r.num r.den (LowQ (p * q)).1 (LowQ (p * q)).2.1 else withylaw01_NumField.j2 k false p.num p.den q.num q.den r.num r.den (LowQ (p * q)).1 (LowQ (p * q)).2.1) (fun k => rfl) ?_
  by_cases a : FitQ (p * q)
  · have e : (LowQ (p * q)).2.2 = 0 := by rw [LowQ_fit a]
    simp only [e, if_true]
    exact nf2 hp hq hr _ fun h => ⟨a, rfl, bne_iff_ne.mp h⟩
  · have e : ¬ (LowQ (p * q)).2.2 = 0 := by rw [LowQ_no a]; decide
    simp only [e, if_false]
    exact nf2 hp hq hr false fun h => by cases h
theorem nf0 {p q r : Rat} (hp : FitQ p) (hq : FitQ q) (hr : FitQ r) : Ev (fun k => withylaw01_NumField.j0 k (LowQ (p + q)).2.2 (LowQ (p * q)).2.2 false p.num p.den q.num q.den r.num r.den (LowQ (p + q)).1 (LowQ (p + q)).2.1 (LowQ (p * q)).1 (LowQ (p * q)).2.1) true := by
  have n1 := nf1 hp hq hr
  by_cases a : FitQ (p + q)
  · rw [LowQ_fit a]
    refine Ev.step (f := fun k => (num_Sub.f k (p + q).num (p + q).den q.num q.den).bind fun b => (if b.2.2 = 0 then (if (!(b.1 == p.num) || (!(b.2.1 == (p.den : Int)))) = true then (some false) else (withylaw01_NumField.j1 k (LowQ (p * q)).2.2 p.num p.den q.num q.den r.num r.den (LowQ (p * q)).1 (LowQ (p * q)).2.1)) else (some false))) (fun k => rfl) ?_
    refine Ev.bind (ev_Sub _ _ _ _) ?_
    have e : p + q - q = p := by rw [Rat.sub_eq_add_neg, Rat.add_assoc, Rat.add_neg_cancel, Rat.add_zero]
    rw [SubQ a hq, e, LowQ_fit hp]
    simp only [if_true, beq_self_eq_true, Bool.not_true, Bool.or_self, Bool.false_eq_true, if_false]
    exact n1
  · rw [LowQ_no a]
    exact Ev.step (f := fun k => withylaw01_NumField.j1 k (LowQ (p * q)).2.2 p.num p.den q.num q.den r.num r.den (LowQ (p * q)).1 (LowQ (p * q)).2.1) (fun k => rfl) n1
theorem withylaw01_NumField.ev (a0_0 a0_1 a1_0 a1_1 a2_0 a2_1 : Int) : Ev (fun k => withylaw01_NumField.f k a0_0 a0_1 a1_0 a1_1 a2_0 a2_1) true := by
  unfold withylaw01_NumField.f
  refine Ev.bind (ev_fit a0_0 a0_1 a1_0 a1_1 a2_0 a2_1) ?_
  by_cases c : Chk a0_0 a0_1 = 0 ∧ Chk a1_0 a1_1 = 0 ∧ Chk a2_0 a2_1 = 0
  · obtain ⟨p, hp, rfl, rfl⟩ := q_ok (Chk_ok.mp c.1)
    obtain ⟨q, hq, rfl, rfl⟩ := q_ok (Chk_ok.mp c.2.1)
    obtain ⟨r, hr, rfl, rfl⟩ := q_ok (Chk_ok.mp c.2.2)
    rw [decide_eq_true c]
    clear c
    simp only [if_true]
    refine Ev.bind (ev_Add _ _ _ _) (Ev.bind (ev_Add _ _ _ _) (Ev.bind (ev_Mul _ _ _ _) (Ev.bind (ev_Mul _ _ _ _) ?_)))
    rw [AddQ hp hq, AddQ hq hp, MulQ hp hq, MulQ hq hp, Rat.add_comm q p, Rat.mul_comm q p]
    simp only [if_true, beq_self_eq_true, Bool.not_true, Bool.or_self, Bool.false_eq_true, if_false]
    exact nf0 hp hq hr
  · rw [decide_eq_false c]
    simp only [Bool.false_eq_true, if_false]
    exact Ev.bind ev_summed (Ev.now true)
theorem withylaw01_NumField.pure (a0_0 a0_1 a1_0 a1_1 a2_0 a2_1 : Int) (_ : -9223372036854775808 ≤ a0_0 ∧ a0_0 ≤ 9223372036854775807) (_ : -9223372036854775808 ≤ a0_1 ∧ a0_1 ≤ 9223372036854775807) (_ : -9223372036854775808 ≤ a1_0 ∧ a1_0 ≤ 9223372036854775807) (_ : -9223372036854775808 ≤ a1_1 ∧ a1_1 ≤ 9223372036854775807) (_ : -9223372036854775808 ≤ a2_0 ∧ a2_0 ≤ 9223372036854775807) (_ : -9223372036854775808 ≤ a2_1 ∧ a2_1 ≤ 9223372036854775807) : ∃ k, withylaw01_NumField.f k a0_0 a0_1 a1_0 a1_1 a2_0 a2_1 = some true :=
  (withylaw01_NumField.ev a0_0 a0_1 a1_0 a1_1 a2_0 a2_1).rounds
end Go.Proofs.Ytakcdoahpbeckaa.H
