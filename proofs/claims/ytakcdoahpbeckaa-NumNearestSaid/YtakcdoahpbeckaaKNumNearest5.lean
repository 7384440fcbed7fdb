/- NumNearest: the plain law, without the program: what the printed functions come to. -/
import Derived.Test.YtakcdoahpbeckaaKNumNearest4
namespace Go.Proofs.Ytakcdoahpbeckaa.H
open Go.RowKit Go.Proofs.YtakcdoahpbeckaaW.PrintWords Go.Proofs.YtakcdoahpbeckaaW.PrintLast Go.Proofs.YtakcdoahpbeckaaW.PrintMore
attribute [local go_sem] max2_int min2_int max_two min_two max_three min_three max_four min_four   -- for this text's walks alone
set_option linter.unusedVariables false
set_option linter.unusedSimpArgs false

/-! ### the text VNumNearest -/
theorem w64 {n : Int} (h : -9223372036854775808 ≤ n) (h' : n ≤ 9223372036854775807) : wrap64 n = n := by unfold wrap64; omega
theorem Ev.isNow {α : Type} {g : Nat → Option α} {r : α} (h : ∀ k, g k = some r) : Ev g r := ⟨0, fun k _ => h k⟩
theorem mx_nat (g : Nat) (h : 0 < g) : mx (g : Int) 1 = g := by unfold mx; split <;> omega
theorem mx_abs {n : Int} (h : -9223372036854775807 ≤ n) (h' : n ≤ 9223372036854775807) : mx n (wrap64 (-n)) = (n.natAbs : Int) := by
  rw [w64 (by omega) (by omega)]
  unfold mx
  split <;> omega
theorem divisor_loop : ∀ (n m : Nat), Ev (fun k => num_divisor.l0 k (m : Int) (n : Int)) (mx (Nat.gcd m n : Nat) 1) := by
  intro n
  induction n using Nat.strongRecOn with
  | ind n ih =>
    intro m
    by_cases h : n = 0
    · subst h
      refine Ev.step (f := fun _ => some (mx (m : Int) 1)) (fun k => ?_) (by rw [Nat.gcd_zero_right]; exact Ev.now _)
      show (if (0 : Int) > 0 then _ else _) = _
      rfl
    · refine Ev.step (f := fun k => num_divisor.l0 k (n : Int) ((m % n : Nat) : Int)) (fun k => ?_) ?_
      · show (if (n : Int) > 0 then (if (n : Int) = 0 then none else num_divisor.l0 k (n : Int) (Int.tmod m n)) else _) = _
        rw [if_pos (by omega), if_neg (by omega)]
        rfl
      · have := ih (m % n) (Nat.mod_lt _ (by omega)) n
        rwa [Nat.gcd_comm n, ← Nat.gcd_rec, Nat.gcd_comm n] at this
theorem ev_divisor {n d : Int} (hn : -9223372036854775807 ≤ n) (hn' : n ≤ 9223372036854775807) (hd : -9223372036854775807 ≤ d) (hd' : d ≤ 9223372036854775807) (h0 : d ≠ 0) :
    Ev (fun k => num_divisor.f k n d) (Int.gcd n d) := by
  have h := divisor_loop d.natAbs n.natAbs
  rw [mx_nat _ (Nat.gcd_pos_of_pos_right _ (by omega))] at h
  refine Ev.congr (fun k => ?_) h
  show num_divisor.l0 k _ _ = _
  rw [mx_abs hn hn', mx_abs hd hd']
theorem of2_loop : ∀ (n m : Nat), 0 < Nat.gcd m n → Ev (fun k => withyref01_Of2.l0 k (m : Int) (n : Int)) ((Nat.gcd m n : Nat) : Int) := by
  intro n
  induction n using Nat.strongRecOn with
  | ind n ih =>
    intro m hp
    by_cases h : n = 0
    · subst h
      rw [Nat.gcd_zero_right] at hp ⊢
      refine Ev.step (f := fun _ => some ((m : Int))) (fun k => ?_) (Ev.now _)
      show (if (0 : Int) > 0 then _ else if (m : Int) = 0 then _ else _) = _
      rw [if_neg (by omega), if_neg (by omega)]
    · have hr : Nat.gcd n (m % n) = Nat.gcd m n := by rw [Nat.gcd_comm n, ← Nat.gcd_rec, Nat.gcd_comm n]
      refine Ev.step (f := fun k => withyref01_Of2.l0 k (n : Int) ((m % n : Nat) : Int)) (fun k => ?_) ?_
      · show (if (n : Int) > 0 then (if (n : Int) = 0 then none else withyref01_Of2.l0 k (n : Int) (Int.tmod m n)) else _) = _
        rw [if_pos (by omega), if_neg (by omega)]
        rfl
      · have := ih (m % n) (Nat.mod_lt _ (by omega)) n (by rw [hr]; exact hp)
        rwa [hr] at this
theorem ev_of2 {n d : Int} (hn : -9223372036854775807 ≤ n) (hn' : n ≤ 9223372036854775807) (hd : -9223372036854775807 ≤ d) (hd' : d ≤ 9223372036854775807) (h0 : d ≠ 0) :
    Ev (fun k => withyref01_Of2.f k n d) (Int.gcd n d) := by
  have h := of2_loop d.natAbs n.natAbs (Nat.gcd_pos_of_pos_right _ (by omega))
  have h2 : Ev (fun k => withyref01_Of2.j0 k (n.natAbs : Int) d) (Int.gcd n d) := by
    by_cases c : d < 0
    · refine Ev.step (f := fun k => withyref01_Of2.j1 k (n.natAbs : Int) (wrap64 (-d))) (fun k => ?_) (Ev.step (f := fun k => withyref01_Of2.l0 k (n.natAbs : Int) (wrap64 (-d))) (fun k => rfl) ?_)
      · show (if d < 0 then _ else _) = _
        rw [if_pos c]
      · rw [w64 (by omega) (by omega), show -d = (d.natAbs : Int) by omega]
        exact h
    · refine Ev.step (f := fun k => withyref01_Of2.j1 k (n.natAbs : Int) d) (fun k => ?_) (Ev.step (f := fun k => withyref01_Of2.l0 k (n.natAbs : Int) d) (fun k => rfl) ?_)
      · show (if d < 0 then _ else _) = _
        rw [if_neg c]
      · have e : d = (d.natAbs : Int) := by omega
        have h' := h
        rw [← e] at h'
        exact h'
  refine Ev.congr (fun k => ?_) h2
  unfold withyref01_Of2.f
  by_cases c : n < 0
  · rw [if_pos c, w64 (by omega) (by omega), show -n = (n.natAbs : Int) by omega]
  · rw [if_neg c]
    congr 1
    omega
/-- the error of a number -/
def Chk (n d : Int) : Int := if (1 ≤ d ∧ d ≤ 1000000000) ∧ (-1000000000 ≤ n ∧ n ≤ 1000000000) then (if Int.gcd n d > 1 then 1 else 0) else 3
theorem in_f (a b c : Int) : withyref01_In.f a b c = some (decide (b ≤ a ∧ a ≤ c)) := by
  unfold withyref01_In.f
  by_cases h : b ≤ a <;> simp [h]
theorem within_1 (a b n : Int) : num_within.f a b [n] = some (decide (a ≤ n ∧ n ≤ b)) := by
  unfold num_within.f
  simp
theorem ev_check (n d : Int) : Ev (fun k => num_Check.f k n d) (Chk n d) := by
  unfold num_Check.f Chk
  simp only [within_1, Option.bind_some]
  by_cases c : 1 ≤ d ∧ d ≤ 1000000000
  · by_cases c' : -1000000000 ≤ n ∧ n ≤ 1000000000
    · simp only [c, c', and_self, decide_true, if_true, Bool.not_true]
      refine Ev.step (f := fun k => (num_divisor.f k n d).bind fun t => if t > 1 then some 1 else some 0) (fun k => rfl) ?_
      · refine Ev.bind (ev_divisor (by omega) (by omega) (by omega) (by omega) (by omega)) ?_
        by_cases g : Int.gcd n d > 1
        · have g' : ((Int.gcd n d : Nat) : Int) > 1 := by omega
          simp only [g, g', if_true]
          exact Ev.now _
        · have g' : ¬ ((Int.gcd n d : Nat) : Int) > 1 := by omega
          simp only [g, g', if_false]
          exact Ev.now _
    · simp only [c, c', and_self, and_false, decide_true, decide_false, if_true, Bool.not_false, if_false]
      exact Ev.step (f := fun _ => some 3) (fun k => rfl) (Ev.now _)
  · simp only [c, false_and, decide_false, Bool.false_eq_true, if_false]
    exact Ev.step (f := fun _ => some 3) (fun k => rfl) (Ev.now _)
theorem ev_rcheck (n d : Int) : Ev (fun k => withyref01_Check.f k n d) (Chk n d) := by
  unfold withyref01_Check.f Chk
  simp only [in_f, Option.bind_some]
  by_cases c : 1 ≤ d ∧ d ≤ 1000000000
  · by_cases c' : -1000000000 ≤ n ∧ n ≤ 1000000000
    · simp only [c, c', and_self, decide_true, if_true, Bool.not_true]
      refine Ev.step (f := fun k => (withyref01_Of2.f k n d).bind fun t => if t > 1 then some 1 else some 0) (fun k => rfl) ?_
      · refine Ev.bind (ev_of2 (by omega) (by omega) (by omega) (by omega) (by omega)) ?_
        by_cases g : Int.gcd n d > 1
        · have g' : ((Int.gcd n d : Nat) : Int) > 1 := by omega
          simp only [g, g', if_true]
          exact Ev.now _
        · have g' : ¬ ((Int.gcd n d : Nat) : Int) > 1 := by omega
          simp only [g, g', if_false]
          exact Ev.now _
    · simp only [c, c', and_self, and_false, decide_true, decide_false, if_true, Bool.not_false, if_false]
      exact Ev.step (f := fun _ => some 3) (fun k => rfl) (Ev.now _)
  · simp only [c, false_and, decide_false, Bool.false_eq_true, if_false]
    exact Ev.step (f := fun _ => some 3) (fun k => rfl) (Ev.now _)
def Rn (n d : Int) : Int := (if d < 0 then -n else n) / (Int.gcd n d : Int)
def Rd (n d : Int) : Int := (if d < 0 then -d else d) / (Int.gcd n d : Int)
def Fits (n d : Int) : Prop := Rd n d ≤ 1000000000 ∧ (-1000000000 ≤ Rn n d ∧ Rn n d ≤ 1000000000)
instance (n d : Int) : Decidable (Fits n d) := inferInstanceAs (Decidable (_ ∧ _))
def Low (n d : Int) : Int × Int × Int := if Fits n d then (Rn n d, Rd n d, 0) else (0, 0, 8)
def NumE (n d : Int) : Except Int (Int × Int) := if Fits n d then .ok (Rn n d, Rd n d) else .error 0
theorem gcd_pos {n d : Int} (h : d ≠ 0) : 0 < Int.gcd n d := Nat.gcd_pos_of_pos_right _ (by omega)
theorem le_div {a : Int} {g : Nat} (hg : 0 < g) {b : Int} (h : -b ≤ a) (h' : a ≤ b) : -b ≤ a / (g : Int) ∧ a / (g : Int) ≤ b := by
  have hb : 0 ≤ b := by omega
  refine ⟨?_, ?_⟩
  · have : -b ≤ (-b) / (g : Int) := by
      have := Int.le_ediv_of_mul_le (a := -b) (b := -b) (c := (g : Int)) (by omega) (by
        have : (1 : Int) ≤ g := by omega
        have := Int.mul_le_mul_of_nonneg_left this hb
        have e : -b * (g : Int) = -(b * g) := by rw [Int.neg_mul]
        omega)
      exact this
    exact Int.le_trans this (Int.ediv_le_ediv (by omega) h)
  · exact Int.le_trans (Int.ediv_le_ediv (by omega) h') (Int.ediv_le_self _ hb)
theorem core_num (n d : Int) (hn : -9223372036854775807 ≤ n) (hn' : n ≤ 9223372036854775807) (hd : -9223372036854775807 ≤ d) (hd' : d ≤ 9223372036854775807) (h0 : d ≠ 0) :
    wrap64 (Int.tdiv (if d < 0 then wrap64 (-n) else n) (Int.gcd n d)) = Rn n d ∧ wrap64 (Int.tdiv (if d < 0 then wrap64 (-d) else d) (Int.gcd n d)) = Rd n d := by
  have hg := gcd_pos (n := n) h0
  have d1 : ((Int.gcd n d : Nat) : Int) ∣ (if d < 0 then -n else n) := by
    split
    · exact Int.dvd_neg.mpr (Int.gcd_dvd_left ..)
    · exact Int.gcd_dvd_left ..
  have d2 : ((Int.gcd n d : Nat) : Int) ∣ (if d < 0 then -d else d) := by
    split
    · exact Int.dvd_neg.mpr (Int.gcd_dvd_right ..)
    · exact Int.gcd_dvd_right ..
  have e1 : (if d < 0 then wrap64 (-n) else n) = (if d < 0 then -n else n) := by rw [w64 (by omega) (by omega)]
  have e2 : (if d < 0 then wrap64 (-d) else d) = (if d < 0 then -d else d) := by rw [w64 (by omega) (by omega)]
  rw [e1, e2, Int.tdiv_eq_ediv_of_dvd d1, Int.tdiv_eq_ediv_of_dvd d2]
  have b1 := le_div hg (a := if d < 0 then -n else n) (b := 9223372036854775807) (by split <;> omega) (by split <;> omega)
  have b2 := le_div hg (a := if d < 0 then -d else d) (b := 9223372036854775807) (by split <;> omega) (by split <;> omega)
  exact ⟨w64 (by omega) b1.2, w64 (by omega) b2.2⟩
theorem gcd_sign (n d : Int) : Int.gcd (if d < 0 then wrap64 (-n) else n) (if d < 0 then wrap64 (-d) else d) = Int.gcd n d ∨ ¬ (-9223372036854775807 ≤ n ∧ n ≤ 9223372036854775807 ∧ -9223372036854775807 ≤ d ∧ d ≤ 9223372036854775807) := by
  by_cases h : (-9223372036854775807 ≤ n ∧ n ≤ 9223372036854775807 ∧ -9223372036854775807 ≤ d ∧ d ≤ 9223372036854775807)
  · left
    rw [w64 (by omega) (by omega), w64 (by omega) (by omega)]
    split
    · rw [Int.neg_gcd, Int.gcd_neg]
    · rfl
  · exact Or.inr h
theorem ev_num {n d : Int} (hn : -9223372036854775807 ≤ n) (hn' : n ≤ 9223372036854775807) (hd : -9223372036854775807 ≤ d) (hd' : d ≤ 9223372036854775807) (h0 : d ≠ 0) :
    Ev (fun k => num_ratio_num.f k n d) (NumE n d) := by
  have hg := gcd_pos (n := n) h0
  obtain ⟨c1, c2⟩ := core_num n d hn hn' hd hd' h0
  have hs := (gcd_sign n d).resolve_right (by omega)
  refine Ev.congr (f := fun k => num_ratio_num.j0 k (if d < 0 then wrap64 (-n) else n) (if d < 0 then wrap64 (-d) else d)) (fun k => ?_) ?_
  · unfold num_ratio_num.f
    split <;> rfl
  · generalize hN : (if d < 0 then wrap64 (-n) else n) = N at *
    generalize hD : (if d < 0 then wrap64 (-d) else d) = D at *
    have hNr : -9223372036854775807 ≤ N ∧ N ≤ 9223372036854775807 := by rw [← hN, w64 (by omega) (by omega)]; split <;> omega
    have hDr : (-9223372036854775807 ≤ D ∧ D ≤ 9223372036854775807) ∧ D ≠ 0 := by rw [← hD, w64 (by omega) (by omega)]; split <;> omega
    refine Ev.step (f := fun k => (num_divisor.f k N D).bind fun t => if t = 0 then none else if wrap64 (Int.tdiv D t) > 1000000000 then some (.error (0 : Int)) else (num_within.f (-1000000000) 1000000000 [wrap64 (Int.tdiv N t)]).bind fun u => if u = true then some (.ok (ε := Int) (wrap64 (Int.tdiv N t), wrap64 (Int.tdiv D t))) else some (.error (0 : Int))) (fun k => rfl) ?_
    refine Ev.bind (ev_divisor hNr.1 hNr.2 hDr.1.1 hDr.1.2 hDr.2) ?_
    rw [hs]
    simp only [c1, c2, within_1, Option.bind_some]
    refine Ev.isNow fun k => ?_
    rw [if_neg (by omega)]
    unfold NumE
    by_cases a : Rd n d > 1000000000
    · rw [if_pos a, if_neg (fun h : Fits n d => by have := h.1; omega)]
    · rw [if_neg a]
      by_cases b : -1000000000 ≤ Rn n d ∧ Rn n d ≤ 1000000000
      · rw [if_pos (show Fits n d from ⟨by omega, b⟩)]
        simp only [b, and_self, decide_true, if_true]
      · rw [if_neg (fun h : Fits n d => b h.2)]
        simp only [b, decide_false, if_false, Bool.false_eq_true]
theorem exc_num (n d : Int) : exc (NumE n d) (fun _ => some (0, 0, 8)) (fun b => some (b.1, b.2, 0)) = some (Low n d) := by
  unfold NumE Low
  split <;> rfl
def ChkL : List S23 → Int
  | [] => 0
  | a :: l => if Chk a.f0 a.f1 = 0 then ChkL l else Chk a.f0 a.f1
theorem checked_loop (l : List S23) (hl : l.length < 9223372036854775807) : ∀ (m i : Nat), i + m = l.length → Ev (fun k => num_checked.l0 k l (l.length : Int) (i : Int)) (ChkL (l.drop i)) := by
  intro m
  induction m with
  | zero =>
    intro i hi
    rw [List.drop_of_length_le (by omega)]
    refine Ev.step (f := fun _ => some 0) (fun k => ?_) (Ev.now _)
    show (if (i : Int) < (l.length : Int) then _ else _) = _
    rw [if_neg (by omega)]
  | succ m ih =>
    intro i hi
    have hlt : i < l.length := by omega
    have hx : rd_T23 l (i : Int) = l[i] := by
      unfold rd_T23
      rw [Int.toNat_natCast, List.getD_eq_getElem?_getD, List.getElem?_eq_getElem hlt]
      rfl
    rw [List.drop_eq_getElem_cons hlt]
    refine Ev.step (f := fun k => (num_Check.f k (l[i]).f0 (l[i]).f1).bind fun t => if t = 0 then num_checked.l0 k l (l.length : Int) ((i + 1 : Nat) : Int) else some t) (fun k => ?_) ?_
    · show (if (i : Int) < (l.length : Int) then (if 0 ≤ (i : Int) then (if (i : Int) < (l.length : Int) then _ else _) else _) else _) = _
      rw [if_pos (by omega), if_pos (by omega), if_pos (by omega), hx, w64 (by omega) (by omega)]
      rfl
    · refine Ev.bind (ev_check _ _) ?_
      show Ev _ (if Chk l[i].f0 l[i].f1 = 0 then ChkL (l.drop (i + 1)) else Chk l[i].f0 l[i].f1)
      by_cases c : Chk l[i].f0 l[i].f1 = 0
      · simp only [c, if_true]
        exact ih (i + 1) (by omega)
      · simp only [c, if_false]
        exact Ev.now _
theorem ev_checked (l : List S23) (hl : l.length < 9223372036854775807) : Ev (fun k => num_checked.f k l) (ChkL l) := by
  have := checked_loop l hl l.length 0 (by omega)
  rwa [List.drop_zero] at this
def Chk2 (a b c d : Int) : Int := if Chk a b = 0 then Chk c d else Chk a b
theorem ev_checked2 (a b c d : Int) : Ev (fun k => num_checked.f k [(⟨a, b⟩ : S23), ⟨c, d⟩]) (Chk2 a b c d) := by
  have h := ev_checked [(⟨a, b⟩ : S23), ⟨c, d⟩] (by simp)
  have e : ChkL [(⟨a, b⟩ : S23), ⟨c, d⟩] = Chk2 a b c d := by
    show (if Chk a b = 0 then (if Chk c d = 0 then (0 : Int) else Chk c d) else Chk a b) = _
    unfold Chk2
    by_cases x : Chk a b = 0
    · rw [if_pos x, if_pos x]
      by_cases y : Chk c d = 0
      · rw [if_pos y, y]
      · rw [if_neg y]
    · rw [if_neg x, if_neg x]
  rwa [e] at h
/-- a number's fields are in the bounds, and in lowest terms -/
structure Ok (n d : Int) : Prop where
  d1 : 1 ≤ d
  d2 : d ≤ 1000000000
  n1 : -1000000000 ≤ n
  n2 : n ≤ 1000000000
  g : Int.gcd n d = 1
theorem Chk_ok {n d : Int} : Chk n d = 0 ↔ Ok n d := by
  unfold Chk
  constructor
  · intro h
    split at h
    · rename_i c
      split at h
      · exact absurd h (by decide)
      · have := gcd_pos (n := n) (d := d) (by omega)
        exact ⟨c.1.1, c.1.2, c.2.1, c.2.2, by omega⟩
    · exact absurd h (by decide)
  · intro h
    have := h.d1; have := h.d2; have := h.n1; have := h.n2; have := h.g
    rw [if_pos (by omega), if_neg (by omega)]
theorem Chk2_ok {a b c d : Int} : Chk2 a b c d = 0 ↔ Ok a b ∧ Ok c d := by
  unfold Chk2
  rw [← Chk_ok, ← Chk_ok]
  by_cases x : Chk a b = 0
  · simp [x]
  · simp [x]
theorem Ok.mul {a b c d : Int} (h : Ok a b) (k : Ok c d) : (-1000000000000000000 ≤ a * d ∧ a * d ≤ 1000000000000000000) ∧ (-1000000000000000000 ≤ c * b ∧ c * b ≤ 1000000000000000000) ∧ (1 ≤ b * d ∧ b * d ≤ 1000000000000000000) ∧ (-1000000000000000000 ≤ a * c ∧ a * c ≤ 1000000000000000000) ∧ (-1000000000000000000 ≤ b * c ∧ b * c ≤ 1000000000000000000) := by
  have bd : ∀ x y : Int, -1000000000 ≤ x → x ≤ 1000000000 → -1000000000 ≤ y → y ≤ 1000000000 → -1000000000000000000 ≤ x * y ∧ x * y ≤ 1000000000000000000 := by
    intro x y h1 h2 h3 h4
    have a1 : x.natAbs ≤ 1000000000 := by omega
    have a2 : y.natAbs ≤ 1000000000 := by omega
    have a3 := Nat.mul_le_mul a1 a2
    rw [← Int.natAbs_mul] at a3
    omega
  have := h.d1; have := h.d2; have := h.n1; have := h.n2; have := k.d1; have := k.d2; have := k.n1; have := k.n2
  refine ⟨bd _ _ (by omega) (by omega) (by omega) (by omega), bd _ _ (by omega) (by omega) (by omega) (by omega), ⟨?_, (bd b d (by omega) (by omega) (by omega) (by omega)).2⟩, bd _ _ (by omega) (by omega) (by omega) (by omega), bd _ _ (by omega) (by omega) (by omega) (by omega)⟩
  have := Int.mul_le_mul h.d1 k.d1 (by omega) (by omega)
  omega
def SubR (a b c d : Int) : Int × Int × Int := if Chk2 a b c d = 0 then Low (a * d - c * b) (b * d) else (0, 0, Chk2 a b c d)
theorem reck {opf : Int → Int → Int → Int → Option (Int × Int)} {dv : Bool} {a b c d : Int} {R : Int × Int × Int} {N D : Int}
    (hop : Ok a b → Ok c d → ¬ (dv = true ∧ c = 0) → opf a b c d = some (N, D) ∧ (-9223372036854775807 ≤ N ∧ N ≤ 9223372036854775807) ∧ (-9223372036854775807 ≤ D ∧ D ≤ 9223372036854775807) ∧ D ≠ 0)
    (hR : R = if Chk2 a b c d = 0 then (if dv = true ∧ c = 0 then (0, 0, 10) else Low N D) else (0, 0, Chk2 a b c d)) : Ev (fun k => num_reckon.g opf dv k a b c d) R := by
  subst hR
  unfold num_reckon.g
  refine Ev.bind (ev_checked2 a b c d) ?_
  by_cases x : Chk2 a b c d = 0
  · simp only [x, if_true]
    by_cases y : dv = true ∧ c = 0
    · simp only [y, and_self, if_true]
      exact Ev.now _
    · simp only [y, if_false]
      obtain ⟨h1, h2⟩ := Chk2_ok.mp x
      obtain ⟨e, n1, d1, d0⟩ := hop h1 h2 y
      simp only [e, Option.bind_some]
      refine Ev.bind (ev_num n1.1 n1.2 d1.1 d1.2 d0) ?_
      rw [exc_num]
      exact Ev.now _
  · simp only [x, if_false]
    exact Ev.now _
theorem ev_three {g : Nat → Option (Int × Int × Int)} {R : Int × Int × Int} (h : Ev g R) : Ev (fun k => (g k).bind fun b => some (b.1, b.2.1, b.2.2)) R :=
  Ev.bind h (Ev.now _)
theorem ev_Sub (a b c d : Int) : Ev (fun k => num_Sub.f k a b c d) (SubR a b c d) := by
  refine ev_three (Ev.congr (f := fun k => num_reckon.g num_ratio_minus.f false k a b c d) (fun k => rfl) (reck (N := a * d - c * b) (D := b * d) (fun h k _ => ?_) ?_))
  · have := h.mul k
    refine ⟨?_, by omega, by omega, by omega⟩
    unfold num_ratio_minus.f
    rw [w64 (n := a * d) (by omega) (by omega), w64 (n := c * b) (by omega) (by omega), w64 (by omega) (by omega), w64 (by omega) (by omega)]
  · simp [SubR]
def CmpV (a b c d : Int) : Int := if a * d < c * b then -1 else if a * d > c * b then 1 else 0
def CmpR (a b c d : Int) : Int × Int := if Chk2 a b c d = 0 then (CmpV a b c d, 0) else (0, Chk2 a b c d)
theorem compare_f (x y : Int) : cmp_Compare_int.f x y = some (if x < y then -1 else if x > y then 1 else 0) := by
  unfold cmp_Compare_int.f cmp_isNaN_int.f
  simp only [bne_self_eq_false, Option.bind_some, Bool.false_eq_true, if_false]
  by_cases h : x < y
  · rw [if_pos h, if_pos h]
  · rw [if_neg h, if_neg h]
    by_cases k : x > y
    · rw [if_pos k, if_pos k]
    · rw [if_neg k, if_neg k]
theorem ratio_compare {a b c d : Int} (h : Ok a b) (k : Ok c d) : num_ratio_compare.f a b c d = some (CmpV a b c d) := by
  have := h.mul k
  unfold num_ratio_compare.f
  rw [w64 (n := a * d) (by omega) (by omega), w64 (n := c * b) (by omega) (by omega), compare_f]
  rfl
theorem ev_Cmp (a b c d : Int) : Ev (fun k => num_Cmp.f k a b c d) (CmpR a b c d) := by
  unfold num_Cmp.f CmpR
  refine Ev.bind (ev_checked2 a b c d) ?_
  by_cases x : Chk2 a b c d = 0
  · simp only [x, if_true]
    obtain ⟨h1, h2⟩ := Chk2_ok.mp x
    unfold num_of.f
    simp only [Option.bind_some, ratio_compare h1 h2]
    exact Ev.now _
  · simp only [x, if_false]
    exact Ev.now _
theorem floor_div {n d : Int} (h0 : 1 ≤ d) (h1 : d ≤ 9223372036854775807) (hn : -9223372036854775807 ≤ n) (hn' : n ≤ 9223372036854775807) : num_ratio_floor.f n d = some (n / d) := by
  have b := le_div (a := n) (g := d.toNat) (by omega) hn hn'
  rw [Int.toNat_of_nonneg (by omega)] at b
  have e1 : n.tdiv d = n / d + (if 0 ≤ n ∨ d ∣ n then 0 else 1) := by
    rw [Int.tdiv_eq_ediv]
    have : d.sign = 1 := Int.sign_eq_one_of_pos (by omega)
    rw [this]
  have e2 : n.tmod d = n % d - (if 0 ≤ n ∨ d ∣ n then 0 else d) := by
    rw [Int.tmod_eq_emod]
    by_cases c : 0 ≤ n ∨ d ∣ n
    · rw [if_pos c, if_pos c]
      rfl
    · rw [if_neg c, if_neg c]
      omega
  have p1 := Int.emod_nonneg n (b := d) (by omega)
  have p2 := Int.emod_lt_of_pos n (b := d) (by omega)
  unfold num_ratio_floor.f
  rw [if_neg (by omega), e1, e2]
  by_cases c : 0 ≤ n ∨ d ∣ n
  · rw [if_pos c, if_pos c, if_neg (by omega), Int.add_zero, w64 (by omega) (by omega)]
  · rw [if_neg c, if_neg c, if_pos (by omega)]
    have hneg : n / d < 0 := Int.ediv_neg_of_neg_of_pos (by omega) (by omega)
    rw [w64 (n := n / d + 1) (by omega) (by omega), w64 (by omega) (by omega)]
    congr 1
    omega
theorem Chk2_zero {a b c d : Int} (h : Ok a b) (k : Ok c d) : Chk2 a b c d = 0 := Chk2_ok.mpr ⟨h, k⟩
def FitQ (q : Rat) : Prop := (q.den : Int) ≤ 1000000000 ∧ (-1000000000 ≤ q.num ∧ q.num ≤ 1000000000)
instance (q : Rat) : Decidable (FitQ q) := inferInstanceAs (Decidable (_ ∧ _))
def LowQ (q : Rat) : Int × Int × Int := if FitQ q then (q.num, (q.den : Int), 0) else (0, 0, 8)
theorem Rn_q {n d : Int} (h0 : d ≠ 0) : Rn n d = (Rat.divInt n d).num ∧ Rd n d = ((Rat.divInt n d).den : Int) := by
  rw [Rat.num_divInt, Rat.den_divInt, if_neg h0, Int.gcd_comm d n]
  unfold Rn Rd
  refine ⟨?_, ?_⟩
  · congr 1
    split
    · rename_i h
      rw [Int.sign_eq_neg_one_of_neg h, Int.neg_one_mul]
    · rw [Int.sign_eq_one_of_pos (by omega), Int.one_mul]
  · rw [Int.natCast_ediv]
    congr 1
    split <;> omega
theorem Low_q {n d : Int} (h0 : d ≠ 0) : Low n d = LowQ (Rat.divInt n d) := by
  obtain ⟨e1, e2⟩ := Rn_q (n := n) h0
  unfold Low LowQ
  have : Fits n d ↔ FitQ (Rat.divInt n d) := by
    unfold Fits FitQ
    rw [e1, e2]
  by_cases c : Fits n d
  · rw [if_pos c, if_pos (this.mp c), e1, e2]
  · rw [if_neg c, if_neg (fun h => c (this.mpr h))]
theorem ok_q {q : Rat} (h : FitQ q) : Ok q.num q.den := by
  have := q.den_pos
  refine ⟨by omega, h.1, h.2.1, h.2.2, ?_⟩
  have := q.reduced
  unfold Nat.Coprime at this
  exact this
theorem q_ok {n d : Int} (h : Ok n d) : ∃ q, FitQ q ∧ n = q.num ∧ d = (q.den : Int) := by
  have h0 : d ≠ 0 := by have := h.d1; omega
  obtain ⟨e1, e2⟩ := Rn_q (n := n) h0
  have g := h.g
  have r1 : Rn n d = n := by
    unfold Rn
    rw [g, if_neg (by have := h.d1; omega)]
    exact Int.ediv_one n
  have r2 : Rd n d = d := by
    unfold Rd
    rw [g, if_neg (by have := h.d1; omega)]
    exact Int.ediv_one d
  refine ⟨Rat.divInt n d, ⟨?_, ?_⟩, by rw [← e1, r1], by rw [← e2, r2]⟩
  · rw [← e2, r2]; exact h.d2
  · rw [← e1, r1]; exact ⟨h.n1, h.n2⟩
theorem den_ne (q : Rat) : (q.den : Int) ≠ 0 := by have := q.den_pos; omega
theorem Chk2_q {p q : Rat} (hp : FitQ p) (hq : FitQ q) : Chk2 p.num p.den q.num q.den = 0 := Chk2_zero (ok_q hp) (ok_q hq)
theorem SubQ {p q : Rat} (hp : FitQ p) (hq : FitQ q) : SubR p.num p.den q.num q.den = LowQ (p - q) := by
  unfold SubR
  rw [if_pos (Chk2_q hp hq), Low_q (Int.mul_ne_zero (den_ne p) (den_ne q)), ← Rat.divInt_sub_divInt _ _ (den_ne p) (den_ne q), Rat.num_divInt_den, Rat.num_divInt_den]
def cmpQ (p q : Rat) : Int := if p < q then -1 else if q < p then 1 else 0
theorem CmpQ {p q : Rat} (hp : FitQ p) (hq : FitQ q) : CmpR p.num p.den q.num q.den = (cmpQ p q, 0) := by
  unfold CmpR CmpV cmpQ
  rw [if_pos (Chk2_q hp hq)]
  simp only [Rat.lt_iff]
theorem FitQ.neg {p : Rat} (hp : FitQ p) : FitQ (-p) := by
  unfold FitQ at *
  rw [Rat.neg_num, Rat.neg_den]
  omega
theorem LowQ_fit {q : Rat} (h : FitQ q) : LowQ q = (q.num, (q.den : Int), 0) := if_pos h
theorem LowQ_no {q : Rat} (h : ¬ FitQ q) : LowQ q = (0, 0, 8) := if_neg h
theorem cmpQ_lt {p q : Rat} (h : p < q) : cmpQ p q = -1 := if_pos h
theorem cmpQ_eq (p : Rat) : cmpQ p p = 0 := by
  unfold cmpQ
  rw [if_neg Rat.lt_irrefl, if_neg Rat.lt_irrefl]
theorem ev_fit (a b c d e f : Int) : Ev (fun k => withylaw01_fit.f k a b c d e f) (decide (Chk a b = 0 ∧ Chk c d = 0 ∧ Chk e f = 0)) := by
  unfold withylaw01_fit.f
  refine Ev.bind (ev_rcheck a b) ?_
  by_cases x : Chk a b = 0
  · simp only [x, if_true, true_and]
    refine Ev.bind (ev_rcheck c d) ?_
    by_cases y : Chk c d = 0
    · simp only [y, if_true, true_and]
      refine Ev.bind (ev_rcheck e f) ?_
      by_cases z : Chk e f = 0
      · simp only [z, decide_true, beq_self_eq_true]
        exact Ev.now _
      · rw [decide_eq_false z, beq_eq_false_iff_ne.mpr z]
        exact Ev.now _
    · simp only [y, if_false, false_and, decide_false]
      exact Ev.now _
  · simp only [x, if_false, false_and, decide_false]
    exact Ev.now _
def Off (an ad n d : Int) : Int := ((an * d - n * ad).natAbs : Int)
def Simp (x y : Int × Int) : Prop := x.2 < y.2 ∨ x.2 = y.2 ∧ (x.1.natAbs < y.1.natAbs ∨ x.1.natAbs = y.1.natAbs ∧ y.1 < x.1)
def Bt (an ad : Int) (x y : Int × Int) : Prop := Off an ad x.1 x.2 * y.2 < Off an ad y.1 y.2 * x.2 ∨ Off an ad x.1 x.2 * y.2 = Off an ad y.1 y.2 * x.2 ∧ Simp x y
instance (x y : Int × Int) : Decidable (Simp x y) := inferInstanceAs (Decidable (_ ∨ _))
instance (an ad : Int) (x y : Int × Int) : Decidable (Bt an ad x y) := inferInstanceAs (Decidable (_ ∨ _))
theorem Simp.trans {x y z : Int × Int} (h : Simp x y) (k : Simp y z) : Simp x z := by
  unfold Simp at *
  omega
theorem Simp.irrefl (x : Int × Int) : ¬ Simp x x := by
  unfold Simp
  omega
theorem Bt.irrefl (an ad : Int) (x : Int × Int) : ¬ Bt an ad x x := by
  rintro (h | ⟨_, h⟩)
  · exact Int.lt_irrefl _ h
  · exact Simp.irrefl x h
theorem Bt.trans {an ad : Int} {x y z : Int × Int} (hx : 0 < x.2) (hy : 0 < y.2) (hz : 0 < z.2) (h : Bt an ad x y) (k : Bt an ad y z) : Bt an ad x z := by
  have ho : Off an ad x.1 x.2 * y.2 ≤ Off an ad y.1 y.2 * x.2 := by rcases h with h | ⟨h, _⟩ <;> omega
  have ko : Off an ad y.1 y.2 * z.2 ≤ Off an ad z.1 z.2 * y.2 := by rcases k with k | ⟨k, _⟩ <;> omega
  have a1 := Int.mul_le_mul_of_nonneg_right ho (Int.le_of_lt hz)
  have a2 := Int.mul_le_mul_of_nonneg_right ko (Int.le_of_lt hx)
  have e1 : Off an ad x.1 x.2 * y.2 * z.2 = Off an ad x.1 x.2 * z.2 * y.2 := Int.mul_right_comm ..
  have e2 : Off an ad y.1 y.2 * x.2 * z.2 = Off an ad y.1 y.2 * z.2 * x.2 := Int.mul_right_comm ..
  have e3 : Off an ad z.1 z.2 * y.2 * x.2 = Off an ad z.1 z.2 * x.2 * y.2 := Int.mul_right_comm ..
  rcases Int.lt_or_le (Off an ad x.1 x.2 * z.2) (Off an ad z.1 z.2 * x.2) with c | c
  · exact Or.inl c
  · have c1 := Int.mul_le_mul_of_nonneg_right c (Int.le_of_lt hy)
    have le : Off an ad x.1 x.2 * z.2 ≤ Off an ad z.1 z.2 * x.2 := by
      have : Off an ad x.1 x.2 * z.2 * y.2 ≤ Off an ad z.1 z.2 * x.2 * y.2 := by omega
      exact Int.le_of_mul_le_mul_right this hy
    right
    refine ⟨by omega, ?_⟩
    have f1 : ¬ Off an ad x.1 x.2 * y.2 < Off an ad y.1 y.2 * x.2 := fun w => by
      have := Int.mul_lt_mul_of_pos_right w hz
      omega
    have f2 : ¬ Off an ad y.1 y.2 * z.2 < Off an ad z.1 z.2 * y.2 := fun w => by
      have := Int.mul_lt_mul_of_pos_right w hx
      omega
    rcases h with h | ⟨_, h⟩
    · exact absurd h f1
    · rcases k with k | ⟨_, k⟩
      · exact absurd k f2
      · exact h.trans k
/-- the first one that is better than all before it -/
def BestZ (an ad : Int) : Int × Int → List (Int × Int) → Int × Int
  | o, [] => o
  | o, x :: l => BestZ an ad (if Bt an ad x o then x else o) l
theorem BestZ_mem (an ad : Int) : ∀ (l : List (Int × Int)) (o : Int × Int), BestZ an ad o l ∈ o :: l
  | [], o => List.mem_singleton.mpr rfl
  | x :: l, o => by
    have := BestZ_mem an ad l (if Bt an ad x o then x else o)
    unfold BestZ
    rcases List.mem_cons.mp this with h | h
    · rw [h]
      split
      · exact List.mem_cons_of_mem _ (List.mem_cons_self ..)
      · exact List.mem_cons_self ..
    · exact List.mem_cons_of_mem _ (List.mem_cons_of_mem _ h)
theorem BestZ_best (an ad : Int) : ∀ (l : List (Int × Int)) (o : Int × Int), 0 < o.2 → (∀ x ∈ l, 0 < x.2) → ∀ z : Int × Int, 0 < z.2 → (¬ Bt an ad z o ∨ z ∈ l) → ¬ Bt an ad z (BestZ an ad o l)
  | [], o, _, _, z, _, h => h.resolve_right (List.not_mem_nil)
  | x :: l, o, ho, hl, z, hz, h => by
    unfold BestZ
    have hx := hl x (List.mem_cons_self ..)
    refine BestZ_best an ad l _ (by split <;> assumption) (fun y hy => hl y (List.mem_cons_of_mem _ hy)) z hz ?_
    rcases h with h | h
    · left
      split
      · rename_i c
        exact fun w => h (w.trans hz hx ho c)
      · exact h
    · rcases List.mem_cons.mp h with rfl | h
      · left
        split
        · exact Bt.irrefl _ _ _
        · assumption
      · exact Or.inr h
/-- the whole numbers beside a, over each denominator -/
def CandZ (an ad : Int) : Nat → List (Int × Int)
  | 0 => []
  | m + 1 => CandZ an ad m ++ [(an * ((m + 1 : Nat) : Int) / ad, ((m + 1 : Nat) : Int)), (an * ((m + 1 : Nat) : Int) / ad + 1, ((m + 1 : Nat) : Int))]
theorem CandZ_mem {an ad : Int} {x : Int × Int} : ∀ {m : Nat}, x ∈ CandZ an ad m ↔ ∃ d : Nat, 1 ≤ d ∧ d ≤ m ∧ (x = (an * (d : Int) / ad, (d : Int)) ∨ x = (an * (d : Int) / ad + 1, (d : Int)))
  | 0 => by
    refine ⟨fun h => absurd h (List.not_mem_nil), ?_⟩
    rintro ⟨d, a, b, _⟩
    omega
  | m + 1 => by
    unfold CandZ
    rw [List.mem_append, CandZ_mem]
    constructor
    · rintro (⟨d, a, b, c⟩ | h)
      · exact ⟨d, a, by omega, c⟩
      · rcases List.mem_cons.mp h with h | h
        · exact ⟨m + 1, by omega, by omega, Or.inl h⟩
        · exact ⟨m + 1, by omega, by omega, Or.inr (List.mem_singleton.mp h)⟩
    · rintro ⟨d, a, b, c⟩
      by_cases e : d = m + 1
      · subst e
        right
        rcases c with c | c
        · rw [c]; exact List.mem_cons_self ..
        · rw [c]; exact List.mem_cons_of_mem _ (List.mem_cons_self ..)
      · exact Or.inl ⟨d, a, by omega, c⟩
/-- what no candidate is better than, nothing is better than -/
theorem no_better {an ad : Int} (h0 : 0 < ad) {m : Nat} {r : Int × Int} (hr : 0 < r.2) (h : ∀ x ∈ CandZ an ad m, ¬ Bt an ad x r) (n : Int) (d : Nat) (h1 : 1 ≤ d) (h2 : d ≤ m) : ¬ Bt an ad (n, (d : Int)) r := by
  have c1 := h _ (CandZ_mem.mpr ⟨d, h1, h2, Or.inl rfl⟩)
  have c2 := h _ (CandZ_mem.mpr ⟨d, h1, h2, Or.inr rfl⟩)
  have p1 := Int.emod_nonneg (an * (d : Int)) (b := ad) (by omega)
  have p2 := Int.emod_lt_of_pos (an * (d : Int)) h0
  have p3 := Int.emod_add_mul_ediv (an * (d : Int)) ad
  have p4 : ad * (an * (d : Int) / ad) = an * (d : Int) / ad * ad := Int.mul_comm ..
  generalize hf : an * (d : Int) / ad = f at c1 c2 p3 p4
  by_cases e1 : n = f
  · rw [e1]; exact c1
  · by_cases e2 : n = f + 1
    · rw [e2]; exact c2
    · -- farther than one of them
      have far : ∀ g : Int, ¬ Bt an ad (g, (d : Int)) r → Off an ad g d < Off an ad n d → ¬ Bt an ad (n, (d : Int)) r := fun g hg lt w => by
        have a1 : Off an ad g d * r.2 < Off an ad n d * r.2 := Int.mul_lt_mul_of_pos_right lt hr
        have a2 : Off an ad n d * r.2 ≤ Off an ad r.1 r.2 * d := by rcases w with w | ⟨w, _⟩ <;> (dsimp only at w; omega)
        exact hg (Or.inl (by dsimp only; omega))
      have e3 : (f + 1) * ad = f * ad + ad := by rw [Int.add_mul, Int.one_mul]
      rcases Int.lt_or_le n f with c | c
      · refine far f c1 ?_
        have : (n + 1) * ad ≤ f * ad := Int.mul_le_mul_of_nonneg_right (by omega) (by omega)
        have e4 : (n + 1) * ad = n * ad + ad := by rw [Int.add_mul, Int.one_mul]
        unfold Off
        omega
      · refine far (f + 1) c2 ?_
        have : (f + 1 + 1) * ad ≤ n * ad := Int.mul_le_mul_of_nonneg_right (by omega) (by omega)
        have e4 : (f + 1 + 1) * ad = (f + 1) * ad + ad := by rw [Int.add_mul, Int.one_mul]
        unfold Off
        omega
/-- the best one is in lowest terms -/
theorem best_low {an ad : Int} (h0 : 0 < ad) {m : Nat} {r : Int × Int} (hr : 0 < r.2) (hm : r.2 ≤ m) (h : ∀ x ∈ CandZ an ad m, ¬ Bt an ad x r) : ∃ q : Rat, r = (q.num, (q.den : Int)) := by
  obtain ⟨n, d⟩ := r
  dsimp only at hr hm
  have hd0 : d ≠ 0 := by omega
  obtain ⟨e1, e2⟩ := Rn_q (n := n) hd0
  have hx : n * ((Rat.divInt n d).den : Int) = (Rat.divInt n d).num * d := by
    rw [← e1, ← e2]
    have hg := gcd_pos (n := n) hd0
    have d1 : ((Int.gcd n d : Nat) : Int) ∣ n := Int.gcd_dvd_left ..
    have d2 : ((Int.gcd n d : Nat) : Int) ∣ d := Int.gcd_dvd_right ..
    unfold Rn Rd
    rw [if_neg (by omega), if_neg (by omega), ← Int.mul_ediv_assoc n d2, Int.mul_ediv_assoc' d d1]
  have le : ((Rat.divInt n d).den : Int) ≤ d := by
    rw [← e2]
    unfold Rd
    rw [if_neg (by omega)]
    exact Int.ediv_le_self _ (by omega)
  generalize Rat.divInt n d = q at hx le
  clear e1 e2
  have q0 := q.den_pos
  have nb := no_better h0 (r := (n, d)) hr h q.num q.den (by omega) (by omega)
  have eo : Off an ad q.num q.den * d = Off an ad n d * q.den := by
    unfold Off
    have e : (an * (q.den : Int) - q.num * ad) * d = (an * d - n * ad) * (q.den : Int) := by grind
    have e' := congrArg Int.natAbs e
    rw [Int.natAbs_mul, Int.natAbs_mul] at e'
    have k1 : ((d.natAbs : Nat) : Int) = d := by omega
    have k2 := congrArg (fun z : Nat => (z : Int)) e'
    simp only [Int.natCast_mul, k1, Int.natAbs_natCast] at k2
    exact k2
  have ns : ¬ Simp (q.num, (q.den : Int)) (n, d) := fun w => nb (Or.inr ⟨eo, w⟩)
  have de : d = q.den := by
    rcases Int.lt_or_le (q.den : Int) d with c | c
    · exact absurd (Or.inl c) ns
    · omega
  refine ⟨q, ?_⟩
  rw [de] at hx
  rw [← de, Int.eq_of_mul_eq_mul_right (den_ne q) hx]
theorem divInt_cast1 (d : Int) : Rat.divInt d 1 = (d : Rat) := Rat.num_divInt_den (d : Rat)
theorem divInt_back1 {n d : Int} (h0 : d ≠ 0) : Rat.divInt n d * (d : Rat) = (n : Rat) := by
  have e := Rat.divInt_mul_divInt n d (d₁ := d) (d₂ := 1)
  rw [divInt_cast1, Int.mul_one] at e
  rw [e, ← divInt_cast1 n]
  exact (Rat.divInt_eq_divInt_iff h0 (by decide)).mpr (by rw [Int.mul_one])
theorem num_den1 (a : Rat) : a * ((a.den : Int) : Rat) = ((a.num : Int) : Rat) := by
  have := divInt_back1 (n := a.num) (den_ne a)
  rwa [Rat.num_divInt_den] at this
theorem den_q (q : Rat) : (0 : Rat) < ((q.den : Int) : Rat) := by
  have h : (0 : Int) < (q.den : Int) := by have := q.den_pos; omega
  exact Rat.intCast_lt_intCast.mpr h
theorem AbsQ_mul {x a : Rat} : (if x - a < 0 then -(x - a) else x - a) * (((x.den : Int) : Rat) * ((a.den : Int) : Rat)) = ((Off a.num a.den x.num x.den : Int) : Rat) := by
  have e : (x - a) * (((x.den : Int) : Rat) * ((a.den : Int) : Rat)) = (((x.num * a.den - a.num * x.den : Int)) : Rat) := by
    have h1 := num_den1 x
    have h2 := num_den1 a
    simp only [Rat.intCast_sub, Rat.intCast_mul]
    grind
  have p : (0 : Rat) < ((x.den : Int) : Rat) * ((a.den : Int) : Rat) := Rat.mul_pos (den_q x) (den_q a)
  unfold Off
  split
  · rename_i c
    have : x.num * a.den - a.num * x.den < 0 := by
      apply Rat.intCast_lt_intCast.mp
      rw [← e]
      have := Rat.mul_lt_mul_of_pos_right c p
      rw [Rat.zero_mul] at this
      exact this
    have g : ((a.num * x.den - x.num * a.den).natAbs : Int) = -(x.num * a.den - a.num * x.den) := by omega
    rw [g, Rat.intCast_neg, ← e, Rat.neg_mul]
  · rename_i c
    have : 0 ≤ x.num * a.den - a.num * x.den := by
      apply Rat.intCast_le_intCast.mp
      rw [← e]
      have := Rat.mul_le_mul_of_nonneg_right (Rat.not_lt.mp c) (Rat.le_of_lt p)
      rw [Rat.zero_mul] at this
      exact this
    have g : ((a.num * x.den - x.num * a.den).natAbs : Int) = x.num * a.den - a.num * x.den := by omega
    rw [g, ← e]
/-- farther, or as far and not simpler -/
theorem near_cmp {x c a : Rat} (h : ¬ Bt a.num a.den (c.num, (c.den : Int)) (x.num, (x.den : Int))) :
    (if x - a < 0 then -(x - a) else x - a) < (if c - a < 0 then -(c - a) else c - a) ∨ (if x - a < 0 then -(x - a) else x - a) = (if c - a < 0 then -(c - a) else c - a) ∧ ¬ Simp (c.num, (c.den : Int)) (x.num, (x.den : Int)) := by
  have hx := AbsQ_mul (x := x) (a := a)
  have hc := AbsQ_mul (x := c) (a := a)
  generalize (if x - a < 0 then -(x - a) else x - a) = X at hx ⊢
  generalize (if c - a < 0 then -(c - a) else c - a) = C at hc ⊢
  have hle : Off a.num a.den x.num x.den * c.den ≤ Off a.num a.den c.num c.den * x.den := by
    rcases Int.lt_or_le (Off a.num a.den c.num c.den * x.den) (Off a.num a.den x.num x.den * c.den) with k | k
    · exact absurd (Or.inl k) h
    · exact k
  have heq : Off a.num a.den c.num c.den * x.den = Off a.num a.den x.num x.den * c.den → ¬ Simp (c.num, (c.den : Int)) (x.num, (x.den : Int)) := fun k w => h (Or.inr ⟨k, w⟩)
  clear h
  have px := den_q x
  have pc := den_q c
  have pa := den_q a
  have p := Rat.mul_pos (Rat.mul_pos px pc) pa
  have k := Rat.intCast_le_intCast.mpr hle
  simp only [Rat.intCast_mul] at k
  rw [← hx, ← hc] at k
  have kle : X ≤ C := by
    refine Rat.le_of_mul_le_mul_right (c := ((x.den : Int) : Rat) * ((c.den : Int) : Rat) * ((a.den : Int) : Rat)) ?_ p
    grind
  rcases Rat.le_iff_lt_or_eq.mp kle with l | l
  · exact Or.inl l
  · right
    refine ⟨l, heq ?_⟩
    apply Rat.intCast_inj.mp
    simp only [Rat.intCast_mul]
    rw [← hx, ← hc, l]
    grind
theorem or_f (a b c : Int) : Ev (fun k => cmp_Or_int.f k [a, b, c]) (if a = 0 then (if b = 0 then c else b) else a) := by
  refine ⟨4, fun k hk => ?_⟩
  obtain ⟨j, rfl⟩ : ∃ j, k = j + 4 := ⟨k - 4, by omega⟩
  have w1 : wrap64 1 = 1 := w64 (by decide) (by decide)
  have w2 : wrap64 2 = 2 := w64 (by decide) (by decide)
  have w3 : wrap64 3 = 3 := w64 (by decide) (by decide)
  show cmp_Or_int.l0 (j + 4) 0 [a, b, c] 3 0 = _
  by_cases ha : a = 0
  · by_cases hb : b = 0
    · by_cases hc : c = 0
      · simp [cmp_Or_int.l0, rd, ha, hb, hc, w1, w2, w3]
      · simp [cmp_Or_int.l0, rd, ha, hb, hc, w1, w2]
    · simp [cmp_Or_int.l0, rd, ha, hb, w1]
  · simp [cmp_Or_int.l0, rd, ha]
theorem simpler_f (a b c d : Int) (ha : -9223372036854775807 ≤ a ∧ a ≤ 9223372036854775807) (hc : -9223372036854775807 ≤ c ∧ c ≤ 9223372036854775807) :
    Ev (fun k => num_ratio_simpler.f k a b c d) (decide (Simp (a, b) (c, d))) := by
  unfold num_ratio_simpler.f
  simp only [compare_f, Option.bind_some, mx_abs ha.1 ha.2, mx_abs hc.1 hc.2]
  refine Ev.bind (or_f _ _ _) (Ev.isNow fun k => congrArg some (decide_eq_decide.mpr ?_))
  unfold Simp
  dsimp only
  omega
/-- beside a, over a denominator of at most 1000 -/
def CandB (an ad : Int) (x : Int × Int) : Prop := (1 ≤ x.2 ∧ x.2 ≤ 1000) ∧ (-ad ≤ an * x.2 - x.1 * ad ∧ an * x.2 - x.1 * ad ≤ ad)
theorem off_f {an ad : Int} (h : Ok an ad) {x : Int × Int} (hx : CandB an ad x) : num_ratio_off.f x.1 x.2 an ad = some (Off an ad x.1 x.2) := by
  have h1 := h.d1; have h2 := h.d2; have h3 := h.n1; have h4 := h.n2
  obtain ⟨⟨a1, a2⟩, b1, b2⟩ := hx
  have m1 : an * x.2 ≤ 1000000000 * x.2 := Int.mul_le_mul_of_nonneg_right h4 (by omega)
  have m2 : (-1000000000) * x.2 ≤ an * x.2 := Int.mul_le_mul_of_nonneg_right h3 (by omega)
  unfold num_ratio_off.f
  rw [w64 (n := an * x.2) (by omega) (by omega), w64 (n := x.1 * ad) (by omega) (by omega), w64 (n := an * x.2 - x.1 * ad) (by omega) (by omega), mx_abs (by omega) (by omega)]
  rfl
theorem off_le {an ad : Int} {x : Int × Int} (hx : CandB an ad x) : 0 ≤ Off an ad x.1 x.2 ∧ Off an ad x.1 x.2 ≤ ad := by
  obtain ⟨_, b1, b2⟩ := hx
  unfold Off
  omega
theorem cand_n {an ad : Int} (h : Ok an ad) {x : Int × Int} (hx : CandB an ad x) : -1000000000001 ≤ x.1 ∧ x.1 ≤ 1000000000001 := by
  have h1 := h.d1; have h2 := h.d2; have h3 := h.n1; have h4 := h.n2
  obtain ⟨⟨a1, a2⟩, b1, b2⟩ := hx
  have m1 : an * x.2 ≤ 1000000000 * x.2 := Int.mul_le_mul_of_nonneg_right h4 (by omega)
  have m2 : (-1000000000) * x.2 ≤ an * x.2 := Int.mul_le_mul_of_nonneg_right h3 (by omega)
  refine ⟨?_, ?_⟩
  · refine Classical.byContradiction fun c => ?_
    have : x.1 * ad ≤ (-1000000000002) * ad := Int.mul_le_mul_of_nonneg_right (by omega) (by omega)
    omega
  · refine Classical.byContradiction fun c => ?_
    have : 1000000000002 * ad ≤ x.1 * ad := Int.mul_le_mul_of_nonneg_right (by omega) (by omega)
    omega
theorem ev_better {an ad : Int} (h : Ok an ad) {x y : Int × Int} (hx : CandB an ad x) (hy : CandB an ad y) : Ev (fun k => num_Near_1.f k x.1 x.2 y.1 y.2 an ad) (decide (Bt an ad x y)) := by
  have h2 := h.d2
  obtain ⟨x1, x2⟩ := off_le hx
  obtain ⟨y1, y2⟩ := off_le hy
  obtain ⟨nx1, nx2⟩ := cand_n h hx
  obtain ⟨ny1, ny2⟩ := cand_n h hy
  have dx := hx.1; have dy := hy.1
  unfold num_Near_1.f
  simp only [off_f h hx, off_f h hy, Option.bind_some]
  have eB : decide (Bt an ad x y) = decide (Off an ad x.1 x.2 * y.2 < Off an ad y.1 y.2 * x.2 ∨ Off an ad x.1 x.2 * y.2 = Off an ad y.1 y.2 * x.2 ∧ Simp x y) := rfl
  rw [eB]
  clear eB
  generalize Off an ad x.1 x.2 = p at x1 x2 ⊢
  generalize Off an ad y.1 y.2 = q at y1 y2 ⊢
  have p1 : p * y.2 ≤ 1000000000 * 1000 := Int.mul_le_mul (by omega) (by omega) (by omega) (by omega)
  have p0 : 0 ≤ p * y.2 := Int.mul_nonneg (by omega) (by omega)
  have q1 : q * x.2 ≤ 1000000000 * 1000 := Int.mul_le_mul (by omega) (by omega) (by omega) (by omega)
  have q0 : 0 ≤ q * x.2 := Int.mul_nonneg (by omega) (by omega)
  rw [w64 (n := p * y.2) (by omega) (by omega), w64 (n := q * x.2) (by omega) (by omega)]
  by_cases c1 : p * y.2 < q * x.2
  · simp only [c1, if_true, true_or, decide_true]
    exact Ev.now _
  · by_cases c2 : p * y.2 = q * x.2
    · simp only [c1, c2, if_true, if_false, true_and]
      have := simpler_f x.1 x.2 y.1 y.2 ⟨by omega, by omega⟩ ⟨by omega, by omega⟩
      rw [show decide (q * x.2 < q * x.2 ∨ Simp x y) = decide (Simp (x.1, x.2) (y.1, y.2)) from decide_eq_decide.mpr ⟨fun h => h.resolve_left (Int.lt_irrefl _), Or.inr⟩]
      simp only [Int.lt_irrefl, if_false]
      exact Ev.bind this (Ev.now _)
    · simp only [c1, c2, if_false, false_and, or_self, decide_false]
      exact Ev.now _
def toS (x : Int × Int) : S65 := ⟨x.1, x.2⟩
theorem best_loop {an ad : Int} (h : Ok an ad) (l : List (Int × Int)) (hl : ∀ x ∈ l, CandB an ad x) (hn : l.length ≤ 1000000) : ∀ (m i : Nat) (o : Int × Int), i + m = l.length → CandB an ad o →
    Ev (fun k => num_ratio.l0 k (l.map toS) (l.length : Int) (i : Int) an ad o.1 o.2) (BestZ an ad o (l.drop i)) := by
  intro m
  induction m with
  | zero =>
    intro i o hi ho
    refine Ev.step (f := fun _ => some o) (fun k => ?_) ?_
    · rw [num_ratio.l0, if_neg (by omega)]
    · rw [List.drop_of_length_le (by omega)]
      exact Ev.now _
  | succ m ih =>
    intro i o hi ho
    have hlt : i < l.length := by omega
    rw [List.drop_eq_getElem_cons hlt]
    have hx := hl l[i] (List.getElem_mem hlt)
    have er : rd_T65 (l.map toS) (i : Int) = toS l[i] := by
      unfold rd_T65
      rw [List.getD_eq_getElem?_getD, Int.toNat_natCast, List.getElem?_map, List.getElem?_eq_getElem hlt]
      rfl
    have w1 : wrap64 ((i : Int) + 1) = ((i + 1 : Nat) : Int) := (w64 (by omega) (by omega)).trans (by omega)
    refine Ev.step (f := fun k => (num_Near_1.f k (l[i]).1 (l[i]).2 o.1 o.2 an ad).bind fun t => if t = true then num_ratio.l0 k (l.map toS) (l.length : Int) ((i + 1 : Nat) : Int) an ad (l[i]).1 (l[i]).2 else num_ratio.l0 k (l.map toS) (l.length : Int) ((i + 1 : Nat) : Int) an ad o.1 o.2) (fun k => ?_) ?_
    · rw [num_ratio.l0, if_pos (by omega), if_pos (by omega), if_pos (by rw [List.length_map]; omega), er, w1]
      rfl
    · refine Ev.bind (ev_better h hx ho) ?_
      unfold BestZ
      by_cases c : Bt an ad l[i] o
      · rw [decide_eq_true c, if_pos c]
        simp only [if_true]
        exact ih (i + 1) l[i] (by omega) hx
      · rw [decide_eq_false c, if_neg c]
        simp only [Bool.false_eq_true, if_false]
        exact ih (i + 1) o (by omega) ho
theorem ev_best {an ad : Int} (h : Ok an ad) (o : Int × Int) (l : List (Int × Int)) (ho : CandB an ad o) (hl : ∀ x ∈ l, CandB an ad x) (hn : l.length ≤ 1000000) : Ev (fun k => num_ratio.f k ((o :: l).map toS) an ad) (BestZ an ad o l) := by
  have := best_loop h l hl hn l.length 0 o (by omega) ho
  refine Ev.congr (fun k => ?_) this
  have e0 : rd_T65 ((o :: l).map toS) 0 = toS o := rfl
  unfold num_ratio.f
  rw [if_pos (by simp only [List.map_cons, List.length_cons]; omega), if_pos (by simp only [List.map_cons, List.length_cons]; omega), Option.bind_some, e0]
  simp only [List.map_cons, List.drop_succ_cons, List.drop_zero, List.length_map]
  rfl
theorem CandZ_len (an ad : Int) : ∀ m, (CandZ an ad m).length = 2 * m
  | 0 => rfl
  | m + 1 => by
    unfold CandZ
    rw [List.length_append, CandZ_len an ad m]
    rfl
theorem CandZ_B {an ad : Int} (h : Ok an ad) {m : Nat} (hm : m ≤ 1000) : ∀ x ∈ CandZ an ad m, CandB an ad x := by
  intro x hx
  have h1 := h.d1
  obtain ⟨d, d1, d2, c⟩ := CandZ_mem.mp hx
  have p1 := Int.emod_nonneg (an * (d : Int)) (b := ad) (by omega)
  have p2 := Int.emod_lt_of_pos (an * (d : Int)) (b := ad) (by omega)
  have p3 := Int.emod_add_mul_ediv (an * (d : Int)) ad
  have p4 : ad * (an * (d : Int) / ad) = an * (d : Int) / ad * ad := Int.mul_comm ..
  have e3 : (an * (d : Int) / ad + 1) * ad = an * (d : Int) / ad * ad + ad := by rw [Int.add_mul, Int.one_mul]
  rcases c with rfl | rfl
  · refine ⟨⟨by dsimp only; omega, by dsimp only; omega⟩, by dsimp only; omega, by dsimp only; omega⟩
  · refine ⟨⟨by dsimp only; omega, by dsimp only; omega⟩, by dsimp only; omega, by dsimp only; omega⟩
/-- the best candidate -/
def NearZ (an ad : Int) (m : Nat) : Int × Int := match CandZ an ad m with
  | [] => (0, 0)
  | o :: l => BestZ an ad o l
def NearR (n d m : Int) : Int × Int × Int := if Chk n d = 0 then (if 1 ≤ m ∧ m ≤ 1000 then (if d ≤ m then (n, d, 0) else Low (NearZ n d m.toNat).1 (NearZ n d m.toNat).2) else (0, 0, 3)) else (0, 0, Chk n d)
theorem NearZ_spec {an ad : Int} {m : Nat} (h1 : 1 ≤ m) (h0 : 0 < ad) : ∃ o l, CandZ an ad m = o :: l ∧ NearZ an ad m = BestZ an ad o l := by
  cases h : CandZ an ad m with
  | nil =>
    have := CandZ_len an ad m
    rw [h] at this
    exact absurd this (by simp; omega)
  | cons o l =>
    refine ⟨o, l, rfl, ?_⟩
    unfold NearZ
    rw [h]
theorem NearZ_best {an ad : Int} {m : Nat} (h : Ok an ad) (h1 : 1 ≤ m) (hm : m ≤ 1000) : NearZ an ad m ∈ CandZ an ad m ∧ ∀ x ∈ CandZ an ad m, ¬ Bt an ad x (NearZ an ad m) := by
  have hd := h.d1
  obtain ⟨o, l, e, e2⟩ := NearZ_spec (an := an) (ad := ad) h1 (by omega)
  have hB := CandZ_B h hm
  rw [e] at hB
  rw [e2, e]
  refine ⟨BestZ_mem an ad l o, fun x hx => BestZ_best an ad l o (by have := hB o (List.mem_cons_self ..); have := this.1; omega) (fun y hy => by have := hB y (List.mem_cons_of_mem _ hy); have := this.1; omega) x (by have := (hB x hx).1; omega) ?_⟩
  rcases List.mem_cons.mp hx with rfl | hx
  · exact Or.inl (Bt.irrefl _ _ _)
  · exact Or.inr hx
/-- no candidate is beyond the bounds -/
theorem CandZ_fit {an ad : Int} (h : Ok an ad) {m : Nat} (hm : (m : Int) < ad) : ∀ x ∈ CandZ an ad m, -1000000000 ≤ x.1 ∧ x.1 ≤ 1000000000 := by
  intro x hx
  have h1 := h.d1; have h2 := h.d2; have h3 := h.n1; have h4 := h.n2
  obtain ⟨d, d1, d2, c⟩ := CandZ_mem.mp hx
  have p1 := Int.emod_nonneg (an * (d : Int)) (b := ad) (by omega)
  have p2 := Int.emod_lt_of_pos (an * (d : Int)) (b := ad) (by omega)
  have p3 := Int.emod_add_mul_ediv (an * (d : Int)) ad
  have p4 : ad * (an * (d : Int) / ad) = an * (d : Int) / ad * ad := Int.mul_comm ..
  have m1 : an * (d : Int) ≤ 1000000000 * d := Int.mul_le_mul_of_nonneg_right h4 (by omega)
  have m2 : (-1000000000) * (d : Int) ≤ an * (d : Int) := Int.mul_le_mul_of_nonneg_right h3 (by omega)
  generalize an * (d : Int) / ad = f at *
  have u1 : f < 1000000000 := by
    refine Classical.byContradiction fun w => ?_
    have : 1000000000 * ad ≤ f * ad := Int.mul_le_mul_of_nonneg_right (by omega) (by omega)
    omega
  have u2 : -1000000000 ≤ f := by
    refine Classical.byContradiction fun w => ?_
    have : f * ad ≤ (-1000000001) * ad := Int.mul_le_mul_of_nonneg_right (by omega) (by omega)
    omega
  rcases c with rfl | rfl
  · exact ⟨u2, by dsimp only; omega⟩
  · exact ⟨by dsimp only; omega, by dsimp only; omega⟩
theorem near_loop {an ad : Int} (h : Ok an ad) (n : Nat) (h1 : 1 ≤ n) (hn : n ≤ 1000) (hd : (n : Int) < ad) : ∀ (m i : Nat), i + m = n → Ev (fun k => num_Near.l0 k ((CandZ an ad i).map toS) (n : Int) (i : Int) an ad) (Low (NearZ an ad n).1 (NearZ an ad n).2) := by
  intro m
  have a1 := h.d1; have a2 := h.d2; have a3 := h.n1; have a4 := h.n2
  induction m with
  | zero =>
    intro i hi
    obtain rfl : i = n := by omega
    obtain ⟨o, l, e, e2⟩ := NearZ_spec (an := an) (ad := ad) h1 (by omega)
    have hB := CandZ_B h hn
    have hl := CandZ_len an ad i
    have nb := (NearZ_best h h1 hn).1
    have nf := CandZ_fit h hd _ nb
    obtain ⟨⟨nd1, nd2⟩, _⟩ := hB _ nb
    rw [e] at hB hl
    refine Ev.step (f := fun k => (num_ratio.f k ((o :: l).map toS) an ad).bind fun b => (num_ratio_num.f k b.1 b.2).bind fun tz => exc tz (fun _ => none) (fun b => some (b.1, b.2, 0))) (fun k => ?_) ?_
    · rw [num_Near.l0, if_neg (by omega), e]
    · refine Ev.bind (ev_best h o l (hB o (List.mem_cons_self ..)) (fun y hy => hB y (List.mem_cons_of_mem _ hy)) (by simp at hl; omega)) ?_
      rw [← e2]
      refine Ev.bind (ev_num (by omega) (by omega) (by omega) (by omega) (by omega)) ?_
      have hf : Fits (NearZ an ad i).1 (NearZ an ad i).2 := by
        have hg := gcd_pos (n := (NearZ an ad i).1) (d := (NearZ an ad i).2) (by omega)
        have l1 := le_div hg (a := (NearZ an ad i).1) (b := 1000000000) (by omega) (by omega)
        have l2 := le_div hg (a := (NearZ an ad i).2) (b := 1000000000) (by omega) (by omega)
        unfold Fits Rn Rd
        rw [if_neg (by omega), if_neg (by omega)]
        exact ⟨l2.2, l1⟩
      unfold NumE Low
      rw [if_pos hf, if_pos hf]
      exact Ev.now _
  | succ m ih =>
    intro i hi
    have w1 : wrap64 ((i : Int) + 1) = ((i + 1 : Nat) : Int) := (w64 (by omega) (by omega)).trans (by omega)
    have m1 : an * ((i + 1 : Nat) : Int) ≤ 1000000000 * ((i + 1 : Nat) : Int) := Int.mul_le_mul_of_nonneg_right a4 (by omega)
    have m2 : (-1000000000) * ((i + 1 : Nat) : Int) ≤ an * ((i + 1 : Nat) : Int) := Int.mul_le_mul_of_nonneg_right a3 (by omega)
    have w2 : wrap64 (an * ((i + 1 : Nat) : Int)) = an * ((i + 1 : Nat) : Int) := w64 (by omega) (by omega)
    have fd := floor_div (n := an * ((i + 1 : Nat) : Int)) (d := ad) (by omega) (by omega) (by omega) (by omega)
    have fit := CandZ_fit h (m := i + 1) (by omega) (an * ((i + 1 : Nat) : Int) / ad, ((i + 1 : Nat) : Int)) (CandZ_mem.mpr ⟨i + 1, by omega, by omega, Or.inl rfl⟩)
    dsimp only at fit
    have w3 : wrap64 (an * ((i + 1 : Nat) : Int) / ad + 1) = an * ((i + 1 : Nat) : Int) / ad + 1 := w64 (by omega) (by omega)
    have hl := CandZ_len an ad i
    refine Ev.step (f := fun k => num_Near.l0 k ((CandZ an ad (i + 1)).map toS) (n : Int) ((i + 1 : Nat) : Int) an ad) (fun k => ?_) (ih (i + 1) (by omega))
    rw [num_Near.l0, if_pos (by omega), w1, w2, fd, Option.bind_some, Option.bind_some, w3, if_pos (by rw [List.length_map, hl]; simp only [List.length_cons, List.length_nil]; omega)]
    rw [show CandZ an ad (i + 1) = CandZ an ad i ++ [(an * ((i + 1 : Nat) : Int) / ad, ((i + 1 : Nat) : Int)), (an * ((i + 1 : Nat) : Int) / ad + 1, ((i + 1 : Nat) : Int))] from rfl, List.map_append]
    rfl
theorem ev_Near (n d m : Int) : Ev (fun k => num_Near.f k n d m) (NearR n d m) := by
  unfold num_Near.f NearR
  refine Ev.bind (ev_check n d) ?_
  by_cases c : Chk n d = 0
  · simp only [c, if_true, within_1, Option.bind_some]
    by_cases b : 1 ≤ m ∧ m ≤ 1000
    · simp only [b, and_self, decide_true, if_true]
      by_cases e : d ≤ m
      · simp only [e, if_true]
        exact Ev.now _
      · simp only [e, if_false]
        obtain ⟨j, rfl⟩ : ∃ j : Nat, m = j := ⟨m.toNat, by omega⟩
        rw [Int.toNat_natCast]
        exact near_loop (Chk_ok.mp c) j (by omega) (by omega) (by omega) j 0 (by omega)
    · simp only [b, decide_false, Bool.false_eq_true, if_false]
      exact Ev.now _
  · simp only [c, if_false]
    exact Ev.now _
/-- what Near returns -/
theorem NearQ {a : Rat} (ha : FitQ a) (m : Nat) (h1 : 1 ≤ m) (hm : m ≤ 1000) : ∃ x : Rat, FitQ x ∧ NearR a.num a.den m = (x.num, (x.den : Int), 0) ∧ x.den ≤ m ∧ (a.den ≤ m → x = a) ∧ ∀ c : Rat, c.den ≤ m → ¬ Bt a.num a.den (c.num, (c.den : Int)) (x.num, (x.den : Int)) := by
  have ok := ok_q ha
  have d0 := a.den_pos
  unfold NearR
  rw [if_pos (Chk_ok.mpr ok), if_pos ⟨by omega, by omega⟩]
  by_cases c : a.den ≤ m
  · rw [if_pos (by omega)]
    refine ⟨a, ha, rfl, c, fun _ => rfl, fun q _ => ?_⟩
    have z : Off a.num a.den a.num a.den = 0 := by
      unfold Off
      rw [Int.sub_self]
      rfl
    have q0 := q.den_pos
    rintro (h | ⟨h, s⟩)
    · rw [z, Int.zero_mul] at h
      have : 0 ≤ Off a.num a.den q.num q.den * (a.den : Int) := Int.mul_nonneg (by unfold Off; omega) (by omega)
      dsimp only at h
      omega
    · rw [z, Int.zero_mul] at h
      dsimp only at h
      have e : Off a.num a.den q.num q.den = 0 := by
        rcases Int.mul_eq_zero.mp h with h | h <;> omega
      unfold Off at e
      have e2 : a.num * (q.den : Int) = q.num * (a.den : Int) := by omega
      have : q = a := by
        rw [Rat.eq_iff_mul_eq_mul]
        exact e2.symm
      subst this
      exact Simp.irrefl _ s
  · rw [if_neg (by omega), Int.toNat_natCast]
    obtain ⟨b1, b2⟩ := NearZ_best ok h1 hm
    obtain ⟨⟨n1, n2⟩, _⟩ := CandZ_B ok hm _ b1
    have nf := CandZ_fit ok (by omega) _ b1
    have nd : (NearZ a.num a.den m).2 ≤ m := by
      obtain ⟨d, d1, d2, e | e⟩ := CandZ_mem.mp b1 <;> rw [e] <;> dsimp only <;> omega
    obtain ⟨x, hx⟩ := best_low (by omega) (by omega) nd b2
    have nb := no_better (by omega) (by omega) b2
    rw [hx] at n1 n2 nf nd nb ⊢
    dsimp only at n1 n2 nf nd
    have fx : FitQ x := ⟨by omega, nf.1, nf.2⟩
    refine ⟨x, fx, ?_, by omega, fun h => absurd h c, fun q hq => nb q.num q.den q.den_pos hq⟩
    rw [Low_q (by omega), Rat.num_divInt_den, LowQ_fit fx]
set_option maxRecDepth 100000 in
theorem summed_at : withylaw01_summed.f 60 = some true := by kernel_rfl
theorem ev_summed : Ev (fun k => withylaw01_summed.f k) true := Ev.of (fun k => withylaw01_summed.mono k) summed_at
theorem simpler_is {x c : Rat} (hx : FitQ x) (hc : FitQ c) : withyref01_Simpler.f c.num c.den x.num x.den = some (decide (Simp (c.num, (c.den : Int)) (x.num, (x.den : Int)))) := by
  have b1 := hx.2; have b2 := hc.2
  unfold withyref01_Simpler.f
  rw [w64 (n := -c.num) (by omega) (by omega), w64 (n := -x.num) (by omega) (by omega)]
  have key : ∀ b : Bool, (b = true ↔ Simp (c.num, (c.den : Int)) (x.num, (x.den : Int))) → some b = some (decide (Simp (c.num, (c.den : Int)) (x.num, (x.den : Int)))) := fun b h => by
    congr 1
    rw [Bool.eq_iff_iff, h, decide_eq_true_iff]
  have no : ¬ Simp (c.num, (c.den : Int)) (x.num, (x.den : Int)) → some false = some (decide (Simp (c.num, (c.den : Int)) (x.num, (x.den : Int)))) := fun h => by rw [decide_eq_false h]
  have yes : Simp (c.num, (c.den : Int)) (x.num, (x.den : Int)) → some true = some (decide (Simp (c.num, (c.den : Int)) (x.num, (x.den : Int)))) := fun h => by rw [decide_eq_true h]
  unfold Simp at key no yes ⊢
  dsimp only at key no yes ⊢
  by_cases d : (c.den : Int) = x.den
  · rw [if_pos d]
    split <;> split <;> split <;> first | exact yes (by omega) | skip
    all_goals split
    all_goals first | exact no (by omega) | (refine key _ ?_; rw [decide_eq_true_iff]; omega)
  · rw [if_neg d]
    refine key _ ?_
    rw [decide_eq_true_iff]
    omega
def absQ (p : Rat) : Rat := if p < 0 then -p else p
theorem absQ_fit {p : Rat} (h : FitQ p) : FitQ (absQ p) := by
  unfold absQ
  split
  · exact h.neg
  · exact h
theorem absQ_num {p : Rat} : (if p.num < 0 then -p.num else p.num) = (absQ p).num ∧ (p.den : Int) = ((absQ p).den : Int) := by
  unfold absQ
  have e : p < 0 ↔ p.num < 0 := by
    rw [Rat.lt_iff]
    simp
  by_cases c : p < 0
  · rw [if_pos c, if_pos (e.mp c), Rat.neg_num, Rat.neg_den]
    exact ⟨rfl, rfl⟩
  · rw [if_neg c, if_neg (fun h => c (e.mpr h))]
    exact ⟨rfl, rfl⟩
theorem nearest_end {x c a : Rat} (hx : FitQ x) (hc : FitQ c) (fp : FitQ (x - a)) (fq : FitQ (c - a)) (h : ¬ Bt a.num a.den (c.num, (c.den : Int)) (x.num, (x.den : Int))) (P Q : Int) (hP : P = (absQ (x - a)).num) (hQ : Q = (absQ (c - a)).num) :
    Ev (fun k => (num_Cmp.f k P (x - a).den Q (c - a).den).bind fun b => if b.2 = 0 then (if b.1 < 0 then ((withylaw01_summed.f k).bind fun t => some t) else (if b.1 = 0 then ((withyref01_Simpler.f c.num c.den x.num x.den).bind fun t => if t = true then some false else ((withylaw01_summed.f k).bind fun t => some t)) else some false)) else some false) true := by
  have hs := Ev.bind ev_summed (Ev.now true)
  subst hP hQ
  rw [(absQ_num (p := x - a)).2, (absQ_num (p := c - a)).2]
  refine Ev.bind (ev_Cmp _ _ _ _) ?_
  rw [CmpQ (absQ_fit fp) (absQ_fit fq)]
  have k := near_cmp h
  rw [show (if x - a < 0 then -(x - a) else x - a) = absQ (x - a) from rfl, show (if c - a < 0 then -(c - a) else c - a) = absQ (c - a) from rfl] at k
  simp only [if_true]
  rcases k with k | ⟨k, s⟩
  · rw [cmpQ_lt k]
    simp only [show (-1 : Int) < 0 by decide, if_true]
    exact hs
  · rw [k, cmpQ_eq, simpler_is hx hc, decide_eq_false s]
    simp only [Int.lt_irrefl, if_false, if_true, Option.bind_some, Bool.false_eq_true]
    exact hs
theorem nearest_j2 {x c a : Rat} (hx : FitQ x) (hc : FitQ c) (fp : FitQ (x - a)) (fq : FitQ (c - a)) (h : ¬ Bt a.num a.den (c.num, (c.den : Int)) (x.num, (x.den : Int))) (P : Int) (hP : P = (absQ (x - a)).num) :
    Ev (fun k => withylaw01_NumNearest.j2 k c.num c.den x.num x.den P (x - a).den (c - a).num (c - a).den) true := by
  have b := fq.2
  have eq1 := (absQ_num (p := c - a)).1
  by_cases k : (c - a).num < 0
  · rw [if_pos k] at eq1
    refine Ev.step (fun n => ?_) (nearest_end hx hc fp fq h P (-(c - a).num) hP eq1)
    rw [withylaw01_NumNearest.j2, if_pos k, w64 (by omega) (by omega)]
  · rw [if_neg k] at eq1
    refine Ev.step (fun n => ?_) (nearest_end hx hc fp fq h P (c - a).num hP eq1)
    rw [withylaw01_NumNearest.j2, if_neg k]
theorem nearest_j0 {x c a : Rat} (hx : FitQ x) (hc : FitQ c) (ha : FitQ a) (m : Nat) (h : c.den ≤ m → ¬ Bt a.num a.den (c.num, (c.den : Int)) (x.num, (x.den : Int))) :
    Ev (fun k => withylaw01_NumNearest.j0 k (m : Int) false a.num a.den c.num c.den x.num x.den) true := by
  have hs := Ev.bind ev_summed (Ev.now true)
  by_cases d : c.den ≤ m
  · refine Ev.step (f := fun k => (num_Sub.f k x.num x.den a.num a.den).bind fun p => (num_Sub.f k c.num c.den a.num a.den).bind fun q => (if p.2.2 = 0 then (withylaw01_NumNearest.j1 k (q.2.2 != 0) c.num c.den x.num x.den p.1 p.2.1 q.1 q.2.1) else (withylaw01_NumNearest.j1 k true c.num c.den x.num x.den p.1 p.2.1 q.1 q.2.1))) (fun k => ?_) ?_
    · rw [withylaw01_NumNearest.j0, if_neg (by decide), if_neg (by omega)]
    · have jt : ∀ (p1 p2 q1 q2 : Int), Ev (fun k => withylaw01_NumNearest.j1 k true c.num c.den x.num x.den p1 p2 q1 q2) true := fun p1 p2 q1 q2 => Ev.step (fun n => by rw [withylaw01_NumNearest.j1, if_pos rfl]) hs
      refine Ev.bind (ev_Sub _ _ _ _) (Ev.bind (ev_Sub _ _ _ _) ?_)
      rw [SubQ hx ha, SubQ hc ha]
      by_cases fp : FitQ (x - a)
      · rw [LowQ_fit fp]
        simp only [if_true]
        by_cases fq : FitQ (c - a)
        · rw [LowQ_fit fq]
          simp only [bne_self_eq_false]
          have b := fp.2
          have eq1 := (absQ_num (p := x - a)).1
          by_cases k : (x - a).num < 0
          · rw [if_pos k] at eq1
            refine Ev.step (fun n => ?_) (nearest_j2 hx hc fp fq (h d) (-(x - a).num) eq1)
            rw [withylaw01_NumNearest.j1, if_neg (by decide), if_pos k, w64 (by omega) (by omega)]
          · rw [if_neg k] at eq1
            refine Ev.step (fun n => ?_) (nearest_j2 hx hc fp fq (h d) (x - a).num eq1)
            rw [withylaw01_NumNearest.j1, if_neg (by decide), if_neg k]
        · rw [LowQ_no fq]
          exact jt _ _ _ _
      · rw [LowQ_no fp]
        exact jt _ _ _ _
  · refine Ev.step (fun k => ?_) hs
    rw [withylaw01_NumNearest.j0, if_neg (by decide), if_pos (by omega)]
theorem withylaw01_NumNearest.ev (a0_0 a0_1 a1_0 a1_1 a2 : Int) (h2 : 0 ≤ a2 ∧ a2 ≤ 65535) : Ev (fun k => withylaw01_NumNearest.f k a0_0 a0_1 a1_0 a1_1 a2) true := by
  unfold withylaw01_NumNearest.f
  have hs := Ev.bind ev_summed (Ev.now true)
  refine Ev.bind (ev_fit a0_0 a0_1 a1_0 a1_1 a1_0 a1_1) ?_
  by_cases c : Chk a0_0 a0_1 = 0 ∧ Chk a1_0 a1_1 = 0 ∧ Chk a1_0 a1_1 = 0
  · obtain ⟨a, ha, rfl, rfl⟩ := q_ok (Chk_ok.mp c.1)
    obtain ⟨q, hq, rfl, rfl⟩ := q_ok (Chk_ok.mp c.2.1)
    rw [decide_eq_true c]
    clear c
    have em : ∃ m : Nat, (1 ≤ m ∧ m ≤ 1000) ∧ wrap64 (1 + Int.tmod (wrap64 a2) 1000) = (m : Int) := by
      have w1 : wrap64 a2 = a2 := w64 (by omega) (by omega)
      have t0 : Int.tmod a2 1000 = a2 % 1000 := Int.tmod_eq_emod_of_nonneg h2.1
      rw [w1, t0, w64 (by omega) (by omega)]
      exact ⟨(1 + a2 % 1000).toNat, by omega, by omega⟩
    obtain ⟨m, ⟨m1, m2⟩, em⟩ := em
    rw [em]
    simp only [if_true]
    refine Ev.bind (ev_Near _ _ _) ?_
    obtain ⟨x, hx, ex, xm, xe, xb⟩ := NearQ ha m m1 m2
    have x0 := x.den_pos
    rw [ex]
    simp only [if_true, in_f, Option.bind_some]
    rw [decide_eq_true (show (1 : Int) ≤ (x.den : Int) ∧ (x.den : Int) ≤ (m : Int) from ⟨by omega, by omega⟩)]
    simp only [if_true]
    have fin := nearest_j0 hx hq ha m (xb q)
    by_cases d : a.den ≤ m
    · obtain rfl := xe d
      simp only [show (x.den : Int) ≤ (m : Int) by omega, if_true, beq_self_eq_true, Bool.not_true, Bool.or_self]
      exact fin
    · simp only [show ¬ (a.den : Int) ≤ (m : Int) by omega, if_false]
      exact fin
  · rw [decide_eq_false c]
    simp only [Bool.false_eq_true, if_false]
    exact hs
theorem withylaw01_NumNearest.pure (a0_0 a0_1 a1_0 a1_1 a2 : Int) (_ : -9223372036854775808 ≤ a0_0 ∧ a0_0 ≤ 9223372036854775807) (_ : -9223372036854775808 ≤ a0_1 ∧ a0_1 ≤ 9223372036854775807) (_ : -9223372036854775808 ≤ a1_0 ∧ a1_0 ≤ 9223372036854775807) (_ : -9223372036854775808 ≤ a1_1 ∧ a1_1 ≤ 9223372036854775807) (h2 : 0 ≤ a2 ∧ a2 ≤ 65535) : ∃ k, withylaw01_NumNearest.f k a0_0 a0_1 a1_0 a1_1 a2 = some true :=
  (withylaw01_NumNearest.ev a0_0 a0_1 a1_0 a1_1 a2 h2).rounds
end Go.Proofs.Ytakcdoahpbeckaa.H
