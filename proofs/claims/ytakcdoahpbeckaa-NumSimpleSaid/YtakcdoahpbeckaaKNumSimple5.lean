/- NumSimple: the plain law, without the program: what the printed functions come to. -/
import Derived.Test.YtakcdoahpbeckaaKNumSimple4
namespace Go.Proofs.Ytakcdoahpbeckaa.H
open Go.RowKit Go.Proofs.YtakcdoahpbeckaaW.PrintWords Go.Proofs.YtakcdoahpbeckaaW.PrintLast Go.Proofs.YtakcdoahpbeckaaW.PrintMore
attribute [local go_sem] max2_int min2_int max_two min_two max_three min_three max_four min_four   -- for this text's walks alone
set_option linter.unusedVariables false
set_option linter.unusedSimpArgs false

/-! ### the text VNumSimple -/
theorem w64 {n : Int} (h : -9223372036854775808 ≤ n) (h' : n ≤ 9223372036854775807) : wrap64 n = n := by unfold wrap64; omega
theorem Ev.isNow {α : Type} {g : Nat → Option α} {r : α} (h : ∀ k, g k = some r) : Ev g r := ⟨0, fun k _ => h k⟩
theorem mx_nat (g : Nat) (h : 0 < g) : mx (g : Int) 1 = g := by unfold mx; split <;> omega
theorem mx_abs {n : Int} (h : -9223372036854775807 ≤ n) (h' : n ≤ 9223372036854775807) : mx n (wrap64 (-n)) = (n.natAbs : Int) := by
  rw [w64 (by omega) (by omega)]
  unfold mx
  split <;> omega
theorem divisor_loop : ∀ (n m : Nat), Ev (fun k => num_divisor.l0 k (m : Int) (n : Int)) (mx (Nat.gcd m n : Nat) 1) := by
  intro n
  induction n using Nat.strongRecOn with
  | ind n ih =>
    intro m
    by_cases h : n = 0
    · subst h
      refine Ev.step (f := fun _ => some (mx (m : Int) 1)) (fun k => ?_) (by rw [Nat.gcd_zero_right]; exact Ev.now _)
      show (if (0 : Int) > 0 then _ else _) = _
      rfl
    · refine Ev.step (f := fun k => num_divisor.l0 k (n : Int) ((m % n : Nat) : Int)) (fun k => ?_) ?_
      · show (if (n : Int) > 0 then (if (n : Int) = 0 then none else num_divisor.l0 k (n : Int) (Int.tmod m n)) else _) = _
        rw [if_pos (by omega), if_neg (by omega)]
        rfl
      · have := ih (m % n) (Nat.mod_lt _ (by omega)) n
        rwa [Nat.gcd_comm n, ← Nat.gcd_rec, Nat.gcd_comm n] at this
theorem ev_divisor {n d : Int} (hn : -9223372036854775807 ≤ n) (hn' : n ≤ 9223372036854775807) (hd : -9223372036854775807 ≤ d) (hd' : d ≤ 9223372036854775807) (h0 : d ≠ 0) :
    Ev (fun k => num_divisor.f k n d) (Int.gcd n d) := by
  have h := divisor_loop d.natAbs n.natAbs
  rw [mx_nat _ (Nat.gcd_pos_of_pos_right _ (by omega))] at h
  refine Ev.congr (fun k => ?_) h
  show num_divisor.l0 k _ _ = _
  rw [mx_abs hn hn', mx_abs hd hd']
theorem of2_loop : ∀ (n m : Nat), 0 < Nat.gcd m n → Ev (fun k => withyref01_Of2.l0 k (m : Int) (n : Int)) ((Nat.gcd m n : Nat) : Int) := by
  intro n
  induction n using Nat.strongRecOn with
  | ind n ih =>
    intro m hp
    by_cases h : n = 0
    · subst h
      rw [Nat.gcd_zero_right] at hp ⊢
      refine Ev.step (f := fun _ => some ((m : Int))) (fun k => ?_) (Ev.now _)
      show (if (0 : Int) > 0 then _ else if (m : Int) = 0 then _ else _) = _
      rw [if_neg (by omega), if_neg (by omega)]
    · have hr : Nat.gcd n (m % n) = Nat.gcd m n := by rw [Nat.gcd_comm n, ← Nat.gcd_rec, Nat.gcd_comm n]
      refine Ev.step (f := fun k => withyref01_Of2.l0 k (n : Int) ((m % n : Nat) : Int)) (fun k => ?_) ?_
      · show (if (n : Int) > 0 then (if (n : Int) = 0 then none else withyref01_Of2.l0 k (n : Int) (Int.tmod m n)) else _) = _
        rw [if_pos (by omega), if_neg (by omega)]
        rfl
      · have := ih (m % n) (Nat.mod_lt _ (by omega)) n (by rw [hr]; exact hp)
        rwa [hr] at this
theorem ev_of2 {n d : Int} (hn : -9223372036854775807 ≤ n) (hn' : n ≤ 9223372036854775807) (hd : -9223372036854775807 ≤ d) (hd' : d ≤ 9223372036854775807) (h0 : d ≠ 0) :
    Ev (fun k => withyref01_Of2.f k n d) (Int.gcd n d) := by
  have h := of2_loop d.natAbs n.natAbs (Nat.gcd_pos_of_pos_right _ (by omega))
  have h2 : Ev (fun k => withyref01_Of2.j0 k (n.natAbs : Int) d) (Int.gcd n d) := by
    by_cases c : d < 0
    · refine Ev.step (f := fun k => withyref01_Of2.j1 k (n.natAbs : Int) (wrap64 (-d))) (fun k => ?_) (Ev.step (f := fun k => withyref01_Of2.l0 k (n.natAbs : Int) (wrap64 (-d))) (fun k => rfl) ?_)
      · show (if d < 0 then _ else _) = _
        rw [if_pos c]
      · rw [w64 (by omega) (by omega), show -d = (d.natAbs : Int) by omega]
        exact h
    · refine Ev.step (f := fun k => withyref01_Of2.j1 k (n.natAbs : Int) d) (fun k => ?_) (Ev.step (f := fun k => withyref01_Of2.l0 k (n.natAbs : Int) d) (fun k => rfl) ?_)
      · show (if d < 0 then _ else _) = _
        rw [if_neg c]
      · have e : d = (d.natAbs : Int) := by omega
        have h' := h
        rw [← e] at h'
        exact h'
  refine Ev.congr (fun k => ?_) h2
  unfold withyref01_Of2.f
  by_cases c : n < 0
  · rw [if_pos c, w64 (by omega) (by omega), show -n = (n.natAbs : Int) by omega]
  · rw [if_neg c]
    congr 1
    omega
/-- the error of a number -/
def Chk (n d : Int) : Int := if (1 ≤ d ∧ d ≤ 1000000000) ∧ (-1000000000 ≤ n ∧ n ≤ 1000000000) then (if Int.gcd n d > 1 then 1 else 0) else 3
theorem in_f (a b c : Int) : withyref01_In.f a b c = some (decide (b ≤ a ∧ a ≤ c)) := by
  unfold withyref01_In.f
  by_cases h : b ≤ a <;> simp [h]
theorem within_1 (a b n : Int) : num_within.f a b [n] = some (decide (a ≤ n ∧ n ≤ b)) := by
  unfold num_within.f
  simp
theorem ev_check (n d : Int) : Ev (fun k => num_Check.f k n d) (Chk n d) := by
  unfold num_Check.f Chk
  simp only [within_1, Option.bind_some]
  by_cases c : 1 ≤ d ∧ d ≤ 1000000000
  · by_cases c' : -1000000000 ≤ n ∧ n ≤ 1000000000
    · simp only [c, c', and_self, decide_true, if_true, Bool.not_true]
      refine Ev.step (f := fun k => (num_divisor.f k n d).bind fun t => if t > 1 then some 1 else some 0) (fun k => rfl) ?_
      · refine Ev.bind (ev_divisor (by omega) (by omega) (by omega) (by omega) (by omega)) ?_
        by_cases g : Int.gcd n d > 1
        · have g' : ((Int.gcd n d : Nat) : Int) > 1 := by omega
          simp only [g, g', if_true]
          exact Ev.now _
        · have g' : ¬ ((Int.gcd n d : Nat) : Int) > 1 := by omega
          simp only [g, g', if_false]
          exact Ev.now _
    · simp only [c, c', and_self, and_false, decide_true, decide_false, if_true, Bool.not_false, if_false]
      exact Ev.step (f := fun _ => some 3) (fun k => rfl) (Ev.now _)
  · simp only [c, false_and, decide_false, Bool.false_eq_true, if_false]
    exact Ev.step (f := fun _ => some 3) (fun k => rfl) (Ev.now _)
theorem ev_rcheck (n d : Int) : Ev (fun k => withyref01_Check.f k n d) (Chk n d) := by
  unfold withyref01_Check.f Chk
  simp only [in_f, Option.bind_some]
  by_cases c : 1 ≤ d ∧ d ≤ 1000000000
  · by_cases c' : -1000000000 ≤ n ∧ n ≤ 1000000000
    · simp only [c, c', and_self, decide_true, if_true, Bool.not_true]
      refine Ev.step (f := fun k => (withyref01_Of2.f k n d).bind fun t => if t > 1 then some 1 else some 0) (fun k => rfl) ?_
      · refine Ev.bind (ev_of2 (by omega) (by omega) (by omega) (by omega) (by omega)) ?_
        by_cases g : Int.gcd n d > 1
        · have g' : ((Int.gcd n d : Nat) : Int) > 1 := by omega
          simp only [g, g', if_true]
          exact Ev.now _
        · have g' : ¬ ((Int.gcd n d : Nat) : Int) > 1 := by omega
          simp only [g, g', if_false]
          exact Ev.now _
    · simp only [c, c', and_self, and_false, decide_true, decide_false, if_true, Bool.not_false, if_false]
      exact Ev.step (f := fun _ => some 3) (fun k => rfl) (Ev.now _)
  · simp only [c, false_and, decide_false, Bool.false_eq_true, if_false]
    exact Ev.step (f := fun _ => some 3) (fun k => rfl) (Ev.now _)
def Rn (n d : Int) : Int := (if d < 0 then -n else n) / (Int.gcd n d : Int)
def Rd (n d : Int) : Int := (if d < 0 then -d else d) / (Int.gcd n d : Int)
def Fits (n d : Int) : Prop := Rd n d ≤ 1000000000 ∧ (-1000000000 ≤ Rn n d ∧ Rn n d ≤ 1000000000)
instance (n d : Int) : Decidable (Fits n d) := inferInstanceAs (Decidable (_ ∧ _))
def Low (n d : Int) : Int × Int × Int := if Fits n d then (Rn n d, Rd n d, 0) else (0, 0, 8)
def NumE (n d : Int) : Except Int (Int × Int) := if Fits n d then .ok (Rn n d, Rd n d) else .error 0
theorem gcd_pos {n d : Int} (h : d ≠ 0) : 0 < Int.gcd n d := Nat.gcd_pos_of_pos_right _ (by omega)
theorem le_div {a : Int} {g : Nat} (hg : 0 < g) {b : Int} (h : -b ≤ a) (h' : a ≤ b) : -b ≤ a / (g : Int) ∧ a / (g : Int) ≤ b := by
  have hb : 0 ≤ b := by omega
  refine ⟨?_, ?_⟩
  · have : -b ≤ (-b) / (g : Int) := by
      have := Int.le_ediv_of_mul_le (a := -b) (b := -b) (c := (g : Int)) (by omega) (by
        have : (1 : Int) ≤ g := by omega
        have := Int.mul_le_mul_of_nonneg_left this hb
        have e : -b * (g : Int) = -(b * g) := by rw [Int.neg_mul]
        omega)
      exact this
    exact Int.le_trans this (Int.ediv_le_ediv (by omega) h)
  · exact Int.le_trans (Int.ediv_le_ediv (by omega) h') (Int.ediv_le_self _ hb)
theorem core_num (n d : Int) (hn : -9223372036854775807 ≤ n) (hn' : n ≤ 9223372036854775807) (hd : -9223372036854775807 ≤ d) (hd' : d ≤ 9223372036854775807) (h0 : d ≠ 0) :
    wrap64 (Int.tdiv (if d < 0 then wrap64 (-n) else n) (Int.gcd n d)) = Rn n d ∧ wrap64 (Int.tdiv (if d < 0 then wrap64 (-d) else d) (Int.gcd n d)) = Rd n d := by
  have hg := gcd_pos (n := n) h0
  have d1 : ((Int.gcd n d : Nat) : Int) ∣ (if d < 0 then -n else n) := by
    split
    · exact Int.dvd_neg.mpr (Int.gcd_dvd_left ..)
    · exact Int.gcd_dvd_left ..
  have d2 : ((Int.gcd n d : Nat) : Int) ∣ (if d < 0 then -d else d) := by
    split
    · exact Int.dvd_neg.mpr (Int.gcd_dvd_right ..)
    · exact Int.gcd_dvd_right ..
  have e1 : (if d < 0 then wrap64 (-n) else n) = (if d < 0 then -n else n) := by rw [w64 (by omega) (by omega)]
  have e2 : (if d < 0 then wrap64 (-d) else d) = (if d < 0 then -d else d) := by rw [w64 (by omega) (by omega)]
  rw [e1, e2, Int.tdiv_eq_ediv_of_dvd d1, Int.tdiv_eq_ediv_of_dvd d2]
  have b1 := le_div hg (a := if d < 0 then -n else n) (b := 9223372036854775807) (by split <;> omega) (by split <;> omega)
  have b2 := le_div hg (a := if d < 0 then -d else d) (b := 9223372036854775807) (by split <;> omega) (by split <;> omega)
  exact ⟨w64 (by omega) b1.2, w64 (by omega) b2.2⟩
theorem gcd_sign (n d : Int) : Int.gcd (if d < 0 then wrap64 (-n) else n) (if d < 0 then wrap64 (-d) else d) = Int.gcd n d ∨ ¬ (-9223372036854775807 ≤ n ∧ n ≤ 9223372036854775807 ∧ -9223372036854775807 ≤ d ∧ d ≤ 9223372036854775807) := by
  by_cases h : (-9223372036854775807 ≤ n ∧ n ≤ 9223372036854775807 ∧ -9223372036854775807 ≤ d ∧ d ≤ 9223372036854775807)
  · left
    rw [w64 (by omega) (by omega), w64 (by omega) (by omega)]
    split
    · rw [Int.neg_gcd, Int.gcd_neg]
    · rfl
  · exact Or.inr h
theorem ev_num {n d : Int} (hn : -9223372036854775807 ≤ n) (hn' : n ≤ 9223372036854775807) (hd : -9223372036854775807 ≤ d) (hd' : d ≤ 9223372036854775807) (h0 : d ≠ 0) :
    Ev (fun k => num_ratio_num.f k n d) (NumE n d) := by
  have hg := gcd_pos (n := n) h0
  obtain ⟨c1, c2⟩ := core_num n d hn hn' hd hd' h0
  have hs := (gcd_sign n d).resolve_right (by omega)
  refine Ev.congr (f := fun k => num_ratio_num.j0 k (if d < 0 then wrap64 (-n) else n) (if d < 0 then wrap64 (-d) else d)) (fun k => ?_) ?_
  · unfold num_ratio_num.f
    split <;> rfl
  · generalize hN : (if d < 0 then wrap64 (-n) else n) = N at *
    generalize hD : (if d < 0 then wrap64 (-d) else d) = D at *
    have hNr : -9223372036854775807 ≤ N ∧ N ≤ 9223372036854775807 := by rw [← hN, w64 (by omega) (by omega)]; split <;> omega
    have hDr : (-9223372036854775807 ≤ D ∧ D ≤ 9223372036854775807) ∧ D ≠ 0 := by rw [← hD, w64 (by omega) (by omega)]; split <;> omega
    refine Ev.step (f := fun k => (num_divisor.f k N D).bind fun t => if t = 0 then none else if wrap64 (Int.tdiv D t) > 1000000000 then some (.error (0 : Int)) else (num_within.f (-1000000000) 1000000000 [wrap64 (Int.tdiv N t)]).bind fun u => if u = true then some (.ok (ε := Int) (wrap64 (Int.tdiv N t), wrap64 (Int.tdiv D t))) else some (.error (0 : Int))) (fun k => rfl) ?_
    refine Ev.bind (ev_divisor hNr.1 hNr.2 hDr.1.1 hDr.1.2 hDr.2) ?_
    rw [hs]
    simp only [c1, c2, within_1, Option.bind_some]
    refine Ev.isNow fun k => ?_
    rw [if_neg (by omega)]
    unfold NumE
    by_cases a : Rd n d > 1000000000
    · rw [if_pos a, if_neg (fun h : Fits n d => by have := h.1; omega)]
    · rw [if_neg a]
      by_cases b : -1000000000 ≤ Rn n d ∧ Rn n d ≤ 1000000000
      · rw [if_pos (show Fits n d from ⟨by omega, b⟩)]
        simp only [b, and_self, decide_true, if_true]
      · rw [if_neg (fun h : Fits n d => b h.2)]
        simp only [b, decide_false, if_false, Bool.false_eq_true]
theorem exc_num (n d : Int) : exc (NumE n d) (fun _ => some (0, 0, 8)) (fun b => some (b.1, b.2, 0)) = some (Low n d) := by
  unfold NumE Low
  split <;> rfl
def ChkL : List S23 → Int
  | [] => 0
  | a :: l => if Chk a.f0 a.f1 = 0 then ChkL l else Chk a.f0 a.f1
theorem checked_loop (l : List S23) (hl : l.length < 9223372036854775807) : ∀ (m i : Nat), i + m = l.length → Ev (fun k => num_checked.l0 k l (l.length : Int) (i : Int)) (ChkL (l.drop i)) := by
  intro m
  induction m with
  | zero =>
    intro i hi
    rw [List.drop_of_length_le (by omega)]
    refine Ev.step (f := fun _ => some 0) (fun k => ?_) (Ev.now _)
    show (if (i : Int) < (l.length : Int) then _ else _) = _
    rw [if_neg (by omega)]
  | succ m ih =>
    intro i hi
    have hlt : i < l.length := by omega
    have hx : rd_T23 l (i : Int) = l[i] := by
      unfold rd_T23
      rw [Int.toNat_natCast, List.getD_eq_getElem?_getD, List.getElem?_eq_getElem hlt]
      rfl
    rw [List.drop_eq_getElem_cons hlt]
    refine Ev.step (f := fun k => (num_Check.f k (l[i]).f0 (l[i]).f1).bind fun t => if t = 0 then num_checked.l0 k l (l.length : Int) ((i + 1 : Nat) : Int) else some t) (fun k => ?_) ?_
    · show (if (i : Int) < (l.length : Int) then (if 0 ≤ (i : Int) then (if (i : Int) < (l.length : Int) then _ else _) else _) else _) = _
      rw [if_pos (by omega), if_pos (by omega), if_pos (by omega), hx, w64 (by omega) (by omega)]
      rfl
    · refine Ev.bind (ev_check _ _) ?_
      show Ev _ (if Chk l[i].f0 l[i].f1 = 0 then ChkL (l.drop (i + 1)) else Chk l[i].f0 l[i].f1)
      by_cases c : Chk l[i].f0 l[i].f1 = 0
      · simp only [c, if_true]
        exact ih (i + 1) (by omega)
      · simp only [c, if_false]
        exact Ev.now _
theorem ev_checked (l : List S23) (hl : l.length < 9223372036854775807) : Ev (fun k => num_checked.f k l) (ChkL l) := by
  have := checked_loop l hl l.length 0 (by omega)
  rwa [List.drop_zero] at this
def Chk2 (a b c d : Int) : Int := if Chk a b = 0 then Chk c d else Chk a b
theorem ev_checked2 (a b c d : Int) : Ev (fun k => num_checked.f k [(⟨a, b⟩ : S23), ⟨c, d⟩]) (Chk2 a b c d) := by
  have h := ev_checked [(⟨a, b⟩ : S23), ⟨c, d⟩] (by simp)
  have e : ChkL [(⟨a, b⟩ : S23), ⟨c, d⟩] = Chk2 a b c d := by
    show (if Chk a b = 0 then (if Chk c d = 0 then (0 : Int) else Chk c d) else Chk a b) = _
    unfold Chk2
    by_cases x : Chk a b = 0
    · rw [if_pos x, if_pos x]
      by_cases y : Chk c d = 0
      · rw [if_pos y, y]
      · rw [if_neg y]
    · rw [if_neg x, if_neg x]
  rwa [e] at h
/-- a number's fields are in the bounds, and in lowest terms -/
structure Ok (n d : Int) : Prop where
  d1 : 1 ≤ d
  d2 : d ≤ 1000000000
  n1 : -1000000000 ≤ n
  n2 : n ≤ 1000000000
  g : Int.gcd n d = 1
theorem Chk_ok {n d : Int} : Chk n d = 0 ↔ Ok n d := by
  unfold Chk
  constructor
  · intro h
    split at h
    · rename_i c
      split at h
      · exact absurd h (by decide)
      · have := gcd_pos (n := n) (d := d) (by omega)
        exact ⟨c.1.1, c.1.2, c.2.1, c.2.2, by omega⟩
    · exact absurd h (by decide)
  · intro h
    have := h.d1; have := h.d2; have := h.n1; have := h.n2; have := h.g
    rw [if_pos (by omega), if_neg (by omega)]
theorem Chk2_ok {a b c d : Int} : Chk2 a b c d = 0 ↔ Ok a b ∧ Ok c d := by
  unfold Chk2
  rw [← Chk_ok, ← Chk_ok]
  by_cases x : Chk a b = 0
  · simp [x]
  · simp [x]
theorem Ok.mul {a b c d : Int} (h : Ok a b) (k : Ok c d) : (-1000000000000000000 ≤ a * d ∧ a * d ≤ 1000000000000000000) ∧ (-1000000000000000000 ≤ c * b ∧ c * b ≤ 1000000000000000000) ∧ (1 ≤ b * d ∧ b * d ≤ 1000000000000000000) ∧ (-1000000000000000000 ≤ a * c ∧ a * c ≤ 1000000000000000000) ∧ (-1000000000000000000 ≤ b * c ∧ b * c ≤ 1000000000000000000) := by
  have bd : ∀ x y : Int, -1000000000 ≤ x → x ≤ 1000000000 → -1000000000 ≤ y → y ≤ 1000000000 → -1000000000000000000 ≤ x * y ∧ x * y ≤ 1000000000000000000 := by
    intro x y h1 h2 h3 h4
    have a1 : x.natAbs ≤ 1000000000 := by omega
    have a2 : y.natAbs ≤ 1000000000 := by omega
    have a3 := Nat.mul_le_mul a1 a2
    rw [← Int.natAbs_mul] at a3
    omega
  have := h.d1; have := h.d2; have := h.n1; have := h.n2; have := k.d1; have := k.d2; have := k.n1; have := k.n2
  refine ⟨bd _ _ (by omega) (by omega) (by omega) (by omega), bd _ _ (by omega) (by omega) (by omega) (by omega), ⟨?_, (bd b d (by omega) (by omega) (by omega) (by omega)).2⟩, bd _ _ (by omega) (by omega) (by omega) (by omega), bd _ _ (by omega) (by omega) (by omega) (by omega)⟩
  have := Int.mul_le_mul h.d1 k.d1 (by omega) (by omega)
  omega
def CmpV (a b c d : Int) : Int := if a * d < c * b then -1 else if a * d > c * b then 1 else 0
def CmpR (a b c d : Int) : Int × Int := if Chk2 a b c d = 0 then (CmpV a b c d, 0) else (0, Chk2 a b c d)
theorem compare_f (x y : Int) : cmp_Compare_int.f x y = some (if x < y then -1 else if x > y then 1 else 0) := by
  unfold cmp_Compare_int.f cmp_isNaN_int.f
  simp only [bne_self_eq_false, Option.bind_some, Bool.false_eq_true, if_false]
  by_cases h : x < y
  · rw [if_pos h, if_pos h]
  · rw [if_neg h, if_neg h]
    by_cases k : x > y
    · rw [if_pos k, if_pos k]
    · rw [if_neg k, if_neg k]
theorem ratio_compare {a b c d : Int} (h : Ok a b) (k : Ok c d) : num_ratio_compare.f a b c d = some (CmpV a b c d) := by
  have := h.mul k
  unfold num_ratio_compare.f
  rw [w64 (n := a * d) (by omega) (by omega), w64 (n := c * b) (by omega) (by omega), compare_f]
  rfl
theorem ev_Cmp (a b c d : Int) : Ev (fun k => num_Cmp.f k a b c d) (CmpR a b c d) := by
  unfold num_Cmp.f CmpR
  refine Ev.bind (ev_checked2 a b c d) ?_
  by_cases x : Chk2 a b c d = 0
  · simp only [x, if_true]
    obtain ⟨h1, h2⟩ := Chk2_ok.mp x
    unfold num_of.f
    simp only [Option.bind_some, ratio_compare h1 h2]
    exact Ev.now _
  · simp only [x, if_false]
    exact Ev.now _
theorem floor_div {n d : Int} (h0 : 1 ≤ d) (h1 : d ≤ 9223372036854775807) (hn : -9223372036854775807 ≤ n) (hn' : n ≤ 9223372036854775807) : num_ratio_floor.f n d = some (n / d) := by
  have b := le_div (a := n) (g := d.toNat) (by omega) hn hn'
  rw [Int.toNat_of_nonneg (by omega)] at b
  have e1 : n.tdiv d = n / d + (if 0 ≤ n ∨ d ∣ n then 0 else 1) := by
    rw [Int.tdiv_eq_ediv]
    have : d.sign = 1 := Int.sign_eq_one_of_pos (by omega)
    rw [this]
  have e2 : n.tmod d = n % d - (if 0 ≤ n ∨ d ∣ n then 0 else d) := by
    rw [Int.tmod_eq_emod]
    by_cases c : 0 ≤ n ∨ d ∣ n
    · rw [if_pos c, if_pos c]
      rfl
    · rw [if_neg c, if_neg c]
      omega
  have p1 := Int.emod_nonneg n (b := d) (by omega)
  have p2 := Int.emod_lt_of_pos n (b := d) (by omega)
  unfold num_ratio_floor.f
  rw [if_neg (by omega), e1, e2]
  by_cases c : 0 ≤ n ∨ d ∣ n
  · rw [if_pos c, if_pos c, if_neg (by omega), Int.add_zero, w64 (by omega) (by omega)]
  · rw [if_neg c, if_neg c, if_pos (by omega)]
    have hneg : n / d < 0 := Int.ediv_neg_of_neg_of_pos (by omega) (by omega)
    rw [w64 (n := n / d + 1) (by omega) (by omega), w64 (by omega) (by omega)]
    congr 1
    omega
theorem ceil_div {n d : Int} (h0 : 1 ≤ d) (h1 : d ≤ 9223372036854775807) (hn : -9223372036854775807 ≤ n) (hn' : n ≤ 9223372036854775807) : num_ratio_ceil.f n d = some (-(-n / d)) := by
  have b := le_div (a := -n) (g := d.toNat) (b := 9223372036854775807) (by omega) (by omega) (by omega)
  rw [Int.toNat_of_nonneg (by omega)] at b
  unfold num_ratio_ceil.f
  rw [w64 (n := -n) (by omega) (by omega), floor_div h0 h1 (by omega) (by omega), Option.bind_some, w64 (by omega) (by omega)]
theorem Chk2_zero {a b c d : Int} (h : Ok a b) (k : Ok c d) : Chk2 a b c d = 0 := Chk2_ok.mpr ⟨h, k⟩
def FitQ (q : Rat) : Prop := (q.den : Int) ≤ 1000000000 ∧ (-1000000000 ≤ q.num ∧ q.num ≤ 1000000000)
instance (q : Rat) : Decidable (FitQ q) := inferInstanceAs (Decidable (_ ∧ _))
def LowQ (q : Rat) : Int × Int × Int := if FitQ q then (q.num, (q.den : Int), 0) else (0, 0, 8)
theorem Rn_q {n d : Int} (h0 : d ≠ 0) : Rn n d = (Rat.divInt n d).num ∧ Rd n d = ((Rat.divInt n d).den : Int) := by
  rw [Rat.num_divInt, Rat.den_divInt, if_neg h0, Int.gcd_comm d n]
  unfold Rn Rd
  refine ⟨?_, ?_⟩
  · congr 1
    split
    · rename_i h
      rw [Int.sign_eq_neg_one_of_neg h, Int.neg_one_mul]
    · rw [Int.sign_eq_one_of_pos (by omega), Int.one_mul]
  · rw [Int.natCast_ediv]
    congr 1
    split <;> omega
theorem Low_q {n d : Int} (h0 : d ≠ 0) : Low n d = LowQ (Rat.divInt n d) := by
  obtain ⟨e1, e2⟩ := Rn_q (n := n) h0
  unfold Low LowQ
  have : Fits n d ↔ FitQ (Rat.divInt n d) := by
    unfold Fits FitQ
    rw [e1, e2]
  by_cases c : Fits n d
  · rw [if_pos c, if_pos (this.mp c), e1, e2]
  · rw [if_neg c, if_neg (fun h => c (this.mpr h))]
theorem ok_q {q : Rat} (h : FitQ q) : Ok q.num q.den := by
  have := q.den_pos
  refine ⟨by omega, h.1, h.2.1, h.2.2, ?_⟩
  have := q.reduced
  unfold Nat.Coprime at this
  exact this
theorem q_ok {n d : Int} (h : Ok n d) : ∃ q, FitQ q ∧ n = q.num ∧ d = (q.den : Int) := by
  have h0 : d ≠ 0 := by have := h.d1; omega
  obtain ⟨e1, e2⟩ := Rn_q (n := n) h0
  have g := h.g
  have r1 : Rn n d = n := by
    unfold Rn
    rw [g, if_neg (by have := h.d1; omega)]
    exact Int.ediv_one n
  have r2 : Rd n d = d := by
    unfold Rd
    rw [g, if_neg (by have := h.d1; omega)]
    exact Int.ediv_one d
  refine ⟨Rat.divInt n d, ⟨?_, ?_⟩, by rw [← e1, r1], by rw [← e2, r2]⟩
  · rw [← e2, r2]; exact h.d2
  · rw [← e1, r1]; exact ⟨h.n1, h.n2⟩
theorem den_ne (q : Rat) : (q.den : Int) ≠ 0 := by have := q.den_pos; omega
theorem Chk2_q {p q : Rat} (hp : FitQ p) (hq : FitQ q) : Chk2 p.num p.den q.num q.den = 0 := Chk2_zero (ok_q hp) (ok_q hq)
def cmpQ (p q : Rat) : Int := if p < q then -1 else if q < p then 1 else 0
theorem CmpQ {p q : Rat} (hp : FitQ p) (hq : FitQ q) : CmpR p.num p.den q.num q.den = (cmpQ p q, 0) := by
  unfold CmpR CmpV cmpQ
  rw [if_pos (Chk2_q hp hq)]
  simp only [Rat.lt_iff]
theorem LowQ_fit {q : Rat} (h : FitQ q) : LowQ q = (q.num, (q.den : Int), 0) := if_pos h
theorem LowQ_no {q : Rat} (h : ¬ FitQ q) : LowQ q = (0, 0, 8) := if_neg h
theorem lt_trans_q {a b c : Rat} (h : a < b) (k : b < c) : a < c := by
  rcases Rat.le_iff_lt_or_eq.mp (Rat.le_trans (Rat.le_of_lt h) (Rat.le_of_lt k)) with x | x
  · exact x
  · subst x
    exact absurd h (Rat.not_lt.mpr (Rat.le_of_lt k))
theorem cmpQ_lt {p q : Rat} (h : p < q) : cmpQ p q = -1 := if_pos h
theorem ev_fit (a b c d e f : Int) : Ev (fun k => withylaw01_fit.f k a b c d e f) (decide (Chk a b = 0 ∧ Chk c d = 0 ∧ Chk e f = 0)) := by
  unfold withylaw01_fit.f
  refine Ev.bind (ev_rcheck a b) ?_
  by_cases x : Chk a b = 0
  · simp only [x, if_true, true_and]
    refine Ev.bind (ev_rcheck c d) ?_
    by_cases y : Chk c d = 0
    · simp only [y, if_true, true_and]
      refine Ev.bind (ev_rcheck e f) ?_
      by_cases z : Chk e f = 0
      · simp only [z, decide_true, beq_self_eq_true]
        exact Ev.now _
      · rw [decide_eq_false z, beq_eq_false_iff_ne.mpr z]
        exact Ev.now _
    · simp only [y, if_false, false_and, decide_false]
      exact Ev.now _
  · simp only [x, if_false, false_and, decide_false]
    exact Ev.now _
def Btw (ln ld hn hd s t : Int) : Prop := 0 < t ∧ ln * t < s * ld ∧ s * hd < hn * t
theorem Btw_shift (f ln ld hn hd s t : Int) : Btw ln ld hn hd s t ↔ Btw (ln - f * ld) ld (hn - f * hd) hd (s - f * t) t := by
  unfold Btw
  have e1 : (ln - f * ld) * t = ln * t - f * ld * t := Int.sub_mul ..
  have e2 : (s - f * t) * ld = s * ld - f * t * ld := Int.sub_mul ..
  have e3 : (s - f * t) * hd = s * hd - f * t * hd := Int.sub_mul ..
  have e4 : (hn - f * hd) * t = hn * t - f * hd * t := Int.sub_mul ..
  have e5 : f * t * ld = f * ld * t := by grind
  have e6 : f * t * hd = f * hd * t := by grind
  rw [e1, e2, e3, e4, e5, e6]
  constructor
  · rintro ⟨a, b, c⟩
    exact ⟨a, by omega, by omega⟩
  · rintro ⟨a, b, c⟩
    exact ⟨a, by omega, by omega⟩
theorem pos_of_mul {a b : Int} (hb : 0 < b) (h : 0 < a * b) : 0 < a := by
  rcases Int.lt_or_le 0 a with c | c
  · exact c
  · have := Int.mul_le_mul_of_nonneg_right c (Int.le_of_lt hb)
    omega
/-- no other one is simpler: of those between r / ld and g / hd -/
def Simp (r ld g hd u q : Int) : Prop := Btw r ld g hd u q ∧ ∀ v t, Btw r ld g hd v t → q ≤ t ∧ u ≤ v ∧ (g ≤ hd → q - u ≤ t - v)
theorem Btw_pos {r ld g hd v t : Int} (hr : 0 ≤ r) (hld : 0 < ld) (h : Btw r ld g hd v t) : 0 < v := by
  have := Int.mul_nonneg hr (Int.le_of_lt h.1)
  have := h.2.1
  exact pos_of_mul hld (by omega)
theorem Simp_one {r ld g hd : Int} (hr : 0 ≤ r) (hld : r < ld) (h : hd < g) : Simp r ld g hd 1 1 := by
  refine ⟨⟨by omega, by omega, by omega⟩, fun v t hb => ?_⟩
  have := Btw_pos hr (by omega) hb
  have := hb.1
  exact ⟨by omega, by omega, fun _ => by omega⟩
theorem Simp_rec {r ld g hd f' u' q' : Int} (hr : 0 ≤ r) (hld : r < ld) (hhd : 0 < hd) (hg : 0 < g) (hf : 1 ≤ f') (h : Simp (hd - f' * g) g (ld - f' * r) r u' q') : Simp r ld g hd q' (f' * q' + u') := by
  obtain ⟨h1, h2⟩ := h
  have e : f' * q' + u' - f' * q' = u' := by omega
  have b1 : Btw hd g ld r (f' * q' + u') q' := (Btw_shift f' hd g ld r _ _).mpr (by rw [e]; exact h1)
  have p0 : 0 < f' * q' + u' := Btw_pos (Int.le_of_lt hhd) hg b1
  refine ⟨⟨p0, ?_, ?_⟩, fun v t hb => ?_⟩
  · have := b1.2.2
    rw [Int.mul_comm r, Int.mul_comm q']
    exact this
  · have := b1.2.1
    rw [Int.mul_comm q', Int.mul_comm g]
    exact this
  · have hv := Btw_pos hr (by omega) hb
    have b2 : Btw hd g ld r t v := ⟨hv, by have := hb.2.2; rw [Int.mul_comm hd, Int.mul_comm t]; exact this, by have := hb.2.1; rw [Int.mul_comm t, Int.mul_comm ld]; exact this⟩
    obtain ⟨c1, c2, _⟩ := h2 _ _ ((Btw_shift f' hd g ld r t v).mp b2)
    have m1 : f' * q' ≤ f' * v := Int.mul_le_mul_of_nonneg_left c1 (by omega)
    have m2 : (f' - 1) * q' ≤ (f' - 1) * v := Int.mul_le_mul_of_nonneg_left c1 (by omega)
    rw [Int.sub_mul, Int.sub_mul, Int.one_mul, Int.one_mul] at m2
    exact ⟨by omega, c1, fun _ => by omega⟩
theorem Btw_mid {r ld g hd : Int} (hr : 0 ≤ r) (hld : 0 < ld) (hhd : 0 ≤ hd) (h : r * hd < g * ld) : Btw r ld g hd (r + g) (ld + hd) := by
  have e1 : r * (ld + hd) = r * ld + r * hd := Int.mul_add ..
  have e2 : (r + g) * ld = r * ld + g * ld := Int.add_mul ..
  have e3 : (r + g) * hd = r * hd + g * hd := Int.add_mul ..
  have e4 : g * (ld + hd) = g * ld + g * hd := Int.mul_add ..
  exact ⟨by omega, by omega, by omega⟩
theorem prod_le {a b M N : Int} (h0 : 0 ≤ a) (h1 : a ≤ M) (h2 : 0 ≤ b) (h3 : b ≤ N) : 0 ≤ a * b ∧ a * b ≤ M * N := ⟨Int.mul_nonneg h0 h2, Int.mul_le_mul h1 h3 h2 (by omega)⟩
theorem simplest_step (k : Nat) (ln ld hn hd : Int) (f : Int) (hfl : num_ratio_floor.f ln ld = some f) (hf : -1000000001 ≤ f ∧ f ≤ 1000000000) (hhd : 0 ≤ hd ∧ hd ≤ 1000000000) (hld : 0 < ld ∧ ld ≤ 1000000000) :
    num_simplest.f (k + 1) ln ld hn hd = if hd > 0 then num_simplest.j0 k f (f + 1) (decide ((f + 1) * hd ≥ hn)) ln ld hn hd else num_simplest.j0 k f (f + 1) false ln ld hn hd := by
  show (num_ratio_floor.f ln ld).bind _ = _
  rw [hfl, Option.bind_some]
  have n1 : (f + 1).natAbs ≤ 1000000001 := by omega
  have n2 : hd.natAbs ≤ 1000000000 := by omega
  have n3 := Nat.mul_le_mul n1 n2
  rw [← Int.natAbs_mul] at n3
  rw [w64 (n := f + 1) (by omega) (by omega), w64 (n := (f + 1) * hd) (by omega) (by omega)]
/-- from 0 on, by rounds -/
theorem simplest_pos : ∀ (N : Nat) (ln ld hn hd : Int), ld + hd ≤ N → 0 ≤ ln ∧ ln ≤ 1000000000 → 0 < ld ∧ ld ≤ 1000000000 → hn ≤ 1000000000 → 0 ≤ hd ∧ hd ≤ 1000000000 → ln * hd < hn * ld →
    ∃ u q, Ev (fun k => num_simplest.f k ln ld hn hd) (ln / ld * q + u, q) ∧ Simp (ln - ln / ld * ld) ld (hn - ln / ld * hd) hd u q := by
  intro N
  induction N with
  | zero => intro ln ld hn hd h _ h2 _ h4 _; omega
  | succ N ih =>
    intro ln ld hn hd hN hln hld hhn hhd hlt
    have hfl := floor_div (n := ln) (d := ld) (by omega) (by omega) (by omega) (by omega)
    have m1 := Int.emod_nonneg ln (b := ld) (by omega)
    have m2 := Int.emod_lt_of_pos ln (b := ld) (by omega)
    have m3 := Int.emod_add_mul_ediv ln ld
    have m4 : ld * (ln / ld) = ln / ld * ld := Int.mul_comm ..
    have f0 : 0 ≤ ln / ld := Int.ediv_nonneg hln.1 (by omega)
    have f1 : ln / ld ≤ ln := Int.ediv_le_self _ hln.1
    generalize ln / ld = f at hfl m3 m4 f0 f1 ⊢
    have hr0 : 0 ≤ ln - f * ld := by omega
    have hr1 : ln - f * ld < ld := by omega
    have sh : (ln - f * ld) * hd < (hn - f * hd) * ld := by
      have e1 : (ln - f * ld) * hd = ln * hd - f * ld * hd := Int.sub_mul ..
      have e2 : (hn - f * hd) * ld = hn * ld - f * hd * ld := Int.sub_mul ..
      have e3 : f * ld * hd = f * hd * ld := by grind
      omega
    have g0 : 0 < hn - f * hd := by
      have := Int.mul_nonneg hr0 hhd.1
      exact pos_of_mul hld.1 (by omega)
    have pf := prod_le (a := f) (b := hd) (M := 1000000000) (N := 1000000000) f0 (by omega) hhd.1 hhd.2
    have hst := fun k => simplest_step k ln ld hn hd f hfl (by omega) hhd hld
    have nx : (f + 1) * hd = f * hd + hd := by rw [Int.add_mul, Int.one_mul]
    by_cases c : 0 < hd ∧ hn - f * hd ≤ hd
    · -- what is left lies between two others, turned over
      have gle := c.2
      have e1 := Int.ediv_mul_le hd (b := hn - f * hd) (by omega)
      have f'1 : 1 ≤ hd / (hn - f * hd) := by
        rw [Int.le_ediv_iff_mul_le g0]
        omega
      obtain ⟨u', q', hev, hs⟩ := ih hd (hn - f * hd) ld (ln - f * ld) (by omega) ⟨hhd.1, hhd.2⟩ ⟨g0, by omega⟩ hld.2 ⟨hr0, by omega⟩ (by rw [Int.mul_comm hd, Int.mul_comm ld]; exact sh)
      have key := Simp_rec hr0 hr1 c.1 g0 f'1 hs
      generalize hd / (hn - f * hd) * q' + u' = p' at hev key
      refine ⟨q', p', ?_, key⟩
      have mid := key.2 _ _ (Btw_mid hr0 hld.1 hhd.1 sh)
      have k1 := key.1.1
      have pq := prod_le (a := f) (b := p') (M := 1000000000) (N := 2000000000) f0 (by omega) (by omega) (by omega)
      have kq := Btw_pos hr0 hld.1 key.1
      refine Ev.step (f := fun k => num_simplest.j0 k f (f + 1) true ln ld hn hd) (fun k => ?_) ?_
      · rw [hst k, if_pos c.1, decide_eq_true (show (f + 1) * hd ≥ hn by omega)]
      · refine Ev.step (f := fun k => (num_simplest.f k hd (hn - f * hd) ld (ln - f * ld)).bind fun b => some (wrap64 ((wrap64 (f * b.1)) + b.2), b.1)) (fun k => ?_) ?_
        · show (num_simplest.f k hd (wrap64 (hn - wrap64 (f * hd))) ld (wrap64 (ln - wrap64 (f * ld)))).bind _ = _
          rw [w64 (n := f * hd) (by omega) (by omega), w64 (n := f * ld) (by omega) (by omega), w64 (n := hn - f * hd) (by omega) (by omega), w64 (n := ln - f * ld) (by omega) (by omega)]
        · refine Ev.bind hev ?_
          rw [w64 (n := f * p') (by omega) (by omega), w64 (n := f * p' + q') (by omega) (by omega)]
          exact Ev.now _
    · refine ⟨1, 1, ?_, Simp_one hr0 hr1 (by omega)⟩
      rw [Int.mul_one]
      refine Ev.step (f := fun k => num_simplest.j0 k f (f + 1) false ln ld hn hd) (fun k => ?_) ?_
      · rw [hst k]
        by_cases d : hd > 0
        · rw [if_pos d, decide_eq_false (show ¬ (f + 1) * hd ≥ hn by omega)]
        · rw [if_neg d]
      · refine Ev.step (f := fun k => num_simplest.j1 k (f + 1) true hn hd) (fun k => ?_) (Ev.step (f := fun _ => some (mx (f + 1) 0, 1)) (fun k => rfl) ?_)
        · show (if f + 1 ≥ 0 then _ else _) = _
          rw [if_pos (by omega)]
        · unfold mx
          rw [if_neg (by omega)]
          exact Ev.now _
theorem simplest_top {an ad bn bd : Int} (ha : Ok an ad) (hb : Ok bn bd) (hlt : an * bd < bn * ad) :
    ∃ p q, Ev (fun k => num_simplest.f k an ad bn bd) (p, q) ∧ Btw an ad bn bd p q ∧ (∀ s t, Btw an ad bn bd s t → q ≤ t ∧ p.natAbs ≤ s.natAbs ∧ (p < 0 → s < 0)) ∧ (-4000000000000000000 ≤ p ∧ p ≤ 4000000000000000000) ∧ q ≤ 2000000000 := by
  have a1 := ha.d1; have a2 := ha.d2; have a3 := ha.n1; have a4 := ha.n2
  have b1 := hb.d1; have b2 := hb.d2; have b3 := hb.n1; have b4 := hb.n2
  have hfl := floor_div (n := an) (d := ad) (by omega) (by omega) (by omega) (by omega)
  have m1 := Int.emod_nonneg an (b := ad) (by omega)
  have m2 := Int.emod_lt_of_pos an (b := ad) (by omega)
  have m3 := Int.emod_add_mul_ediv an ad
  have m4 : ad * (an / ad) = an / ad * ad := Int.mul_comm ..
  have fb := le_div (a := an) (g := ad.toNat) (b := 1000000000) (by omega) (by omega) (by omega)
  rw [Int.toNat_of_nonneg (by omega)] at fb
  generalize an / ad = f at hfl m3 m4 fb ⊢
  have hr0 : 0 ≤ an - f * ad := by omega
  have hr1 : an - f * ad < ad := by omega
  have sh : (an - f * ad) * bd < (bn - f * bd) * ad := by
    have e1 : (an - f * ad) * bd = an * bd - f * ad * bd := Int.sub_mul ..
    have e2 : (bn - f * bd) * ad = bn * ad - f * bd * ad := Int.sub_mul ..
    have e3 : f * ad * bd = f * bd * ad := by grind
    omega
  have g0 : 0 < bn - f * bd := by
    have := Int.mul_nonneg hr0 (show 0 ≤ bd by omega)
    exact pos_of_mul (b := ad) (by omega) (by omega)
  have pf : -1000000000000000000 ≤ f * bd ∧ f * bd ≤ 1000000000000000000 := by
    have n1 : f.natAbs ≤ 1000000000 := by omega
    have n2 : bd.natAbs ≤ 1000000000 := by omega
    have n3 := Nat.mul_le_mul n1 n2
    rw [← Int.natAbs_mul] at n3
    omega
  have hst := fun k => simplest_step k an ad bn bd f hfl (by omega) (by omega) (by omega)
  have nx : (f + 1) * bd = f * bd + bd := by rw [Int.add_mul, Int.one_mul]
  by_cases c : bn - f * bd ≤ bd
  · have f'1 : 1 ≤ bd / (bn - f * bd) := by
      rw [Int.le_ediv_iff_mul_le g0]
      omega
    obtain ⟨u', q', hev, hs⟩ := simplest_pos (ad + bn - f * bd).toNat bd (bn - f * bd) ad (an - f * ad) (by omega) ⟨by omega, by omega⟩ ⟨g0, by omega⟩ a2 ⟨hr0, by omega⟩ (by rw [Int.mul_comm bd, Int.mul_comm ad]; exact sh)
    have key := Simp_rec hr0 hr1 (by omega) g0 f'1 hs
    generalize bd / (bn - f * bd) * q' + u' = p' at hev key
    have mid := key.2 _ _ (Btw_mid hr0 (by omega) (by omega) sh)
    have k1 := key.1.1
    have kq := Btw_pos hr0 (by omega) key.1
    have klt : q' < p' := by
      have h1 := key.1.2.2
      have h2 : (bn - f * bd) * p' ≤ bd * p' := Int.mul_le_mul_of_nonneg_right c (by omega)
      have h3 : q' * bd < p' * bd := by rw [Int.mul_comm p']; omega
      exact Int.lt_of_mul_lt_mul_right h3 (by omega)
    have pq : -2000000000000000000 ≤ f * p' ∧ f * p' ≤ 2000000000000000000 := by
      have n1 : f.natAbs ≤ 1000000000 := by omega
      have n2 : p'.natAbs ≤ 2000000000 := by omega
      have n3 := Nat.mul_le_mul n1 n2
      rw [← Int.natAbs_mul] at n3
      omega
    have e : f * p' + q' - f * p' = q' := by omega
    refine ⟨f * p' + q', p', ?_, (Btw_shift f an ad bn bd _ _).mpr (by rw [e]; exact key.1), fun s t h => ?_, by omega, by omega⟩
    · refine Ev.step (f := fun k => num_simplest.j0 k f (f + 1) true an ad bn bd) (fun k => ?_) ?_
      · rw [hst k, if_pos (by omega), decide_eq_true (show (f + 1) * bd ≥ bn by omega)]
      · refine Ev.step (f := fun k => (num_simplest.f k bd (bn - f * bd) ad (an - f * ad)).bind fun b => some (wrap64 ((wrap64 (f * b.1)) + b.2), b.1)) (fun k => ?_) ?_
        · show (num_simplest.f k bd (wrap64 (bn - wrap64 (f * bd))) ad (wrap64 (an - wrap64 (f * ad)))).bind _ = _
          rw [w64 (n := f * bd) (by omega) (by omega), w64 (n := f * ad) (by omega) (by omega), w64 (n := bn - f * bd) (by omega) (by omega), w64 (n := an - f * ad) (by omega) (by omega)]
        · refine Ev.bind hev ?_
          rw [w64 (n := f * p') (by omega) (by omega), w64 (n := f * p' + q') (by omega) (by omega)]
          exact Ev.now _
    · obtain ⟨c1, c2, c3⟩ := key.2 _ _ ((Btw_shift f an ad bn bd s t).mp h)
      have c3 := c3 c
      refine ⟨c1, ?_⟩
      by_cases fz : 0 ≤ f
      · have m5 : f * p' ≤ f * t := Int.mul_le_mul_of_nonneg_left c1 fz
        have m6 := Int.mul_nonneg fz (show 0 ≤ p' by omega)
        exact ⟨by omega, fun _ => by omega⟩
      · have m5 : (-f - 1) * p' ≤ (-f - 1) * t := Int.mul_le_mul_of_nonneg_left c1 (by omega)
        have m6 := Int.mul_nonneg (show 0 ≤ -f - 1 by omega) (show 0 ≤ p' by omega)
        rw [Int.sub_mul, Int.one_mul, Int.neg_mul] at m5 m6
        rw [Int.sub_mul, Int.one_mul, Int.neg_mul] at m5
        exact ⟨by omega, fun _ => by omega⟩
  · have s1 : Simp (an - f * ad) ad (bn - f * bd) bd 1 1 := Simp_one hr0 hr1 (by omega)
    have j0 : ∀ k, num_simplest.f (k + 1) an ad bn bd = num_simplest.j0 k f (f + 1) false an ad bn bd := fun k => by
      rw [hst k, if_pos (by omega), decide_eq_false (show ¬ (f + 1) * bd ≥ bn by omega)]
    by_cases n : 0 ≤ f + 1
    · refine ⟨f + 1, 1, ?_, (Btw_shift f an ad bn bd _ _).mpr (by rw [Int.mul_one, show f + 1 - f = 1 by omega]; exact s1.1), fun s t h => ?_, by omega, by omega⟩
      · refine Ev.step j0 (Ev.step (f := fun k => num_simplest.j1 k (f + 1) true bn bd) (fun k => ?_) (Ev.step (f := fun _ => some (mx (f + 1) 0, 1)) (fun k => rfl) ?_))
        · show (if f + 1 ≥ 0 then _ else _) = _
          rw [if_pos (by omega)]
        · unfold mx
          rw [if_neg (by omega)]
          exact Ev.now _
      · obtain ⟨c1, c2, _⟩ := s1.2 _ _ ((Btw_shift f an ad bn bd s t).mp h)
        refine ⟨c1, ?_, fun _ => by omega⟩
        by_cases fz : 0 ≤ f
        · have m5 : f * 1 ≤ f * t := Int.mul_le_mul_of_nonneg_left c1 fz
          omega
        · omega
    · have st : ∀ k, num_simplest.j0 (k + 1) f (f + 1) false an ad bn bd = num_simplest.j1 k (f + 1) false bn bd := fun k => by
        show (if f + 1 ≥ 0 then _ else num_simplest.j1 k (f + 1) (bd == 0) bn bd) = _
        rw [if_neg (by omega), beq_eq_false_iff_ne.mpr (by omega)]
      by_cases z : bn > 0
      · refine ⟨0, 1, Ev.step j0 (Ev.step st (Ev.step (f := fun _ => some (0, 1)) (fun k => ?_) (Ev.now _))), ⟨by omega, ?_, by omega⟩, fun s t h => ⟨by have := h.1; omega, by omega, fun h => by omega⟩, by omega, by omega⟩
        · show (if bn > 0 then _ else _) = _
          rw [if_pos z]
        · have h1 : f * ad ≤ (-2) * ad := Int.mul_le_mul_of_nonneg_right (by omega) (by omega)
          omega
      · have hc := ceil_div (n := bn) (d := bd) (by omega) (by omega) (by omega) (by omega)
        have q1 := Int.emod_nonneg (-bn) (b := bd) (by omega)
        have q2 := Int.emod_lt_of_pos (-bn) (b := bd) (by omega)
        have q3 := Int.emod_add_mul_ediv (-bn) bd
        have q4 : bd * (-bn / bd) = -bn / bd * bd := Int.mul_comm ..
        have q5 := le_div (a := -bn) (g := bd.toNat) (b := 1000000000) (by omega) (by omega) (by omega)
        rw [Int.toNat_of_nonneg (by omega)] at q5
        have q6 : 0 ≤ -bn / bd := Int.ediv_nonneg (by omega) (by omega)
        generalize -bn / bd = c' at hc q3 q4 q5 q6
        have low : (-c' - 1) * bd < bn := by
          rw [Int.sub_mul, Int.neg_mul, Int.one_mul]
          omega
        have up : bn ≤ -c' * bd := by
          rw [Int.neg_mul]
          omega
        have fc : f + 1 ≤ -c' - 1 := by
          have h1 : (f + 1) * bd < -c' * bd := by omega
          have := Int.lt_of_mul_lt_mul_right h1 (by omega)
          omega
        refine ⟨-c' - 1, 1, Ev.step j0 (Ev.step st (Ev.step (f := fun _ => some (-c' - 1, 1)) (fun k => ?_) (Ev.now _))), ⟨by omega, ?_, by omega⟩, fun s t h => ⟨by have := h.1; omega, ?_⟩, by omega, by omega⟩
        · show (if bn > 0 then _ else (num_ratio_ceil.f bn bd).bind fun t => some (wrap64 (t - 1), 1)) = _
          rw [if_neg z, hc, Option.bind_some, w64 (by omega) (by omega)]
        · have h1 : (f + 1) * ad ≤ (-c' - 1) * ad := Int.mul_le_mul_of_nonneg_right fc (by omega)
          rw [Int.add_mul, Int.one_mul] at h1
          omega
        · have h1 := h.2.2
          have h0 := h.1
          have h2 : bn * t ≤ -c' * bd * t := Int.mul_le_mul_of_nonneg_right up (by omega)
          have h3 : -c' * bd * t = (-c' * t) * bd := by grind
          have h4 : s < -c' * t := Int.lt_of_mul_lt_mul_right (a := bd) (by omega) (by omega)
          have h5 : c' * 1 ≤ c' * t := Int.mul_le_mul_of_nonneg_left (by omega) q6
          rw [Int.neg_mul] at h4
          exact ⟨by omega, fun _ => by omega⟩
set_option maxRecDepth 100000 in
theorem summed_at : withylaw01_summed.f 60 = some true := by kernel_rfl
theorem ev_summed : Ev (fun k => withylaw01_summed.f k) true := Ev.of (fun k => withylaw01_summed.mono k) summed_at
theorem Btw_q (p q r : Rat) : Btw p.num p.den q.num q.den r.num r.den ↔ p < r ∧ r < q := by
  unfold Btw
  rw [Rat.lt_iff, Rat.lt_iff]
  have := r.den_pos
  constructor
  · rintro ⟨_, a, b⟩
    exact ⟨a, b⟩
  · rintro ⟨a, b⟩
    exact ⟨by omega, a, b⟩
/-- the simplest one, as a rational number -/
theorem simplest_q {p q : Rat} (hp : FitQ p) (hq : FitQ q) (h : p < q) :
    ∃ x : Rat, (∃ n d, Ev (fun k => num_simplest.f k p.num p.den q.num q.den) (n, d) ∧ Ev (fun k => num_ratio_num.f k n d) (NumE n d) ∧ Low n d = LowQ x) ∧ p < x ∧ x < q ∧ ∀ c : Rat, p < c → c < q → x.den ≤ c.den ∧ x.num.natAbs ≤ c.num.natAbs ∧ (x.num < 0 → c.num < 0) := by
  have hlt : p.num * q.den < q.num * p.den := by rwa [Rat.lt_iff] at h
  obtain ⟨n, d, hev, hb, hm, hn, hd⟩ := simplest_top (ok_q hp) (ok_q hq) hlt
  have d0 := hb.1
  have hd0 : d ≠ 0 := by omega
  obtain ⟨e1, e2⟩ := Rn_q (n := n) hd0
  have hx : n * ((Rat.divInt n d).den : Int) = (Rat.divInt n d).num * d := by
    rw [← e1, ← e2]
    have hg := gcd_pos (n := n) hd0
    have d1 : ((Int.gcd n d : Nat) : Int) ∣ n := Int.gcd_dvd_left ..
    have d2 : ((Int.gcd n d : Nat) : Int) ∣ d := Int.gcd_dvd_right ..
    unfold Rn Rd
    rw [if_neg (by omega), if_neg (by omega), ← Int.mul_ediv_assoc n d2, Int.mul_ediv_assoc' d d1]
  generalize hxx : Rat.divInt n d = x at e1 e2 hx
  have xb : p < x ∧ x < q := by
    have x0 := x.den_pos
    have k1 := hb.2.1
    have k2 := hb.2.2
    refine ⟨?_, ?_⟩
    · rw [Rat.lt_iff]
      have h1 : p.num * d * x.den < n * p.den * x.den := Int.mul_lt_mul_of_pos_right k1 (by omega)
      have h2 : n * p.den * x.den = (x.num * p.den) * d := by
        rw [Int.mul_right_comm, hx, Int.mul_right_comm]
      have h3 : p.num * d * x.den = p.num * x.den * d := Int.mul_right_comm ..
      exact Int.lt_of_mul_lt_mul_right (a := d) (by omega) (by omega)
    · rw [Rat.lt_iff]
      have h1 : n * q.den * x.den < q.num * d * x.den := Int.mul_lt_mul_of_pos_right k2 (by omega)
      have h2 : n * q.den * x.den = (x.num * q.den) * d := by
        rw [Int.mul_right_comm, hx, Int.mul_right_comm]
      have h3 : q.num * d * x.den = q.num * x.den * d := Int.mul_right_comm ..
      exact Int.lt_of_mul_lt_mul_right (a := d) (by omega) (by omega)
  -- it is in lowest terms
  have m := hm _ _ ((Btw_q p q x).mpr xb)
  have le : (x.den : Int) ≤ d := by
    rw [← e2]
    unfold Rd
    rw [if_neg (by omega)]
    exact Int.ediv_le_self _ (by omega)
  have de : d = x.den := by omega
  have ne : n = x.num := by
    rw [de] at hx
    exact Int.eq_of_mul_eq_mul_right (den_ne x) hx
  refine ⟨x, ⟨n, d, hev, ev_num (by omega) (by omega) (by omega) (by omega) hd0, by rw [Low_q hd0, hxx]⟩, xb.1, xb.2, fun c h1 h2 => ?_⟩
  obtain ⟨c1, c2, c3⟩ := hm _ _ ((Btw_q p q c).mpr ⟨h1, h2⟩)
  rw [← ne]
  exact ⟨by omega, c2, c3⟩
theorem simplest_ev {p q : Rat} (hp : FitQ p) (hq : FitQ q) : (¬ p < q ∧ Ev (fun k => num_Simplest.f k p.num p.den q.num q.den) (0, 0, 10)) ∨
    (p < q ∧ ∃ x : Rat, Ev (fun k => num_Simplest.f k p.num p.den q.num q.den) (LowQ x) ∧ p < x ∧ x < q ∧ ∀ c : Rat, p < c → c < q → x.den ≤ c.den ∧ x.num.natAbs ≤ c.num.natAbs ∧ (x.num < 0 → c.num < 0)) := by
  have hc : CmpV p.num p.den q.num q.den = cmpQ p q := by
    have := CmpQ hp hq
    unfold CmpR at this
    rw [if_pos (Chk2_q hp hq)] at this
    exact (Prod.mk.inj this).1
  have st : ∀ k, num_Simplest.f k p.num p.den q.num q.den = (num_checked.f k [(⟨p.num, (p.den : Int)⟩ : S23), ⟨q.num, (q.den : Int)⟩]).bind fun t => if t = 0 then (if cmpQ p q ≥ 0 then some (0, 0, 10) else (num_simplest.f k p.num p.den q.num q.den).bind fun b => (num_ratio_num.f k b.1 b.2).bind fun z => exc z (fun _ => some (0, 0, 8)) (fun b => some (b.1, b.2, 0))) else some (0, 0, t) := fun k => by
    unfold num_Simplest.f num_of.f
    simp only [Option.bind_some, ratio_compare (ok_q hp) (ok_q hq), hc]
  by_cases h : p < q
  · right
    obtain ⟨x, ⟨n, d, h1, h2, h3⟩, hx⟩ := simplest_q hp hq h
    refine ⟨h, x, Ev.congr st ?_, hx⟩
    refine Ev.bind (ev_checked2 _ _ _ _) ?_
    rw [Chk2_q hp hq, cmpQ_lt h]
    simp only [if_true, show ¬ ((-1 : Int) ≥ 0) by decide, if_false]
    refine Ev.bind h1 (Ev.bind h2 ?_)
    rw [exc_num, h3]
    exact Ev.now _
  · left
    refine ⟨h, Ev.congr st ?_⟩
    refine Ev.bind (ev_checked2 _ _ _ _) ?_
    rw [Chk2_q hp hq]
    have g : cmpQ p q ≥ 0 := by
      unfold cmpQ
      rw [if_neg h]
      split <;> decide
    simp only [g, if_true]
    exact Ev.now _
theorem between_ev {p q r : Rat} (hp : FitQ p) (hq : FitQ q) (hr : FitQ r) : Ev (fun k => withylaw01_between.f k p.num p.den q.num q.den r.num r.den) (decide (p < q ∧ q < r)) := by
  unfold withylaw01_between.f
  refine Ev.bind (ev_Cmp _ _ _ _) (Ev.bind (ev_Cmp _ _ _ _) ?_)
  rw [CmpQ hp hq, CmpQ hq hr]
  simp only [if_true]
  have lt0 : ∀ u v : Rat, (cmpQ u v < 0) ↔ u < v := fun u v => by
    unfold cmpQ
    by_cases h : u < v
    · simp [h]
    · simp only [h, if_false, iff_false]
      split <;> decide
  refine Ev.isNow fun k => ?_
  by_cases a : p < q
  · rw [if_pos ((lt0 _ _).mpr a)]
    simp only [a, true_and, lt0]
  · rw [if_neg (fun h => a ((lt0 _ _).mp h))]
    simp [a]
theorem simpler_no {x c : Rat} (hx : FitQ x) (hc : FitQ c) (h1 : x.den ≤ c.den) (h2 : x.num.natAbs ≤ c.num.natAbs) (h3 : x.num < 0 → c.num < 0) : withyref01_Simpler.f c.num c.den x.num x.den = some false := by
  have b1 := hx.2; have b2 := hc.2
  unfold withyref01_Simpler.f
  rw [w64 (n := -c.num) (by omega) (by omega), w64 (n := -x.num) (by omega) (by omega)]
  by_cases d : (c.den : Int) = x.den
  · rw [if_pos d]
    by_cases n1 : c.num < 0
    · rw [if_pos n1]
      by_cases n2 : x.num < 0
      · rw [if_pos n2, if_neg (by omega)]
        by_cases e : -c.num = -x.num
        · rw [if_pos e, decide_eq_false (by omega)]
        · rw [if_neg e]
      · rw [if_neg n2, if_neg (by omega)]
        by_cases e : -c.num = x.num
        · rw [if_pos e, decide_eq_false (by omega)]
        · rw [if_neg e]
    · rw [if_neg n1]
      by_cases n2 : x.num < 0
      · exact absurd (h3 n2) n1
      · rw [if_neg n2, if_neg (by omega)]
        by_cases e : c.num = x.num
        · rw [if_pos e, decide_eq_false (by omega)]
        · rw [if_neg e]
  · rw [if_neg d, decide_eq_false (by omega)]
theorem withylaw01_NumSimple.ev (a0_0 a0_1 a1_0 a1_1 a2_0 a2_1 : Int) : Ev (fun k => withylaw01_NumSimple.f k a0_0 a0_1 a1_0 a1_1 a2_0 a2_1) true := by
  unfold withylaw01_NumSimple.f
  have hs := Ev.bind ev_summed (Ev.now true)
  refine Ev.bind (ev_fit a0_0 a0_1 a1_0 a1_1 a2_0 a2_1) ?_
  by_cases c : Chk a0_0 a0_1 = 0 ∧ Chk a1_0 a1_1 = 0 ∧ Chk a2_0 a2_1 = 0
  · obtain ⟨p, hp, rfl, rfl⟩ := q_ok (Chk_ok.mp c.1)
    obtain ⟨q, hq, rfl, rfl⟩ := q_ok (Chk_ok.mp c.2.1)
    obtain ⟨r, hr, rfl, rfl⟩ := q_ok (Chk_ok.mp c.2.2)
    rw [decide_eq_true c]
    clear c
    simp only [if_true]
    have nofit : ∀ e : Int, e ≠ 0 → ¬ (p < r ∧ r < q) → Ev (fun k => withylaw01_NumSimple.j0 k e false p.num p.den q.num q.den r.num r.den 0 0) true := fun e he h => by
      refine Ev.step (f := fun k => (withylaw01_between.f k p.num p.den r.num r.den q.num q.den).bind fun t => if t = true then some false else (if ((0 : Int) == 0 && ((0 : Int) == 0)) = true then ((withylaw01_summed.f k).bind fun t => some t) else some false)) (fun k => ?_) ?_
      · show (if e = 0 then _ else _) = _
        rw [if_neg he]
      · refine Ev.bind (between_ev hp hr hq) ?_
        rw [decide_eq_false h]
        simp only [Bool.false_eq_true, if_false, beq_self_eq_true, Bool.and_self, if_true]
        exact hs
    rcases simplest_ev hp hq with ⟨h, hev⟩ | ⟨h, x, hev, x1, x2, hm⟩
    · refine Ev.bind hev (Ev.bind (ev_Cmp _ _ _ _) ?_)
      rw [CmpQ hp hq]
      have g : cmpQ p q ≥ 0 := by
        unfold cmpQ
        rw [if_neg h]
        split <;> decide
      simp only [if_true, beq_self_eq_true, decide_eq_true g, bne_self_eq_false]
      exact nofit 10 (by decide) fun w => h (lt_trans_q w.1 w.2)
    · refine Ev.bind hev (Ev.bind (ev_Cmp _ _ _ _) ?_)
      rw [CmpQ hp hq, cmpQ_lt h]
      by_cases f : FitQ x
      · rw [LowQ_fit f]
        simp only [if_true, show ((0 : Int) == 10) = false by decide, show decide ((-1 : Int) ≥ 0) = false by decide, bne_self_eq_false]
        refine Ev.step (f := fun k => (withylaw01_between.f k p.num p.den x.num x.den q.num q.den).bind fun t => if t = true then ((withylaw01_between.f k p.num p.den r.num r.den q.num q.den).bind fun t => if t = true then ((withyref01_Simpler.f r.num r.den x.num x.den).bind fun t => if t = true then some false else ((withylaw01_summed.f k).bind fun t => some t)) else ((withylaw01_summed.f k).bind fun t => some t)) else some false) (fun k => rfl) ?_
        refine Ev.bind (between_ev hp f hq) ?_
        rw [decide_eq_true ⟨x1, x2⟩]
        simp only [if_true]
        refine Ev.bind (between_ev hp hr hq) ?_
        by_cases w : p < r ∧ r < q
        · rw [decide_eq_true w]
          obtain ⟨m1, m2, m3⟩ := hm r w.1 w.2
          simp only [if_true, simpler_no f hr m1 m2 m3, Option.bind_some, Bool.false_eq_true, if_false]
          exact hs
        · rw [decide_eq_false w]
          simp only [Bool.false_eq_true, if_false]
          exact hs
      · rw [LowQ_no f]
        simp only [if_true, show ((8 : Int) == 10) = false by decide, show decide ((-1 : Int) ≥ 0) = false by decide, bne_self_eq_false]
        refine nofit 8 (by decide) fun w => f ?_
        obtain ⟨m1, m2, _⟩ := hm r w.1 w.2
        have := hr.1; have := hr.2
        exact ⟨by omega, by omega, by omega⟩
  · rw [decide_eq_false c]
    simp only [Bool.false_eq_true, if_false]
    exact hs
theorem withylaw01_NumSimple.pure (a0_0 a0_1 a1_0 a1_1 a2_0 a2_1 : Int) (_ : -9223372036854775808 ≤ a0_0 ∧ a0_0 ≤ 9223372036854775807) (_ : -9223372036854775808 ≤ a0_1 ∧ a0_1 ≤ 9223372036854775807) (_ : -9223372036854775808 ≤ a1_0 ∧ a1_0 ≤ 9223372036854775807) (_ : -9223372036854775808 ≤ a1_1 ∧ a1_1 ≤ 9223372036854775807) (_ : -9223372036854775808 ≤ a2_0 ∧ a2_0 ≤ 9223372036854775807) (_ : -9223372036854775808 ≤ a2_1 ∧ a2_1 ≤ 9223372036854775807) : ∃ k, withylaw01_NumSimple.f k a0_0 a0_1 a1_0 a1_1 a2_0 a2_1 = some true :=
  (withylaw01_NumSimple.ev a0_0 a0_1 a1_0 a1_1 a2_0 a2_1).rounds
end Go.Proofs.Ytakcdoahpbeckaa.H
