/- NumTexts: the plain law, without the program: what the printed functions come to. -/
import Derived.Test.YtakcdoahpbeckaaKNumTexts4
namespace Go.Proofs.Ytakcdoahpbeckaa.H
open Go.RowKit Go.Proofs.YtakcdoahpbeckaaW.PrintWords Go.Proofs.YtakcdoahpbeckaaW.PrintLast Go.Proofs.YtakcdoahpbeckaaW.PrintMore
attribute [local go_sem] max2_int min2_int max_two min_two max_three min_three max_four min_four   -- for this text's walks alone
set_option linter.unusedVariables false
set_option linter.unusedSimpArgs false

/-! ### the text VNumTexts -/
theorem w64 {n : Int} (h : -9223372036854775808 ≤ n) (h' : n ≤ 9223372036854775807) : wrap64 n = n := by unfold wrap64; omega
theorem Ev.isNow {α : Type} {g : Nat → Option α} {r : α} (h : ∀ k, g k = some r) : Ev g r := ⟨0, fun k _ => h k⟩
theorem mx_nat (g : Nat) (h : 0 < g) : mx (g : Int) 1 = g := by unfold mx; split <;> omega
theorem mx_abs {n : Int} (h : -9223372036854775807 ≤ n) (h' : n ≤ 9223372036854775807) : mx n (wrap64 (-n)) = (n.natAbs : Int) := by
  rw [w64 (by omega) (by omega)]
  unfold mx
  split <;> omega
theorem divisor_loop : ∀ (n m : Nat), Ev (fun k => num_divisor.l0 k (m : Int) (n : Int)) (mx (Nat.gcd m n : Nat) 1) := by
  intro n
  induction n using Nat.strongRecOn with
  | ind n ih =>
    intro m
    by_cases h : n = 0
    · subst h
      refine Ev.step (f := fun _ => some (mx (m : Int) 1)) (fun k => ?_) (by rw [Nat.gcd_zero_right]; exact Ev.now _)
      show (if (0 : Int) > 0 then _ else _) = _
      rfl
    · refine Ev.step (f := fun k => num_divisor.l0 k (n : Int) ((m % n : Nat) : Int)) (fun k => ?_) ?_
      · show (if (n : Int) > 0 then (if (n : Int) = 0 then none else num_divisor.l0 k (n : Int) (Int.tmod m n)) else _) = _
        rw [if_pos (by omega), if_neg (by omega)]
        rfl
      · have := ih (m % n) (Nat.mod_lt _ (by omega)) n
        rwa [Nat.gcd_comm n, ← Nat.gcd_rec, Nat.gcd_comm n] at this
theorem ev_divisor {n d : Int} (hn : -9223372036854775807 ≤ n) (hn' : n ≤ 9223372036854775807) (hd : -9223372036854775807 ≤ d) (hd' : d ≤ 9223372036854775807) (h0 : d ≠ 0) :
    Ev (fun k => num_divisor.f k n d) (Int.gcd n d) := by
  have h := divisor_loop d.natAbs n.natAbs
  rw [mx_nat _ (Nat.gcd_pos_of_pos_right _ (by omega))] at h
  refine Ev.congr (fun k => ?_) h
  show num_divisor.l0 k _ _ = _
  rw [mx_abs hn hn', mx_abs hd hd']
theorem of2_loop : ∀ (n m : Nat), 0 < Nat.gcd m n → Ev (fun k => withyref01_Of2.l0 k (m : Int) (n : Int)) ((Nat.gcd m n : Nat) : Int) := by
  intro n
  induction n using Nat.strongRecOn with
  | ind n ih =>
    intro m hp
    by_cases h : n = 0
    · subst h
      rw [Nat.gcd_zero_right] at hp ⊢
      refine Ev.step (f := fun _ => some ((m : Int))) (fun k => ?_) (Ev.now _)
      show (if (0 : Int) > 0 then _ else if (m : Int) = 0 then _ else _) = _
      rw [if_neg (by omega), if_neg (by omega)]
    · have hr : Nat.gcd n (m % n) = Nat.gcd m n := by rw [Nat.gcd_comm n, ← Nat.gcd_rec, Nat.gcd_comm n]
      refine Ev.step (f := fun k => withyref01_Of2.l0 k (n : Int) ((m % n : Nat) : Int)) (fun k => ?_) ?_
      · show (if (n : Int) > 0 then (if (n : Int) = 0 then none else withyref01_Of2.l0 k (n : Int) (Int.tmod m n)) else _) = _
        rw [if_pos (by omega), if_neg (by omega)]
        rfl
      · have := ih (m % n) (Nat.mod_lt _ (by omega)) n (by rw [hr]; exact hp)
        rwa [hr] at this
theorem ev_of2 {n d : Int} (hn : -9223372036854775807 ≤ n) (hn' : n ≤ 9223372036854775807) (hd : -9223372036854775807 ≤ d) (hd' : d ≤ 9223372036854775807) (h0 : d ≠ 0) :
    Ev (fun k => withyref01_Of2.f k n d) (Int.gcd n d) := by
  have h := of2_loop d.natAbs n.natAbs (Nat.gcd_pos_of_pos_right _ (by omega))
  have h2 : Ev (fun k => withyref01_Of2.j0 k (n.natAbs : Int) d) (Int.gcd n d) := by
    by_cases c : d < 0
    · refine Ev.step (f := fun k => withyref01_Of2.j1 k (n.natAbs : Int) (wrap64 (-d))) (fun k => ?_) (Ev.step (f := fun k => withyref01_Of2.l0 k (n.natAbs : Int) (wrap64 (-d))) (fun k => rfl) ?_)
      · show (if d < 0 then _ else _) = _
        rw [if_pos c]
      · rw [w64 (by omega) (by omega), show -d = (d.natAbs : Int) by omega]
        exact h
    · refine Ev.step (f := fun k => withyref01_Of2.j1 k (n.natAbs : Int) d) (fun k => ?_) (Ev.step (f := fun k => withyref01_Of2.l0 k (n.natAbs : Int) d) (fun k => rfl) ?_)
      · show (if d < 0 then _ else _) = _
        rw [if_neg c]
      · have e : d = (d.natAbs : Int) := by omega
        have h' := h
        rw [← e] at h'
        exact h'
  refine Ev.congr (fun k => ?_) h2
  unfold withyref01_Of2.f
  by_cases c : n < 0
  · rw [if_pos c, w64 (by omega) (by omega), show -n = (n.natAbs : Int) by omega]
  · rw [if_neg c]
    congr 1
    omega
/-- the error of a number -/
def Chk (n d : Int) : Int := if (1 ≤ d ∧ d ≤ 1000000000) ∧ (-1000000000 ≤ n ∧ n ≤ 1000000000) then (if Int.gcd n d > 1 then 1 else 0) else 3
theorem in_f (a b c : Int) : withyref01_In.f a b c = some (decide (b ≤ a ∧ a ≤ c)) := by
  unfold withyref01_In.f
  by_cases h : b ≤ a <;> simp [h]
theorem within_1 (a b n : Int) : num_within.f a b [n] = some (decide (a ≤ n ∧ n ≤ b)) := by
  unfold num_within.f
  simp
theorem ev_check (n d : Int) : Ev (fun k => num_Check.f k n d) (Chk n d) := by
  unfold num_Check.f Chk
  simp only [within_1, Option.bind_some]
  by_cases c : 1 ≤ d ∧ d ≤ 1000000000
  · by_cases c' : -1000000000 ≤ n ∧ n ≤ 1000000000
    · simp only [c, c', and_self, decide_true, if_true, Bool.not_true]
      refine Ev.step (f := fun k => (num_divisor.f k n d).bind fun t => if t > 1 then some 1 else some 0) (fun k => rfl) ?_
      · refine Ev.bind (ev_divisor (by omega) (by omega) (by omega) (by omega) (by omega)) ?_
        by_cases g : Int.gcd n d > 1
        · have g' : ((Int.gcd n d : Nat) : Int) > 1 := by omega
          simp only [g, g', if_true]
          exact Ev.now _
        · have g' : ¬ ((Int.gcd n d : Nat) : Int) > 1 := by omega
          simp only [g, g', if_false]
          exact Ev.now _
    · simp only [c, c', and_self, and_false, decide_true, decide_false, if_true, Bool.not_false, if_false]
      exact Ev.step (f := fun _ => some 3) (fun k => rfl) (Ev.now _)
  · simp only [c, false_and, decide_false, Bool.false_eq_true, if_false]
    exact Ev.step (f := fun _ => some 3) (fun k => rfl) (Ev.now _)
theorem ev_rcheck (n d : Int) : Ev (fun k => withyref01_Check.f k n d) (Chk n d) := by
  unfold withyref01_Check.f Chk
  simp only [in_f, Option.bind_some]
  by_cases c : 1 ≤ d ∧ d ≤ 1000000000
  · by_cases c' : -1000000000 ≤ n ∧ n ≤ 1000000000
    · simp only [c, c', and_self, decide_true, if_true, Bool.not_true]
      refine Ev.step (f := fun k => (withyref01_Of2.f k n d).bind fun t => if t > 1 then some 1 else some 0) (fun k => rfl) ?_
      · refine Ev.bind (ev_of2 (by omega) (by omega) (by omega) (by omega) (by omega)) ?_
        by_cases g : Int.gcd n d > 1
        · have g' : ((Int.gcd n d : Nat) : Int) > 1 := by omega
          simp only [g, g', if_true]
          exact Ev.now _
        · have g' : ¬ ((Int.gcd n d : Nat) : Int) > 1 := by omega
          simp only [g, g', if_false]
          exact Ev.now _
    · simp only [c, c', and_self, and_false, decide_true, decide_false, if_true, Bool.not_false, if_false]
      exact Ev.step (f := fun _ => some 3) (fun k => rfl) (Ev.now _)
  · simp only [c, false_and, decide_false, Bool.false_eq_true, if_false]
    exact Ev.step (f := fun _ => some 3) (fun k => rfl) (Ev.now _)
def Rn (n d : Int) : Int := (if d < 0 then -n else n) / (Int.gcd n d : Int)
def Rd (n d : Int) : Int := (if d < 0 then -d else d) / (Int.gcd n d : Int)
def Fits (n d : Int) : Prop := Rd n d ≤ 1000000000 ∧ (-1000000000 ≤ Rn n d ∧ Rn n d ≤ 1000000000)
instance (n d : Int) : Decidable (Fits n d) := inferInstanceAs (Decidable (_ ∧ _))
def Low (n d : Int) : Int × Int × Int := if Fits n d then (Rn n d, Rd n d, 0) else (0, 0, 8)
def NumE (n d : Int) : Except Int (Int × Int) := if Fits n d then .ok (Rn n d, Rd n d) else .error 0
theorem gcd_pos {n d : Int} (h : d ≠ 0) : 0 < Int.gcd n d := Nat.gcd_pos_of_pos_right _ (by omega)
theorem le_div {a : Int} {g : Nat} (hg : 0 < g) {b : Int} (h : -b ≤ a) (h' : a ≤ b) : -b ≤ a / (g : Int) ∧ a / (g : Int) ≤ b := by
  have hb : 0 ≤ b := by omega
  refine ⟨?_, ?_⟩
  · have : -b ≤ (-b) / (g : Int) := by
      have := Int.le_ediv_of_mul_le (a := -b) (b := -b) (c := (g : Int)) (by omega) (by
        have : (1 : Int) ≤ g := by omega
        have := Int.mul_le_mul_of_nonneg_left this hb
        have e : -b * (g : Int) = -(b * g) := by rw [Int.neg_mul]
        omega)
      exact this
    exact Int.le_trans this (Int.ediv_le_ediv (by omega) h)
  · exact Int.le_trans (Int.ediv_le_ediv (by omega) h') (Int.ediv_le_self _ hb)
theorem core_num (n d : Int) (hn : -9223372036854775807 ≤ n) (hn' : n ≤ 9223372036854775807) (hd : -9223372036854775807 ≤ d) (hd' : d ≤ 9223372036854775807) (h0 : d ≠ 0) :
    wrap64 (Int.tdiv (if d < 0 then wrap64 (-n) else n) (Int.gcd n d)) = Rn n d ∧ wrap64 (Int.tdiv (if d < 0 then wrap64 (-d) else d) (Int.gcd n d)) = Rd n d := by
  have hg := gcd_pos (n := n) h0
  have d1 : ((Int.gcd n d : Nat) : Int) ∣ (if d < 0 then -n else n) := by
    split
    · exact Int.dvd_neg.mpr (Int.gcd_dvd_left ..)
    · exact Int.gcd_dvd_left ..
  have d2 : ((Int.gcd n d : Nat) : Int) ∣ (if d < 0 then -d else d) := by
    split
    · exact Int.dvd_neg.mpr (Int.gcd_dvd_right ..)
    · exact Int.gcd_dvd_right ..
  have e1 : (if d < 0 then wrap64 (-n) else n) = (if d < 0 then -n else n) := by rw [w64 (by omega) (by omega)]
  have e2 : (if d < 0 then wrap64 (-d) else d) = (if d < 0 then -d else d) := by rw [w64 (by omega) (by omega)]
  rw [e1, e2, Int.tdiv_eq_ediv_of_dvd d1, Int.tdiv_eq_ediv_of_dvd d2]
  have b1 := le_div hg (a := if d < 0 then -n else n) (b := 9223372036854775807) (by split <;> omega) (by split <;> omega)
  have b2 := le_div hg (a := if d < 0 then -d else d) (b := 9223372036854775807) (by split <;> omega) (by split <;> omega)
  exact ⟨w64 (by omega) b1.2, w64 (by omega) b2.2⟩
theorem gcd_sign (n d : Int) : Int.gcd (if d < 0 then wrap64 (-n) else n) (if d < 0 then wrap64 (-d) else d) = Int.gcd n d ∨ ¬ (-9223372036854775807 ≤ n ∧ n ≤ 9223372036854775807 ∧ -9223372036854775807 ≤ d ∧ d ≤ 9223372036854775807) := by
  by_cases h : (-9223372036854775807 ≤ n ∧ n ≤ 9223372036854775807 ∧ -9223372036854775807 ≤ d ∧ d ≤ 9223372036854775807)
  · left
    rw [w64 (by omega) (by omega), w64 (by omega) (by omega)]
    split
    · rw [Int.neg_gcd, Int.gcd_neg]
    · rfl
  · exact Or.inr h
theorem ev_num {n d : Int} (hn : -9223372036854775807 ≤ n) (hn' : n ≤ 9223372036854775807) (hd : -9223372036854775807 ≤ d) (hd' : d ≤ 9223372036854775807) (h0 : d ≠ 0) :
    Ev (fun k => num_ratio_num.f k n d) (NumE n d) := by
  have hg := gcd_pos (n := n) h0
  obtain ⟨c1, c2⟩ := core_num n d hn hn' hd hd' h0
  have hs := (gcd_sign n d).resolve_right (by omega)
  refine Ev.congr (f := fun k => num_ratio_num.j0 k (if d < 0 then wrap64 (-n) else n) (if d < 0 then wrap64 (-d) else d)) (fun k => ?_) ?_
  · unfold num_ratio_num.f
    split <;> rfl
  · generalize hN : (if d < 0 then wrap64 (-n) else n) = N at *
    generalize hD : (if d < 0 then wrap64 (-d) else d) = D at *
    have hNr : -9223372036854775807 ≤ N ∧ N ≤ 9223372036854775807 := by rw [← hN, w64 (by omega) (by omega)]; split <;> omega
    have hDr : (-9223372036854775807 ≤ D ∧ D ≤ 9223372036854775807) ∧ D ≠ 0 := by rw [← hD, w64 (by omega) (by omega)]; split <;> omega
    refine Ev.step (f := fun k => (num_divisor.f k N D).bind fun t => if t = 0 then none else if wrap64 (Int.tdiv D t) > 1000000000 then some (.error (0 : Int)) else (num_within.f (-1000000000) 1000000000 [wrap64 (Int.tdiv N t)]).bind fun u => if u = true then some (.ok (ε := Int) (wrap64 (Int.tdiv N t), wrap64 (Int.tdiv D t))) else some (.error (0 : Int))) (fun k => rfl) ?_
    refine Ev.bind (ev_divisor hNr.1 hNr.2 hDr.1.1 hDr.1.2 hDr.2) ?_
    rw [hs]
    simp only [c1, c2, within_1, Option.bind_some]
    refine Ev.isNow fun k => ?_
    rw [if_neg (by omega)]
    unfold NumE
    by_cases a : Rd n d > 1000000000
    · rw [if_pos a, if_neg (fun h : Fits n d => by have := h.1; omega)]
    · rw [if_neg a]
      by_cases b : -1000000000 ≤ Rn n d ∧ Rn n d ≤ 1000000000
      · rw [if_pos (show Fits n d from ⟨by omega, b⟩)]
        simp only [b, and_self, decide_true, if_true]
      · rw [if_neg (fun h : Fits n d => b h.2)]
        simp only [b, decide_false, if_false, Bool.false_eq_true]
theorem ev_low {n d : Int} (hn : -9223372036854775807 ≤ n) (hn' : n ≤ 9223372036854775807) (hd : -9223372036854775807 ≤ d) (hd' : d ≤ 9223372036854775807) (h0 : d ≠ 0) :
    Ev (fun k => withyref01_low.f k n d) (Low n d) := by
  have hg := gcd_pos (n := n) h0
  obtain ⟨c1, c2⟩ := core_num n d hn hn' hd hd' h0
  have hs := (gcd_sign n d).resolve_right (by omega)
  refine Ev.congr (f := fun k => withyref01_low.j0 k (if d < 0 then wrap64 (-n) else n) (if d < 0 then wrap64 (-d) else d)) (fun k => ?_) ?_
  · unfold withyref01_low.f
    split <;> rfl
  · generalize hN : (if d < 0 then wrap64 (-n) else n) = N at *
    generalize hD : (if d < 0 then wrap64 (-d) else d) = D at *
    have hNr : -9223372036854775807 ≤ N ∧ N ≤ 9223372036854775807 := by rw [← hN, w64 (by omega) (by omega)]; split <;> omega
    have hDr : (-9223372036854775807 ≤ D ∧ D ≤ 9223372036854775807) ∧ D ≠ 0 := by rw [← hD, w64 (by omega) (by omega)]; split <;> omega
    refine Ev.step (f := fun k => (withyref01_Of2.f k N D).bind fun t => if t = 0 then none else if wrap64 (Int.tdiv D t) > 1000000000 then some (0, 0, 8) else (withyref01_In.f (wrap64 (Int.tdiv N t)) (-1000000000) 1000000000).bind fun u => if u = true then some (wrap64 (Int.tdiv N t), wrap64 (Int.tdiv D t), 0) else some (0, 0, 8)) (fun k => rfl) ?_
    refine Ev.bind (ev_of2 hNr.1 hNr.2 hDr.1.1 hDr.1.2 hDr.2) ?_
    rw [hs]
    simp only [c1, c2, in_f, Option.bind_some]
    refine Ev.isNow fun k => ?_
    rw [if_neg (by omega)]
    unfold Low
    by_cases a : Rd n d > 1000000000
    · rw [if_pos a, if_neg (fun h : Fits n d => by have := h.1; omega)]
    · rw [if_neg a]
      by_cases b : -1000000000 ≤ Rn n d ∧ Rn n d ≤ 1000000000
      · rw [if_pos (show Fits n d from ⟨by omega, b⟩)]
        simp only [b, and_self, decide_true, if_true]
      · rw [if_neg (fun h : Fits n d => b h.2)]
        simp only [b, decide_false, if_false, Bool.false_eq_true]
theorem exc_num (n d : Int) : exc (NumE n d) (fun _ => some (0, 0, 8)) (fun b => some (b.1, b.2, 0)) = some (Low n d) := by
  unfold NumE Low
  split <;> rfl
/-- a number's fields are in the bounds, and in lowest terms -/
structure Ok (n d : Int) : Prop where
  d1 : 1 ≤ d
  d2 : d ≤ 1000000000
  n1 : -1000000000 ≤ n
  n2 : n ≤ 1000000000
  g : Int.gcd n d = 1
theorem Chk_ok {n d : Int} : Chk n d = 0 ↔ Ok n d := by
  unfold Chk
  constructor
  · intro h
    split at h
    · rename_i c
      split at h
      · exact absurd h (by decide)
      · have := gcd_pos (n := n) (d := d) (by omega)
        exact ⟨c.1.1, c.1.2, c.2.1, c.2.2, by omega⟩
    · exact absurd h (by decide)
  · intro h
    have := h.d1; have := h.d2; have := h.n1; have := h.n2; have := h.g
    rw [if_pos (by omega), if_neg (by omega)]
theorem ev_three {g : Nat → Option (Int × Int × Int)} {R : Int × Int × Int} (h : Ev g R) : Ev (fun k => (g k).bind fun b => some (b.1, b.2.1, b.2.2)) R :=
  Ev.bind h (Ev.now _)
theorem son_append (a b : List Int) : strOfNums a ++ strOfNums b = strOfNums (a ++ b) := by
  apply ByteArray.ext
  apply Array.ext'
  simp [strOfNums]
/-- the digits of a number, at most so many, at least so many -/
def PD : Nat → Nat → Nat → List Int
  | 0, _, _ => []
  | i + 1, m, n => if n > 0 ∨ m > 0 then PD i (m - 1) (n / 10) ++ [48 + ((n % 10 : Nat) : Int)] else []
theorem PD_len : ∀ (i m n : Nat), (PD i m n).length ≤ i := by
  intro i
  induction i with
  | zero => intro m n; simp [PD]
  | succ i ih =>
    intro m n
    unfold PD
    split
    · have := ih (m - 1) (n / 10)
      simp
      omega
    · simp
/-- as many places as it has digits do not matter -/
theorem PD_more : ∀ (i j m n : Nat), n < 10 ^ i → n < 10 ^ j → m ≤ i → m ≤ j → PD i m n = PD j m n := by
  intro i
  induction i with
  | zero =>
    intro j m n h _ hm _
    have h0 : n = 0 := by simpa using h
    have h1 : m = 0 := by omega
    subst h0 h1
    cases j <;> simp [PD]
  | succ i ih =>
    intro j m n h h' hm hm'
    cases j with
    | zero =>
      have h0 : n = 0 := by simpa using h'
      have h1 : m = 0 := by omega
      subst h0 h1
      simp [PD]
    | succ j =>
      unfold PD
      split
      · rw [ih j (m - 1) (n / 10) (by rw [Nat.pow_succ] at h; omega) (by rw [Nat.pow_succ] at h'; omega) (by omega) (by omega)]
      · rfl
theorem told_go (least : Nat) : ∀ (i n : Nat) (l : List Int), i ≤ 20 → n < 10 ^ i → least ≤ 20 → num_told.go (least : Int) i (n : Int) l = some (PD i (least - (20 - i)) n ++ l) := by
  intro i
  induction i with
  | zero =>
    intro n l _ h hl
    have h0 : n = 0 := by simpa using h
    subst h0
    show (if _ then _ else _) = _
    rw [if_neg (by omega)]
    rfl
  | succ i ih =>
    intro n l hi h hl
    show (if _ then _ else _) = _
    by_cases c : n > 0 ∨ least - (20 - (i + 1)) > 0
    · rw [if_pos (by omega)]
      have e1 : ((n : Int) / 10) = ((n / 10 : Nat) : Int) := by omega
      have e2 : ((n : Int) % 10) = ((n % 10 : Nat) : Int) := by omega
      rw [e1, e2, ih (n / 10) _ (by omega) (by rw [Nat.pow_succ] at h; omega) hl]
      show _ = some ((if n > 0 ∨ least - (20 - (i + 1)) > 0 then _ else _) ++ l)
      rw [if_pos c, show least - (20 - (i + 1)) - 1 = least - (20 - i) by omega, List.append_assoc]
      rfl
    · rw [if_neg (by omega)]
      show _ = some ((if n > 0 ∨ least - (20 - (i + 1)) > 0 then _ else _) ++ l)
      rw [if_neg c]
      rfl
/-- a number's digits, with so many at least -/
def Dig (m n : Nat) : List Int := PD 20 m n
theorem told_f (n m : Nat) (hn : n ≤ 9223372036854775807) (hm : m ≤ 20) : num_told.f (n : Int) (m : Int) = some (strOfNums (Dig m n)) := by
  unfold num_told.f
  rw [if_pos (by omega), told_go m 20 n [] (by omega) (by omega) hm]
  simp [Dig]
theorem Dig_small (n : Nat) (h : n < 10) : Dig 1 n = [48 + (n : Int)] := by
  show (if n > 0 ∨ 1 > 0 then PD 19 (1 - 1) (n / 10) ++ [48 + ((n % 10 : Nat) : Int)] else []) = _
  rw [if_pos (by omega), show n / 10 = 0 by omega, show n % 10 = n by omega]
  rfl
theorem PD_one (i n : Nat) (h : 0 < n) : PD i 0 n = PD i 1 n := by
  cases i with
  | zero => rfl
  | succ i =>
    unfold PD
    rw [if_pos (by omega), if_pos (by omega)]
theorem Dig_big (n : Nat) (h : 10 ≤ n) (hn : n < 10 ^ 19) : Dig 1 n = Dig 1 (n / 10) ++ Dig 1 (n % 10) := by
  rw [Dig_small (n % 10) (by omega)]
  show (if n > 0 ∨ 1 > 0 then PD 19 (1 - 1) (n / 10) ++ [48 + ((n % 10 : Nat) : Int)] else []) = _
  rw [if_pos (by omega), show (1 - 1 : Nat) = 0 from rfl, PD_one 19 _ (by omega), PD_more 19 20 1 (n / 10) (by omega) (by omega) (by omega) (by omega)]
  rfl
theorem Dig_len (m n : Nat) : (Dig m n).length ≤ 20 := PD_len 20 m n
theorem son_len (m n : Nat) : (strOfNums (Dig m n)).size ≤ 20 := by rw [strOfNums_size]; exact Dig_len m n
theorem ev_Tell : ∀ (n : Nat), n ≤ 9223372036854775807 → Ev (fun k => withyref01_Tell.f k (n : Int)) (strOfNums (Dig 1 n)) := by
  intro n
  induction n using Nat.strongRecOn with
  | ind n ih =>
    intro hn
    by_cases c : n < 10
    · refine Ev.step (f := fun _ => some (strOfNums [(wrap64 (48 + (n : Int))) % 256])) (fun k => ?_) ?_
      · show (if _ then _ else _) = _
        rw [if_neg (by omega), if_pos (by omega)]
      · rw [w64 (by omega) (by omega), Dig_small n c, show (48 + (n : Int)) % 256 = 48 + (n : Int) by omega]
        exact Ev.now _
    · refine Ev.step (f := fun k => (withyref01_Tell.f k ((n / 10 : Nat) : Int)).bind fun a => (withyref01_Tell.f k ((n % 10 : Nat) : Int)).bind fun b => if a.size + b.size ≤ 9223372036854775807 then some (a ++ b) else none) (fun k => ?_) ?_
      · show (if _ then _ else _) = _
        rw [if_neg (by omega), if_neg (by omega), Int.tdiv_eq_ediv_of_nonneg (by omega), Int.tmod_eq_emod_of_nonneg (by omega), w64 (by omega) (by omega)]
        rfl
      · refine Ev.bind (ih (n / 10) (by omega) (by omega)) (Ev.bind (ih (n % 10) (by omega) (by omega)) ?_)
        have h1 := son_len 1 (n / 10); have h2 := son_len 1 (n % 10)
        refine Ev.isNow fun k => ?_
        rw [if_pos (by omega), son_append, Dig_big n (by omega) (by omega)]
theorem minus_son (l : List Int) : (⟨#[45]⟩ : ByteArray) ++ strOfNums l = strOfNums (45 :: l) := son_append [45] l
theorem ev_TellNeg : ∀ (n : Nat), 0 < n → n ≤ 9223372036854775807 → Ev (fun k => withyref01_Tell.f k (-(n : Int))) (strOfNums (45 :: Dig 1 n)) := by
  intro n
  induction n using Nat.strongRecOn with
  | ind n ih =>
    intro h0 hn
    by_cases c : n < 10
    · refine Ev.step (f := fun k => (withyref01_Tell.f k (n : Int)).bind fun t => if 1 + t.size ≤ 9223372036854775807 then some ((⟨#[45]⟩ : ByteArray) ++ t) else none) (fun k => ?_) ?_
      · show (if _ then _ else _) = _
        rw [if_pos (by omega), if_pos (by omega), w64 (by omega) (by omega), Int.neg_neg]
      · refine Ev.bind (ev_Tell n (by omega)) ?_
        have h1 := son_len 1 n
        refine Ev.isNow fun k => ?_
        rw [if_pos (by omega), minus_son]
    · refine Ev.step (f := fun k => (withyref01_Tell.f k (-((n / 10 : Nat) : Int))).bind fun a => (withyref01_Tell.f k ((n % 10 : Nat) : Int)).bind fun b => if a.size + b.size ≤ 9223372036854775807 then some (a ++ b) else none) (fun k => ?_) ?_
      · show (if _ then _ else _) = _
        have e1 : Int.tdiv (-(n : Int)) 10 = -((n / 10 : Nat) : Int) := by rw [Int.neg_tdiv, Int.tdiv_eq_ediv_of_nonneg (by omega)]; omega
        have e2 : Int.tmod (-(n : Int)) 10 = -((n % 10 : Nat) : Int) := by rw [Int.neg_tmod, Int.tmod_eq_emod_of_nonneg (by omega)]; omega
        rw [if_pos (by omega), if_neg (by omega), e1, e2, w64 (by omega) (by omega), w64 (by omega) (by omega), Int.neg_neg]
      · refine Ev.bind (ih (n / 10) (by omega) (by omega) (by omega)) (Ev.bind (ev_Tell (n % 10) (by omega)) ?_)
        have h1 := Dig_len 1 (n / 10); have h2 := son_len 1 (n % 10)
        refine Ev.isNow fun k => ?_
        rw [if_pos (by rw [strOfNums_size]; simp; omega), son_append, Dig_big n (by omega) (by omega)]
        rfl
theorem PD_nil (i : Nat) : PD i 0 0 = [] := by cases i <;> simp [PD]
theorem PD_self : ∀ (i m n : Nat), PD i m n = PD i (PD i m n).length n := by
  intro i
  induction i with
  | zero => intro m n; rfl
  | succ i ih =>
    intro m n
    by_cases c : n > 0 ∨ m > 0
    · have e : PD (i + 1) m n = PD i (m - 1) (n / 10) ++ [48 + ((n % 10 : Nat) : Int)] := by
        show (if _ then _ else _) = _
        rw [if_pos c]
      have e2 : PD (i + 1) ((PD i (m - 1) (n / 10)).length + 1) n = PD i (PD i (m - 1) (n / 10)).length (n / 10) ++ [48 + ((n % 10 : Nat) : Int)] := by
        show (if _ then _ else _) = _
        rw [if_pos (by omega)]
        rfl
      rw [e, List.length_append, List.length_singleton, e2, ← ih]
    · have h0 : n = 0 := by omega
      have h1 : m = 0 := by omega
      subst h0 h1
      rw [PD_nil, List.length_nil, PD_nil]
theorem PD_lt : ∀ (i m n : Nat), n < 10 ^ i → n < 10 ^ (PD i m n).length := by
  intro i
  induction i with
  | zero => intro m n h; simpa [PD] using h
  | succ i ih =>
    intro m n h
    by_cases c : n > 0 ∨ m > 0
    · have e : PD (i + 1) m n = PD i (m - 1) (n / 10) ++ [48 + ((n % 10 : Nat) : Int)] := by
        show (if _ then _ else _) = _
        rw [if_pos c]
      have := ih (m - 1) (n / 10) (by rw [Nat.pow_succ] at h; omega)
      rw [e, List.length_append, List.length_singleton, Nat.pow_succ]
      omega
    · have h0 : n = 0 := by omega
      subst h0
      exact Nat.pow_pos (by omega)
theorem PD_len_le : ∀ (i m n p : Nat), n < 10 ^ p → m ≤ p → (PD i m n).length ≤ p := by
  intro i
  induction i with
  | zero => intro m n p _ _; simp [PD]
  | succ i ih =>
    intro m n p h hm
    by_cases c : n > 0 ∨ m > 0
    · show (if _ then _ else _ : List Int).length ≤ _
      rw [if_pos c, List.length_append, List.length_singleton]
      cases p with
      | zero =>
        have h0 : n = 0 := by simpa using h
        omega
      | succ p =>
        have := ih (m - 1) (n / 10) p (by rw [Nat.pow_succ] at h; omega) (by omega)
        omega
    · have h0 : n = 0 := by omega
      have h1 : m = 0 := by omega
      subst h0 h1
      rw [PD_nil]
      simp
theorem ten_cases {p : Int} (h0 : 0 ≤ p) (h9 : p ≤ 9) : Ev (fun k => num_power.f k p) ((10 ^ p.toNat : Nat) : Int) ∧ Ev (fun k => withyref01_ten.f k p) ((10 ^ p.toNat : Nat) : Int) := by
  have : p = 0 ∨ p = 1 ∨ p = 2 ∨ p = 3 ∨ p = 4 ∨ p = 5 ∨ p = 6 ∨ p = 7 ∨ p = 8 ∨ p = 9 := by omega
  rcases this with rfl | rfl | rfl | rfl | rfl | rfl | rfl | rfl | rfl | rfl
  all_goals exact ⟨Ev.of (fun k => num_power.mono _ k) (k := 20) (by kernel_rfl), Ev.of (fun k => withyref01_ten.mono _ k) (k := 20) (by kernel_rfl)⟩
theorem sign_f (N : Int) (h : -9223372036854775807 ≤ N) (h' : N ≤ 9223372036854775807) : num_sign.f N = some (strOfNums (if N < 0 then [45] else []), (N.natAbs : Int)) := by
  unfold num_sign.f
  by_cases c : N < 0
  · rw [if_pos c, if_pos c, w64 (by omega) (by omega), show -N = (N.natAbs : Int) by omega]
    rfl
  · rw [if_neg c, if_neg c, show N = (N.natAbs : Int) by omega]
    rfl
theorem ten_le {p : Nat} (h : p ≤ 9) : 10 ^ p ≤ 1000000000 := Nat.le_trans (Nat.pow_le_pow_right (by omega) h) (by decide)
def PrintL (n d : Int) : List Int := (if n < 0 then [45] else []) ++ (Dig 1 n.natAbs ++ (if d > 1 then 47 :: Dig 1 d.natAbs else []))
def PrintR (n d : Int) : ByteArray × Int := if Chk n d = 0 then (strOfNums (PrintL n d), 0) else ((⟨#[]⟩ : ByteArray), Chk n d)
theorem ev_Print (n d : Int) : Ev (fun k => num_Print.f k n d) (PrintR n d) := by
  unfold num_Print.f PrintR
  refine Ev.bind (ev_check n d) ?_
  by_cases x : Chk n d = 0
  · have h := Chk_ok.mp x
    have h1 := h.d1; have h2 := h.d2; have h3 := h.n1; have h4 := h.n2
    simp only [x, if_true]
    have t1 := told_f n.natAbs 1 (by omega) (by omega)
    have t2 := told_f d.natAbs 1 (by omega) (by omega)
    rw [show ((1 : Nat) : Int) = 1 from rfl] at t1 t2
    rw [show ((d.natAbs : Nat) : Int) = d by omega] at t2
    have l1 := Dig_len 1 n.natAbs
    have l2 := Dig_len 1 d.natAbs
    have l3 : (if n < 0 then [(45 : Int)] else []).length ≤ 1 := by split <;> simp
    have l4 : (⟨#[47]⟩ : ByteArray) ++ strOfNums (Dig 1 d.natAbs) = strOfNums (47 :: Dig 1 d.natAbs) := son_append [47] _
    refine Ev.isNow fun k => ?_
    rw [sign_f n (by omega) (by omega)]
    simp only [Option.bind_some, t1, t2]
    rw [if_pos (by rw [strOfNums_size, strOfNums_size]; omega), l4, son_append]
    unfold PrintL
    by_cases z : d > 1
    · rw [if_pos z, if_pos z, if_pos (by rw [strOfNums_size]; omega), if_pos (by rw [strOfNums_size, strOfNums_size, List.length_append, List.length_cons]; omega), son_append, List.append_assoc]
    · rw [if_neg z, if_neg z, List.append_nil]
  · simp only [x, if_false]
    exact Ev.now _
theorem ev_TellI (n : Int) (h : -1000000000 ≤ n) (h' : n ≤ 1000000000) : Ev (fun k => withyref01_Tell.f k n) (strOfNums ((if n < 0 then [45] else []) ++ Dig 1 n.natAbs)) := by
  by_cases c : n < 0
  · rw [if_pos c]
    have := ev_TellNeg n.natAbs (by omega) (by omega)
    rw [show -((n.natAbs : Nat) : Int) = n by omega] at this
    exact this
  · rw [if_neg c]
    have := ev_Tell n.natAbs (by omega)
    rw [show ((n.natAbs : Nat) : Int) = n by omega] at this
    exact this
theorem ev_Told {n d : Int} (h : Ok n d) : Ev (fun k => withyref01_Told.f k n d) (strOfNums (PrintL n d)) := by
  have h1 := h.d1; have h2 := h.d2; have h3 := h.n1; have h4 := h.n2
  have l1 := Dig_len 1 n.natAbs
  have l2 := Dig_len 1 d.natAbs
  have l3 : (if n < 0 then [(45 : Int)] else []).length ≤ 1 := by split <;> simp
  have d47 : (⟨#[47]⟩ : ByteArray) = strOfNums [47] := rfl
  unfold withyref01_Told.f PrintL
  by_cases z : d = 1
  · subst z
    simp only [if_true, show ¬ ((1 : Int) > 1) by decide, if_false, List.append_nil]
    exact Ev.bind (ev_TellI n h3 h4) (Ev.now _)
  · have z1 : d > 1 := by omega
    simp only [z, if_false, z1, if_true]
    refine Ev.bind (ev_TellI n h3 h4) ?_
    have t := ev_Tell d.natAbs (by omega)
    rw [show ((d.natAbs : Nat) : Int) = d by omega] at t
    have s1 : (strOfNums ((if n < 0 then [45] else []) ++ Dig 1 n.natAbs)).size + 1 ≤ 9223372036854775807 := by rw [strOfNums_size, List.length_append]; omega
    simp only [s1, if_true]
    refine Ev.bind t ?_
    have s2 : (strOfNums ((if n < 0 then [45] else []) ++ Dig 1 n.natAbs) ++ (⟨#[47]⟩ : ByteArray)).size + (strOfNums (Dig 1 d.natAbs)).size ≤ 9223372036854775807 := by
      rw [d47, son_append, strOfNums_size, strOfNums_size, List.length_append, List.length_append, List.length_singleton]
      omega
    simp only [s2, if_true]
    rw [d47, son_append, son_append]
    simp only [List.append_assoc, List.singleton_append]
    exact Ev.now _
theorem ev_rPrint (n d : Int) : Ev (fun k => withyref01_Print.f k n d) (PrintR n d) := by
  unfold withyref01_Print.f PrintR
  refine Ev.bind (ev_rcheck n d) ?_
  by_cases x : Chk n d = 0
  · simp only [x, if_true]
    exact Ev.bind (ev_Told (Chk_ok.mp x)) (Ev.now _)
  · simp only [x, if_false]
    exact Ev.now _
def VG : List UInt8 → Int → Option Int
  | [], n => some n
  | c :: l, n => if 48 ≤ (c.toNat : Int) ∧ (c.toNat : Int) ≤ 57 then VG l (10 * n + ((c.toNat : Int) - 48)) else none
theorem VG_go : ∀ (l : List UInt8) (n : Int) (j : Nat), 0 ≤ n → n < 10 ^ j → j + l.length ≤ 18 → num_count.go l n = VG l n := by
  intro l
  induction l with
  | nil => intro n j _ _ _; rfl
  | cons c l ih =>
    intro n j h0 h1 h2
    simp only [List.length_cons] at h2
    have hp : (10 : Int) ^ j ≤ 10 ^ 17 := by
      have := Nat.pow_le_pow_right (n := 10) (by decide) (show j ≤ 17 by omega)
      exact_mod_cast this
    show (if _ then _ else if _ then _ else _) = if _ then _ else _
    by_cases a : (c.toNat : Int) < 48
    · rw [if_pos a, if_neg (by omega)]
    · rw [if_neg a]
      by_cases b : (c.toNat : Int) > 57
      · rw [if_pos b, if_neg (by omega)]
      · rw [if_neg b, if_pos (by omega), w64 (n := 10 * n) (by omega) (by omega), w64 (by omega) (by omega)]
        refine ih _ (j + 1) (by omega) ?_ (by omega)
        rw [Int.pow_succ]
        omega
theorem VG_shift : ∀ (l : List UInt8) (n m : Int), VG l (n + m) = (VG l m).map (fun v => n * 10 ^ l.length + v) := by
  intro l
  induction l with
  | nil => intro n m; simp [VG]
  | cons c l ih =>
    intro n m
    show (if _ then _ else _) = Option.map _ (if _ then _ else _)
    by_cases a : 48 ≤ (c.toNat : Int) ∧ (c.toNat : Int) ≤ 57
    · rw [if_pos a, if_pos a, show 10 * (n + m) + ((c.toNat : Int) - 48) = 10 * n + (10 * m + ((c.toNat : Int) - 48)) by omega, ih (10 * n)]
      congr 1
      funext v
      rw [List.length_cons, Int.pow_succ]
      grind
    · rw [if_neg a, if_neg a]
      rfl
theorem VG_bound : ∀ (l : List UInt8) (n v : Int), 0 ≤ n → VG l n = some v → n * 10 ^ l.length ≤ v ∧ v < (n + 1) * 10 ^ l.length := by
  intro l
  induction l with
  | nil =>
    intro n v _ h
    obtain rfl := Option.some.inj h
    simp
    omega
  | cons c l ih =>
    intro n v h0 h
    unfold VG at h
    by_cases a : 48 ≤ (c.toNat : Int) ∧ (c.toNat : Int) ≤ 57
    · rw [if_pos a] at h
      obtain ⟨h1, h2⟩ := ih _ v (by omega) h
      rw [List.length_cons, Int.pow_succ]
      have hp : (0 : Int) < 10 ^ l.length := Int.pow_pos (by decide)
      generalize (10 : Int) ^ l.length = P at *
      have e1 : n * (P * 10) = (10 * n) * P := by grind
      have e2 : (n + 1) * (P * 10) = (10 * n + 10) * P := by grind
      have m1 : (10 * n) * P ≤ (10 * n + ((c.toNat : Int) - 48)) * P := Int.mul_le_mul_of_nonneg_right (by omega) (by omega)
      have m2 : (10 * n + ((c.toNat : Int) - 48) + 1) * P ≤ (10 * n + 10) * P := Int.mul_le_mul_of_nonneg_right (by omega) (by omega)
      rw [e1, e2]
      omega
    · rw [if_neg a] at h
      cases h
/-- a number of 1 to so many digits -/
def CntL (l : List UInt8) (most : Nat) : Option Int := if 1 ≤ l.length ∧ l.length ≤ most then VG l 0 else none
def PlnL (l : List UInt8) (most : Nat) : Option Int := if l.length = 1 ∨ l.head? ≠ some 48 then CntL l most else none
def pairO (o : Option Int) : Int × Bool := match o with | some n => (n, true) | none => (0, false)
theorem count_f (s : ByteArray) (most : Nat) (hm : most ≤ 18) : num_count.f s (most : Int) = some (pairO (CntL s.data.toList most)) := by
  unfold num_count.f CntL
  rw [data_length]
  by_cases c : 1 ≤ s.size ∧ s.size ≤ most
  · rw [if_pos (by omega), if_pos (by omega), if_pos c, VG_go _ 0 0 (by omega) (by simp) (by rw [data_length]; omega)]
    cases VG s.data.toList 0 <;> rfl
  · rw [if_neg (by omega), if_neg c]
    rfl
theorem bt_list (s : ByteArray) (i : Nat) (h : i < s.data.toList.length) : bt s (i : Int) = ((s.data.toList[i]).toNat : Int) := by
  have h' : i < s.size := by rw [data_length] at h; exact h
  unfold bt
  rw [dif_pos (by simpa using h')]
  rfl
theorem head_list (s : ByteArray) (h : 0 < s.size) : (bt s 0 = 48) ↔ s.data.toList.head? = some 48 := by
  have hl : 0 < s.data.toList.length := by rw [data_length]; exact h
  have := bt_list s 0 hl
  rw [show ((0 : Nat) : Int) = 0 from rfl] at this
  rw [this, List.head?_eq_getElem?, List.getElem?_eq_getElem hl, Option.some.injEq]
  constructor
  · intro e
    apply UInt8.toNat_inj.mp
    show _ = 48
    omega
  · intro e
    rw [e]
    rfl
/-- what plain answers: a number, and whether it is one -/
theorem plain_f (s : ByteArray) (most : Nat) (hm : most ≤ 18) : ∃ v, num_plain.f s (most : Int) = some (v, (PlnL s.data.toList most).isSome) ∧ ∀ n, PlnL s.data.toList most = some n → v = n := by
  unfold num_plain.f
  rw [count_f s most hm, Option.bind_some]
  cases hc : CntL s.data.toList most with
  | none =>
    have : PlnL s.data.toList most = none := by unfold PlnL; rw [hc]; split <;> rfl
    rw [this]
    exact ⟨0, rfl, fun n h => by cases h⟩
  | some n =>
    have hs : 0 < s.size := by
      unfold CntL at hc
      split at hc
      · rename_i h; rw [data_length] at h; omega
      · cases hc
    simp only [pairO, if_true]
    unfold PlnL
    rw [hc, data_length]
    by_cases o : (s.size : Int) = 1
    · rw [if_pos o, if_pos (Or.inl (by omega))]
      exact ⟨n, rfl, fun m h => Option.some.inj h⟩
    · rw [if_neg o, if_pos (by omega)]
      have hh := head_list s hs
      by_cases z : bt s 0 = 48
      · rw [if_neg (fun h => h.elim (fun h => o (by omega)) (fun h => h (hh.mp z))), bne_eq_false_iff_eq.mpr z]
        exact ⟨n, rfl, fun m h => by cases h⟩
      · rw [if_pos (Or.inr (fun h => z (hh.mpr h))), bne_iff_ne.mpr z]
        exact ⟨n, rfl, fun m h => Option.some.inj h⟩
theorem digit_f (c : Int) : withyref01_Digit.f c = some (decide (48 ≤ c ∧ c ≤ 57)) := by
  unfold withyref01_Digit.f
  by_cases h : c ≥ 48
  · rw [if_pos h]
    congr 1
    exact decide_eq_decide.mpr ⟨fun k => ⟨h, k⟩, fun k => k.2⟩
  · rw [if_neg h, decide_eq_false (fun k => h k.1)]
theorem rcount_loop (s : ByteArray) (hs : s.size ≤ 18) : ∀ (m i j : Nat) (n : Int), i + m = s.size → 0 ≤ n → n < 10 ^ j → j + m ≤ 18 → Ev (fun k => withyref01_Count.l0 k s n (i : Int)) (pairO (VG (s.data.toList.drop i) n)) := by
  intro m
  induction m with
  | zero =>
    intro i j n hi _ _ _
    rw [List.drop_of_length_le (by rw [data_length]; omega)]
    refine Ev.step (f := fun _ => some (n, true)) (fun k => ?_) (Ev.now _)
    show (if (i : Int) < (s.size : Int) then _ else _) = _
    rw [if_neg (by omega)]
  | succ m ih =>
    intro i j n hi h0 h1 h2
    have hlt : i < s.data.toList.length := by rw [data_length]; omega
    have hb := bt_list s i hlt
    have hr := bt_range s (i : Int)
    have hp : (10 : Int) ^ j ≤ 10 ^ 17 := by
      have := Nat.pow_le_pow_right (n := 10) (by decide) (show j ≤ 17 by omega)
      exact_mod_cast this
    rw [List.drop_eq_getElem_cons hlt]
    unfold VG
    rw [← hb]
    have st : ∀ k, withyref01_Count.l0 (k + 1) s n (i : Int) = if 48 ≤ bt s (i : Int) ∧ bt s (i : Int) ≤ 57 then withyref01_Count.l0 k s (10 * n + (bt s (i : Int) - 48)) ((i + 1 : Nat) : Int) else some (0, false) := fun k => by
      show (if (i : Int) < (s.size : Int) then (if 0 ≤ (i : Int) then ((withyref01_Digit.f (bt s i)).bind _) else _) else _) = _
      rw [if_pos (by omega), if_pos (by omega), digit_f, Option.bind_some]
      by_cases a : 48 ≤ bt s (i : Int) ∧ bt s (i : Int) ≤ 57
      · rw [if_pos a, if_pos (decide_eq_true a), w64 (n := n * 10) (by omega) (by omega), Int.emod_eq_of_lt (by omega) (by omega), w64 (n := n * 10 + (bt s i - 48)) (by omega) (by omega), w64 (by omega) (by omega), Int.mul_comm n]
        rfl
      · rw [if_neg a, if_neg (by simpa using a)]
    by_cases a : 48 ≤ bt s (i : Int) ∧ bt s (i : Int) ≤ 57
    · rw [if_pos a]
      refine Ev.step (f := fun k => withyref01_Count.l0 k s (10 * n + (bt s (i : Int) - 48)) ((i + 1 : Nat) : Int)) (fun k => by rw [st, if_pos a]) ?_
      refine ih (i + 1) (j + 1) _ (by omega) (by omega) ?_ (by omega)
      rw [Int.pow_succ]
      omega
    · rw [if_neg a]
      exact Ev.step (f := fun _ => some (0, false)) (fun k => by rw [st, if_neg a]) (Ev.now _)
theorem ev_Count (s : ByteArray) (most : Nat) (hm : most ≤ 18) : Ev (fun k => withyref01_Count.f k s (most : Int)) (pairO (PlnL s.data.toList most)) := by
  unfold withyref01_Count.f
  simp only [in_f, Option.bind_some]
  have no : Ev (fun k => withyref01_Count.j0 k s true) (0, false) := Ev.step (f := fun _ => some (0, false)) (fun k => rfl) (Ev.now _)
  by_cases c : 1 ≤ (s.size : Int) ∧ (s.size : Int) ≤ (most : Int)
  · have yes : Ev (fun k => withyref01_Count.j0 k s false) (pairO (VG s.data.toList 0)) := by
      refine Ev.step (f := fun k => withyref01_Count.l0 k s 0 0) (fun k => rfl) ?_
      exact rcount_loop s (by omega) s.size 0 0 0 (by omega) (by omega) (by simp) (by omega)
    have hc : CntL s.data.toList most = VG s.data.toList 0 := by unfold CntL; rw [data_length, if_pos (by omega)]
    simp only [c, and_self, decide_true, if_true]
    unfold PlnL
    rw [data_length, hc]
    by_cases o : (s.size : Int) > 1
    · simp only [o, if_true, show 0 < (s.size : Int) by omega]
      have hh := head_list s (by omega)
      by_cases z : bt s 0 = 48
      · rw [if_neg (fun h => h.elim (fun h => by omega) (fun h => h (hh.mp z))), beq_iff_eq.mpr z]
        exact no
      · rw [if_pos (Or.inr (fun h => z (hh.mpr h))), beq_eq_false_iff_ne.mpr z]
        exact yes
    · simp only [o, if_false]
      rw [if_pos (Or.inl (by omega))]
      exact yes
  · have hc : CntL s.data.toList most = none := by unfold CntL; rw [data_length, if_neg (by omega)]
    rw [decide_eq_false c]
    simp only [Bool.false_eq_true, if_false]
    have : PlnL s.data.toList most = none := by unfold PlnL; rw [hc]; split <;> rfl
    rw [this]
    exact no
theorem VG_append : ∀ (l r : List UInt8) (n : Int), VG (l ++ r) n = (VG l n).bind (VG r) := by
  intro l
  induction l with
  | nil => intro r n; rfl
  | cons c l ih =>
    intro r n
    show (if _ then VG (l ++ r) _ else _) = Option.bind (if _ then _ else _) _
    by_cases a : 48 ≤ (c.toNat : Int) ∧ (c.toNat : Int) ≤ 57
    · rw [if_pos a, if_pos a, ih]
    · rw [if_neg a, if_neg a]
      rfl
theorem VG_nonneg {l : List UInt8} {v : Int} (h : VG l 0 = some v) : 0 ≤ v ∧ v < 10 ^ l.length := by
  have := VG_bound l 0 v (by omega) h
  omega
theorem dig_of : ∀ (m i : Nat) (l : List UInt8) (n : Int), l.length = m → m ≤ i → VG l 0 = some n → PD i m n.toNat = l.map (fun c => (c.toNat : Int)) := by
  intro m
  induction m with
  | zero =>
    intro i l n hl _ h
    have : l = [] := List.length_eq_zero_iff.mp hl
    subst this
    obtain rfl := Option.some.inj h
    exact PD_nil i
  | succ m ih =>
    intro i l n hl hi h
    obtain ⟨i, rfl⟩ : ∃ i', i = i' + 1 := ⟨i - 1, by omega⟩
    rcases List.eq_nil_or_concat l with rfl | ⟨l', c, rfl⟩
    · simp at hl
    · rw [List.concat_eq_append] at *
      rw [List.length_append, List.length_singleton] at hl
      rw [VG_append] at h
      obtain ⟨n', h1, h2⟩ := Option.bind_eq_some_iff.mp h
      unfold VG at h2
      by_cases a : 48 ≤ (c.toNat : Int) ∧ (c.toNat : Int) ≤ 57
      · rw [if_pos a] at h2
        obtain rfl := Option.some.inj h2
        have n0 := VG_nonneg h1
        have e1 : (10 * n' + ((c.toNat : Int) - 48)).toNat / 10 = n'.toNat := by omega
        have e2 : (((10 * n' + ((c.toNat : Int) - 48)).toNat % 10 : Nat) : Int) = (c.toNat : Int) - 48 := by omega
        have e : PD (i + 1) (m + 1) (10 * n' + ((c.toNat : Int) - 48)).toNat = PD i m n'.toNat ++ [48 + ((c.toNat : Int) - 48)] := by
          show (if _ then _ else _) = _
          rw [if_pos (by omega), e1, e2]
          rfl
        rw [e, ih i l' n' (by omega) (by omega) h1, List.map_append, show 48 + ((c.toNat : Int) - 48) = (c.toNat : Int) by omega]
        rfl
      · rw [if_neg a] at h2
        cases h2
theorem pow_nat (k : Nat) : ((10 : Int) ^ k) = ((10 ^ k : Nat) : Int) := by push_cast; rfl
/-- a number without a zero ahead is told as it was read -/
theorem dig_plain {l : List UInt8} {most : Nat} {n : Int} (hm : most ≤ 18) (h : PlnL l most = some n) : Dig 1 n.toNat = l.map (fun c => (c.toNat : Int)) ∧ 0 ≤ n ∧ n < 10 ^ most := by
  unfold PlnL at h
  split at h
  · rename_i ho
    unfold CntL at h
    split at h
    · rename_i hl
      have n0 := VG_nonneg h
      rw [pow_nat] at n0
      have hle : 10 ^ l.length ≤ 10 ^ most := Nat.pow_le_pow_right (by decide) hl.2
      refine ⟨?_, n0.1, by rw [pow_nat]; omega⟩
      rw [← dig_of l.length 20 l n rfl (by omega) h]
      unfold Dig
      rcases ho with ho | ho
      · rw [ho]
      · have hlt : n.toNat < 10 ^ l.length := by omega
        have hself := PD_self 20 1 n.toNat
        have hlt2 := PD_lt 20 1 n.toNat (Nat.lt_of_lt_of_le hlt (Nat.pow_le_pow_right (by decide) (by omega)))
        have hle2 := PD_len_le 20 1 n.toNat l.length hlt (by omega)
        have hge : 10 ^ (l.length - 1) ≤ n.toNat := by
          cases l with
          | nil => simp at hl
          | cons c r =>
            unfold VG at h
            by_cases a : 48 ≤ (c.toNat : Int) ∧ (c.toNat : Int) ≤ 57
            · rw [if_pos a] at h
              have c0 : (c.toNat : Int) ≠ 48 := fun e => ho (by
                rw [List.head?_cons, Option.some.injEq]
                apply UInt8.toNat_inj.mp
                show _ = 48
                omega)
              have b := (VG_bound r _ n (by omega) h).1
              rw [pow_nat] at b
              have m1 : 1 * ((10 ^ r.length : Nat) : Int) ≤ (10 * 0 + ((c.toNat : Int) - 48)) * ((10 ^ r.length : Nat) : Int) := Int.mul_le_mul_of_nonneg_right (by omega) (Int.natCast_nonneg _)
              rw [List.length_cons, Nat.add_sub_cancel]
              omega
            · rw [if_neg a] at h
              cases h
        have : (PD 20 1 n.toNat).length = l.length := by
          rcases Nat.lt_or_ge (PD 20 1 n.toNat).length l.length with c | c
          · have := Nat.pow_le_pow_right (n := 10) (by decide) (show (PD 20 1 n.toNat).length ≤ l.length - 1 by omega)
            omega
          · omega
        rw [this] at hself
        exact hself
    · cases h
  · cases h
theorem prod_nn {a b M N : Int} (h0 : 0 ≤ a) (h1 : a ≤ M) (h2 : 0 ≤ b) (h3 : b ≤ N) : 0 ≤ a * b ∧ a * b ≤ M * N := ⟨Int.mul_nonneg h0 h2, Int.mul_le_mul h1 h3 h2 (by omega)⟩
def DecP (w p : List UInt8) (neg : Bool) : Int × Int × Int := match PlnL w 9, CntL p 9 with
  | some n, some m => Low (if neg then -(n * 10 ^ p.length + m) else n * 10 ^ p.length + m) (10 ^ p.length)
  | _, _ => (0, 0, 1)
theorem dec_bounds {w p : List UInt8} {n m : Int} (hn : PlnL w 9 = some n) (hm : CntL p 9 = some m) : (0 ≤ n ∧ n < 1000000000) ∧ (0 ≤ m ∧ m < ((10 ^ p.length : Nat) : Int)) ∧ (1 ≤ p.length ∧ p.length ≤ 9) ∧ (0 ≤ n * ((10 ^ p.length : Nat) : Int) ∧ n * ((10 ^ p.length : Nat) : Int) ≤ 1000000000000000000) := by
  have h1 := (dig_plain (by omega) hn).2
  unfold CntL at hm
  split at hm
  · rename_i hl
    have h2 := VG_nonneg hm
    rw [pow_nat] at h2
    have h3 := ten_le hl.2
    have hn9 : n < 1000000000 := h1.2
    exact ⟨⟨h1.1, hn9⟩, h2, hl, prod_nn (M := 1000000000) (N := 1000000000) h1.1 (by omega) (by omega) (by omega)⟩
  · cases hm
theorem ev_decimal (w p : ByteArray) (neg : Bool) : Ev (fun k => num_decimal.f k w p neg) (DecP w.data.toList p.data.toList neg) := by
  unfold num_decimal.f
  obtain ⟨v, e1, e2⟩ := plain_f w 9 (by omega)
  have e3 := count_f p 9 (by omega)
  rw [show ((9 : Nat) : Int) = 9 from rfl] at e1 e3
  simp only [e1, e3, Option.bind_some]
  unfold DecP
  cases hn : PlnL w.data.toList 9 with
  | none =>
    simp only [Option.isSome_none, Bool.false_eq_true, if_false]
    exact Ev.now _
  | some n =>
    obtain rfl := e2 n hn
    cases hm : CntL p.data.toList 9 with
    | none =>
      simp only [Option.isSome_some, pairO, Bool.false_eq_true, if_true, if_false]
      exact Ev.now _
    | some m =>
      obtain ⟨b1, b2, b3, b4⟩ := dec_bounds hn hm
      rw [data_length] at b2 b3 b4
      have hp9 := ten_le b3.2
      have hp0 : 0 < 10 ^ p.size := Nat.pow_pos (by omega)
      simp only [Option.isSome_some, pairO, if_true]
      refine Ev.bind (ten_cases (p := (p.size : Int)) (by omega) (by omega)).1 ?_
      rw [show ((p.size : Int)).toNat = p.size by omega, data_length, pow_nat]
      generalize 10 ^ p.size = T at *
      rw [w64 (n := v * (T : Int)) (by omega) (by omega), w64 (n := v * (T : Int) + m) (by omega) (by omega), w64 (n := -(v * (T : Int) + m)) (by omega) (by omega)]
      cases neg with
      | true =>
        simp only [if_true]
        refine Ev.bind (ev_num (by omega) (by omega) (by omega) (by omega) (by omega)) ?_
        rw [exc_num]
        exact Ev.now _
      | false =>
        simp only [Bool.false_eq_true, if_false]
        refine Ev.bind (ev_num (by omega) (by omega) (by omega) (by omega) (by omega)) ?_
        rw [exc_num]
        exact Ev.now _
theorem rdec_loop (p : ByteArray) (hp1 : 1 ≤ p.size) (hp : p.size ≤ 9) (sg : Int) (hsg : sg = 1 ∨ sg = -1) : ∀ (m i j : Nat) (n : Int), i + m = p.size → 0 ≤ n → n < 10 ^ j → j + m ≤ 18 →
    Ev (fun k => withyref01_parseDecimal.l0 k p sg n (i : Int)) (match VG (p.data.toList.drop i) n with | some v => Low (sg * v) (10 ^ p.size) | none => (0, 0, 1)) := by
  intro m
  induction m with
  | zero =>
    intro i j n hi h0 h1 h2
    have hT0 : 0 < 10 ^ p.size := Nat.pow_pos (by omega)
    have hT1 := ten_le hp
    have hpj : (10 : Int) ^ j ≤ 10 ^ 18 := by
      have := Nat.pow_le_pow_right (n := 10) (by decide) (show j ≤ 18 by omega)
      exact_mod_cast this
    rw [List.drop_of_length_le (by rw [data_length]; omega), pow_nat]
    refine Ev.step (f := fun k => (withyref01_ten.f k (p.size : Int)).bind fun t => (withyref01_low.f k (wrap64 (sg * n)) t).bind fun b => some (b.1, b.2.1, b.2.2)) (fun k => ?_) ?_
    · show (if (i : Int) < (p.size : Int) then _ else _) = _
      rw [if_neg (by omega)]
    · refine Ev.bind (ten_cases (p := (p.size : Int)) (by omega) (by omega)).2 ?_
      rw [show ((p.size : Int)).toNat = p.size by omega]
      have hb : -1000000000000000000 ≤ sg * n ∧ sg * n ≤ 1000000000000000000 := by rcases hsg with rfl | rfl <;> omega
      rw [w64 (by omega) (by omega)]
      exact ev_three (ev_low (by omega) (by omega) (by omega) (by omega) (by omega))
  | succ m ih =>
    intro i j n hi h0 h1 h2
    have hlt : i < p.data.toList.length := by rw [data_length]; omega
    have hb := bt_list p i hlt
    have hr := bt_range p (i : Int)
    have hpj : (10 : Int) ^ j ≤ 10 ^ 17 := by
      have := Nat.pow_le_pow_right (n := 10) (by decide) (show j ≤ 17 by omega)
      exact_mod_cast this
    rw [List.drop_eq_getElem_cons hlt]
    unfold VG
    rw [← hb]
    have st : ∀ k, withyref01_parseDecimal.l0 (k + 1) p sg n (i : Int) = if 48 ≤ bt p (i : Int) ∧ bt p (i : Int) ≤ 57 then withyref01_parseDecimal.l0 k p sg (10 * n + (bt p (i : Int) - 48)) ((i + 1 : Nat) : Int) else some (0, 0, 1) := fun k => by
      show (if (i : Int) < (p.size : Int) then (if 0 ≤ (i : Int) then ((withyref01_Digit.f (bt p i)).bind _) else _) else _) = _
      rw [if_pos (by omega), if_pos (by omega), digit_f, Option.bind_some]
      by_cases a : 48 ≤ bt p (i : Int) ∧ bt p (i : Int) ≤ 57
      · rw [if_pos a, if_pos (decide_eq_true a), w64 (n := 10 * n) (by omega) (by omega), Int.emod_eq_of_lt (by omega) (by omega), w64 (n := 10 * n + (bt p i - 48)) (by omega) (by omega), w64 (by omega) (by omega)]
        rfl
      · rw [if_neg a, if_neg (by simpa using a)]
    by_cases a : 48 ≤ bt p (i : Int) ∧ bt p (i : Int) ≤ 57
    · rw [if_pos a]
      refine Ev.step (f := fun k => withyref01_parseDecimal.l0 k p sg (10 * n + (bt p (i : Int) - 48)) ((i + 1 : Nat) : Int)) (fun k => by rw [st, if_pos a]) ?_
      refine ih (i + 1) (j + 1) _ (by omega) (by omega) ?_ (by omega)
      rw [Int.pow_succ]
      omega
    · rw [if_neg a]
      exact Ev.step (f := fun _ => some (0, 0, 1)) (fun k => by rw [st, if_neg a]) (Ev.now _)
theorem ev_parseDecimal (w p : ByteArray) (neg : Bool) : Ev (fun k => withyref01_parseDecimal.f k w p (if neg then -1 else 1)) (DecP w.data.toList p.data.toList neg) := by
  unfold withyref01_parseDecimal.f DecP
  have c := ev_Count w 9 (by omega)
  rw [show ((9 : Nat) : Int) = 9 from rfl] at c
  refine Ev.bind c ?_
  have no : ∀ n : Int, Ev (fun k => withyref01_parseDecimal.j0 k p (if neg then -1 else 1) n true) (0, 0, 1) := fun n => Ev.step (f := fun _ => some (0, 0, 1)) (fun k => rfl) (Ev.now _)
  cases hn : PlnL w.data.toList 9 with
  | none =>
    simp only [pairO, Bool.false_eq_true, if_false]
    exact no 0
  | some n =>
    have n1 := (dig_plain (by omega) hn).2
    have n9 : n < 1000000000 := n1.2
    simp only [pairO, if_true, in_f, Option.bind_some]
    by_cases a : 1 ≤ (p.size : Int) ∧ (p.size : Int) ≤ 9
    · rw [decide_eq_true a]
      refine Ev.step (f := fun k => withyref01_parseDecimal.l0 k p (if neg then -1 else 1) n 0) (fun k => rfl) ?_
      have l := rdec_loop p (by omega) (by omega) (if neg then -1 else 1) (by cases neg <;> simp) p.size 0 9 n (by omega) n1.1 n9 (by omega)
      rw [List.drop_zero, show n = n + 0 by omega, VG_shift, data_length] at l
      have hc : CntL p.data.toList 9 = VG p.data.toList 0 := by unfold CntL; rw [data_length, if_pos (by omega)]
      rw [hc, data_length]
      rw [show n + 0 = n by omega] at l
      cases hv : VG p.data.toList 0 with
      | none =>
        rw [hv] at l
        exact l
      | some m =>
        rw [hv] at l
        have e : (if neg then -1 else 1) * (n * 10 ^ p.size + m) = if neg then -(n * 10 ^ p.size + m) else n * 10 ^ p.size + m := by
          cases neg <;> simp
        simp only [Option.map_some, e] at l
        exact l
    · have hc : CntL p.data.toList 9 = none := by unfold CntL; rw [data_length, if_neg (by omega)]
      rw [decide_eq_false a, hc]
      exact no n
def isSep (c : UInt8) : Bool := c == 46 || c == 47
def PlnO (b : Option (List UInt8)) : Option Int := match b with | none => some 1 | some r => PlnL r 10
def FracP (a : List UInt8) (b : Option (List UInt8)) (neg : Bool) : Int × Int × Int :=
  match PlnL a 10, PlnO b with
  | some n, some d => if (b.isSome = true → d > 1) ∧ ¬ (neg = true ∧ n = 0) ∧ Chk (if neg then -n else n) d = 0 then (if neg then -n else n, d, 0) else (0, 0, 1)
  | _, _ => (0, 0, 1)
def ParseL (l : List UInt8) (neg : Bool) : Int × Int × Int :=
  if l[l.findIdx isSep]? = some 46 then DecP (l.take (l.findIdx isSep)) (l.drop (l.findIdx isSep + 1)) neg
  else FracP (l.take (l.findIdx isSep)) (if l.findIdx isSep < l.length then some (l.drop (l.findIdx isSep + 1)) else none) neg
theorem ext_take (s : ByteArray) (i : Nat) : (s.extract 0 i).data.toList = s.data.toList.take i := by
  rw [ByteArray.data_extract, Array.toList_extract, List.extract_eq_take_drop, List.drop_zero, Nat.sub_zero]
theorem ext_drop (s : ByteArray) (i : Nat) : (s.extract i s.size).data.toList = s.data.toList.drop i := by
  rw [ByteArray.data_extract, Array.toList_extract, List.extract_eq_take_drop]
  exact List.take_of_length_le (by rw [List.length_drop, data_length]; omega)
theorem bt_eq (s : ByteArray) (i : Nat) (h : i < s.data.toList.length) (c : UInt8) : bt s (i : Int) = (c.toNat : Int) ↔ s.data.toList[i] = c := by
  rw [bt_list s i h]
  constructor
  · intro e
    exact UInt8.toNat_inj.mp (by omega)
  · intro e
    rw [e]
theorem parse_j3 (neg ok : Bool) (n d : Int) (h : ok = true → 0 ≤ n ∧ n ≤ 10000000000) : Ev (fun k => num_Parse.j3 k neg n ok d) (if ok = true ∧ ¬ (neg = true ∧ n = 0) ∧ Chk (if neg then -n else n) d = 0 then (if neg then -n else n, d, 0) else (0, 0, 1)) := by
  cases ok with
  | false =>
    rw [if_neg (fun h => absurd h.1 (by decide))]
    exact Ev.step (f := fun _ => some (0, 0, 1)) (fun k => by cases neg <;> rfl) (Ev.now _)
  | true =>
    have b := h rfl
    cases neg with
    | true =>
      refine Ev.step (f := fun k => if wrap64 (-n) = 0 then some (0, 0, 1) else (num_Check.f k (wrap64 (-n)) d).bind fun t => if t = 0 then some (wrap64 (-n), d, 0) else some (0, 0, 1)) (fun k => rfl) ?_
      rw [w64 (by omega) (by omega)]
      by_cases z : n = 0
      · subst z
        rw [if_neg (fun h => h.2.1 ⟨rfl, rfl⟩)]
        exact Ev.isNow fun k => if_pos rfl
      · have z' : ¬ -n = 0 := by omega
        simp only [z', if_false, z, and_false, not_false_eq_true, true_and, if_true]
        refine Ev.bind (ev_check _ _) ?_
        by_cases c : Chk (-n) d = 0
        · simp only [c, if_true]
          exact Ev.now _
        · simp only [c, if_false]
          exact Ev.now _
    | false =>
      refine Ev.step (f := fun k => (num_Check.f k n d).bind fun t => if t = 0 then some (n, d, 0) else some (0, 0, 1)) (fun k => rfl) ?_
      simp only [Bool.false_eq_true, false_and, not_false_eq_true, true_and, if_false]
      refine Ev.bind (ev_check _ _) ?_
      by_cases c : Chk n d = 0
      · simp only [c, if_true]
        exact Ev.now _
      · simp only [c, if_false]
        exact Ev.now _
theorem parse_j3C (neg ok : Bool) (n d : Int) (h : ok = true → 0 ≤ n ∧ n ≤ 10000000000) {C : Prop} [Decidable C] (hC : C ↔ ok = true ∧ ¬ (neg = true ∧ n = 0) ∧ Chk (if neg then -n else n) d = 0) : Ev (fun k => num_Parse.j3 k neg n ok d) (if C then (if neg then -n else n, d, 0) else (0, 0, 1)) := by
  have := parse_j3 neg ok n d h
  by_cases c : C
  · rw [if_pos c]
    rwa [if_pos (hC.mp c)] at this
  · rw [if_neg c]
    rwa [if_neg (fun w => c (hC.mpr w))] at this
theorem parse_no (neg : Bool) (n d : Int) : Ev (fun k => num_Parse.j3 k neg n false d) (0, 0, 1) := Ev.step (f := fun _ => some (0, 0, 1)) (fun k => by cases neg <;> rfl) (Ev.now _)
theorem pln_le {l : List UInt8} {n : Int} (h : PlnL l 10 = some n) : 0 ≤ n ∧ n ≤ 10000000000 := by
  have := (dig_plain (by omega) h).2
  have h2 : n < 10000000000 := this.2
  exact ⟨this.1, by omega⟩
theorem frac_ev (s : ByteArray) (hs : s.size ≤ 1000000) (neg : Bool) (i : Nat) (hi : i ≤ s.size) : Ev (fun k => num_Parse.j2 k s neg (i : Int) false) (FracP (s.data.toList.take i) (if i < s.size then some (s.data.toList.drop (i + 1)) else none) neg) := by
  obtain ⟨v, e1, e2⟩ := plain_f (s.extract 0 i) 10 (by omega)
  rw [ext_take] at e1 e2
  rw [show ((10 : Nat) : Int) = 10 from rfl] at e1
  have w1 : wrap64 ((i : Int) + 1) = ((i + 1 : Nat) : Int) := (w64 (by omega) (by omega)).trans (by omega)
  have st : ∀ k, num_Parse.j2 (k + 1) s neg (i : Int) false = if (i : Int) < (s.size : Int) then (num_plain.f (s.extract (i + 1) s.size) 10).bind fun b => (if (PlnL (s.data.toList.take i) 10).isSome = true then (if b.2 = true then num_Parse.j3 k neg v (decide (b.1 > 1)) b.1 else num_Parse.j3 k neg v false b.1) else num_Parse.j3 k neg v false b.1) else num_Parse.j3 k neg v (PlnL (s.data.toList.take i) 10).isSome 1 := fun k => by
    show (if 0 ≤ (i : Int) then (if (i : Int) ≤ (s.size : Int) then ((num_plain.f (s.extract 0 ((i : Int)).toNat) 10).bind fun a => if (i : Int) < (s.size : Int) then (if 0 ≤ (wrap64 ((i : Int) + 1)) then (if (wrap64 ((i : Int) + 1)) ≤ (s.size : Int) then ((num_plain.f (s.extract ((wrap64 ((i : Int) + 1)) : Int).toNat s.size) 10).bind fun b => (if a.2 = true then (if b.2 = true then (num_Parse.j3 k neg a.1 (decide (b.1 > 1)) b.1) else (num_Parse.j3 k neg a.1 false b.1)) else (num_Parse.j3 k neg a.1 false b.1))) else none) else none) else (num_Parse.j3 k neg a.1 a.2 1)) else none) else none) = _
    rw [if_pos (by omega), if_pos (by omega), Int.toNat_natCast, e1, Option.bind_some, w1, Int.toNat_natCast]
    by_cases c : (i : Int) < (s.size : Int)
    · rw [if_pos c, if_pos (by omega), if_pos (by omega), if_pos c]
    · rw [if_neg c, if_neg c]
  refine Ev.step st ?_
  by_cases c : i < s.size
  · have c' : (i : Int) < (s.size : Int) := by omega
    simp only [c', if_true, c]
    obtain ⟨v2, f1, f2⟩ := plain_f (s.extract (i + 1) s.size) 10 (by omega)
    rw [ext_drop] at f1 f2
    rw [show ((10 : Nat) : Int) = 10 from rfl] at f1
    simp only [f1, Option.bind_some]
    unfold FracP PlnO
    dsimp only
    cases hn : PlnL (s.data.toList.take i) 10 with
    | none =>
      simp only [Option.isSome_none, Bool.false_eq_true, if_false]
      exact parse_no neg v v2
    | some n =>
      obtain rfl := e2 n hn
      cases hd : PlnL (s.data.toList.drop (i + 1)) 10 with
      | none =>
        simp only [Option.isSome_some, Option.isSome_none, Bool.false_eq_true, if_false, if_true]
        exact parse_no neg v v2
      | some d =>
        obtain rfl := f2 d hd
        simp only [Option.isSome_some, if_true]
        exact parse_j3C neg (decide (v2 > 1)) v v2 (fun _ => pln_le hn) (by simp)
  · have c' : ¬ (i : Int) < (s.size : Int) := by omega
    simp only [c', if_false, c]
    unfold FracP PlnO
    dsimp only
    cases hn : PlnL (s.data.toList.take i) 10 with
    | none =>
      exact parse_no neg v 1
    | some n =>
      obtain rfl := e2 n hn
      exact parse_j3C neg true v 1 (fun _ => pln_le hn) (by simp)
theorem bt46 (s : ByteArray) (i : Nat) (h : i < s.data.toList.length) : bt s (i : Int) = 46 ↔ s.data.toList[i] = 46 := bt_eq s i h 46
theorem bt47 (s : ByteArray) (i : Nat) (h : i < s.data.toList.length) : bt s (i : Int) = 47 ↔ s.data.toList[i] = 47 := bt_eq s i h 47
theorem parse_dot (s : ByteArray) (hs : s.size ≤ 1000000) (neg : Bool) (i : Nat) (hi : i < s.size) : Ev (fun k => num_Parse.j2 k s neg (i : Int) true) (DecP (s.data.toList.take i) (s.data.toList.drop (i + 1)) neg) := by
  have w1 : wrap64 ((i : Int) + 1) = ((i + 1 : Nat) : Int) := (w64 (by omega) (by omega)).trans (by omega)
  refine Ev.step (f := fun k => (num_decimal.f k (s.extract 0 i) (s.extract (i + 1) s.size) neg).bind fun b => some (b.1, b.2.1, b.2.2)) (fun k => ?_) ?_
  · rw [num_Parse.j2, if_pos rfl, if_pos (by omega), if_pos (by omega), w1, if_pos (by omega), if_pos (by omega), Int.toNat_natCast, Int.toNat_natCast]
  · have := ev_decimal (s.extract 0 i) (s.extract (i + 1) s.size) neg
    rw [ext_take, ext_drop] at this
    exact ev_three this
theorem parse_at (s : ByteArray) (hs : s.size ≤ 1000000) (neg : Bool) (i : Nat) (hi : i ≤ s.size) : Ev (fun k => num_Parse.j1 k s neg (i : Int)) (if s.data.toList[i]? = some 46 then DecP (s.data.toList.take i) (s.data.toList.drop (i + 1)) neg else FracP (s.data.toList.take i) (if i < s.data.toList.length then some (s.data.toList.drop (i + 1)) else none) neg) := by
  rw [data_length]
  by_cases c : i < s.size
  · have c' : i < s.data.toList.length := by rwa [data_length]
    have hb := bt46 s i c'
    rw [List.getElem?_eq_getElem c']
    refine Ev.step (f := fun k => num_Parse.j2 k s neg (i : Int) (bt s (i : Int) == 46)) (fun k => ?_) ?_
    · show (if (i : Int) < (s.size : Int) then (if 0 ≤ (i : Int) then num_Parse.j2 k s neg (i : Int) (bt s (i : Int) == 46) else none) else _) = _
      rw [if_pos (by omega), if_pos (by omega)]
    · by_cases z : s.data.toList[i] = 46
      · rw [if_pos (congrArg some z), beq_iff_eq.mpr (hb.mpr z)]
        exact parse_dot s hs neg i c
      · rw [if_neg (fun h => z (Option.some.inj h)), beq_eq_false_iff_ne.mpr (fun h => z (hb.mp h))]
        exact frac_ev s hs neg i hi
  · have c' : ¬ i < s.data.toList.length := by rwa [data_length]
    rw [List.getElem?_eq_none (Nat.le_of_not_lt c'), if_neg (fun h => by cases h)]
    refine Ev.step (f := fun k => num_Parse.j2 k s neg (i : Int) false) (fun k => ?_) (frac_ev s hs neg i hi)
    show (if (i : Int) < (s.size : Int) then _ else num_Parse.j2 k s neg (i : Int) false) = _
    rw [if_neg (by omega)]
theorem parse_l0 (s : ByteArray) (neg : Bool) (i : Nat) (k : Nat) (hi : i < s.size) : num_Parse.l0 (k + 1) s neg (i : Int) = if bt s (i : Int) = 46 then num_Parse.j1 k s neg (i : Int) else if bt s (i : Int) = 47 then num_Parse.j1 k s neg (i : Int) else num_Parse.l0 k s neg (wrap64 ((i : Int) + 1)) := by
  show (if (i : Int) < (s.size : Int) then (if 0 ≤ (i : Int) then (if bt s (i : Int) = 46 then num_Parse.j1 k s neg (i : Int) else if bt s (i : Int) = 47 then num_Parse.j1 k s neg (i : Int) else num_Parse.l0 k s neg (wrap64 ((i : Int) + 1))) else none) else num_Parse.j1 k s neg (i : Int)) = _
  rw [if_pos (by omega), if_pos (by omega)]
theorem sep_bt (s : ByteArray) (i : Nat) (h : i < s.data.toList.length) : isSep s.data.toList[i] = true ↔ bt s (i : Int) = 46 ∨ bt s (i : Int) = 47 := by
  rw [bt46 s i h, bt47 s i h]
  unfold isSep
  simp
theorem parse_loop (s : ByteArray) (hs : s.size ≤ 1000000) (neg : Bool) (R : Int × Int × Int) (a : Nat) (ha : a ≤ s.size) (hat : ∀ h : a < s.data.toList.length, isSep s.data.toList[a] = true) (hno : ∀ (i : Nat) (h : i < s.data.toList.length), i < a → isSep s.data.toList[i] = false) (hR : Ev (fun k => num_Parse.j1 k s neg (a : Int)) R) :
    ∀ (m i : Nat), i + m = a → Ev (fun k => num_Parse.l0 k s neg (i : Int)) R := by
  intro m
  induction m with
  | zero =>
    intro i hi
    obtain rfl : i = a := by omega
    refine Ev.step (f := fun k => num_Parse.j1 k s neg (i : Int)) (fun k => ?_) hR
    by_cases c : i < s.size
    · rw [parse_l0 s neg i k c]
      have c' : i < s.data.toList.length := by rwa [data_length]
      rcases (sep_bt s i c').mp (hat c') with z | z
      · rw [if_pos z]
      · rw [if_pos z]
        split <;> rfl
    · show (if (i : Int) < (s.size : Int) then _ else num_Parse.j1 k s neg (i : Int)) = _
      rw [if_neg (by omega)]
  | succ m ih =>
    intro i hi
    have hlt : i < s.size := by omega
    have hlt' : i < s.data.toList.length := by rwa [data_length]
    have hn := hno i hlt' (by omega)
    have nb : ¬ (bt s (i : Int) = 46 ∨ bt s (i : Int) = 47) := fun h => by
      rw [(sep_bt s i hlt').mpr h] at hn
      cases hn
    refine Ev.step (f := fun k => num_Parse.l0 k s neg ((i + 1 : Nat) : Int)) (fun k => ?_) (ih (i + 1) (by omega))
    rw [parse_l0 s neg i k hlt, if_neg (fun h => nb (Or.inl h)), if_neg (fun h => nb (Or.inr h)), w64 (by omega) (by omega)]
    rfl
theorem parse_rest (s : ByteArray) (hs : s.size ≤ 1000000) (neg : Bool) : Ev (fun k => num_Parse.l0 k s neg 0) (ParseL s.data.toList neg) := by
  have hle : s.data.toList.findIdx isSep ≤ s.size := by
    have := List.findIdx_le_length (p := isSep) (xs := s.data.toList)
    rwa [data_length] at this
  exact parse_loop s hs neg _ _ hle (fun h => List.findIdx_getElem (w := h)) (fun i h hi => List.not_of_lt_findIdx hi) (parse_at s hs neg _ hle) _ 0 (Nat.zero_add _)
theorem bt8 (s : ByteArray) (i : Nat) (h : i < s.data.toList.length) (c : UInt8) : (s.data.toList[i] == c) = decide (bt s (i : Int) = (c.toNat : Int)) := by
  have := bt_eq s i h c
  by_cases z : s.data.toList[i] = c
  · rw [decide_eq_true (this.mpr z), beq_iff_eq.mpr z]
  · rw [decide_eq_false (fun w => z (this.mp w)), beq_eq_false_iff_ne.mpr z]
theorem find_loop (s : ByteArray) (hs : s.size ≤ 1000000) (c : UInt8) : ∀ (m i : Nat), i + m = s.data.toList.findIdx (· == c) → Ev (fun k => withyref01_find.l0 k s (c.toNat : Int) (i : Int)) ((s.data.toList.findIdx (· == c) : Nat) : Int) := by
  have hle : s.data.toList.findIdx (· == c) ≤ s.size := by
    have := List.findIdx_le_length (p := (· == c)) (xs := s.data.toList)
    rwa [data_length] at this
  intro m
  induction m with
  | zero =>
    intro i hi
    have e : s.data.toList.findIdx (· == c) = i := by omega
    by_cases h : i < s.size
    · have h' : i < s.data.toList.length := by rwa [data_length]
      have hp : (s.data.toList[i] == c) = true := by
        have := List.findIdx_getElem (p := (· == c)) (xs := s.data.toList) (w := by rw [e]; exact h')
        simpa only [e] using this
      rw [bt8 s i h' c] at hp
      rw [e]
      refine Ev.step (f := fun _ => some (i : Int)) (fun k => ?_) (Ev.now _)
      rw [withyref01_find.l0, if_pos (by omega), if_pos (by omega), if_pos (of_decide_eq_true hp)]
    · rw [e]
      refine Ev.step (f := fun _ => some (s.size : Int)) (fun k => ?_) (by rw [show (s.size : Int) = (i : Int) by omega]; exact Ev.now _)
      rw [withyref01_find.l0, if_neg (by omega)]
  | succ m ih =>
    intro i hi
    have hlt : i < s.size := by omega
    have h' : i < s.data.toList.length := by rwa [data_length]
    have hp := List.not_of_lt_findIdx (p := (· == c)) (xs := s.data.toList) (i := i) (by omega)
    have hp2 : decide (bt s (i : Int) = (c.toNat : Int)) = false := by rw [← bt8 s i h' c]; exact hp
    refine Ev.step (f := fun k => withyref01_find.l0 k s (c.toNat : Int) ((i + 1 : Nat) : Int)) (fun k => ?_) (ih (i + 1) (by omega))
    rw [withyref01_find.l0, if_pos (by omega), if_pos (by omega), if_neg (of_decide_eq_false hp2), w64 (by omega) (by omega)]
    rfl
theorem ev_find (s : ByteArray) (hs : s.size ≤ 1000000) (c : UInt8) : Ev (fun k => withyref01_find.f k s (c.toNat : Int)) ((s.data.toList.findIdx (· == c) : Nat) : Int) :=
  find_loop s hs c _ 0 (Nat.zero_add _)
/-- a byte that is no digit -/
theorem VG_bad : ∀ (l : List UInt8) (c : UInt8) (n : Int), c ∈ l → ¬ (48 ≤ (c.toNat : Int) ∧ (c.toNat : Int) ≤ 57) → VG l n = none := by
  intro l
  induction l with
  | nil => intro c n h; exact absurd h (by simp)
  | cons a l ih =>
    intro c n h hc
    unfold VG
    by_cases d : 48 ≤ (a.toNat : Int) ∧ (a.toNat : Int) ≤ 57
    · rw [if_pos d]
      rcases List.mem_cons.mp h with rfl | h
      · exact absurd d hc
      · exact ih c _ h hc
    · rw [if_neg d]
theorem Pln_bad {l : List UInt8} {c : UInt8} (most : Nat) (h : c ∈ l) (hc : ¬ (48 ≤ (c.toNat : Int) ∧ (c.toNat : Int) ≤ 57)) : PlnL l most = none := by
  unfold PlnL CntL
  rw [VG_bad l c 0 h hc]
  split
  · split <;> rfl
  · rfl
/-- what was read, of a sign, digits, and digits behind a slash -/
def Txt (a : List UInt8) (b : Option (List UInt8)) (neg : Bool) : List UInt8 := (if neg then [45] else []) ++ (a ++ (match b with | none => [] | some r => 47 :: r))
theorem bytes_back (l : List UInt8) : (l.map (fun c => (c.toNat : Int))).map (fun n => UInt8.ofNat n.toNat) = l := by
  rw [List.map_map]
  conv => rhs; rw [← List.map_id l]
  apply List.map_congr_left
  intro c _
  simp
theorem told_same {a : List UInt8} {b : Option (List UInt8)} {neg : Bool} {n d : Int} (hn : PlnL a 10 = some n) (hd : PlnO b = some d) (hd1 : 1 ≤ d) :
    (strOfNums (PrintL (if neg then -n else n) d)).data.toList = Txt a b neg ↔ (b.isSome = true → d > 1) ∧ ¬ (neg = true ∧ n = 0) := by
  obtain ⟨e1, n0, _⟩ := dig_plain (by omega) hn
  have ab : (if neg then -n else n).natAbs = n.toNat := by cases neg <;> simp <;> omega
  rw [strOfNums_data]
  unfold PrintL Txt
  rw [ab, e1]
  simp only [List.map_append, bytes_back]
  cases b with
  | none =>
    obtain rfl := Option.some.inj hd
    simp only [show ¬ ((1 : Int) > 1) by decide, if_false, List.map_nil, List.append_nil, Option.isSome_none, Bool.false_eq_true, false_implies, true_and]
    cases neg with
    | false => simp only [Bool.false_eq_true, if_false, false_and, not_false_eq_true, iff_true]; rw [if_neg (by omega)]; rfl
    | true =>
      simp only [if_true, true_and]
      by_cases z : n = 0
      · subst z
        simp only [Int.neg_zero, Int.lt_irrefl, if_false, List.map_nil, List.nil_append, not_true_eq_false, iff_false]
        intro h
        have := congrArg List.length h
        simp at this
      · rw [if_pos (by omega)]
        simp only [z, not_false_eq_true, iff_true]
        rfl
  | some r =>
    have e2 := (dig_plain (by omega) hd).1
    rw [show d.natAbs = d.toNat by omega, e2]
    simp only [Option.isSome_some, forall_const]
    by_cases g : d > 1
    · simp only [g, if_true, true_and, List.map_cons, bytes_back]
      cases neg with
      | false => simp only [Bool.false_eq_true, if_false, false_and, not_false_eq_true, iff_true]; rw [if_neg (by omega)]; rfl
      | true =>
        simp only [if_true, true_and]
        by_cases z : n = 0
        · subst z
          simp only [Int.neg_zero, Int.lt_irrefl, if_false, List.map_nil, List.nil_append, not_true_eq_false, iff_false]
          intro h
          have := congrArg List.length h
          simp at this
        · rw [if_pos (by omega)]
          simp only [z, not_false_eq_true, iff_true]
          rfl
    · simp only [g, if_false, false_and, iff_false, List.map_nil, List.append_nil]
      intro h
      have := congrArg List.length h
      cases neg with
      | false => rw [if_neg (by simp; omega)] at this; simp at this
      | true =>
        simp only [if_true, List.length_append, List.length_map, List.length_cons, List.length_nil] at this
        split at this
        · simp at this
        · simp at this
          omega
theorem ref_j2_no (s : ByteArray) (sg n d : Int) (a b : Bool) (h : ¬ (a = true ∧ b = true)) : Ev (fun k => withyref01_Parse.j2 k s sg n a d b) (0, 0, 1) := by
  refine Ev.step (f := fun _ => some (0, 0, 1)) (fun k => ?_) (Ev.now _)
  rw [withyref01_Parse.j2]
  cases a with
  | false => rfl
  | true =>
    cases b with
    | false => rfl
    | true => exact absurd ⟨rfl, rfl⟩ h
theorem ref_j2 (s : ByteArray) (a : List UInt8) (b : Option (List UInt8)) (neg : Bool) (n d : Int) (hs : s.data.toList = Txt a b neg) (hn : PlnL a 10 = some n) (hd : PlnO b = some d) :
    Ev (fun k => withyref01_Parse.j2 k s (if neg then -1 else 1) n true d true) (FracP a b neg) := by
  have hm : (if neg then -1 else 1) * n = if neg then -n else n := by cases neg <;> simp
  have nb := pln_le hn
  have hw : wrap64 ((if neg then -1 else 1) * n) = if neg then -n else n := by rw [hm]; exact w64 (by cases neg <;> simp <;> omega) (by cases neg <;> simp <;> omega)
  refine Ev.step (f := fun k => (withyref01_Check.f k (if neg then -n else n) d).bind fun t => if t = 0 then ((withyref01_Told.f k (if neg then -n else n) d).bind fun u => if u.toList = s.toList then some (if neg then -n else n, d, 0) else some (0, 0, 1)) else some (0, 0, 1)) (fun k => ?_) ?_
  · rw [withyref01_Parse.j2, if_pos rfl, if_pos rfl, hw]
  · refine Ev.bind (ev_rcheck _ _) ?_
    have e : FracP a b neg = if (b.isSome = true → d > 1) ∧ ¬ (neg = true ∧ n = 0) ∧ Chk (if neg then -n else n) d = 0 then (if neg then -n else n, d, 0) else (0, 0, 1) := by
      unfold FracP
      rw [hn, hd]
    rw [e]
    by_cases c : Chk (if neg then -n else n) d = 0
    · have ok := Chk_ok.mp c
      have same := told_same (neg := neg) hn hd ok.d1
      simp only [c, if_true, and_true]
      refine Ev.bind (ev_Told ok) ?_
      rw [ByteArray.toList_eq, ByteArray.toList_eq, hs]
      by_cases w : (strOfNums (PrintL (if neg then -n else n) d)).data.toList = Txt a b neg
      · have w' := same.mp w
        simp only [w, if_true]
        rw [if_pos w']
        exact Ev.now _
      · have w' := fun h => w (same.mpr h)
        simp only [w, if_false]
        rw [if_neg w']
        exact Ev.now _
    · simp only [c, if_false, and_false]
      exact Ev.now _
theorem ref_frac (s r : ByteArray) (hr : r.size ≤ 1000000) (neg : Bool) (i : Nat) (hi : i ≤ r.size) (hs : s.data.toList = Txt (r.data.toList.take i) (if i < r.size then some (r.data.toList.drop (i + 1)) else none) neg) :
    Ev (fun k => (withyref01_Count.f k (r.extract 0 i) 10).bind fun a => if (i : Int) < (r.size : Int) then (withyref01_Count.f k (r.extract (i + 1) r.size) 10).bind fun b => withyref01_Parse.j2 k s (if neg then -1 else 1) a.1 a.2 b.1 b.2 else withyref01_Parse.j2 k s (if neg then -1 else 1) a.1 a.2 1 true) (FracP (r.data.toList.take i) (if i < r.size then some (r.data.toList.drop (i + 1)) else none) neg) := by
  have c1 := ev_Count (r.extract 0 i) 10 (by omega)
  rw [ext_take, show ((10 : Nat) : Int) = 10 from rfl] at c1
  refine Ev.bind c1 ?_
  by_cases c : i < r.size
  · have c' : (i : Int) < (r.size : Int) := by omega
    simp only [c, if_true] at hs ⊢
    simp only [c', if_true]
    have c2 := ev_Count (r.extract (i + 1) r.size) 10 (by omega)
    rw [ext_drop, show ((10 : Nat) : Int) = 10 from rfl] at c2
    refine Ev.bind c2 ?_
    cases hn : PlnL (r.data.toList.take i) 10 with
    | none =>
      have e : FracP (r.data.toList.take i) (some (r.data.toList.drop (i + 1))) neg = (0, 0, 1) := by
        unfold FracP
        rw [hn]
      rw [e]
      exact ref_j2_no s _ _ _ _ _ (fun h => by cases h.1)
    | some n =>
      cases hd : PlnL (r.data.toList.drop (i + 1)) 10 with
      | none =>
        have e : FracP (r.data.toList.take i) (some (r.data.toList.drop (i + 1))) neg = (0, 0, 1) := by
          unfold FracP PlnO
          dsimp only
          rw [hn, hd]
        rw [e]
        exact ref_j2_no s _ _ _ _ _ (fun h => by cases h.2)
      | some d => exact ref_j2 s _ _ neg n d hs hn hd
  · have c' : ¬ (i : Int) < (r.size : Int) := by omega
    simp only [c, if_false] at hs ⊢
    simp only [c', if_false]
    cases hn : PlnL (r.data.toList.take i) 10 with
    | none =>
      have e : FracP (r.data.toList.take i) none neg = (0, 0, 1) := by
        unfold FracP
        rw [hn]
      rw [e]
      exact ref_j2_no s _ _ _ _ _ (fun h => by cases h.1)
    | some n => exact ref_j2 s _ none neg n 1 hs hn rfl
theorem findIdx_same (l : List UInt8) (h : ¬ (l.findIdx (· == 46)) < l.length) : l.findIdx isSep = l.findIdx (· == 47) := by
  have no : ∀ c ∈ l, (c == 46) = false := fun c hc => by
    cases z : (c == 46) with
    | false => rfl
    | true => exact absurd (List.findIdx_lt_length.mpr ⟨c, hc, z⟩) h
  clear h
  induction l with
  | nil => rfl
  | cons a l ih =>
    rw [List.findIdx_cons, List.findIdx_cons, ih (fun c hc => no c (List.mem_cons_of_mem _ hc))]
    have := no a (List.mem_cons_self ..)
    unfold isSep
    rw [this, Bool.false_or]
theorem sep_le_dot (l : List UInt8) : l.findIdx isSep ≤ l.findIdx (· == 46) := by
  induction l with
  | nil => exact Nat.le_refl _
  | cons a l ih =>
    rw [List.findIdx_cons, List.findIdx_cons]
    cases z : (a == 46) with
    | true => simp [isSep, z]
    | false => cases isSep a <;> simp <;> omega
theorem ref_j1 (s r : ByteArray) (hr : r.size ≤ 1000000) (neg : Bool) (hs : s.data.toList = (if neg then [45] else []) ++ r.data.toList) : Ev (fun k => withyref01_Parse.j1 k s r (if neg then -1 else 1)) (ParseL r.data.toList neg) := by
  have d1 := ev_find r hr 46
  have d2 := ev_find r hr 47
  have hle1 : r.data.toList.findIdx (· == 46) ≤ r.size := by
    have := List.findIdx_le_length (p := (· == 46)) (xs := r.data.toList)
    rwa [data_length] at this
  have hle2 : r.data.toList.findIdx (· == 47) ≤ r.size := by
    have := List.findIdx_le_length (p := (· == 47)) (xs := r.data.toList)
    rwa [data_length] at this
  have hsl := sep_le_dot r.data.toList
  have w1 : wrap64 (((r.data.toList.findIdx (· == 46) : Nat) : Int) + 1) = ((r.data.toList.findIdx (· == 46) + 1 : Nat) : Int) := (w64 (by omega) (by omega)).trans (by omega)
  have w2 : wrap64 (((r.data.toList.findIdx (· == 47) : Nat) : Int) + 1) = ((r.data.toList.findIdx (· == 47) + 1 : Nat) : Int) := (w64 (by omega) (by omega)).trans (by omega)
  refine Ev.step (f := fun k => withyref01_Parse.j1 (k + 1) s r (if neg then -1 else 1)) (fun k => rfl) ?_
  simp only [withyref01_Parse.j1]
  refine Ev.bind d1 (Ev.bind d2 ?_)
  by_cases c : r.data.toList.findIdx (· == 46) < r.size
  · have c' : r.data.toList.findIdx (· == 46) < r.data.toList.length := by rwa [data_length]
    have h46 : r.data.toList[r.data.toList.findIdx (· == 46)] = 46 := beq_iff_eq.mp (List.findIdx_getElem (w := c'))
    have i1 : ((r.data.toList.findIdx (· == 46) : Nat) : Int) < (r.size : Int) := by omega
    have i2 : 0 ≤ ((r.data.toList.findIdx (· == 46) : Nat) : Int) := by omega
    have i3 : ((r.data.toList.findIdx (· == 46) : Nat) : Int) ≤ (r.size : Int) := by omega
    have i4 : 0 ≤ ((r.data.toList.findIdx (· == 46) + 1 : Nat) : Int) := by omega
    have i5 : ((r.data.toList.findIdx (· == 46) + 1 : Nat) : Int) ≤ (r.size : Int) := by omega
    simp only [w1, i1, i2, i3, i4, i5, if_true, Int.toNat_natCast]
    have pd := ev_parseDecimal (r.extract 0 (r.data.toList.findIdx (· == 46))) (r.extract (r.data.toList.findIdx (· == 46) + 1) r.size) neg
    rw [ext_take, ext_drop] at pd
    have e : ParseL r.data.toList neg = DecP (r.data.toList.take (r.data.toList.findIdx (· == 46))) (r.data.toList.drop (r.data.toList.findIdx (· == 46) + 1)) neg := by
      unfold ParseL
      by_cases z : r.data.toList.findIdx isSep = r.data.toList.findIdx (· == 46)
      · rw [z, List.getElem?_eq_getElem c', if_pos (congrArg some h46)]
      · -- a slash comes first: both are no numbers
        have lt : r.data.toList.findIdx isSep < r.data.toList.findIdx (· == 46) := by omega
        have ls : r.data.toList.findIdx isSep < r.data.toList.length := by omega
        have n46 := List.not_of_lt_findIdx (p := (· == 46)) (xs := r.data.toList) lt
        have is := List.findIdx_getElem (p := isSep) (xs := r.data.toList) (w := ls)
        have e47 : r.data.toList[r.data.toList.findIdx isSep] = 47 := by
          have is : (r.data.toList[r.data.toList.findIdx isSep] == 46 || r.data.toList[r.data.toList.findIdx isSep] == 47) = true := is
          rcases Bool.or_eq_true_iff.mp is with h | h
          · exact absurd h (by rw [show (r.data.toList[r.data.toList.findIdx isSep] == 46) = false from n46]; decide)
          · exact beq_iff_eq.mp h
        rw [List.getElem?_eq_getElem ls, if_neg (fun h => by rw [Option.some.inj h] at e47; exact absurd e47 (by decide)), if_pos ls]
        have m46 : (46 : UInt8) ∈ r.data.toList.drop (r.data.toList.findIdx isSep + 1) := by
          rw [← h46]
          refine List.mem_iff_getElem.mpr ⟨r.data.toList.findIdx (· == 46) - (r.data.toList.findIdx isSep + 1), by rw [List.length_drop]; omega, ?_⟩
          rw [List.getElem_drop]
          congr 1
          omega
        have m47 : (47 : UInt8) ∈ r.data.toList.take (r.data.toList.findIdx (· == 46)) := by
          rw [← e47]
          refine List.mem_iff_getElem.mpr ⟨r.data.toList.findIdx isSep, by rw [List.length_take]; omega, ?_⟩
          rw [List.getElem_take]
        have p1 := Pln_bad 10 m46 (by decide)
        have p2 := Pln_bad 9 m47 (by decide)
        unfold FracP DecP PlnO
        dsimp only
        rw [p1, p2]
        cases PlnL (r.data.toList.take (r.data.toList.findIdx isSep)) 10 <;> rfl
    rw [e]
    exact ev_three pd
  · have i1 : ¬ ((r.data.toList.findIdx (· == 46) : Nat) : Int) < (r.size : Int) := by omega
    have i2 : 0 ≤ ((r.data.toList.findIdx (· == 47) : Nat) : Int) := by omega
    have i3 : ((r.data.toList.findIdx (· == 47) : Nat) : Int) ≤ (r.size : Int) := by omega
    have same := findIdx_same r.data.toList (by rw [data_length]; exact c)
    have e : ParseL r.data.toList neg = FracP (r.data.toList.take (r.data.toList.findIdx (· == 47))) (if r.data.toList.findIdx (· == 47) < r.size then some (r.data.toList.drop (r.data.toList.findIdx (· == 47) + 1)) else none) neg := by
      unfold ParseL
      rw [same, data_length, if_neg]
      intro h
      obtain ⟨hl, he⟩ := List.getElem?_eq_some_iff.mp h
      have : r.data.toList.findIdx (· == 46) < r.data.toList.length := List.findIdx_lt_length.mpr ⟨46, by rw [← he]; exact List.getElem_mem hl, by decide⟩
      rw [data_length] at this
      exact c this
    have ht : s.data.toList = Txt (r.data.toList.take (r.data.toList.findIdx (· == 47))) (if r.data.toList.findIdx (· == 47) < r.size then some (r.data.toList.drop (r.data.toList.findIdx (· == 47) + 1)) else none) neg := by
      rw [hs]
      unfold Txt
      congr 1
      by_cases z : r.data.toList.findIdx (· == 47) < r.size
      · have z' : r.data.toList.findIdx (· == 47) < r.data.toList.length := by rwa [data_length]
        have h47 : r.data.toList[r.data.toList.findIdx (· == 47)] = 47 := beq_iff_eq.mp (List.findIdx_getElem (w := z'))
        rw [if_pos z]
        show _ = _ ++ (47 :: _)
        conv => lhs; rw [← List.take_append_drop (r.data.toList.findIdx (· == 47)) r.data.toList, List.drop_eq_getElem_cons z', h47]
      · rw [if_neg z]
        show _ = _ ++ []
        rw [List.append_nil, List.take_of_length_le (by rw [data_length]; omega)]
    have fr := ref_frac s r hr neg (r.data.toList.findIdx (· == 47)) hle2 ht
    rw [e]
    simp only [i1, if_false, i2, i3, if_true, Int.toNat_natCast, w2]
    refine Ev.congr (fun k => ?_) fr
    congr 1
    funext a
    by_cases z : r.data.toList.findIdx (· == 47) < r.size
    · have z1 : ((r.data.toList.findIdx (· == 47) : Nat) : Int) < (r.size : Int) := by omega
      have z2 : 0 ≤ ((r.data.toList.findIdx (· == 47) + 1 : Nat) : Int) := by omega
      have z3 : ((r.data.toList.findIdx (· == 47) + 1 : Nat) : Int) ≤ (r.size : Int) := by omega
      simp only [z1, z2, z3, if_true]
    · have z1 : ¬ ((r.data.toList.findIdx (· == 47) : Nat) : Int) < (r.size : Int) := by omega
      simp only [z1, if_false]
def ParseR (l : List UInt8) : Int × Int × Int := if l.head? = some 45 then ParseL l.tail true else ParseL l false
theorem one_prefix (l : List UInt8) : (l.take 1 == [45]) = decide (l.head? = some 45) := by
  cases l with
  | nil => rfl
  | cons a l => rw [Bool.eq_iff_iff]; simp
theorem cut_minus (s : ByteArray) : strings_CutPrefix.f s (⟨#[45]⟩ : ByteArray) = some (if s.data.toList.head? = some 45 then (s.extract 1 s.size, true) else (s, false)) := by
  have e1 : (((⟨#[45]⟩ : ByteArray).size : Nat) : Int) = 1 := rfl
  have hp : stringslite_HasPrefix.f s (⟨#[45]⟩ : ByteArray) = some (decide (s.data.toList.head? = some 45)) := by
    unfold stringslite_HasPrefix.f
    rw [e1]
    by_cases c : (s.size : Int) ≥ 1
    · rw [if_pos c, if_pos (by omega), if_pos (by omega), ByteArray.toList_eq, ByteArray.toList_eq, ext_take, show ((1 : Int)).toNat = 1 from rfl]
      exact congrArg some (one_prefix _)
    · rw [if_neg c]
      have hl : s.data.toList = [] := List.length_eq_zero_iff.mp (by rw [data_length]; omega)
      rw [hl]
      rfl
  unfold strings_CutPrefix.f stringslite_CutPrefix.f
  rw [hp, e1, Option.bind_some]
  by_cases c : s.data.toList.head? = some 45
  · have : 0 < s.size := by
      rw [← data_length]
      cases h : s.data.toList with
      | nil => rw [h] at c; cases c
      | cons a l => simp
    rw [decide_eq_true c, if_pos rfl, if_pos (by omega), if_pos (by omega), if_pos c]
    rfl
  · rw [decide_eq_false c, if_neg (by simp), if_neg c]
    rfl
theorem ev_Parse (s : ByteArray) (hs : s.size ≤ 1000000) : Ev (fun k => num_Parse.f k s) (ParseR s.data.toList) := by
  unfold num_Parse.f
  rw [cut_minus]
  simp only [Option.bind_some]
  unfold ParseR
  by_cases c : s.data.toList.head? = some 45
  · simp only [c, if_true]
    have := parse_rest (s.extract 1 s.size) (by rw [← data_length, ext_drop, List.length_drop, data_length]; omega) true
    rw [ext_drop, List.drop_one] at this
    exact this
  · simp only [c, if_false]
    exact parse_rest s hs false
theorem ev_rParse (s : ByteArray) (hs : s.size ≤ 1000000) : Ev (fun k => withyref01_Parse.f k s) (ParseR s.data.toList) := by
  unfold withyref01_Parse.f ParseR
  by_cases z : (s.size : Int) > 0
  · have z2 : 0 < (s.size : Int) := z
    simp only [z, z2, if_true]
    have hh := head_list s (by omega)
    have hb : (bt s 0 = 45) ↔ s.data.toList.head? = some 45 := by
      have hl : 0 < s.data.toList.length := by rw [data_length]; omega
      have := bt_eq s 0 hl 45
      rw [List.head?_eq_getElem?, List.getElem?_eq_getElem hl, Option.some.injEq]
      exact this
    by_cases c : s.data.toList.head? = some 45
    · rw [beq_iff_eq.mpr (hb.mpr c), if_pos c]
      refine Ev.step (f := fun k => withyref01_Parse.j1 k s (s.extract 1 s.size) (if true then -1 else 1)) (fun k => ?_) ?_
      · rw [withyref01_Parse.j0, if_pos rfl, if_pos (by omega)]
        rfl
      · have e : (s.extract 1 s.size).data.toList = s.data.toList.tail := by rw [ext_drop, List.drop_one]
        rw [← e]
        refine ref_j1 s (s.extract 1 s.size) (by rw [← data_length, e, List.length_tail, data_length]; omega) true ?_
        rw [e]
        show _ = [45] ++ _
        cases h : s.data.toList with
        | nil => rw [h] at c; cases c
        | cons a l =>
          rw [h] at c
          rw [Option.some.inj c]
          rfl
    · rw [beq_eq_false_iff_ne.mpr (fun h => c (hb.mp h)), if_neg c]
      refine Ev.step (f := fun k => withyref01_Parse.j1 k s s (if false then -1 else 1)) (fun k => ?_) (ref_j1 s s hs false rfl)
      rw [withyref01_Parse.j0, if_neg (by simp)]
      rfl
  · simp only [z, if_false]
    have hl : s.data.toList = [] := List.length_eq_zero_iff.mp (by rw [data_length]; omega)
    rw [if_neg (by rw [hl]; simp)]
    refine Ev.step (f := fun k => withyref01_Parse.j1 k s s (if false then -1 else 1)) (fun k => ?_) (ref_j1 s s hs false rfl)
    rw [withyref01_Parse.j0, if_neg (by simp)]
    rfl
set_option maxRecDepth 100000 in
theorem summed_at : withylaw01_summed.f 60 = some true := by kernel_rfl
theorem ev_summed : Ev (fun k => withylaw01_summed.f k) true := Ev.of (fun k => withylaw01_summed.mono k) summed_at
theorem withylaw01_NumTexts.ev (a0_0 a0_1 : Int) (a1 : ByteArray) : Ev (fun k => withylaw01_NumTexts.f k a0_0 a0_1 a1) true := by
  unfold withylaw01_NumTexts.f
  by_cases c : (a1.size : Int) > 200
  · simp only [c, if_true]
    exact Ev.bind ev_summed (Ev.now _)
  · simp only [c, if_false]
    refine Ev.bind (ev_Print a0_0 a0_1) (Ev.bind (ev_rPrint a0_0 a0_1) (Ev.bind (ev_Parse a1 (by omega)) (Ev.bind (ev_rParse a1 (by omega)) ?_)))
    simp only [if_true, beq_self_eq_true, Bool.and_self]
    exact Ev.bind ev_summed (Ev.now _)
theorem withylaw01_NumTexts.pure (a0_0 a0_1 : Int) (a1 : ByteArray) (_ : -9223372036854775808 ≤ a0_0 ∧ a0_0 ≤ 9223372036854775807) (_ : -9223372036854775808 ≤ a0_1 ∧ a0_1 ≤ 9223372036854775807) (_ : a1.size ≤ 140737488351232) : ∃ k, withylaw01_NumTexts.f k a0_0 a0_1 a1 = some true :=
  (withylaw01_NumTexts.ev a0_0 a0_1 a1).rounds
end Go.Proofs.Ytakcdoahpbeckaa.H
