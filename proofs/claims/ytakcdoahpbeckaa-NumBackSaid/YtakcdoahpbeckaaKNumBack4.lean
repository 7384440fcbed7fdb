/- NumBack: the plain law, without the program: what the printed functions come to. -/
import Derived.Test.YtakcdoahpbeckaaKNumBack3
namespace Go.Proofs.Ytakcdoahpbeckaa.H
open Go.RowKit Go.Proofs.YtakcdoahpbeckaaW.PrintWords Go.Proofs.YtakcdoahpbeckaaW.PrintLast Go.Proofs.YtakcdoahpbeckaaW.PrintMore
attribute [local go_sem] max2_int min2_int max_two min_two max_three min_three max_four min_four   -- for this text's walks alone
set_option linter.unusedVariables false
set_option linter.unusedSimpArgs false

/-! ### the text VNumBack -/
theorem w64 {n : Int} (h : -9223372036854775808 ≤ n) (h' : n ≤ 9223372036854775807) : wrap64 n = n := by unfold wrap64; omega
theorem Ev.isNow {α : Type} {g : Nat → Option α} {r : α} (h : ∀ k, g k = some r) : Ev g r := ⟨0, fun k _ => h k⟩
theorem mx_nat (g : Nat) (h : 0 < g) : mx (g : Int) 1 = g := by unfold mx; split <;> omega
theorem mx_abs {n : Int} (h : -9223372036854775807 ≤ n) (h' : n ≤ 9223372036854775807) : mx n (wrap64 (-n)) = (n.natAbs : Int) := by
  rw [w64 (by omega) (by omega)]
  unfold mx
  split <;> omega
theorem divisor_loop : ∀ (n m : Nat), Ev (fun k => num_divisor.l0 k (m : Int) (n : Int)) (mx (Nat.gcd m n : Nat) 1) := by
  intro n
  induction n using Nat.strongRecOn with
  | ind n ih =>
    intro m
    by_cases h : n = 0
    · subst h
      refine Ev.step (f := fun _ => some (mx (m : Int) 1)) (fun k => ?_) (by rw [Nat.gcd_zero_right]; exact Ev.now _)
      show (if (0 : Int) > 0 then _ else _) = _
      rfl
    · refine Ev.step (f := fun k => num_divisor.l0 k (n : Int) ((m % n : Nat) : Int)) (fun k => ?_) ?_
      · show (if (n : Int) > 0 then (if (n : Int) = 0 then none else num_divisor.l0 k (n : Int) (Int.tmod m n)) else _) = _
        rw [if_pos (by omega), if_neg (by omega)]
        rfl
      · have := ih (m % n) (Nat.mod_lt _ (by omega)) n
        rwa [Nat.gcd_comm n, ← Nat.gcd_rec, Nat.gcd_comm n] at this
theorem ev_divisor {n d : Int} (hn : -9223372036854775807 ≤ n) (hn' : n ≤ 9223372036854775807) (hd : -9223372036854775807 ≤ d) (hd' : d ≤ 9223372036854775807) (h0 : d ≠ 0) :
    Ev (fun k => num_divisor.f k n d) (Int.gcd n d) := by
  have h := divisor_loop d.natAbs n.natAbs
  rw [mx_nat _ (Nat.gcd_pos_of_pos_right _ (by omega))] at h
  refine Ev.congr (fun k => ?_) h
  show num_divisor.l0 k _ _ = _
  rw [mx_abs hn hn', mx_abs hd hd']
theorem of2_loop : ∀ (n m : Nat), 0 < Nat.gcd m n → Ev (fun k => withyref01_Of2.l0 k (m : Int) (n : Int)) ((Nat.gcd m n : Nat) : Int) := by
  intro n
  induction n using Nat.strongRecOn with
  | ind n ih =>
    intro m hp
    by_cases h : n = 0
    · subst h
      rw [Nat.gcd_zero_right] at hp ⊢
      refine Ev.step (f := fun _ => some ((m : Int))) (fun k => ?_) (Ev.now _)
      show (if (0 : Int) > 0 then _ else if (m : Int) = 0 then _ else _) = _
      rw [if_neg (by omega), if_neg (by omega)]
    · have hr : Nat.gcd n (m % n) = Nat.gcd m n := by rw [Nat.gcd_comm n, ← Nat.gcd_rec, Nat.gcd_comm n]
      refine Ev.step (f := fun k => withyref01_Of2.l0 k (n : Int) ((m % n : Nat) : Int)) (fun k => ?_) ?_
      · show (if (n : Int) > 0 then (if (n : Int) = 0 then none else withyref01_Of2.l0 k (n : Int) (Int.tmod m n)) else _) = _
        rw [if_pos (by omega), if_neg (by omega)]
        rfl
      · have := ih (m % n) (Nat.mod_lt _ (by omega)) n (by rw [hr]; exact hp)
        rwa [hr] at this
theorem ev_of2 {n d : Int} (hn : -9223372036854775807 ≤ n) (hn' : n ≤ 9223372036854775807) (hd : -9223372036854775807 ≤ d) (hd' : d ≤ 9223372036854775807) (h0 : d ≠ 0) :
    Ev (fun k => withyref01_Of2.f k n d) (Int.gcd n d) := by
  have h := of2_loop d.natAbs n.natAbs (Nat.gcd_pos_of_pos_right _ (by omega))
  have h2 : Ev (fun k => withyref01_Of2.j0 k (n.natAbs : Int) d) (Int.gcd n d) := by
    by_cases c : d < 0
    · refine Ev.step (f := fun k => withyref01_Of2.j1 k (n.natAbs : Int) (wrap64 (-d))) (fun k => ?_) (Ev.step (f := fun k => withyref01_Of2.l0 k (n.natAbs : Int) (wrap64 (-d))) (fun k => rfl) ?_)
      · show (if d < 0 then _ else _) = _
        rw [if_pos c]
      · rw [w64 (by omega) (by omega), show -d = (d.natAbs : Int) by omega]
        exact h
    · refine Ev.step (f := fun k => withyref01_Of2.j1 k (n.natAbs : Int) d) (fun k => ?_) (Ev.step (f := fun k => withyref01_Of2.l0 k (n.natAbs : Int) d) (fun k => rfl) ?_)
      · show (if d < 0 then _ else _) = _
        rw [if_neg c]
      · have e : d = (d.natAbs : Int) := by omega
        have h' := h
        rw [← e] at h'
        exact h'
  refine Ev.congr (fun k => ?_) h2
  unfold withyref01_Of2.f
  by_cases c : n < 0
  · rw [if_pos c, w64 (by omega) (by omega), show -n = (n.natAbs : Int) by omega]
  · rw [if_neg c]
    congr 1
    omega
/-- the error of a number -/
def Chk (n d : Int) : Int := if (1 ≤ d ∧ d ≤ 1000000000) ∧ (-1000000000 ≤ n ∧ n ≤ 1000000000) then (if Int.gcd n d > 1 then 1 else 0) else 3
theorem in_f (a b c : Int) : withyref01_In.f a b c = some (decide (b ≤ a ∧ a ≤ c)) := by
  unfold withyref01_In.f
  by_cases h : b ≤ a <;> simp [h]
theorem within_1 (a b n : Int) : num_within.f a b [n] = some (decide (a ≤ n ∧ n ≤ b)) := by
  unfold num_within.f
  simp
theorem ev_check (n d : Int) : Ev (fun k => num_Check.f k n d) (Chk n d) := by
  unfold num_Check.f Chk
  simp only [within_1, Option.bind_some]
  by_cases c : 1 ≤ d ∧ d ≤ 1000000000
  · by_cases c' : -1000000000 ≤ n ∧ n ≤ 1000000000
    · simp only [c, c', and_self, decide_true, if_true, Bool.not_true]
      refine Ev.step (f := fun k => (num_divisor.f k n d).bind fun t => if t > 1 then some 1 else some 0) (fun k => rfl) ?_
      · refine Ev.bind (ev_divisor (by omega) (by omega) (by omega) (by omega) (by omega)) ?_
        by_cases g : Int.gcd n d > 1
        · have g' : ((Int.gcd n d : Nat) : Int) > 1 := by omega
          simp only [g, g', if_true]
          exact Ev.now _
        · have g' : ¬ ((Int.gcd n d : Nat) : Int) > 1 := by omega
          simp only [g, g', if_false]
          exact Ev.now _
    · simp only [c, c', and_self, and_false, decide_true, decide_false, if_true, Bool.not_false, if_false]
      exact Ev.step (f := fun _ => some 3) (fun k => rfl) (Ev.now _)
  · simp only [c, false_and, decide_false, Bool.false_eq_true, if_false]
    exact Ev.step (f := fun _ => some 3) (fun k => rfl) (Ev.now _)
theorem ev_rcheck (n d : Int) : Ev (fun k => withyref01_Check.f k n d) (Chk n d) := by
  unfold withyref01_Check.f Chk
  simp only [in_f, Option.bind_some]
  by_cases c : 1 ≤ d ∧ d ≤ 1000000000
  · by_cases c' : -1000000000 ≤ n ∧ n ≤ 1000000000
    · simp only [c, c', and_self, decide_true, if_true, Bool.not_true]
      refine Ev.step (f := fun k => (withyref01_Of2.f k n d).bind fun t => if t > 1 then some 1 else some 0) (fun k => rfl) ?_
      · refine Ev.bind (ev_of2 (by omega) (by omega) (by omega) (by omega) (by omega)) ?_
        by_cases g : Int.gcd n d > 1
        · have g' : ((Int.gcd n d : Nat) : Int) > 1 := by omega
          simp only [g, g', if_true]
          exact Ev.now _
        · have g' : ¬ ((Int.gcd n d : Nat) : Int) > 1 := by omega
          simp only [g, g', if_false]
          exact Ev.now _
    · simp only [c, c', and_self, and_false, decide_true, decide_false, if_true, Bool.not_false, if_false]
      exact Ev.step (f := fun _ => some 3) (fun k => rfl) (Ev.now _)
  · simp only [c, false_and, decide_false, Bool.false_eq_true, if_false]
    exact Ev.step (f := fun _ => some 3) (fun k => rfl) (Ev.now _)
def Rn (n d : Int) : Int := (if d < 0 then -n else n) / (Int.gcd n d : Int)
def Rd (n d : Int) : Int := (if d < 0 then -d else d) / (Int.gcd n d : Int)
def Fits (n d : Int) : Prop := Rd n d ≤ 1000000000 ∧ (-1000000000 ≤ Rn n d ∧ Rn n d ≤ 1000000000)
instance (n d : Int) : Decidable (Fits n d) := inferInstanceAs (Decidable (_ ∧ _))
def Low (n d : Int) : Int × Int × Int := if Fits n d then (Rn n d, Rd n d, 0) else (0, 0, 8)
def NumE (n d : Int) : Except Int (Int × Int) := if Fits n d then .ok (Rn n d, Rd n d) else .error 0
theorem gcd_pos {n d : Int} (h : d ≠ 0) : 0 < Int.gcd n d := Nat.gcd_pos_of_pos_right _ (by omega)
theorem le_div {a : Int} {g : Nat} (hg : 0 < g) {b : Int} (h : -b ≤ a) (h' : a ≤ b) : -b ≤ a / (g : Int) ∧ a / (g : Int) ≤ b := by
  have hb : 0 ≤ b := by omega
  refine ⟨?_, ?_⟩
  · have : -b ≤ (-b) / (g : Int) := by
      have := Int.le_ediv_of_mul_le (a := -b) (b := -b) (c := (g : Int)) (by omega) (by
        have : (1 : Int) ≤ g := by omega
        have := Int.mul_le_mul_of_nonneg_left this hb
        have e : -b * (g : Int) = -(b * g) := by rw [Int.neg_mul]
        omega)
      exact this
    exact Int.le_trans this (Int.ediv_le_ediv (by omega) h)
  · exact Int.le_trans (Int.ediv_le_ediv (by omega) h') (Int.ediv_le_self _ hb)
theorem core_num (n d : Int) (hn : -9223372036854775807 ≤ n) (hn' : n ≤ 9223372036854775807) (hd : -9223372036854775807 ≤ d) (hd' : d ≤ 9223372036854775807) (h0 : d ≠ 0) :
    wrap64 (Int.tdiv (if d < 0 then wrap64 (-n) else n) (Int.gcd n d)) = Rn n d ∧ wrap64 (Int.tdiv (if d < 0 then wrap64 (-d) else d) (Int.gcd n d)) = Rd n d := by
  have hg := gcd_pos (n := n) h0
  have d1 : ((Int.gcd n d : Nat) : Int) ∣ (if d < 0 then -n else n) := by
    split
    · exact Int.dvd_neg.mpr (Int.gcd_dvd_left ..)
    · exact Int.gcd_dvd_left ..
  have d2 : ((Int.gcd n d : Nat) : Int) ∣ (if d < 0 then -d else d) := by
    split
    · exact Int.dvd_neg.mpr (Int.gcd_dvd_right ..)
    · exact Int.gcd_dvd_right ..
  have e1 : (if d < 0 then wrap64 (-n) else n) = (if d < 0 then -n else n) := by rw [w64 (by omega) (by omega)]
  have e2 : (if d < 0 then wrap64 (-d) else d) = (if d < 0 then -d else d) := by rw [w64 (by omega) (by omega)]
  rw [e1, e2, Int.tdiv_eq_ediv_of_dvd d1, Int.tdiv_eq_ediv_of_dvd d2]
  have b1 := le_div hg (a := if d < 0 then -n else n) (b := 9223372036854775807) (by split <;> omega) (by split <;> omega)
  have b2 := le_div hg (a := if d < 0 then -d else d) (b := 9223372036854775807) (by split <;> omega) (by split <;> omega)
  exact ⟨w64 (by omega) b1.2, w64 (by omega) b2.2⟩
theorem gcd_sign (n d : Int) : Int.gcd (if d < 0 then wrap64 (-n) else n) (if d < 0 then wrap64 (-d) else d) = Int.gcd n d ∨ ¬ (-9223372036854775807 ≤ n ∧ n ≤ 9223372036854775807 ∧ -9223372036854775807 ≤ d ∧ d ≤ 9223372036854775807) := by
  by_cases h : (-9223372036854775807 ≤ n ∧ n ≤ 9223372036854775807 ∧ -9223372036854775807 ≤ d ∧ d ≤ 9223372036854775807)
  · left
    rw [w64 (by omega) (by omega), w64 (by omega) (by omega)]
    split
    · rw [Int.neg_gcd, Int.gcd_neg]
    · rfl
  · exact Or.inr h
theorem ev_num {n d : Int} (hn : -9223372036854775807 ≤ n) (hn' : n ≤ 9223372036854775807) (hd : -9223372036854775807 ≤ d) (hd' : d ≤ 9223372036854775807) (h0 : d ≠ 0) :
    Ev (fun k => num_ratio_num.f k n d) (NumE n d) := by
  have hg := gcd_pos (n := n) h0
  obtain ⟨c1, c2⟩ := core_num n d hn hn' hd hd' h0
  have hs := (gcd_sign n d).resolve_right (by omega)
  refine Ev.congr (f := fun k => num_ratio_num.j0 k (if d < 0 then wrap64 (-n) else n) (if d < 0 then wrap64 (-d) else d)) (fun k => ?_) ?_
  · unfold num_ratio_num.f
    split <;> rfl
  · generalize hN : (if d < 0 then wrap64 (-n) else n) = N at *
    generalize hD : (if d < 0 then wrap64 (-d) else d) = D at *
    have hNr : -9223372036854775807 ≤ N ∧ N ≤ 9223372036854775807 := by rw [← hN, w64 (by omega) (by omega)]; split <;> omega
    have hDr : (-9223372036854775807 ≤ D ∧ D ≤ 9223372036854775807) ∧ D ≠ 0 := by rw [← hD, w64 (by omega) (by omega)]; split <;> omega
    refine Ev.step (f := fun k => (num_divisor.f k N D).bind fun t => if t = 0 then none else if wrap64 (Int.tdiv D t) > 1000000000 then some (.error (0 : Int)) else (num_within.f (-1000000000) 1000000000 [wrap64 (Int.tdiv N t)]).bind fun u => if u = true then some (.ok (ε := Int) (wrap64 (Int.tdiv N t), wrap64 (Int.tdiv D t))) else some (.error (0 : Int))) (fun k => rfl) ?_
    refine Ev.bind (ev_divisor hNr.1 hNr.2 hDr.1.1 hDr.1.2 hDr.2) ?_
    rw [hs]
    simp only [c1, c2, within_1, Option.bind_some]
    refine Ev.isNow fun k => ?_
    rw [if_neg (by omega)]
    unfold NumE
    by_cases a : Rd n d > 1000000000
    · rw [if_pos a, if_neg (fun h : Fits n d => by have := h.1; omega)]
    · rw [if_neg a]
      by_cases b : -1000000000 ≤ Rn n d ∧ Rn n d ≤ 1000000000
      · rw [if_pos (show Fits n d from ⟨by omega, b⟩)]
        simp only [b, and_self, decide_true, if_true]
      · rw [if_neg (fun h : Fits n d => b h.2)]
        simp only [b, decide_false, if_false, Bool.false_eq_true]
theorem exc_num (n d : Int) : exc (NumE n d) (fun _ => some (0, 0, 8)) (fun b => some (b.1, b.2, 0)) = some (Low n d) := by
  unfold NumE Low
  split <;> rfl
/-- a number's fields are in the bounds, and in lowest terms -/
structure Ok (n d : Int) : Prop where
  d1 : 1 ≤ d
  d2 : d ≤ 1000000000
  n1 : -1000000000 ≤ n
  n2 : n ≤ 1000000000
  g : Int.gcd n d = 1
theorem Chk_ok {n d : Int} : Chk n d = 0 ↔ Ok n d := by
  unfold Chk
  constructor
  · intro h
    split at h
    · rename_i c
      split at h
      · exact absurd h (by decide)
      · have := gcd_pos (n := n) (d := d) (by omega)
        exact ⟨c.1.1, c.1.2, c.2.1, c.2.2, by omega⟩
    · exact absurd h (by decide)
  · intro h
    have := h.d1; have := h.d2; have := h.n1; have := h.n2; have := h.g
    rw [if_pos (by omega), if_neg (by omega)]
theorem ev_three {g : Nat → Option (Int × Int × Int)} {R : Int × Int × Int} (h : Ev g R) : Ev (fun k => (g k).bind fun b => some (b.1, b.2.1, b.2.2)) R :=
  Ev.bind h (Ev.now _)
theorem son_append (a b : List Int) : strOfNums a ++ strOfNums b = strOfNums (a ++ b) := by
  apply ByteArray.ext
  apply Array.ext'
  simp [strOfNums]
/-- the digits of a number, at most so many, at least so many -/
def PD : Nat → Nat → Nat → List Int
  | 0, _, _ => []
  | i + 1, m, n => if n > 0 ∨ m > 0 then PD i (m - 1) (n / 10) ++ [48 + ((n % 10 : Nat) : Int)] else []
theorem PD_len : ∀ (i m n : Nat), (PD i m n).length ≤ i := by
  intro i
  induction i with
  | zero => intro m n; simp [PD]
  | succ i ih =>
    intro m n
    unfold PD
    split
    · have := ih (m - 1) (n / 10)
      simp
      omega
    · simp
theorem told_go (least : Nat) : ∀ (i n : Nat) (l : List Int), i ≤ 20 → n < 10 ^ i → least ≤ 20 → num_told.go (least : Int) i (n : Int) l = some (PD i (least - (20 - i)) n ++ l) := by
  intro i
  induction i with
  | zero =>
    intro n l _ h hl
    have h0 : n = 0 := by simpa using h
    subst h0
    show (if _ then _ else _) = _
    rw [if_neg (by omega)]
    rfl
  | succ i ih =>
    intro n l hi h hl
    show (if _ then _ else _) = _
    by_cases c : n > 0 ∨ least - (20 - (i + 1)) > 0
    · rw [if_pos (by omega)]
      have e1 : ((n : Int) / 10) = ((n / 10 : Nat) : Int) := by omega
      have e2 : ((n : Int) % 10) = ((n % 10 : Nat) : Int) := by omega
      rw [e1, e2, ih (n / 10) _ (by omega) (by rw [Nat.pow_succ] at h; omega) hl]
      show _ = some ((if n > 0 ∨ least - (20 - (i + 1)) > 0 then _ else _) ++ l)
      rw [if_pos c, show least - (20 - (i + 1)) - 1 = least - (20 - i) by omega, List.append_assoc]
      rfl
    · rw [if_neg (by omega)]
      show _ = some ((if n > 0 ∨ least - (20 - (i + 1)) > 0 then _ else _) ++ l)
      rw [if_neg c]
      rfl
/-- a number's digits, with so many at least -/
def Dig (m n : Nat) : List Int := PD 20 m n
theorem told_f (n m : Nat) (hn : n ≤ 9223372036854775807) (hm : m ≤ 20) : num_told.f (n : Int) (m : Int) = some (strOfNums (Dig m n)) := by
  unfold num_told.f
  rw [if_pos (by omega), told_go m 20 n [] (by omega) (by omega) hm]
  simp [Dig]
theorem PD_one (i n : Nat) (h : 0 < n) : PD i 0 n = PD i 1 n := by
  cases i with
  | zero => rfl
  | succ i =>
    unfold PD
    rw [if_pos (by omega), if_pos (by omega)]
theorem Dig_len (m n : Nat) : (Dig m n).length ≤ 20 := PD_len 20 m n
theorem PD_nil (i : Nat) : PD i 0 0 = [] := by cases i <;> simp [PD]
theorem PD_self : ∀ (i m n : Nat), PD i m n = PD i (PD i m n).length n := by
  intro i
  induction i with
  | zero => intro m n; rfl
  | succ i ih =>
    intro m n
    by_cases c : n > 0 ∨ m > 0
    · have e : PD (i + 1) m n = PD i (m - 1) (n / 10) ++ [48 + ((n % 10 : Nat) : Int)] := by
        show (if _ then _ else _) = _
        rw [if_pos c]
      have e2 : PD (i + 1) ((PD i (m - 1) (n / 10)).length + 1) n = PD i (PD i (m - 1) (n / 10)).length (n / 10) ++ [48 + ((n % 10 : Nat) : Int)] := by
        show (if _ then _ else _) = _
        rw [if_pos (by omega)]
        rfl
      rw [e, List.length_append, List.length_singleton, e2, ← ih]
    · have h0 : n = 0 := by omega
      have h1 : m = 0 := by omega
      subst h0 h1
      rw [PD_nil, List.length_nil, PD_nil]
theorem PD_lt : ∀ (i m n : Nat), n < 10 ^ i → n < 10 ^ (PD i m n).length := by
  intro i
  induction i with
  | zero => intro m n h; simpa [PD] using h
  | succ i ih =>
    intro m n h
    by_cases c : n > 0 ∨ m > 0
    · have e : PD (i + 1) m n = PD i (m - 1) (n / 10) ++ [48 + ((n % 10 : Nat) : Int)] := by
        show (if _ then _ else _) = _
        rw [if_pos c]
      have := ih (m - 1) (n / 10) (by rw [Nat.pow_succ] at h; omega)
      rw [e, List.length_append, List.length_singleton, Nat.pow_succ]
      omega
    · have h0 : n = 0 := by omega
      subst h0
      exact Nat.pow_pos (by omega)
theorem PD_len_le : ∀ (i m n p : Nat), n < 10 ^ p → m ≤ p → (PD i m n).length ≤ p := by
  intro i
  induction i with
  | zero => intro m n p _ _; simp [PD]
  | succ i ih =>
    intro m n p h hm
    by_cases c : n > 0 ∨ m > 0
    · show (if _ then _ else _ : List Int).length ≤ _
      rw [if_pos c, List.length_append, List.length_singleton]
      cases p with
      | zero =>
        have h0 : n = 0 := by simpa using h
        omega
      | succ p =>
        have := ih (m - 1) (n / 10) p (by rw [Nat.pow_succ] at h; omega) (by omega)
        omega
    · have h0 : n = 0 := by omega
      have h1 : m = 0 := by omega
      subst h0 h1
      rw [PD_nil]
      simp
theorem ten_cases {p : Int} (h0 : 0 ≤ p) (h9 : p ≤ 9) : Ev (fun k => num_power.f k p) ((10 ^ p.toNat : Nat) : Int) ∧ Ev (fun k => withyref01_ten.f k p) ((10 ^ p.toNat : Nat) : Int) := by
  have : p = 0 ∨ p = 1 ∨ p = 2 ∨ p = 3 ∨ p = 4 ∨ p = 5 ∨ p = 6 ∨ p = 7 ∨ p = 8 ∨ p = 9 := by omega
  rcases this with rfl | rfl | rfl | rfl | rfl | rfl | rfl | rfl | rfl | rfl
  all_goals exact ⟨Ev.of (fun k => num_power.mono _ k) (k := 20) (by kernel_rfl), Ev.of (fun k => withyref01_ten.mono _ k) (k := 20) (by kernel_rfl)⟩
theorem sign_f (N : Int) (h : -9223372036854775807 ≤ N) (h' : N ≤ 9223372036854775807) : num_sign.f N = some (strOfNums (if N < 0 then [45] else []), (N.natAbs : Int)) := by
  unfold num_sign.f
  by_cases c : N < 0
  · rw [if_pos c, if_pos c, w64 (by omega) (by omega), show -N = (N.natAbs : Int) by omega]
    rfl
  · rw [if_neg c, if_neg c, show N = (N.natAbs : Int) by omega]
    rfl
theorem ten_le {p : Nat} (h : p ≤ 9) : 10 ^ p ≤ 1000000000 := Nat.le_trans (Nat.pow_le_pow_right (by omega) h) (by decide)
def PrintL (n d : Int) : List Int := (if n < 0 then [45] else []) ++ (Dig 1 n.natAbs ++ (if d > 1 then 47 :: Dig 1 d.natAbs else []))
def PrintR (n d : Int) : ByteArray × Int := if Chk n d = 0 then (strOfNums (PrintL n d), 0) else ((⟨#[]⟩ : ByteArray), Chk n d)
theorem ev_Print (n d : Int) : Ev (fun k => num_Print.f k n d) (PrintR n d) := by
  unfold num_Print.f PrintR
  refine Ev.bind (ev_check n d) ?_
  by_cases x : Chk n d = 0
  · have h := Chk_ok.mp x
    have h1 := h.d1; have h2 := h.d2; have h3 := h.n1; have h4 := h.n2
    simp only [x, if_true]
    have t1 := told_f n.natAbs 1 (by omega) (by omega)
    have t2 := told_f d.natAbs 1 (by omega) (by omega)
    rw [show ((1 : Nat) : Int) = 1 from rfl] at t1 t2
    rw [show ((d.natAbs : Nat) : Int) = d by omega] at t2
    have l1 := Dig_len 1 n.natAbs
    have l2 := Dig_len 1 d.natAbs
    have l3 : (if n < 0 then [(45 : Int)] else []).length ≤ 1 := by split <;> simp
    have l4 : (⟨#[47]⟩ : ByteArray) ++ strOfNums (Dig 1 d.natAbs) = strOfNums (47 :: Dig 1 d.natAbs) := son_append [47] _
    refine Ev.isNow fun k => ?_
    rw [sign_f n (by omega) (by omega)]
    simp only [Option.bind_some, t1, t2]
    rw [if_pos (by rw [strOfNums_size, strOfNums_size]; omega), l4, son_append]
    unfold PrintL
    by_cases z : d > 1
    · rw [if_pos z, if_pos z, if_pos (by rw [strOfNums_size]; omega), if_pos (by rw [strOfNums_size, strOfNums_size, List.length_append, List.length_cons]; omega), son_append, List.append_assoc]
    · rw [if_neg z, if_neg z, List.append_nil]
  · simp only [x, if_false]
    exact Ev.now _
def VG : List UInt8 → Int → Option Int
  | [], n => some n
  | c :: l, n => if 48 ≤ (c.toNat : Int) ∧ (c.toNat : Int) ≤ 57 then VG l (10 * n + ((c.toNat : Int) - 48)) else none
theorem VG_go : ∀ (l : List UInt8) (n : Int) (j : Nat), 0 ≤ n → n < 10 ^ j → j + l.length ≤ 18 → num_count.go l n = VG l n := by
  intro l
  induction l with
  | nil => intro n j _ _ _; rfl
  | cons c l ih =>
    intro n j h0 h1 h2
    simp only [List.length_cons] at h2
    have hp : (10 : Int) ^ j ≤ 10 ^ 17 := by
      have := Nat.pow_le_pow_right (n := 10) (by decide) (show j ≤ 17 by omega)
      exact_mod_cast this
    show (if _ then _ else if _ then _ else _) = if _ then _ else _
    by_cases a : (c.toNat : Int) < 48
    · rw [if_pos a, if_neg (by omega)]
    · rw [if_neg a]
      by_cases b : (c.toNat : Int) > 57
      · rw [if_pos b, if_neg (by omega)]
      · rw [if_neg b, if_pos (by omega), w64 (n := 10 * n) (by omega) (by omega), w64 (by omega) (by omega)]
        refine ih _ (j + 1) (by omega) ?_ (by omega)
        rw [Int.pow_succ]
        omega
theorem VG_bound : ∀ (l : List UInt8) (n v : Int), 0 ≤ n → VG l n = some v → n * 10 ^ l.length ≤ v ∧ v < (n + 1) * 10 ^ l.length := by
  intro l
  induction l with
  | nil =>
    intro n v _ h
    obtain rfl := Option.some.inj h
    simp
    omega
  | cons c l ih =>
    intro n v h0 h
    unfold VG at h
    by_cases a : 48 ≤ (c.toNat : Int) ∧ (c.toNat : Int) ≤ 57
    · rw [if_pos a] at h
      obtain ⟨h1, h2⟩ := ih _ v (by omega) h
      rw [List.length_cons, Int.pow_succ]
      have hp : (0 : Int) < 10 ^ l.length := Int.pow_pos (by decide)
      generalize (10 : Int) ^ l.length = P at *
      have e1 : n * (P * 10) = (10 * n) * P := by grind
      have e2 : (n + 1) * (P * 10) = (10 * n + 10) * P := by grind
      have m1 : (10 * n) * P ≤ (10 * n + ((c.toNat : Int) - 48)) * P := Int.mul_le_mul_of_nonneg_right (by omega) (by omega)
      have m2 : (10 * n + ((c.toNat : Int) - 48) + 1) * P ≤ (10 * n + 10) * P := Int.mul_le_mul_of_nonneg_right (by omega) (by omega)
      rw [e1, e2]
      omega
    · rw [if_neg a] at h
      cases h
/-- a number of 1 to so many digits -/
def CntL (l : List UInt8) (most : Nat) : Option Int := if 1 ≤ l.length ∧ l.length ≤ most then VG l 0 else none
def PlnL (l : List UInt8) (most : Nat) : Option Int := if l.length = 1 ∨ l.head? ≠ some 48 then CntL l most else none
def pairO (o : Option Int) : Int × Bool := match o with | some n => (n, true) | none => (0, false)
theorem count_f (s : ByteArray) (most : Nat) (hm : most ≤ 18) : num_count.f s (most : Int) = some (pairO (CntL s.data.toList most)) := by
  unfold num_count.f CntL
  rw [data_length]
  by_cases c : 1 ≤ s.size ∧ s.size ≤ most
  · rw [if_pos (by omega), if_pos (by omega), if_pos c, VG_go _ 0 0 (by omega) (by simp) (by rw [data_length]; omega)]
    cases VG s.data.toList 0 <;> rfl
  · rw [if_neg (by omega), if_neg c]
    rfl
theorem bt_list (s : ByteArray) (i : Nat) (h : i < s.data.toList.length) : bt s (i : Int) = ((s.data.toList[i]).toNat : Int) := by
  have h' : i < s.size := by rw [data_length] at h; exact h
  unfold bt
  rw [dif_pos (by simpa using h')]
  rfl
theorem head_list (s : ByteArray) (h : 0 < s.size) : (bt s 0 = 48) ↔ s.data.toList.head? = some 48 := by
  have hl : 0 < s.data.toList.length := by rw [data_length]; exact h
  have := bt_list s 0 hl
  rw [show ((0 : Nat) : Int) = 0 from rfl] at this
  rw [this, List.head?_eq_getElem?, List.getElem?_eq_getElem hl, Option.some.injEq]
  constructor
  · intro e
    apply UInt8.toNat_inj.mp
    show _ = 48
    omega
  · intro e
    rw [e]
    rfl
/-- what plain answers: a number, and whether it is one -/
theorem plain_f (s : ByteArray) (most : Nat) (hm : most ≤ 18) : ∃ v, num_plain.f s (most : Int) = some (v, (PlnL s.data.toList most).isSome) ∧ ∀ n, PlnL s.data.toList most = some n → v = n := by
  unfold num_plain.f
  rw [count_f s most hm, Option.bind_some]
  cases hc : CntL s.data.toList most with
  | none =>
    have : PlnL s.data.toList most = none := by unfold PlnL; rw [hc]; split <;> rfl
    rw [this]
    exact ⟨0, rfl, fun n h => by cases h⟩
  | some n =>
    have hs : 0 < s.size := by
      unfold CntL at hc
      split at hc
      · rename_i h; rw [data_length] at h; omega
      · cases hc
    simp only [pairO, if_true]
    unfold PlnL
    rw [hc, data_length]
    by_cases o : (s.size : Int) = 1
    · rw [if_pos o, if_pos (Or.inl (by omega))]
      exact ⟨n, rfl, fun m h => Option.some.inj h⟩
    · rw [if_neg o, if_pos (by omega)]
      have hh := head_list s hs
      by_cases z : bt s 0 = 48
      · rw [if_neg (fun h => h.elim (fun h => o (by omega)) (fun h => h (hh.mp z))), bne_eq_false_iff_eq.mpr z]
        exact ⟨n, rfl, fun m h => by cases h⟩
      · rw [if_pos (Or.inr (fun h => z (hh.mpr h))), bne_iff_ne.mpr z]
        exact ⟨n, rfl, fun m h => Option.some.inj h⟩
theorem VG_append : ∀ (l r : List UInt8) (n : Int), VG (l ++ r) n = (VG l n).bind (VG r) := by
  intro l
  induction l with
  | nil => intro r n; rfl
  | cons c l ih =>
    intro r n
    show (if _ then VG (l ++ r) _ else _) = Option.bind (if _ then _ else _) _
    by_cases a : 48 ≤ (c.toNat : Int) ∧ (c.toNat : Int) ≤ 57
    · rw [if_pos a, if_pos a, ih]
    · rw [if_neg a, if_neg a]
      rfl
theorem VG_nonneg {l : List UInt8} {v : Int} (h : VG l 0 = some v) : 0 ≤ v ∧ v < 10 ^ l.length := by
  have := VG_bound l 0 v (by omega) h
  omega
theorem dig_of : ∀ (m i : Nat) (l : List UInt8) (n : Int), l.length = m → m ≤ i → VG l 0 = some n → PD i m n.toNat = l.map (fun c => (c.toNat : Int)) := by
  intro m
  induction m with
  | zero =>
    intro i l n hl _ h
    have : l = [] := List.length_eq_zero_iff.mp hl
    subst this
    obtain rfl := Option.some.inj h
    exact PD_nil i
  | succ m ih =>
    intro i l n hl hi h
    obtain ⟨i, rfl⟩ : ∃ i', i = i' + 1 := ⟨i - 1, by omega⟩
    rcases List.eq_nil_or_concat l with rfl | ⟨l', c, rfl⟩
    · simp at hl
    · rw [List.concat_eq_append] at *
      rw [List.length_append, List.length_singleton] at hl
      rw [VG_append] at h
      obtain ⟨n', h1, h2⟩ := Option.bind_eq_some_iff.mp h
      unfold VG at h2
      by_cases a : 48 ≤ (c.toNat : Int) ∧ (c.toNat : Int) ≤ 57
      · rw [if_pos a] at h2
        obtain rfl := Option.some.inj h2
        have n0 := VG_nonneg h1
        have e1 : (10 * n' + ((c.toNat : Int) - 48)).toNat / 10 = n'.toNat := by omega
        have e2 : (((10 * n' + ((c.toNat : Int) - 48)).toNat % 10 : Nat) : Int) = (c.toNat : Int) - 48 := by omega
        have e : PD (i + 1) (m + 1) (10 * n' + ((c.toNat : Int) - 48)).toNat = PD i m n'.toNat ++ [48 + ((c.toNat : Int) - 48)] := by
          show (if _ then _ else _) = _
          rw [if_pos (by omega), e1, e2]
          rfl
        rw [e, ih i l' n' (by omega) (by omega) h1, List.map_append, show 48 + ((c.toNat : Int) - 48) = (c.toNat : Int) by omega]
        rfl
      · rw [if_neg a] at h2
        cases h2
theorem pow_nat (k : Nat) : ((10 : Int) ^ k) = ((10 ^ k : Nat) : Int) := by push_cast; rfl
/-- a number without a zero ahead is told as it was read -/
theorem dig_plain {l : List UInt8} {most : Nat} {n : Int} (hm : most ≤ 18) (h : PlnL l most = some n) : Dig 1 n.toNat = l.map (fun c => (c.toNat : Int)) ∧ 0 ≤ n ∧ n < 10 ^ most := by
  unfold PlnL at h
  split at h
  · rename_i ho
    unfold CntL at h
    split at h
    · rename_i hl
      have n0 := VG_nonneg h
      rw [pow_nat] at n0
      have hle : 10 ^ l.length ≤ 10 ^ most := Nat.pow_le_pow_right (by decide) hl.2
      refine ⟨?_, n0.1, by rw [pow_nat]; omega⟩
      rw [← dig_of l.length 20 l n rfl (by omega) h]
      unfold Dig
      rcases ho with ho | ho
      · rw [ho]
      · have hlt : n.toNat < 10 ^ l.length := by omega
        have hself := PD_self 20 1 n.toNat
        have hlt2 := PD_lt 20 1 n.toNat (Nat.lt_of_lt_of_le hlt (Nat.pow_le_pow_right (by decide) (by omega)))
        have hle2 := PD_len_le 20 1 n.toNat l.length hlt (by omega)
        have hge : 10 ^ (l.length - 1) ≤ n.toNat := by
          cases l with
          | nil => simp at hl
          | cons c r =>
            unfold VG at h
            by_cases a : 48 ≤ (c.toNat : Int) ∧ (c.toNat : Int) ≤ 57
            · rw [if_pos a] at h
              have c0 : (c.toNat : Int) ≠ 48 := fun e => ho (by
                rw [List.head?_cons, Option.some.injEq]
                apply UInt8.toNat_inj.mp
                show _ = 48
                omega)
              have b := (VG_bound r _ n (by omega) h).1
              rw [pow_nat] at b
              have m1 : 1 * ((10 ^ r.length : Nat) : Int) ≤ (10 * 0 + ((c.toNat : Int) - 48)) * ((10 ^ r.length : Nat) : Int) := Int.mul_le_mul_of_nonneg_right (by omega) (Int.natCast_nonneg _)
              rw [List.length_cons, Nat.add_sub_cancel]
              omega
            · rw [if_neg a] at h
              cases h
        have : (PD 20 1 n.toNat).length = l.length := by
          rcases Nat.lt_or_ge (PD 20 1 n.toNat).length l.length with c | c
          · have := Nat.pow_le_pow_right (n := 10) (by decide) (show (PD 20 1 n.toNat).length ≤ l.length - 1 by omega)
            omega
          · omega
        rw [this] at hself
        exact hself
    · cases h
  · cases h
theorem prod_nn {a b M N : Int} (h0 : 0 ≤ a) (h1 : a ≤ M) (h2 : 0 ≤ b) (h3 : b ≤ N) : 0 ≤ a * b ∧ a * b ≤ M * N := ⟨Int.mul_nonneg h0 h2, Int.mul_le_mul h1 h3 h2 (by omega)⟩
def DecP (w p : List UInt8) (neg : Bool) : Int × Int × Int := match PlnL w 9, CntL p 9 with
  | some n, some m => Low (if neg then -(n * 10 ^ p.length + m) else n * 10 ^ p.length + m) (10 ^ p.length)
  | _, _ => (0, 0, 1)
theorem dec_bounds {w p : List UInt8} {n m : Int} (hn : PlnL w 9 = some n) (hm : CntL p 9 = some m) : (0 ≤ n ∧ n < 1000000000) ∧ (0 ≤ m ∧ m < ((10 ^ p.length : Nat) : Int)) ∧ (1 ≤ p.length ∧ p.length ≤ 9) ∧ (0 ≤ n * ((10 ^ p.length : Nat) : Int) ∧ n * ((10 ^ p.length : Nat) : Int) ≤ 1000000000000000000) := by
  have h1 := (dig_plain (by omega) hn).2
  unfold CntL at hm
  split at hm
  · rename_i hl
    have h2 := VG_nonneg hm
    rw [pow_nat] at h2
    have h3 := ten_le hl.2
    have hn9 : n < 1000000000 := h1.2
    exact ⟨⟨h1.1, hn9⟩, h2, hl, prod_nn (M := 1000000000) (N := 1000000000) h1.1 (by omega) (by omega) (by omega)⟩
  · cases hm
theorem ev_decimal (w p : ByteArray) (neg : Bool) : Ev (fun k => num_decimal.f k w p neg) (DecP w.data.toList p.data.toList neg) := by
  unfold num_decimal.f
  obtain ⟨v, e1, e2⟩ := plain_f w 9 (by omega)
  have e3 := count_f p 9 (by omega)
  rw [show ((9 : Nat) : Int) = 9 from rfl] at e1 e3
  simp only [e1, e3, Option.bind_some]
  unfold DecP
  cases hn : PlnL w.data.toList 9 with
  | none =>
    simp only [Option.isSome_none, Bool.false_eq_true, if_false]
    exact Ev.now _
  | some n =>
    obtain rfl := e2 n hn
    cases hm : CntL p.data.toList 9 with
    | none =>
      simp only [Option.isSome_some, pairO, Bool.false_eq_true, if_true, if_false]
      exact Ev.now _
    | some m =>
      obtain ⟨b1, b2, b3, b4⟩ := dec_bounds hn hm
      rw [data_length] at b2 b3 b4
      have hp9 := ten_le b3.2
      have hp0 : 0 < 10 ^ p.size := Nat.pow_pos (by omega)
      simp only [Option.isSome_some, pairO, if_true]
      refine Ev.bind (ten_cases (p := (p.size : Int)) (by omega) (by omega)).1 ?_
      rw [show ((p.size : Int)).toNat = p.size by omega, data_length, pow_nat]
      generalize 10 ^ p.size = T at *
      rw [w64 (n := v * (T : Int)) (by omega) (by omega), w64 (n := v * (T : Int) + m) (by omega) (by omega), w64 (n := -(v * (T : Int) + m)) (by omega) (by omega)]
      cases neg with
      | true =>
        simp only [if_true]
        refine Ev.bind (ev_num (by omega) (by omega) (by omega) (by omega) (by omega)) ?_
        rw [exc_num]
        exact Ev.now _
      | false =>
        simp only [Bool.false_eq_true, if_false]
        refine Ev.bind (ev_num (by omega) (by omega) (by omega) (by omega) (by omega)) ?_
        rw [exc_num]
        exact Ev.now _
def isSep (c : UInt8) : Bool := c == 46 || c == 47
def PlnO (b : Option (List UInt8)) : Option Int := match b with | none => some 1 | some r => PlnL r 10
def FracP (a : List UInt8) (b : Option (List UInt8)) (neg : Bool) : Int × Int × Int :=
  match PlnL a 10, PlnO b with
  | some n, some d => if (b.isSome = true → d > 1) ∧ ¬ (neg = true ∧ n = 0) ∧ Chk (if neg then -n else n) d = 0 then (if neg then -n else n, d, 0) else (0, 0, 1)
  | _, _ => (0, 0, 1)
def ParseL (l : List UInt8) (neg : Bool) : Int × Int × Int :=
  if l[l.findIdx isSep]? = some 46 then DecP (l.take (l.findIdx isSep)) (l.drop (l.findIdx isSep + 1)) neg
  else FracP (l.take (l.findIdx isSep)) (if l.findIdx isSep < l.length then some (l.drop (l.findIdx isSep + 1)) else none) neg
theorem ext_take (s : ByteArray) (i : Nat) : (s.extract 0 i).data.toList = s.data.toList.take i := by
  rw [ByteArray.data_extract, Array.toList_extract, List.extract_eq_take_drop, List.drop_zero, Nat.sub_zero]
theorem ext_drop (s : ByteArray) (i : Nat) : (s.extract i s.size).data.toList = s.data.toList.drop i := by
  rw [ByteArray.data_extract, Array.toList_extract, List.extract_eq_take_drop]
  exact List.take_of_length_le (by rw [List.length_drop, data_length]; omega)
theorem bt_eq (s : ByteArray) (i : Nat) (h : i < s.data.toList.length) (c : UInt8) : bt s (i : Int) = (c.toNat : Int) ↔ s.data.toList[i] = c := by
  rw [bt_list s i h]
  constructor
  · intro e
    exact UInt8.toNat_inj.mp (by omega)
  · intro e
    rw [e]
theorem parse_j3 (neg ok : Bool) (n d : Int) (h : ok = true → 0 ≤ n ∧ n ≤ 10000000000) : Ev (fun k => num_Parse.j3 k neg n ok d) (if ok = true ∧ ¬ (neg = true ∧ n = 0) ∧ Chk (if neg then -n else n) d = 0 then (if neg then -n else n, d, 0) else (0, 0, 1)) := by
  cases ok with
  | false =>
    rw [if_neg (fun h => absurd h.1 (by decide))]
    exact Ev.step (f := fun _ => some (0, 0, 1)) (fun k => by cases neg <;> rfl) (Ev.now _)
  | true =>
    have b := h rfl
    cases neg with
    | true =>
      refine Ev.step (f := fun k => if wrap64 (-n) = 0 then some (0, 0, 1) else (num_Check.f k (wrap64 (-n)) d).bind fun t => if t = 0 then some (wrap64 (-n), d, 0) else some (0, 0, 1)) (fun k => rfl) ?_
      rw [w64 (by omega) (by omega)]
      by_cases z : n = 0
      · subst z
        rw [if_neg (fun h => h.2.1 ⟨rfl, rfl⟩)]
        exact Ev.isNow fun k => if_pos rfl
      · have z' : ¬ -n = 0 := by omega
        simp only [z', if_false, z, and_false, not_false_eq_true, true_and, if_true]
        refine Ev.bind (ev_check _ _) ?_
        by_cases c : Chk (-n) d = 0
        · simp only [c, if_true]
          exact Ev.now _
        · simp only [c, if_false]
          exact Ev.now _
    | false =>
      refine Ev.step (f := fun k => (num_Check.f k n d).bind fun t => if t = 0 then some (n, d, 0) else some (0, 0, 1)) (fun k => rfl) ?_
      simp only [Bool.false_eq_true, false_and, not_false_eq_true, true_and, if_false]
      refine Ev.bind (ev_check _ _) ?_
      by_cases c : Chk n d = 0
      · simp only [c, if_true]
        exact Ev.now _
      · simp only [c, if_false]
        exact Ev.now _
theorem parse_j3C (neg ok : Bool) (n d : Int) (h : ok = true → 0 ≤ n ∧ n ≤ 10000000000) {C : Prop} [Decidable C] (hC : C ↔ ok = true ∧ ¬ (neg = true ∧ n = 0) ∧ Chk (if neg then -n else n) d = 0) : Ev (fun k => num_Parse.j3 k neg n ok d) (if C then (if neg then -n else n, d, 0) else (0, 0, 1)) := by
  have := parse_j3 neg ok n d h
  by_cases c : C
  · rw [if_pos c]
    rwa [if_pos (hC.mp c)] at this
  · rw [if_neg c]
    rwa [if_neg (fun w => c (hC.mpr w))] at this
theorem parse_no (neg : Bool) (n d : Int) : Ev (fun k => num_Parse.j3 k neg n false d) (0, 0, 1) := Ev.step (f := fun _ => some (0, 0, 1)) (fun k => by cases neg <;> rfl) (Ev.now _)
theorem pln_le {l : List UInt8} {n : Int} (h : PlnL l 10 = some n) : 0 ≤ n ∧ n ≤ 10000000000 := by
  have := (dig_plain (by omega) h).2
  have h2 : n < 10000000000 := this.2
  exact ⟨this.1, by omega⟩
theorem frac_ev (s : ByteArray) (hs : s.size ≤ 1000000) (neg : Bool) (i : Nat) (hi : i ≤ s.size) : Ev (fun k => num_Parse.j2 k s neg (i : Int) false) (FracP (s.data.toList.take i) (if i < s.size then some (s.data.toList.drop (i + 1)) else none) neg) := by
  obtain ⟨v, e1, e2⟩ := plain_f (s.extract 0 i) 10 (by omega)
  rw [ext_take] at e1 e2
  rw [show ((10 : Nat) : Int) = 10 from rfl] at e1
  have w1 : wrap64 ((i : Int) + 1) = ((i + 1 : Nat) : Int) := (w64 (by omega) (by omega)).trans (by omega)
  have st : ∀ k, num_Parse.j2 (k + 1) s neg (i : Int) false = if (i : Int) < (s.size : Int) then (num_plain.f (s.extract (i + 1) s.size) 10).bind fun b => (if (PlnL (s.data.toList.take i) 10).isSome = true then (if b.2 = true then num_Parse.j3 k neg v (decide (b.1 > 1)) b.1 else num_Parse.j3 k neg v false b.1) else num_Parse.j3 k neg v false b.1) else num_Parse.j3 k neg v (PlnL (s.data.toList.take i) 10).isSome 1 := fun k => by
    show (if 0 ≤ (i : Int) then (if (i : Int) ≤ (s.size : Int) then ((num_plain.f (s.extract 0 ((i : Int)).toNat) 10).bind fun a => if (i : Int) < (s.size : Int) then (if 0 ≤ (wrap64 ((i : Int) + 1)) then (if (wrap64 ((i : Int) + 1)) ≤ (s.size : Int) then ((num_plain.f (s.extract ((wrap64 ((i : Int) + 1)) : Int).toNat s.size) 10).bind fun b => (if a.2 = true then (if b.2 = true then (num_Parse.j3 k neg a.1 (decide (b.1 > 1)) b.1) else (num_Parse.j3 k neg a.1 false b.1)) else (num_Parse.j3 k neg a.1 false b.1))) else none) else none) else (num_Parse.j3 k neg a.1 a.2 1)) else none) else none) = _
    rw [if_pos (by omega), if_pos (by omega), Int.toNat_natCast, e1, Option.bind_some, w1, Int.toNat_natCast]
    by_cases c : (i : Int) < (s.size : Int)
    · rw [if_pos c, if_pos (by omega), if_pos (by omega), if_pos c]
    · rw [if_neg c, if_neg c]
  refine Ev.step st ?_
  by_cases c : i < s.size
  · have c' : (i : Int) < (s.size : Int) := by omega
    simp only [c', if_true, c]
    obtain ⟨v2, f1, f2⟩ := plain_f (s.extract (i + 1) s.size) 10 (by omega)
    rw [ext_drop] at f1 f2
    rw [show ((10 : Nat) : Int) = 10 from rfl] at f1
    simp only [f1, Option.bind_some]
    unfold FracP PlnO
    dsimp only
    cases hn : PlnL (s.data.toList.take i) 10 with
    | none =>
      simp only [Option.isSome_none, Bool.false_eq_true, if_false]
      exact parse_no neg v v2
    | some n =>
      obtain rfl := e2 n hn
      cases hd : PlnL (s.data.toList.drop (i + 1)) 10 with
      | none =>
        simp only [Option.isSome_some, Option.isSome_none, Bool.false_eq_true, if_false, if_true]
        exact parse_no neg v v2
      | some d =>
        obtain rfl := f2 d hd
        simp only [Option.isSome_some, if_true]
        exact parse_j3C neg (decide (v2 > 1)) v v2 (fun _ => pln_le hn) (by simp)
  · have c' : ¬ (i : Int) < (s.size : Int) := by omega
    simp only [c', if_false, c]
    unfold FracP PlnO
    dsimp only
    cases hn : PlnL (s.data.toList.take i) 10 with
    | none =>
      exact parse_no neg v 1
    | some n =>
      obtain rfl := e2 n hn
      exact parse_j3C neg true v 1 (fun _ => pln_le hn) (by simp)
theorem bt46 (s : ByteArray) (i : Nat) (h : i < s.data.toList.length) : bt s (i : Int) = 46 ↔ s.data.toList[i] = 46 := bt_eq s i h 46
theorem bt47 (s : ByteArray) (i : Nat) (h : i < s.data.toList.length) : bt s (i : Int) = 47 ↔ s.data.toList[i] = 47 := bt_eq s i h 47
theorem parse_dot (s : ByteArray) (hs : s.size ≤ 1000000) (neg : Bool) (i : Nat) (hi : i < s.size) : Ev (fun k => num_Parse.j2 k s neg (i : Int) true) (DecP (s.data.toList.take i) (s.data.toList.drop (i + 1)) neg) := by
  have w1 : wrap64 ((i : Int) + 1) = ((i + 1 : Nat) : Int) := (w64 (by omega) (by omega)).trans (by omega)
  refine Ev.step (f := fun k => (num_decimal.f k (s.extract 0 i) (s.extract (i + 1) s.size) neg).bind fun b => some (b.1, b.2.1, b.2.2)) (fun k => ?_) ?_
  · rw [num_Parse.j2, if_pos rfl, if_pos (by omega), if_pos (by omega), w1, if_pos (by omega), if_pos (by omega), Int.toNat_natCast, Int.toNat_natCast]
  · have := ev_decimal (s.extract 0 i) (s.extract (i + 1) s.size) neg
    rw [ext_take, ext_drop] at this
    exact ev_three this
theorem parse_at (s : ByteArray) (hs : s.size ≤ 1000000) (neg : Bool) (i : Nat) (hi : i ≤ s.size) : Ev (fun k => num_Parse.j1 k s neg (i : Int)) (if s.data.toList[i]? = some 46 then DecP (s.data.toList.take i) (s.data.toList.drop (i + 1)) neg else FracP (s.data.toList.take i) (if i < s.data.toList.length then some (s.data.toList.drop (i + 1)) else none) neg) := by
  rw [data_length]
  by_cases c : i < s.size
  · have c' : i < s.data.toList.length := by rwa [data_length]
    have hb := bt46 s i c'
    rw [List.getElem?_eq_getElem c']
    refine Ev.step (f := fun k => num_Parse.j2 k s neg (i : Int) (bt s (i : Int) == 46)) (fun k => ?_) ?_
    · show (if (i : Int) < (s.size : Int) then (if 0 ≤ (i : Int) then num_Parse.j2 k s neg (i : Int) (bt s (i : Int) == 46) else none) else _) = _
      rw [if_pos (by omega), if_pos (by omega)]
    · by_cases z : s.data.toList[i] = 46
      · rw [if_pos (congrArg some z), beq_iff_eq.mpr (hb.mpr z)]
        exact parse_dot s hs neg i c
      · rw [if_neg (fun h => z (Option.some.inj h)), beq_eq_false_iff_ne.mpr (fun h => z (hb.mp h))]
        exact frac_ev s hs neg i hi
  · have c' : ¬ i < s.data.toList.length := by rwa [data_length]
    rw [List.getElem?_eq_none (Nat.le_of_not_lt c'), if_neg (fun h => by cases h)]
    refine Ev.step (f := fun k => num_Parse.j2 k s neg (i : Int) false) (fun k => ?_) (frac_ev s hs neg i hi)
    show (if (i : Int) < (s.size : Int) then _ else num_Parse.j2 k s neg (i : Int) false) = _
    rw [if_neg (by omega)]
theorem parse_l0 (s : ByteArray) (neg : Bool) (i : Nat) (k : Nat) (hi : i < s.size) : num_Parse.l0 (k + 1) s neg (i : Int) = if bt s (i : Int) = 46 then num_Parse.j1 k s neg (i : Int) else if bt s (i : Int) = 47 then num_Parse.j1 k s neg (i : Int) else num_Parse.l0 k s neg (wrap64 ((i : Int) + 1)) := by
  show (if (i : Int) < (s.size : Int) then (if 0 ≤ (i : Int) then (if bt s (i : Int) = 46 then num_Parse.j1 k s neg (i : Int) else if bt s (i : Int) = 47 then num_Parse.j1 k s neg (i : Int) else num_Parse.l0 k s neg (wrap64 ((i : Int) + 1))) else none) else num_Parse.j1 k s neg (i : Int)) = _
  rw [if_pos (by omega), if_pos (by omega)]
theorem sep_bt (s : ByteArray) (i : Nat) (h : i < s.data.toList.length) : isSep s.data.toList[i] = true ↔ bt s (i : Int) = 46 ∨ bt s (i : Int) = 47 := by
  rw [bt46 s i h, bt47 s i h]
  unfold isSep
  simp
theorem parse_loop (s : ByteArray) (hs : s.size ≤ 1000000) (neg : Bool) (R : Int × Int × Int) (a : Nat) (ha : a ≤ s.size) (hat : ∀ h : a < s.data.toList.length, isSep s.data.toList[a] = true) (hno : ∀ (i : Nat) (h : i < s.data.toList.length), i < a → isSep s.data.toList[i] = false) (hR : Ev (fun k => num_Parse.j1 k s neg (a : Int)) R) :
    ∀ (m i : Nat), i + m = a → Ev (fun k => num_Parse.l0 k s neg (i : Int)) R := by
  intro m
  induction m with
  | zero =>
    intro i hi
    obtain rfl : i = a := by omega
    refine Ev.step (f := fun k => num_Parse.j1 k s neg (i : Int)) (fun k => ?_) hR
    by_cases c : i < s.size
    · rw [parse_l0 s neg i k c]
      have c' : i < s.data.toList.length := by rwa [data_length]
      rcases (sep_bt s i c').mp (hat c') with z | z
      · rw [if_pos z]
      · rw [if_pos z]
        split <;> rfl
    · show (if (i : Int) < (s.size : Int) then _ else num_Parse.j1 k s neg (i : Int)) = _
      rw [if_neg (by omega)]
  | succ m ih =>
    intro i hi
    have hlt : i < s.size := by omega
    have hlt' : i < s.data.toList.length := by rwa [data_length]
    have hn := hno i hlt' (by omega)
    have nb : ¬ (bt s (i : Int) = 46 ∨ bt s (i : Int) = 47) := fun h => by
      rw [(sep_bt s i hlt').mpr h] at hn
      cases hn
    refine Ev.step (f := fun k => num_Parse.l0 k s neg ((i + 1 : Nat) : Int)) (fun k => ?_) (ih (i + 1) (by omega))
    rw [parse_l0 s neg i k hlt, if_neg (fun h => nb (Or.inl h)), if_neg (fun h => nb (Or.inr h)), w64 (by omega) (by omega)]
    rfl
theorem parse_rest (s : ByteArray) (hs : s.size ≤ 1000000) (neg : Bool) : Ev (fun k => num_Parse.l0 k s neg 0) (ParseL s.data.toList neg) := by
  have hle : s.data.toList.findIdx isSep ≤ s.size := by
    have := List.findIdx_le_length (p := isSep) (xs := s.data.toList)
    rwa [data_length] at this
  exact parse_loop s hs neg _ _ hle (fun h => List.findIdx_getElem (w := h)) (fun i h hi => List.not_of_lt_findIdx hi) (parse_at s hs neg _ hle) _ 0 (Nat.zero_add _)
/-- a byte that is no digit -/
theorem VG_bad : ∀ (l : List UInt8) (c : UInt8) (n : Int), c ∈ l → ¬ (48 ≤ (c.toNat : Int) ∧ (c.toNat : Int) ≤ 57) → VG l n = none := by
  intro l
  induction l with
  | nil => intro c n h; exact absurd h (by simp)
  | cons a l ih =>
    intro c n h hc
    unfold VG
    by_cases d : 48 ≤ (a.toNat : Int) ∧ (a.toNat : Int) ≤ 57
    · rw [if_pos d]
      rcases List.mem_cons.mp h with rfl | h
      · exact absurd d hc
      · exact ih c _ h hc
    · rw [if_neg d]
/-- what was read, of a sign, digits, and digits behind a slash -/
def Txt (a : List UInt8) (b : Option (List UInt8)) (neg : Bool) : List UInt8 := (if neg then [45] else []) ++ (a ++ (match b with | none => [] | some r => 47 :: r))
theorem bytes_back (l : List UInt8) : (l.map (fun c => (c.toNat : Int))).map (fun n => UInt8.ofNat n.toNat) = l := by
  rw [List.map_map]
  conv => rhs; rw [← List.map_id l]
  apply List.map_congr_left
  intro c _
  simp
theorem told_same {a : List UInt8} {b : Option (List UInt8)} {neg : Bool} {n d : Int} (hn : PlnL a 10 = some n) (hd : PlnO b = some d) (hd1 : 1 ≤ d) :
    (strOfNums (PrintL (if neg then -n else n) d)).data.toList = Txt a b neg ↔ (b.isSome = true → d > 1) ∧ ¬ (neg = true ∧ n = 0) := by
  obtain ⟨e1, n0, _⟩ := dig_plain (by omega) hn
  have ab : (if neg then -n else n).natAbs = n.toNat := by cases neg <;> simp <;> omega
  rw [strOfNums_data]
  unfold PrintL Txt
  rw [ab, e1]
  simp only [List.map_append, bytes_back]
  cases b with
  | none =>
    obtain rfl := Option.some.inj hd
    simp only [show ¬ ((1 : Int) > 1) by decide, if_false, List.map_nil, List.append_nil, Option.isSome_none, Bool.false_eq_true, false_implies, true_and]
    cases neg with
    | false => simp only [Bool.false_eq_true, if_false, false_and, not_false_eq_true, iff_true]; rw [if_neg (by omega)]; rfl
    | true =>
      simp only [if_true, true_and]
      by_cases z : n = 0
      · subst z
        simp only [Int.neg_zero, Int.lt_irrefl, if_false, List.map_nil, List.nil_append, not_true_eq_false, iff_false]
        intro h
        have := congrArg List.length h
        simp at this
      · rw [if_pos (by omega)]
        simp only [z, not_false_eq_true, iff_true]
        rfl
  | some r =>
    have e2 := (dig_plain (by omega) hd).1
    rw [show d.natAbs = d.toNat by omega, e2]
    simp only [Option.isSome_some, forall_const]
    by_cases g : d > 1
    · simp only [g, if_true, true_and, List.map_cons, bytes_back]
      cases neg with
      | false => simp only [Bool.false_eq_true, if_false, false_and, not_false_eq_true, iff_true]; rw [if_neg (by omega)]; rfl
      | true =>
        simp only [if_true, true_and]
        by_cases z : n = 0
        · subst z
          simp only [Int.neg_zero, Int.lt_irrefl, if_false, List.map_nil, List.nil_append, not_true_eq_false, iff_false]
          intro h
          have := congrArg List.length h
          simp at this
        · rw [if_pos (by omega)]
          simp only [z, not_false_eq_true, iff_true]
          rfl
    · simp only [g, if_false, false_and, iff_false, List.map_nil, List.append_nil]
      intro h
      have := congrArg List.length h
      cases neg with
      | false => rw [if_neg (by simp; omega)] at this; simp at this
      | true =>
        simp only [if_true, List.length_append, List.length_map, List.length_cons, List.length_nil] at this
        split at this
        · simp at this
        · simp at this
          omega
def ParseR (l : List UInt8) : Int × Int × Int := if l.head? = some 45 then ParseL l.tail true else ParseL l false
theorem one_prefix (l : List UInt8) : (l.take 1 == [45]) = decide (l.head? = some 45) := by
  cases l with
  | nil => rfl
  | cons a l => rw [Bool.eq_iff_iff]; simp
theorem cut_minus (s : ByteArray) : strings_CutPrefix.f s (⟨#[45]⟩ : ByteArray) = some (if s.data.toList.head? = some 45 then (s.extract 1 s.size, true) else (s, false)) := by
  have e1 : (((⟨#[45]⟩ : ByteArray).size : Nat) : Int) = 1 := rfl
  have hp : stringslite_HasPrefix.f s (⟨#[45]⟩ : ByteArray) = some (decide (s.data.toList.head? = some 45)) := by
    unfold stringslite_HasPrefix.f
    rw [e1]
    by_cases c : (s.size : Int) ≥ 1
    · rw [if_pos c, if_pos (by omega), if_pos (by omega), ByteArray.toList_eq, ByteArray.toList_eq, ext_take, show ((1 : Int)).toNat = 1 from rfl]
      exact congrArg some (one_prefix _)
    · rw [if_neg c]
      have hl : s.data.toList = [] := List.length_eq_zero_iff.mp (by rw [data_length]; omega)
      rw [hl]
      rfl
  unfold strings_CutPrefix.f stringslite_CutPrefix.f
  rw [hp, e1, Option.bind_some]
  by_cases c : s.data.toList.head? = some 45
  · have : 0 < s.size := by
      rw [← data_length]
      cases h : s.data.toList with
      | nil => rw [h] at c; cases c
      | cons a l => simp
    rw [decide_eq_true c, if_pos rfl, if_pos (by omega), if_pos (by omega), if_pos c]
    rfl
  · rw [decide_eq_false c, if_neg (by simp), if_neg c]
    rfl
theorem ev_Parse (s : ByteArray) (hs : s.size ≤ 1000000) : Ev (fun k => num_Parse.f k s) (ParseR s.data.toList) := by
  unfold num_Parse.f
  rw [cut_minus]
  simp only [Option.bind_some]
  unfold ParseR
  by_cases c : s.data.toList.head? = some 45
  · simp only [c, if_true]
    have := parse_rest (s.extract 1 s.size) (by rw [← data_length, ext_drop, List.length_drop, data_length]; omega) true
    rw [ext_drop, List.drop_one] at this
    exact this
  · simp only [c, if_false]
    exact parse_rest s hs false
theorem Low_ok {n d : Int} (h0 : d ≠ 0) (h : Fits n d) : Ok (Rn n d) (Rd n d) := by
  have hg := gcd_pos (n := n) h0
  have e : Int.gcd (if d < 0 then -n else n) (if d < 0 then -d else d) = Int.gcd n d := by
    split
    · rw [Int.neg_gcd, Int.gcd_neg]
    · rfl
  have g1 : Int.gcd (Rn n d) (Rd n d) = 1 := by
    unfold Rn Rd
    rw [← e]
    exact Int.gcd_ediv_gcd_ediv_gcd (by rw [e]; exact hg)
  have hd : 1 ≤ Rd n d := by
    unfold Rd
    have d2 : ((Int.gcd n d : Nat) : Int) ∣ (if d < 0 then -d else d) := by
      split
      · exact Int.dvd_neg.mpr (Int.gcd_dvd_right ..)
      · exact Int.gcd_dvd_right ..
    have := Int.ediv_pos_of_pos_of_dvd (a := if d < 0 then -d else d) (b := (Int.gcd n d : Int)) (by split <;> omega) (by omega) d2
    omega
  exact ⟨hd, h.1, h.2.1, h.2.2, g1⟩
def by8 (l : List Int) : List UInt8 := l.map (fun n => UInt8.ofNat n.toNat)
theorem son_by8 (l : List Int) : (strOfNums l).data.toList = by8 l := strOfNums_data l
theorem by8_append (a b : List Int) : by8 (a ++ b) = by8 a ++ by8 b := List.map_append
theorem VG_PD : ∀ (i m n : Nat), n < 10 ^ i → VG (by8 (PD i m n)) 0 = some (n : Int) := by
  intro i
  induction i with
  | zero =>
    intro m n h
    have h0 : n = 0 := by simpa using h
    subst h0
    rfl
  | succ i ih =>
    intro m n h
    by_cases c : n > 0 ∨ m > 0
    · have e : PD (i + 1) m n = PD i (m - 1) (n / 10) ++ [48 + ((n % 10 : Nat) : Int)] := by
        show (if _ then _ else _) = _
        rw [if_pos c]
      rw [e, by8_append, VG_append, ih (m - 1) (n / 10) (by rw [Nat.pow_succ] at h; omega), Option.bind_some]
      have hc : (UInt8.ofNat (48 + ((n % 10 : Nat) : Int)).toNat).toNat = 48 + n % 10 := by
        rw [UInt8.toNat_ofNat', Nat.mod_eq_of_lt (by omega)]
        omega
      show (if 48 ≤ (((UInt8.ofNat (48 + ((n % 10 : Nat) : Int)).toNat).toNat : Nat) : Int) ∧ _ then _ else none) = _
      rw [hc, if_pos (by omega)]
      show some _ = _
      congr 1
      omega
    · have h0 : n = 0 := by omega
      have h1 : m = 0 := by omega
      subst h0 h1
      rw [PD_nil]
      rfl
theorem PD_head : ∀ (i n : Nat), 0 < n → n < 10 ^ i → PD i 0 n ≠ [] ∧ (by8 (PD i 0 n)).head? ≠ some 48 := by
  intro i
  induction i with
  | zero => intro n h0 h; simp at h; omega
  | succ i ih =>
    intro n h0 h
    have e : PD (i + 1) 0 n = PD i 0 (n / 10) ++ [48 + ((n % 10 : Nat) : Int)] := by
      show (if _ then _ else _) = _
      rw [if_pos (by omega)]
    rw [e]
    refine ⟨by simp, ?_⟩
    by_cases z : 0 < n / 10
    · obtain ⟨h1, h2⟩ := ih (n / 10) z (by rw [Nat.pow_succ] at h; omega)
      rw [by8_append, List.head?_append]
      cases hq : PD i 0 (n / 10) with
      | nil => exact absurd hq h1
      | cons a l => rw [hq] at h2; exact h2
    · have z' : n / 10 = 0 := by omega
      rw [z', PD_nil]
      show some (UInt8.ofNat (48 + ((n % 10 : Nat) : Int)).toNat) ≠ some 48
      intro w
      have := congrArg UInt8.toNat (Option.some.inj w)
      rw [UInt8.toNat_ofNat', Nat.mod_eq_of_lt (by omega)] at this
      have h48 : (48 : UInt8).toNat = 48 := rfl
      omega
theorem Dig_ne (n : Nat) : Dig 1 n ≠ [] := by
  show (if _ then _ else _ : List Int) ≠ []
  rw [if_pos (by omega)]
  simp
theorem Dig_VG (n m : Nat) (h : n < 10 ^ 20) : VG (by8 (Dig m n)) 0 = some (n : Int) := VG_PD 20 m n h
theorem Dig_pln (n most : Nat) (h : n < 10 ^ most) (h1 : 1 ≤ most) (hm : most ≤ 18) : PlnL (by8 (Dig 1 n)) most = some (n : Int) := by
  have h20 : n < 10 ^ 20 := Nat.lt_of_lt_of_le h (Nat.pow_le_pow_right (by decide) (by omega))
  have hl := PD_len_le 20 1 n most h h1
  have hn := List.length_pos_iff.mpr (Dig_ne n)
  have hlen : (by8 (Dig 1 n)).length = (Dig 1 n).length := List.length_map ..
  have hc : CntL (by8 (Dig 1 n)) most = some (n : Int) := by
    unfold CntL
    rw [hlen, if_pos ⟨hn, hl⟩]
    exact Dig_VG n 1 h20
  unfold PlnL
  rw [hc, if_pos]
  by_cases z : n = 0
  · left
    subst z
    rfl
  · right
    have := (PD_head 20 n (by omega) h20).2
    rw [PD_one 20 n (by omega)] at this
    exact this
theorem Dig_digit {n m : Nat} (h : n < 10 ^ 20) {c : UInt8} (hc : c ∈ by8 (Dig m n)) : 48 ≤ (c.toNat : Int) ∧ (c.toNat : Int) ≤ 57 := by
  refine Classical.byContradiction fun w => ?_
  have := VG_bad _ c 0 hc w
  rw [Dig_VG n m h] at this
  cases this
theorem digit_not_sep {c : UInt8} (h : 48 ≤ (c.toNat : Int) ∧ (c.toNat : Int) ≤ 57) : isSep c = false := by
  unfold isSep
  rw [Bool.or_eq_false_iff]
  refine ⟨beq_eq_false_iff_ne.mpr fun e => ?_, beq_eq_false_iff_ne.mpr fun e => ?_⟩
  · subst e
    exact absurd h.1 (by decide)
  · subst e
    exact absurd h.1 (by decide)
theorem sep_at {A : List UInt8} (hA : ∀ c ∈ A, isSep c = false) (c : UInt8) (R : List UInt8) (hc : isSep c = true) : (A ++ c :: R).findIdx isSep = A.length := by
  induction A with
  | nil => simp [List.findIdx_cons, hc]
  | cons a A ih =>
    rw [List.cons_append, List.findIdx_cons, hA a (List.mem_cons_self ..), ih (fun x hx => hA x (List.mem_cons_of_mem _ hx))]
    rfl
theorem sep_none {A : List UInt8} (hA : ∀ c ∈ A, isSep c = false) : A.findIdx isSep = A.length := by
  induction A with
  | nil => rfl
  | cons a A ih =>
    rw [List.findIdx_cons, hA a (List.mem_cons_self ..), ih (fun x hx => hA x (List.mem_cons_of_mem _ hx))]
    rfl
theorem at_len (A : List UInt8) (c : UInt8) (R : List UInt8) : (A ++ c :: R)[A.length]? = some c := by
  rw [List.getElem?_append_right (Nat.le_refl _), Nat.sub_self]
  rfl
theorem drop_len (A : List UInt8) (c : UInt8) (R : List UInt8) : (A ++ c :: R).drop (A.length + 1) = R := by
  rw [← List.drop_drop, List.drop_left]
  rfl
theorem take_len (A : List UInt8) (c : UInt8) (R : List UInt8) : (A ++ c :: R).take A.length = A := List.take_left
theorem ParseL_slash {A : List UInt8} (hA : ∀ c ∈ A, isSep c = false) (R : List UInt8) (neg : Bool) : ParseL (A ++ 47 :: R) neg = FracP A (some R) neg := by
  unfold ParseL
  rw [sep_at hA 47 R (by decide), at_len, if_neg (by decide), take_len, drop_len, if_pos (by rw [List.length_append, List.length_cons]; omega)]
theorem ParseL_none {A : List UInt8} (hA : ∀ c ∈ A, isSep c = false) (neg : Bool) : ParseL A neg = FracP A none neg := by
  unfold ParseL
  rw [sep_none hA, List.getElem?_eq_none (Nat.le_refl _), if_neg (fun h => by cases h), if_neg (Nat.lt_irrefl _), List.take_length]
/-- a sign and what begins with no sign -/
theorem ParseR_sign (neg : Bool) (X : List UInt8) (h : X.head? ≠ some 45) : ParseR ((if neg then [45] else []) ++ X) = ParseL X neg := by
  unfold ParseR
  cases neg with
  | true => exact if_pos rfl
  | false => exact if_neg h
theorem Dig_head {n : Nat} (h : n < 10 ^ 20) (R : List UInt8) : (by8 (Dig 1 n) ++ R).head? ≠ some 45 := by
  cases hq : by8 (Dig 1 n) with
  | nil =>
    have : (Dig 1 n).length = 0 := by
      have := congrArg List.length hq
      rwa [by8, List.length_map] at this
    exact absurd (List.length_eq_zero_iff.mp this) (Dig_ne n)
  | cons a l =>
    have hd := Dig_digit (m := 1) h (c := a) (by rw [hq]; exact List.mem_cons_self ..)
    intro w
    have : a = 45 := Option.some.inj w
    subst this
    exact absurd hd.1 (by decide)
theorem sign_by8 (n : Int) : by8 (if n < 0 then [45] else []) = if decide (n < 0) then [45] else [] := by
  by_cases c : n < 0
  · rw [if_pos c, decide_eq_true c]; rfl
  · rw [if_neg c, decide_eq_false c]; rfl
theorem print_back {n d : Int} (h : Ok n d) : ParseR (by8 (PrintL n d)) = (n, d, 0) := by
  have h1 := h.d1; have h2 := h.d2; have h3 := h.n1; have h4 := h.n2
  have pn := Dig_pln n.natAbs 10 (by omega) (by omega) (by omega)
  have pd := Dig_pln d.natAbs 10 (by omega) (by omega) (by omega)
  have ns : ∀ c ∈ by8 (Dig 1 n.natAbs), isSep c = false := fun c hc => digit_not_sep (Dig_digit (by omega) hc)
  have back : (if decide (n < 0) then -((n.natAbs : Nat) : Int) else ((n.natAbs : Nat) : Int)) = n := by
    by_cases c : n < 0
    · rw [decide_eq_true c, if_pos rfl]; omega
    · rw [decide_eq_false c, if_neg (by decide)]; omega
  have nz : ¬ (decide (n < 0) = true ∧ ((n.natAbs : Nat) : Int) = 0) := fun w => by
    have := of_decide_eq_true w.1
    omega
  unfold PrintL
  rw [by8_append, by8_append, sign_by8]
  by_cases z : d > 1
  · rw [if_pos z]
    show ParseR (_ ++ (_ ++ 47 :: by8 (Dig 1 d.natAbs))) = _
    rw [ParseR_sign _ _ (Dig_head (by omega) _), ParseL_slash ns]
    unfold FracP PlnO
    dsimp only
    rw [pn, pd]
    dsimp only
    rw [back, show ((d.natAbs : Nat) : Int) = d by omega, if_pos ⟨fun _ => z, nz, Chk_ok.mpr h⟩]
  · rw [if_neg z]
    show ParseR (_ ++ (_ ++ [])) = _
    rw [ParseR_sign _ _ (Dig_head (by omega) _), List.append_nil, ParseL_none ns]
    obtain rfl : d = 1 := by omega
    unfold FracP PlnO
    dsimp only
    rw [pn]
    dsimp only
    rw [back, if_pos ⟨fun w => absurd w (by decide), nz, Chk_ok.mpr h⟩]
/-- what may be said of an answer of Parse -/
def Fine (l : List UInt8) (r : Int × Int × Int) : Prop := (r.2.2 ≠ 0 ∧ r.1 = 0 ∧ r.2.1 = 0) ∨ (r.2.2 = 0 ∧ Ok r.1 r.2.1 ∧ ((46 : UInt8) ∈ l ∨ by8 (PrintL r.1 r.2.1) = l))
theorem Fine_no (l : List UInt8) (e : Int) (h : e ≠ 0) : Fine l (0, 0, e) := Or.inl ⟨h, rfl, rfl⟩
theorem Fine_low {n d : Int} (l : List UInt8) (h0 : d ≠ 0) (h : (46 : UInt8) ∈ l) : Fine l (Low n d) := by
  unfold Low
  by_cases c : Fits n d
  · rw [if_pos c]
    exact Or.inr ⟨rfl, Low_ok h0 c, Or.inl h⟩
  · rw [if_neg c]
    exact Fine_no l 8 (by decide)
theorem Fine_dec {w p : List UInt8} (l : List UInt8) (neg : Bool) (h : (46 : UInt8) ∈ l) : Fine l (DecP w p neg) := by
  unfold DecP
  split
  · refine Fine_low l ?_ h
    have : (0 : Int) < 10 ^ p.length := Int.pow_pos (by decide)
    omega
  · exact Fine_no l 1 (by decide)
theorem Fine_frac {a : List UInt8} {b : Option (List UInt8)} (l : List UInt8) (neg : Bool) (h : l = Txt a b neg) : Fine l (FracP a b neg) := by
  have no := Fine_no l 1 (by decide)
  unfold FracP
  cases hn : PlnL a 10 with
  | none => exact no
  | some n =>
    cases hd : PlnO b with
    | none => exact no
    | some d =>
      dsimp only
      by_cases c : (b.isSome = true → d > 1) ∧ ¬ (neg = true ∧ n = 0) ∧ Chk (if neg = true then -n else n) d = 0
      · rw [if_pos c]
        refine Or.inr ⟨rfl, Chk_ok.mp c.2.2, Or.inr ?_⟩
        have := (told_same (neg := neg) hn hd (Chk_ok.mp c.2.2).d1).mpr ⟨c.1, c.2.1⟩
        rw [h, ← this, son_by8]
      · rw [if_neg c]
        exact no
theorem Fine_parse (l : List UInt8) (neg : Bool) : Fine ((if neg then [45] else []) ++ l) (ParseL l neg) := by
  unfold ParseL
  by_cases c : l[l.findIdx isSep]? = some 46
  · rw [if_pos c]
    obtain ⟨h1, h2⟩ := List.getElem?_eq_some_iff.mp c
    exact Fine_dec _ neg (List.mem_append_right _ (by rw [← h2]; exact List.getElem_mem h1))
  · rw [if_neg c]
    refine Fine_frac _ neg ?_
    unfold Txt
    congr 1
    by_cases z : l.findIdx isSep < l.length
    · have is := List.findIdx_getElem (p := isSep) (xs := l) (w := z)
      have e47 : l[l.findIdx isSep] = 47 := by
        have is : (l[l.findIdx isSep] == 46 || l[l.findIdx isSep] == 47) = true := is
        rcases Bool.or_eq_true_iff.mp is with h | h
        · exact absurd (List.getElem?_eq_some_iff.mpr ⟨z, beq_iff_eq.mp h⟩) c
        · exact beq_iff_eq.mp h
      rw [if_pos z]
      show _ = _ ++ (47 :: _)
      conv => lhs; rw [← List.take_append_drop (l.findIdx isSep) l, List.drop_eq_getElem_cons z, e47]
    · rw [if_neg z]
      show _ = _ ++ []
      rw [List.append_nil, List.take_of_length_le (by omega)]
theorem Fine_ParseR (l : List UInt8) : Fine l (ParseR l) := by
  unfold ParseR
  by_cases c : l.head? = some 45
  · rw [if_pos c]
    have := Fine_parse l.tail true
    have e : (if true = true then [(45 : UInt8)] else []) ++ l.tail = l := by
      cases l with
      | nil => cases c
      | cons a l => rw [Option.some.inj c]; rfl
    rwa [e] at this
  · rw [if_neg c]
    exact Fine_parse l false
set_option maxRecDepth 100000 in
theorem summed_at : withylaw01_summed.f 60 = some true := by kernel_rfl
theorem ev_summed : Ev (fun k => withylaw01_summed.f k) true := Ev.of (fun k => withylaw01_summed.mono k) summed_at
theorem back_loop (x1 x11 : ByteArray) (h1 : x1.size ≤ 200) (x y : Int) : ∀ (m i : Nat) (b : Bool), i + m = x1.size → (b = true ∨ (46 : UInt8) ∈ x1.data.toList.drop i ∨ x11.toList = x1.toList) → Ev (fun k => withylaw01_NumBack.l0 k x1 x11 0 0 b (i : Int) x y x y) true := by
  have hs := Ev.bind ev_summed (Ev.now true)
  intro m
  induction m with
  | zero =>
    intro i b hi hb
    rw [List.drop_of_length_le (by rw [data_length]; omega)] at hb
    have st : ∀ k, withylaw01_NumBack.l0 (k + 1) x1 x11 0 0 b (i : Int) x y x y = if b = true then ((withylaw01_summed.f k).bind fun t => some t) else (if x11.toList = x1.toList then ((withylaw01_summed.f k).bind fun t => some t) else some false) := fun k => by
      rw [withylaw01_NumBack.l0, if_neg (by omega), if_pos rfl, if_pos rfl, if_pos (by simp)]
    refine Ev.step st ?_
    by_cases c : b = true
    · simp only [c, if_true]
      exact hs
    · rcases hb with hb | hb | hb
      · exact absurd hb c
      · exact absurd hb (by simp)
      · simp only [c, if_false, hb, if_true]
        exact hs
  | succ m ih =>
    intro i b hi hb
    have hlt : i < x1.data.toList.length := by rw [data_length]; omega
    have w1 : wrap64 ((i : Int) + 1) = ((i + 1 : Nat) : Int) := (w64 (by omega) (by omega)).trans (by omega)
    by_cases c : b = true
    · subst c
      refine Ev.step (f := fun k => withylaw01_NumBack.l0 k x1 x11 0 0 true ((i + 1 : Nat) : Int) x y x y) (fun k => ?_) (ih (i + 1) true (by omega) (Or.inl rfl))
      rw [withylaw01_NumBack.l0, if_pos (by omega), if_pos rfl, w1]
    · refine Ev.step (f := fun k => withylaw01_NumBack.l0 k x1 x11 0 0 ((bt x1 (i : Int)) == 46) ((i + 1 : Nat) : Int) x y x y) (fun k => ?_) (ih (i + 1) _ (by omega) ?_)
      · rw [withylaw01_NumBack.l0, if_pos (by omega), if_neg c, if_pos (by omega), w1]
      · rcases hb with hb | hb | hb
        · exact absurd hb c
        · rw [List.drop_eq_getElem_cons hlt] at hb
          rcases List.mem_cons.mp hb with hb | hb
          · left
            exact beq_iff_eq.mpr ((bt46 x1 i hlt).mpr hb.symm)
          · exact Or.inr (Or.inl hb)
        · exact Or.inr (Or.inr hb)
theorem print_parse {n d : Int} (h : Ok n d) : Ev (fun k => num_Print.f k n d) (strOfNums (PrintL n d), 0) ∧ Ev (fun k => num_Parse.f k (strOfNums (PrintL n d))) (n, d, 0) := by
  have l1 := Dig_len 1 n.natAbs
  have l2 := Dig_len 1 d.natAbs
  have e1 := ev_Print n d
  have e2 := ev_Parse (strOfNums (PrintL n d)) (by
    rw [strOfNums_size]
    unfold PrintL
    rw [List.length_append, List.length_append]
    have : (if n < 0 then [(45 : Int)] else []).length ≤ 1 := by split <;> simp
    have : (if d > 1 then 47 :: Dig 1 d.natAbs else []).length ≤ 21 := by split <;> simp; omega
    omega)
  unfold PrintR at e1
  rw [if_pos (Chk_ok.mpr h)] at e1
  rw [son_by8, print_back h] at e2
  exact ⟨e1, e2⟩
theorem back_j0 (s : ByteArray) (h1 : s.size ≤ 200) : Ev (fun k => withylaw01_NumBack.j0 k s) true := by
  refine Ev.step (f := fun k => (num_Parse.f k s).bind fun r => (if r.2.2 = 0 then ((num_Print.f k r.1 r.2.1).bind fun t => ((num_Parse.f k t.1).bind fun u => (withylaw01_NumBack.l0 k s t.1 t.2 u.2.2 false 0 r.1 r.2.1 u.1 u.2.1))) else (if (r.1 == 0 && (r.2.1 == 0)) = true then ((withylaw01_summed.f k).bind fun t518 => (some t518)) else (some false)))) (fun k => rfl) ?_
  refine Ev.bind (ev_Parse s (by omega)) ?_
  rcases Fine_ParseR s.data.toList with ⟨e, z1, z2⟩ | ⟨e, ok, hb⟩
  · simp only [e, if_false, z1, z2, beq_self_eq_true, Bool.and_self, if_true]
    exact Ev.bind ev_summed (Ev.now _)
  · simp only [e, if_true]
    obtain ⟨p1, p2⟩ := print_parse ok
    refine Ev.bind p1 (Ev.bind p2 ?_)
    refine back_loop s _ h1 _ _ s.size 0 false (by omega) (Or.inr ?_)
    rw [List.drop_zero, ByteArray.toList_eq, ByteArray.toList_eq, son_by8]
    exact hb
theorem withylaw01_NumBack.ev (a0_0 a0_1 : Int) (a1 : ByteArray) : Ev (fun k => withylaw01_NumBack.f k a0_0 a0_1 a1) true := by
  unfold withylaw01_NumBack.f
  by_cases c : (a1.size : Int) > 200
  · simp only [c, if_true]
    exact Ev.bind ev_summed (Ev.now _)
  · simp only [c, if_false]
    have j := back_j0 a1 (by omega)
    refine Ev.bind (ev_rcheck a0_0 a0_1) ?_
    by_cases z : Chk a0_0 a0_1 = 0
    · obtain ⟨p1, p2⟩ := print_parse (Chk_ok.mp z)
      simp only [z, if_true]
      refine Ev.bind p1 (Ev.bind p2 ?_)
      simp only [if_true, beq_self_eq_true, Bool.not_true, Bool.or_self, Bool.false_eq_true, if_false]
      exact j
    · simp only [z, if_false]
      exact j
theorem withylaw01_NumBack.pure (a0_0 a0_1 : Int) (a1 : ByteArray) (_ : -9223372036854775808 ≤ a0_0 ∧ a0_0 ≤ 9223372036854775807) (_ : -9223372036854775808 ≤ a0_1 ∧ a0_1 ≤ 9223372036854775807) (_ : a1.size ≤ 140737488351232) : ∃ k, withylaw01_NumBack.f k a0_0 a0_1 a1 = some true :=
  (withylaw01_NumBack.ev a0_0 a0_1 a1).rounds
end Go.Proofs.Ytakcdoahpbeckaa.H
