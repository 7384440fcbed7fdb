/- The statement NumUnique: the law returns true: Of gives back the number that Terms took apart, and Terms gives back each list that Of takes; each argument reads afterwards as before. Conditions: none: whatever the input is, and whatever the machine's state (lists of more than 60 terms are let pass by the law itself). -/
import Derived.Test.YtakcdoahpbeckaaRows
import Derived.Test.YtakcdoahpbeckaaKNumUnique5
import Derived.WalkKit
import Derived.ProofKit
import Derived.OpenShut
import Derived.ShutString
import Derived.ChangeOld
import Derived.Below
import Derived.SizedLaws
import Derived.Lib.SmallJoins
import Derived.Test.YtakcdoahpbeckaaWSized
namespace Go.Proofs.Ytakcdoahpbeckaa.numUnique
open Go.ChangeShapes Go.WideShapes Go.ChangeAt Go.RowKit Go.Joins
open Go.ChangeMaps (open_string shut_string)
theorem own : ownKnob Try.prog.godebug = none := by kernel_rfl
theorem cells23 : Try.prog.cellsOf 23 = 2 := by kernel_rfl
theorem laidOut : laidOutB Try.prog = true := by kernel_rfl
/-- a list of whole numbers, as the walk wants it -/
theorem open_terms {H : Type} {enc : TypeId × Value → H} {W : World} {base fuel : Nat} {cs : List Value} {x : DataW H × List MemPlace} (h : DataW.trod enc Try.prog W base (fun _ => true) true fuel 55 cs = some x) : ∃ (a : Option Addr) (cap : Nat) (zs : List Int), cs = [.slice a zs.length cap] ∧ zs.length ≤ cap ∧ Go.Proofs.YtakcdoahpbeckaaW.PrintWords.Kd.C (Go.Proofs.YtakcdoahpbeckaaW.PrintWords.Kd.int .i64) W a zs.length zs := by
  rcases open_ints Try.underlying55 Try.underlying3 (by kernel_rfl) h with ⟨hcs, _⟩ | ⟨ad, l, c, zs, hcs, _, hl, hm, hz, _, hcell, _⟩
  · exact ⟨none, 0, [], hcs, Nat.le_refl _, rfl, Nat.zero_le _, fun h => absurd h (Nat.lt_irrefl _)⟩
  · have hz' : zs.length = c := by simpa using hz
    have hlz : (zs.take l).length = l := by
      rw [List.length_take]
      omega
    have hM : maxLen ≤ 9223372036854775807 := by decide
    refine ⟨some ad, c, zs.take l, by rw [hlz]; exact hcs, by rw [hlz]; exact hl, rfl, by omega, fun _ => ⟨ad, rfl, fun j p hp => ?_⟩⟩
    obtain ⟨hj, rfl⟩ := List.getElem?_eq_some_iff.mp hp
    have hjz : j < zs.length := by omega
    have hc := hcell j hjz
    rw [List.getD_eq_getElem?_getD, List.getElem?_eq_getElem hjz, Option.getD_some] at hc
    refine ⟨[.int .i64 (zs.take l)[j]], rfl, rfl, fun i u hu => ?_⟩
    match i, hu with
    | 0, hu => obtain rfl := Option.some.inj hu; rw [List.getElem_take]; show W.cell? (ad.add (j * 1 + 0)) = _; rw [Nat.mul_one]; exact hc
set_option maxHeartbeats 4000000 in
set_option maxRecDepth 100000 in
theorem lifted (os : Os) (started : os.Started) (H : Type) (enc : TypeId × Value → H) :
    ReturnsInHanded {} Try.checked os 14 .any (Rows.numUniqueSpec.pre6 enc Try.prog Try.f14 Rows.numUniqueRow.domain false) (Rows.numUniqueSpec.post enc Try.prog Try.f14 false true false false) := by
  refine returnsInHanded_of_change_sized (C := Try.checked) own started (by kernel_rfl) Try.func14
    (ChangeSpec.witness6 (enc := enc) (C := Try.checked) false ⟨#[], #[.agg #[.int .i64 0, .int .i64 0], .slice none 0 0], []⟩ 8 (by kernel_rfl) (by kernel_rfl) (by kernel_rfl) (by kernel_rfl)) ?_
  intro W base args ds gs before hval0 hW hcnd hsz0 _
  have hsz : (DataW.weightsEach Try.prog (Try.f14.params.toList ++ Rows.numUniqueSpec.plain.varTypes Try.prog) (ds ++ gs)).all (· ≤ reachBytes) = true := hsz0
  have hval : ∀ (j : Nat) t v, Try.f14.params[j]? = some t → args[j]? = some v → Value.okWide Try.prog W .any base t v := hval0
  have hW' := hW
  obtain ⟨p, q, hA0, hV, rfl, hfz, hnd⟩ := hW
  have hA : DataW.TrodAll enc Try.prog W 0 (fun _ => true) true Try.f14.params.toList args.toList ds p := hA0
  rw [Try.params14] at hA hval hsz
  obtain ⟨v0, vs0, d0, ds0, p0, q0, hargs, rfl, rfl, h0, r0⟩ := trodAll_cons hA
  obtain ⟨v1, vs1, d1, ds1, p1, q1, rfl, rfl, rfl, h1, r1⟩ := trodAll_cons r0
  obtain ⟨rfl, rfl, rfl⟩ := trodAll_nil r1
  obtain rfl : args = #[v0, v1] := by cases args; simp_all
  obtain ⟨rfl, rfl⟩ := trodVars_none hV
  obtain ⟨c0, c0', y0, y0', m0, rfl, rfl, rfl, hy0, hy0'⟩ := open_agg2 Try.underlying23 (by kernel_rfl) cells23 (hval 0 23 v0 rfl rfl) h0
  obtain ⟨a0_0, e0, rfl, wa0⟩ := DataW.trod_int Try.underlying3 hy0
  obtain ⟨a0_1, e0', rfl, wb0⟩ := DataW.trod_int Try.underlying3 hy0'
  simp at e0 e0'
  subst e0 e0'
  have z0 : ∀ (W' : World) (sp : Nat → Bool), DataW.Trod enc Try.prog W' 0 sp true 23 (.agg #[.int .i64 a0_0, .int .i64 a0_1]) (.agg [.lit (.int .i64 a0_0), .lit (.int .i64 a0_1)]) [] := fun W' sp =>
    shut_agg2 (y0 := (.lit (.int .i64 a0_0), [])) (y1 := (.lit (.int .i64 a0_1), [])) Try.underlying23 (by kernel_rfl) cells23 ⟨1, by simp [DataW.trod, Try.underlying3, wa0]⟩ ⟨1, by simp [DataW.trod, Try.underlying3, wb0]⟩
  have k1 := h1
  have lt1 : ∀ x ∈ p1, x.block < W.heap.size := by obtain ⟨m, hm⟩ := k1; exact DataW.trod_lt m _ _ _ hm
  obtain ⟨b1, len1, c1, rfl⟩ := okWide_slice Try.underlying55 (hval 1 55 v1 rfl rfl)
  obtain ⟨A1, c1', z1, hcs1, hc1, hr1⟩ : ∃ (a : Option Addr) (cap : Nat) (zs : List Int), [Value.slice b1 len1 c1] = [.slice a zs.length cap] ∧ zs.length ≤ cap ∧ Go.Proofs.YtakcdoahpbeckaaW.PrintWords.Kd.C (Go.Proofs.YtakcdoahpbeckaaW.PrintWords.Kd.int .i64) W a zs.length zs := by
    obtain ⟨fuel, hf⟩ := h1
    exact open_terms hf
  simp at hcs1
  obtain ⟨rfl, rfl, rfl⟩ := hcs1
  clear hA0 hval0 hsz0 hsz
  obtain ⟨k, hk⟩ := Go.Proofs.Ytakcdoahpbeckaa.H.withylaw01_NumUnique.pure a0_0 a0_1 z1 (bounds_i64 wa0) (bounds_i64 wb0)
  refine (Go.Proofs.Ytakcdoahpbeckaa.H.withylaw01_NumUnique.calls k a0_0 a0_1 b1 c1 z1 true W hr1 hc1 hk).mono fun e W' ⟨he, bel⟩ => ?_
  subst he
  exact ⟨_, rfl, _, _, _, [], _, [], hW', trodAll_mk1 (shut_bool Try.underlying4 _), (trodAll_cons_mk (z0 _ _) (trodAll_cons_mk (Below.trod laidOut (by kernel_rfl) (of_decide_eq_true (by kernel_rfl)) k1 bel lt1) trodAll_mk0)), rfl, bel.frame _, fun h => by cases h⟩
theorem over : Rows.numUniqueRow.holds Try.pinned (OpenSpec.ofChange Rows.numUniqueSpec) :=
  OpenClaim.holds_of_wide 14 Try.f14 rfl rfl rfl rfl rfl rfl rfl ⟨rfl, rfl, rfl, rfl, rfl⟩ rfl rfl rfl rfl rfl (by kernel_rfl) Try.func14 (by kernel_rfl)
    (of_decide_eq_true (by kernel_rfl)) (by unfold Func.isWrapper; first | (rw [if_pos (by decide +kernel)]; kernel_rfl) | (rw [if_neg (by decide +kernel)]; exact ⟨rfl, rfl⟩))
    (fun os started H enc _ => lifted os started H enc)
theorem proved : Rows.NumUniqueSaid := over
end Go.Proofs.Ytakcdoahpbeckaa.numUnique
namespace Go.Proofs.Ytakcdoahpbeckaa
theorem numUnique_holds : Rows.NumUniqueSaid := numUnique.proved
end Go.Proofs.Ytakcdoahpbeckaa
