/- NumPowers: the printed functions it reaches, with their walks. Laid by wip/claimpack.py out of what wip/hprint.py printed. -/
import Derived.Test.YtakcdoahpbeckaaKNumPowers2
namespace Go.Proofs.Ytakcdoahpbeckaa.H
open Go.RowKit Go.Proofs.YtakcdoahpbeckaaW.PrintWords Go.Proofs.YtakcdoahpbeckaaW.PrintLast Go.Proofs.YtakcdoahpbeckaaW.PrintMore
attribute [local go_sem] max2_int min2_int max_two min_two max_three min_three max_four min_four   -- for this text's walks alone
set_option linter.unusedVariables false
set_option linter.unusedSimpArgs false

attribute [local go_sem high] eqA23
/-! ### withylaw01_summed: function 17 -/
def withylaw01_summed.f (k : Nat)  : Option (Bool) := (num_Add.f k 1 2 1 3).bind fun bt240 => ((num_Simplest.f k 1 3 1 2).bind fun bt244 => ((num_Decimal.f k (-1) 8 2).bind fun bt248 => ((num_Parse.f k (⟨#[49, 46, 50, 53]⟩ : ByteArray)).bind fun bt250 => (if bt240.2.2 = 0 then (if bt244.2.2 = 0 then (if bt248.2 = 0 then (if bt250.2.2 = 0 then (if (bt240.1 == 5 && (bt240.2.1 == 6)) = true then (if (bt244.1 == 2 && (bt244.2.1 == 5)) = true then (if bt248.1.toList = ([45, 48, 46, 49, 50] : List UInt8) then (some (bt250.1 == 5 && (bt250.2.1 == 4))) else (some false)) else (some false)) else (some false)) else (some false)) else (some false)) else (some false)) else (some false)))))
theorem withylaw01_summed.mono : ∀ k, LeO (withylaw01_summed.f k ) (withylaw01_summed.f (k + 1) ) := by
  intro  k
  unfold withylaw01_summed.f
  repeat' first
      | (with_reducible exact num_Add.mono _ _ _ _ _)
      | (with_reducible exact num_Decimal.mono _ _ _ _)
      | (with_reducible exact num_Parse.mono _ _)
      | (with_reducible exact num_Simplest.mono _ _ _ _ _)
      | (with_reducible exact LeO.refl _)
      | (with_reducible exact LeO.none _)
      | (with_reducible refine LeO.ite ?_ ?_)
      | (with_reducible refine LeO.bind ?_ (fun _ => ?_))
      | (with_reducible refine LeO.exc (fun _ => ?_) (fun _ => ?_))
      | exact num_Add.mono _ _ _ _ _
      | exact num_Decimal.mono _ _ _ _
      | exact num_Parse.mono _ _
      | exact num_Simplest.mono _ _ _ _ _
      | exact LeO.none _
      | refine LeO.ite ?_ ?_
      | refine LeO.bind ?_ (fun _ => ?_)
set_option maxHeartbeats 8000000 in
set_option maxRecDepth 100000 in
theorem withylaw01_summed.calls (k : Nat)  (r : Bool) (w : World) (h : withylaw01_summed.f k  = some r) :
    Calls Try.prog 17 #[] w fun e w' => e = .returned (.bool r) ∧ Below w.heap.size w w' := by
  have hu23 := Try.underlying23
  have HB := Aside0.mk (Below.refl w.heap.size w)
  have H : ((num_Add.f k 1 2 1 3).bind fun bt240 => ((num_Simplest.f k 1 3 1 2).bind fun bt244 => ((num_Decimal.f k (-1) 8 2).bind fun bt248 => ((num_Parse.f k (⟨#[49, 46, 50, 53]⟩ : ByteArray)).bind fun bt250 => (if bt240.2.2 = 0 then (if bt244.2.2 = 0 then (if bt248.2 = 0 then (if bt250.2.2 = 0 then (if (bt240.1 == 5 && (bt240.2.1 == 6)) = true then (if (bt244.1 == 2 && (bt244.2.1 == 5)) = true then (if bt248.1.toList = ([45, 48, 46, 49, 50] : List UInt8) then (some (bt250.1 == 5 && (bt250.2.1 == 4))) else (some false)) else (some false)) else (some false)) else (some false)) else (some false)) else (some false)) else (some false)))))) = some r := h
  clear h
  replace H := Option.bind_eq_some_iff.mp H
  obtain ⟨⟨t240, t241, t242⟩, A10, H⟩ := H
  replace H : ((num_Simplest.f k 1 3 1 2).bind fun bt244 => ((num_Decimal.f k (-1) 8 2).bind fun bt248 => ((num_Parse.f k (⟨#[49, 46, 50, 53]⟩ : ByteArray)).bind fun bt250 => (if t242 = 0 then (if bt244.2.2 = 0 then (if bt248.2 = 0 then (if bt250.2.2 = 0 then (if (t240 == 5 && (t241 == 6)) = true then (if (bt244.1 == 2 && (bt244.2.1 == 5)) = true then (if bt248.1.toList = ([45, 48, 46, 49, 50] : List UInt8) then (some (bt250.1 == 5 && (bt250.2.1 == 4))) else (some false)) else (some false)) else (some false)) else (some false)) else (some false)) else (some false)) else (some false))))) = some r := H
  have A1 := Aside0.mk A10
  clear A10
  replace H := Option.bind_eq_some_iff.mp H
  obtain ⟨⟨t244, t245, t246⟩, A20, H⟩ := H
  replace H : ((num_Decimal.f k (-1) 8 2).bind fun bt248 => ((num_Parse.f k (⟨#[49, 46, 50, 53]⟩ : ByteArray)).bind fun bt250 => (if t242 = 0 then (if t246 = 0 then (if bt248.2 = 0 then (if bt250.2.2 = 0 then (if (t240 == 5 && (t241 == 6)) = true then (if (t244 == 2 && (t245 == 5)) = true then (if bt248.1.toList = ([45, 48, 46, 49, 50] : List UInt8) then (some (bt250.1 == 5 && (bt250.2.1 == 4))) else (some false)) else (some false)) else (some false)) else (some false)) else (some false)) else (some false)) else (some false)))) = some r := H
  have A2 := Aside0.mk A20
  clear A20
  replace H := Option.bind_eq_some_iff.mp H
  obtain ⟨⟨t248, t249⟩, A30, H⟩ := H
  replace H : ((num_Parse.f k (⟨#[49, 46, 50, 53]⟩ : ByteArray)).bind fun bt250 => (if t242 = 0 then (if t246 = 0 then (if t249 = 0 then (if bt250.2.2 = 0 then (if (t240 == 5 && (t241 == 6)) = true then (if (t244 == 2 && (t245 == 5)) = true then (if t248.toList = ([45, 48, 46, 49, 50] : List UInt8) then (some (bt250.1 == 5 && (bt250.2.1 == 4))) else (some false)) else (some false)) else (some false)) else (some false)) else (some false)) else (some false)) else (some false))) = some r := H
  have A3 := Aside0.mk A30
  clear A30
  replace H := Option.bind_eq_some_iff.mp H
  obtain ⟨⟨t250, t251, t252⟩, A40, H⟩ := H
  replace H : (if t242 = 0 then (if t246 = 0 then (if t249 = 0 then (if t252 = 0 then (if (t240 == 5 && (t241 == 6)) = true then (if (t244 == 2 && (t245 == 5)) = true then (if t248.toList = ([45, 48, 46, 49, 50] : List UInt8) then (some (t250 == 5 && (t251 == 4))) else (some false)) else (some false)) else (some false)) else (some false)) else (some false)) else (some false)) else (some false)) = some r := H
  have A4 := Aside0.mk A40
  clear A40
  by_cases c5 : t242 = 0
  · rw [if_pos c5] at H
    have c5b0 : (t242 == 0) = true := beq_iff_eq.mpr c5
    have c5b1 : (t242 != 0) = false := bne_eq_false_iff_eq.mpr c5
    clear c5
    by_cases c6 : t246 = 0
    · rw [if_pos c6] at H
      have c6b0 : (t246 == 0) = true := beq_iff_eq.mpr c6
      have c6b1 : (t246 != 0) = false := bne_eq_false_iff_eq.mpr c6
      clear c6
      by_cases c7 : t249 = 0
      · rw [if_pos c7] at H
        have c7b0 : (t249 == 0) = true := beq_iff_eq.mpr c7
        have c7b1 : (t249 != 0) = false := bne_eq_false_iff_eq.mpr c7
        clear c7
        by_cases c8 : t252 = 0
        · rw [if_pos c8] at H
          have c8b0 : (t252 == 0) = true := beq_iff_eq.mpr c8
          have c8b1 : (t252 != 0) = false := bne_eq_false_iff_eq.mpr c8
          clear c8
          by_cases c9 : (t240 == 5 && (t241 == 6)) = true
          · rw [if_pos c9] at H
            have c9b0 : (t240 == 5 && (t241 == 6)) = true := c9
            (try (have c9b1 : decide (t240 = 5 && (t241 == 6)) = true := by simpa using c9))
            (try (have c9b2 : (t240 == 5 && (t241 == 6)) = true := by simpa using c9))
            clear c9
            by_cases c10 : (t244 == 2 && (t245 == 5)) = true
            · rw [if_pos c10] at H
              have c10b0 : (t244 == 2 && (t245 == 5)) = true := c10
              (try (have c10b1 : decide (t244 = 2 && (t245 == 5)) = true := by simpa using c10))
              (try (have c10b2 : (t244 == 2 && (t245 == 5)) = true := by simpa using c10))
              clear c10
              by_cases c11 : t248.toList = ([45, 48, 46, 49, 50] : List UInt8)
              · rw [if_pos c11] at H
                have c11b0 : (t248.toList == ([45, 48, 46, 49, 50] : List UInt8)) = true := beq_iff_eq.mpr c11
                have c11b1 : (t248.toList != ([45, 48, 46, 49, 50] : List UInt8)) = false := bne_eq_false_iff_eq.mpr c11
                clear c11
                obtain rfl := Option.some.inj H
                go_enter Try.func17, Try.ntmps17
                go_wp2_with (first | ((with_reducible refine gate_callee (f := 18) rfl ?_); refine gla_ (some 12) Try.func18 #[.agg #[.int .i64 1, .int .i64 2], .agg #[.int .i64 1, .int .i64 3]] ?_; (with_reducible refine (num_Add.calls k 1 2 1 3 t240 t241 t242 _ A1.out).mono ?_); rintro e w12 ⟨rfl, hb⟩; refine ⟨_, rfl, ?_⟩; replace HB := bws_ HB hb; (try clear hb); (try clear hb2); (try clear hk); (try clear hi)) | ((with_reducible refine gate_dst (N := 1) rfl ?_); refine box_event ?hg (N := 1) ?hd (cs := #[.int .i64 0, .int .i64 0]) (t := 23) ?hr ?_; (case hd => rfl); (case hg => rfl); (case hr => first | (go_simp; done) | (go_simp; rfl)); intro gb243 hg w13 hbox hb; have BK243 := Aside0.mk hbox; have GW243 := bwg_ HB hg; have GE243 := bwg_ HB hg; replace HB := bws_ HB hb; clear hb hbox hg; obtain ⟨hcz14_0, hcz14_1, hfz14_0, hfz14_1⟩ := bc2_ BK243) | ((with_reducible refine gate_callee (f := 25) rfl ?_); refine gla_ (some 18) Try.func25 #[.agg #[.int .i64 1, .int .i64 3], .agg #[.int .i64 1, .int .i64 2]] ?_; (with_reducible refine (num_Simplest.calls k 1 3 1 2 t244 t245 t246 _ A2.out).mono ?_); rintro e w15 ⟨rfl, hb⟩; refine ⟨_, rfl, ?_⟩; replace BK243 := Aside0.mk (blk_below (g := gb243) (o := .cells #[.int .i64 t240, .int .i64 t241] 23 (0, 0)) (by refine bp_ (cs := #[.int .i64 t240, .int .i64 0]) ?_ 1; refine bp_ (cs := #[.int .i64 0, .int .i64 0]) ?_ 0; exact bk_ BK243) hb); replace HB := bws_ HB hb; (try clear hb); (try clear hb2); (try clear hk); (try clear hi)) | ((with_reducible refine gate_dst (N := 3) rfl ?_); refine box_event ?hg (N := 3) ?hd (cs := #[.int .i64 0, .int .i64 0]) (t := 23) ?hr ?_; (case hd => rfl); (case hg => rfl); (case hr => first | (go_simp; done) | (go_simp; rfl)); intro gb247 hg w16 hbox hb; have BK247 := Aside0.mk hbox; have GW247 := bwg_ HB hg; have GE247 := bwg_ HB hg; replace HB := bws_ HB hb; have NB243_247 := bkl_ BK243 hg; have NB247_243 := bkr_ BK243 hg; replace BK243 := bkb_ BK243 hb; clear hb hbox hg; have hnb17 := NB247_243.out; have hnc17 := NB243_247.out; obtain ⟨hcz18_0, hcz18_1, hfz18_0, hfz18_1⟩ := bc2_ BK247) | ((with_reducible refine gate_callee (f := 35) rfl ?_); refine gla_ (some 23) Try.func35 #[.agg #[.int .i64 (-1), .int .i64 8], .int .i64 2] ?_; (with_reducible refine (num_Decimal.calls k (-1) 8 2 t248 t249 _ A3.out).mono ?_); rintro e w19 ⟨rfl, hb⟩; refine ⟨_, rfl, ?_⟩; replace BK243 := Aside0.mk (blk_below (g := gb243) (o := .cells #[.int .i64 t240, .int .i64 t241] 23 (0, 0)) (by refine bf_ ?_ NB243_247; refine bf_ ?_ NB243_247; exact bk_ BK243) hb); replace BK247 := Aside0.mk (blk_below (g := gb247) (o := .cells #[.int .i64 t244, .int .i64 t245] 23 (0, 0)) (by refine bp_ (cs := #[.int .i64 t244, .int .i64 0]) ?_ 1; refine bp_ (cs := #[.int .i64 0, .int .i64 0]) ?_ 0; exact bk_ BK247) hb); replace HB := bws_ HB hb; (try clear hb); (try clear hb2); (try clear hk); (try clear hi)) | ((with_reducible refine gate_callee (f := 39) rfl ?_); refine gla_ (some 27) Try.func39 #[.string (⟨#[49, 46, 50, 53]⟩ : ByteArray)] ?_; (with_reducible refine (num_Parse.calls k (⟨#[49, 46, 50, 53]⟩ : ByteArray) t250 t251 t252 _ A4.out).mono ?_); rintro e w20 ⟨rfl, hb⟩; refine ⟨_, rfl, ?_⟩; replace BK243 := bkb_ BK243 hb; replace BK247 := bkb_ BK247 hb; replace HB := bws_ HB hb; (try clear hb); (try clear hb2); (try clear hk); (try clear hi)) | ((with_reducible refine gate_dst (N := 7) rfl ?_); refine box_event ?hg (N := 7) ?hd (cs := #[.int .i64 0, .int .i64 0]) (t := 23) ?hr ?_; (case hd => rfl); (case hg => rfl); (case hr => first | (go_simp; done) | (go_simp; rfl)); intro gb253 hg w21 hbox hb; have BK253 := Aside0.mk hbox; have GW253 := bwg_ HB hg; have GE253 := bwg_ HB hg; replace HB := bws_ HB hb; have NB243_253 := bkl_ BK243 hg; have NB253_243 := bkr_ BK243 hg; replace BK243 := bkb_ BK243 hb; have NB247_253 := bkl_ BK247 hg; have NB253_247 := bkr_ BK247 hg; replace BK247 := bkb_ BK247 hb; clear hb hbox hg; have hnb22 := NB253_243.out; have hnc22 := NB243_253.out; have hnb23 := NB253_247.out; have hnc23 := NB247_253.out; obtain ⟨hcz24_0, hcz24_1, hfz24_0, hfz24_1⟩ := bc2_ BK253; obtain ⟨hcz25_0, hcz25_1, hfz25_0, hfz25_1⟩ := bc2_ BK243; obtain ⟨hcz26_0, hcz26_1, hfz26_0, hfz26_1⟩ := bc2_ BK247))
                go_ret
                exact ⟨by first | rfl | (simp [*] <;> rfl), bw_ HB⟩
              · rw [if_neg c11] at H
                have c11b0 : (t248.toList == ([45, 48, 46, 49, 50] : List UInt8)) = false := beq_eq_false_iff_ne.mpr c11
                have c11b1 : (t248.toList != ([45, 48, 46, 49, 50] : List UInt8)) = true := bne_iff_ne.mpr c11
                obtain rfl := Option.some.inj H
                go_enter Try.func17, Try.ntmps17
                go_wp2_with (first | ((with_reducible refine gate_callee (f := 18) rfl ?_); refine gla_ (some 12) Try.func18 #[.agg #[.int .i64 1, .int .i64 2], .agg #[.int .i64 1, .int .i64 3]] ?_; (with_reducible refine (num_Add.calls k 1 2 1 3 t240 t241 t242 _ A1.out).mono ?_); rintro e w27 ⟨rfl, hb⟩; refine ⟨_, rfl, ?_⟩; replace HB := bws_ HB hb; (try clear hb); (try clear hb2); (try clear hk); (try clear hi)) | ((with_reducible refine gate_dst (N := 1) rfl ?_); refine box_event ?hg (N := 1) ?hd (cs := #[.int .i64 0, .int .i64 0]) (t := 23) ?hr ?_; (case hd => rfl); (case hg => rfl); (case hr => first | (go_simp; done) | (go_simp; rfl)); intro gb243 hg w28 hbox hb; have BK243 := Aside0.mk hbox; have GW243 := bwg_ HB hg; have GE243 := bwg_ HB hg; replace HB := bws_ HB hb; clear hb hbox hg; obtain ⟨hcz29_0, hcz29_1, hfz29_0, hfz29_1⟩ := bc2_ BK243) | ((with_reducible refine gate_callee (f := 25) rfl ?_); refine gla_ (some 18) Try.func25 #[.agg #[.int .i64 1, .int .i64 3], .agg #[.int .i64 1, .int .i64 2]] ?_; (with_reducible refine (num_Simplest.calls k 1 3 1 2 t244 t245 t246 _ A2.out).mono ?_); rintro e w30 ⟨rfl, hb⟩; refine ⟨_, rfl, ?_⟩; replace BK243 := Aside0.mk (blk_below (g := gb243) (o := .cells #[.int .i64 t240, .int .i64 t241] 23 (0, 0)) (by refine bp_ (cs := #[.int .i64 t240, .int .i64 0]) ?_ 1; refine bp_ (cs := #[.int .i64 0, .int .i64 0]) ?_ 0; exact bk_ BK243) hb); replace HB := bws_ HB hb; (try clear hb); (try clear hb2); (try clear hk); (try clear hi)) | ((with_reducible refine gate_dst (N := 3) rfl ?_); refine box_event ?hg (N := 3) ?hd (cs := #[.int .i64 0, .int .i64 0]) (t := 23) ?hr ?_; (case hd => rfl); (case hg => rfl); (case hr => first | (go_simp; done) | (go_simp; rfl)); intro gb247 hg w31 hbox hb; have BK247 := Aside0.mk hbox; have GW247 := bwg_ HB hg; have GE247 := bwg_ HB hg; replace HB := bws_ HB hb; have NB243_247 := bkl_ BK243 hg; have NB247_243 := bkr_ BK243 hg; replace BK243 := bkb_ BK243 hb; clear hb hbox hg; have hnb32 := NB247_243.out; have hnc32 := NB243_247.out; obtain ⟨hcz33_0, hcz33_1, hfz33_0, hfz33_1⟩ := bc2_ BK247) | ((with_reducible refine gate_callee (f := 35) rfl ?_); refine gla_ (some 23) Try.func35 #[.agg #[.int .i64 (-1), .int .i64 8], .int .i64 2] ?_; (with_reducible refine (num_Decimal.calls k (-1) 8 2 t248 t249 _ A3.out).mono ?_); rintro e w34 ⟨rfl, hb⟩; refine ⟨_, rfl, ?_⟩; replace BK243 := Aside0.mk (blk_below (g := gb243) (o := .cells #[.int .i64 t240, .int .i64 t241] 23 (0, 0)) (by refine bf_ ?_ NB243_247; refine bf_ ?_ NB243_247; exact bk_ BK243) hb); replace BK247 := Aside0.mk (blk_below (g := gb247) (o := .cells #[.int .i64 t244, .int .i64 t245] 23 (0, 0)) (by refine bp_ (cs := #[.int .i64 t244, .int .i64 0]) ?_ 1; refine bp_ (cs := #[.int .i64 0, .int .i64 0]) ?_ 0; exact bk_ BK247) hb); replace HB := bws_ HB hb; (try clear hb); (try clear hb2); (try clear hk); (try clear hi)) | ((with_reducible refine gate_callee (f := 39) rfl ?_); refine gla_ (some 27) Try.func39 #[.string (⟨#[49, 46, 50, 53]⟩ : ByteArray)] ?_; (with_reducible refine (num_Parse.calls k (⟨#[49, 46, 50, 53]⟩ : ByteArray) t250 t251 t252 _ A4.out).mono ?_); rintro e w35 ⟨rfl, hb⟩; refine ⟨_, rfl, ?_⟩; replace BK243 := bkb_ BK243 hb; replace BK247 := bkb_ BK247 hb; replace HB := bws_ HB hb; (try clear hb); (try clear hb2); (try clear hk); (try clear hi)) | ((with_reducible refine gate_dst (N := 7) rfl ?_); refine box_event ?hg (N := 7) ?hd (cs := #[.int .i64 0, .int .i64 0]) (t := 23) ?hr ?_; (case hd => rfl); (case hg => rfl); (case hr => first | (go_simp; done) | (go_simp; rfl)); intro gb253 hg w36 hbox hb; have BK253 := Aside0.mk hbox; have GW253 := bwg_ HB hg; have GE253 := bwg_ HB hg; replace HB := bws_ HB hb; have NB243_253 := bkl_ BK243 hg; have NB253_243 := bkr_ BK243 hg; replace BK243 := bkb_ BK243 hb; have NB247_253 := bkl_ BK247 hg; have NB253_247 := bkr_ BK247 hg; replace BK247 := bkb_ BK247 hb; clear hb hbox hg; have hnb37 := NB253_243.out; have hnc37 := NB243_253.out; have hnb38 := NB253_247.out; have hnc38 := NB247_253.out; obtain ⟨hcz39_0, hcz39_1, hfz39_0, hfz39_1⟩ := bc2_ BK253; obtain ⟨hcz40_0, hcz40_1, hfz40_0, hfz40_1⟩ := bc2_ BK243; obtain ⟨hcz41_0, hcz41_1, hfz41_0, hfz41_1⟩ := bc2_ BK247))
                go_ret
                exact ⟨by first | rfl | (simp [*] <;> rfl), bw_ HB⟩
            · rw [if_neg c10] at H
              have c10b0 : (t244 == 2 && (t245 == 5)) = false := by simpa using c10
              (try (have c10b1 : decide (t244 = 2 && (t245 == 5)) = false := by simpa using c10))
              (try (have c10b2 : (t244 == 2 && (t245 == 5)) = false := by simpa using c10))
              (try (have c10b3 : ¬ (t244 = 2 && (t245 == 5)) := by simpa using c10))
              clear c10
              obtain rfl := Option.some.inj H
              go_enter Try.func17, Try.ntmps17
              go_wp2_with (first | ((with_reducible refine gate_callee (f := 18) rfl ?_); refine gla_ (some 12) Try.func18 #[.agg #[.int .i64 1, .int .i64 2], .agg #[.int .i64 1, .int .i64 3]] ?_; (with_reducible refine (num_Add.calls k 1 2 1 3 t240 t241 t242 _ A1.out).mono ?_); rintro e w42 ⟨rfl, hb⟩; refine ⟨_, rfl, ?_⟩; replace HB := bws_ HB hb; (try clear hb); (try clear hb2); (try clear hk); (try clear hi)) | ((with_reducible refine gate_dst (N := 1) rfl ?_); refine box_event ?hg (N := 1) ?hd (cs := #[.int .i64 0, .int .i64 0]) (t := 23) ?hr ?_; (case hd => rfl); (case hg => rfl); (case hr => first | (go_simp; done) | (go_simp; rfl)); intro gb243 hg w43 hbox hb; have BK243 := Aside0.mk hbox; have GW243 := bwg_ HB hg; have GE243 := bwg_ HB hg; replace HB := bws_ HB hb; clear hb hbox hg; obtain ⟨hcz44_0, hcz44_1, hfz44_0, hfz44_1⟩ := bc2_ BK243) | ((with_reducible refine gate_callee (f := 25) rfl ?_); refine gla_ (some 18) Try.func25 #[.agg #[.int .i64 1, .int .i64 3], .agg #[.int .i64 1, .int .i64 2]] ?_; (with_reducible refine (num_Simplest.calls k 1 3 1 2 t244 t245 t246 _ A2.out).mono ?_); rintro e w45 ⟨rfl, hb⟩; refine ⟨_, rfl, ?_⟩; replace BK243 := Aside0.mk (blk_below (g := gb243) (o := .cells #[.int .i64 t240, .int .i64 t241] 23 (0, 0)) (by refine bp_ (cs := #[.int .i64 t240, .int .i64 0]) ?_ 1; refine bp_ (cs := #[.int .i64 0, .int .i64 0]) ?_ 0; exact bk_ BK243) hb); replace HB := bws_ HB hb; (try clear hb); (try clear hb2); (try clear hk); (try clear hi)) | ((with_reducible refine gate_dst (N := 3) rfl ?_); refine box_event ?hg (N := 3) ?hd (cs := #[.int .i64 0, .int .i64 0]) (t := 23) ?hr ?_; (case hd => rfl); (case hg => rfl); (case hr => first | (go_simp; done) | (go_simp; rfl)); intro gb247 hg w46 hbox hb; have BK247 := Aside0.mk hbox; have GW247 := bwg_ HB hg; have GE247 := bwg_ HB hg; replace HB := bws_ HB hb; have NB243_247 := bkl_ BK243 hg; have NB247_243 := bkr_ BK243 hg; replace BK243 := bkb_ BK243 hb; clear hb hbox hg; have hnb47 := NB247_243.out; have hnc47 := NB243_247.out; obtain ⟨hcz48_0, hcz48_1, hfz48_0, hfz48_1⟩ := bc2_ BK247) | ((with_reducible refine gate_callee (f := 35) rfl ?_); refine gla_ (some 23) Try.func35 #[.agg #[.int .i64 (-1), .int .i64 8], .int .i64 2] ?_; (with_reducible refine (num_Decimal.calls k (-1) 8 2 t248 t249 _ A3.out).mono ?_); rintro e w49 ⟨rfl, hb⟩; refine ⟨_, rfl, ?_⟩; replace BK243 := Aside0.mk (blk_below (g := gb243) (o := .cells #[.int .i64 t240, .int .i64 t241] 23 (0, 0)) (by refine bf_ ?_ NB243_247; refine bf_ ?_ NB243_247; exact bk_ BK243) hb); replace BK247 := Aside0.mk (blk_below (g := gb247) (o := .cells #[.int .i64 t244, .int .i64 t245] 23 (0, 0)) (by refine bp_ (cs := #[.int .i64 t244, .int .i64 0]) ?_ 1; refine bp_ (cs := #[.int .i64 0, .int .i64 0]) ?_ 0; exact bk_ BK247) hb); replace HB := bws_ HB hb; (try clear hb); (try clear hb2); (try clear hk); (try clear hi)) | ((with_reducible refine gate_callee (f := 39) rfl ?_); refine gla_ (some 27) Try.func39 #[.string (⟨#[49, 46, 50, 53]⟩ : ByteArray)] ?_; (with_reducible refine (num_Parse.calls k (⟨#[49, 46, 50, 53]⟩ : ByteArray) t250 t251 t252 _ A4.out).mono ?_); rintro e w50 ⟨rfl, hb⟩; refine ⟨_, rfl, ?_⟩; replace BK243 := bkb_ BK243 hb; replace BK247 := bkb_ BK247 hb; replace HB := bws_ HB hb; (try clear hb); (try clear hb2); (try clear hk); (try clear hi)) | ((with_reducible refine gate_dst (N := 7) rfl ?_); refine box_event ?hg (N := 7) ?hd (cs := #[.int .i64 0, .int .i64 0]) (t := 23) ?hr ?_; (case hd => rfl); (case hg => rfl); (case hr => first | (go_simp; done) | (go_simp; rfl)); intro gb253 hg w51 hbox hb; have BK253 := Aside0.mk hbox; have GW253 := bwg_ HB hg; have GE253 := bwg_ HB hg; replace HB := bws_ HB hb; have NB243_253 := bkl_ BK243 hg; have NB253_243 := bkr_ BK243 hg; replace BK243 := bkb_ BK243 hb; have NB247_253 := bkl_ BK247 hg; have NB253_247 := bkr_ BK247 hg; replace BK247 := bkb_ BK247 hb; clear hb hbox hg; have hnb52 := NB253_243.out; have hnc52 := NB243_253.out; have hnb53 := NB253_247.out; have hnc53 := NB247_253.out; obtain ⟨hcz54_0, hcz54_1, hfz54_0, hfz54_1⟩ := bc2_ BK253; obtain ⟨hcz55_0, hcz55_1, hfz55_0, hfz55_1⟩ := bc2_ BK243; obtain ⟨hcz56_0, hcz56_1, hfz56_0, hfz56_1⟩ := bc2_ BK247))
              go_ret
              exact ⟨by first | rfl | (simp [*] <;> rfl), bw_ HB⟩
          · rw [if_neg c9] at H
            have c9b0 : (t240 == 5 && (t241 == 6)) = false := by simpa using c9
            (try (have c9b1 : decide (t240 = 5 && (t241 == 6)) = false := by simpa using c9))
            (try (have c9b2 : (t240 == 5 && (t241 == 6)) = false := by simpa using c9))
            (try (have c9b3 : ¬ (t240 = 5 && (t241 == 6)) := by simpa using c9))
            clear c9
            obtain rfl := Option.some.inj H
            go_enter Try.func17, Try.ntmps17
            go_wp2_with (first | ((with_reducible refine gate_callee (f := 18) rfl ?_); refine gla_ (some 12) Try.func18 #[.agg #[.int .i64 1, .int .i64 2], .agg #[.int .i64 1, .int .i64 3]] ?_; (with_reducible refine (num_Add.calls k 1 2 1 3 t240 t241 t242 _ A1.out).mono ?_); rintro e w57 ⟨rfl, hb⟩; refine ⟨_, rfl, ?_⟩; replace HB := bws_ HB hb; (try clear hb); (try clear hb2); (try clear hk); (try clear hi)) | ((with_reducible refine gate_dst (N := 1) rfl ?_); refine box_event ?hg (N := 1) ?hd (cs := #[.int .i64 0, .int .i64 0]) (t := 23) ?hr ?_; (case hd => rfl); (case hg => rfl); (case hr => first | (go_simp; done) | (go_simp; rfl)); intro gb243 hg w58 hbox hb; have BK243 := Aside0.mk hbox; have GW243 := bwg_ HB hg; have GE243 := bwg_ HB hg; replace HB := bws_ HB hb; clear hb hbox hg; obtain ⟨hcz59_0, hcz59_1, hfz59_0, hfz59_1⟩ := bc2_ BK243) | ((with_reducible refine gate_callee (f := 25) rfl ?_); refine gla_ (some 18) Try.func25 #[.agg #[.int .i64 1, .int .i64 3], .agg #[.int .i64 1, .int .i64 2]] ?_; (with_reducible refine (num_Simplest.calls k 1 3 1 2 t244 t245 t246 _ A2.out).mono ?_); rintro e w60 ⟨rfl, hb⟩; refine ⟨_, rfl, ?_⟩; replace BK243 := Aside0.mk (blk_below (g := gb243) (o := .cells #[.int .i64 t240, .int .i64 t241] 23 (0, 0)) (by refine bp_ (cs := #[.int .i64 t240, .int .i64 0]) ?_ 1; refine bp_ (cs := #[.int .i64 0, .int .i64 0]) ?_ 0; exact bk_ BK243) hb); replace HB := bws_ HB hb; (try clear hb); (try clear hb2); (try clear hk); (try clear hi)) | ((with_reducible refine gate_dst (N := 3) rfl ?_); refine box_event ?hg (N := 3) ?hd (cs := #[.int .i64 0, .int .i64 0]) (t := 23) ?hr ?_; (case hd => rfl); (case hg => rfl); (case hr => first | (go_simp; done) | (go_simp; rfl)); intro gb247 hg w61 hbox hb; have BK247 := Aside0.mk hbox; have GW247 := bwg_ HB hg; have GE247 := bwg_ HB hg; replace HB := bws_ HB hb; have NB243_247 := bkl_ BK243 hg; have NB247_243 := bkr_ BK243 hg; replace BK243 := bkb_ BK243 hb; clear hb hbox hg; have hnb62 := NB247_243.out; have hnc62 := NB243_247.out; obtain ⟨hcz63_0, hcz63_1, hfz63_0, hfz63_1⟩ := bc2_ BK247) | ((with_reducible refine gate_callee (f := 35) rfl ?_); refine gla_ (some 23) Try.func35 #[.agg #[.int .i64 (-1), .int .i64 8], .int .i64 2] ?_; (with_reducible refine (num_Decimal.calls k (-1) 8 2 t248 t249 _ A3.out).mono ?_); rintro e w64 ⟨rfl, hb⟩; refine ⟨_, rfl, ?_⟩; replace BK243 := Aside0.mk (blk_below (g := gb243) (o := .cells #[.int .i64 t240, .int .i64 t241] 23 (0, 0)) (by refine bf_ ?_ NB243_247; refine bf_ ?_ NB243_247; exact bk_ BK243) hb); replace BK247 := Aside0.mk (blk_below (g := gb247) (o := .cells #[.int .i64 t244, .int .i64 t245] 23 (0, 0)) (by refine bp_ (cs := #[.int .i64 t244, .int .i64 0]) ?_ 1; refine bp_ (cs := #[.int .i64 0, .int .i64 0]) ?_ 0; exact bk_ BK247) hb); replace HB := bws_ HB hb; (try clear hb); (try clear hb2); (try clear hk); (try clear hi)) | ((with_reducible refine gate_callee (f := 39) rfl ?_); refine gla_ (some 27) Try.func39 #[.string (⟨#[49, 46, 50, 53]⟩ : ByteArray)] ?_; (with_reducible refine (num_Parse.calls k (⟨#[49, 46, 50, 53]⟩ : ByteArray) t250 t251 t252 _ A4.out).mono ?_); rintro e w65 ⟨rfl, hb⟩; refine ⟨_, rfl, ?_⟩; replace BK243 := bkb_ BK243 hb; replace BK247 := bkb_ BK247 hb; replace HB := bws_ HB hb; (try clear hb); (try clear hb2); (try clear hk); (try clear hi)) | ((with_reducible refine gate_dst (N := 7) rfl ?_); refine box_event ?hg (N := 7) ?hd (cs := #[.int .i64 0, .int .i64 0]) (t := 23) ?hr ?_; (case hd => rfl); (case hg => rfl); (case hr => first | (go_simp; done) | (go_simp; rfl)); intro gb253 hg w66 hbox hb; have BK253 := Aside0.mk hbox; have GW253 := bwg_ HB hg; have GE253 := bwg_ HB hg; replace HB := bws_ HB hb; have NB243_253 := bkl_ BK243 hg; have NB253_243 := bkr_ BK243 hg; replace BK243 := bkb_ BK243 hb; have NB247_253 := bkl_ BK247 hg; have NB253_247 := bkr_ BK247 hg; replace BK247 := bkb_ BK247 hb; clear hb hbox hg; have hnb67 := NB253_243.out; have hnc67 := NB243_253.out; have hnb68 := NB253_247.out; have hnc68 := NB247_253.out; obtain ⟨hcz69_0, hcz69_1, hfz69_0, hfz69_1⟩ := bc2_ BK253; obtain ⟨hcz70_0, hcz70_1, hfz70_0, hfz70_1⟩ := bc2_ BK243))
            go_ret
            exact ⟨by first | rfl | (simp [*] <;> rfl), bw_ HB⟩
        · rw [if_neg c8] at H
          have c8b0 : (t252 == 0) = false := beq_eq_false_iff_ne.mpr c8
          have c8b1 : (t252 != 0) = true := bne_iff_ne.mpr c8
          obtain rfl := Option.some.inj H
          go_enter Try.func17, Try.ntmps17
          go_wp2_with (first | ((with_reducible refine gate_callee (f := 18) rfl ?_); refine gla_ (some 12) Try.func18 #[.agg #[.int .i64 1, .int .i64 2], .agg #[.int .i64 1, .int .i64 3]] ?_; (with_reducible refine (num_Add.calls k 1 2 1 3 t240 t241 t242 _ A1.out).mono ?_); rintro e w71 ⟨rfl, hb⟩; refine ⟨_, rfl, ?_⟩; replace HB := bws_ HB hb; (try clear hb); (try clear hb2); (try clear hk); (try clear hi)) | ((with_reducible refine gate_dst (N := 1) rfl ?_); refine box_event ?hg (N := 1) ?hd (cs := #[.int .i64 0, .int .i64 0]) (t := 23) ?hr ?_; (case hd => rfl); (case hg => rfl); (case hr => first | (go_simp; done) | (go_simp; rfl)); intro gb243 hg w72 hbox hb; have BK243 := Aside0.mk hbox; have GW243 := bwg_ HB hg; have GE243 := bwg_ HB hg; replace HB := bws_ HB hb; clear hb hbox hg; obtain ⟨hcz73_0, hcz73_1, hfz73_0, hfz73_1⟩ := bc2_ BK243) | ((with_reducible refine gate_callee (f := 25) rfl ?_); refine gla_ (some 18) Try.func25 #[.agg #[.int .i64 1, .int .i64 3], .agg #[.int .i64 1, .int .i64 2]] ?_; (with_reducible refine (num_Simplest.calls k 1 3 1 2 t244 t245 t246 _ A2.out).mono ?_); rintro e w74 ⟨rfl, hb⟩; refine ⟨_, rfl, ?_⟩; replace BK243 := Aside0.mk (blk_below (g := gb243) (o := .cells #[.int .i64 t240, .int .i64 t241] 23 (0, 0)) (by refine bp_ (cs := #[.int .i64 t240, .int .i64 0]) ?_ 1; refine bp_ (cs := #[.int .i64 0, .int .i64 0]) ?_ 0; exact bk_ BK243) hb); replace HB := bws_ HB hb; (try clear hb); (try clear hb2); (try clear hk); (try clear hi)) | ((with_reducible refine gate_dst (N := 3) rfl ?_); refine box_event ?hg (N := 3) ?hd (cs := #[.int .i64 0, .int .i64 0]) (t := 23) ?hr ?_; (case hd => rfl); (case hg => rfl); (case hr => first | (go_simp; done) | (go_simp; rfl)); intro gb247 hg w75 hbox hb; have BK247 := Aside0.mk hbox; have GW247 := bwg_ HB hg; have GE247 := bwg_ HB hg; replace HB := bws_ HB hb; have NB243_247 := bkl_ BK243 hg; have NB247_243 := bkr_ BK243 hg; replace BK243 := bkb_ BK243 hb; clear hb hbox hg; have hnb76 := NB247_243.out; have hnc76 := NB243_247.out; obtain ⟨hcz77_0, hcz77_1, hfz77_0, hfz77_1⟩ := bc2_ BK247) | ((with_reducible refine gate_callee (f := 35) rfl ?_); refine gla_ (some 23) Try.func35 #[.agg #[.int .i64 (-1), .int .i64 8], .int .i64 2] ?_; (with_reducible refine (num_Decimal.calls k (-1) 8 2 t248 t249 _ A3.out).mono ?_); rintro e w78 ⟨rfl, hb⟩; refine ⟨_, rfl, ?_⟩; replace BK243 := Aside0.mk (blk_below (g := gb243) (o := .cells #[.int .i64 t240, .int .i64 t241] 23 (0, 0)) (by refine bf_ ?_ NB243_247; refine bf_ ?_ NB243_247; exact bk_ BK243) hb); replace BK247 := Aside0.mk (blk_below (g := gb247) (o := .cells #[.int .i64 t244, .int .i64 t245] 23 (0, 0)) (by refine bp_ (cs := #[.int .i64 t244, .int .i64 0]) ?_ 1; refine bp_ (cs := #[.int .i64 0, .int .i64 0]) ?_ 0; exact bk_ BK247) hb); replace HB := bws_ HB hb; (try clear hb); (try clear hb2); (try clear hk); (try clear hi)) | ((with_reducible refine gate_callee (f := 39) rfl ?_); refine gla_ (some 27) Try.func39 #[.string (⟨#[49, 46, 50, 53]⟩ : ByteArray)] ?_; (with_reducible refine (num_Parse.calls k (⟨#[49, 46, 50, 53]⟩ : ByteArray) t250 t251 t252 _ A4.out).mono ?_); rintro e w79 ⟨rfl, hb⟩; refine ⟨_, rfl, ?_⟩; replace BK243 := bkb_ BK243 hb; replace BK247 := bkb_ BK247 hb; replace HB := bws_ HB hb; (try clear hb); (try clear hb2); (try clear hk); (try clear hi)) | ((with_reducible refine gate_dst (N := 7) rfl ?_); refine box_event ?hg (N := 7) ?hd (cs := #[.int .i64 0, .int .i64 0]) (t := 23) ?hr ?_; (case hd => rfl); (case hg => rfl); (case hr => first | (go_simp; done) | (go_simp; rfl)); intro gb253 hg w80 hbox hb; have BK253 := Aside0.mk hbox; have GW253 := bwg_ HB hg; have GE253 := bwg_ HB hg; replace HB := bws_ HB hb; have NB243_253 := bkl_ BK243 hg; have NB253_243 := bkr_ BK243 hg; replace BK243 := bkb_ BK243 hb; have NB247_253 := bkl_ BK247 hg; have NB253_247 := bkr_ BK247 hg; replace BK247 := bkb_ BK247 hb; clear hb hbox hg; have hnb81 := NB253_243.out; have hnc81 := NB243_253.out; have hnb82 := NB253_247.out; have hnc82 := NB247_253.out; obtain ⟨hcz83_0, hcz83_1, hfz83_0, hfz83_1⟩ := bc2_ BK253))
          go_ret
          exact ⟨by first | rfl | (simp [*] <;> rfl), bw_ HB⟩
      · rw [if_neg c7] at H
        have c7b0 : (t249 == 0) = false := beq_eq_false_iff_ne.mpr c7
        have c7b1 : (t249 != 0) = true := bne_iff_ne.mpr c7
        obtain rfl := Option.some.inj H
        go_enter Try.func17, Try.ntmps17
        go_wp2_with (first | ((with_reducible refine gate_callee (f := 18) rfl ?_); refine gla_ (some 12) Try.func18 #[.agg #[.int .i64 1, .int .i64 2], .agg #[.int .i64 1, .int .i64 3]] ?_; (with_reducible refine (num_Add.calls k 1 2 1 3 t240 t241 t242 _ A1.out).mono ?_); rintro e w84 ⟨rfl, hb⟩; refine ⟨_, rfl, ?_⟩; replace HB := bws_ HB hb; (try clear hb); (try clear hb2); (try clear hk); (try clear hi)) | ((with_reducible refine gate_dst (N := 1) rfl ?_); refine box_event ?hg (N := 1) ?hd (cs := #[.int .i64 0, .int .i64 0]) (t := 23) ?hr ?_; (case hd => rfl); (case hg => rfl); (case hr => first | (go_simp; done) | (go_simp; rfl)); intro gb243 hg w85 hbox hb; have BK243 := Aside0.mk hbox; have GW243 := bwg_ HB hg; have GE243 := bwg_ HB hg; replace HB := bws_ HB hb; clear hb hbox hg; obtain ⟨hcz86_0, hcz86_1, hfz86_0, hfz86_1⟩ := bc2_ BK243) | ((with_reducible refine gate_callee (f := 25) rfl ?_); refine gla_ (some 18) Try.func25 #[.agg #[.int .i64 1, .int .i64 3], .agg #[.int .i64 1, .int .i64 2]] ?_; (with_reducible refine (num_Simplest.calls k 1 3 1 2 t244 t245 t246 _ A2.out).mono ?_); rintro e w87 ⟨rfl, hb⟩; refine ⟨_, rfl, ?_⟩; replace BK243 := Aside0.mk (blk_below (g := gb243) (o := .cells #[.int .i64 t240, .int .i64 t241] 23 (0, 0)) (by refine bp_ (cs := #[.int .i64 t240, .int .i64 0]) ?_ 1; refine bp_ (cs := #[.int .i64 0, .int .i64 0]) ?_ 0; exact bk_ BK243) hb); replace HB := bws_ HB hb; (try clear hb); (try clear hb2); (try clear hk); (try clear hi)) | ((with_reducible refine gate_dst (N := 3) rfl ?_); refine box_event ?hg (N := 3) ?hd (cs := #[.int .i64 0, .int .i64 0]) (t := 23) ?hr ?_; (case hd => rfl); (case hg => rfl); (case hr => first | (go_simp; done) | (go_simp; rfl)); intro gb247 hg w88 hbox hb; have BK247 := Aside0.mk hbox; have GW247 := bwg_ HB hg; have GE247 := bwg_ HB hg; replace HB := bws_ HB hb; have NB243_247 := bkl_ BK243 hg; have NB247_243 := bkr_ BK243 hg; replace BK243 := bkb_ BK243 hb; clear hb hbox hg; have hnb89 := NB247_243.out; have hnc89 := NB243_247.out; obtain ⟨hcz90_0, hcz90_1, hfz90_0, hfz90_1⟩ := bc2_ BK247) | ((with_reducible refine gate_callee (f := 35) rfl ?_); refine gla_ (some 23) Try.func35 #[.agg #[.int .i64 (-1), .int .i64 8], .int .i64 2] ?_; (with_reducible refine (num_Decimal.calls k (-1) 8 2 t248 t249 _ A3.out).mono ?_); rintro e w91 ⟨rfl, hb⟩; refine ⟨_, rfl, ?_⟩; replace BK243 := Aside0.mk (blk_below (g := gb243) (o := .cells #[.int .i64 t240, .int .i64 t241] 23 (0, 0)) (by refine bf_ ?_ NB243_247; refine bf_ ?_ NB243_247; exact bk_ BK243) hb); replace BK247 := Aside0.mk (blk_below (g := gb247) (o := .cells #[.int .i64 t244, .int .i64 t245] 23 (0, 0)) (by refine bp_ (cs := #[.int .i64 t244, .int .i64 0]) ?_ 1; refine bp_ (cs := #[.int .i64 0, .int .i64 0]) ?_ 0; exact bk_ BK247) hb); replace HB := bws_ HB hb; (try clear hb); (try clear hb2); (try clear hk); (try clear hi)) | ((with_reducible refine gate_callee (f := 39) rfl ?_); refine gla_ (some 27) Try.func39 #[.string (⟨#[49, 46, 50, 53]⟩ : ByteArray)] ?_; (with_reducible refine (num_Parse.calls k (⟨#[49, 46, 50, 53]⟩ : ByteArray) t250 t251 t252 _ A4.out).mono ?_); rintro e w92 ⟨rfl, hb⟩; refine ⟨_, rfl, ?_⟩; replace BK243 := bkb_ BK243 hb; replace BK247 := bkb_ BK247 hb; replace HB := bws_ HB hb; (try clear hb); (try clear hb2); (try clear hk); (try clear hi)) | ((with_reducible refine gate_dst (N := 7) rfl ?_); refine box_event ?hg (N := 7) ?hd (cs := #[.int .i64 0, .int .i64 0]) (t := 23) ?hr ?_; (case hd => rfl); (case hg => rfl); (case hr => first | (go_simp; done) | (go_simp; rfl)); intro gb253 hg w93 hbox hb; have BK253 := Aside0.mk hbox; have GW253 := bwg_ HB hg; have GE253 := bwg_ HB hg; replace HB := bws_ HB hb; have NB243_253 := bkl_ BK243 hg; have NB253_243 := bkr_ BK243 hg; replace BK243 := bkb_ BK243 hb; have NB247_253 := bkl_ BK247 hg; have NB253_247 := bkr_ BK247 hg; replace BK247 := bkb_ BK247 hb; clear hb hbox hg; have hnb94 := NB253_243.out; have hnc94 := NB243_253.out; have hnb95 := NB253_247.out; have hnc95 := NB247_253.out; obtain ⟨hcz96_0, hcz96_1, hfz96_0, hfz96_1⟩ := bc2_ BK253))
        go_ret
        exact ⟨by first | rfl | (simp [*] <;> rfl), bw_ HB⟩
    · rw [if_neg c6] at H
      have c6b0 : (t246 == 0) = false := beq_eq_false_iff_ne.mpr c6
      have c6b1 : (t246 != 0) = true := bne_iff_ne.mpr c6
      obtain rfl := Option.some.inj H
      go_enter Try.func17, Try.ntmps17
      go_wp2_with (first | ((with_reducible refine gate_callee (f := 18) rfl ?_); refine gla_ (some 12) Try.func18 #[.agg #[.int .i64 1, .int .i64 2], .agg #[.int .i64 1, .int .i64 3]] ?_; (with_reducible refine (num_Add.calls k 1 2 1 3 t240 t241 t242 _ A1.out).mono ?_); rintro e w97 ⟨rfl, hb⟩; refine ⟨_, rfl, ?_⟩; replace HB := bws_ HB hb; (try clear hb); (try clear hb2); (try clear hk); (try clear hi)) | ((with_reducible refine gate_dst (N := 1) rfl ?_); refine box_event ?hg (N := 1) ?hd (cs := #[.int .i64 0, .int .i64 0]) (t := 23) ?hr ?_; (case hd => rfl); (case hg => rfl); (case hr => first | (go_simp; done) | (go_simp; rfl)); intro gb243 hg w98 hbox hb; have BK243 := Aside0.mk hbox; have GW243 := bwg_ HB hg; have GE243 := bwg_ HB hg; replace HB := bws_ HB hb; clear hb hbox hg; obtain ⟨hcz99_0, hcz99_1, hfz99_0, hfz99_1⟩ := bc2_ BK243) | ((with_reducible refine gate_callee (f := 25) rfl ?_); refine gla_ (some 18) Try.func25 #[.agg #[.int .i64 1, .int .i64 3], .agg #[.int .i64 1, .int .i64 2]] ?_; (with_reducible refine (num_Simplest.calls k 1 3 1 2 t244 t245 t246 _ A2.out).mono ?_); rintro e w100 ⟨rfl, hb⟩; refine ⟨_, rfl, ?_⟩; replace BK243 := Aside0.mk (blk_below (g := gb243) (o := .cells #[.int .i64 t240, .int .i64 t241] 23 (0, 0)) (by refine bp_ (cs := #[.int .i64 t240, .int .i64 0]) ?_ 1; refine bp_ (cs := #[.int .i64 0, .int .i64 0]) ?_ 0; exact bk_ BK243) hb); replace HB := bws_ HB hb; (try clear hb); (try clear hb2); (try clear hk); (try clear hi)) | ((with_reducible refine gate_dst (N := 3) rfl ?_); refine box_event ?hg (N := 3) ?hd (cs := #[.int .i64 0, .int .i64 0]) (t := 23) ?hr ?_; (case hd => rfl); (case hg => rfl); (case hr => first | (go_simp; done) | (go_simp; rfl)); intro gb247 hg w101 hbox hb; have BK247 := Aside0.mk hbox; have GW247 := bwg_ HB hg; have GE247 := bwg_ HB hg; replace HB := bws_ HB hb; have NB243_247 := bkl_ BK243 hg; have NB247_243 := bkr_ BK243 hg; replace BK243 := bkb_ BK243 hb; clear hb hbox hg; have hnb102 := NB247_243.out; have hnc102 := NB243_247.out; obtain ⟨hcz103_0, hcz103_1, hfz103_0, hfz103_1⟩ := bc2_ BK247) | ((with_reducible refine gate_callee (f := 35) rfl ?_); refine gla_ (some 23) Try.func35 #[.agg #[.int .i64 (-1), .int .i64 8], .int .i64 2] ?_; (with_reducible refine (num_Decimal.calls k (-1) 8 2 t248 t249 _ A3.out).mono ?_); rintro e w104 ⟨rfl, hb⟩; refine ⟨_, rfl, ?_⟩; replace BK243 := Aside0.mk (blk_below (g := gb243) (o := .cells #[.int .i64 t240, .int .i64 t241] 23 (0, 0)) (by refine bf_ ?_ NB243_247; refine bf_ ?_ NB243_247; exact bk_ BK243) hb); replace BK247 := Aside0.mk (blk_below (g := gb247) (o := .cells #[.int .i64 t244, .int .i64 t245] 23 (0, 0)) (by refine bp_ (cs := #[.int .i64 t244, .int .i64 0]) ?_ 1; refine bp_ (cs := #[.int .i64 0, .int .i64 0]) ?_ 0; exact bk_ BK247) hb); replace HB := bws_ HB hb; (try clear hb); (try clear hb2); (try clear hk); (try clear hi)) | ((with_reducible refine gate_callee (f := 39) rfl ?_); refine gla_ (some 27) Try.func39 #[.string (⟨#[49, 46, 50, 53]⟩ : ByteArray)] ?_; (with_reducible refine (num_Parse.calls k (⟨#[49, 46, 50, 53]⟩ : ByteArray) t250 t251 t252 _ A4.out).mono ?_); rintro e w105 ⟨rfl, hb⟩; refine ⟨_, rfl, ?_⟩; replace BK243 := bkb_ BK243 hb; replace BK247 := bkb_ BK247 hb; replace HB := bws_ HB hb; (try clear hb); (try clear hb2); (try clear hk); (try clear hi)) | ((with_reducible refine gate_dst (N := 7) rfl ?_); refine box_event ?hg (N := 7) ?hd (cs := #[.int .i64 0, .int .i64 0]) (t := 23) ?hr ?_; (case hd => rfl); (case hg => rfl); (case hr => first | (go_simp; done) | (go_simp; rfl)); intro gb253 hg w106 hbox hb; have BK253 := Aside0.mk hbox; have GW253 := bwg_ HB hg; have GE253 := bwg_ HB hg; replace HB := bws_ HB hb; have NB243_253 := bkl_ BK243 hg; have NB253_243 := bkr_ BK243 hg; replace BK243 := bkb_ BK243 hb; have NB247_253 := bkl_ BK247 hg; have NB253_247 := bkr_ BK247 hg; replace BK247 := bkb_ BK247 hb; clear hb hbox hg; have hnb107 := NB253_243.out; have hnc107 := NB243_253.out; have hnb108 := NB253_247.out; have hnc108 := NB247_253.out; obtain ⟨hcz109_0, hcz109_1, hfz109_0, hfz109_1⟩ := bc2_ BK253))
      go_ret
      exact ⟨by first | rfl | (simp [*] <;> rfl), bw_ HB⟩
  · rw [if_neg c5] at H
    have c5b0 : (t242 == 0) = false := beq_eq_false_iff_ne.mpr c5
    have c5b1 : (t242 != 0) = true := bne_iff_ne.mpr c5
    obtain rfl := Option.some.inj H
    go_enter Try.func17, Try.ntmps17
    go_wp2_with (first | ((with_reducible refine gate_callee (f := 18) rfl ?_); refine gla_ (some 12) Try.func18 #[.agg #[.int .i64 1, .int .i64 2], .agg #[.int .i64 1, .int .i64 3]] ?_; (with_reducible refine (num_Add.calls k 1 2 1 3 t240 t241 t242 _ A1.out).mono ?_); rintro e w110 ⟨rfl, hb⟩; refine ⟨_, rfl, ?_⟩; replace HB := bws_ HB hb; (try clear hb); (try clear hb2); (try clear hk); (try clear hi)) | ((with_reducible refine gate_dst (N := 1) rfl ?_); refine box_event ?hg (N := 1) ?hd (cs := #[.int .i64 0, .int .i64 0]) (t := 23) ?hr ?_; (case hd => rfl); (case hg => rfl); (case hr => first | (go_simp; done) | (go_simp; rfl)); intro gb243 hg w111 hbox hb; have BK243 := Aside0.mk hbox; have GW243 := bwg_ HB hg; have GE243 := bwg_ HB hg; replace HB := bws_ HB hb; clear hb hbox hg; obtain ⟨hcz112_0, hcz112_1, hfz112_0, hfz112_1⟩ := bc2_ BK243) | ((with_reducible refine gate_callee (f := 25) rfl ?_); refine gla_ (some 18) Try.func25 #[.agg #[.int .i64 1, .int .i64 3], .agg #[.int .i64 1, .int .i64 2]] ?_; (with_reducible refine (num_Simplest.calls k 1 3 1 2 t244 t245 t246 _ A2.out).mono ?_); rintro e w113 ⟨rfl, hb⟩; refine ⟨_, rfl, ?_⟩; replace BK243 := Aside0.mk (blk_below (g := gb243) (o := .cells #[.int .i64 t240, .int .i64 t241] 23 (0, 0)) (by refine bp_ (cs := #[.int .i64 t240, .int .i64 0]) ?_ 1; refine bp_ (cs := #[.int .i64 0, .int .i64 0]) ?_ 0; exact bk_ BK243) hb); replace HB := bws_ HB hb; (try clear hb); (try clear hb2); (try clear hk); (try clear hi)) | ((with_reducible refine gate_dst (N := 3) rfl ?_); refine box_event ?hg (N := 3) ?hd (cs := #[.int .i64 0, .int .i64 0]) (t := 23) ?hr ?_; (case hd => rfl); (case hg => rfl); (case hr => first | (go_simp; done) | (go_simp; rfl)); intro gb247 hg w114 hbox hb; have BK247 := Aside0.mk hbox; have GW247 := bwg_ HB hg; have GE247 := bwg_ HB hg; replace HB := bws_ HB hb; have NB243_247 := bkl_ BK243 hg; have NB247_243 := bkr_ BK243 hg; replace BK243 := bkb_ BK243 hb; clear hb hbox hg; have hnb115 := NB247_243.out; have hnc115 := NB243_247.out; obtain ⟨hcz116_0, hcz116_1, hfz116_0, hfz116_1⟩ := bc2_ BK247) | ((with_reducible refine gate_callee (f := 35) rfl ?_); refine gla_ (some 23) Try.func35 #[.agg #[.int .i64 (-1), .int .i64 8], .int .i64 2] ?_; (with_reducible refine (num_Decimal.calls k (-1) 8 2 t248 t249 _ A3.out).mono ?_); rintro e w117 ⟨rfl, hb⟩; refine ⟨_, rfl, ?_⟩; replace BK243 := Aside0.mk (blk_below (g := gb243) (o := .cells #[.int .i64 t240, .int .i64 t241] 23 (0, 0)) (by refine bf_ ?_ NB243_247; refine bf_ ?_ NB243_247; exact bk_ BK243) hb); replace BK247 := Aside0.mk (blk_below (g := gb247) (o := .cells #[.int .i64 t244, .int .i64 t245] 23 (0, 0)) (by refine bp_ (cs := #[.int .i64 t244, .int .i64 0]) ?_ 1; refine bp_ (cs := #[.int .i64 0, .int .i64 0]) ?_ 0; exact bk_ BK247) hb); replace HB := bws_ HB hb; (try clear hb); (try clear hb2); (try clear hk); (try clear hi)) | ((with_reducible refine gate_callee (f := 39) rfl ?_); refine gla_ (some 27) Try.func39 #[.string (⟨#[49, 46, 50, 53]⟩ : ByteArray)] ?_; (with_reducible refine (num_Parse.calls k (⟨#[49, 46, 50, 53]⟩ : ByteArray) t250 t251 t252 _ A4.out).mono ?_); rintro e w118 ⟨rfl, hb⟩; refine ⟨_, rfl, ?_⟩; replace BK243 := bkb_ BK243 hb; replace BK247 := bkb_ BK247 hb; replace HB := bws_ HB hb; (try clear hb); (try clear hb2); (try clear hk); (try clear hi)) | ((with_reducible refine gate_dst (N := 7) rfl ?_); refine box_event ?hg (N := 7) ?hd (cs := #[.int .i64 0, .int .i64 0]) (t := 23) ?hr ?_; (case hd => rfl); (case hg => rfl); (case hr => first | (go_simp; done) | (go_simp; rfl)); intro gb253 hg w119 hbox hb; have BK253 := Aside0.mk hbox; have GW253 := bwg_ HB hg; have GE253 := bwg_ HB hg; replace HB := bws_ HB hb; have NB243_253 := bkl_ BK243 hg; have NB253_243 := bkr_ BK243 hg; replace BK243 := bkb_ BK243 hb; have NB247_253 := bkl_ BK247 hg; have NB253_247 := bkr_ BK247 hg; replace BK247 := bkb_ BK247 hb; clear hb hbox hg; have hnb120 := NB253_243.out; have hnc120 := NB243_253.out; have hnb121 := NB253_247.out; have hnc121 := NB247_253.out; obtain ⟨hcz122_0, hcz122_1, hfz122_0, hfz122_1⟩ := bc2_ BK253))
    go_ret
    exact ⟨by first | rfl | (simp [*] <;> rfl), bw_ HB⟩
/-! ### num_Mul: function 19 -/
def num_Mul.f (k : Nat) (a0_0 : Int) (a0_1 : Int) (a1_0 : Int) (a1_1 : Int) : Option (Int × Int × Int) := (num_reckon.f k 42 a0_0 a0_1 a1_0 a1_1).bind fun bt257 => (some (bt257.1, bt257.2.1, bt257.2.2))
theorem num_Mul.mono : ∀ a0 a1 a2 a3 k, LeO (num_Mul.f k a0 a1 a2 a3) (num_Mul.f (k + 1) a0 a1 a2 a3) := by
  intro a0 a1 a2 a3 k
  unfold num_Mul.f
  repeat' first
      | (with_reducible exact num_reckon.mono _ _ _ _ _ _)
      | (with_reducible exact LeO.refl _)
      | (with_reducible exact LeO.none _)
      | (with_reducible refine LeO.ite ?_ ?_)
      | (with_reducible refine LeO.bind ?_ (fun _ => ?_))
      | (with_reducible refine LeO.exc (fun _ => ?_) (fun _ => ?_))
      | exact num_reckon.mono _ _ _ _ _ _
      | exact LeO.none _
      | refine LeO.ite ?_ ?_
      | refine LeO.bind ?_ (fun _ => ?_)
set_option maxHeartbeats 8000000 in
set_option maxRecDepth 100000 in
theorem num_Mul.calls (k : Nat) (a0_0 : Int) (a0_1 : Int) (a1_0 : Int) (a1_1 : Int) (r1 : Int) (r2 : Int) (r3 : Int) (w : World) (h : num_Mul.f k a0_0 a0_1 a1_0 a1_1 = some (r1, r2, r3)) :
    Calls Try.prog 19 #[.agg #[.int .i64 a0_0, .int .i64 a0_1], .agg #[.int .i64 a1_0, .int .i64 a1_1]] w fun e w' => e = .returned (.tuple #[.agg #[.int .i64 r1, .int .i64 r2], .int .i64 r3]) ∧ Below w.heap.size w w' := by
  have hu23 := Try.underlying23
  have HB := Aside0.mk (Below.refl w.heap.size w)
  have H : ((num_reckon.f k 42 a0_0 a0_1 a1_0 a1_1).bind fun bt257 => (some (bt257.1, bt257.2.1, bt257.2.2))) = some (r1, r2, r3) := h
  clear h
  replace H := Option.bind_eq_some_iff.mp H
  obtain ⟨⟨t257, t258, t259⟩, A30, H⟩ := H
  replace H : (some (t257, t258, t259)) = some (r1, r2, r3) := H
  have A3 := Aside0.mk A30
  clear A30
  simp only [Option.some.injEq, Prod.mk.injEq] at H
  obtain ⟨rfl, rfl, rfl⟩ := H
  go_enter Try.func19, Try.ntmps19
  go_wp2_with (first | ((with_reducible refine gate_dst (N := 2) rfl ?_); refine box_event ?hg (N := 2) ?hd (cs := #[.int .i64 a0_0, .int .i64 a0_1]) (t := 23) ?hr ?_; (case hd => rfl); (case hg => rfl); (case hr => first | (go_simp; done) | (go_simp; rfl)); intro gb254 hg w4 hbox hb; have BK254 := Aside0.mk hbox; have GW254 := bwg_ HB hg; have GE254 := bwg_ HB hg; replace HB := bws_ HB hb; clear hb hbox hg) | ((with_reducible refine gate_dst (N := 3) rfl ?_); refine box_event ?hg (N := 3) ?hd (cs := #[.int .i64 a1_0, .int .i64 a1_1]) (t := 23) ?hr ?_; (case hd => rfl); (case hg => rfl); (case hr => first | (go_simp; done) | (go_simp; rfl)); intro gb255 hg w5 hbox hb; have BK255 := Aside0.mk hbox; have GW255 := bwg_ HB hg; have GE255 := bwg_ HB hg; replace HB := bws_ HB hb; have NB254_255 := bkl_ BK254 hg; have NB255_254 := bkr_ BK254 hg; replace BK254 := bkb_ BK254 hb; clear hb hbox hg) | ((with_reducible refine gate_dst (N := 4) rfl ?_); refine box_event ?hg (N := 4) ?hd (cs := #[.int .i64 0, .int .i64 0]) (t := 23) ?hr ?_; (case hd => rfl); (case hg => rfl); (case hr => first | (go_simp; done) | (go_simp; rfl)); intro gb256 hg w6 hbox hb; have BK256 := Aside0.mk hbox; have GW256 := bwg_ HB hg; have GE256 := bwg_ HB hg; replace HB := bws_ HB hb; have NB254_256 := bkl_ BK254 hg; have NB256_254 := bkr_ BK254 hg; replace BK254 := bkb_ BK254 hb; have NB255_256 := bkl_ BK255 hg; have NB256_255 := bkr_ BK255 hg; replace BK255 := bkb_ BK255 hb; clear hb hbox hg; have hnb7 := NB254_255.out; have hnc7 := NB255_254.out; have hnb8 := NB254_256.out; have hnc8 := NB256_254.out; obtain ⟨hcz9_0, hcz9_1, hfz9_0, hfz9_1⟩ := bc2_ BK254; have hnb10 := NB255_256.out; have hnc10 := NB256_255.out; obtain ⟨hcz11_0, hcz11_1, hfz11_0, hfz11_1⟩ := bc2_ BK255) | ((with_reducible refine gate_callee (f := 67) rfl ?_); refine gla_ (some 8) Try.func67 #[.int .u8 42, .agg #[.int .i64 a0_0, .int .i64 a0_1], .agg #[.int .i64 a1_0, .int .i64 a1_1]] ?_; (with_reducible refine (num_reckon.calls k 42 a0_0 a0_1 a1_0 a1_1 t257 t258 t259 _ A3.out).mono ?_); rintro e w12 ⟨rfl, hb⟩; refine ⟨_, rfl, ?_⟩; replace BK254 := bkb_ BK254 hb; replace BK255 := bkb_ BK255 hb; replace BK256 := bkb_ BK256 hb; replace HB := bws_ HB hb; (try clear hb); (try clear hb2); (try clear hk); (try clear hi); obtain ⟨hcz13_0, hcz13_1, hfz13_0, hfz13_1⟩ := bc2_ BK256))
  refine bodyPost_ret (results_ct rfl _ _ gb256 23 #[.int .i64 t257, .int .i64 t258] (0, 0) _ rfl (by refine bp_ (cs := #[.int .i64 t257, .int .i64 0]) ?_ 1; refine bp_ (cs := #[.int .i64 0, .int .i64 0]) ?_ 0; exact bk_ BK256) Try.underlying23 rfl (by kernel_rfl)) rfl ?_
  exact ⟨by first | rfl | (simp [*] <;> rfl), bw_ HB⟩
/-! ### withylaw01_one: function 23 -/
def withylaw01_one.f  : Option (Int × Int) := some (1, 1)
set_option maxHeartbeats 8000000 in
set_option maxRecDepth 100000 in
theorem withylaw01_one.calls  (r1 : Int) (r2 : Int) (w : World) (h : withylaw01_one.f  = some (r1, r2)) :
    Calls Try.prog 23 #[] w fun e w' => e = .returned (.agg #[.int .i64 r1, .int .i64 r2]) ∧ Below w.heap.size w w' := by
  have hu23 := Try.underlying23
  have HB := Aside0.mk (Below.refl w.heap.size w)
  have H : (some (1, 1)) = some (r1, r2) := h
  clear h
  simp only [Option.some.injEq, Prod.mk.injEq] at H
  obtain ⟨rfl, rfl⟩ := H
  go_enter Try.func23, Try.ntmps23
  go_wp2_with (first | ((with_reducible refine gate_dst (N := 0) rfl ?_); refine box_event ?hg (N := 0) ?hd (cs := #[.int .i64 0, .int .i64 0]) (t := 23) ?hr ?_; (case hd => rfl); (case hg => rfl); (case hr => first | (go_simp; done) | (go_simp; rfl)); intro gb273 hg w1 hbox hb; have BK273 := Aside0.mk hbox; have GW273 := bwg_ HB hg; have GE273 := bwg_ HB hg; replace HB := bws_ HB hb; clear hb hbox hg; obtain ⟨hcz2_0, hcz2_1, hfz2_0, hfz2_1⟩ := bc2_ BK273))
  refine bodyPost_ret (results_cell_row rfl _ _ gb273 23 #[.int .i64 1, .int .i64 1] (0, 0) _ rfl (by refine bp_ (cs := #[.int .i64 1, .int .i64 0]) ?_ 1; refine bp_ (cs := #[.int .i64 0, .int .i64 0]) ?_ 0; exact bk_ BK273) Try.underlying23 rfl (by kernel_rfl)) rfl ?_
  exact ⟨by first | rfl | (simp [*] <;> rfl), bw_ HB⟩
/-! ### withylaw01_NumPowers: function 9 -/
mutual
def withylaw01_NumPowers.j0 : Nat → Int → Int → Int → Int → Bool → Int → Int → Int → Int → Int → Int → Option (Bool)
  | 0, _, _, _, _, _, _, _, _, _, _, _ => none
  | k + 1, x7, x8, x10, x12, x56, x590000, x590001, x596000, x596001, x600000, x600001 => if x56 = true then (some false) else (if (wrap64 (x7 + x8)) ≤ 30 then (if x10 = 0 then (withylaw01_NumPowers.j1 k x7 x8 x10 (x12 == 0) x590000 x590001 x596000 x596001 x600000 x600001) else (withylaw01_NumPowers.j1 k x7 x8 x10 false x590000 x590001 x596000 x596001 x600000 x600001)) else (withylaw01_NumPowers.j1 k x7 x8 x10 false x590000 x590001 x596000 x596001 x600000 x600001))
def withylaw01_NumPowers.j1 : Nat → Int → Int → Int → Bool → Int → Int → Int → Int → Int → Int → Option (Bool)
  | 0, _, _, _, _, _, _, _, _, _, _ => none
  | k + 1, x7, x8, x10, x68, x590000, x590001, x596000, x596001, x600000, x600001 => if x68 = true then ((num_Pow.f k x590000 x590001 (wrap64 (x7 + x8))).bind fun bt606 => ((num_Mul.f k x596000 x596001 x600000 x600001).bind fun bt610 => (if bt606.2.2 = bt610.2.2 then (if (!(bt606.1 == bt610.1) || (!(bt606.2.1 == bt610.2.1))) = true then (some false) else (withylaw01_NumPowers.j2 k x7 x10 x590000 x590001 x596000 x596001)) else (some false)))) else (withylaw01_NumPowers.j2 k x7 x10 x590000 x590001 x596000 x596001)
def withylaw01_NumPowers.j2 : Nat → Int → Int → Int → Int → Int → Int → Option (Bool)
  | 0, _, _, _, _, _, _ => none
  | k + 1, x7, x10, x590000, x590001, x596000, x596001 => if x7 = 0 then ((withylaw01_summed.f k).bind fun t614 => (some t614)) else ((num_Pow.f k x590000 x590001 (wrap64 (x7 - 1))).bind fun bt615 => (if bt615.2.2 = 0 then ((num_Mul.f k bt615.1 bt615.2.1 x590000 x590001).bind fun bt619 => (if bt619.2.2 = x10 then (if (bt619.1 == x596000 && (bt619.2.1 == x596001)) = true then ((withylaw01_summed.f k).bind fun t623 => (some t623)) else (some false)) else (some false))) else (if x10 = 8 then ((withylaw01_summed.f k).bind fun t624 => (some t624)) else (some false))))
end
def withylaw01_NumPowers.f (k : Nat) (a0_0 : Int) (a0_1 : Int) (a1 : Int) (a2 : Int) : Option (Bool) := (withyref01_Check.f k a0_0 a0_1).bind fun t590 => (if t590 = 0 then ((num_Pow.f k a0_0 a0_1 (Int.tmod (wrap64 (a1)) 31)).bind fun bt592 => ((num_Pow.f k a0_0 a0_1 (Int.tmod (wrap64 (a2)) 31)).bind fun bt596 => ((num_Pow.f k a0_0 a0_1 0).bind fun bt600 => (if bt600.2.2 = 0 then ((withylaw01_one.f).bind fun bt604 => (withylaw01_NumPowers.j0 k (Int.tmod (wrap64 (a1)) 31) (Int.tmod (wrap64 (a2)) 31) bt592.2.2 bt596.2.2 (!(bt600.1 == bt604.1) || (!(bt600.2.1 == bt604.2))) a0_0 a0_1 bt592.1 bt592.2.1 bt596.1 bt596.2.1)) else (withylaw01_NumPowers.j0 k (Int.tmod (wrap64 (a1)) 31) (Int.tmod (wrap64 (a2)) 31) bt592.2.2 bt596.2.2 true a0_0 a0_1 bt592.1 bt592.2.1 bt596.1 bt596.2.1))))) else ((withylaw01_summed.f k).bind fun t591 => (some t591)))
theorem withylaw01_NumPowers.mono_l : ∀ k, (∀ y0 y1 y2 y3 y4 y5 y6 y7 y8 y9 y10, LeO (withylaw01_NumPowers.j0 k y0 y1 y2 y3 y4 y5 y6 y7 y8 y9 y10) (withylaw01_NumPowers.j0 (k + 1) y0 y1 y2 y3 y4 y5 y6 y7 y8 y9 y10)) ∧ (∀ y0 y1 y2 y3 y4 y5 y6 y7 y8 y9, LeO (withylaw01_NumPowers.j1 k y0 y1 y2 y3 y4 y5 y6 y7 y8 y9) (withylaw01_NumPowers.j1 (k + 1) y0 y1 y2 y3 y4 y5 y6 y7 y8 y9)) ∧ (∀ y0 y1 y2 y3 y4 y5, LeO (withylaw01_NumPowers.j2 k y0 y1 y2 y3 y4 y5) (withylaw01_NumPowers.j2 (k + 1) y0 y1 y2 y3 y4 y5))
  | 0 => ⟨fun _ _ _ _ _ _ _ _ _ _ _ r h => by simp [withylaw01_NumPowers.j0] at h, fun _ _ _ _ _ _ _ _ _ _ r h => by simp [withylaw01_NumPowers.j1] at h, fun _ _ _ _ _ _ r h => by simp [withylaw01_NumPowers.j2] at h⟩
  | k + 1 => by
    obtain ⟨ih0, ih1, ih2⟩ := withylaw01_NumPowers.mono_l k
    refine ⟨?_, ?_, ?_⟩
    · intro y0 y1 y2 y3 y4 y5 y6 y7 y8 y9 y10
      unfold withylaw01_NumPowers.j0
      repeat' first
      | (with_reducible exact ih0 _ _ _ _ _ _ _ _ _ _ _)
      | (with_reducible exact ih1 _ _ _ _ _ _ _ _ _ _)
      | (with_reducible exact ih2 _ _ _ _ _ _)
      | (with_reducible exact num_Mul.mono _ _ _ _ _)
      | (with_reducible exact num_Pow.mono _ _ _ _)
      | (with_reducible exact withylaw01_summed.mono _)
      | (with_reducible exact withyref01_Check.mono _ _ _)
      | (with_reducible exact LeO.refl _)
      | (with_reducible exact LeO.none _)
      | (with_reducible refine LeO.ite ?_ ?_)
      | (with_reducible refine LeO.bind ?_ (fun _ => ?_))
      | (with_reducible refine LeO.exc (fun _ => ?_) (fun _ => ?_))
      | exact ih0 _ _ _ _ _ _ _ _ _ _ _
      | exact ih1 _ _ _ _ _ _ _ _ _ _
      | exact ih2 _ _ _ _ _ _
      | exact num_Mul.mono _ _ _ _ _
      | exact num_Pow.mono _ _ _ _
      | exact withylaw01_summed.mono _
      | exact withyref01_Check.mono _ _ _
      | exact LeO.none _
      | refine LeO.ite ?_ ?_
      | refine LeO.bind ?_ (fun _ => ?_)
    · intro y0 y1 y2 y3 y4 y5 y6 y7 y8 y9
      unfold withylaw01_NumPowers.j1
      repeat' first
      | (with_reducible exact ih0 _ _ _ _ _ _ _ _ _ _ _)
      | (with_reducible exact ih1 _ _ _ _ _ _ _ _ _ _)
      | (with_reducible exact ih2 _ _ _ _ _ _)
      | (with_reducible exact num_Mul.mono _ _ _ _ _)
      | (with_reducible exact num_Pow.mono _ _ _ _)
      | (with_reducible exact withylaw01_summed.mono _)
      | (with_reducible exact withyref01_Check.mono _ _ _)
      | (with_reducible exact LeO.refl _)
      | (with_reducible exact LeO.none _)
      | (with_reducible refine LeO.ite ?_ ?_)
      | (with_reducible refine LeO.bind ?_ (fun _ => ?_))
      | (with_reducible refine LeO.exc (fun _ => ?_) (fun _ => ?_))
      | exact ih0 _ _ _ _ _ _ _ _ _ _ _
      | exact ih1 _ _ _ _ _ _ _ _ _ _
      | exact ih2 _ _ _ _ _ _
      | exact num_Mul.mono _ _ _ _ _
      | exact num_Pow.mono _ _ _ _
      | exact withylaw01_summed.mono _
      | exact withyref01_Check.mono _ _ _
      | exact LeO.none _
      | refine LeO.ite ?_ ?_
      | refine LeO.bind ?_ (fun _ => ?_)
    · intro y0 y1 y2 y3 y4 y5
      unfold withylaw01_NumPowers.j2
      repeat' first
      | (with_reducible exact ih0 _ _ _ _ _ _ _ _ _ _ _)
      | (with_reducible exact ih1 _ _ _ _ _ _ _ _ _ _)
      | (with_reducible exact ih2 _ _ _ _ _ _)
      | (with_reducible exact num_Mul.mono _ _ _ _ _)
      | (with_reducible exact num_Pow.mono _ _ _ _)
      | (with_reducible exact withylaw01_summed.mono _)
      | (with_reducible exact withyref01_Check.mono _ _ _)
      | (with_reducible exact LeO.refl _)
      | (with_reducible exact LeO.none _)
      | (with_reducible refine LeO.ite ?_ ?_)
      | (with_reducible refine LeO.bind ?_ (fun _ => ?_))
      | (with_reducible refine LeO.exc (fun _ => ?_) (fun _ => ?_))
      | exact ih0 _ _ _ _ _ _ _ _ _ _ _
      | exact ih1 _ _ _ _ _ _ _ _ _ _
      | exact ih2 _ _ _ _ _ _
      | exact num_Mul.mono _ _ _ _ _
      | exact num_Pow.mono _ _ _ _
      | exact withylaw01_summed.mono _
      | exact withyref01_Check.mono _ _ _
      | exact LeO.none _
      | refine LeO.ite ?_ ?_
      | refine LeO.bind ?_ (fun _ => ?_)
theorem withylaw01_NumPowers.mono : ∀ a0 a1 a2 a3 k, LeO (withylaw01_NumPowers.f k a0 a1 a2 a3) (withylaw01_NumPowers.f (k + 1) a0 a1 a2 a3) := by
  intro a0 a1 a2 a3 k
  obtain ⟨ih0, ih1, ih2⟩ := withylaw01_NumPowers.mono_l k
  unfold withylaw01_NumPowers.f
  repeat' first
      | (with_reducible exact ih0 _ _ _ _ _ _ _ _ _ _ _)
      | (with_reducible exact ih1 _ _ _ _ _ _ _ _ _ _)
      | (with_reducible exact ih2 _ _ _ _ _ _)
      | (with_reducible exact num_Mul.mono _ _ _ _ _)
      | (with_reducible exact num_Pow.mono _ _ _ _)
      | (with_reducible exact withylaw01_summed.mono _)
      | (with_reducible exact withyref01_Check.mono _ _ _)
      | (with_reducible exact LeO.refl _)
      | (with_reducible exact LeO.none _)
      | (with_reducible refine LeO.ite ?_ ?_)
      | (with_reducible refine LeO.bind ?_ (fun _ => ?_))
      | (with_reducible refine LeO.exc (fun _ => ?_) (fun _ => ?_))
      | exact ih0 _ _ _ _ _ _ _ _ _ _ _
      | exact ih1 _ _ _ _ _ _ _ _ _ _
      | exact ih2 _ _ _ _ _ _
      | exact num_Mul.mono _ _ _ _ _
      | exact num_Pow.mono _ _ _ _
      | exact withylaw01_summed.mono _
      | exact withyref01_Check.mono _ _ _
      | exact LeO.none _
      | refine LeO.ite ?_ ?_
      | refine LeO.bind ?_ (fun _ => ?_)
set_option maxHeartbeats 8000000 in
set_option maxRecDepth 100000 in
theorem withylaw01_NumPowers.calls (k : Nat) (a0_0 : Int) (a0_1 : Int) (a1 : Int) (a2 : Int) (r : Bool) (w : World) (h : withylaw01_NumPowers.f k a0_0 a0_1 a1 a2 = some r) :
    Calls Try.prog 9 #[.agg #[.int .i64 a0_0, .int .i64 a0_1], .int .u8 a1, .int .u8 a2] w fun e w' => e = .returned (.bool r) ∧ Below w.heap.size w w' := by
  have hu23 := Try.underlying23
  have HB := Aside0.mk (Below.refl w.heap.size w)
  have H : ((withyref01_Check.f k a0_0 a0_1).bind fun t590 => (if t590 = 0 then ((num_Pow.f k a0_0 a0_1 (Int.tmod (wrap64 (a1)) 31)).bind fun bt592 => ((num_Pow.f k a0_0 a0_1 (Int.tmod (wrap64 (a2)) 31)).bind fun bt596 => ((num_Pow.f k a0_0 a0_1 0).bind fun bt600 => (if bt600.2.2 = 0 then ((withylaw01_one.f).bind fun bt604 => (withylaw01_NumPowers.j0 k (Int.tmod (wrap64 (a1)) 31) (Int.tmod (wrap64 (a2)) 31) bt592.2.2 bt596.2.2 (!(bt600.1 == bt604.1) || (!(bt600.2.1 == bt604.2))) a0_0 a0_1 bt592.1 bt592.2.1 bt596.1 bt596.2.1)) else (withylaw01_NumPowers.j0 k (Int.tmod (wrap64 (a1)) 31) (Int.tmod (wrap64 (a2)) 31) bt592.2.2 bt596.2.2 true a0_0 a0_1 bt592.1 bt592.2.1 bt596.1 bt596.2.1))))) else ((withylaw01_summed.f k).bind fun t591 => (some t591)))) = some r := h
  clear h
  replace H := Option.bind_eq_some_iff.mp H
  obtain ⟨t590, A40, H⟩ := H
  replace H : (if t590 = 0 then ((num_Pow.f k a0_0 a0_1 (Int.tmod (wrap64 (a1)) 31)).bind fun bt592 => ((num_Pow.f k a0_0 a0_1 (Int.tmod (wrap64 (a2)) 31)).bind fun bt596 => ((num_Pow.f k a0_0 a0_1 0).bind fun bt600 => (if bt600.2.2 = 0 then ((withylaw01_one.f).bind fun bt604 => (withylaw01_NumPowers.j0 k (Int.tmod (wrap64 (a1)) 31) (Int.tmod (wrap64 (a2)) 31) bt592.2.2 bt596.2.2 (!(bt600.1 == bt604.1) || (!(bt600.2.1 == bt604.2))) a0_0 a0_1 bt592.1 bt592.2.1 bt596.1 bt596.2.1)) else (withylaw01_NumPowers.j0 k (Int.tmod (wrap64 (a1)) 31) (Int.tmod (wrap64 (a2)) 31) bt592.2.2 bt596.2.2 true a0_0 a0_1 bt592.1 bt592.2.1 bt596.1 bt596.2.1))))) else ((withylaw01_summed.f k).bind fun t591 => (some t591))) = some r := H
  have A4 := Aside0.mk A40
  clear A40
  by_cases c5 : t590 = 0
  · rw [if_pos c5] at H
    have c5b0 : (t590 == 0) = true := beq_iff_eq.mpr c5
    have c5b1 : (t590 != 0) = false := bne_eq_false_iff_eq.mpr c5
    clear c5
    replace H := Option.bind_eq_some_iff.mp H
    obtain ⟨⟨t592, t593, t594⟩, A60, H⟩ := H
    replace H : ((num_Pow.f k a0_0 a0_1 (Int.tmod (wrap64 (a2)) 31)).bind fun bt596 => ((num_Pow.f k a0_0 a0_1 0).bind fun bt600 => (if bt600.2.2 = 0 then ((withylaw01_one.f).bind fun bt604 => (withylaw01_NumPowers.j0 k (Int.tmod (wrap64 (a1)) 31) (Int.tmod (wrap64 (a2)) 31) t594 bt596.2.2 (!(bt600.1 == bt604.1) || (!(bt600.2.1 == bt604.2))) a0_0 a0_1 t592 t593 bt596.1 bt596.2.1)) else (withylaw01_NumPowers.j0 k (Int.tmod (wrap64 (a1)) 31) (Int.tmod (wrap64 (a2)) 31) t594 bt596.2.2 true a0_0 a0_1 t592 t593 bt596.1 bt596.2.1)))) = some r := H
    have A6 := Aside0.mk A60
    clear A60
    replace H := Option.bind_eq_some_iff.mp H
    obtain ⟨⟨t596, t597, t598⟩, A70, H⟩ := H
    replace H : ((num_Pow.f k a0_0 a0_1 0).bind fun bt600 => (if bt600.2.2 = 0 then ((withylaw01_one.f).bind fun bt604 => (withylaw01_NumPowers.j0 k (Int.tmod (wrap64 (a1)) 31) (Int.tmod (wrap64 (a2)) 31) t594 t598 (!(bt600.1 == bt604.1) || (!(bt600.2.1 == bt604.2))) a0_0 a0_1 t592 t593 t596 t597)) else (withylaw01_NumPowers.j0 k (Int.tmod (wrap64 (a1)) 31) (Int.tmod (wrap64 (a2)) 31) t594 t598 true a0_0 a0_1 t592 t593 t596 t597))) = some r := H
    have A7 := Aside0.mk A70
    clear A70
    replace H := Option.bind_eq_some_iff.mp H
    obtain ⟨⟨t600, t601, t602⟩, A80, H⟩ := H
    replace H : (if t602 = 0 then ((withylaw01_one.f).bind fun bt604 => (withylaw01_NumPowers.j0 k (Int.tmod (wrap64 (a1)) 31) (Int.tmod (wrap64 (a2)) 31) t594 t598 (!(t600 == bt604.1) || (!(t601 == bt604.2))) a0_0 a0_1 t592 t593 t596 t597)) else (withylaw01_NumPowers.j0 k (Int.tmod (wrap64 (a1)) 31) (Int.tmod (wrap64 (a2)) 31) t594 t598 true a0_0 a0_1 t592 t593 t596 t597)) = some r := H
    have A8 := Aside0.mk A80
    clear A80
    have HC9 := Aside0.mk H
    clear H
    as_aux_lemma =>
      go_enter Try.func9, Try.ntmps9
      go_upto_region 7 with (first | ((with_reducible refine gate_dst (N := 3) rfl ?_); refine box_event ?hg (N := 3) ?hd (cs := #[.int .i64 a0_0, .int .i64 a0_1]) (t := 23) ?hr ?_; (case hd => rfl); (case hg => rfl); (case hr => first | (go_simp; done) | (go_simp; rfl)); intro gb589 hg w10 hbox hb; have BK589 := Aside0.mk hbox; have GW589 := bwg_ HB hg; have GE589 := bwg_ HB hg; replace HB := bws_ HB hb; clear hb hbox hg; obtain ⟨hcz11_0, hcz11_1, hfz11_0, hfz11_1⟩ := bc2_ BK589) | ((with_reducible refine gate_callee (f := 41) rfl ?_); refine gla_ (some 24) Try.func41 #[.agg #[.int .i64 a0_0, .int .i64 a0_1]] ?_; (with_reducible refine (withyref01_Check.calls k a0_0 a0_1 t590 _ A4.out).mono ?_); rintro e w12 ⟨rfl, hb⟩; refine ⟨_, rfl, ?_⟩; replace BK589 := bkb_ BK589 hb; replace HB := bws_ HB hb; (try clear hb); (try clear hb2); (try clear hk); (try clear hi); obtain ⟨hcz13_0, hcz13_1, hfz13_0, hfz13_1⟩ := bc2_ BK589) | ((with_reducible refine gate_callee (f := 44) rfl ?_); refine gla_ (some 36) Try.func44 #[.agg #[.int .i64 a0_0, .int .i64 a0_1], .int .i64 (Int.tmod (wrap64 (a1)) 31)] ?_; (with_reducible refine (num_Pow.calls k a0_0 a0_1 (Int.tmod (wrap64 (a1)) 31) t592 t593 t594 _ A6.out).mono ?_); rintro e w14 ⟨rfl, hb⟩; refine ⟨_, rfl, ?_⟩; replace BK589 := bkb_ BK589 hb; replace HB := bws_ HB hb; (try clear hb); (try clear hb2); (try clear hk); (try clear hi)) | ((with_reducible refine gate_dst (N := 9) rfl ?_); refine box_event ?hg (N := 9) ?hd (cs := #[.int .i64 0, .int .i64 0]) (t := 23) ?hr ?_; (case hd => rfl); (case hg => rfl); (case hr => first | (go_simp; done) | (go_simp; rfl)); intro gb595 hg w15 hbox hb; have BK595 := Aside0.mk hbox; have GW595 := bwg_ HB hg; have GE595 := bwg_ HB hg; replace HB := bws_ HB hb; have NB589_595 := bkl_ BK589 hg; have NB595_589 := bkr_ BK589 hg; replace BK589 := bkb_ BK589 hb; clear hb hbox hg; have hnb16 := NB595_589.out; have hnc16 := NB589_595.out; obtain ⟨hcz17_0, hcz17_1, hfz17_0, hfz17_1⟩ := bc2_ BK595; obtain ⟨hcz18_0, hcz18_1, hfz18_0, hfz18_1⟩ := bc2_ BK589) | ((with_reducible refine gate_callee (f := 44) rfl ?_); refine gla_ (some 42) Try.func44 #[.agg #[.int .i64 a0_0, .int .i64 a0_1], .int .i64 (Int.tmod (wrap64 (a2)) 31)] ?_; (with_reducible refine (num_Pow.calls k a0_0 a0_1 (Int.tmod (wrap64 (a2)) 31) t596 t597 t598 _ A7.out).mono ?_); rintro e w19 ⟨rfl, hb⟩; refine ⟨_, rfl, ?_⟩; replace BK589 := Aside0.mk (blk_below (g := gb589) (o := .cells #[.int .i64 a0_0, .int .i64 a0_1] 23 (0, 0)) (by refine bf_ ?_ NB589_595; refine bf_ ?_ NB589_595; exact bk_ BK589) hb); replace BK595 := Aside0.mk (blk_below (g := gb595) (o := .cells #[.int .i64 t592, .int .i64 t593] 23 (0, 0)) (by refine bp_ (cs := #[.int .i64 t592, .int .i64 0]) ?_ 1; refine bp_ (cs := #[.int .i64 0, .int .i64 0]) ?_ 0; exact bk_ BK595) hb); replace HB := bws_ HB hb; (try clear hb); (try clear hb2); (try clear hk); (try clear hi)) | ((with_reducible refine gate_dst (N := 11) rfl ?_); refine box_event ?hg (N := 11) ?hd (cs := #[.int .i64 0, .int .i64 0]) (t := 23) ?hr ?_; (case hd => rfl); (case hg => rfl); (case hr => first | (go_simp; done) | (go_simp; rfl)); intro gb599 hg w20 hbox hb; have BK599 := Aside0.mk hbox; have GW599 := bwg_ HB hg; have GE599 := bwg_ HB hg; replace HB := bws_ HB hb; have NB589_599 := bkl_ BK589 hg; have NB599_589 := bkr_ BK589 hg; replace BK589 := bkb_ BK589 hb; have NB595_599 := bkl_ BK595 hg; have NB599_595 := bkr_ BK595 hg; replace BK595 := bkb_ BK595 hb; clear hb hbox hg; have hnb21 := NB599_589.out; have hnc21 := NB589_599.out; have hnb22 := NB599_595.out; have hnc22 := NB595_599.out; obtain ⟨hcz23_0, hcz23_1, hfz23_0, hfz23_1⟩ := bc2_ BK599; obtain ⟨hcz24_0, hcz24_1, hfz24_0, hfz24_1⟩ := bc2_ BK589) | ((with_reducible refine gate_callee (f := 44) rfl ?_); refine gla_ (some 47) Try.func44 #[.agg #[.int .i64 a0_0, .int .i64 a0_1], .int .i64 0] ?_; (with_reducible refine (num_Pow.calls k a0_0 a0_1 0 t600 t601 t602 _ A8.out).mono ?_); rintro e w25 ⟨rfl, hb⟩; refine ⟨_, rfl, ?_⟩; replace BK589 := Aside0.mk (blk_below (g := gb589) (o := .cells #[.int .i64 a0_0, .int .i64 a0_1] 23 (0, 0)) (by refine bf_ ?_ NB589_599; refine bf_ ?_ NB589_599; exact bk_ BK589) hb); replace BK595 := Aside0.mk (blk_below (g := gb595) (o := .cells #[.int .i64 t592, .int .i64 t593] 23 (0, 0)) (by refine bf_ ?_ NB595_599; refine bf_ ?_ NB595_599; exact bk_ BK595) hb); replace BK599 := Aside0.mk (blk_below (g := gb599) (o := .cells #[.int .i64 t596, .int .i64 t597] 23 (0, 0)) (by refine bp_ (cs := #[.int .i64 t596, .int .i64 0]) ?_ 1; refine bp_ (cs := #[.int .i64 0, .int .i64 0]) ?_ 0; exact bk_ BK599) hb); replace HB := bws_ HB hb; (try clear hb); (try clear hb2); (try clear hk); (try clear hi)) | ((with_reducible refine gate_dst (N := 13) rfl ?_); refine box_event ?hg (N := 13) ?hd (cs := #[.int .i64 0, .int .i64 0]) (t := 23) ?hr ?_; (case hd => rfl); (case hg => rfl); (case hr => first | (go_simp; done) | (go_simp; rfl)); intro gb603 hg w26 hbox hb; have BK603 := Aside0.mk hbox; have GW603 := bwg_ HB hg; have GE603 := bwg_ HB hg; replace HB := bws_ HB hb; have NB589_603 := bkl_ BK589 hg; have NB603_589 := bkr_ BK589 hg; replace BK589 := bkb_ BK589 hb; have NB595_603 := bkl_ BK595 hg; have NB603_595 := bkr_ BK595 hg; replace BK595 := bkb_ BK595 hb; have NB599_603 := bkl_ BK599 hg; have NB603_599 := bkr_ BK599 hg; replace BK599 := bkb_ BK599 hb; clear hb hbox hg; have hnb27 := NB603_589.out; have hnc27 := NB589_603.out; have hnb28 := NB603_595.out; have hnc28 := NB595_603.out; have hnb29 := NB603_599.out; have hnc29 := NB599_603.out; obtain ⟨hcz30_0, hcz30_1, hfz30_0, hfz30_1⟩ := bc2_ BK603))
      (try simp only [Act.put, List.setIfInBounds_toArray, List.set_cons_zero, List.set_cons_succ])
      go_cut [56] (fun v56 wc => ∃ (kq : Nat) (x56_8 : Bool), v56 = .bool x56_8 ∧ Aside0 (withylaw01_NumPowers.j0 kq (Int.tmod (wrap64 (a1)) 31) (Int.tmod (wrap64 (a2)) 31) t594 t598 x56_8 a0_0 a0_1 t592 t593 t596 t597 = some r) ∧ Aside0 (kq ≤ k) ∧ Aside0 (wc.heap[gb589]? = some (.cells #[.int .i64 a0_0, .int .i64 a0_1] 23 (0, 0))) ∧ Aside0 (wc.heap[gb595]? = some (.cells #[.int .i64 t592, .int .i64 t593] 23 (0, 0))) ∧ Aside0 (wc.heap[gb599]? = some (.cells #[.int .i64 t596, .int .i64 t597] 23 (0, 0))) ∧ Aside0 (wc.heap[gb603]? = some (.cells #[.int .i64 t600, .int .i64 t601] 23 (0, 0))) ∧ Aside0 (Below w.heap.size w wc))
      case first =>
        as_aux_lemma =>
          have H := HC9.out
          clear HC9
          by_cases c31 : t602 = 0
          · rw [if_pos c31] at H
            have c31b0 : (t602 == 0) = true := beq_iff_eq.mpr c31
            have c31b1 : (t602 != 0) = false := bne_eq_false_iff_eq.mpr c31
            clear c31
            (first | rw [c31b0] | (simp only [i64_w, i32_w]; rw [c31b0]) | skip)
            replace H := Option.bind_eq_some_iff.mp H
            obtain ⟨⟨t604, t605⟩, A320, H⟩ := H
            replace H : (withylaw01_NumPowers.j0 k (Int.tmod (wrap64 (a1)) 31) (Int.tmod (wrap64 (a2)) 31) t594 t598 (!(t600 == t604) || (!(t601 == t605))) a0_0 a0_1 t592 t593 t596 t597) = some r := H
            have A32 := Aside0.mk A320
            clear A320
            have H' := Aside0.mk H
            clear H
            try go_wp2
            have n0_ : Aside0 (((w26.setCell ⟨gb603, 0, none⟩ (.int .i64 t600)).setCell ⟨gb603, 1, none⟩ (.int .i64 t601)).heap[gb589]? = some (.cells #[.int .i64 a0_0, .int .i64 a0_1] 23 (0, 0))) := ⟨by refine bf_ ?_ NB589_603; refine bf_ ?_ NB589_603; exact bk_ BK589⟩
            have n1_ : Aside0 (((w26.setCell ⟨gb603, 0, none⟩ (.int .i64 t600)).setCell ⟨gb603, 1, none⟩ (.int .i64 t601)).heap[gb595]? = some (.cells #[.int .i64 t592, .int .i64 t593] 23 (0, 0))) := ⟨by refine bf_ ?_ NB595_603; refine bf_ ?_ NB595_603; exact bk_ BK595⟩
            have n2_ : Aside0 (((w26.setCell ⟨gb603, 0, none⟩ (.int .i64 t600)).setCell ⟨gb603, 1, none⟩ (.int .i64 t601)).heap[gb599]? = some (.cells #[.int .i64 t596, .int .i64 t597] 23 (0, 0))) := ⟨by refine bf_ ?_ NB599_603; refine bf_ ?_ NB599_603; exact bk_ BK599⟩
            have n3_ : Aside0 (((w26.setCell ⟨gb603, 0, none⟩ (.int .i64 t600)).setCell ⟨gb603, 1, none⟩ (.int .i64 t601)).heap[gb603]? = some (.cells #[.int .i64 t600, .int .i64 t601] 23 (0, 0))) := ⟨by refine bp_ (cs := #[.int .i64 t600, .int .i64 0]) ?_ 1; refine bp_ (cs := #[.int .i64 0, .int .i64 0]) ?_ 0; exact bk_ BK603⟩
            have n4_ : Aside0 (Below w.heap.size w ((w26.setCell ⟨gb603, 0, none⟩ (.int .i64 t600)).setCell ⟨gb603, 1, none⟩ (.int .i64 t601))) := ⟨bw_ HB⟩
            (try clear BK589)
            (try clear BK595)
            (try clear BK599)
            (try clear BK603)
            (try clear HB)
            generalize ((w26.setCell ⟨gb603, 0, none⟩ (.int .i64 t600)).setCell ⟨gb603, 1, none⟩ (.int .i64 t601)) = w33 at n0_ n1_ n2_ n3_ n4_ ⊢
            have BK589 := n0_
            have BK595 := n1_
            have BK599 := n2_
            have BK603 := n3_
            have HB := n4_
            clear n0_ n1_ n2_ n3_ n4_
            replace BK589 := Aside0.mk (blk_drew BK589.out)
            replace BK595 := Aside0.mk (blk_drew BK595.out)
            replace BK599 := Aside0.mk (blk_drew BK599.out)
            replace BK603 := Aside0.mk (blk_drew BK603.out)
            replace HB := Aside0.mk (below_drew1 HB.out)
            refine start_ (n := 7) (S := fun w' => w'.cell? ⟨gb603, 0, none⟩ = some (.int .i64 t600) ∧ w'.cell? ⟨gb603, 1, none⟩ = some (.int .i64 t601)) (ds := []) #[false, false, false, false, false, false, false] (by kernel_rfl) rfl rfl ⟨(blk_cell BK603.out 0).trans rfl, (blk_cell BK603.out 1).trans rfl⟩ (fun hHeld => ?_)
            generalize w33.drew = w34 at BK589 BK595 BK599 BK603 HB hHeld ⊢
            refine pure_ (i := 0) (N := some 50) (v := ?_) (a' := ?_) #[true, false, false, false, false, false, false] rfl rfl (by kernel_rfl) (fun _ _ _ h => h) (Or.inl ⟨by rfl, ?_⟩) ?_ ?_
            rotate_left
            · intro w'
              go_simp
              with_reducible rfl
            rotate_left
            · simp only [Act.put, List.setIfInBounds_toArray, List.set_cons_zero, List.set_cons_succ, i64_w, i32_w]
              rfl
            refine pure_ (i := 1) (N := some 51) (v := ?_) (a' := ?_) #[true, true, false, false, false, false, false] rfl rfl (by kernel_rfl) (fun _ _ _ h => h) (Or.inl ⟨by rfl, ?_⟩) ?_ ?_
            rotate_left
            · intro w'
              go_simp
              with_reducible rfl
            rotate_left
            · simp only [Act.put, List.setIfInBounds_toArray, List.set_cons_zero, List.set_cons_succ, i64_w, i32_w]
              rfl
            refine pure_ (i := 2) (N := some 52) (v := ?_) (a' := ?_) #[true, true, true, false, false, false, false] rfl rfl (by kernel_rfl) (fun _ _ _ h => h) (Or.inl ⟨by rfl, ?_⟩) ?_ ?_
            rotate_left
            · intro w'
              go_simp
              with_reducible rfl
            rotate_left
            · simp only [Act.put, List.setIfInBounds_toArray, List.set_cons_zero, List.set_cons_succ, i64_w, i32_w]
              rfl
            refine take_ (i := 3) (N := some 53) (v := ?_) (a' := ?_) #[true, true, true, true, false, false, false] rfl rfl (by kernel_rfl) (fun _ _ _ h => h) (Or.inl ⟨by rfl, ?_⟩) hHeld ?_ ?_
            rotate_left
            · rintro w' ⟨s0, s1⟩
              go_simp
              with_reducible rfl
            rotate_left
            · simp only [Act.put, List.setIfInBounds_toArray, List.set_cons_zero, List.set_cons_succ, i64_w, i32_w]
              rfl
            refine one_ (i := 4) (N := some 54) #[true, true, true, true, true, false, false] rfl rfl (by kernel_rfl) (by decide) (fun K hK => ?_)
            refine gos_ Try.func23 #[] ?_
            with_reducible refine (withylaw01_one.calls  t604 t605 _ A32.out).mono ?_
            rintro e w35 ⟨rfl, hb⟩
            refine ⟨_, rfl, ?_⟩
            replace BK589 := bkb_ BK589 hb
            replace BK595 := bkb_ BK595 hb
            replace BK599 := bkb_ BK599 hb
            replace BK603 := bkb_ BK603 hb
            replace HB := bws_ HB hb
            (try clear hb)
            (try clear hb2)
            (try clear hk)
            (try clear hi)
            refine hK.out _ _ ⟨(blk_cell BK603.out 0).trans rfl, (blk_cell BK603.out 1).trans rfl⟩ (fun hHeld => ?_)
            clear hK K
            refine norm_ (a' := ?_) ?_ ?_
            rotate_left
            · show Act.put _ (some 54) _ = _
              simp only [Act.put, List.setIfInBounds_toArray, List.set_cons_zero, List.set_cons_succ, i64_w, i32_w]
              rfl
            refine pure_ (i := 5) (N := some 55) (v := ?_) (a' := ?_) #[true, true, true, true, true, true, false] rfl rfl (by kernel_rfl) (fun _ _ _ h => h) (Or.inl ⟨by rfl, ?_⟩) ?_ ?_
            rotate_left
            · intro w'
              go_simp
              with_reducible rfl
            rotate_left
            · simp only [Act.put, List.setIfInBounds_toArray, List.set_cons_zero, List.set_cons_succ, i64_w, i32_w]
              rfl
            refine pure_ (i := 6) (N := some 56) (v := ?_) (a' := ?_) #[true, true, true, true, true, true, true] rfl rfl (by kernel_rfl) (fun _ _ _ h => h) (Or.inl ⟨by rfl, ?_⟩) ?_ ?_
            rotate_left
            · intro w'
              go_simp
              with_reducible rfl
            rotate_left
            · simp only [Act.put, List.setIfInBounds_toArray, List.set_cons_zero, List.set_cons_succ, i64_w, i32_w]
              rfl
            refine done_ (by kernel_rfl) ?_
            try go_wp2
            go_meet
            case rel => exact ⟨_, ((!(t600 == t604) || (!(t601 == t605)))), (by first | rfl | (simp; done) | (simp [*]; done)), H', ⟨by first | omega | exact Nat.le_refl _⟩, ⟨by exact bk_ BK589⟩, ⟨by exact bk_ BK595⟩, ⟨by exact bk_ BK599⟩, ⟨by exact bk_ BK603⟩, ⟨bw_ HB⟩⟩
          · rw [if_neg c31] at H
            have c31b0 : (t602 == 0) = false := beq_eq_false_iff_ne.mpr c31
            have c31b1 : (t602 != 0) = true := bne_iff_ne.mpr c31
            (first | rw [c31b0] | (simp only [i64_w, i32_w]; rw [c31b0]) | skip)
            have H' := Aside0.mk H
            clear H
            try go_wp2
            have n0_ : Aside0 (((w26.setCell ⟨gb603, 0, none⟩ (.int .i64 t600)).setCell ⟨gb603, 1, none⟩ (.int .i64 t601)).heap[gb589]? = some (.cells #[.int .i64 a0_0, .int .i64 a0_1] 23 (0, 0))) := ⟨by refine bf_ ?_ NB589_603; refine bf_ ?_ NB589_603; exact bk_ BK589⟩
            have n1_ : Aside0 (((w26.setCell ⟨gb603, 0, none⟩ (.int .i64 t600)).setCell ⟨gb603, 1, none⟩ (.int .i64 t601)).heap[gb595]? = some (.cells #[.int .i64 t592, .int .i64 t593] 23 (0, 0))) := ⟨by refine bf_ ?_ NB595_603; refine bf_ ?_ NB595_603; exact bk_ BK595⟩
            have n2_ : Aside0 (((w26.setCell ⟨gb603, 0, none⟩ (.int .i64 t600)).setCell ⟨gb603, 1, none⟩ (.int .i64 t601)).heap[gb599]? = some (.cells #[.int .i64 t596, .int .i64 t597] 23 (0, 0))) := ⟨by refine bf_ ?_ NB599_603; refine bf_ ?_ NB599_603; exact bk_ BK599⟩
            have n3_ : Aside0 (((w26.setCell ⟨gb603, 0, none⟩ (.int .i64 t600)).setCell ⟨gb603, 1, none⟩ (.int .i64 t601)).heap[gb603]? = some (.cells #[.int .i64 t600, .int .i64 t601] 23 (0, 0))) := ⟨by refine bp_ (cs := #[.int .i64 t600, .int .i64 0]) ?_ 1; refine bp_ (cs := #[.int .i64 0, .int .i64 0]) ?_ 0; exact bk_ BK603⟩
            have n4_ : Aside0 (Below w.heap.size w ((w26.setCell ⟨gb603, 0, none⟩ (.int .i64 t600)).setCell ⟨gb603, 1, none⟩ (.int .i64 t601))) := ⟨bw_ HB⟩
            (try clear BK589)
            (try clear BK595)
            (try clear BK599)
            (try clear BK603)
            (try clear HB)
            generalize ((w26.setCell ⟨gb603, 0, none⟩ (.int .i64 t600)).setCell ⟨gb603, 1, none⟩ (.int .i64 t601)) = w36 at n0_ n1_ n2_ n3_ n4_ ⊢
            have BK589 := n0_
            have BK595 := n1_
            have BK599 := n2_
            have BK603 := n3_
            have HB := n4_
            clear n0_ n1_ n2_ n3_ n4_
            replace BK589 := Aside0.mk (blk_drew BK589.out)
            replace BK595 := Aside0.mk (blk_drew BK595.out)
            replace BK599 := Aside0.mk (blk_drew BK599.out)
            replace BK603 := Aside0.mk (blk_drew BK603.out)
            replace HB := Aside0.mk (below_drew1 HB.out)
            refine start_ (n := 7) (S := fun w' => True) (ds := []) #[false, false, false, false, false, false, false] (by kernel_rfl) rfl rfl trivial (fun hHeld => ?_)
            generalize w36.drew = w37 at BK589 BK595 BK599 BK603 HB hHeld ⊢
            refine pure_ (i := 0) (N := some 50) (v := ?_) (a' := ?_) #[true, false, false, false, false, false, false] rfl rfl (by kernel_rfl) (fun _ _ _ h => h) (Or.inl ⟨by rfl, ?_⟩) ?_ ?_
            rotate_left
            · intro w'
              go_simp
              with_reducible rfl
            rotate_left
            · simp only [Act.put, List.setIfInBounds_toArray, List.set_cons_zero, List.set_cons_succ, i64_w, i32_w]
              rfl
            refine pure_ (i := 1) (N := some 51) (v := ?_) (a' := ?_) #[true, true, false, false, false, false, false] rfl rfl (by kernel_rfl) (fun _ _ _ h => h) (Or.inl ⟨by rfl, ?_⟩) ?_ ?_
            rotate_left
            · intro w'
              go_simp
              with_reducible rfl
            rotate_left
            · simp only [Act.put, List.setIfInBounds_toArray, List.set_cons_zero, List.set_cons_succ, i64_w, i32_w]
              rfl
            refine pure_ (i := 2) (N := some 52) (v := ?_) (a' := ?_) #[true, true, true, false, false, false, false] rfl rfl (by kernel_rfl) (fun _ _ _ h => h) (Or.inl ⟨by rfl, ?_⟩) ?_ ?_
            rotate_left
            · intro w'
              go_simp
              with_reducible rfl
            rotate_left
            · simp only [Act.put, List.setIfInBounds_toArray, List.set_cons_zero, List.set_cons_succ, i64_w, i32_w]
              rfl
            refine pure_ (i := 3) (N := some 53) (v := undef) (a' := ?_) #[true, true, true, true, false, false, false] rfl rfl (by kernel_rfl) (fun _ _ _ h => h) (Or.inr ⟨by rfl, rfl⟩) ?_ ?_
            rotate_left
            · simp only [Act.put, List.setIfInBounds_toArray, List.set_cons_zero, List.set_cons_succ, i64_w, i32_w]
              rfl
            refine pure_ (i := 4) (N := some 54) (v := undef) (a' := ?_) #[true, true, true, true, true, false, false] rfl rfl (by kernel_rfl) (fun _ _ _ h => h) (Or.inr ⟨by rfl, rfl⟩) ?_ ?_
            rotate_left
            · simp only [Act.put, List.setIfInBounds_toArray, List.set_cons_zero, List.set_cons_succ, i64_w, i32_w]
              rfl
            refine pure_ (i := 5) (N := some 55) (v := undef) (a' := ?_) #[true, true, true, true, true, true, false] rfl rfl (by kernel_rfl) (fun _ _ _ h => h) (Or.inr ⟨by rfl, rfl⟩) ?_ ?_
            rotate_left
            · simp only [Act.put, List.setIfInBounds_toArray, List.set_cons_zero, List.set_cons_succ, i64_w, i32_w]
              rfl
            refine pure_ (i := 6) (N := some 56) (v := ?_) (a' := ?_) #[true, true, true, true, true, true, true] rfl rfl (by kernel_rfl) (fun _ _ _ h => h) (Or.inl ⟨by rfl, ?_⟩) ?_ ?_
            rotate_left
            · intro w'
              go_simp
              with_reducible rfl
            rotate_left
            · simp only [Act.put, List.setIfInBounds_toArray, List.set_cons_zero, List.set_cons_succ, i64_w, i32_w]
              rfl
            refine done_ (by kernel_rfl) ?_
            try go_wp2
            go_meet
            case rel => exact ⟨_, (true), (by first | rfl | (simp; done) | (simp [*]; done)), H', ⟨by first | omega | exact Nat.le_refl _⟩, ⟨by exact bk_ BK589⟩, ⟨by exact bk_ BK595⟩, ⟨by exact bk_ BK599⟩, ⟨by exact bk_ BK603⟩, ⟨bw_ HB⟩⟩
      case rest =>
        as_aux_lemma =>
          clear HC9
          try clear c1
          try clear c2
          try clear p2
          try clear c3
          try clear c4
          try clear c5
          try clear c5b0
          try clear c5b1
          try clear p6
          try clear c9
          try clear c16
          try clear c21
          try clear c22
          try clear c23
          try clear c27
          try clear c28
          try clear c29
          try clear c31
          try clear c31b0
          try clear c31b1
          try clear hcz11_0
          try clear hcz11_1
          try clear hcz13_0
          try clear hcz13_1
          try clear hcz17_0
          try clear hcz17_1
          try clear hcz18_0
          try clear hcz18_1
          try clear hcz23_0
          try clear hcz23_1
          try clear hcz24_0
          try clear hcz24_1
          try clear hcz30_0
          try clear hcz30_1
          try clear hfz11_0
          try clear hfz11_1
          try clear hfz13_0
          try clear hfz13_1
          try clear hfz17_0
          try clear hfz17_1
          try clear hfz18_0
          try clear hfz18_1
          try clear hfz23_0
          try clear hfz23_1
          try clear hfz24_0
          try clear hfz24_1
          try clear hfz30_0
          try clear hfz30_1
          obtain ⟨kq, x56_8, rfl, HA, HJ8, BK589, BK595, BK599, BK603, HB⟩ := hcut
          cases kq with
          | zero => exact absurd HA.out (by simp [withylaw01_NumPowers.j0])
          | succ kj8 =>
            have H := HA.out
            clear HA
            simp only [withylaw01_NumPowers.j0] at H
            by_cases c38 : x56_8 = true
            · subst c38
              have H1 : (some false) = some r := by rw [if_pos rfl] at H; exact H
              clear H
              have H := H1
              clear H1
              obtain rfl := Option.some.inj H
              go_wp2
              go_ret
              exact ⟨by first | rfl | (simp [*] <;> rfl), bw_ HB⟩
            · replace c38 := Bool.eq_false_iff.mpr c38
              subst c38
              have H1 : (if (wrap64 ((Int.tmod (wrap64 (a1)) 31) + (Int.tmod (wrap64 (a2)) 31))) ≤ 30 then (if t594 = 0 then (withylaw01_NumPowers.j1 kj8 (Int.tmod (wrap64 (a1)) 31) (Int.tmod (wrap64 (a2)) 31) t594 (t598 == 0) a0_0 a0_1 t592 t593 t596 t597) else (withylaw01_NumPowers.j1 kj8 (Int.tmod (wrap64 (a1)) 31) (Int.tmod (wrap64 (a2)) 31) t594 false a0_0 a0_1 t592 t593 t596 t597)) else (withylaw01_NumPowers.j1 kj8 (Int.tmod (wrap64 (a1)) 31) (Int.tmod (wrap64 (a2)) 31) t594 false a0_0 a0_1 t592 t593 t596 t597)) = some r := by rw [if_neg (show ¬ (false = true) by decide)] at H; exact H
              clear H
              have H := H1
              clear H1
              have HC39 := Aside0.mk H
              clear H
              go_upto_region 9 with (fail)
              go_cut [68] (fun v68 wc => ∃ (kq : Nat) (x68_38 : Bool), v68 = .bool x68_38 ∧ Aside0 (withylaw01_NumPowers.j1 kq (Int.tmod (wrap64 (a1)) 31) (Int.tmod (wrap64 (a2)) 31) t594 x68_38 a0_0 a0_1 t592 t593 t596 t597 = some r) ∧ Aside0 (kq ≤ kj8) ∧ Aside0 (wc.heap[gb589]? = some (.cells #[.int .i64 a0_0, .int .i64 a0_1] 23 (0, 0))) ∧ Aside0 (wc.heap[gb595]? = some (.cells #[.int .i64 t592, .int .i64 t593] 23 (0, 0))) ∧ Aside0 (wc.heap[gb599]? = some (.cells #[.int .i64 t596, .int .i64 t597] 23 (0, 0))) ∧ Aside0 (wc.heap[gb603]? = some (.cells #[.int .i64 t600, .int .i64 t601] 23 (0, 0))) ∧ Aside0 (Below w.heap.size w wc))
              case first =>
                as_aux_lemma =>
                  have H := HC39.out
                  clear HC39
                  by_cases c40 : (wrap64 ((Int.tmod (wrap64 (a1)) 31) + (Int.tmod (wrap64 (a2)) 31))) ≤ 30
                  · rw [if_pos c40] at H
                    have c40b0 : decide ((wrap64 ((Int.tmod (wrap64 (a1)) 31) + (Int.tmod (wrap64 (a2)) 31))) ≤ 30) = true := decide_eq_true c40
                    clear c40
                    (first | rw [c40b0] | (simp only [i64_w, i32_w]; rw [c40b0]) | skip)
                    by_cases c41 : t594 = 0
                    · rw [if_pos c41] at H
                      have c41b0 : (t594 == 0) = true := beq_iff_eq.mpr c41
                      have c41b1 : (t594 != 0) = false := bne_eq_false_iff_eq.mpr c41
                      clear c41
                      have H' := Aside0.mk H
                      clear H
                      go_wp2
                      go_meet
                      case rel => exact ⟨_, ((t598 == 0)), (by first | rfl | (simp; done) | (simp [*]; done)), H', ⟨by have := HJ8.out; first | omega | exact Nat.le_refl _⟩, ⟨by exact bk_ BK589⟩, ⟨by exact bk_ BK595⟩, ⟨by exact bk_ BK599⟩, ⟨by exact bk_ BK603⟩, ⟨bw_ HB⟩⟩
                    · rw [if_neg c41] at H
                      have c41b0 : (t594 == 0) = false := beq_eq_false_iff_ne.mpr c41
                      have c41b1 : (t594 != 0) = true := bne_iff_ne.mpr c41
                      have H' := Aside0.mk H
                      clear H
                      go_wp2
                      go_meet
                      case rel => exact ⟨_, (false), (by first | rfl | (simp; done) | (simp [*]; done)), H', ⟨by have := HJ8.out; first | omega | exact Nat.le_refl _⟩, ⟨by exact bk_ BK589⟩, ⟨by exact bk_ BK595⟩, ⟨by exact bk_ BK599⟩, ⟨by exact bk_ BK603⟩, ⟨bw_ HB⟩⟩
                  · rw [if_neg c40] at H
                    have c40b0 : decide ((wrap64 ((Int.tmod (wrap64 (a1)) 31) + (Int.tmod (wrap64 (a2)) 31))) ≤ 30) = false := decide_eq_false c40
                    clear c40
                    (first | rw [c40b0] | (simp only [i64_w, i32_w]; rw [c40b0]) | skip)
                    have H' := Aside0.mk H
                    clear H
                    go_wp2
                    go_meet
                    case rel => exact ⟨_, (false), (by first | rfl | (simp; done) | (simp [*]; done)), H', ⟨by have := HJ8.out; first | omega | exact Nat.le_refl _⟩, ⟨by exact bk_ BK589⟩, ⟨by exact bk_ BK595⟩, ⟨by exact bk_ BK599⟩, ⟨by exact bk_ BK603⟩, ⟨bw_ HB⟩⟩
              case rest =>
                as_aux_lemma =>
                  clear HC39
                  try clear c1
                  try clear c2
                  try clear p2
                  try clear c3
                  try clear c4
                  try clear c5
                  try clear c5b0
                  try clear c5b1
                  try clear p6
                  try clear c9
                  try clear c16
                  try clear c21
                  try clear c22
                  try clear c23
                  try clear c27
                  try clear c28
                  try clear c29
                  try clear c31
                  try clear c31b0
                  try clear c31b1
                  try clear c38
                  try clear c40
                  try clear c40b0
                  try clear c41
                  try clear c41b0
                  try clear c41b1
                  try clear hcz11_0
                  try clear hcz11_1
                  try clear hcz13_0
                  try clear hcz13_1
                  try clear hcz17_0
                  try clear hcz17_1
                  try clear hcz18_0
                  try clear hcz18_1
                  try clear hcz23_0
                  try clear hcz23_1
                  try clear hcz24_0
                  try clear hcz24_1
                  try clear hcz30_0
                  try clear hcz30_1
                  try clear hfz11_0
                  try clear hfz11_1
                  try clear hfz13_0
                  try clear hfz13_1
                  try clear hfz17_0
                  try clear hfz17_1
                  try clear hfz18_0
                  try clear hfz18_1
                  try clear hfz23_0
                  try clear hfz23_1
                  try clear hfz24_0
                  try clear hfz24_1
                  try clear hfz30_0
                  try clear hfz30_1
                  try clear p2
                  try clear p6
                  obtain ⟨kq, x68_38, rfl, HA, HJ38, BK589, BK595, BK599, BK603, HB⟩ := hcut
                  cases kq with
                  | zero => exact absurd HA.out (by simp [withylaw01_NumPowers.j1])
                  | succ kj38 =>
                    have H := HA.out
                    clear HA
                    simp only [withylaw01_NumPowers.j1] at H
                    have HC42 := Aside0.mk H
                    clear H
                    go_upto_if 68 with (fail)
                    go_cut [] (fun wc => ∃ (kq : Nat), Aside0 (withylaw01_NumPowers.j2 kq (Int.tmod (wrap64 (a1)) 31) t594 a0_0 a0_1 t592 t593 = some r) ∧ Aside0 (kq ≤ kj38) ∧ Aside0 (wc.heap[gb589]? = some (.cells #[.int .i64 a0_0, .int .i64 a0_1] 23 (0, 0))) ∧ Aside0 (wc.heap[gb595]? = some (.cells #[.int .i64 t592, .int .i64 t593] 23 (0, 0))) ∧ Aside0 (wc.heap[gb599]? = some (.cells #[.int .i64 t596, .int .i64 t597] 23 (0, 0))) ∧ Aside0 (wc.heap[gb603]? = some (.cells #[.int .i64 t600, .int .i64 t601] 23 (0, 0))) ∧ Aside0 (Below w.heap.size w wc))
                    case first =>
                      as_aux_lemma =>
                        have H := HC42.out
                        clear HC42
                        by_cases c43 : x68_38 = true
                        · subst c43
                          have H1 : ((num_Pow.f kj38 a0_0 a0_1 (wrap64 ((Int.tmod (wrap64 (a1)) 31) + (Int.tmod (wrap64 (a2)) 31)))).bind fun bt606 => ((num_Mul.f kj38 t592 t593 t596 t597).bind fun bt610 => (if bt606.2.2 = bt610.2.2 then (if (!(bt606.1 == bt610.1) || (!(bt606.2.1 == bt610.2.1))) = true then (some false) else (withylaw01_NumPowers.j2 kj38 (Int.tmod (wrap64 (a1)) 31) t594 a0_0 a0_1 t592 t593)) else (some false)))) = some r := by rw [if_pos rfl] at H; exact H
                          clear H
                          have H := H1
                          clear H1
                          replace H := Option.bind_eq_some_iff.mp H
                          obtain ⟨⟨t606, t607, t608⟩, A440, H⟩ := H
                          replace H : ((num_Mul.f kj38 t592 t593 t596 t597).bind fun bt610 => (if t608 = bt610.2.2 then (if (!(t606 == bt610.1) || (!(t607 == bt610.2.1))) = true then (some false) else (withylaw01_NumPowers.j2 kj38 (Int.tmod (wrap64 (a1)) 31) t594 a0_0 a0_1 t592 t593)) else (some false))) = some r := H
                          have A44 := Aside0.mk A440
                          clear A440
                          replace H := Option.bind_eq_some_iff.mp H
                          obtain ⟨⟨t610, t611, t612⟩, A450, H⟩ := H
                          replace H : (if t608 = t612 then (if (!(t606 == t610) || (!(t607 == t611))) = true then (some false) else (withylaw01_NumPowers.j2 kj38 (Int.tmod (wrap64 (a1)) 31) t594 a0_0 a0_1 t592 t593)) else (some false)) = some r := H
                          have A45 := Aside0.mk A450
                          clear A450
                          by_cases c46 : t608 = t612
                          · rw [if_pos c46] at H
                            have c46b0 : (t608 == t612) = true := beq_iff_eq.mpr c46
                            have c46b1 : (t608 != t612) = false := bne_eq_false_iff_eq.mpr c46
                            clear c46
                            (first | rw [c46b0] | (simp only [i64_w, i32_w]; rw [c46b0]) | skip)
                            by_cases c47 : (!(t606 == t610) || (!(t607 == t611))) = true
                            · rw [if_pos c47] at H
                              have c47b0 : (!(t606 == t610) || (!(t607 == t611))) = true := c47
                              clear c47
                              obtain rfl := Option.some.inj H
                              have hnb48 := NB589_595.out
                              have hnc48 := NB595_589.out
                              have hnb49 := NB589_599.out
                              have hnc49 := NB599_589.out
                              have hnb50 := NB589_603.out
                              have hnc50 := NB603_589.out
                              obtain ⟨hcz51_0, hcz51_1, hfz51_0, hfz51_1⟩ := bc2_ BK589
                              go_wp2_with (first | ((with_reducible refine gate_callee (f := 44) rfl ?_); refine gla_ (some 74) Try.func44 #[.agg #[.int .i64 a0_0, .int .i64 a0_1], .int .i64 (wrap64 ((Int.tmod (wrap64 (a1)) 31) + (Int.tmod (wrap64 (a2)) 31)))] ?_; (with_reducible refine (num_Pow.calls kj38 a0_0 a0_1 (wrap64 ((Int.tmod (wrap64 (a1)) 31) + (Int.tmod (wrap64 (a2)) 31))) t606 t607 t608 _ A44.out).mono ?_); rintro e w52 ⟨rfl, hb⟩; refine ⟨_, rfl, ?_⟩; replace BK589 := bkb_ BK589 hb; replace BK595 := bkb_ BK595 hb; replace BK599 := bkb_ BK599 hb; replace BK603 := bkb_ BK603 hb; replace HB := bws_ HB hb; (try clear hb); (try clear hb2); (try clear hk); (try clear hi)) | ((with_reducible refine gate_dst (N := 15) rfl ?_); refine box_event ?hg (N := 15) ?hd (cs := #[.int .i64 0, .int .i64 0]) (t := 23) ?hr ?_; (case hd => rfl); (case hg => rfl); (case hr => first | (go_simp; done) | (go_simp; rfl)); intro gb609 hg w53 hbox hb; have BK609 := Aside0.mk hbox; have GW609 := bwg_ HB hg; have GE609 := bwg_ HB hg; replace HB := bws_ HB hb; have NB589_609 := bkl_ BK589 hg; have NB609_589 := bkr_ BK589 hg; replace BK589 := bkb_ BK589 hb; have NB595_609 := bkl_ BK595 hg; have NB609_595 := bkr_ BK595 hg; replace BK595 := bkb_ BK595 hb; have NB599_609 := bkl_ BK599 hg; have NB609_599 := bkr_ BK599 hg; replace BK599 := bkb_ BK599 hb; have NB603_609 := bkl_ BK603 hg; have NB609_603 := bkr_ BK603 hg; replace BK603 := bkb_ BK603 hb; clear hb hbox hg; have hnb54 := NB609_589.out; have hnc54 := NB589_609.out; have hnb55 := NB609_595.out; have hnc55 := NB595_609.out; have hnb56 := NB609_599.out; have hnc56 := NB599_609.out; have hnb57 := NB609_603.out; have hnc57 := NB603_609.out; obtain ⟨hcz58_0, hcz58_1, hfz58_0, hfz58_1⟩ := bc2_ BK609; have hnb59 := NB595_599.out; have hnc59 := NB599_595.out; have hnb60 := NB595_603.out; have hnc60 := NB603_595.out; obtain ⟨hcz61_0, hcz61_1, hfz61_0, hfz61_1⟩ := bc2_ BK595; have hnb62 := NB599_603.out; have hnc62 := NB603_599.out; obtain ⟨hcz63_0, hcz63_1, hfz63_0, hfz63_1⟩ := bc2_ BK599) | ((with_reducible refine gate_callee (f := 19) rfl ?_); refine gla_ (some 80) Try.func19 #[.agg #[.int .i64 t592, .int .i64 t593], .agg #[.int .i64 t596, .int .i64 t597]] ?_; (with_reducible refine (num_Mul.calls kj38 t592 t593 t596 t597 t610 t611 t612 _ A45.out).mono ?_); rintro e w64 ⟨rfl, hb⟩; refine ⟨_, rfl, ?_⟩; replace BK589 := Aside0.mk (blk_below (g := gb589) (o := .cells #[.int .i64 a0_0, .int .i64 a0_1] 23 (0, 0)) (by refine bf_ ?_ NB589_609; refine bf_ ?_ NB589_609; exact bk_ BK589) hb); replace BK595 := Aside0.mk (blk_below (g := gb595) (o := .cells #[.int .i64 t592, .int .i64 t593] 23 (0, 0)) (by refine bf_ ?_ NB595_609; refine bf_ ?_ NB595_609; exact bk_ BK595) hb); replace BK599 := Aside0.mk (blk_below (g := gb599) (o := .cells #[.int .i64 t596, .int .i64 t597] 23 (0, 0)) (by refine bf_ ?_ NB599_609; refine bf_ ?_ NB599_609; exact bk_ BK599) hb); replace BK603 := Aside0.mk (blk_below (g := gb603) (o := .cells #[.int .i64 t600, .int .i64 t601] 23 (0, 0)) (by refine bf_ ?_ NB603_609; refine bf_ ?_ NB603_609; exact bk_ BK603) hb); replace BK609 := Aside0.mk (blk_below (g := gb609) (o := .cells #[.int .i64 t606, .int .i64 t607] 23 (0, 0)) (by refine bp_ (cs := #[.int .i64 t606, .int .i64 0]) ?_ 1; refine bp_ (cs := #[.int .i64 0, .int .i64 0]) ?_ 0; exact bk_ BK609) hb); replace HB := bws_ HB hb; (try clear hb); (try clear hb2); (try clear hk); (try clear hi)) | ((with_reducible refine gate_dst (N := 17) rfl ?_); refine box_event ?hg (N := 17) ?hd (cs := #[.int .i64 0, .int .i64 0]) (t := 23) ?hr ?_; (case hd => rfl); (case hg => rfl); (case hr => first | (go_simp; done) | (go_simp; rfl)); intro gb613 hg w65 hbox hb; have BK613 := Aside0.mk hbox; have GW613 := bwg_ HB hg; have GE613 := bwg_ HB hg; replace HB := bws_ HB hb; have NB589_613 := bkl_ BK589 hg; have NB613_589 := bkr_ BK589 hg; replace BK589 := bkb_ BK589 hb; have NB595_613 := bkl_ BK595 hg; have NB613_595 := bkr_ BK595 hg; replace BK595 := bkb_ BK595 hb; have NB599_613 := bkl_ BK599 hg; have NB613_599 := bkr_ BK599 hg; replace BK599 := bkb_ BK599 hb; have NB603_613 := bkl_ BK603 hg; have NB613_603 := bkr_ BK603 hg; replace BK603 := bkb_ BK603 hb; have NB609_613 := bkl_ BK609 hg; have NB613_609 := bkr_ BK609 hg; replace BK609 := bkb_ BK609 hb; clear hb hbox hg; have hnb66 := NB613_589.out; have hnc66 := NB589_613.out; have hnb67 := NB613_595.out; have hnc67 := NB595_613.out; have hnb68 := NB613_599.out; have hnc68 := NB599_613.out; have hnb69 := NB613_603.out; have hnc69 := NB603_613.out; have hnb70 := NB613_609.out; have hnc70 := NB609_613.out; obtain ⟨hcz71_0, hcz71_1, hfz71_0, hfz71_1⟩ := bc2_ BK613; obtain ⟨hcz72_0, hcz72_1, hfz72_0, hfz72_1⟩ := bc2_ BK609))
                              go_ret
                              exact ⟨by first | rfl | (simp [*] <;> rfl), bw_ HB⟩
                            · rw [if_neg c47] at H
                              have c47b0 : (!(t606 == t610) || (!(t607 == t611))) = false := by simpa using c47
                              clear c47
                              have H' := Aside0.mk H
                              clear H
                              have hnb73 := NB589_595.out
                              have hnc73 := NB595_589.out
                              have hnb74 := NB589_599.out
                              have hnc74 := NB599_589.out
                              have hnb75 := NB589_603.out
                              have hnc75 := NB603_589.out
                              obtain ⟨hcz76_0, hcz76_1, hfz76_0, hfz76_1⟩ := bc2_ BK589
                              go_wp2_with (first | ((with_reducible refine gate_callee (f := 44) rfl ?_); refine gla_ (some 74) Try.func44 #[.agg #[.int .i64 a0_0, .int .i64 a0_1], .int .i64 (wrap64 ((Int.tmod (wrap64 (a1)) 31) + (Int.tmod (wrap64 (a2)) 31)))] ?_; (with_reducible refine (num_Pow.calls kj38 a0_0 a0_1 (wrap64 ((Int.tmod (wrap64 (a1)) 31) + (Int.tmod (wrap64 (a2)) 31))) t606 t607 t608 _ A44.out).mono ?_); rintro e w77 ⟨rfl, hb⟩; refine ⟨_, rfl, ?_⟩; replace BK589 := bkb_ BK589 hb; replace BK595 := bkb_ BK595 hb; replace BK599 := bkb_ BK599 hb; replace BK603 := bkb_ BK603 hb; replace HB := bws_ HB hb; (try clear hb); (try clear hb2); (try clear hk); (try clear hi)) | ((with_reducible refine gate_dst (N := 15) rfl ?_); refine box_event ?hg (N := 15) ?hd (cs := #[.int .i64 0, .int .i64 0]) (t := 23) ?hr ?_; (case hd => rfl); (case hg => rfl); (case hr => first | (go_simp; done) | (go_simp; rfl)); intro gb609 hg w78 hbox hb; have BK609 := Aside0.mk hbox; have GW609 := bwg_ HB hg; have GE609 := bwg_ HB hg; replace HB := bws_ HB hb; have NB589_609 := bkl_ BK589 hg; have NB609_589 := bkr_ BK589 hg; replace BK589 := bkb_ BK589 hb; have NB595_609 := bkl_ BK595 hg; have NB609_595 := bkr_ BK595 hg; replace BK595 := bkb_ BK595 hb; have NB599_609 := bkl_ BK599 hg; have NB609_599 := bkr_ BK599 hg; replace BK599 := bkb_ BK599 hb; have NB603_609 := bkl_ BK603 hg; have NB609_603 := bkr_ BK603 hg; replace BK603 := bkb_ BK603 hb; clear hb hbox hg; have hnb79 := NB609_589.out; have hnc79 := NB589_609.out; have hnb80 := NB609_595.out; have hnc80 := NB595_609.out; have hnb81 := NB609_599.out; have hnc81 := NB599_609.out; have hnb82 := NB609_603.out; have hnc82 := NB603_609.out; obtain ⟨hcz83_0, hcz83_1, hfz83_0, hfz83_1⟩ := bc2_ BK609; have hnb84 := NB595_599.out; have hnc84 := NB599_595.out; have hnb85 := NB595_603.out; have hnc85 := NB603_595.out; obtain ⟨hcz86_0, hcz86_1, hfz86_0, hfz86_1⟩ := bc2_ BK595; have hnb87 := NB599_603.out; have hnc87 := NB603_599.out; obtain ⟨hcz88_0, hcz88_1, hfz88_0, hfz88_1⟩ := bc2_ BK599) | ((with_reducible refine gate_callee (f := 19) rfl ?_); refine gla_ (some 80) Try.func19 #[.agg #[.int .i64 t592, .int .i64 t593], .agg #[.int .i64 t596, .int .i64 t597]] ?_; (with_reducible refine (num_Mul.calls kj38 t592 t593 t596 t597 t610 t611 t612 _ A45.out).mono ?_); rintro e w89 ⟨rfl, hb⟩; refine ⟨_, rfl, ?_⟩; replace BK589 := Aside0.mk (blk_below (g := gb589) (o := .cells #[.int .i64 a0_0, .int .i64 a0_1] 23 (0, 0)) (by refine bf_ ?_ NB589_609; refine bf_ ?_ NB589_609; exact bk_ BK589) hb); replace BK595 := Aside0.mk (blk_below (g := gb595) (o := .cells #[.int .i64 t592, .int .i64 t593] 23 (0, 0)) (by refine bf_ ?_ NB595_609; refine bf_ ?_ NB595_609; exact bk_ BK595) hb); replace BK599 := Aside0.mk (blk_below (g := gb599) (o := .cells #[.int .i64 t596, .int .i64 t597] 23 (0, 0)) (by refine bf_ ?_ NB599_609; refine bf_ ?_ NB599_609; exact bk_ BK599) hb); replace BK603 := Aside0.mk (blk_below (g := gb603) (o := .cells #[.int .i64 t600, .int .i64 t601] 23 (0, 0)) (by refine bf_ ?_ NB603_609; refine bf_ ?_ NB603_609; exact bk_ BK603) hb); replace BK609 := Aside0.mk (blk_below (g := gb609) (o := .cells #[.int .i64 t606, .int .i64 t607] 23 (0, 0)) (by refine bp_ (cs := #[.int .i64 t606, .int .i64 0]) ?_ 1; refine bp_ (cs := #[.int .i64 0, .int .i64 0]) ?_ 0; exact bk_ BK609) hb); replace HB := bws_ HB hb; (try clear hb); (try clear hb2); (try clear hk); (try clear hi)) | ((with_reducible refine gate_dst (N := 17) rfl ?_); refine box_event ?hg (N := 17) ?hd (cs := #[.int .i64 0, .int .i64 0]) (t := 23) ?hr ?_; (case hd => rfl); (case hg => rfl); (case hr => first | (go_simp; done) | (go_simp; rfl)); intro gb613 hg w90 hbox hb; have BK613 := Aside0.mk hbox; have GW613 := bwg_ HB hg; have GE613 := bwg_ HB hg; replace HB := bws_ HB hb; have NB589_613 := bkl_ BK589 hg; have NB613_589 := bkr_ BK589 hg; replace BK589 := bkb_ BK589 hb; have NB595_613 := bkl_ BK595 hg; have NB613_595 := bkr_ BK595 hg; replace BK595 := bkb_ BK595 hb; have NB599_613 := bkl_ BK599 hg; have NB613_599 := bkr_ BK599 hg; replace BK599 := bkb_ BK599 hb; have NB603_613 := bkl_ BK603 hg; have NB613_603 := bkr_ BK603 hg; replace BK603 := bkb_ BK603 hb; have NB609_613 := bkl_ BK609 hg; have NB613_609 := bkr_ BK609 hg; replace BK609 := bkb_ BK609 hb; clear hb hbox hg; have hnb91 := NB613_589.out; have hnc91 := NB589_613.out; have hnb92 := NB613_595.out; have hnc92 := NB595_613.out; have hnb93 := NB613_599.out; have hnc93 := NB599_613.out; have hnb94 := NB613_603.out; have hnc94 := NB603_613.out; have hnb95 := NB613_609.out; have hnc95 := NB609_613.out; obtain ⟨hcz96_0, hcz96_1, hfz96_0, hfz96_1⟩ := bc2_ BK613; obtain ⟨hcz97_0, hcz97_1, hfz97_0, hfz97_1⟩ := bc2_ BK609))
                              go_meet
                              case rel => exact ⟨_, H', ⟨by have := HJ8.out; have := HJ38.out; first | omega | exact Nat.le_refl _⟩, ⟨by refine bf_ ?_ NB589_613; refine bf_ ?_ NB589_613; exact bk_ BK589⟩, ⟨by refine bf_ ?_ NB595_613; refine bf_ ?_ NB595_613; exact bk_ BK595⟩, ⟨by refine bf_ ?_ NB599_613; refine bf_ ?_ NB599_613; exact bk_ BK599⟩, ⟨by refine bf_ ?_ NB603_613; refine bf_ ?_ NB603_613; exact bk_ BK603⟩, ⟨bw_ HB⟩⟩
                          · rw [if_neg c46] at H
                            have c46b0 : (t608 == t612) = false := beq_eq_false_iff_ne.mpr c46
                            have c46b1 : (t608 != t612) = true := bne_iff_ne.mpr c46
                            (first | rw [c46b0] | (simp only [i64_w, i32_w]; rw [c46b0]) | skip)
                            obtain rfl := Option.some.inj H
                            have hnb98 := NB589_595.out
                            have hnc98 := NB595_589.out
                            have hnb99 := NB589_599.out
                            have hnc99 := NB599_589.out
                            have hnb100 := NB589_603.out
                            have hnc100 := NB603_589.out
                            obtain ⟨hcz101_0, hcz101_1, hfz101_0, hfz101_1⟩ := bc2_ BK589
                            go_wp2_with (first | ((with_reducible refine gate_callee (f := 44) rfl ?_); refine gla_ (some 74) Try.func44 #[.agg #[.int .i64 a0_0, .int .i64 a0_1], .int .i64 (wrap64 ((Int.tmod (wrap64 (a1)) 31) + (Int.tmod (wrap64 (a2)) 31)))] ?_; (with_reducible refine (num_Pow.calls kj38 a0_0 a0_1 (wrap64 ((Int.tmod (wrap64 (a1)) 31) + (Int.tmod (wrap64 (a2)) 31))) t606 t607 t608 _ A44.out).mono ?_); rintro e w102 ⟨rfl, hb⟩; refine ⟨_, rfl, ?_⟩; replace BK589 := bkb_ BK589 hb; replace BK595 := bkb_ BK595 hb; replace BK599 := bkb_ BK599 hb; replace BK603 := bkb_ BK603 hb; replace HB := bws_ HB hb; (try clear hb); (try clear hb2); (try clear hk); (try clear hi)) | ((with_reducible refine gate_dst (N := 15) rfl ?_); refine box_event ?hg (N := 15) ?hd (cs := #[.int .i64 0, .int .i64 0]) (t := 23) ?hr ?_; (case hd => rfl); (case hg => rfl); (case hr => first | (go_simp; done) | (go_simp; rfl)); intro gb609 hg w103 hbox hb; have BK609 := Aside0.mk hbox; have GW609 := bwg_ HB hg; have GE609 := bwg_ HB hg; replace HB := bws_ HB hb; have NB589_609 := bkl_ BK589 hg; have NB609_589 := bkr_ BK589 hg; replace BK589 := bkb_ BK589 hb; have NB595_609 := bkl_ BK595 hg; have NB609_595 := bkr_ BK595 hg; replace BK595 := bkb_ BK595 hb; have NB599_609 := bkl_ BK599 hg; have NB609_599 := bkr_ BK599 hg; replace BK599 := bkb_ BK599 hb; have NB603_609 := bkl_ BK603 hg; have NB609_603 := bkr_ BK603 hg; replace BK603 := bkb_ BK603 hb; clear hb hbox hg; have hnb104 := NB609_589.out; have hnc104 := NB589_609.out; have hnb105 := NB609_595.out; have hnc105 := NB595_609.out; have hnb106 := NB609_599.out; have hnc106 := NB599_609.out; have hnb107 := NB609_603.out; have hnc107 := NB603_609.out; obtain ⟨hcz108_0, hcz108_1, hfz108_0, hfz108_1⟩ := bc2_ BK609; have hnb109 := NB595_599.out; have hnc109 := NB599_595.out; have hnb110 := NB595_603.out; have hnc110 := NB603_595.out; obtain ⟨hcz111_0, hcz111_1, hfz111_0, hfz111_1⟩ := bc2_ BK595; have hnb112 := NB599_603.out; have hnc112 := NB603_599.out; obtain ⟨hcz113_0, hcz113_1, hfz113_0, hfz113_1⟩ := bc2_ BK599) | ((with_reducible refine gate_callee (f := 19) rfl ?_); refine gla_ (some 80) Try.func19 #[.agg #[.int .i64 t592, .int .i64 t593], .agg #[.int .i64 t596, .int .i64 t597]] ?_; (with_reducible refine (num_Mul.calls kj38 t592 t593 t596 t597 t610 t611 t612 _ A45.out).mono ?_); rintro e w114 ⟨rfl, hb⟩; refine ⟨_, rfl, ?_⟩; replace BK589 := Aside0.mk (blk_below (g := gb589) (o := .cells #[.int .i64 a0_0, .int .i64 a0_1] 23 (0, 0)) (by refine bf_ ?_ NB589_609; refine bf_ ?_ NB589_609; exact bk_ BK589) hb); replace BK595 := Aside0.mk (blk_below (g := gb595) (o := .cells #[.int .i64 t592, .int .i64 t593] 23 (0, 0)) (by refine bf_ ?_ NB595_609; refine bf_ ?_ NB595_609; exact bk_ BK595) hb); replace BK599 := Aside0.mk (blk_below (g := gb599) (o := .cells #[.int .i64 t596, .int .i64 t597] 23 (0, 0)) (by refine bf_ ?_ NB599_609; refine bf_ ?_ NB599_609; exact bk_ BK599) hb); replace BK603 := Aside0.mk (blk_below (g := gb603) (o := .cells #[.int .i64 t600, .int .i64 t601] 23 (0, 0)) (by refine bf_ ?_ NB603_609; refine bf_ ?_ NB603_609; exact bk_ BK603) hb); replace BK609 := Aside0.mk (blk_below (g := gb609) (o := .cells #[.int .i64 t606, .int .i64 t607] 23 (0, 0)) (by refine bp_ (cs := #[.int .i64 t606, .int .i64 0]) ?_ 1; refine bp_ (cs := #[.int .i64 0, .int .i64 0]) ?_ 0; exact bk_ BK609) hb); replace HB := bws_ HB hb; (try clear hb); (try clear hb2); (try clear hk); (try clear hi)) | ((with_reducible refine gate_dst (N := 17) rfl ?_); refine box_event ?hg (N := 17) ?hd (cs := #[.int .i64 0, .int .i64 0]) (t := 23) ?hr ?_; (case hd => rfl); (case hg => rfl); (case hr => first | (go_simp; done) | (go_simp; rfl)); intro gb613 hg w115 hbox hb; have BK613 := Aside0.mk hbox; have GW613 := bwg_ HB hg; have GE613 := bwg_ HB hg; replace HB := bws_ HB hb; have NB589_613 := bkl_ BK589 hg; have NB613_589 := bkr_ BK589 hg; replace BK589 := bkb_ BK589 hb; have NB595_613 := bkl_ BK595 hg; have NB613_595 := bkr_ BK595 hg; replace BK595 := bkb_ BK595 hb; have NB599_613 := bkl_ BK599 hg; have NB613_599 := bkr_ BK599 hg; replace BK599 := bkb_ BK599 hb; have NB603_613 := bkl_ BK603 hg; have NB613_603 := bkr_ BK603 hg; replace BK603 := bkb_ BK603 hb; have NB609_613 := bkl_ BK609 hg; have NB613_609 := bkr_ BK609 hg; replace BK609 := bkb_ BK609 hb; clear hb hbox hg; have hnb116 := NB613_589.out; have hnc116 := NB589_613.out; have hnb117 := NB613_595.out; have hnc117 := NB595_613.out; have hnb118 := NB613_599.out; have hnc118 := NB599_613.out; have hnb119 := NB613_603.out; have hnc119 := NB603_613.out; have hnb120 := NB613_609.out; have hnc120 := NB609_613.out; obtain ⟨hcz121_0, hcz121_1, hfz121_0, hfz121_1⟩ := bc2_ BK613))
                            go_ret
                            exact ⟨by first | rfl | (simp [*] <;> rfl), bw_ HB⟩
                        · replace c43 := Bool.eq_false_iff.mpr c43
                          subst c43
                          have H1 : (withylaw01_NumPowers.j2 kj38 (Int.tmod (wrap64 (a1)) 31) t594 a0_0 a0_1 t592 t593) = some r := by rw [if_neg (show ¬ (false = true) by decide)] at H; exact H
                          clear H
                          have H := H1
                          clear H1
                          have H' := Aside0.mk H
                          clear H
                          go_wp2
                          go_meet
                          case rel => exact ⟨_, H', ⟨by have := HJ8.out; have := HJ38.out; first | omega | exact Nat.le_refl _⟩, ⟨by exact bk_ BK589⟩, ⟨by exact bk_ BK595⟩, ⟨by exact bk_ BK599⟩, ⟨by exact bk_ BK603⟩, ⟨bw_ HB⟩⟩
                    case rest =>
                      as_aux_lemma =>
                        clear HC42
                        try clear c1
                        try clear c2
                        try clear p2
                        try clear c3
                        try clear c4
                        try clear c5
                        try clear c5b0
                        try clear c5b1
                        try clear c6
                        try clear p6
                        try clear c7
                        try clear c8
                        try clear c9
                        try clear c10
                        try clear c11
                        try clear c12
                        try clear c16
                        try clear c19
                        try clear c21
                        try clear c22
                        try clear c23
                        try clear c27
                        try clear c28
                        try clear c29
                        try clear c31
                        try clear c31b0
                        try clear c31b1
                        try clear c38
                        try clear c40
                        try clear c40b0
                        try clear c41
                        try clear c41b0
                        try clear c41b1
                        try clear c43
                        try clear c44
                        try clear c46
                        try clear c46b0
                        try clear c46b1
                        try clear c47
                        try clear c47b0
                        try clear c48
                        try clear c49
                        try clear c50
                        try clear c54
                        try clear c55
                        try clear c56
                        try clear c57
                        try clear c59
                        try clear c60
                        try clear c62
                        try clear p64
                        try clear c66
                        try clear c67
                        try clear c68
                        try clear c69
                        try clear c70
                        try clear c73
                        try clear c74
                        try clear c75
                        try clear c79
                        try clear c80
                        try clear c81
                        try clear c82
                        try clear c84
                        try clear c85
                        try clear c87
                        try clear c91
                        try clear c92
                        try clear c93
                        try clear c94
                        try clear c95
                        try clear c98
                        try clear c99
                        try clear c100
                        try clear c104
                        try clear c105
                        try clear c106
                        try clear c107
                        try clear c109
                        try clear c110
                        try clear c112
                        try clear c116
                        try clear c117
                        try clear c118
                        try clear c119
                        try clear c120
                        try clear hcz101_0
                        try clear hcz101_1
                        try clear hcz108_0
                        try clear hcz108_1
                        try clear hcz111_0
                        try clear hcz111_1
                        try clear hcz113_0
                        try clear hcz113_1
                        try clear hcz11_0
                        try clear hcz11_1
                        try clear hcz121_0
                        try clear hcz121_1
                        try clear hcz13_0
                        try clear hcz13_1
                        try clear hcz17_0
                        try clear hcz17_1
                        try clear hcz18_0
                        try clear hcz18_1
                        try clear hcz23_0
                        try clear hcz23_1
                        try clear hcz24_0
                        try clear hcz24_1
                        try clear hcz30_0
                        try clear hcz30_1
                        try clear hcz51_0
                        try clear hcz51_1
                        try clear hcz58_0
                        try clear hcz58_1
                        try clear hcz61_0
                        try clear hcz61_1
                        try clear hcz63_0
                        try clear hcz63_1
                        try clear hcz71_0
                        try clear hcz71_1
                        try clear hcz72_0
                        try clear hcz72_1
                        try clear hcz76_0
                        try clear hcz76_1
                        try clear hcz83_0
                        try clear hcz83_1
                        try clear hcz86_0
                        try clear hcz86_1
                        try clear hcz88_0
                        try clear hcz88_1
                        try clear hcz96_0
                        try clear hcz96_1
                        try clear hcz97_0
                        try clear hcz97_1
                        try clear hfz101_0
                        try clear hfz101_1
                        try clear hfz108_0
                        try clear hfz108_1
                        try clear hfz111_0
                        try clear hfz111_1
                        try clear hfz113_0
                        try clear hfz113_1
                        try clear hfz11_0
                        try clear hfz11_1
                        try clear hfz121_0
                        try clear hfz121_1
                        try clear hfz13_0
                        try clear hfz13_1
                        try clear hfz17_0
                        try clear hfz17_1
                        try clear hfz18_0
                        try clear hfz18_1
                        try clear hfz23_0
                        try clear hfz23_1
                        try clear hfz24_0
                        try clear hfz24_1
                        try clear hfz30_0
                        try clear hfz30_1
                        try clear hfz51_0
                        try clear hfz51_1
                        try clear hfz58_0
                        try clear hfz58_1
                        try clear hfz61_0
                        try clear hfz61_1
                        try clear hfz63_0
                        try clear hfz63_1
                        try clear hfz71_0
                        try clear hfz71_1
                        try clear hfz72_0
                        try clear hfz72_1
                        try clear hfz76_0
                        try clear hfz76_1
                        try clear hfz83_0
                        try clear hfz83_1
                        try clear hfz86_0
                        try clear hfz86_1
                        try clear hfz88_0
                        try clear hfz88_1
                        try clear hfz96_0
                        try clear hfz96_1
                        try clear hfz97_0
                        try clear hfz97_1
                        try clear p2
                        try clear p6
                        obtain ⟨kq, HA, HJ41, BK589, BK595, BK599, BK603, HB⟩ := hcut
                        cases kq with
                        | zero => exact absurd HA.out (by simp [withylaw01_NumPowers.j2])
                        | succ kj41 =>
                          have H := HA.out
                          clear HA
                          simp only [withylaw01_NumPowers.j2] at H
                          by_cases c122 : (Int.tmod (wrap64 (a1)) 31) = 0
                          · rw [if_pos c122] at H
                            have c122b0 : ((Int.tmod (wrap64 (a1)) 31) == 0) = true := beq_iff_eq.mpr c122
                            have c122b1 : ((Int.tmod (wrap64 (a1)) 31) != 0) = false := bne_eq_false_iff_eq.mpr c122
                            clear c122
                            replace H := Option.bind_eq_some_iff.mp H
                            obtain ⟨t614, A1230, H⟩ := H
                            replace H : (some t614) = some r := H
                            have A123 := Aside0.mk A1230
                            clear A1230
                            obtain rfl := Option.some.inj H
                            go_wp2_with (first | ((with_reducible refine gate_callee (f := 17) rfl ?_); refine gla_ (some 93) Try.func17 #[] ?_; (with_reducible refine (withylaw01_summed.calls kj41  t614 _ A123.out).mono ?_); rintro e w124 ⟨rfl, hb⟩; refine ⟨_, rfl, ?_⟩; replace BK589 := bkb_ BK589 hb; replace BK595 := bkb_ BK595 hb; replace BK599 := bkb_ BK599 hb; replace BK603 := bkb_ BK603 hb; replace HB := bws_ HB hb; (try clear hb); (try clear hb2); (try clear hk); (try clear hi)))
                            go_ret
                            exact ⟨by first | rfl | (simp [*] <;> rfl), bw_ HB⟩
                          · rw [if_neg c122] at H
                            have c122b0 : ((Int.tmod (wrap64 (a1)) 31) == 0) = false := beq_eq_false_iff_ne.mpr c122
                            have c122b1 : ((Int.tmod (wrap64 (a1)) 31) != 0) = true := bne_iff_ne.mpr c122
                            replace H := Option.bind_eq_some_iff.mp H
                            obtain ⟨⟨t615, t616, t617⟩, A1250, H⟩ := H
                            replace H : (if t617 = 0 then ((num_Mul.f kj41 t615 t616 a0_0 a0_1).bind fun bt619 => (if bt619.2.2 = t594 then (if (bt619.1 == t592 && (bt619.2.1 == t593)) = true then ((withylaw01_summed.f kj41).bind fun t623 => (some t623)) else (some false)) else (some false))) else (if t594 = 8 then ((withylaw01_summed.f kj41).bind fun t624 => (some t624)) else (some false))) = some r := H
                            have A125 := Aside0.mk A1250
                            clear A1250
                            by_cases c126 : t617 = 0
                            · rw [if_pos c126] at H
                              have c126b0 : (t617 == 0) = true := beq_iff_eq.mpr c126
                              have c126b1 : (t617 != 0) = false := bne_eq_false_iff_eq.mpr c126
                              clear c126
                              replace H := Option.bind_eq_some_iff.mp H
                              obtain ⟨⟨t619, t620, t621⟩, A1270, H⟩ := H
                              replace H : (if t621 = t594 then (if (t619 == t592 && (t620 == t593)) = true then ((withylaw01_summed.f kj41).bind fun t623 => (some t623)) else (some false)) else (some false)) = some r := H
                              have A127 := Aside0.mk A1270
                              clear A1270
                              by_cases c128 : t621 = t594
                              · rw [if_pos c128] at H
                                have c128b0 : (t621 == t594) = true := beq_iff_eq.mpr c128
                                have c128b1 : (t621 != t594) = false := bne_eq_false_iff_eq.mpr c128
                                clear c128
                                by_cases c129 : (t619 == t592 && (t620 == t593)) = true
                                · rw [if_pos c129] at H
                                  have c129b0 : (t619 == t592 && (t620 == t593)) = true := c129
                                  (try (have c129b1 : decide (t619 = t592 && (t620 == t593)) = true := by simpa using c129))
                                  (try (have c129b2 : (t619 == t592 && (t620 == t593)) = true := by simpa using c129))
                                  clear c129
                                  replace H := Option.bind_eq_some_iff.mp H
                                  obtain ⟨t623, A1300, H⟩ := H
                                  replace H : (some t623) = some r := H
                                  have A130 := Aside0.mk A1300
                                  clear A1300
                                  obtain rfl := Option.some.inj H
                                  have hnb131 := NB589_595.out
                                  have hnc131 := NB595_589.out
                                  have hnb132 := NB589_599.out
                                  have hnc132 := NB599_589.out
                                  have hnb133 := NB589_603.out
                                  have hnc133 := NB603_589.out
                                  obtain ⟨hcz134_0, hcz134_1, hfz134_0, hfz134_1⟩ := bc2_ BK589
                                  go_wp2_with (first | ((with_reducible refine gate_callee (f := 44) rfl ?_); refine gla_ (some 98) Try.func44 #[.agg #[.int .i64 a0_0, .int .i64 a0_1], .int .i64 (wrap64 ((Int.tmod (wrap64 (a1)) 31) - 1))] ?_; (with_reducible refine (num_Pow.calls kj41 a0_0 a0_1 (wrap64 ((Int.tmod (wrap64 (a1)) 31) - 1)) t615 t616 t617 _ A125.out).mono ?_); rintro e w135 ⟨rfl, hb⟩; refine ⟨_, rfl, ?_⟩; replace BK589 := bkb_ BK589 hb; replace BK595 := bkb_ BK595 hb; replace BK599 := bkb_ BK599 hb; replace BK603 := bkb_ BK603 hb; replace HB := bws_ HB hb; (try clear hb); (try clear hb2); (try clear hk); (try clear hi)) | ((with_reducible refine gate_dst (N := 19) rfl ?_); refine box_event ?hg (N := 19) ?hd (cs := #[.int .i64 0, .int .i64 0]) (t := 23) ?hr ?_; (case hd => rfl); (case hg => rfl); (case hr => first | (go_simp; done) | (go_simp; rfl)); intro gb618 hg w136 hbox hb; have BK618 := Aside0.mk hbox; have GW618 := bwg_ HB hg; have GE618 := bwg_ HB hg; replace HB := bws_ HB hb; have NB589_618 := bkl_ BK589 hg; have NB618_589 := bkr_ BK589 hg; replace BK589 := bkb_ BK589 hb; have NB595_618 := bkl_ BK595 hg; have NB618_595 := bkr_ BK595 hg; replace BK595 := bkb_ BK595 hb; have NB599_618 := bkl_ BK599 hg; have NB618_599 := bkr_ BK599 hg; replace BK599 := bkb_ BK599 hb; have NB603_618 := bkl_ BK603 hg; have NB618_603 := bkr_ BK603 hg; replace BK603 := bkb_ BK603 hb; clear hb hbox hg; have hnb137 := NB618_589.out; have hnc137 := NB589_618.out; have hnb138 := NB618_595.out; have hnc138 := NB595_618.out; have hnb139 := NB618_599.out; have hnc139 := NB599_618.out; have hnb140 := NB618_603.out; have hnc140 := NB603_618.out; obtain ⟨hcz141_0, hcz141_1, hfz141_0, hfz141_1⟩ := bc2_ BK618; obtain ⟨hcz142_0, hcz142_1, hfz142_0, hfz142_1⟩ := bc2_ BK589) | ((with_reducible refine gate_callee (f := 19) rfl ?_); refine gla_ (some 111) Try.func19 #[.agg #[.int .i64 t615, .int .i64 t616], .agg #[.int .i64 a0_0, .int .i64 a0_1]] ?_; (with_reducible refine (num_Mul.calls kj41 t615 t616 a0_0 a0_1 t619 t620 t621 _ A127.out).mono ?_); rintro e w143 ⟨rfl, hb⟩; refine ⟨_, rfl, ?_⟩; replace BK589 := Aside0.mk (blk_below (g := gb589) (o := .cells #[.int .i64 a0_0, .int .i64 a0_1] 23 (0, 0)) (by refine bf_ ?_ NB589_618; refine bf_ ?_ NB589_618; exact bk_ BK589) hb); replace BK595 := Aside0.mk (blk_below (g := gb595) (o := .cells #[.int .i64 t592, .int .i64 t593] 23 (0, 0)) (by refine bf_ ?_ NB595_618; refine bf_ ?_ NB595_618; exact bk_ BK595) hb); replace BK599 := Aside0.mk (blk_below (g := gb599) (o := .cells #[.int .i64 t596, .int .i64 t597] 23 (0, 0)) (by refine bf_ ?_ NB599_618; refine bf_ ?_ NB599_618; exact bk_ BK599) hb); replace BK603 := Aside0.mk (blk_below (g := gb603) (o := .cells #[.int .i64 t600, .int .i64 t601] 23 (0, 0)) (by refine bf_ ?_ NB603_618; refine bf_ ?_ NB603_618; exact bk_ BK603) hb); replace BK618 := Aside0.mk (blk_below (g := gb618) (o := .cells #[.int .i64 t615, .int .i64 t616] 23 (0, 0)) (by refine bp_ (cs := #[.int .i64 t615, .int .i64 0]) ?_ 1; refine bp_ (cs := #[.int .i64 0, .int .i64 0]) ?_ 0; exact bk_ BK618) hb); replace HB := bws_ HB hb; (try clear hb); (try clear hb2); (try clear hk); (try clear hi)) | ((with_reducible refine gate_dst (N := 21) rfl ?_); refine box_event ?hg (N := 21) ?hd (cs := #[.int .i64 0, .int .i64 0]) (t := 23) ?hr ?_; (case hd => rfl); (case hg => rfl); (case hr => first | (go_simp; done) | (go_simp; rfl)); intro gb622 hg w144 hbox hb; have BK622 := Aside0.mk hbox; have GW622 := bwg_ HB hg; have GE622 := bwg_ HB hg; replace HB := bws_ HB hb; have NB589_622 := bkl_ BK589 hg; have NB622_589 := bkr_ BK589 hg; replace BK589 := bkb_ BK589 hb; have NB595_622 := bkl_ BK595 hg; have NB622_595 := bkr_ BK595 hg; replace BK595 := bkb_ BK595 hb; have NB599_622 := bkl_ BK599 hg; have NB622_599 := bkr_ BK599 hg; replace BK599 := bkb_ BK599 hb; have NB603_622 := bkl_ BK603 hg; have NB622_603 := bkr_ BK603 hg; replace BK603 := bkb_ BK603 hb; have NB618_622 := bkl_ BK618 hg; have NB622_618 := bkr_ BK618 hg; replace BK618 := bkb_ BK618 hb; clear hb hbox hg; have hnb145 := NB622_589.out; have hnc145 := NB589_622.out; have hnb146 := NB622_595.out; have hnc146 := NB595_622.out; have hnb147 := NB622_599.out; have hnc147 := NB599_622.out; have hnb148 := NB622_603.out; have hnc148 := NB603_622.out; have hnb149 := NB622_618.out; have hnc149 := NB618_622.out; obtain ⟨hcz150_0, hcz150_1, hfz150_0, hfz150_1⟩ := bc2_ BK622; have hnb151 := NB595_599.out; have hnc151 := NB599_595.out; have hnb152 := NB595_603.out; have hnc152 := NB603_595.out; obtain ⟨hcz153_0, hcz153_1, hfz153_0, hfz153_1⟩ := bc2_ BK595) | (go_at_call 17; (with_reducible refine (withylaw01_summed.calls kj41  t623 _ A130.out).mono ?_); rintro e w154 ⟨rfl, hb⟩; replace BK589 := Aside0.mk (blk_below (g := gb589) (o := .cells #[.int .i64 a0_0, .int .i64 a0_1] 23 (0, 0)) (by refine bf_ ?_ NB589_622; refine bf_ ?_ NB589_622; exact bk_ BK589) hb); replace BK595 := Aside0.mk (blk_below (g := gb595) (o := .cells #[.int .i64 t592, .int .i64 t593] 23 (0, 0)) (by refine bf_ ?_ NB595_622; refine bf_ ?_ NB595_622; exact bk_ BK595) hb); replace BK599 := Aside0.mk (blk_below (g := gb599) (o := .cells #[.int .i64 t596, .int .i64 t597] 23 (0, 0)) (by refine bf_ ?_ NB599_622; refine bf_ ?_ NB599_622; exact bk_ BK599) hb); replace BK603 := Aside0.mk (blk_below (g := gb603) (o := .cells #[.int .i64 t600, .int .i64 t601] 23 (0, 0)) (by refine bf_ ?_ NB603_622; refine bf_ ?_ NB603_622; exact bk_ BK603) hb); replace BK618 := Aside0.mk (blk_below (g := gb618) (o := .cells #[.int .i64 t615, .int .i64 t616] 23 (0, 0)) (by refine bf_ ?_ NB618_622; refine bf_ ?_ NB618_622; exact bk_ BK618) hb); replace BK622 := Aside0.mk (blk_below (g := gb622) (o := .cells #[.int .i64 t619, .int .i64 t620] 23 (0, 0)) (by refine bp_ (cs := #[.int .i64 t619, .int .i64 0]) ?_ 1; refine bp_ (cs := #[.int .i64 0, .int .i64 0]) ?_ 0; exact bk_ BK622) hb); replace HB := bws_ HB hb; (try clear hb); (try clear hb2); (try clear hk); (try clear hi)))
                                  go_ret
                                  exact ⟨by first | rfl | (simp [*] <;> rfl), bw_ HB⟩
                                · rw [if_neg c129] at H
                                  have c129b0 : (t619 == t592 && (t620 == t593)) = false := by simpa using c129
                                  (try (have c129b1 : decide (t619 = t592 && (t620 == t593)) = false := by simpa using c129))
                                  (try (have c129b2 : (t619 == t592 && (t620 == t593)) = false := by simpa using c129))
                                  (try (have c129b3 : ¬ (t619 = t592 && (t620 == t593)) := by simpa using c129))
                                  clear c129
                                  obtain rfl := Option.some.inj H
                                  have hnb155 := NB589_595.out
                                  have hnc155 := NB595_589.out
                                  have hnb156 := NB589_599.out
                                  have hnc156 := NB599_589.out
                                  have hnb157 := NB589_603.out
                                  have hnc157 := NB603_589.out
                                  obtain ⟨hcz158_0, hcz158_1, hfz158_0, hfz158_1⟩ := bc2_ BK589
                                  go_wp2_with (first | ((with_reducible refine gate_callee (f := 44) rfl ?_); refine gla_ (some 98) Try.func44 #[.agg #[.int .i64 a0_0, .int .i64 a0_1], .int .i64 (wrap64 ((Int.tmod (wrap64 (a1)) 31) - 1))] ?_; (with_reducible refine (num_Pow.calls kj41 a0_0 a0_1 (wrap64 ((Int.tmod (wrap64 (a1)) 31) - 1)) t615 t616 t617 _ A125.out).mono ?_); rintro e w159 ⟨rfl, hb⟩; refine ⟨_, rfl, ?_⟩; replace BK589 := bkb_ BK589 hb; replace BK595 := bkb_ BK595 hb; replace BK599 := bkb_ BK599 hb; replace BK603 := bkb_ BK603 hb; replace HB := bws_ HB hb; (try clear hb); (try clear hb2); (try clear hk); (try clear hi)) | ((with_reducible refine gate_dst (N := 19) rfl ?_); refine box_event ?hg (N := 19) ?hd (cs := #[.int .i64 0, .int .i64 0]) (t := 23) ?hr ?_; (case hd => rfl); (case hg => rfl); (case hr => first | (go_simp; done) | (go_simp; rfl)); intro gb618 hg w160 hbox hb; have BK618 := Aside0.mk hbox; have GW618 := bwg_ HB hg; have GE618 := bwg_ HB hg; replace HB := bws_ HB hb; have NB589_618 := bkl_ BK589 hg; have NB618_589 := bkr_ BK589 hg; replace BK589 := bkb_ BK589 hb; have NB595_618 := bkl_ BK595 hg; have NB618_595 := bkr_ BK595 hg; replace BK595 := bkb_ BK595 hb; have NB599_618 := bkl_ BK599 hg; have NB618_599 := bkr_ BK599 hg; replace BK599 := bkb_ BK599 hb; have NB603_618 := bkl_ BK603 hg; have NB618_603 := bkr_ BK603 hg; replace BK603 := bkb_ BK603 hb; clear hb hbox hg; have hnb161 := NB618_589.out; have hnc161 := NB589_618.out; have hnb162 := NB618_595.out; have hnc162 := NB595_618.out; have hnb163 := NB618_599.out; have hnc163 := NB599_618.out; have hnb164 := NB618_603.out; have hnc164 := NB603_618.out; obtain ⟨hcz165_0, hcz165_1, hfz165_0, hfz165_1⟩ := bc2_ BK618; obtain ⟨hcz166_0, hcz166_1, hfz166_0, hfz166_1⟩ := bc2_ BK589) | ((with_reducible refine gate_callee (f := 19) rfl ?_); refine gla_ (some 111) Try.func19 #[.agg #[.int .i64 t615, .int .i64 t616], .agg #[.int .i64 a0_0, .int .i64 a0_1]] ?_; (with_reducible refine (num_Mul.calls kj41 t615 t616 a0_0 a0_1 t619 t620 t621 _ A127.out).mono ?_); rintro e w167 ⟨rfl, hb⟩; refine ⟨_, rfl, ?_⟩; replace BK589 := Aside0.mk (blk_below (g := gb589) (o := .cells #[.int .i64 a0_0, .int .i64 a0_1] 23 (0, 0)) (by refine bf_ ?_ NB589_618; refine bf_ ?_ NB589_618; exact bk_ BK589) hb); replace BK595 := Aside0.mk (blk_below (g := gb595) (o := .cells #[.int .i64 t592, .int .i64 t593] 23 (0, 0)) (by refine bf_ ?_ NB595_618; refine bf_ ?_ NB595_618; exact bk_ BK595) hb); replace BK599 := Aside0.mk (blk_below (g := gb599) (o := .cells #[.int .i64 t596, .int .i64 t597] 23 (0, 0)) (by refine bf_ ?_ NB599_618; refine bf_ ?_ NB599_618; exact bk_ BK599) hb); replace BK603 := Aside0.mk (blk_below (g := gb603) (o := .cells #[.int .i64 t600, .int .i64 t601] 23 (0, 0)) (by refine bf_ ?_ NB603_618; refine bf_ ?_ NB603_618; exact bk_ BK603) hb); replace BK618 := Aside0.mk (blk_below (g := gb618) (o := .cells #[.int .i64 t615, .int .i64 t616] 23 (0, 0)) (by refine bp_ (cs := #[.int .i64 t615, .int .i64 0]) ?_ 1; refine bp_ (cs := #[.int .i64 0, .int .i64 0]) ?_ 0; exact bk_ BK618) hb); replace HB := bws_ HB hb; (try clear hb); (try clear hb2); (try clear hk); (try clear hi)) | ((with_reducible refine gate_dst (N := 21) rfl ?_); refine box_event ?hg (N := 21) ?hd (cs := #[.int .i64 0, .int .i64 0]) (t := 23) ?hr ?_; (case hd => rfl); (case hg => rfl); (case hr => first | (go_simp; done) | (go_simp; rfl)); intro gb622 hg w168 hbox hb; have BK622 := Aside0.mk hbox; have GW622 := bwg_ HB hg; have GE622 := bwg_ HB hg; replace HB := bws_ HB hb; have NB589_622 := bkl_ BK589 hg; have NB622_589 := bkr_ BK589 hg; replace BK589 := bkb_ BK589 hb; have NB595_622 := bkl_ BK595 hg; have NB622_595 := bkr_ BK595 hg; replace BK595 := bkb_ BK595 hb; have NB599_622 := bkl_ BK599 hg; have NB622_599 := bkr_ BK599 hg; replace BK599 := bkb_ BK599 hb; have NB603_622 := bkl_ BK603 hg; have NB622_603 := bkr_ BK603 hg; replace BK603 := bkb_ BK603 hb; have NB618_622 := bkl_ BK618 hg; have NB622_618 := bkr_ BK618 hg; replace BK618 := bkb_ BK618 hb; clear hb hbox hg; have hnb169 := NB622_589.out; have hnc169 := NB589_622.out; have hnb170 := NB622_595.out; have hnc170 := NB595_622.out; have hnb171 := NB622_599.out; have hnc171 := NB599_622.out; have hnb172 := NB622_603.out; have hnc172 := NB603_622.out; have hnb173 := NB622_618.out; have hnc173 := NB618_622.out; obtain ⟨hcz174_0, hcz174_1, hfz174_0, hfz174_1⟩ := bc2_ BK622; have hnb175 := NB595_599.out; have hnc175 := NB599_595.out; have hnb176 := NB595_603.out; have hnc176 := NB603_595.out; obtain ⟨hcz177_0, hcz177_1, hfz177_0, hfz177_1⟩ := bc2_ BK595))
                                  go_ret
                                  exact ⟨by first | rfl | (simp [*] <;> rfl), bw_ HB⟩
                              · rw [if_neg c128] at H
                                have c128b0 : (t621 == t594) = false := beq_eq_false_iff_ne.mpr c128
                                have c128b1 : (t621 != t594) = true := bne_iff_ne.mpr c128
                                obtain rfl := Option.some.inj H
                                have hnb178 := NB589_595.out
                                have hnc178 := NB595_589.out
                                have hnb179 := NB589_599.out
                                have hnc179 := NB599_589.out
                                have hnb180 := NB589_603.out
                                have hnc180 := NB603_589.out
                                obtain ⟨hcz181_0, hcz181_1, hfz181_0, hfz181_1⟩ := bc2_ BK589
                                go_wp2_with (first | ((with_reducible refine gate_callee (f := 44) rfl ?_); refine gla_ (some 98) Try.func44 #[.agg #[.int .i64 a0_0, .int .i64 a0_1], .int .i64 (wrap64 ((Int.tmod (wrap64 (a1)) 31) - 1))] ?_; (with_reducible refine (num_Pow.calls kj41 a0_0 a0_1 (wrap64 ((Int.tmod (wrap64 (a1)) 31) - 1)) t615 t616 t617 _ A125.out).mono ?_); rintro e w182 ⟨rfl, hb⟩; refine ⟨_, rfl, ?_⟩; replace BK589 := bkb_ BK589 hb; replace BK595 := bkb_ BK595 hb; replace BK599 := bkb_ BK599 hb; replace BK603 := bkb_ BK603 hb; replace HB := bws_ HB hb; (try clear hb); (try clear hb2); (try clear hk); (try clear hi)) | ((with_reducible refine gate_dst (N := 19) rfl ?_); refine box_event ?hg (N := 19) ?hd (cs := #[.int .i64 0, .int .i64 0]) (t := 23) ?hr ?_; (case hd => rfl); (case hg => rfl); (case hr => first | (go_simp; done) | (go_simp; rfl)); intro gb618 hg w183 hbox hb; have BK618 := Aside0.mk hbox; have GW618 := bwg_ HB hg; have GE618 := bwg_ HB hg; replace HB := bws_ HB hb; have NB589_618 := bkl_ BK589 hg; have NB618_589 := bkr_ BK589 hg; replace BK589 := bkb_ BK589 hb; have NB595_618 := bkl_ BK595 hg; have NB618_595 := bkr_ BK595 hg; replace BK595 := bkb_ BK595 hb; have NB599_618 := bkl_ BK599 hg; have NB618_599 := bkr_ BK599 hg; replace BK599 := bkb_ BK599 hb; have NB603_618 := bkl_ BK603 hg; have NB618_603 := bkr_ BK603 hg; replace BK603 := bkb_ BK603 hb; clear hb hbox hg; have hnb184 := NB618_589.out; have hnc184 := NB589_618.out; have hnb185 := NB618_595.out; have hnc185 := NB595_618.out; have hnb186 := NB618_599.out; have hnc186 := NB599_618.out; have hnb187 := NB618_603.out; have hnc187 := NB603_618.out; obtain ⟨hcz188_0, hcz188_1, hfz188_0, hfz188_1⟩ := bc2_ BK618; obtain ⟨hcz189_0, hcz189_1, hfz189_0, hfz189_1⟩ := bc2_ BK589) | ((with_reducible refine gate_callee (f := 19) rfl ?_); refine gla_ (some 111) Try.func19 #[.agg #[.int .i64 t615, .int .i64 t616], .agg #[.int .i64 a0_0, .int .i64 a0_1]] ?_; (with_reducible refine (num_Mul.calls kj41 t615 t616 a0_0 a0_1 t619 t620 t621 _ A127.out).mono ?_); rintro e w190 ⟨rfl, hb⟩; refine ⟨_, rfl, ?_⟩; replace BK589 := Aside0.mk (blk_below (g := gb589) (o := .cells #[.int .i64 a0_0, .int .i64 a0_1] 23 (0, 0)) (by refine bf_ ?_ NB589_618; refine bf_ ?_ NB589_618; exact bk_ BK589) hb); replace BK595 := Aside0.mk (blk_below (g := gb595) (o := .cells #[.int .i64 t592, .int .i64 t593] 23 (0, 0)) (by refine bf_ ?_ NB595_618; refine bf_ ?_ NB595_618; exact bk_ BK595) hb); replace BK599 := Aside0.mk (blk_below (g := gb599) (o := .cells #[.int .i64 t596, .int .i64 t597] 23 (0, 0)) (by refine bf_ ?_ NB599_618; refine bf_ ?_ NB599_618; exact bk_ BK599) hb); replace BK603 := Aside0.mk (blk_below (g := gb603) (o := .cells #[.int .i64 t600, .int .i64 t601] 23 (0, 0)) (by refine bf_ ?_ NB603_618; refine bf_ ?_ NB603_618; exact bk_ BK603) hb); replace BK618 := Aside0.mk (blk_below (g := gb618) (o := .cells #[.int .i64 t615, .int .i64 t616] 23 (0, 0)) (by refine bp_ (cs := #[.int .i64 t615, .int .i64 0]) ?_ 1; refine bp_ (cs := #[.int .i64 0, .int .i64 0]) ?_ 0; exact bk_ BK618) hb); replace HB := bws_ HB hb; (try clear hb); (try clear hb2); (try clear hk); (try clear hi)) | ((with_reducible refine gate_dst (N := 21) rfl ?_); refine box_event ?hg (N := 21) ?hd (cs := #[.int .i64 0, .int .i64 0]) (t := 23) ?hr ?_; (case hd => rfl); (case hg => rfl); (case hr => first | (go_simp; done) | (go_simp; rfl)); intro gb622 hg w191 hbox hb; have BK622 := Aside0.mk hbox; have GW622 := bwg_ HB hg; have GE622 := bwg_ HB hg; replace HB := bws_ HB hb; have NB589_622 := bkl_ BK589 hg; have NB622_589 := bkr_ BK589 hg; replace BK589 := bkb_ BK589 hb; have NB595_622 := bkl_ BK595 hg; have NB622_595 := bkr_ BK595 hg; replace BK595 := bkb_ BK595 hb; have NB599_622 := bkl_ BK599 hg; have NB622_599 := bkr_ BK599 hg; replace BK599 := bkb_ BK599 hb; have NB603_622 := bkl_ BK603 hg; have NB622_603 := bkr_ BK603 hg; replace BK603 := bkb_ BK603 hb; have NB618_622 := bkl_ BK618 hg; have NB622_618 := bkr_ BK618 hg; replace BK618 := bkb_ BK618 hb; clear hb hbox hg; have hnb192 := NB622_589.out; have hnc192 := NB589_622.out; have hnb193 := NB622_595.out; have hnc193 := NB595_622.out; have hnb194 := NB622_599.out; have hnc194 := NB599_622.out; have hnb195 := NB622_603.out; have hnc195 := NB603_622.out; have hnb196 := NB622_618.out; have hnc196 := NB618_622.out; obtain ⟨hcz197_0, hcz197_1, hfz197_0, hfz197_1⟩ := bc2_ BK622))
                                go_ret
                                exact ⟨by first | rfl | (simp [*] <;> rfl), bw_ HB⟩
                            · rw [if_neg c126] at H
                              have c126b0 : (t617 == 0) = false := beq_eq_false_iff_ne.mpr c126
                              have c126b1 : (t617 != 0) = true := bne_iff_ne.mpr c126
                              by_cases c198 : t594 = 8
                              · rw [if_pos c198] at H
                                have c198b0 : (t594 == 8) = true := beq_iff_eq.mpr c198
                                have c198b1 : (t594 != 8) = false := bne_eq_false_iff_eq.mpr c198
                                clear c198
                                replace H := Option.bind_eq_some_iff.mp H
                                obtain ⟨t624, A1990, H⟩ := H
                                replace H : (some t624) = some r := H
                                have A199 := Aside0.mk A1990
                                clear A1990
                                obtain rfl := Option.some.inj H
                                have hnb200 := NB589_595.out
                                have hnc200 := NB595_589.out
                                have hnb201 := NB589_599.out
                                have hnc201 := NB599_589.out
                                have hnb202 := NB589_603.out
                                have hnc202 := NB603_589.out
                                obtain ⟨hcz203_0, hcz203_1, hfz203_0, hfz203_1⟩ := bc2_ BK589
                                go_wp2_with (first | ((with_reducible refine gate_callee (f := 44) rfl ?_); refine gla_ (some 98) Try.func44 #[.agg #[.int .i64 a0_0, .int .i64 a0_1], .int .i64 (wrap64 ((Int.tmod (wrap64 (a1)) 31) - 1))] ?_; (with_reducible refine (num_Pow.calls kj41 a0_0 a0_1 (wrap64 ((Int.tmod (wrap64 (a1)) 31) - 1)) t615 t616 t617 _ A125.out).mono ?_); rintro e w204 ⟨rfl, hb⟩; refine ⟨_, rfl, ?_⟩; replace BK589 := bkb_ BK589 hb; replace BK595 := bkb_ BK595 hb; replace BK599 := bkb_ BK599 hb; replace BK603 := bkb_ BK603 hb; replace HB := bws_ HB hb; (try clear hb); (try clear hb2); (try clear hk); (try clear hi)) | ((with_reducible refine gate_dst (N := 19) rfl ?_); refine box_event ?hg (N := 19) ?hd (cs := #[.int .i64 0, .int .i64 0]) (t := 23) ?hr ?_; (case hd => rfl); (case hg => rfl); (case hr => first | (go_simp; done) | (go_simp; rfl)); intro gb618 hg w205 hbox hb; have BK618 := Aside0.mk hbox; have GW618 := bwg_ HB hg; have GE618 := bwg_ HB hg; replace HB := bws_ HB hb; have NB589_618 := bkl_ BK589 hg; have NB618_589 := bkr_ BK589 hg; replace BK589 := bkb_ BK589 hb; have NB595_618 := bkl_ BK595 hg; have NB618_595 := bkr_ BK595 hg; replace BK595 := bkb_ BK595 hb; have NB599_618 := bkl_ BK599 hg; have NB618_599 := bkr_ BK599 hg; replace BK599 := bkb_ BK599 hb; have NB603_618 := bkl_ BK603 hg; have NB618_603 := bkr_ BK603 hg; replace BK603 := bkb_ BK603 hb; clear hb hbox hg; have hnb206 := NB618_589.out; have hnc206 := NB589_618.out; have hnb207 := NB618_595.out; have hnc207 := NB595_618.out; have hnb208 := NB618_599.out; have hnc208 := NB599_618.out; have hnb209 := NB618_603.out; have hnc209 := NB603_618.out; obtain ⟨hcz210_0, hcz210_1, hfz210_0, hfz210_1⟩ := bc2_ BK618) | (go_at_call 17; (with_reducible refine (withylaw01_summed.calls kj41  t624 _ A199.out).mono ?_); rintro e w211 ⟨rfl, hb⟩; replace BK589 := Aside0.mk (blk_below (g := gb589) (o := .cells #[.int .i64 a0_0, .int .i64 a0_1] 23 (0, 0)) (by refine bf_ ?_ NB589_618; refine bf_ ?_ NB589_618; exact bk_ BK589) hb); replace BK595 := Aside0.mk (blk_below (g := gb595) (o := .cells #[.int .i64 t592, .int .i64 t593] 23 (0, 0)) (by refine bf_ ?_ NB595_618; refine bf_ ?_ NB595_618; exact bk_ BK595) hb); replace BK599 := Aside0.mk (blk_below (g := gb599) (o := .cells #[.int .i64 t596, .int .i64 t597] 23 (0, 0)) (by refine bf_ ?_ NB599_618; refine bf_ ?_ NB599_618; exact bk_ BK599) hb); replace BK603 := Aside0.mk (blk_below (g := gb603) (o := .cells #[.int .i64 t600, .int .i64 t601] 23 (0, 0)) (by refine bf_ ?_ NB603_618; refine bf_ ?_ NB603_618; exact bk_ BK603) hb); replace BK618 := Aside0.mk (blk_below (g := gb618) (o := .cells #[.int .i64 t615, .int .i64 t616] 23 (0, 0)) (by refine bp_ (cs := #[.int .i64 t615, .int .i64 0]) ?_ 1; refine bp_ (cs := #[.int .i64 0, .int .i64 0]) ?_ 0; exact bk_ BK618) hb); replace HB := bws_ HB hb; (try clear hb); (try clear hb2); (try clear hk); (try clear hi)))
                                go_ret
                                exact ⟨by first | rfl | (simp [*] <;> rfl), bw_ HB⟩
                              · rw [if_neg c198] at H
                                have c198b0 : (t594 == 8) = false := beq_eq_false_iff_ne.mpr c198
                                have c198b1 : (t594 != 8) = true := bne_iff_ne.mpr c198
                                obtain rfl := Option.some.inj H
                                have hnb212 := NB589_595.out
                                have hnc212 := NB595_589.out
                                have hnb213 := NB589_599.out
                                have hnc213 := NB599_589.out
                                have hnb214 := NB589_603.out
                                have hnc214 := NB603_589.out
                                obtain ⟨hcz215_0, hcz215_1, hfz215_0, hfz215_1⟩ := bc2_ BK589
                                go_wp2_with (first | ((with_reducible refine gate_callee (f := 44) rfl ?_); refine gla_ (some 98) Try.func44 #[.agg #[.int .i64 a0_0, .int .i64 a0_1], .int .i64 (wrap64 ((Int.tmod (wrap64 (a1)) 31) - 1))] ?_; (with_reducible refine (num_Pow.calls kj41 a0_0 a0_1 (wrap64 ((Int.tmod (wrap64 (a1)) 31) - 1)) t615 t616 t617 _ A125.out).mono ?_); rintro e w216 ⟨rfl, hb⟩; refine ⟨_, rfl, ?_⟩; replace BK589 := bkb_ BK589 hb; replace BK595 := bkb_ BK595 hb; replace BK599 := bkb_ BK599 hb; replace BK603 := bkb_ BK603 hb; replace HB := bws_ HB hb; (try clear hb); (try clear hb2); (try clear hk); (try clear hi)) | ((with_reducible refine gate_dst (N := 19) rfl ?_); refine box_event ?hg (N := 19) ?hd (cs := #[.int .i64 0, .int .i64 0]) (t := 23) ?hr ?_; (case hd => rfl); (case hg => rfl); (case hr => first | (go_simp; done) | (go_simp; rfl)); intro gb618 hg w217 hbox hb; have BK618 := Aside0.mk hbox; have GW618 := bwg_ HB hg; have GE618 := bwg_ HB hg; replace HB := bws_ HB hb; have NB589_618 := bkl_ BK589 hg; have NB618_589 := bkr_ BK589 hg; replace BK589 := bkb_ BK589 hb; have NB595_618 := bkl_ BK595 hg; have NB618_595 := bkr_ BK595 hg; replace BK595 := bkb_ BK595 hb; have NB599_618 := bkl_ BK599 hg; have NB618_599 := bkr_ BK599 hg; replace BK599 := bkb_ BK599 hb; have NB603_618 := bkl_ BK603 hg; have NB618_603 := bkr_ BK603 hg; replace BK603 := bkb_ BK603 hb; clear hb hbox hg; have hnb218 := NB618_589.out; have hnc218 := NB589_618.out; have hnb219 := NB618_595.out; have hnc219 := NB595_618.out; have hnb220 := NB618_599.out; have hnc220 := NB599_618.out; have hnb221 := NB618_603.out; have hnc221 := NB603_618.out; obtain ⟨hcz222_0, hcz222_1, hfz222_0, hfz222_1⟩ := bc2_ BK618))
                                go_ret
                                exact ⟨by first | rfl | (simp [*] <;> rfl), bw_ HB⟩
  · rw [if_neg c5] at H
    have c5b0 : (t590 == 0) = false := beq_eq_false_iff_ne.mpr c5
    have c5b1 : (t590 != 0) = true := bne_iff_ne.mpr c5
    replace H := Option.bind_eq_some_iff.mp H
    obtain ⟨t591, A2230, H⟩ := H
    replace H : (some t591) = some r := H
    have A223 := Aside0.mk A2230
    clear A2230
    obtain rfl := Option.some.inj H
    as_aux_lemma =>
      go_enter Try.func9, Try.ntmps9
      go_wp2_with (first | ((with_reducible refine gate_dst (N := 3) rfl ?_); refine box_event ?hg (N := 3) ?hd (cs := #[.int .i64 a0_0, .int .i64 a0_1]) (t := 23) ?hr ?_; (case hd => rfl); (case hg => rfl); (case hr => first | (go_simp; done) | (go_simp; rfl)); intro gb589 hg w224 hbox hb; have BK589 := Aside0.mk hbox; have GW589 := bwg_ HB hg; have GE589 := bwg_ HB hg; replace HB := bws_ HB hb; clear hb hbox hg; obtain ⟨hcz225_0, hcz225_1, hfz225_0, hfz225_1⟩ := bc2_ BK589) | ((with_reducible refine gate_callee (f := 41) rfl ?_); refine gla_ (some 24) Try.func41 #[.agg #[.int .i64 a0_0, .int .i64 a0_1]] ?_; (with_reducible refine (withyref01_Check.calls k a0_0 a0_1 t590 _ A4.out).mono ?_); rintro e w226 ⟨rfl, hb⟩; refine ⟨_, rfl, ?_⟩; replace BK589 := bkb_ BK589 hb; replace HB := bws_ HB hb; (try clear hb); (try clear hb2); (try clear hk); (try clear hi)) | ((with_reducible refine gate_callee (f := 17) rfl ?_); refine gla_ (some 26) Try.func17 #[] ?_; (with_reducible refine (withylaw01_summed.calls k  t591 _ A223.out).mono ?_); rintro e w227 ⟨rfl, hb⟩; refine ⟨_, rfl, ?_⟩; replace BK589 := bkb_ BK589 hb; replace HB := bws_ HB hb; (try clear hb); (try clear hb2); (try clear hk); (try clear hi)))
      go_ret
      exact ⟨by first | rfl | (simp [*] <;> rfl), bw_ HB⟩
end Go.Proofs.Ytakcdoahpbeckaa.H
