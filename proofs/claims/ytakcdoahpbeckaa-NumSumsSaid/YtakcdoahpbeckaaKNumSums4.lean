/- NumSums: the printed functions it reaches, with their walks. Laid by wip/claimpack.py out of what wip/hprint.py printed. -/
import Derived.Test.YtakcdoahpbeckaaKNumSums3
namespace Go.Proofs.Ytakcdoahpbeckaa.H
open Go.RowKit Go.Proofs.YtakcdoahpbeckaaW.PrintWords Go.Proofs.YtakcdoahpbeckaaW.PrintLast Go.Proofs.YtakcdoahpbeckaaW.PrintMore
attribute [local go_sem] max2_int min2_int max_two min_two max_three min_three max_four min_four   -- for this text's walks alone
set_option linter.unusedVariables false
set_option linter.unusedSimpArgs false

attribute [local go_sem high] eqA23
/-! ### withylaw01_summed: function 17 -/
def withylaw01_summed.f (k : Nat)  : Option (Bool) := (num_Add.f k 1 2 1 3).bind fun bt240 => ((num_Simplest.f k 1 3 1 2).bind fun bt244 => ((num_Decimal.f k (-1) 8 2).bind fun bt248 => ((num_Parse.f k (⟨#[49, 46, 50, 53]⟩ : ByteArray)).bind fun bt250 => (if bt240.2.2 = 0 then (if bt244.2.2 = 0 then (if bt248.2 = 0 then (if bt250.2.2 = 0 then (if (bt240.1 == 5 && (bt240.2.1 == 6)) = true then (if (bt244.1 == 2 && (bt244.2.1 == 5)) = true then (if bt248.1.toList = ([45, 48, 46, 49, 50] : List UInt8) then (some (bt250.1 == 5 && (bt250.2.1 == 4))) else (some false)) else (some false)) else (some false)) else (some false)) else (some false)) else (some false)) else (some false)))))
theorem withylaw01_summed.mono : ∀ k, LeO (withylaw01_summed.f k ) (withylaw01_summed.f (k + 1) ) := by
  intro  k
  unfold withylaw01_summed.f
  repeat' first
      | (with_reducible exact num_Add.mono _ _ _ _ _)
      | (with_reducible exact num_Decimal.mono _ _ _ _)
      | (with_reducible exact num_Parse.mono _ _)
      | (with_reducible exact num_Simplest.mono _ _ _ _ _)
      | (with_reducible exact LeO.refl _)
      | (with_reducible exact LeO.none _)
      | (with_reducible refine LeO.ite ?_ ?_)
      | (with_reducible refine LeO.bind ?_ (fun _ => ?_))
      | (with_reducible refine LeO.exc (fun _ => ?_) (fun _ => ?_))
      | exact num_Add.mono _ _ _ _ _
      | exact num_Decimal.mono _ _ _ _
      | exact num_Parse.mono _ _
      | exact num_Simplest.mono _ _ _ _ _
      | exact LeO.none _
      | refine LeO.ite ?_ ?_
      | refine LeO.bind ?_ (fun _ => ?_)
set_option maxHeartbeats 8000000 in
set_option maxRecDepth 100000 in
theorem withylaw01_summed.calls (k : Nat)  (r : Bool) (w : World) (h : withylaw01_summed.f k  = some r) :
    Calls Try.prog 17 #[] w fun e w' => e = .returned (.bool r) ∧ Below w.heap.size w w' := by
  have hu23 := Try.underlying23
  have HB := Aside0.mk (Below.refl w.heap.size w)
  have H : ((num_Add.f k 1 2 1 3).bind fun bt240 => ((num_Simplest.f k 1 3 1 2).bind fun bt244 => ((num_Decimal.f k (-1) 8 2).bind fun bt248 => ((num_Parse.f k (⟨#[49, 46, 50, 53]⟩ : ByteArray)).bind fun bt250 => (if bt240.2.2 = 0 then (if bt244.2.2 = 0 then (if bt248.2 = 0 then (if bt250.2.2 = 0 then (if (bt240.1 == 5 && (bt240.2.1 == 6)) = true then (if (bt244.1 == 2 && (bt244.2.1 == 5)) = true then (if bt248.1.toList = ([45, 48, 46, 49, 50] : List UInt8) then (some (bt250.1 == 5 && (bt250.2.1 == 4))) else (some false)) else (some false)) else (some false)) else (some false)) else (some false)) else (some false)) else (some false)))))) = some r := h
  clear h
  replace H := Option.bind_eq_some_iff.mp H
  obtain ⟨⟨t240, t241, t242⟩, A10, H⟩ := H
  replace H : ((num_Simplest.f k 1 3 1 2).bind fun bt244 => ((num_Decimal.f k (-1) 8 2).bind fun bt248 => ((num_Parse.f k (⟨#[49, 46, 50, 53]⟩ : ByteArray)).bind fun bt250 => (if t242 = 0 then (if bt244.2.2 = 0 then (if bt248.2 = 0 then (if bt250.2.2 = 0 then (if (t240 == 5 && (t241 == 6)) = true then (if (bt244.1 == 2 && (bt244.2.1 == 5)) = true then (if bt248.1.toList = ([45, 48, 46, 49, 50] : List UInt8) then (some (bt250.1 == 5 && (bt250.2.1 == 4))) else (some false)) else (some false)) else (some false)) else (some false)) else (some false)) else (some false)) else (some false))))) = some r := H
  have A1 := Aside0.mk A10
  clear A10
  replace H := Option.bind_eq_some_iff.mp H
  obtain ⟨⟨t244, t245, t246⟩, A20, H⟩ := H
  replace H : ((num_Decimal.f k (-1) 8 2).bind fun bt248 => ((num_Parse.f k (⟨#[49, 46, 50, 53]⟩ : ByteArray)).bind fun bt250 => (if t242 = 0 then (if t246 = 0 then (if bt248.2 = 0 then (if bt250.2.2 = 0 then (if (t240 == 5 && (t241 == 6)) = true then (if (t244 == 2 && (t245 == 5)) = true then (if bt248.1.toList = ([45, 48, 46, 49, 50] : List UInt8) then (some (bt250.1 == 5 && (bt250.2.1 == 4))) else (some false)) else (some false)) else (some false)) else (some false)) else (some false)) else (some false)) else (some false)))) = some r := H
  have A2 := Aside0.mk A20
  clear A20
  replace H := Option.bind_eq_some_iff.mp H
  obtain ⟨⟨t248, t249⟩, A30, H⟩ := H
  replace H : ((num_Parse.f k (⟨#[49, 46, 50, 53]⟩ : ByteArray)).bind fun bt250 => (if t242 = 0 then (if t246 = 0 then (if t249 = 0 then (if bt250.2.2 = 0 then (if (t240 == 5 && (t241 == 6)) = true then (if (t244 == 2 && (t245 == 5)) = true then (if t248.toList = ([45, 48, 46, 49, 50] : List UInt8) then (some (bt250.1 == 5 && (bt250.2.1 == 4))) else (some false)) else (some false)) else (some false)) else (some false)) else (some false)) else (some false)) else (some false))) = some r := H
  have A3 := Aside0.mk A30
  clear A30
  replace H := Option.bind_eq_some_iff.mp H
  obtain ⟨⟨t250, t251, t252⟩, A40, H⟩ := H
  replace H : (if t242 = 0 then (if t246 = 0 then (if t249 = 0 then (if t252 = 0 then (if (t240 == 5 && (t241 == 6)) = true then (if (t244 == 2 && (t245 == 5)) = true then (if t248.toList = ([45, 48, 46, 49, 50] : List UInt8) then (some (t250 == 5 && (t251 == 4))) else (some false)) else (some false)) else (some false)) else (some false)) else (some false)) else (some false)) else (some false)) = some r := H
  have A4 := Aside0.mk A40
  clear A40
  by_cases c5 : t242 = 0
  · rw [if_pos c5] at H
    have c5b0 : (t242 == 0) = true := beq_iff_eq.mpr c5
    have c5b1 : (t242 != 0) = false := bne_eq_false_iff_eq.mpr c5
    clear c5
    by_cases c6 : t246 = 0
    · rw [if_pos c6] at H
      have c6b0 : (t246 == 0) = true := beq_iff_eq.mpr c6
      have c6b1 : (t246 != 0) = false := bne_eq_false_iff_eq.mpr c6
      clear c6
      by_cases c7 : t249 = 0
      · rw [if_pos c7] at H
        have c7b0 : (t249 == 0) = true := beq_iff_eq.mpr c7
        have c7b1 : (t249 != 0) = false := bne_eq_false_iff_eq.mpr c7
        clear c7
        by_cases c8 : t252 = 0
        · rw [if_pos c8] at H
          have c8b0 : (t252 == 0) = true := beq_iff_eq.mpr c8
          have c8b1 : (t252 != 0) = false := bne_eq_false_iff_eq.mpr c8
          clear c8
          by_cases c9 : (t240 == 5 && (t241 == 6)) = true
          · rw [if_pos c9] at H
            have c9b0 : (t240 == 5 && (t241 == 6)) = true := c9
            (try (have c9b1 : decide (t240 = 5 && (t241 == 6)) = true := by simpa using c9))
            (try (have c9b2 : (t240 == 5 && (t241 == 6)) = true := by simpa using c9))
            clear c9
            by_cases c10 : (t244 == 2 && (t245 == 5)) = true
            · rw [if_pos c10] at H
              have c10b0 : (t244 == 2 && (t245 == 5)) = true := c10
              (try (have c10b1 : decide (t244 = 2 && (t245 == 5)) = true := by simpa using c10))
              (try (have c10b2 : (t244 == 2 && (t245 == 5)) = true := by simpa using c10))
              clear c10
              by_cases c11 : t248.toList = ([45, 48, 46, 49, 50] : List UInt8)
              · rw [if_pos c11] at H
                have c11b0 : (t248.toList == ([45, 48, 46, 49, 50] : List UInt8)) = true := beq_iff_eq.mpr c11
                have c11b1 : (t248.toList != ([45, 48, 46, 49, 50] : List UInt8)) = false := bne_eq_false_iff_eq.mpr c11
                clear c11
                obtain rfl := Option.some.inj H
                go_enter Try.func17, Try.ntmps17
                go_wp2_with (first | ((with_reducible refine gate_callee (f := 18) rfl ?_); refine gla_ (some 12) Try.func18 #[.agg #[.int .i64 1, .int .i64 2], .agg #[.int .i64 1, .int .i64 3]] ?_; (with_reducible refine (num_Add.calls k 1 2 1 3 t240 t241 t242 _ A1.out).mono ?_); rintro e w12 ⟨rfl, hb⟩; refine ⟨_, rfl, ?_⟩; replace HB := bws_ HB hb; (try clear hb); (try clear hb2); (try clear hk); (try clear hi)) | ((with_reducible refine gate_dst (N := 1) rfl ?_); refine box_event ?hg (N := 1) ?hd (cs := #[.int .i64 0, .int .i64 0]) (t := 23) ?hr ?_; (case hd => rfl); (case hg => rfl); (case hr => first | (go_simp; done) | (go_simp; rfl)); intro gb243 hg w13 hbox hb; have BK243 := Aside0.mk hbox; have GW243 := bwg_ HB hg; have GE243 := bwg_ HB hg; replace HB := bws_ HB hb; clear hb hbox hg; obtain ⟨hcz14_0, hcz14_1, hfz14_0, hfz14_1⟩ := bc2_ BK243) | ((with_reducible refine gate_callee (f := 25) rfl ?_); refine gla_ (some 18) Try.func25 #[.agg #[.int .i64 1, .int .i64 3], .agg #[.int .i64 1, .int .i64 2]] ?_; (with_reducible refine (num_Simplest.calls k 1 3 1 2 t244 t245 t246 _ A2.out).mono ?_); rintro e w15 ⟨rfl, hb⟩; refine ⟨_, rfl, ?_⟩; replace BK243 := Aside0.mk (blk_below (g := gb243) (o := .cells #[.int .i64 t240, .int .i64 t241] 23 (0, 0)) (by refine bp_ (cs := #[.int .i64 t240, .int .i64 0]) ?_ 1; refine bp_ (cs := #[.int .i64 0, .int .i64 0]) ?_ 0; exact bk_ BK243) hb); replace HB := bws_ HB hb; (try clear hb); (try clear hb2); (try clear hk); (try clear hi)) | ((with_reducible refine gate_dst (N := 3) rfl ?_); refine box_event ?hg (N := 3) ?hd (cs := #[.int .i64 0, .int .i64 0]) (t := 23) ?hr ?_; (case hd => rfl); (case hg => rfl); (case hr => first | (go_simp; done) | (go_simp; rfl)); intro gb247 hg w16 hbox hb; have BK247 := Aside0.mk hbox; have GW247 := bwg_ HB hg; have GE247 := bwg_ HB hg; replace HB := bws_ HB hb; have NB243_247 := bkl_ BK243 hg; have NB247_243 := bkr_ BK243 hg; replace BK243 := bkb_ BK243 hb; clear hb hbox hg; have hnb17 := NB247_243.out; have hnc17 := NB243_247.out; obtain ⟨hcz18_0, hcz18_1, hfz18_0, hfz18_1⟩ := bc2_ BK247) | ((with_reducible refine gate_callee (f := 35) rfl ?_); refine gla_ (some 23) Try.func35 #[.agg #[.int .i64 (-1), .int .i64 8], .int .i64 2] ?_; (with_reducible refine (num_Decimal.calls k (-1) 8 2 t248 t249 _ A3.out).mono ?_); rintro e w19 ⟨rfl, hb⟩; refine ⟨_, rfl, ?_⟩; replace BK243 := Aside0.mk (blk_below (g := gb243) (o := .cells #[.int .i64 t240, .int .i64 t241] 23 (0, 0)) (by refine bf_ ?_ NB243_247; refine bf_ ?_ NB243_247; exact bk_ BK243) hb); replace BK247 := Aside0.mk (blk_below (g := gb247) (o := .cells #[.int .i64 t244, .int .i64 t245] 23 (0, 0)) (by refine bp_ (cs := #[.int .i64 t244, .int .i64 0]) ?_ 1; refine bp_ (cs := #[.int .i64 0, .int .i64 0]) ?_ 0; exact bk_ BK247) hb); replace HB := bws_ HB hb; (try clear hb); (try clear hb2); (try clear hk); (try clear hi)) | ((with_reducible refine gate_callee (f := 39) rfl ?_); refine gla_ (some 27) Try.func39 #[.string (⟨#[49, 46, 50, 53]⟩ : ByteArray)] ?_; (with_reducible refine (num_Parse.calls k (⟨#[49, 46, 50, 53]⟩ : ByteArray) t250 t251 t252 _ A4.out).mono ?_); rintro e w20 ⟨rfl, hb⟩; refine ⟨_, rfl, ?_⟩; replace BK243 := bkb_ BK243 hb; replace BK247 := bkb_ BK247 hb; replace HB := bws_ HB hb; (try clear hb); (try clear hb2); (try clear hk); (try clear hi)) | ((with_reducible refine gate_dst (N := 7) rfl ?_); refine box_event ?hg (N := 7) ?hd (cs := #[.int .i64 0, .int .i64 0]) (t := 23) ?hr ?_; (case hd => rfl); (case hg => rfl); (case hr => first | (go_simp; done) | (go_simp; rfl)); intro gb253 hg w21 hbox hb; have BK253 := Aside0.mk hbox; have GW253 := bwg_ HB hg; have GE253 := bwg_ HB hg; replace HB := bws_ HB hb; have NB243_253 := bkl_ BK243 hg; have NB253_243 := bkr_ BK243 hg; replace BK243 := bkb_ BK243 hb; have NB247_253 := bkl_ BK247 hg; have NB253_247 := bkr_ BK247 hg; replace BK247 := bkb_ BK247 hb; clear hb hbox hg; have hnb22 := NB253_243.out; have hnc22 := NB243_253.out; have hnb23 := NB253_247.out; have hnc23 := NB247_253.out; obtain ⟨hcz24_0, hcz24_1, hfz24_0, hfz24_1⟩ := bc2_ BK253; obtain ⟨hcz25_0, hcz25_1, hfz25_0, hfz25_1⟩ := bc2_ BK243; obtain ⟨hcz26_0, hcz26_1, hfz26_0, hfz26_1⟩ := bc2_ BK247))
                go_ret
                exact ⟨by first | rfl | (simp [*] <;> rfl), bw_ HB⟩
              · rw [if_neg c11] at H
                have c11b0 : (t248.toList == ([45, 48, 46, 49, 50] : List UInt8)) = false := beq_eq_false_iff_ne.mpr c11
                have c11b1 : (t248.toList != ([45, 48, 46, 49, 50] : List UInt8)) = true := bne_iff_ne.mpr c11
                obtain rfl := Option.some.inj H
                go_enter Try.func17, Try.ntmps17
                go_wp2_with (first | ((with_reducible refine gate_callee (f := 18) rfl ?_); refine gla_ (some 12) Try.func18 #[.agg #[.int .i64 1, .int .i64 2], .agg #[.int .i64 1, .int .i64 3]] ?_; (with_reducible refine (num_Add.calls k 1 2 1 3 t240 t241 t242 _ A1.out).mono ?_); rintro e w27 ⟨rfl, hb⟩; refine ⟨_, rfl, ?_⟩; replace HB := bws_ HB hb; (try clear hb); (try clear hb2); (try clear hk); (try clear hi)) | ((with_reducible refine gate_dst (N := 1) rfl ?_); refine box_event ?hg (N := 1) ?hd (cs := #[.int .i64 0, .int .i64 0]) (t := 23) ?hr ?_; (case hd => rfl); (case hg => rfl); (case hr => first | (go_simp; done) | (go_simp; rfl)); intro gb243 hg w28 hbox hb; have BK243 := Aside0.mk hbox; have GW243 := bwg_ HB hg; have GE243 := bwg_ HB hg; replace HB := bws_ HB hb; clear hb hbox hg; obtain ⟨hcz29_0, hcz29_1, hfz29_0, hfz29_1⟩ := bc2_ BK243) | ((with_reducible refine gate_callee (f := 25) rfl ?_); refine gla_ (some 18) Try.func25 #[.agg #[.int .i64 1, .int .i64 3], .agg #[.int .i64 1, .int .i64 2]] ?_; (with_reducible refine (num_Simplest.calls k 1 3 1 2 t244 t245 t246 _ A2.out).mono ?_); rintro e w30 ⟨rfl, hb⟩; refine ⟨_, rfl, ?_⟩; replace BK243 := Aside0.mk (blk_below (g := gb243) (o := .cells #[.int .i64 t240, .int .i64 t241] 23 (0, 0)) (by refine bp_ (cs := #[.int .i64 t240, .int .i64 0]) ?_ 1; refine bp_ (cs := #[.int .i64 0, .int .i64 0]) ?_ 0; exact bk_ BK243) hb); replace HB := bws_ HB hb; (try clear hb); (try clear hb2); (try clear hk); (try clear hi)) | ((with_reducible refine gate_dst (N := 3) rfl ?_); refine box_event ?hg (N := 3) ?hd (cs := #[.int .i64 0, .int .i64 0]) (t := 23) ?hr ?_; (case hd => rfl); (case hg => rfl); (case hr => first | (go_simp; done) | (go_simp; rfl)); intro gb247 hg w31 hbox hb; have BK247 := Aside0.mk hbox; have GW247 := bwg_ HB hg; have GE247 := bwg_ HB hg; replace HB := bws_ HB hb; have NB243_247 := bkl_ BK243 hg; have NB247_243 := bkr_ BK243 hg; replace BK243 := bkb_ BK243 hb; clear hb hbox hg; have hnb32 := NB247_243.out; have hnc32 := NB243_247.out; obtain ⟨hcz33_0, hcz33_1, hfz33_0, hfz33_1⟩ := bc2_ BK247) | ((with_reducible refine gate_callee (f := 35) rfl ?_); refine gla_ (some 23) Try.func35 #[.agg #[.int .i64 (-1), .int .i64 8], .int .i64 2] ?_; (with_reducible refine (num_Decimal.calls k (-1) 8 2 t248 t249 _ A3.out).mono ?_); rintro e w34 ⟨rfl, hb⟩; refine ⟨_, rfl, ?_⟩; replace BK243 := Aside0.mk (blk_below (g := gb243) (o := .cells #[.int .i64 t240, .int .i64 t241] 23 (0, 0)) (by refine bf_ ?_ NB243_247; refine bf_ ?_ NB243_247; exact bk_ BK243) hb); replace BK247 := Aside0.mk (blk_below (g := gb247) (o := .cells #[.int .i64 t244, .int .i64 t245] 23 (0, 0)) (by refine bp_ (cs := #[.int .i64 t244, .int .i64 0]) ?_ 1; refine bp_ (cs := #[.int .i64 0, .int .i64 0]) ?_ 0; exact bk_ BK247) hb); replace HB := bws_ HB hb; (try clear hb); (try clear hb2); (try clear hk); (try clear hi)) | ((with_reducible refine gate_callee (f := 39) rfl ?_); refine gla_ (some 27) Try.func39 #[.string (⟨#[49, 46, 50, 53]⟩ : ByteArray)] ?_; (with_reducible refine (num_Parse.calls k (⟨#[49, 46, 50, 53]⟩ : ByteArray) t250 t251 t252 _ A4.out).mono ?_); rintro e w35 ⟨rfl, hb⟩; refine ⟨_, rfl, ?_⟩; replace BK243 := bkb_ BK243 hb; replace BK247 := bkb_ BK247 hb; replace HB := bws_ HB hb; (try clear hb); (try clear hb2); (try clear hk); (try clear hi)) | ((with_reducible refine gate_dst (N := 7) rfl ?_); refine box_event ?hg (N := 7) ?hd (cs := #[.int .i64 0, .int .i64 0]) (t := 23) ?hr ?_; (case hd => rfl); (case hg => rfl); (case hr => first | (go_simp; done) | (go_simp; rfl)); intro gb253 hg w36 hbox hb; have BK253 := Aside0.mk hbox; have GW253 := bwg_ HB hg; have GE253 := bwg_ HB hg; replace HB := bws_ HB hb; have NB243_253 := bkl_ BK243 hg; have NB253_243 := bkr_ BK243 hg; replace BK243 := bkb_ BK243 hb; have NB247_253 := bkl_ BK247 hg; have NB253_247 := bkr_ BK247 hg; replace BK247 := bkb_ BK247 hb; clear hb hbox hg; have hnb37 := NB253_243.out; have hnc37 := NB243_253.out; have hnb38 := NB253_247.out; have hnc38 := NB247_253.out; obtain ⟨hcz39_0, hcz39_1, hfz39_0, hfz39_1⟩ := bc2_ BK253; obtain ⟨hcz40_0, hcz40_1, hfz40_0, hfz40_1⟩ := bc2_ BK243; obtain ⟨hcz41_0, hcz41_1, hfz41_0, hfz41_1⟩ := bc2_ BK247))
                go_ret
                exact ⟨by first | rfl | (simp [*] <;> rfl), bw_ HB⟩
            · rw [if_neg c10] at H
              have c10b0 : (t244 == 2 && (t245 == 5)) = false := by simpa using c10
              (try (have c10b1 : decide (t244 = 2 && (t245 == 5)) = false := by simpa using c10))
              (try (have c10b2 : (t244 == 2 && (t245 == 5)) = false := by simpa using c10))
              (try (have c10b3 : ¬ (t244 = 2 && (t245 == 5)) := by simpa using c10))
              clear c10
              obtain rfl := Option.some.inj H
              go_enter Try.func17, Try.ntmps17
              go_wp2_with (first | ((with_reducible refine gate_callee (f := 18) rfl ?_); refine gla_ (some 12) Try.func18 #[.agg #[.int .i64 1, .int .i64 2], .agg #[.int .i64 1, .int .i64 3]] ?_; (with_reducible refine (num_Add.calls k 1 2 1 3 t240 t241 t242 _ A1.out).mono ?_); rintro e w42 ⟨rfl, hb⟩; refine ⟨_, rfl, ?_⟩; replace HB := bws_ HB hb; (try clear hb); (try clear hb2); (try clear hk); (try clear hi)) | ((with_reducible refine gate_dst (N := 1) rfl ?_); refine box_event ?hg (N := 1) ?hd (cs := #[.int .i64 0, .int .i64 0]) (t := 23) ?hr ?_; (case hd => rfl); (case hg => rfl); (case hr => first | (go_simp; done) | (go_simp; rfl)); intro gb243 hg w43 hbox hb; have BK243 := Aside0.mk hbox; have GW243 := bwg_ HB hg; have GE243 := bwg_ HB hg; replace HB := bws_ HB hb; clear hb hbox hg; obtain ⟨hcz44_0, hcz44_1, hfz44_0, hfz44_1⟩ := bc2_ BK243) | ((with_reducible refine gate_callee (f := 25) rfl ?_); refine gla_ (some 18) Try.func25 #[.agg #[.int .i64 1, .int .i64 3], .agg #[.int .i64 1, .int .i64 2]] ?_; (with_reducible refine (num_Simplest.calls k 1 3 1 2 t244 t245 t246 _ A2.out).mono ?_); rintro e w45 ⟨rfl, hb⟩; refine ⟨_, rfl, ?_⟩; replace BK243 := Aside0.mk (blk_below (g := gb243) (o := .cells #[.int .i64 t240, .int .i64 t241] 23 (0, 0)) (by refine bp_ (cs := #[.int .i64 t240, .int .i64 0]) ?_ 1; refine bp_ (cs := #[.int .i64 0, .int .i64 0]) ?_ 0; exact bk_ BK243) hb); replace HB := bws_ HB hb; (try clear hb); (try clear hb2); (try clear hk); (try clear hi)) | ((with_reducible refine gate_dst (N := 3) rfl ?_); refine box_event ?hg (N := 3) ?hd (cs := #[.int .i64 0, .int .i64 0]) (t := 23) ?hr ?_; (case hd => rfl); (case hg => rfl); (case hr => first | (go_simp; done) | (go_simp; rfl)); intro gb247 hg w46 hbox hb; have BK247 := Aside0.mk hbox; have GW247 := bwg_ HB hg; have GE247 := bwg_ HB hg; replace HB := bws_ HB hb; have NB243_247 := bkl_ BK243 hg; have NB247_243 := bkr_ BK243 hg; replace BK243 := bkb_ BK243 hb; clear hb hbox hg; have hnb47 := NB247_243.out; have hnc47 := NB243_247.out; obtain ⟨hcz48_0, hcz48_1, hfz48_0, hfz48_1⟩ := bc2_ BK247) | ((with_reducible refine gate_callee (f := 35) rfl ?_); refine gla_ (some 23) Try.func35 #[.agg #[.int .i64 (-1), .int .i64 8], .int .i64 2] ?_; (with_reducible refine (num_Decimal.calls k (-1) 8 2 t248 t249 _ A3.out).mono ?_); rintro e w49 ⟨rfl, hb⟩; refine ⟨_, rfl, ?_⟩; replace BK243 := Aside0.mk (blk_below (g := gb243) (o := .cells #[.int .i64 t240, .int .i64 t241] 23 (0, 0)) (by refine bf_ ?_ NB243_247; refine bf_ ?_ NB243_247; exact bk_ BK243) hb); replace BK247 := Aside0.mk (blk_below (g := gb247) (o := .cells #[.int .i64 t244, .int .i64 t245] 23 (0, 0)) (by refine bp_ (cs := #[.int .i64 t244, .int .i64 0]) ?_ 1; refine bp_ (cs := #[.int .i64 0, .int .i64 0]) ?_ 0; exact bk_ BK247) hb); replace HB := bws_ HB hb; (try clear hb); (try clear hb2); (try clear hk); (try clear hi)) | ((with_reducible refine gate_callee (f := 39) rfl ?_); refine gla_ (some 27) Try.func39 #[.string (⟨#[49, 46, 50, 53]⟩ : ByteArray)] ?_; (with_reducible refine (num_Parse.calls k (⟨#[49, 46, 50, 53]⟩ : ByteArray) t250 t251 t252 _ A4.out).mono ?_); rintro e w50 ⟨rfl, hb⟩; refine ⟨_, rfl, ?_⟩; replace BK243 := bkb_ BK243 hb; replace BK247 := bkb_ BK247 hb; replace HB := bws_ HB hb; (try clear hb); (try clear hb2); (try clear hk); (try clear hi)) | ((with_reducible refine gate_dst (N := 7) rfl ?_); refine box_event ?hg (N := 7) ?hd (cs := #[.int .i64 0, .int .i64 0]) (t := 23) ?hr ?_; (case hd => rfl); (case hg => rfl); (case hr => first | (go_simp; done) | (go_simp; rfl)); intro gb253 hg w51 hbox hb; have BK253 := Aside0.mk hbox; have GW253 := bwg_ HB hg; have GE253 := bwg_ HB hg; replace HB := bws_ HB hb; have NB243_253 := bkl_ BK243 hg; have NB253_243 := bkr_ BK243 hg; replace BK243 := bkb_ BK243 hb; have NB247_253 := bkl_ BK247 hg; have NB253_247 := bkr_ BK247 hg; replace BK247 := bkb_ BK247 hb; clear hb hbox hg; have hnb52 := NB253_243.out; have hnc52 := NB243_253.out; have hnb53 := NB253_247.out; have hnc53 := NB247_253.out; obtain ⟨hcz54_0, hcz54_1, hfz54_0, hfz54_1⟩ := bc2_ BK253; obtain ⟨hcz55_0, hcz55_1, hfz55_0, hfz55_1⟩ := bc2_ BK243; obtain ⟨hcz56_0, hcz56_1, hfz56_0, hfz56_1⟩ := bc2_ BK247))
              go_ret
              exact ⟨by first | rfl | (simp [*] <;> rfl), bw_ HB⟩
          · rw [if_neg c9] at H
            have c9b0 : (t240 == 5 && (t241 == 6)) = false := by simpa using c9
            (try (have c9b1 : decide (t240 = 5 && (t241 == 6)) = false := by simpa using c9))
            (try (have c9b2 : (t240 == 5 && (t241 == 6)) = false := by simpa using c9))
            (try (have c9b3 : ¬ (t240 = 5 && (t241 == 6)) := by simpa using c9))
            clear c9
            obtain rfl := Option.some.inj H
            go_enter Try.func17, Try.ntmps17
            go_wp2_with (first | ((with_reducible refine gate_callee (f := 18) rfl ?_); refine gla_ (some 12) Try.func18 #[.agg #[.int .i64 1, .int .i64 2], .agg #[.int .i64 1, .int .i64 3]] ?_; (with_reducible refine (num_Add.calls k 1 2 1 3 t240 t241 t242 _ A1.out).mono ?_); rintro e w57 ⟨rfl, hb⟩; refine ⟨_, rfl, ?_⟩; replace HB := bws_ HB hb; (try clear hb); (try clear hb2); (try clear hk); (try clear hi)) | ((with_reducible refine gate_dst (N := 1) rfl ?_); refine box_event ?hg (N := 1) ?hd (cs := #[.int .i64 0, .int .i64 0]) (t := 23) ?hr ?_; (case hd => rfl); (case hg => rfl); (case hr => first | (go_simp; done) | (go_simp; rfl)); intro gb243 hg w58 hbox hb; have BK243 := Aside0.mk hbox; have GW243 := bwg_ HB hg; have GE243 := bwg_ HB hg; replace HB := bws_ HB hb; clear hb hbox hg; obtain ⟨hcz59_0, hcz59_1, hfz59_0, hfz59_1⟩ := bc2_ BK243) | ((with_reducible refine gate_callee (f := 25) rfl ?_); refine gla_ (some 18) Try.func25 #[.agg #[.int .i64 1, .int .i64 3], .agg #[.int .i64 1, .int .i64 2]] ?_; (with_reducible refine (num_Simplest.calls k 1 3 1 2 t244 t245 t246 _ A2.out).mono ?_); rintro e w60 ⟨rfl, hb⟩; refine ⟨_, rfl, ?_⟩; replace BK243 := Aside0.mk (blk_below (g := gb243) (o := .cells #[.int .i64 t240, .int .i64 t241] 23 (0, 0)) (by refine bp_ (cs := #[.int .i64 t240, .int .i64 0]) ?_ 1; refine bp_ (cs := #[.int .i64 0, .int .i64 0]) ?_ 0; exact bk_ BK243) hb); replace HB := bws_ HB hb; (try clear hb); (try clear hb2); (try clear hk); (try clear hi)) | ((with_reducible refine gate_dst (N := 3) rfl ?_); refine box_event ?hg (N := 3) ?hd (cs := #[.int .i64 0, .int .i64 0]) (t := 23) ?hr ?_; (case hd => rfl); (case hg => rfl); (case hr => first | (go_simp; done) | (go_simp; rfl)); intro gb247 hg w61 hbox hb; have BK247 := Aside0.mk hbox; have GW247 := bwg_ HB hg; have GE247 := bwg_ HB hg; replace HB := bws_ HB hb; have NB243_247 := bkl_ BK243 hg; have NB247_243 := bkr_ BK243 hg; replace BK243 := bkb_ BK243 hb; clear hb hbox hg; have hnb62 := NB247_243.out; have hnc62 := NB243_247.out; obtain ⟨hcz63_0, hcz63_1, hfz63_0, hfz63_1⟩ := bc2_ BK247) | ((with_reducible refine gate_callee (f := 35) rfl ?_); refine gla_ (some 23) Try.func35 #[.agg #[.int .i64 (-1), .int .i64 8], .int .i64 2] ?_; (with_reducible refine (num_Decimal.calls k (-1) 8 2 t248 t249 _ A3.out).mono ?_); rintro e w64 ⟨rfl, hb⟩; refine ⟨_, rfl, ?_⟩; replace BK243 := Aside0.mk (blk_below (g := gb243) (o := .cells #[.int .i64 t240, .int .i64 t241] 23 (0, 0)) (by refine bf_ ?_ NB243_247; refine bf_ ?_ NB243_247; exact bk_ BK243) hb); replace BK247 := Aside0.mk (blk_below (g := gb247) (o := .cells #[.int .i64 t244, .int .i64 t245] 23 (0, 0)) (by refine bp_ (cs := #[.int .i64 t244, .int .i64 0]) ?_ 1; refine bp_ (cs := #[.int .i64 0, .int .i64 0]) ?_ 0; exact bk_ BK247) hb); replace HB := bws_ HB hb; (try clear hb); (try clear hb2); (try clear hk); (try clear hi)) | ((with_reducible refine gate_callee (f := 39) rfl ?_); refine gla_ (some 27) Try.func39 #[.string (⟨#[49, 46, 50, 53]⟩ : ByteArray)] ?_; (with_reducible refine (num_Parse.calls k (⟨#[49, 46, 50, 53]⟩ : ByteArray) t250 t251 t252 _ A4.out).mono ?_); rintro e w65 ⟨rfl, hb⟩; refine ⟨_, rfl, ?_⟩; replace BK243 := bkb_ BK243 hb; replace BK247 := bkb_ BK247 hb; replace HB := bws_ HB hb; (try clear hb); (try clear hb2); (try clear hk); (try clear hi)) | ((with_reducible refine gate_dst (N := 7) rfl ?_); refine box_event ?hg (N := 7) ?hd (cs := #[.int .i64 0, .int .i64 0]) (t := 23) ?hr ?_; (case hd => rfl); (case hg => rfl); (case hr => first | (go_simp; done) | (go_simp; rfl)); intro gb253 hg w66 hbox hb; have BK253 := Aside0.mk hbox; have GW253 := bwg_ HB hg; have GE253 := bwg_ HB hg; replace HB := bws_ HB hb; have NB243_253 := bkl_ BK243 hg; have NB253_243 := bkr_ BK243 hg; replace BK243 := bkb_ BK243 hb; have NB247_253 := bkl_ BK247 hg; have NB253_247 := bkr_ BK247 hg; replace BK247 := bkb_ BK247 hb; clear hb hbox hg; have hnb67 := NB253_243.out; have hnc67 := NB243_253.out; have hnb68 := NB253_247.out; have hnc68 := NB247_253.out; obtain ⟨hcz69_0, hcz69_1, hfz69_0, hfz69_1⟩ := bc2_ BK253; obtain ⟨hcz70_0, hcz70_1, hfz70_0, hfz70_1⟩ := bc2_ BK243))
            go_ret
            exact ⟨by first | rfl | (simp [*] <;> rfl), bw_ HB⟩
        · rw [if_neg c8] at H
          have c8b0 : (t252 == 0) = false := beq_eq_false_iff_ne.mpr c8
          have c8b1 : (t252 != 0) = true := bne_iff_ne.mpr c8
          obtain rfl := Option.some.inj H
          go_enter Try.func17, Try.ntmps17
          go_wp2_with (first | ((with_reducible refine gate_callee (f := 18) rfl ?_); refine gla_ (some 12) Try.func18 #[.agg #[.int .i64 1, .int .i64 2], .agg #[.int .i64 1, .int .i64 3]] ?_; (with_reducible refine (num_Add.calls k 1 2 1 3 t240 t241 t242 _ A1.out).mono ?_); rintro e w71 ⟨rfl, hb⟩; refine ⟨_, rfl, ?_⟩; replace HB := bws_ HB hb; (try clear hb); (try clear hb2); (try clear hk); (try clear hi)) | ((with_reducible refine gate_dst (N := 1) rfl ?_); refine box_event ?hg (N := 1) ?hd (cs := #[.int .i64 0, .int .i64 0]) (t := 23) ?hr ?_; (case hd => rfl); (case hg => rfl); (case hr => first | (go_simp; done) | (go_simp; rfl)); intro gb243 hg w72 hbox hb; have BK243 := Aside0.mk hbox; have GW243 := bwg_ HB hg; have GE243 := bwg_ HB hg; replace HB := bws_ HB hb; clear hb hbox hg; obtain ⟨hcz73_0, hcz73_1, hfz73_0, hfz73_1⟩ := bc2_ BK243) | ((with_reducible refine gate_callee (f := 25) rfl ?_); refine gla_ (some 18) Try.func25 #[.agg #[.int .i64 1, .int .i64 3], .agg #[.int .i64 1, .int .i64 2]] ?_; (with_reducible refine (num_Simplest.calls k 1 3 1 2 t244 t245 t246 _ A2.out).mono ?_); rintro e w74 ⟨rfl, hb⟩; refine ⟨_, rfl, ?_⟩; replace BK243 := Aside0.mk (blk_below (g := gb243) (o := .cells #[.int .i64 t240, .int .i64 t241] 23 (0, 0)) (by refine bp_ (cs := #[.int .i64 t240, .int .i64 0]) ?_ 1; refine bp_ (cs := #[.int .i64 0, .int .i64 0]) ?_ 0; exact bk_ BK243) hb); replace HB := bws_ HB hb; (try clear hb); (try clear hb2); (try clear hk); (try clear hi)) | ((with_reducible refine gate_dst (N := 3) rfl ?_); refine box_event ?hg (N := 3) ?hd (cs := #[.int .i64 0, .int .i64 0]) (t := 23) ?hr ?_; (case hd => rfl); (case hg => rfl); (case hr => first | (go_simp; done) | (go_simp; rfl)); intro gb247 hg w75 hbox hb; have BK247 := Aside0.mk hbox; have GW247 := bwg_ HB hg; have GE247 := bwg_ HB hg; replace HB := bws_ HB hb; have NB243_247 := bkl_ BK243 hg; have NB247_243 := bkr_ BK243 hg; replace BK243 := bkb_ BK243 hb; clear hb hbox hg; have hnb76 := NB247_243.out; have hnc76 := NB243_247.out; obtain ⟨hcz77_0, hcz77_1, hfz77_0, hfz77_1⟩ := bc2_ BK247) | ((with_reducible refine gate_callee (f := 35) rfl ?_); refine gla_ (some 23) Try.func35 #[.agg #[.int .i64 (-1), .int .i64 8], .int .i64 2] ?_; (with_reducible refine (num_Decimal.calls k (-1) 8 2 t248 t249 _ A3.out).mono ?_); rintro e w78 ⟨rfl, hb⟩; refine ⟨_, rfl, ?_⟩; replace BK243 := Aside0.mk (blk_below (g := gb243) (o := .cells #[.int .i64 t240, .int .i64 t241] 23 (0, 0)) (by refine bf_ ?_ NB243_247; refine bf_ ?_ NB243_247; exact bk_ BK243) hb); replace BK247 := Aside0.mk (blk_below (g := gb247) (o := .cells #[.int .i64 t244, .int .i64 t245] 23 (0, 0)) (by refine bp_ (cs := #[.int .i64 t244, .int .i64 0]) ?_ 1; refine bp_ (cs := #[.int .i64 0, .int .i64 0]) ?_ 0; exact bk_ BK247) hb); replace HB := bws_ HB hb; (try clear hb); (try clear hb2); (try clear hk); (try clear hi)) | ((with_reducible refine gate_callee (f := 39) rfl ?_); refine gla_ (some 27) Try.func39 #[.string (⟨#[49, 46, 50, 53]⟩ : ByteArray)] ?_; (with_reducible refine (num_Parse.calls k (⟨#[49, 46, 50, 53]⟩ : ByteArray) t250 t251 t252 _ A4.out).mono ?_); rintro e w79 ⟨rfl, hb⟩; refine ⟨_, rfl, ?_⟩; replace BK243 := bkb_ BK243 hb; replace BK247 := bkb_ BK247 hb; replace HB := bws_ HB hb; (try clear hb); (try clear hb2); (try clear hk); (try clear hi)) | ((with_reducible refine gate_dst (N := 7) rfl ?_); refine box_event ?hg (N := 7) ?hd (cs := #[.int .i64 0, .int .i64 0]) (t := 23) ?hr ?_; (case hd => rfl); (case hg => rfl); (case hr => first | (go_simp; done) | (go_simp; rfl)); intro gb253 hg w80 hbox hb; have BK253 := Aside0.mk hbox; have GW253 := bwg_ HB hg; have GE253 := bwg_ HB hg; replace HB := bws_ HB hb; have NB243_253 := bkl_ BK243 hg; have NB253_243 := bkr_ BK243 hg; replace BK243 := bkb_ BK243 hb; have NB247_253 := bkl_ BK247 hg; have NB253_247 := bkr_ BK247 hg; replace BK247 := bkb_ BK247 hb; clear hb hbox hg; have hnb81 := NB253_243.out; have hnc81 := NB243_253.out; have hnb82 := NB253_247.out; have hnc82 := NB247_253.out; obtain ⟨hcz83_0, hcz83_1, hfz83_0, hfz83_1⟩ := bc2_ BK253))
          go_ret
          exact ⟨by first | rfl | (simp [*] <;> rfl), bw_ HB⟩
      · rw [if_neg c7] at H
        have c7b0 : (t249 == 0) = false := beq_eq_false_iff_ne.mpr c7
        have c7b1 : (t249 != 0) = true := bne_iff_ne.mpr c7
        obtain rfl := Option.some.inj H
        go_enter Try.func17, Try.ntmps17
        go_wp2_with (first | ((with_reducible refine gate_callee (f := 18) rfl ?_); refine gla_ (some 12) Try.func18 #[.agg #[.int .i64 1, .int .i64 2], .agg #[.int .i64 1, .int .i64 3]] ?_; (with_reducible refine (num_Add.calls k 1 2 1 3 t240 t241 t242 _ A1.out).mono ?_); rintro e w84 ⟨rfl, hb⟩; refine ⟨_, rfl, ?_⟩; replace HB := bws_ HB hb; (try clear hb); (try clear hb2); (try clear hk); (try clear hi)) | ((with_reducible refine gate_dst (N := 1) rfl ?_); refine box_event ?hg (N := 1) ?hd (cs := #[.int .i64 0, .int .i64 0]) (t := 23) ?hr ?_; (case hd => rfl); (case hg => rfl); (case hr => first | (go_simp; done) | (go_simp; rfl)); intro gb243 hg w85 hbox hb; have BK243 := Aside0.mk hbox; have GW243 := bwg_ HB hg; have GE243 := bwg_ HB hg; replace HB := bws_ HB hb; clear hb hbox hg; obtain ⟨hcz86_0, hcz86_1, hfz86_0, hfz86_1⟩ := bc2_ BK243) | ((with_reducible refine gate_callee (f := 25) rfl ?_); refine gla_ (some 18) Try.func25 #[.agg #[.int .i64 1, .int .i64 3], .agg #[.int .i64 1, .int .i64 2]] ?_; (with_reducible refine (num_Simplest.calls k 1 3 1 2 t244 t245 t246 _ A2.out).mono ?_); rintro e w87 ⟨rfl, hb⟩; refine ⟨_, rfl, ?_⟩; replace BK243 := Aside0.mk (blk_below (g := gb243) (o := .cells #[.int .i64 t240, .int .i64 t241] 23 (0, 0)) (by refine bp_ (cs := #[.int .i64 t240, .int .i64 0]) ?_ 1; refine bp_ (cs := #[.int .i64 0, .int .i64 0]) ?_ 0; exact bk_ BK243) hb); replace HB := bws_ HB hb; (try clear hb); (try clear hb2); (try clear hk); (try clear hi)) | ((with_reducible refine gate_dst (N := 3) rfl ?_); refine box_event ?hg (N := 3) ?hd (cs := #[.int .i64 0, .int .i64 0]) (t := 23) ?hr ?_; (case hd => rfl); (case hg => rfl); (case hr => first | (go_simp; done) | (go_simp; rfl)); intro gb247 hg w88 hbox hb; have BK247 := Aside0.mk hbox; have GW247 := bwg_ HB hg; have GE247 := bwg_ HB hg; replace HB := bws_ HB hb; have NB243_247 := bkl_ BK243 hg; have NB247_243 := bkr_ BK243 hg; replace BK243 := bkb_ BK243 hb; clear hb hbox hg; have hnb89 := NB247_243.out; have hnc89 := NB243_247.out; obtain ⟨hcz90_0, hcz90_1, hfz90_0, hfz90_1⟩ := bc2_ BK247) | ((with_reducible refine gate_callee (f := 35) rfl ?_); refine gla_ (some 23) Try.func35 #[.agg #[.int .i64 (-1), .int .i64 8], .int .i64 2] ?_; (with_reducible refine (num_Decimal.calls k (-1) 8 2 t248 t249 _ A3.out).mono ?_); rintro e w91 ⟨rfl, hb⟩; refine ⟨_, rfl, ?_⟩; replace BK243 := Aside0.mk (blk_below (g := gb243) (o := .cells #[.int .i64 t240, .int .i64 t241] 23 (0, 0)) (by refine bf_ ?_ NB243_247; refine bf_ ?_ NB243_247; exact bk_ BK243) hb); replace BK247 := Aside0.mk (blk_below (g := gb247) (o := .cells #[.int .i64 t244, .int .i64 t245] 23 (0, 0)) (by refine bp_ (cs := #[.int .i64 t244, .int .i64 0]) ?_ 1; refine bp_ (cs := #[.int .i64 0, .int .i64 0]) ?_ 0; exact bk_ BK247) hb); replace HB := bws_ HB hb; (try clear hb); (try clear hb2); (try clear hk); (try clear hi)) | ((with_reducible refine gate_callee (f := 39) rfl ?_); refine gla_ (some 27) Try.func39 #[.string (⟨#[49, 46, 50, 53]⟩ : ByteArray)] ?_; (with_reducible refine (num_Parse.calls k (⟨#[49, 46, 50, 53]⟩ : ByteArray) t250 t251 t252 _ A4.out).mono ?_); rintro e w92 ⟨rfl, hb⟩; refine ⟨_, rfl, ?_⟩; replace BK243 := bkb_ BK243 hb; replace BK247 := bkb_ BK247 hb; replace HB := bws_ HB hb; (try clear hb); (try clear hb2); (try clear hk); (try clear hi)) | ((with_reducible refine gate_dst (N := 7) rfl ?_); refine box_event ?hg (N := 7) ?hd (cs := #[.int .i64 0, .int .i64 0]) (t := 23) ?hr ?_; (case hd => rfl); (case hg => rfl); (case hr => first | (go_simp; done) | (go_simp; rfl)); intro gb253 hg w93 hbox hb; have BK253 := Aside0.mk hbox; have GW253 := bwg_ HB hg; have GE253 := bwg_ HB hg; replace HB := bws_ HB hb; have NB243_253 := bkl_ BK243 hg; have NB253_243 := bkr_ BK243 hg; replace BK243 := bkb_ BK243 hb; have NB247_253 := bkl_ BK247 hg; have NB253_247 := bkr_ BK247 hg; replace BK247 := bkb_ BK247 hb; clear hb hbox hg; have hnb94 := NB253_243.out; have hnc94 := NB243_253.out; have hnb95 := NB253_247.out; have hnc95 := NB247_253.out; obtain ⟨hcz96_0, hcz96_1, hfz96_0, hfz96_1⟩ := bc2_ BK253))
        go_ret
        exact ⟨by first | rfl | (simp [*] <;> rfl), bw_ HB⟩
    · rw [if_neg c6] at H
      have c6b0 : (t246 == 0) = false := beq_eq_false_iff_ne.mpr c6
      have c6b1 : (t246 != 0) = true := bne_iff_ne.mpr c6
      obtain rfl := Option.some.inj H
      go_enter Try.func17, Try.ntmps17
      go_wp2_with (first | ((with_reducible refine gate_callee (f := 18) rfl ?_); refine gla_ (some 12) Try.func18 #[.agg #[.int .i64 1, .int .i64 2], .agg #[.int .i64 1, .int .i64 3]] ?_; (with_reducible refine (num_Add.calls k 1 2 1 3 t240 t241 t242 _ A1.out).mono ?_); rintro e w97 ⟨rfl, hb⟩; refine ⟨_, rfl, ?_⟩; replace HB := bws_ HB hb; (try clear hb); (try clear hb2); (try clear hk); (try clear hi)) | ((with_reducible refine gate_dst (N := 1) rfl ?_); refine box_event ?hg (N := 1) ?hd (cs := #[.int .i64 0, .int .i64 0]) (t := 23) ?hr ?_; (case hd => rfl); (case hg => rfl); (case hr => first | (go_simp; done) | (go_simp; rfl)); intro gb243 hg w98 hbox hb; have BK243 := Aside0.mk hbox; have GW243 := bwg_ HB hg; have GE243 := bwg_ HB hg; replace HB := bws_ HB hb; clear hb hbox hg; obtain ⟨hcz99_0, hcz99_1, hfz99_0, hfz99_1⟩ := bc2_ BK243) | ((with_reducible refine gate_callee (f := 25) rfl ?_); refine gla_ (some 18) Try.func25 #[.agg #[.int .i64 1, .int .i64 3], .agg #[.int .i64 1, .int .i64 2]] ?_; (with_reducible refine (num_Simplest.calls k 1 3 1 2 t244 t245 t246 _ A2.out).mono ?_); rintro e w100 ⟨rfl, hb⟩; refine ⟨_, rfl, ?_⟩; replace BK243 := Aside0.mk (blk_below (g := gb243) (o := .cells #[.int .i64 t240, .int .i64 t241] 23 (0, 0)) (by refine bp_ (cs := #[.int .i64 t240, .int .i64 0]) ?_ 1; refine bp_ (cs := #[.int .i64 0, .int .i64 0]) ?_ 0; exact bk_ BK243) hb); replace HB := bws_ HB hb; (try clear hb); (try clear hb2); (try clear hk); (try clear hi)) | ((with_reducible refine gate_dst (N := 3) rfl ?_); refine box_event ?hg (N := 3) ?hd (cs := #[.int .i64 0, .int .i64 0]) (t := 23) ?hr ?_; (case hd => rfl); (case hg => rfl); (case hr => first | (go_simp; done) | (go_simp; rfl)); intro gb247 hg w101 hbox hb; have BK247 := Aside0.mk hbox; have GW247 := bwg_ HB hg; have GE247 := bwg_ HB hg; replace HB := bws_ HB hb; have NB243_247 := bkl_ BK243 hg; have NB247_243 := bkr_ BK243 hg; replace BK243 := bkb_ BK243 hb; clear hb hbox hg; have hnb102 := NB247_243.out; have hnc102 := NB243_247.out; obtain ⟨hcz103_0, hcz103_1, hfz103_0, hfz103_1⟩ := bc2_ BK247) | ((with_reducible refine gate_callee (f := 35) rfl ?_); refine gla_ (some 23) Try.func35 #[.agg #[.int .i64 (-1), .int .i64 8], .int .i64 2] ?_; (with_reducible refine (num_Decimal.calls k (-1) 8 2 t248 t249 _ A3.out).mono ?_); rintro e w104 ⟨rfl, hb⟩; refine ⟨_, rfl, ?_⟩; replace BK243 := Aside0.mk (blk_below (g := gb243) (o := .cells #[.int .i64 t240, .int .i64 t241] 23 (0, 0)) (by refine bf_ ?_ NB243_247; refine bf_ ?_ NB243_247; exact bk_ BK243) hb); replace BK247 := Aside0.mk (blk_below (g := gb247) (o := .cells #[.int .i64 t244, .int .i64 t245] 23 (0, 0)) (by refine bp_ (cs := #[.int .i64 t244, .int .i64 0]) ?_ 1; refine bp_ (cs := #[.int .i64 0, .int .i64 0]) ?_ 0; exact bk_ BK247) hb); replace HB := bws_ HB hb; (try clear hb); (try clear hb2); (try clear hk); (try clear hi)) | ((with_reducible refine gate_callee (f := 39) rfl ?_); refine gla_ (some 27) Try.func39 #[.string (⟨#[49, 46, 50, 53]⟩ : ByteArray)] ?_; (with_reducible refine (num_Parse.calls k (⟨#[49, 46, 50, 53]⟩ : ByteArray) t250 t251 t252 _ A4.out).mono ?_); rintro e w105 ⟨rfl, hb⟩; refine ⟨_, rfl, ?_⟩; replace BK243 := bkb_ BK243 hb; replace BK247 := bkb_ BK247 hb; replace HB := bws_ HB hb; (try clear hb); (try clear hb2); (try clear hk); (try clear hi)) | ((with_reducible refine gate_dst (N := 7) rfl ?_); refine box_event ?hg (N := 7) ?hd (cs := #[.int .i64 0, .int .i64 0]) (t := 23) ?hr ?_; (case hd => rfl); (case hg => rfl); (case hr => first | (go_simp; done) | (go_simp; rfl)); intro gb253 hg w106 hbox hb; have BK253 := Aside0.mk hbox; have GW253 := bwg_ HB hg; have GE253 := bwg_ HB hg; replace HB := bws_ HB hb; have NB243_253 := bkl_ BK243 hg; have NB253_243 := bkr_ BK243 hg; replace BK243 := bkb_ BK243 hb; have NB247_253 := bkl_ BK247 hg; have NB253_247 := bkr_ BK247 hg; replace BK247 := bkb_ BK247 hb; clear hb hbox hg; have hnb107 := NB253_243.out; have hnc107 := NB243_253.out; have hnb108 := NB253_247.out; have hnc108 := NB247_253.out; obtain ⟨hcz109_0, hcz109_1, hfz109_0, hfz109_1⟩ := bc2_ BK253))
      go_ret
      exact ⟨by first | rfl | (simp [*] <;> rfl), bw_ HB⟩
  · rw [if_neg c5] at H
    have c5b0 : (t242 == 0) = false := beq_eq_false_iff_ne.mpr c5
    have c5b1 : (t242 != 0) = true := bne_iff_ne.mpr c5
    obtain rfl := Option.some.inj H
    go_enter Try.func17, Try.ntmps17
    go_wp2_with (first | ((with_reducible refine gate_callee (f := 18) rfl ?_); refine gla_ (some 12) Try.func18 #[.agg #[.int .i64 1, .int .i64 2], .agg #[.int .i64 1, .int .i64 3]] ?_; (with_reducible refine (num_Add.calls k 1 2 1 3 t240 t241 t242 _ A1.out).mono ?_); rintro e w110 ⟨rfl, hb⟩; refine ⟨_, rfl, ?_⟩; replace HB := bws_ HB hb; (try clear hb); (try clear hb2); (try clear hk); (try clear hi)) | ((with_reducible refine gate_dst (N := 1) rfl ?_); refine box_event ?hg (N := 1) ?hd (cs := #[.int .i64 0, .int .i64 0]) (t := 23) ?hr ?_; (case hd => rfl); (case hg => rfl); (case hr => first | (go_simp; done) | (go_simp; rfl)); intro gb243 hg w111 hbox hb; have BK243 := Aside0.mk hbox; have GW243 := bwg_ HB hg; have GE243 := bwg_ HB hg; replace HB := bws_ HB hb; clear hb hbox hg; obtain ⟨hcz112_0, hcz112_1, hfz112_0, hfz112_1⟩ := bc2_ BK243) | ((with_reducible refine gate_callee (f := 25) rfl ?_); refine gla_ (some 18) Try.func25 #[.agg #[.int .i64 1, .int .i64 3], .agg #[.int .i64 1, .int .i64 2]] ?_; (with_reducible refine (num_Simplest.calls k 1 3 1 2 t244 t245 t246 _ A2.out).mono ?_); rintro e w113 ⟨rfl, hb⟩; refine ⟨_, rfl, ?_⟩; replace BK243 := Aside0.mk (blk_below (g := gb243) (o := .cells #[.int .i64 t240, .int .i64 t241] 23 (0, 0)) (by refine bp_ (cs := #[.int .i64 t240, .int .i64 0]) ?_ 1; refine bp_ (cs := #[.int .i64 0, .int .i64 0]) ?_ 0; exact bk_ BK243) hb); replace HB := bws_ HB hb; (try clear hb); (try clear hb2); (try clear hk); (try clear hi)) | ((with_reducible refine gate_dst (N := 3) rfl ?_); refine box_event ?hg (N := 3) ?hd (cs := #[.int .i64 0, .int .i64 0]) (t := 23) ?hr ?_; (case hd => rfl); (case hg => rfl); (case hr => first | (go_simp; done) | (go_simp; rfl)); intro gb247 hg w114 hbox hb; have BK247 := Aside0.mk hbox; have GW247 := bwg_ HB hg; have GE247 := bwg_ HB hg; replace HB := bws_ HB hb; have NB243_247 := bkl_ BK243 hg; have NB247_243 := bkr_ BK243 hg; replace BK243 := bkb_ BK243 hb; clear hb hbox hg; have hnb115 := NB247_243.out; have hnc115 := NB243_247.out; obtain ⟨hcz116_0, hcz116_1, hfz116_0, hfz116_1⟩ := bc2_ BK247) | ((with_reducible refine gate_callee (f := 35) rfl ?_); refine gla_ (some 23) Try.func35 #[.agg #[.int .i64 (-1), .int .i64 8], .int .i64 2] ?_; (with_reducible refine (num_Decimal.calls k (-1) 8 2 t248 t249 _ A3.out).mono ?_); rintro e w117 ⟨rfl, hb⟩; refine ⟨_, rfl, ?_⟩; replace BK243 := Aside0.mk (blk_below (g := gb243) (o := .cells #[.int .i64 t240, .int .i64 t241] 23 (0, 0)) (by refine bf_ ?_ NB243_247; refine bf_ ?_ NB243_247; exact bk_ BK243) hb); replace BK247 := Aside0.mk (blk_below (g := gb247) (o := .cells #[.int .i64 t244, .int .i64 t245] 23 (0, 0)) (by refine bp_ (cs := #[.int .i64 t244, .int .i64 0]) ?_ 1; refine bp_ (cs := #[.int .i64 0, .int .i64 0]) ?_ 0; exact bk_ BK247) hb); replace HB := bws_ HB hb; (try clear hb); (try clear hb2); (try clear hk); (try clear hi)) | ((with_reducible refine gate_callee (f := 39) rfl ?_); refine gla_ (some 27) Try.func39 #[.string (⟨#[49, 46, 50, 53]⟩ : ByteArray)] ?_; (with_reducible refine (num_Parse.calls k (⟨#[49, 46, 50, 53]⟩ : ByteArray) t250 t251 t252 _ A4.out).mono ?_); rintro e w118 ⟨rfl, hb⟩; refine ⟨_, rfl, ?_⟩; replace BK243 := bkb_ BK243 hb; replace BK247 := bkb_ BK247 hb; replace HB := bws_ HB hb; (try clear hb); (try clear hb2); (try clear hk); (try clear hi)) | ((with_reducible refine gate_dst (N := 7) rfl ?_); refine box_event ?hg (N := 7) ?hd (cs := #[.int .i64 0, .int .i64 0]) (t := 23) ?hr ?_; (case hd => rfl); (case hg => rfl); (case hr => first | (go_simp; done) | (go_simp; rfl)); intro gb253 hg w119 hbox hb; have BK253 := Aside0.mk hbox; have GW253 := bwg_ HB hg; have GE253 := bwg_ HB hg; replace HB := bws_ HB hb; have NB243_253 := bkl_ BK243 hg; have NB253_243 := bkr_ BK243 hg; replace BK243 := bkb_ BK243 hb; have NB247_253 := bkl_ BK247 hg; have NB253_247 := bkr_ BK247 hg; replace BK247 := bkb_ BK247 hb; clear hb hbox hg; have hnb120 := NB253_243.out; have hnc120 := NB243_253.out; have hnb121 := NB253_247.out; have hnc121 := NB247_253.out; obtain ⟨hcz122_0, hcz122_1, hfz122_0, hfz122_1⟩ := bc2_ BK253))
    go_ret
    exact ⟨by first | rfl | (simp [*] <;> rfl), bw_ HB⟩
/-! ### num_Mul: function 19 -/
def num_Mul.f (k : Nat) (a0_0 : Int) (a0_1 : Int) (a1_0 : Int) (a1_1 : Int) : Option (Int × Int × Int) := (num_reckon.f k 42 a0_0 a0_1 a1_0 a1_1).bind fun bt257 => (some (bt257.1, bt257.2.1, bt257.2.2))
theorem num_Mul.mono : ∀ a0 a1 a2 a3 k, LeO (num_Mul.f k a0 a1 a2 a3) (num_Mul.f (k + 1) a0 a1 a2 a3) := by
  intro a0 a1 a2 a3 k
  unfold num_Mul.f
  repeat' first
      | (with_reducible exact num_reckon.mono _ _ _ _ _ _)
      | (with_reducible exact LeO.refl _)
      | (with_reducible exact LeO.none _)
      | (with_reducible refine LeO.ite ?_ ?_)
      | (with_reducible refine LeO.bind ?_ (fun _ => ?_))
      | (with_reducible refine LeO.exc (fun _ => ?_) (fun _ => ?_))
      | exact num_reckon.mono _ _ _ _ _ _
      | exact LeO.none _
      | refine LeO.ite ?_ ?_
      | refine LeO.bind ?_ (fun _ => ?_)
set_option maxHeartbeats 8000000 in
set_option maxRecDepth 100000 in
theorem num_Mul.calls (k : Nat) (a0_0 : Int) (a0_1 : Int) (a1_0 : Int) (a1_1 : Int) (r1 : Int) (r2 : Int) (r3 : Int) (w : World) (h : num_Mul.f k a0_0 a0_1 a1_0 a1_1 = some (r1, r2, r3)) :
    Calls Try.prog 19 #[.agg #[.int .i64 a0_0, .int .i64 a0_1], .agg #[.int .i64 a1_0, .int .i64 a1_1]] w fun e w' => e = .returned (.tuple #[.agg #[.int .i64 r1, .int .i64 r2], .int .i64 r3]) ∧ Below w.heap.size w w' := by
  have hu23 := Try.underlying23
  have HB := Aside0.mk (Below.refl w.heap.size w)
  have H : ((num_reckon.f k 42 a0_0 a0_1 a1_0 a1_1).bind fun bt257 => (some (bt257.1, bt257.2.1, bt257.2.2))) = some (r1, r2, r3) := h
  clear h
  replace H := Option.bind_eq_some_iff.mp H
  obtain ⟨⟨t257, t258, t259⟩, A30, H⟩ := H
  replace H : (some (t257, t258, t259)) = some (r1, r2, r3) := H
  have A3 := Aside0.mk A30
  clear A30
  simp only [Option.some.injEq, Prod.mk.injEq] at H
  obtain ⟨rfl, rfl, rfl⟩ := H
  go_enter Try.func19, Try.ntmps19
  go_wp2_with (first | ((with_reducible refine gate_dst (N := 2) rfl ?_); refine box_event ?hg (N := 2) ?hd (cs := #[.int .i64 a0_0, .int .i64 a0_1]) (t := 23) ?hr ?_; (case hd => rfl); (case hg => rfl); (case hr => first | (go_simp; done) | (go_simp; rfl)); intro gb254 hg w4 hbox hb; have BK254 := Aside0.mk hbox; have GW254 := bwg_ HB hg; have GE254 := bwg_ HB hg; replace HB := bws_ HB hb; clear hb hbox hg) | ((with_reducible refine gate_dst (N := 3) rfl ?_); refine box_event ?hg (N := 3) ?hd (cs := #[.int .i64 a1_0, .int .i64 a1_1]) (t := 23) ?hr ?_; (case hd => rfl); (case hg => rfl); (case hr => first | (go_simp; done) | (go_simp; rfl)); intro gb255 hg w5 hbox hb; have BK255 := Aside0.mk hbox; have GW255 := bwg_ HB hg; have GE255 := bwg_ HB hg; replace HB := bws_ HB hb; have NB254_255 := bkl_ BK254 hg; have NB255_254 := bkr_ BK254 hg; replace BK254 := bkb_ BK254 hb; clear hb hbox hg) | ((with_reducible refine gate_dst (N := 4) rfl ?_); refine box_event ?hg (N := 4) ?hd (cs := #[.int .i64 0, .int .i64 0]) (t := 23) ?hr ?_; (case hd => rfl); (case hg => rfl); (case hr => first | (go_simp; done) | (go_simp; rfl)); intro gb256 hg w6 hbox hb; have BK256 := Aside0.mk hbox; have GW256 := bwg_ HB hg; have GE256 := bwg_ HB hg; replace HB := bws_ HB hb; have NB254_256 := bkl_ BK254 hg; have NB256_254 := bkr_ BK254 hg; replace BK254 := bkb_ BK254 hb; have NB255_256 := bkl_ BK255 hg; have NB256_255 := bkr_ BK255 hg; replace BK255 := bkb_ BK255 hb; clear hb hbox hg; have hnb7 := NB254_255.out; have hnc7 := NB255_254.out; have hnb8 := NB254_256.out; have hnc8 := NB256_254.out; obtain ⟨hcz9_0, hcz9_1, hfz9_0, hfz9_1⟩ := bc2_ BK254; have hnb10 := NB255_256.out; have hnc10 := NB256_255.out; obtain ⟨hcz11_0, hcz11_1, hfz11_0, hfz11_1⟩ := bc2_ BK255) | ((with_reducible refine gate_callee (f := 67) rfl ?_); refine gla_ (some 8) Try.func67 #[.int .u8 42, .agg #[.int .i64 a0_0, .int .i64 a0_1], .agg #[.int .i64 a1_0, .int .i64 a1_1]] ?_; (with_reducible refine (num_reckon.calls k 42 a0_0 a0_1 a1_0 a1_1 t257 t258 t259 _ A3.out).mono ?_); rintro e w12 ⟨rfl, hb⟩; refine ⟨_, rfl, ?_⟩; replace BK254 := bkb_ BK254 hb; replace BK255 := bkb_ BK255 hb; replace BK256 := bkb_ BK256 hb; replace HB := bws_ HB hb; (try clear hb); (try clear hb2); (try clear hk); (try clear hi); obtain ⟨hcz13_0, hcz13_1, hfz13_0, hfz13_1⟩ := bc2_ BK256))
  refine bodyPost_ret (results_ct rfl _ _ gb256 23 #[.int .i64 t257, .int .i64 t258] (0, 0) _ rfl (by refine bp_ (cs := #[.int .i64 t257, .int .i64 0]) ?_ 1; refine bp_ (cs := #[.int .i64 0, .int .i64 0]) ?_ 0; exact bk_ BK256) Try.underlying23 rfl (by kernel_rfl)) rfl ?_
  exact ⟨by first | rfl | (simp [*] <;> rfl), bw_ HB⟩
/-! ### num_Sub: function 20 -/
def num_Sub.f (k : Nat) (a0_0 : Int) (a0_1 : Int) (a1_0 : Int) (a1_1 : Int) : Option (Int × Int × Int) := (num_reckon.f k 45 a0_0 a0_1 a1_0 a1_1).bind fun bt263 => (some (bt263.1, bt263.2.1, bt263.2.2))
theorem num_Sub.mono : ∀ a0 a1 a2 a3 k, LeO (num_Sub.f k a0 a1 a2 a3) (num_Sub.f (k + 1) a0 a1 a2 a3) := by
  intro a0 a1 a2 a3 k
  unfold num_Sub.f
  repeat' first
      | (with_reducible exact num_reckon.mono _ _ _ _ _ _)
      | (with_reducible exact LeO.refl _)
      | (with_reducible exact LeO.none _)
      | (with_reducible refine LeO.ite ?_ ?_)
      | (with_reducible refine LeO.bind ?_ (fun _ => ?_))
      | (with_reducible refine LeO.exc (fun _ => ?_) (fun _ => ?_))
      | exact num_reckon.mono _ _ _ _ _ _
      | exact LeO.none _
      | refine LeO.ite ?_ ?_
      | refine LeO.bind ?_ (fun _ => ?_)
set_option maxHeartbeats 8000000 in
set_option maxRecDepth 100000 in
theorem num_Sub.calls (k : Nat) (a0_0 : Int) (a0_1 : Int) (a1_0 : Int) (a1_1 : Int) (r1 : Int) (r2 : Int) (r3 : Int) (w : World) (h : num_Sub.f k a0_0 a0_1 a1_0 a1_1 = some (r1, r2, r3)) :
    Calls Try.prog 20 #[.agg #[.int .i64 a0_0, .int .i64 a0_1], .agg #[.int .i64 a1_0, .int .i64 a1_1]] w fun e w' => e = .returned (.tuple #[.agg #[.int .i64 r1, .int .i64 r2], .int .i64 r3]) ∧ Below w.heap.size w w' := by
  have hu23 := Try.underlying23
  have HB := Aside0.mk (Below.refl w.heap.size w)
  have H : ((num_reckon.f k 45 a0_0 a0_1 a1_0 a1_1).bind fun bt263 => (some (bt263.1, bt263.2.1, bt263.2.2))) = some (r1, r2, r3) := h
  clear h
  replace H := Option.bind_eq_some_iff.mp H
  obtain ⟨⟨t263, t264, t265⟩, A30, H⟩ := H
  replace H : (some (t263, t264, t265)) = some (r1, r2, r3) := H
  have A3 := Aside0.mk A30
  clear A30
  simp only [Option.some.injEq, Prod.mk.injEq] at H
  obtain ⟨rfl, rfl, rfl⟩ := H
  go_enter Try.func20, Try.ntmps20
  go_wp2_with (first | ((with_reducible refine gate_dst (N := 2) rfl ?_); refine box_event ?hg (N := 2) ?hd (cs := #[.int .i64 a0_0, .int .i64 a0_1]) (t := 23) ?hr ?_; (case hd => rfl); (case hg => rfl); (case hr => first | (go_simp; done) | (go_simp; rfl)); intro gb260 hg w4 hbox hb; have BK260 := Aside0.mk hbox; have GW260 := bwg_ HB hg; have GE260 := bwg_ HB hg; replace HB := bws_ HB hb; clear hb hbox hg) | ((with_reducible refine gate_dst (N := 3) rfl ?_); refine box_event ?hg (N := 3) ?hd (cs := #[.int .i64 a1_0, .int .i64 a1_1]) (t := 23) ?hr ?_; (case hd => rfl); (case hg => rfl); (case hr => first | (go_simp; done) | (go_simp; rfl)); intro gb261 hg w5 hbox hb; have BK261 := Aside0.mk hbox; have GW261 := bwg_ HB hg; have GE261 := bwg_ HB hg; replace HB := bws_ HB hb; have NB260_261 := bkl_ BK260 hg; have NB261_260 := bkr_ BK260 hg; replace BK260 := bkb_ BK260 hb; clear hb hbox hg) | ((with_reducible refine gate_dst (N := 4) rfl ?_); refine box_event ?hg (N := 4) ?hd (cs := #[.int .i64 0, .int .i64 0]) (t := 23) ?hr ?_; (case hd => rfl); (case hg => rfl); (case hr => first | (go_simp; done) | (go_simp; rfl)); intro gb262 hg w6 hbox hb; have BK262 := Aside0.mk hbox; have GW262 := bwg_ HB hg; have GE262 := bwg_ HB hg; replace HB := bws_ HB hb; have NB260_262 := bkl_ BK260 hg; have NB262_260 := bkr_ BK260 hg; replace BK260 := bkb_ BK260 hb; have NB261_262 := bkl_ BK261 hg; have NB262_261 := bkr_ BK261 hg; replace BK261 := bkb_ BK261 hb; clear hb hbox hg; have hnb7 := NB260_261.out; have hnc7 := NB261_260.out; have hnb8 := NB260_262.out; have hnc8 := NB262_260.out; obtain ⟨hcz9_0, hcz9_1, hfz9_0, hfz9_1⟩ := bc2_ BK260; have hnb10 := NB261_262.out; have hnc10 := NB262_261.out; obtain ⟨hcz11_0, hcz11_1, hfz11_0, hfz11_1⟩ := bc2_ BK261) | ((with_reducible refine gate_callee (f := 67) rfl ?_); refine gla_ (some 8) Try.func67 #[.int .u8 45, .agg #[.int .i64 a0_0, .int .i64 a0_1], .agg #[.int .i64 a1_0, .int .i64 a1_1]] ?_; (with_reducible refine (num_reckon.calls k 45 a0_0 a0_1 a1_0 a1_1 t263 t264 t265 _ A3.out).mono ?_); rintro e w12 ⟨rfl, hb⟩; refine ⟨_, rfl, ?_⟩; replace BK260 := bkb_ BK260 hb; replace BK261 := bkb_ BK261 hb; replace BK262 := bkb_ BK262 hb; replace HB := bws_ HB hb; (try clear hb); (try clear hb2); (try clear hk); (try clear hi); obtain ⟨hcz13_0, hcz13_1, hfz13_0, hfz13_1⟩ := bc2_ BK262))
  refine bodyPost_ret (results_ct rfl _ _ gb262 23 #[.int .i64 t263, .int .i64 t264] (0, 0) _ rfl (by refine bp_ (cs := #[.int .i64 t263, .int .i64 0]) ?_ 1; refine bp_ (cs := #[.int .i64 0, .int .i64 0]) ?_ 0; exact bk_ BK262) Try.underlying23 rfl (by kernel_rfl)) rfl ?_
  exact ⟨by first | rfl | (simp [*] <;> rfl), bw_ HB⟩
/-! ### num_Div: function 21 -/
def num_Div.f (k : Nat) (a0_0 : Int) (a0_1 : Int) (a1_0 : Int) (a1_1 : Int) : Option (Int × Int × Int) := (num_reckon.f k 47 a0_0 a0_1 a1_0 a1_1).bind fun bt269 => (some (bt269.1, bt269.2.1, bt269.2.2))
theorem num_Div.mono : ∀ a0 a1 a2 a3 k, LeO (num_Div.f k a0 a1 a2 a3) (num_Div.f (k + 1) a0 a1 a2 a3) := by
  intro a0 a1 a2 a3 k
  unfold num_Div.f
  repeat' first
      | (with_reducible exact num_reckon.mono _ _ _ _ _ _)
      | (with_reducible exact LeO.refl _)
      | (with_reducible exact LeO.none _)
      | (with_reducible refine LeO.ite ?_ ?_)
      | (with_reducible refine LeO.bind ?_ (fun _ => ?_))
      | (with_reducible refine LeO.exc (fun _ => ?_) (fun _ => ?_))
      | exact num_reckon.mono _ _ _ _ _ _
      | exact LeO.none _
      | refine LeO.ite ?_ ?_
      | refine LeO.bind ?_ (fun _ => ?_)
set_option maxHeartbeats 8000000 in
set_option maxRecDepth 100000 in
theorem num_Div.calls (k : Nat) (a0_0 : Int) (a0_1 : Int) (a1_0 : Int) (a1_1 : Int) (r1 : Int) (r2 : Int) (r3 : Int) (w : World) (h : num_Div.f k a0_0 a0_1 a1_0 a1_1 = some (r1, r2, r3)) :
    Calls Try.prog 21 #[.agg #[.int .i64 a0_0, .int .i64 a0_1], .agg #[.int .i64 a1_0, .int .i64 a1_1]] w fun e w' => e = .returned (.tuple #[.agg #[.int .i64 r1, .int .i64 r2], .int .i64 r3]) ∧ Below w.heap.size w w' := by
  have hu23 := Try.underlying23
  have HB := Aside0.mk (Below.refl w.heap.size w)
  have H : ((num_reckon.f k 47 a0_0 a0_1 a1_0 a1_1).bind fun bt269 => (some (bt269.1, bt269.2.1, bt269.2.2))) = some (r1, r2, r3) := h
  clear h
  replace H := Option.bind_eq_some_iff.mp H
  obtain ⟨⟨t269, t270, t271⟩, A30, H⟩ := H
  replace H : (some (t269, t270, t271)) = some (r1, r2, r3) := H
  have A3 := Aside0.mk A30
  clear A30
  simp only [Option.some.injEq, Prod.mk.injEq] at H
  obtain ⟨rfl, rfl, rfl⟩ := H
  go_enter Try.func21, Try.ntmps21
  go_wp2_with (first | ((with_reducible refine gate_dst (N := 2) rfl ?_); refine box_event ?hg (N := 2) ?hd (cs := #[.int .i64 a0_0, .int .i64 a0_1]) (t := 23) ?hr ?_; (case hd => rfl); (case hg => rfl); (case hr => first | (go_simp; done) | (go_simp; rfl)); intro gb266 hg w4 hbox hb; have BK266 := Aside0.mk hbox; have GW266 := bwg_ HB hg; have GE266 := bwg_ HB hg; replace HB := bws_ HB hb; clear hb hbox hg) | ((with_reducible refine gate_dst (N := 3) rfl ?_); refine box_event ?hg (N := 3) ?hd (cs := #[.int .i64 a1_0, .int .i64 a1_1]) (t := 23) ?hr ?_; (case hd => rfl); (case hg => rfl); (case hr => first | (go_simp; done) | (go_simp; rfl)); intro gb267 hg w5 hbox hb; have BK267 := Aside0.mk hbox; have GW267 := bwg_ HB hg; have GE267 := bwg_ HB hg; replace HB := bws_ HB hb; have NB266_267 := bkl_ BK266 hg; have NB267_266 := bkr_ BK266 hg; replace BK266 := bkb_ BK266 hb; clear hb hbox hg) | ((with_reducible refine gate_dst (N := 4) rfl ?_); refine box_event ?hg (N := 4) ?hd (cs := #[.int .i64 0, .int .i64 0]) (t := 23) ?hr ?_; (case hd => rfl); (case hg => rfl); (case hr => first | (go_simp; done) | (go_simp; rfl)); intro gb268 hg w6 hbox hb; have BK268 := Aside0.mk hbox; have GW268 := bwg_ HB hg; have GE268 := bwg_ HB hg; replace HB := bws_ HB hb; have NB266_268 := bkl_ BK266 hg; have NB268_266 := bkr_ BK266 hg; replace BK266 := bkb_ BK266 hb; have NB267_268 := bkl_ BK267 hg; have NB268_267 := bkr_ BK267 hg; replace BK267 := bkb_ BK267 hb; clear hb hbox hg; have hnb7 := NB266_267.out; have hnc7 := NB267_266.out; have hnb8 := NB266_268.out; have hnc8 := NB268_266.out; obtain ⟨hcz9_0, hcz9_1, hfz9_0, hfz9_1⟩ := bc2_ BK266; have hnb10 := NB267_268.out; have hnc10 := NB268_267.out; obtain ⟨hcz11_0, hcz11_1, hfz11_0, hfz11_1⟩ := bc2_ BK267) | ((with_reducible refine gate_callee (f := 67) rfl ?_); refine gla_ (some 8) Try.func67 #[.int .u8 47, .agg #[.int .i64 a0_0, .int .i64 a0_1], .agg #[.int .i64 a1_0, .int .i64 a1_1]] ?_; (with_reducible refine (num_reckon.calls k 47 a0_0 a0_1 a1_0 a1_1 t269 t270 t271 _ A3.out).mono ?_); rintro e w12 ⟨rfl, hb⟩; refine ⟨_, rfl, ?_⟩; replace BK266 := bkb_ BK266 hb; replace BK267 := bkb_ BK267 hb; replace BK268 := bkb_ BK268 hb; replace HB := bws_ HB hb; (try clear hb); (try clear hb2); (try clear hk); (try clear hi); obtain ⟨hcz13_0, hcz13_1, hfz13_0, hfz13_1⟩ := bc2_ BK268))
  refine bodyPost_ret (results_ct rfl _ _ gb268 23 #[.int .i64 t269, .int .i64 t270] (0, 0) _ rfl (by refine bp_ (cs := #[.int .i64 t269, .int .i64 0]) ?_ 1; refine bp_ (cs := #[.int .i64 0, .int .i64 0]) ?_ 0; exact bk_ BK268) Try.underlying23 rfl (by kernel_rfl)) rfl ?_
  exact ⟨by first | rfl | (simp [*] <;> rfl), bw_ HB⟩
/-! ### withylaw01_NumSums: function 12 -/
mutual
def withylaw01_NumSums.j0 : Nat → List (S23) → Int → Bool → Int → Int → Int → Int → Option (Bool)
  | 0, _, _, _, _, _, _, _ => none
  | k + 1, x2, x3, x40, x807000, x807001, x808000, x808001 => if x40 = true then (some false) else ((num_Sub.f k x807000 x807001 x808000 x808001).bind fun bt817 => ((withyref01_Sub.f k x807000 x807001 x808000 x808001).bind fun bt820 => (if bt817.2.2 = bt820.2.2 then (withylaw01_NumSums.j1 k x2 x3 (!(bt817.1 == bt820.1) || (!(bt817.2.1 == bt820.2.1))) x807000 x807001 x808000 x808001) else (withylaw01_NumSums.j1 k x2 x3 true x807000 x807001 x808000 x808001))))
def withylaw01_NumSums.j1 : Nat → List (S23) → Int → Bool → Int → Int → Int → Int → Option (Bool)
  | 0, _, _, _, _, _, _, _ => none
  | k + 1, x2, x3, x60, x807000, x807001, x808000, x808001 => if x60 = true then (some false) else ((num_Mul.f k x807000 x807001 x808000 x808001).bind fun bt823 => ((withyref01_Mul.f k x807000 x807001 x808000 x808001).bind fun bt826 => (if bt823.2.2 = bt826.2.2 then (withylaw01_NumSums.j2 k x2 x3 (!(bt823.1 == bt826.1) || (!(bt823.2.1 == bt826.2.1))) x807000 x807001 x808000 x808001) else (withylaw01_NumSums.j2 k x2 x3 true x807000 x807001 x808000 x808001))))
def withylaw01_NumSums.j2 : Nat → List (S23) → Int → Bool → Int → Int → Int → Int → Option (Bool)
  | 0, _, _, _, _, _, _, _ => none
  | k + 1, x2, x3, x80, x807000, x807001, x808000, x808001 => if x80 = true then (some false) else ((num_Div.f k x807000 x807001 x808000 x808001).bind fun bt829 => ((withyref01_Div.f k x807000 x807001 x808000 x808001).bind fun bt832 => (if bt829.2.2 = bt832.2.2 then (withylaw01_NumSums.j3 k x2 x3 (!(bt829.1 == bt832.1) || (!(bt829.2.1 == bt832.2.1))) x807000 x807001) else (withylaw01_NumSums.j3 k x2 x3 true x807000 x807001))))
def withylaw01_NumSums.j3 : Nat → List (S23) → Int → Bool → Int → Int → Option (Bool)
  | 0, _, _, _, _, _ => none
  | k + 1, x2, x3, x100, x807000, x807001 => if x100 = true then (some false) else ((num_Sum.f k x2).bind fun bt835 => ((withyref01_Sum.f k x2).bind fun bt838 => ((num_Pow.f k x807000 x807001 x3).bind fun bt841 => ((withyref01_Pow.f k x807000 x807001 x3).bind fun bt845 => (if bt835.2.2 = bt838.2.2 then (if (bt835.1 == bt838.1 && (bt835.2.1 == bt838.2.1)) = true then (if bt841.2.2 = bt845.2.2 then (if (bt841.1 == bt845.1 && (bt841.2.1 == bt845.2.1)) = true then ((withylaw01_summed.f k).bind fun t849 => (some t849)) else (some false)) else (some false)) else (some false)) else (some false))))))
end
def withylaw01_NumSums.f (k : Nat) (a0_0 : Int) (a0_1 : Int) (a1_0 : Int) (a1_1 : Int) (l2 : List (S23)) (a3 : Int) : Option (Bool) := if (l2.length : Int) > 30 then ((withylaw01_summed.f k).bind fun t808 => (some t808)) else ((num_Add.f k a0_0 a0_1 a1_0 a1_1).bind fun bt809 => ((withyref01_Add.f k a0_0 a0_1 a1_0 a1_1).bind fun bt813 => (if bt809.2.2 = bt813.2.2 then (withylaw01_NumSums.j0 k l2 a3 (!(bt809.1 == bt813.1) || (!(bt809.2.1 == bt813.2.1))) a0_0 a0_1 a1_0 a1_1) else (withylaw01_NumSums.j0 k l2 a3 true a0_0 a0_1 a1_0 a1_1))))
theorem withylaw01_NumSums.mono_l : ∀ k, (∀ y0 y1 y2 y3 y4 y5 y6, LeO (withylaw01_NumSums.j0 k y0 y1 y2 y3 y4 y5 y6) (withylaw01_NumSums.j0 (k + 1) y0 y1 y2 y3 y4 y5 y6)) ∧ (∀ y0 y1 y2 y3 y4 y5 y6, LeO (withylaw01_NumSums.j1 k y0 y1 y2 y3 y4 y5 y6) (withylaw01_NumSums.j1 (k + 1) y0 y1 y2 y3 y4 y5 y6)) ∧ (∀ y0 y1 y2 y3 y4 y5 y6, LeO (withylaw01_NumSums.j2 k y0 y1 y2 y3 y4 y5 y6) (withylaw01_NumSums.j2 (k + 1) y0 y1 y2 y3 y4 y5 y6)) ∧ (∀ y0 y1 y2 y3 y4, LeO (withylaw01_NumSums.j3 k y0 y1 y2 y3 y4) (withylaw01_NumSums.j3 (k + 1) y0 y1 y2 y3 y4))
  | 0 => ⟨fun _ _ _ _ _ _ _ r h => by simp [withylaw01_NumSums.j0] at h, fun _ _ _ _ _ _ _ r h => by simp [withylaw01_NumSums.j1] at h, fun _ _ _ _ _ _ _ r h => by simp [withylaw01_NumSums.j2] at h, fun _ _ _ _ _ r h => by simp [withylaw01_NumSums.j3] at h⟩
  | k + 1 => by
    obtain ⟨ih0, ih1, ih2, ih3⟩ := withylaw01_NumSums.mono_l k
    refine ⟨?_, ?_, ?_, ?_⟩
    · intro y0 y1 y2 y3 y4 y5 y6
      unfold withylaw01_NumSums.j0
      repeat' first
      | (with_reducible exact ih0 _ _ _ _ _ _ _)
      | (with_reducible exact ih1 _ _ _ _ _ _ _)
      | (with_reducible exact ih2 _ _ _ _ _ _ _)
      | (with_reducible exact ih3 _ _ _ _ _)
      | (with_reducible exact num_Add.mono _ _ _ _ _)
      | (with_reducible exact num_Div.mono _ _ _ _ _)
      | (with_reducible exact num_Mul.mono _ _ _ _ _)
      | (with_reducible exact num_Pow.mono _ _ _ _)
      | (with_reducible exact num_Sub.mono _ _ _ _ _)
      | (with_reducible exact num_Sum.mono _ _)
      | (with_reducible exact withylaw01_summed.mono _)
      | (with_reducible exact withyref01_Add.mono _ _ _ _ _)
      | (with_reducible exact withyref01_Div.mono _ _ _ _ _)
      | (with_reducible exact withyref01_Mul.mono _ _ _ _ _)
      | (with_reducible exact withyref01_Pow.mono _ _ _ _)
      | (with_reducible exact withyref01_Sub.mono _ _ _ _ _)
      | (with_reducible exact withyref01_Sum.mono _ _)
      | (with_reducible exact LeO.refl _)
      | (with_reducible exact LeO.none _)
      | (with_reducible refine LeO.ite ?_ ?_)
      | (with_reducible refine LeO.bind ?_ (fun _ => ?_))
      | (with_reducible refine LeO.exc (fun _ => ?_) (fun _ => ?_))
      | exact ih0 _ _ _ _ _ _ _
      | exact ih1 _ _ _ _ _ _ _
      | exact ih2 _ _ _ _ _ _ _
      | exact ih3 _ _ _ _ _
      | exact num_Add.mono _ _ _ _ _
      | exact num_Div.mono _ _ _ _ _
      | exact num_Mul.mono _ _ _ _ _
      | exact num_Pow.mono _ _ _ _
      | exact num_Sub.mono _ _ _ _ _
      | exact num_Sum.mono _ _
      | exact withylaw01_summed.mono _
      | exact withyref01_Add.mono _ _ _ _ _
      | exact withyref01_Div.mono _ _ _ _ _
      | exact withyref01_Mul.mono _ _ _ _ _
      | exact withyref01_Pow.mono _ _ _ _
      | exact withyref01_Sub.mono _ _ _ _ _
      | exact withyref01_Sum.mono _ _
      | exact LeO.none _
      | refine LeO.ite ?_ ?_
      | refine LeO.bind ?_ (fun _ => ?_)
    · intro y0 y1 y2 y3 y4 y5 y6
      unfold withylaw01_NumSums.j1
      repeat' first
      | (with_reducible exact ih0 _ _ _ _ _ _ _)
      | (with_reducible exact ih1 _ _ _ _ _ _ _)
      | (with_reducible exact ih2 _ _ _ _ _ _ _)
      | (with_reducible exact ih3 _ _ _ _ _)
      | (with_reducible exact num_Add.mono _ _ _ _ _)
      | (with_reducible exact num_Div.mono _ _ _ _ _)
      | (with_reducible exact num_Mul.mono _ _ _ _ _)
      | (with_reducible exact num_Pow.mono _ _ _ _)
      | (with_reducible exact num_Sub.mono _ _ _ _ _)
      | (with_reducible exact num_Sum.mono _ _)
      | (with_reducible exact withylaw01_summed.mono _)
      | (with_reducible exact withyref01_Add.mono _ _ _ _ _)
      | (with_reducible exact withyref01_Div.mono _ _ _ _ _)
      | (with_reducible exact withyref01_Mul.mono _ _ _ _ _)
      | (with_reducible exact withyref01_Pow.mono _ _ _ _)
      | (with_reducible exact withyref01_Sub.mono _ _ _ _ _)
      | (with_reducible exact withyref01_Sum.mono _ _)
      | (with_reducible exact LeO.refl _)
      | (with_reducible exact LeO.none _)
      | (with_reducible refine LeO.ite ?_ ?_)
      | (with_reducible refine LeO.bind ?_ (fun _ => ?_))
      | (with_reducible refine LeO.exc (fun _ => ?_) (fun _ => ?_))
      | exact ih0 _ _ _ _ _ _ _
      | exact ih1 _ _ _ _ _ _ _
      | exact ih2 _ _ _ _ _ _ _
      | exact ih3 _ _ _ _ _
      | exact num_Add.mono _ _ _ _ _
      | exact num_Div.mono _ _ _ _ _
      | exact num_Mul.mono _ _ _ _ _
      | exact num_Pow.mono _ _ _ _
      | exact num_Sub.mono _ _ _ _ _
      | exact num_Sum.mono _ _
      | exact withylaw01_summed.mono _
      | exact withyref01_Add.mono _ _ _ _ _
      | exact withyref01_Div.mono _ _ _ _ _
      | exact withyref01_Mul.mono _ _ _ _ _
      | exact withyref01_Pow.mono _ _ _ _
      | exact withyref01_Sub.mono _ _ _ _ _
      | exact withyref01_Sum.mono _ _
      | exact LeO.none _
      | refine LeO.ite ?_ ?_
      | refine LeO.bind ?_ (fun _ => ?_)
    · intro y0 y1 y2 y3 y4 y5 y6
      unfold withylaw01_NumSums.j2
      repeat' first
      | (with_reducible exact ih0 _ _ _ _ _ _ _)
      | (with_reducible exact ih1 _ _ _ _ _ _ _)
      | (with_reducible exact ih2 _ _ _ _ _ _ _)
      | (with_reducible exact ih3 _ _ _ _ _)
      | (with_reducible exact num_Add.mono _ _ _ _ _)
      | (with_reducible exact num_Div.mono _ _ _ _ _)
      | (with_reducible exact num_Mul.mono _ _ _ _ _)
      | (with_reducible exact num_Pow.mono _ _ _ _)
      | (with_reducible exact num_Sub.mono _ _ _ _ _)
      | (with_reducible exact num_Sum.mono _ _)
      | (with_reducible exact withylaw01_summed.mono _)
      | (with_reducible exact withyref01_Add.mono _ _ _ _ _)
      | (with_reducible exact withyref01_Div.mono _ _ _ _ _)
      | (with_reducible exact withyref01_Mul.mono _ _ _ _ _)
      | (with_reducible exact withyref01_Pow.mono _ _ _ _)
      | (with_reducible exact withyref01_Sub.mono _ _ _ _ _)
      | (with_reducible exact withyref01_Sum.mono _ _)
      | (with_reducible exact LeO.refl _)
      | (with_reducible exact LeO.none _)
      | (with_reducible refine LeO.ite ?_ ?_)
      | (with_reducible refine LeO.bind ?_ (fun _ => ?_))
      | (with_reducible refine LeO.exc (fun _ => ?_) (fun _ => ?_))
      | exact ih0 _ _ _ _ _ _ _
      | exact ih1 _ _ _ _ _ _ _
      | exact ih2 _ _ _ _ _ _ _
      | exact ih3 _ _ _ _ _
      | exact num_Add.mono _ _ _ _ _
      | exact num_Div.mono _ _ _ _ _
      | exact num_Mul.mono _ _ _ _ _
      | exact num_Pow.mono _ _ _ _
      | exact num_Sub.mono _ _ _ _ _
      | exact num_Sum.mono _ _
      | exact withylaw01_summed.mono _
      | exact withyref01_Add.mono _ _ _ _ _
      | exact withyref01_Div.mono _ _ _ _ _
      | exact withyref01_Mul.mono _ _ _ _ _
      | exact withyref01_Pow.mono _ _ _ _
      | exact withyref01_Sub.mono _ _ _ _ _
      | exact withyref01_Sum.mono _ _
      | exact LeO.none _
      | refine LeO.ite ?_ ?_
      | refine LeO.bind ?_ (fun _ => ?_)
    · intro y0 y1 y2 y3 y4
      unfold withylaw01_NumSums.j3
      repeat' first
      | (with_reducible exact ih0 _ _ _ _ _ _ _)
      | (with_reducible exact ih1 _ _ _ _ _ _ _)
      | (with_reducible exact ih2 _ _ _ _ _ _ _)
      | (with_reducible exact ih3 _ _ _ _ _)
      | (with_reducible exact num_Add.mono _ _ _ _ _)
      | (with_reducible exact num_Div.mono _ _ _ _ _)
      | (with_reducible exact num_Mul.mono _ _ _ _ _)
      | (with_reducible exact num_Pow.mono _ _ _ _)
      | (with_reducible exact num_Sub.mono _ _ _ _ _)
      | (with_reducible exact num_Sum.mono _ _)
      | (with_reducible exact withylaw01_summed.mono _)
      | (with_reducible exact withyref01_Add.mono _ _ _ _ _)
      | (with_reducible exact withyref01_Div.mono _ _ _ _ _)
      | (with_reducible exact withyref01_Mul.mono _ _ _ _ _)
      | (with_reducible exact withyref01_Pow.mono _ _ _ _)
      | (with_reducible exact withyref01_Sub.mono _ _ _ _ _)
      | (with_reducible exact withyref01_Sum.mono _ _)
      | (with_reducible exact LeO.refl _)
      | (with_reducible exact LeO.none _)
      | (with_reducible refine LeO.ite ?_ ?_)
      | (with_reducible refine LeO.bind ?_ (fun _ => ?_))
      | (with_reducible refine LeO.exc (fun _ => ?_) (fun _ => ?_))
      | exact ih0 _ _ _ _ _ _ _
      | exact ih1 _ _ _ _ _ _ _
      | exact ih2 _ _ _ _ _ _ _
      | exact ih3 _ _ _ _ _
      | exact num_Add.mono _ _ _ _ _
      | exact num_Div.mono _ _ _ _ _
      | exact num_Mul.mono _ _ _ _ _
      | exact num_Pow.mono _ _ _ _
      | exact num_Sub.mono _ _ _ _ _
      | exact num_Sum.mono _ _
      | exact withylaw01_summed.mono _
      | exact withyref01_Add.mono _ _ _ _ _
      | exact withyref01_Div.mono _ _ _ _ _
      | exact withyref01_Mul.mono _ _ _ _ _
      | exact withyref01_Pow.mono _ _ _ _
      | exact withyref01_Sub.mono _ _ _ _ _
      | exact withyref01_Sum.mono _ _
      | exact LeO.none _
      | refine LeO.ite ?_ ?_
      | refine LeO.bind ?_ (fun _ => ?_)
theorem withylaw01_NumSums.mono : ∀ a0 a1 a2 a3 a4 a5 k, LeO (withylaw01_NumSums.f k a0 a1 a2 a3 a4 a5) (withylaw01_NumSums.f (k + 1) a0 a1 a2 a3 a4 a5) := by
  intro a0 a1 a2 a3 a4 a5 k
  obtain ⟨ih0, ih1, ih2, ih3⟩ := withylaw01_NumSums.mono_l k
  unfold withylaw01_NumSums.f
  repeat' first
      | (with_reducible exact ih0 _ _ _ _ _ _ _)
      | (with_reducible exact ih1 _ _ _ _ _ _ _)
      | (with_reducible exact ih2 _ _ _ _ _ _ _)
      | (with_reducible exact ih3 _ _ _ _ _)
      | (with_reducible exact num_Add.mono _ _ _ _ _)
      | (with_reducible exact num_Div.mono _ _ _ _ _)
      | (with_reducible exact num_Mul.mono _ _ _ _ _)
      | (with_reducible exact num_Pow.mono _ _ _ _)
      | (with_reducible exact num_Sub.mono _ _ _ _ _)
      | (with_reducible exact num_Sum.mono _ _)
      | (with_reducible exact withylaw01_summed.mono _)
      | (with_reducible exact withyref01_Add.mono _ _ _ _ _)
      | (with_reducible exact withyref01_Div.mono _ _ _ _ _)
      | (with_reducible exact withyref01_Mul.mono _ _ _ _ _)
      | (with_reducible exact withyref01_Pow.mono _ _ _ _)
      | (with_reducible exact withyref01_Sub.mono _ _ _ _ _)
      | (with_reducible exact withyref01_Sum.mono _ _)
      | (with_reducible exact LeO.refl _)
      | (with_reducible exact LeO.none _)
      | (with_reducible refine LeO.ite ?_ ?_)
      | (with_reducible refine LeO.bind ?_ (fun _ => ?_))
      | (with_reducible refine LeO.exc (fun _ => ?_) (fun _ => ?_))
      | exact ih0 _ _ _ _ _ _ _
      | exact ih1 _ _ _ _ _ _ _
      | exact ih2 _ _ _ _ _ _ _
      | exact ih3 _ _ _ _ _
      | exact num_Add.mono _ _ _ _ _
      | exact num_Div.mono _ _ _ _ _
      | exact num_Mul.mono _ _ _ _ _
      | exact num_Pow.mono _ _ _ _
      | exact num_Sub.mono _ _ _ _ _
      | exact num_Sum.mono _ _
      | exact withylaw01_summed.mono _
      | exact withyref01_Add.mono _ _ _ _ _
      | exact withyref01_Div.mono _ _ _ _ _
      | exact withyref01_Mul.mono _ _ _ _ _
      | exact withyref01_Pow.mono _ _ _ _
      | exact withyref01_Sub.mono _ _ _ _ _
      | exact withyref01_Sum.mono _ _
      | exact LeO.none _
      | refine LeO.ite ?_ ?_
      | refine LeO.bind ?_ (fun _ => ?_)
set_option maxHeartbeats 8000000 in
set_option maxRecDepth 100000 in
theorem withylaw01_NumSums.calls (k : Nat) (a0_0 : Int) (a0_1 : Int) (a1_0 : Int) (a1_1 : Int) (A2 : Option Addr) (c2 : Nat) (l2 : List (S23)) (a3 : Int) (r : Bool) (w : World) (hr2 : Kd.C k23 w A2 l2.length l2) (hc2 : l2.length ≤ c2) (h : withylaw01_NumSums.f k a0_0 a0_1 a1_0 a1_1 l2 a3 = some r) :
    Calls Try.prog 12 #[.agg #[.int .i64 a0_0, .int .i64 a0_1], .agg #[.int .i64 a1_0, .int .i64 a1_1], .slice A2 l2.length c2, .int .i64 a3] w fun e w' => e = .returned (.bool r) ∧ Below w.heap.size w w' := by
  have hu23 := Try.underlying23
  have HR2 := Aside0.mk hr2
  have HC2 := Aside0.mk hc2
  clear hr2 hc2
  have HB := Aside0.mk (Below.refl w.heap.size w)
  have H : (if (l2.length : Int) > 30 then ((withylaw01_summed.f k).bind fun t808 => (some t808)) else ((num_Add.f k a0_0 a0_1 a1_0 a1_1).bind fun bt809 => ((withyref01_Add.f k a0_0 a0_1 a1_0 a1_1).bind fun bt813 => (if bt809.2.2 = bt813.2.2 then (withylaw01_NumSums.j0 k l2 a3 (!(bt809.1 == bt813.1) || (!(bt809.2.1 == bt813.2.1))) a0_0 a0_1 a1_0 a1_1) else (withylaw01_NumSums.j0 k l2 a3 true a0_0 a0_1 a1_0 a1_1))))) = some r := h
  clear h
  by_cases c5 : (l2.length : Int) > 30
  · rw [if_pos c5] at H
    have c5b0 : decide (30 < (l2.length : Int)) = true := decide_eq_true c5
    have c5b1 : decide (30 < l2.length) = true := decide_eq_true (by omega)
    clear c5
    replace H := Option.bind_eq_some_iff.mp H
    obtain ⟨t808, A60, H⟩ := H
    replace H : (some t808) = some r := H
    have A6 := Aside0.mk A60
    clear A60
    obtain rfl := Option.some.inj H
    as_aux_lemma =>
      go_enter Try.func12, Try.ntmps12
      go_wp2_with (first | ((with_reducible refine gate_dst (N := 4) rfl ?_); refine box_event ?hg (N := 4) ?hd (cs := #[.int .i64 a0_0, .int .i64 a0_1]) (t := 23) ?hr ?_; (case hd => rfl); (case hg => rfl); (case hr => first | (go_simp; done) | (go_simp; rfl)); intro gb806 hg w7 hbox hb; have BK806 := Aside0.mk hbox; have GW806 := bwg_ HB hg; have GE806 := bwg_ HB hg; replace HB := bws_ HB hb; clear hb hbox hg) | ((with_reducible refine gate_dst (N := 5) rfl ?_); refine box_event ?hg (N := 5) ?hd (cs := #[.int .i64 a1_0, .int .i64 a1_1]) (t := 23) ?hr ?_; (case hd => rfl); (case hg => rfl); (case hr => first | (go_simp; done) | (go_simp; rfl)); intro gb807 hg w8 hbox hb; have BK807 := Aside0.mk hbox; have GW807 := bwg_ HB hg; have GE807 := bwg_ HB hg; replace HB := bws_ HB hb; have NB806_807 := bkl_ BK806 hg; have NB807_806 := bkr_ BK806 hg; replace BK806 := bkb_ BK806 hb; clear hb hbox hg) | ((with_reducible refine gate_callee (f := 17) rfl ?_); refine gla_ (some 20) Try.func17 #[] ?_; (with_reducible refine (withylaw01_summed.calls k  t808 _ A6.out).mono ?_); rintro e w9 ⟨rfl, hb⟩; refine ⟨_, rfl, ?_⟩; replace BK806 := bkb_ BK806 hb; replace BK807 := bkb_ BK807 hb; replace HB := bws_ HB hb; (try clear hb); (try clear hb2); (try clear hk); (try clear hi)))
      go_ret
      exact ⟨by first | rfl | (simp [*] <;> rfl), bw_ HB⟩
  · rw [if_neg c5] at H
    have c5b0 : decide (30 < (l2.length : Int)) = false := decide_eq_false c5
    have c5b1 : decide (30 < l2.length) = false := decide_eq_false (by omega)
    clear c5
    replace H := Option.bind_eq_some_iff.mp H
    obtain ⟨⟨t809, t810, t811⟩, A100, H⟩ := H
    replace H : ((withyref01_Add.f k a0_0 a0_1 a1_0 a1_1).bind fun bt813 => (if t811 = bt813.2.2 then (withylaw01_NumSums.j0 k l2 a3 (!(t809 == bt813.1) || (!(t810 == bt813.2.1))) a0_0 a0_1 a1_0 a1_1) else (withylaw01_NumSums.j0 k l2 a3 true a0_0 a0_1 a1_0 a1_1))) = some r := H
    have A10 := Aside0.mk A100
    clear A100
    replace H := Option.bind_eq_some_iff.mp H
    obtain ⟨⟨t813, t814, t815⟩, A110, H⟩ := H
    replace H : (if t811 = t815 then (withylaw01_NumSums.j0 k l2 a3 (!(t809 == t813) || (!(t810 == t814))) a0_0 a0_1 a1_0 a1_1) else (withylaw01_NumSums.j0 k l2 a3 true a0_0 a0_1 a1_0 a1_1)) = some r := H
    have A11 := Aside0.mk A110
    clear A110
    have HC12 := Aside0.mk H
    clear H
    as_aux_lemma =>
      go_enter Try.func12, Try.ntmps12
      go_upto_region 5 with (first | ((with_reducible refine gate_dst (N := 4) rfl ?_); refine box_event ?hg (N := 4) ?hd (cs := #[.int .i64 a0_0, .int .i64 a0_1]) (t := 23) ?hr ?_; (case hd => rfl); (case hg => rfl); (case hr => first | (go_simp; done) | (go_simp; rfl)); intro gb806 hg w13 hbox hb; have BK806 := Aside0.mk hbox; have GW806 := bwg_ HB hg; have GE806 := bwg_ HB hg; replace HB := bws_ HB hb; clear hb hbox hg) | ((with_reducible refine gate_dst (N := 5) rfl ?_); refine box_event ?hg (N := 5) ?hd (cs := #[.int .i64 a1_0, .int .i64 a1_1]) (t := 23) ?hr ?_; (case hd => rfl); (case hg => rfl); (case hr => first | (go_simp; done) | (go_simp; rfl)); intro gb807 hg w14 hbox hb; have BK807 := Aside0.mk hbox; have GW807 := bwg_ HB hg; have GE807 := bwg_ HB hg; replace HB := bws_ HB hb; have NB806_807 := bkl_ BK806 hg; have NB807_806 := bkr_ BK806 hg; replace BK806 := bkb_ BK806 hb; clear hb hbox hg; have hnb15 := NB806_807.out; have hnc15 := NB807_806.out; obtain ⟨hcz16_0, hcz16_1, hfz16_0, hfz16_1⟩ := bc2_ BK806; obtain ⟨hcz17_0, hcz17_1, hfz17_0, hfz17_1⟩ := bc2_ BK807) | ((with_reducible refine gate_callee (f := 18) rfl ?_); refine gla_ (some 24) Try.func18 #[.agg #[.int .i64 a0_0, .int .i64 a0_1], .agg #[.int .i64 a1_0, .int .i64 a1_1]] ?_; (with_reducible refine (num_Add.calls k a0_0 a0_1 a1_0 a1_1 t809 t810 t811 _ A10.out).mono ?_); rintro e w18 ⟨rfl, hb⟩; refine ⟨_, rfl, ?_⟩; replace BK806 := bkb_ BK806 hb; replace BK807 := bkb_ BK807 hb; replace HB := bws_ HB hb; (try clear hb); (try clear hb2); (try clear hk); (try clear hi)) | ((with_reducible refine gate_dst (N := 9) rfl ?_); refine box_event ?hg (N := 9) ?hd (cs := #[.int .i64 0, .int .i64 0]) (t := 23) ?hr ?_; (case hd => rfl); (case hg => rfl); (case hr => first | (go_simp; done) | (go_simp; rfl)); intro gb812 hg w19 hbox hb; have BK812 := Aside0.mk hbox; have GW812 := bwg_ HB hg; have GE812 := bwg_ HB hg; replace HB := bws_ HB hb; have NB806_812 := bkl_ BK806 hg; have NB812_806 := bkr_ BK806 hg; replace BK806 := bkb_ BK806 hb; have NB807_812 := bkl_ BK807 hg; have NB812_807 := bkr_ BK807 hg; replace BK807 := bkb_ BK807 hb; clear hb hbox hg; have hnb20 := NB812_806.out; have hnc20 := NB806_812.out; have hnb21 := NB812_807.out; have hnc21 := NB807_812.out; obtain ⟨hcz22_0, hcz22_1, hfz22_0, hfz22_1⟩ := bc2_ BK812; obtain ⟨hcz23_0, hcz23_1, hfz23_0, hfz23_1⟩ := bc2_ BK806; obtain ⟨hcz24_0, hcz24_1, hfz24_0, hfz24_1⟩ := bc2_ BK807) | ((with_reducible refine gate_callee (f := 52) rfl ?_); refine gla_ (some 30) Try.func52 #[.agg #[.int .i64 a0_0, .int .i64 a0_1], .agg #[.int .i64 a1_0, .int .i64 a1_1]] ?_; (with_reducible refine (withyref01_Add.calls k a0_0 a0_1 a1_0 a1_1 t813 t814 t815 _ A11.out).mono ?_); rintro e w25 ⟨rfl, hb⟩; refine ⟨_, rfl, ?_⟩; replace BK806 := Aside0.mk (blk_below (g := gb806) (o := .cells #[.int .i64 a0_0, .int .i64 a0_1] 23 (0, 0)) (by refine bf_ ?_ NB806_812; refine bf_ ?_ NB806_812; exact bk_ BK806) hb); replace BK807 := Aside0.mk (blk_below (g := gb807) (o := .cells #[.int .i64 a1_0, .int .i64 a1_1] 23 (0, 0)) (by refine bf_ ?_ NB807_812; refine bf_ ?_ NB807_812; exact bk_ BK807) hb); replace BK812 := Aside0.mk (blk_below (g := gb812) (o := .cells #[.int .i64 t809, .int .i64 t810] 23 (0, 0)) (by refine bp_ (cs := #[.int .i64 t809, .int .i64 0]) ?_ 1; refine bp_ (cs := #[.int .i64 0, .int .i64 0]) ?_ 0; exact bk_ BK812) hb); replace HB := bws_ HB hb; (try clear hb); (try clear hb2); (try clear hk); (try clear hi)) | ((with_reducible refine gate_dst (N := 11) rfl ?_); refine box_event ?hg (N := 11) ?hd (cs := #[.int .i64 0, .int .i64 0]) (t := 23) ?hr ?_; (case hd => rfl); (case hg => rfl); (case hr => first | (go_simp; done) | (go_simp; rfl)); intro gb816 hg w26 hbox hb; have BK816 := Aside0.mk hbox; have GW816 := bwg_ HB hg; have GE816 := bwg_ HB hg; replace HB := bws_ HB hb; have NB806_816 := bkl_ BK806 hg; have NB816_806 := bkr_ BK806 hg; replace BK806 := bkb_ BK806 hb; have NB807_816 := bkl_ BK807 hg; have NB816_807 := bkr_ BK807 hg; replace BK807 := bkb_ BK807 hb; have NB812_816 := bkl_ BK812 hg; have NB816_812 := bkr_ BK812 hg; replace BK812 := bkb_ BK812 hb; clear hb hbox hg; have hnb27 := NB816_806.out; have hnc27 := NB806_816.out; have hnb28 := NB816_807.out; have hnc28 := NB807_816.out; have hnb29 := NB816_812.out; have hnc29 := NB812_816.out; obtain ⟨hcz30_0, hcz30_1, hfz30_0, hfz30_1⟩ := bc2_ BK816))
      (try simp only [Act.put, List.setIfInBounds_toArray, List.set_cons_zero, List.set_cons_succ])
      go_cut [40] (fun v40 wc => ∃ (kq : Nat) (x40_11 : Bool), v40 = .bool x40_11 ∧ Aside0 (withylaw01_NumSums.j0 kq l2 a3 x40_11 a0_0 a0_1 a1_0 a1_1 = some r) ∧ Aside0 (kq ≤ k) ∧ Aside0 (wc.heap[gb806]? = some (.cells #[.int .i64 a0_0, .int .i64 a0_1] 23 (0, 0))) ∧ Aside0 (wc.heap[gb807]? = some (.cells #[.int .i64 a1_0, .int .i64 a1_1] 23 (0, 0))) ∧ Aside0 (wc.heap[gb812]? = some (.cells #[.int .i64 t809, .int .i64 t810] 23 (0, 0))) ∧ Aside0 (wc.heap[gb816]? = some (.cells #[.int .i64 t813, .int .i64 t814] 23 (0, 0))) ∧ Aside0 (Below w.heap.size w wc))
      case first =>
        as_aux_lemma =>
          have H := HC12.out
          clear HC12
          by_cases c31 : t811 = t815
          · rw [if_pos c31] at H
            have c31b0 : (t811 == t815) = true := beq_iff_eq.mpr c31
            have c31b1 : (t811 != t815) = false := bne_eq_false_iff_eq.mpr c31
            clear c31
            (first | rw [c31b0] | (simp only [i64_w, i32_w]; rw [c31b0]) | skip)
            have H' := Aside0.mk H
            clear H
            have hnb32 := NB812_806.out
            have hnc32 := NB806_812.out
            have hnb33 := NB812_807.out
            have hnc33 := NB807_812.out
            have hnb34 := NB812_816.out
            have hnc34 := NB816_812.out
            obtain ⟨hcz35_0, hcz35_1, hfz35_0, hfz35_1⟩ := bc2_ BK812
            have hnb36 := NB816_806.out
            have hnc36 := NB806_816.out
            have hnb37 := NB816_807.out
            have hnc37 := NB807_816.out
            obtain ⟨hcz38_0, hcz38_1, hfz38_0, hfz38_1⟩ := bc2_ BK816
            go_wp2
            go_meet
            case rel => exact ⟨_, ((!(t809 == t813) || (!(t810 == t814)))), (by first | rfl | (simp; done) | (simp [*]; done)), H', ⟨by first | omega | exact Nat.le_refl _⟩, ⟨by refine bf_ ?_ NB806_816; refine bf_ ?_ NB806_816; exact bk_ BK806⟩, ⟨by refine bf_ ?_ NB807_816; refine bf_ ?_ NB807_816; exact bk_ BK807⟩, ⟨by refine bf_ ?_ NB812_816; refine bf_ ?_ NB812_816; exact bk_ BK812⟩, ⟨by refine bp_ (cs := #[.int .i64 t813, .int .i64 0]) ?_ 1; refine bp_ (cs := #[.int .i64 0, .int .i64 0]) ?_ 0; exact bk_ BK816⟩, ⟨bw_ HB⟩⟩
          · rw [if_neg c31] at H
            have c31b0 : (t811 == t815) = false := beq_eq_false_iff_ne.mpr c31
            have c31b1 : (t811 != t815) = true := bne_iff_ne.mpr c31
            (first | rw [c31b0] | (simp only [i64_w, i32_w]; rw [c31b0]) | skip)
            have H' := Aside0.mk H
            clear H
            go_wp2
            go_meet
            case rel => exact ⟨_, (true), (by first | rfl | (simp; done) | (simp [*]; done)), H', ⟨by first | omega | exact Nat.le_refl _⟩, ⟨by refine bf_ ?_ NB806_816; refine bf_ ?_ NB806_816; exact bk_ BK806⟩, ⟨by refine bf_ ?_ NB807_816; refine bf_ ?_ NB807_816; exact bk_ BK807⟩, ⟨by refine bf_ ?_ NB812_816; refine bf_ ?_ NB812_816; exact bk_ BK812⟩, ⟨by refine bp_ (cs := #[.int .i64 t813, .int .i64 0]) ?_ 1; refine bp_ (cs := #[.int .i64 0, .int .i64 0]) ?_ 0; exact bk_ BK816⟩, ⟨bw_ HB⟩⟩
      case rest =>
        as_aux_lemma =>
          clear HC12
          try clear c1
          try clear c2
          try clear p2
          try clear c3
          try clear c5
          try clear c5b0
          try clear c5b1
          try clear c12
          try clear c15
          try clear c17
          try clear c18
          try clear c20
          try clear c21
          try clear c27
          try clear c28
          try clear c29
          try clear c31
          try clear c31b0
          try clear c31b1
          try clear c32
          try clear c33
          try clear c34
          try clear c36
          try clear c37
          try clear hcz16_0
          try clear hcz16_1
          try clear hcz17_0
          try clear hcz17_1
          try clear hcz22_0
          try clear hcz22_1
          try clear hcz23_0
          try clear hcz23_1
          try clear hcz24_0
          try clear hcz24_1
          try clear hcz30_0
          try clear hcz30_1
          try clear hcz35_0
          try clear hcz35_1
          try clear hcz38_0
          try clear hcz38_1
          try clear hfz16_0
          try clear hfz16_1
          try clear hfz17_0
          try clear hfz17_1
          try clear hfz22_0
          try clear hfz22_1
          try clear hfz23_0
          try clear hfz23_1
          try clear hfz24_0
          try clear hfz24_1
          try clear hfz30_0
          try clear hfz30_1
          try clear hfz35_0
          try clear hfz35_1
          try clear hfz38_0
          try clear hfz38_1
          obtain ⟨kq, x40_11, rfl, HA, HJ11, BK806, BK807, BK812, BK816, HB⟩ := hcut
          cases kq with
          | zero => exact absurd HA.out (by simp [withylaw01_NumSums.j0])
          | succ kj11 =>
            have H := HA.out
            clear HA
            simp only [withylaw01_NumSums.j0] at H
            by_cases c39 : x40_11 = true
            · subst c39
              have H1 : (some false) = some r := by rw [if_pos rfl] at H; exact H
              clear H
              have H := H1
              clear H1
              obtain rfl := Option.some.inj H
              go_wp2
              go_ret
              exact ⟨by first | rfl | (simp [*] <;> rfl), bw_ HB⟩
            · replace c39 := Bool.eq_false_iff.mpr c39
              subst c39
              have H1 : ((num_Sub.f kj11 a0_0 a0_1 a1_0 a1_1).bind fun bt817 => ((withyref01_Sub.f kj11 a0_0 a0_1 a1_0 a1_1).bind fun bt820 => (if bt817.2.2 = bt820.2.2 then (withylaw01_NumSums.j1 kj11 l2 a3 (!(bt817.1 == bt820.1) || (!(bt817.2.1 == bt820.2.1))) a0_0 a0_1 a1_0 a1_1) else (withylaw01_NumSums.j1 kj11 l2 a3 true a0_0 a0_1 a1_0 a1_1)))) = some r := by rw [if_neg (show ¬ (false = true) by decide)] at H; exact H
              clear H
              have H := H1
              clear H1
              replace H := Option.bind_eq_some_iff.mp H
              obtain ⟨⟨t817, t818, t819⟩, A400, H⟩ := H
              replace H : ((withyref01_Sub.f kj11 a0_0 a0_1 a1_0 a1_1).bind fun bt820 => (if t819 = bt820.2.2 then (withylaw01_NumSums.j1 kj11 l2 a3 (!(t817 == bt820.1) || (!(t818 == bt820.2.1))) a0_0 a0_1 a1_0 a1_1) else (withylaw01_NumSums.j1 kj11 l2 a3 true a0_0 a0_1 a1_0 a1_1))) = some r := H
              have A40 := Aside0.mk A400
              clear A400
              replace H := Option.bind_eq_some_iff.mp H
              obtain ⟨⟨t820, t821, t822⟩, A410, H⟩ := H
              replace H : (if t819 = t822 then (withylaw01_NumSums.j1 kj11 l2 a3 (!(t817 == t820) || (!(t818 == t821))) a0_0 a0_1 a1_0 a1_1) else (withylaw01_NumSums.j1 kj11 l2 a3 true a0_0 a0_1 a1_0 a1_1)) = some r := H
              have A41 := Aside0.mk A410
              clear A410
              have HC42 := Aside0.mk H
              clear H
              have hnb43 := NB806_807.out
              have hnc43 := NB807_806.out
              have hnb44 := NB806_812.out
              have hnc44 := NB812_806.out
              have hnb45 := NB806_816.out
              have hnc45 := NB816_806.out
              obtain ⟨hcz46_0, hcz46_1, hfz46_0, hfz46_1⟩ := bc2_ BK806
              have hnb47 := NB807_812.out
              have hnc47 := NB812_807.out
              have hnb48 := NB807_816.out
              have hnc48 := NB816_807.out
              obtain ⟨hcz49_0, hcz49_1, hfz49_0, hfz49_1⟩ := bc2_ BK807
              go_upto_region 9 with (first | ((with_reducible refine gate_callee (f := 20) rfl ?_); refine gla_ (some 44) Try.func20 #[.agg #[.int .i64 a0_0, .int .i64 a0_1], .agg #[.int .i64 a1_0, .int .i64 a1_1]] ?_; (with_reducible refine (num_Sub.calls kj11 a0_0 a0_1 a1_0 a1_1 t817 t818 t819 _ A40.out).mono ?_); rintro e w50 ⟨rfl, hb⟩; refine ⟨_, rfl, ?_⟩; replace BK806 := bkb_ BK806 hb; replace BK807 := bkb_ BK807 hb; replace BK812 := bkb_ BK812 hb; replace BK816 := bkb_ BK816 hb; replace HB := bws_ HB hb; (try clear hb); (try clear hb2); (try clear hk); (try clear hi); have hnb51 := NB812_816.out; have hnc51 := NB816_812.out; obtain ⟨hcz52_0, hcz52_1, hfz52_0, hfz52_1⟩ := bc2_ BK812; obtain ⟨hcz53_0, hcz53_1, hfz53_0, hfz53_1⟩ := bc2_ BK806; obtain ⟨hcz54_0, hcz54_1, hfz54_0, hfz54_1⟩ := bc2_ BK807) | ((with_reducible refine gate_callee (f := 53) rfl ?_); refine gla_ (some 50) Try.func53 #[.agg #[.int .i64 a0_0, .int .i64 a0_1], .agg #[.int .i64 a1_0, .int .i64 a1_1]] ?_; (with_reducible refine (withyref01_Sub.calls kj11 a0_0 a0_1 a1_0 a1_1 t820 t821 t822 _ A41.out).mono ?_); rintro e w55 ⟨rfl, hb⟩; refine ⟨_, rfl, ?_⟩; replace BK806 := Aside0.mk (blk_below (g := gb806) (o := .cells #[.int .i64 a0_0, .int .i64 a0_1] 23 (0, 0)) (by refine bf_ ?_ NB806_812; refine bf_ ?_ NB806_812; exact bk_ BK806) hb); replace BK807 := Aside0.mk (blk_below (g := gb807) (o := .cells #[.int .i64 a1_0, .int .i64 a1_1] 23 (0, 0)) (by refine bf_ ?_ NB807_812; refine bf_ ?_ NB807_812; exact bk_ BK807) hb); replace BK812 := Aside0.mk (blk_below (g := gb812) (o := .cells #[.int .i64 t817, .int .i64 t818] 23 (0, 0)) (by refine bp_ (cs := #[.int .i64 t817, .int .i64 t810]) ?_ 1; refine bp_ (cs := #[.int .i64 t809, .int .i64 t810]) ?_ 0; exact bk_ BK812) hb); replace BK816 := Aside0.mk (blk_below (g := gb816) (o := .cells #[.int .i64 t813, .int .i64 t814] 23 (0, 0)) (by refine bf_ ?_ NB816_812; refine bf_ ?_ NB816_812; exact bk_ BK816) hb); replace HB := bws_ HB hb; (try clear hb); (try clear hb2); (try clear hk); (try clear hi); obtain ⟨hcz56_0, hcz56_1, hfz56_0, hfz56_1⟩ := bc2_ BK816))
              (try simp only [Act.put, List.setIfInBounds_toArray, List.set_cons_zero, List.set_cons_succ])
              go_cut [60] (fun v60 wc => ∃ (kq : Nat) (x60_41 : Bool), v60 = .bool x60_41 ∧ Aside0 (withylaw01_NumSums.j1 kq l2 a3 x60_41 a0_0 a0_1 a1_0 a1_1 = some r) ∧ Aside0 (kq ≤ kj11) ∧ Aside0 (wc.heap[gb806]? = some (.cells #[.int .i64 a0_0, .int .i64 a0_1] 23 (0, 0))) ∧ Aside0 (wc.heap[gb807]? = some (.cells #[.int .i64 a1_0, .int .i64 a1_1] 23 (0, 0))) ∧ Aside0 (wc.heap[gb812]? = some (.cells #[.int .i64 t817, .int .i64 t818] 23 (0, 0))) ∧ Aside0 (wc.heap[gb816]? = some (.cells #[.int .i64 t820, .int .i64 t821] 23 (0, 0))) ∧ Aside0 (Below w.heap.size w wc))
              case first =>
                as_aux_lemma =>
                  have H := HC42.out
                  clear HC42
                  by_cases c57 : t819 = t822
                  · rw [if_pos c57] at H
                    have c57b0 : (t819 == t822) = true := beq_iff_eq.mpr c57
                    have c57b1 : (t819 != t822) = false := bne_eq_false_iff_eq.mpr c57
                    clear c57
                    (first | rw [c57b0] | (simp only [i64_w, i32_w]; rw [c57b0]) | skip)
                    have H' := Aside0.mk H
                    clear H
                    have hnb58 := NB812_806.out
                    have hnc58 := NB806_812.out
                    have hnb59 := NB812_807.out
                    have hnc59 := NB807_812.out
                    have hnb60 := NB812_816.out
                    have hnc60 := NB816_812.out
                    obtain ⟨hcz61_0, hcz61_1, hfz61_0, hfz61_1⟩ := bc2_ BK812
                    have hnb62 := NB816_806.out
                    have hnc62 := NB806_816.out
                    have hnb63 := NB816_807.out
                    have hnc63 := NB807_816.out
                    obtain ⟨hcz64_0, hcz64_1, hfz64_0, hfz64_1⟩ := bc2_ BK816
                    go_wp2
                    go_meet
                    case rel => exact ⟨_, ((!(t817 == t820) || (!(t818 == t821)))), (by first | rfl | (simp; done) | (simp [*]; done)), H', ⟨by have := HJ11.out; first | omega | exact Nat.le_refl _⟩, ⟨by refine bf_ ?_ NB806_816; refine bf_ ?_ NB806_816; exact bk_ BK806⟩, ⟨by refine bf_ ?_ NB807_816; refine bf_ ?_ NB807_816; exact bk_ BK807⟩, ⟨by refine bf_ ?_ NB812_816; refine bf_ ?_ NB812_816; exact bk_ BK812⟩, ⟨by refine bp_ (cs := #[.int .i64 t820, .int .i64 t814]) ?_ 1; refine bp_ (cs := #[.int .i64 t813, .int .i64 t814]) ?_ 0; exact bk_ BK816⟩, ⟨bw_ HB⟩⟩
                  · rw [if_neg c57] at H
                    have c57b0 : (t819 == t822) = false := beq_eq_false_iff_ne.mpr c57
                    have c57b1 : (t819 != t822) = true := bne_iff_ne.mpr c57
                    (first | rw [c57b0] | (simp only [i64_w, i32_w]; rw [c57b0]) | skip)
                    have H' := Aside0.mk H
                    clear H
                    go_wp2
                    go_meet
                    case rel => exact ⟨_, (true), (by first | rfl | (simp; done) | (simp [*]; done)), H', ⟨by have := HJ11.out; first | omega | exact Nat.le_refl _⟩, ⟨by refine bf_ ?_ NB806_816; refine bf_ ?_ NB806_816; exact bk_ BK806⟩, ⟨by refine bf_ ?_ NB807_816; refine bf_ ?_ NB807_816; exact bk_ BK807⟩, ⟨by refine bf_ ?_ NB812_816; refine bf_ ?_ NB812_816; exact bk_ BK812⟩, ⟨by refine bp_ (cs := #[.int .i64 t820, .int .i64 t814]) ?_ 1; refine bp_ (cs := #[.int .i64 t813, .int .i64 t814]) ?_ 0; exact bk_ BK816⟩, ⟨bw_ HB⟩⟩
              case rest =>
                as_aux_lemma =>
                  clear HC42
                  try clear c1
                  try clear c2
                  try clear p2
                  try clear c3
                  try clear c4
                  try clear c5
                  try clear c5b0
                  try clear c5b1
                  try clear c6
                  try clear c12
                  try clear c15
                  try clear c17
                  try clear c18
                  try clear c20
                  try clear c21
                  try clear c27
                  try clear c28
                  try clear c29
                  try clear c31
                  try clear c31b0
                  try clear c31b1
                  try clear c32
                  try clear c33
                  try clear c34
                  try clear c36
                  try clear c37
                  try clear c39
                  try clear c43
                  try clear c44
                  try clear c45
                  try clear c47
                  try clear c48
                  try clear c51
                  try clear c52
                  try clear c53
                  try clear c57
                  try clear c57b0
                  try clear c57b1
                  try clear c58
                  try clear c59
                  try clear c60
                  try clear c62
                  try clear c63
                  try clear hcz16_0
                  try clear hcz16_1
                  try clear hcz17_0
                  try clear hcz17_1
                  try clear hcz22_0
                  try clear hcz22_1
                  try clear hcz23_0
                  try clear hcz23_1
                  try clear hcz24_0
                  try clear hcz24_1
                  try clear hcz30_0
                  try clear hcz30_1
                  try clear hcz35_0
                  try clear hcz35_1
                  try clear hcz38_0
                  try clear hcz38_1
                  try clear hcz46_0
                  try clear hcz46_1
                  try clear hcz49_0
                  try clear hcz49_1
                  try clear hcz52_0
                  try clear hcz52_1
                  try clear hcz53_0
                  try clear hcz53_1
                  try clear hcz54_0
                  try clear hcz54_1
                  try clear hcz56_0
                  try clear hcz56_1
                  try clear hcz61_0
                  try clear hcz61_1
                  try clear hcz64_0
                  try clear hcz64_1
                  try clear hfz16_0
                  try clear hfz16_1
                  try clear hfz17_0
                  try clear hfz17_1
                  try clear hfz22_0
                  try clear hfz22_1
                  try clear hfz23_0
                  try clear hfz23_1
                  try clear hfz24_0
                  try clear hfz24_1
                  try clear hfz30_0
                  try clear hfz30_1
                  try clear hfz35_0
                  try clear hfz35_1
                  try clear hfz38_0
                  try clear hfz38_1
                  try clear hfz46_0
                  try clear hfz46_1
                  try clear hfz49_0
                  try clear hfz49_1
                  try clear hfz52_0
                  try clear hfz52_1
                  try clear hfz53_0
                  try clear hfz53_1
                  try clear hfz54_0
                  try clear hfz54_1
                  try clear hfz56_0
                  try clear hfz56_1
                  try clear hfz61_0
                  try clear hfz61_1
                  try clear hfz64_0
                  try clear hfz64_1
                  try clear p2
                  obtain ⟨kq, x60_41, rfl, HA, HJ41, BK806, BK807, BK812, BK816, HB⟩ := hcut
                  cases kq with
                  | zero => exact absurd HA.out (by simp [withylaw01_NumSums.j1])
                  | succ kj41 =>
                    have H := HA.out
                    clear HA
                    simp only [withylaw01_NumSums.j1] at H
                    by_cases c65 : x60_41 = true
                    · subst c65
                      have H1 : (some false) = some r := by rw [if_pos rfl] at H; exact H
                      clear H
                      have H := H1
                      clear H1
                      obtain rfl := Option.some.inj H
                      go_wp2
                      go_ret
                      exact ⟨by first | rfl | (simp [*] <;> rfl), bw_ HB⟩
                    · replace c65 := Bool.eq_false_iff.mpr c65
                      subst c65
                      have H1 : ((num_Mul.f kj41 a0_0 a0_1 a1_0 a1_1).bind fun bt823 => ((withyref01_Mul.f kj41 a0_0 a0_1 a1_0 a1_1).bind fun bt826 => (if bt823.2.2 = bt826.2.2 then (withylaw01_NumSums.j2 kj41 l2 a3 (!(bt823.1 == bt826.1) || (!(bt823.2.1 == bt826.2.1))) a0_0 a0_1 a1_0 a1_1) else (withylaw01_NumSums.j2 kj41 l2 a3 true a0_0 a0_1 a1_0 a1_1)))) = some r := by rw [if_neg (show ¬ (false = true) by decide)] at H; exact H
                      clear H
                      have H := H1
                      clear H1
                      replace H := Option.bind_eq_some_iff.mp H
                      obtain ⟨⟨t823, t824, t825⟩, A660, H⟩ := H
                      replace H : ((withyref01_Mul.f kj41 a0_0 a0_1 a1_0 a1_1).bind fun bt826 => (if t825 = bt826.2.2 then (withylaw01_NumSums.j2 kj41 l2 a3 (!(t823 == bt826.1) || (!(t824 == bt826.2.1))) a0_0 a0_1 a1_0 a1_1) else (withylaw01_NumSums.j2 kj41 l2 a3 true a0_0 a0_1 a1_0 a1_1))) = some r := H
                      have A66 := Aside0.mk A660
                      clear A660
                      replace H := Option.bind_eq_some_iff.mp H
                      obtain ⟨⟨t826, t827, t828⟩, A670, H⟩ := H
                      replace H : (if t825 = t828 then (withylaw01_NumSums.j2 kj41 l2 a3 (!(t823 == t826) || (!(t824 == t827))) a0_0 a0_1 a1_0 a1_1) else (withylaw01_NumSums.j2 kj41 l2 a3 true a0_0 a0_1 a1_0 a1_1)) = some r := H
                      have A67 := Aside0.mk A670
                      clear A670
                      have HC68 := Aside0.mk H
                      clear H
                      have hnb69 := NB806_807.out
                      have hnc69 := NB807_806.out
                      have hnb70 := NB806_812.out
                      have hnc70 := NB812_806.out
                      have hnb71 := NB806_816.out
                      have hnc71 := NB816_806.out
                      obtain ⟨hcz72_0, hcz72_1, hfz72_0, hfz72_1⟩ := bc2_ BK806
                      have hnb73 := NB807_812.out
                      have hnc73 := NB812_807.out
                      have hnb74 := NB807_816.out
                      have hnc74 := NB816_807.out
                      obtain ⟨hcz75_0, hcz75_1, hfz75_0, hfz75_1⟩ := bc2_ BK807
                      go_upto_region 13 with (first | ((with_reducible refine gate_callee (f := 19) rfl ?_); refine gla_ (some 64) Try.func19 #[.agg #[.int .i64 a0_0, .int .i64 a0_1], .agg #[.int .i64 a1_0, .int .i64 a1_1]] ?_; (with_reducible refine (num_Mul.calls kj41 a0_0 a0_1 a1_0 a1_1 t823 t824 t825 _ A66.out).mono ?_); rintro e w76 ⟨rfl, hb⟩; refine ⟨_, rfl, ?_⟩; replace BK806 := bkb_ BK806 hb; replace BK807 := bkb_ BK807 hb; replace BK812 := bkb_ BK812 hb; replace BK816 := bkb_ BK816 hb; replace HB := bws_ HB hb; (try clear hb); (try clear hb2); (try clear hk); (try clear hi); have hnb77 := NB812_816.out; have hnc77 := NB816_812.out; obtain ⟨hcz78_0, hcz78_1, hfz78_0, hfz78_1⟩ := bc2_ BK812; obtain ⟨hcz79_0, hcz79_1, hfz79_0, hfz79_1⟩ := bc2_ BK806; obtain ⟨hcz80_0, hcz80_1, hfz80_0, hfz80_1⟩ := bc2_ BK807) | ((with_reducible refine gate_callee (f := 54) rfl ?_); refine gla_ (some 70) Try.func54 #[.agg #[.int .i64 a0_0, .int .i64 a0_1], .agg #[.int .i64 a1_0, .int .i64 a1_1]] ?_; (with_reducible refine (withyref01_Mul.calls kj41 a0_0 a0_1 a1_0 a1_1 t826 t827 t828 _ A67.out).mono ?_); rintro e w81 ⟨rfl, hb⟩; refine ⟨_, rfl, ?_⟩; replace BK806 := Aside0.mk (blk_below (g := gb806) (o := .cells #[.int .i64 a0_0, .int .i64 a0_1] 23 (0, 0)) (by refine bf_ ?_ NB806_812; refine bf_ ?_ NB806_812; exact bk_ BK806) hb); replace BK807 := Aside0.mk (blk_below (g := gb807) (o := .cells #[.int .i64 a1_0, .int .i64 a1_1] 23 (0, 0)) (by refine bf_ ?_ NB807_812; refine bf_ ?_ NB807_812; exact bk_ BK807) hb); replace BK812 := Aside0.mk (blk_below (g := gb812) (o := .cells #[.int .i64 t823, .int .i64 t824] 23 (0, 0)) (by refine bp_ (cs := #[.int .i64 t823, .int .i64 t818]) ?_ 1; refine bp_ (cs := #[.int .i64 t817, .int .i64 t818]) ?_ 0; exact bk_ BK812) hb); replace BK816 := Aside0.mk (blk_below (g := gb816) (o := .cells #[.int .i64 t820, .int .i64 t821] 23 (0, 0)) (by refine bf_ ?_ NB816_812; refine bf_ ?_ NB816_812; exact bk_ BK816) hb); replace HB := bws_ HB hb; (try clear hb); (try clear hb2); (try clear hk); (try clear hi); obtain ⟨hcz82_0, hcz82_1, hfz82_0, hfz82_1⟩ := bc2_ BK816))
                      (try simp only [Act.put, List.setIfInBounds_toArray, List.set_cons_zero, List.set_cons_succ])
                      go_cut [80] (fun v80 wc => ∃ (kq : Nat) (x80_67 : Bool), v80 = .bool x80_67 ∧ Aside0 (withylaw01_NumSums.j2 kq l2 a3 x80_67 a0_0 a0_1 a1_0 a1_1 = some r) ∧ Aside0 (kq ≤ kj41) ∧ Aside0 (wc.heap[gb806]? = some (.cells #[.int .i64 a0_0, .int .i64 a0_1] 23 (0, 0))) ∧ Aside0 (wc.heap[gb807]? = some (.cells #[.int .i64 a1_0, .int .i64 a1_1] 23 (0, 0))) ∧ Aside0 (wc.heap[gb812]? = some (.cells #[.int .i64 t823, .int .i64 t824] 23 (0, 0))) ∧ Aside0 (wc.heap[gb816]? = some (.cells #[.int .i64 t826, .int .i64 t827] 23 (0, 0))) ∧ Aside0 (Below w.heap.size w wc))
                      case first =>
                        as_aux_lemma =>
                          have H := HC68.out
                          clear HC68
                          by_cases c83 : t825 = t828
                          · rw [if_pos c83] at H
                            have c83b0 : (t825 == t828) = true := beq_iff_eq.mpr c83
                            have c83b1 : (t825 != t828) = false := bne_eq_false_iff_eq.mpr c83
                            clear c83
                            (first | rw [c83b0] | (simp only [i64_w, i32_w]; rw [c83b0]) | skip)
                            have H' := Aside0.mk H
                            clear H
                            have hnb84 := NB812_806.out
                            have hnc84 := NB806_812.out
                            have hnb85 := NB812_807.out
                            have hnc85 := NB807_812.out
                            have hnb86 := NB812_816.out
                            have hnc86 := NB816_812.out
                            obtain ⟨hcz87_0, hcz87_1, hfz87_0, hfz87_1⟩ := bc2_ BK812
                            have hnb88 := NB816_806.out
                            have hnc88 := NB806_816.out
                            have hnb89 := NB816_807.out
                            have hnc89 := NB807_816.out
                            obtain ⟨hcz90_0, hcz90_1, hfz90_0, hfz90_1⟩ := bc2_ BK816
                            go_wp2
                            go_meet
                            case rel => exact ⟨_, ((!(t823 == t826) || (!(t824 == t827)))), (by first | rfl | (simp; done) | (simp [*]; done)), H', ⟨by have := HJ11.out; have := HJ41.out; first | omega | exact Nat.le_refl _⟩, ⟨by refine bf_ ?_ NB806_816; refine bf_ ?_ NB806_816; exact bk_ BK806⟩, ⟨by refine bf_ ?_ NB807_816; refine bf_ ?_ NB807_816; exact bk_ BK807⟩, ⟨by refine bf_ ?_ NB812_816; refine bf_ ?_ NB812_816; exact bk_ BK812⟩, ⟨by refine bp_ (cs := #[.int .i64 t826, .int .i64 t821]) ?_ 1; refine bp_ (cs := #[.int .i64 t820, .int .i64 t821]) ?_ 0; exact bk_ BK816⟩, ⟨bw_ HB⟩⟩
                          · rw [if_neg c83] at H
                            have c83b0 : (t825 == t828) = false := beq_eq_false_iff_ne.mpr c83
                            have c83b1 : (t825 != t828) = true := bne_iff_ne.mpr c83
                            (first | rw [c83b0] | (simp only [i64_w, i32_w]; rw [c83b0]) | skip)
                            have H' := Aside0.mk H
                            clear H
                            go_wp2
                            go_meet
                            case rel => exact ⟨_, (true), (by first | rfl | (simp; done) | (simp [*]; done)), H', ⟨by have := HJ11.out; have := HJ41.out; first | omega | exact Nat.le_refl _⟩, ⟨by refine bf_ ?_ NB806_816; refine bf_ ?_ NB806_816; exact bk_ BK806⟩, ⟨by refine bf_ ?_ NB807_816; refine bf_ ?_ NB807_816; exact bk_ BK807⟩, ⟨by refine bf_ ?_ NB812_816; refine bf_ ?_ NB812_816; exact bk_ BK812⟩, ⟨by refine bp_ (cs := #[.int .i64 t826, .int .i64 t821]) ?_ 1; refine bp_ (cs := #[.int .i64 t820, .int .i64 t821]) ?_ 0; exact bk_ BK816⟩, ⟨bw_ HB⟩⟩
                      case rest =>
                        as_aux_lemma =>
                          clear HC68
                          try clear c1
                          try clear c2
                          try clear p2
                          try clear c3
                          try clear c4
                          try clear c5
                          try clear c5b0
                          try clear c5b1
                          try clear c6
                          try clear c7
                          try clear c8
                          try clear c12
                          try clear c15
                          try clear c17
                          try clear c18
                          try clear c19
                          try clear c20
                          try clear c21
                          try clear c27
                          try clear c28
                          try clear c29
                          try clear c31
                          try clear c31b0
                          try clear c31b1
                          try clear c32
                          try clear c33
                          try clear c34
                          try clear c36
                          try clear c37
                          try clear c39
                          try clear c43
                          try clear c44
                          try clear c45
                          try clear c47
                          try clear c48
                          try clear c51
                          try clear c52
                          try clear c53
                          try clear c54
                          try clear c57
                          try clear c57b0
                          try clear c57b1
                          try clear c58
                          try clear c59
                          try clear c60
                          try clear c62
                          try clear c63
                          try clear c65
                          try clear c69
                          try clear c70
                          try clear c71
                          try clear c73
                          try clear c74
                          try clear c77
                          try clear c83
                          try clear c83b0
                          try clear c83b1
                          try clear c84
                          try clear c85
                          try clear c86
                          try clear c88
                          try clear c89
                          try clear hcz16_0
                          try clear hcz16_1
                          try clear hcz17_0
                          try clear hcz17_1
                          try clear hcz22_0
                          try clear hcz22_1
                          try clear hcz23_0
                          try clear hcz23_1
                          try clear hcz24_0
                          try clear hcz24_1
                          try clear hcz30_0
                          try clear hcz30_1
                          try clear hcz35_0
                          try clear hcz35_1
                          try clear hcz38_0
                          try clear hcz38_1
                          try clear hcz46_0
                          try clear hcz46_1
                          try clear hcz49_0
                          try clear hcz49_1
                          try clear hcz52_0
                          try clear hcz52_1
                          try clear hcz53_0
                          try clear hcz53_1
                          try clear hcz54_0
                          try clear hcz54_1
                          try clear hcz56_0
                          try clear hcz56_1
                          try clear hcz61_0
                          try clear hcz61_1
                          try clear hcz64_0
                          try clear hcz64_1
                          try clear hcz72_0
                          try clear hcz72_1
                          try clear hcz75_0
                          try clear hcz75_1
                          try clear hcz78_0
                          try clear hcz78_1
                          try clear hcz79_0
                          try clear hcz79_1
                          try clear hcz80_0
                          try clear hcz80_1
                          try clear hcz82_0
                          try clear hcz82_1
                          try clear hcz87_0
                          try clear hcz87_1
                          try clear hcz90_0
                          try clear hcz90_1
                          try clear hfz16_0
                          try clear hfz16_1
                          try clear hfz17_0
                          try clear hfz17_1
                          try clear hfz22_0
                          try clear hfz22_1
                          try clear hfz23_0
                          try clear hfz23_1
                          try clear hfz24_0
                          try clear hfz24_1
                          try clear hfz30_0
                          try clear hfz30_1
                          try clear hfz35_0
                          try clear hfz35_1
                          try clear hfz38_0
                          try clear hfz38_1
                          try clear hfz46_0
                          try clear hfz46_1
                          try clear hfz49_0
                          try clear hfz49_1
                          try clear hfz52_0
                          try clear hfz52_1
                          try clear hfz53_0
                          try clear hfz53_1
                          try clear hfz54_0
                          try clear hfz54_1
                          try clear hfz56_0
                          try clear hfz56_1
                          try clear hfz61_0
                          try clear hfz61_1
                          try clear hfz64_0
                          try clear hfz64_1
                          try clear hfz72_0
                          try clear hfz72_1
                          try clear hfz75_0
                          try clear hfz75_1
                          try clear hfz78_0
                          try clear hfz78_1
                          try clear hfz79_0
                          try clear hfz79_1
                          try clear hfz80_0
                          try clear hfz80_1
                          try clear hfz82_0
                          try clear hfz82_1
                          try clear hfz87_0
                          try clear hfz87_1
                          try clear hfz90_0
                          try clear hfz90_1
                          try clear p2
                          obtain ⟨kq, x80_67, rfl, HA, HJ67, BK806, BK807, BK812, BK816, HB⟩ := hcut
                          cases kq with
                          | zero => exact absurd HA.out (by simp [withylaw01_NumSums.j2])
                          | succ kj67 =>
                            have H := HA.out
                            clear HA
                            simp only [withylaw01_NumSums.j2] at H
                            by_cases c91 : x80_67 = true
                            · subst c91
                              have H1 : (some false) = some r := by rw [if_pos rfl] at H; exact H
                              clear H
                              have H := H1
                              clear H1
                              obtain rfl := Option.some.inj H
                              go_wp2
                              go_ret
                              exact ⟨by first | rfl | (simp [*] <;> rfl), bw_ HB⟩
                            · replace c91 := Bool.eq_false_iff.mpr c91
                              subst c91
                              have H1 : ((num_Div.f kj67 a0_0 a0_1 a1_0 a1_1).bind fun bt829 => ((withyref01_Div.f kj67 a0_0 a0_1 a1_0 a1_1).bind fun bt832 => (if bt829.2.2 = bt832.2.2 then (withylaw01_NumSums.j3 kj67 l2 a3 (!(bt829.1 == bt832.1) || (!(bt829.2.1 == bt832.2.1))) a0_0 a0_1) else (withylaw01_NumSums.j3 kj67 l2 a3 true a0_0 a0_1)))) = some r := by rw [if_neg (show ¬ (false = true) by decide)] at H; exact H
                              clear H
                              have H := H1
                              clear H1
                              replace H := Option.bind_eq_some_iff.mp H
                              obtain ⟨⟨t829, t830, t831⟩, A920, H⟩ := H
                              replace H : ((withyref01_Div.f kj67 a0_0 a0_1 a1_0 a1_1).bind fun bt832 => (if t831 = bt832.2.2 then (withylaw01_NumSums.j3 kj67 l2 a3 (!(t829 == bt832.1) || (!(t830 == bt832.2.1))) a0_0 a0_1) else (withylaw01_NumSums.j3 kj67 l2 a3 true a0_0 a0_1))) = some r := H
                              have A92 := Aside0.mk A920
                              clear A920
                              replace H := Option.bind_eq_some_iff.mp H
                              obtain ⟨⟨t832, t833, t834⟩, A930, H⟩ := H
                              replace H : (if t831 = t834 then (withylaw01_NumSums.j3 kj67 l2 a3 (!(t829 == t832) || (!(t830 == t833))) a0_0 a0_1) else (withylaw01_NumSums.j3 kj67 l2 a3 true a0_0 a0_1)) = some r := H
                              have A93 := Aside0.mk A930
                              clear A930
                              have HC94 := Aside0.mk H
                              clear H
                              have hnb95 := NB806_807.out
                              have hnc95 := NB807_806.out
                              have hnb96 := NB806_812.out
                              have hnc96 := NB812_806.out
                              have hnb97 := NB806_816.out
                              have hnc97 := NB816_806.out
                              obtain ⟨hcz98_0, hcz98_1, hfz98_0, hfz98_1⟩ := bc2_ BK806
                              have hnb99 := NB807_812.out
                              have hnc99 := NB812_807.out
                              have hnb100 := NB807_816.out
                              have hnc100 := NB816_807.out
                              obtain ⟨hcz101_0, hcz101_1, hfz101_0, hfz101_1⟩ := bc2_ BK807
                              go_upto_region 17 with (first | ((with_reducible refine gate_callee (f := 21) rfl ?_); refine gla_ (some 84) Try.func21 #[.agg #[.int .i64 a0_0, .int .i64 a0_1], .agg #[.int .i64 a1_0, .int .i64 a1_1]] ?_; (with_reducible refine (num_Div.calls kj67 a0_0 a0_1 a1_0 a1_1 t829 t830 t831 _ A92.out).mono ?_); rintro e w102 ⟨rfl, hb⟩; refine ⟨_, rfl, ?_⟩; replace BK806 := bkb_ BK806 hb; replace BK807 := bkb_ BK807 hb; replace BK812 := bkb_ BK812 hb; replace BK816 := bkb_ BK816 hb; replace HB := bws_ HB hb; (try clear hb); (try clear hb2); (try clear hk); (try clear hi); have hnb103 := NB812_816.out; have hnc103 := NB816_812.out; obtain ⟨hcz104_0, hcz104_1, hfz104_0, hfz104_1⟩ := bc2_ BK812; obtain ⟨hcz105_0, hcz105_1, hfz105_0, hfz105_1⟩ := bc2_ BK806; obtain ⟨hcz106_0, hcz106_1, hfz106_0, hfz106_1⟩ := bc2_ BK807) | ((with_reducible refine gate_callee (f := 55) rfl ?_); refine gla_ (some 90) Try.func55 #[.agg #[.int .i64 a0_0, .int .i64 a0_1], .agg #[.int .i64 a1_0, .int .i64 a1_1]] ?_; (with_reducible refine (withyref01_Div.calls kj67 a0_0 a0_1 a1_0 a1_1 t832 t833 t834 _ A93.out).mono ?_); rintro e w107 ⟨rfl, hb⟩; refine ⟨_, rfl, ?_⟩; replace BK806 := Aside0.mk (blk_below (g := gb806) (o := .cells #[.int .i64 a0_0, .int .i64 a0_1] 23 (0, 0)) (by refine bf_ ?_ NB806_812; refine bf_ ?_ NB806_812; exact bk_ BK806) hb); replace BK807 := Aside0.mk (blk_below (g := gb807) (o := .cells #[.int .i64 a1_0, .int .i64 a1_1] 23 (0, 0)) (by refine bf_ ?_ NB807_812; refine bf_ ?_ NB807_812; exact bk_ BK807) hb); replace BK812 := Aside0.mk (blk_below (g := gb812) (o := .cells #[.int .i64 t829, .int .i64 t830] 23 (0, 0)) (by refine bp_ (cs := #[.int .i64 t829, .int .i64 t824]) ?_ 1; refine bp_ (cs := #[.int .i64 t823, .int .i64 t824]) ?_ 0; exact bk_ BK812) hb); replace BK816 := Aside0.mk (blk_below (g := gb816) (o := .cells #[.int .i64 t826, .int .i64 t827] 23 (0, 0)) (by refine bf_ ?_ NB816_812; refine bf_ ?_ NB816_812; exact bk_ BK816) hb); replace HB := bws_ HB hb; (try clear hb); (try clear hb2); (try clear hk); (try clear hi); obtain ⟨hcz108_0, hcz108_1, hfz108_0, hfz108_1⟩ := bc2_ BK816))
                              (try simp only [Act.put, List.setIfInBounds_toArray, List.set_cons_zero, List.set_cons_succ])
                              go_cut [100] (fun v100 wc => ∃ (kq : Nat) (x100_93 : Bool), v100 = .bool x100_93 ∧ Aside0 (withylaw01_NumSums.j3 kq l2 a3 x100_93 a0_0 a0_1 = some r) ∧ Aside0 (kq ≤ kj67) ∧ Aside0 (wc.heap[gb806]? = some (.cells #[.int .i64 a0_0, .int .i64 a0_1] 23 (0, 0))) ∧ Aside0 (wc.heap[gb807]? = some (.cells #[.int .i64 a1_0, .int .i64 a1_1] 23 (0, 0))) ∧ Aside0 (wc.heap[gb812]? = some (.cells #[.int .i64 t829, .int .i64 t830] 23 (0, 0))) ∧ Aside0 (wc.heap[gb816]? = some (.cells #[.int .i64 t832, .int .i64 t833] 23 (0, 0))) ∧ Aside0 (Below w.heap.size w wc))
                              case first =>
                                as_aux_lemma =>
                                  have H := HC94.out
                                  clear HC94
                                  by_cases c109 : t831 = t834
                                  · rw [if_pos c109] at H
                                    have c109b0 : (t831 == t834) = true := beq_iff_eq.mpr c109
                                    have c109b1 : (t831 != t834) = false := bne_eq_false_iff_eq.mpr c109
                                    clear c109
                                    (first | rw [c109b0] | (simp only [i64_w, i32_w]; rw [c109b0]) | skip)
                                    have H' := Aside0.mk H
                                    clear H
                                    have hnb110 := NB812_806.out
                                    have hnc110 := NB806_812.out
                                    have hnb111 := NB812_807.out
                                    have hnc111 := NB807_812.out
                                    have hnb112 := NB812_816.out
                                    have hnc112 := NB816_812.out
                                    obtain ⟨hcz113_0, hcz113_1, hfz113_0, hfz113_1⟩ := bc2_ BK812
                                    have hnb114 := NB816_806.out
                                    have hnc114 := NB806_816.out
                                    have hnb115 := NB816_807.out
                                    have hnc115 := NB807_816.out
                                    obtain ⟨hcz116_0, hcz116_1, hfz116_0, hfz116_1⟩ := bc2_ BK816
                                    go_wp2
                                    go_meet
                                    case rel => exact ⟨_, ((!(t829 == t832) || (!(t830 == t833)))), (by first | rfl | (simp; done) | (simp [*]; done)), H', ⟨by have := HJ11.out; have := HJ41.out; have := HJ67.out; first | omega | exact Nat.le_refl _⟩, ⟨by refine bf_ ?_ NB806_816; refine bf_ ?_ NB806_816; exact bk_ BK806⟩, ⟨by refine bf_ ?_ NB807_816; refine bf_ ?_ NB807_816; exact bk_ BK807⟩, ⟨by refine bf_ ?_ NB812_816; refine bf_ ?_ NB812_816; exact bk_ BK812⟩, ⟨by refine bp_ (cs := #[.int .i64 t832, .int .i64 t827]) ?_ 1; refine bp_ (cs := #[.int .i64 t826, .int .i64 t827]) ?_ 0; exact bk_ BK816⟩, ⟨bw_ HB⟩⟩
                                  · rw [if_neg c109] at H
                                    have c109b0 : (t831 == t834) = false := beq_eq_false_iff_ne.mpr c109
                                    have c109b1 : (t831 != t834) = true := bne_iff_ne.mpr c109
                                    (first | rw [c109b0] | (simp only [i64_w, i32_w]; rw [c109b0]) | skip)
                                    have H' := Aside0.mk H
                                    clear H
                                    go_wp2
                                    go_meet
                                    case rel => exact ⟨_, (true), (by first | rfl | (simp; done) | (simp [*]; done)), H', ⟨by have := HJ11.out; have := HJ41.out; have := HJ67.out; first | omega | exact Nat.le_refl _⟩, ⟨by refine bf_ ?_ NB806_816; refine bf_ ?_ NB806_816; exact bk_ BK806⟩, ⟨by refine bf_ ?_ NB807_816; refine bf_ ?_ NB807_816; exact bk_ BK807⟩, ⟨by refine bf_ ?_ NB812_816; refine bf_ ?_ NB812_816; exact bk_ BK812⟩, ⟨by refine bp_ (cs := #[.int .i64 t832, .int .i64 t827]) ?_ 1; refine bp_ (cs := #[.int .i64 t826, .int .i64 t827]) ?_ 0; exact bk_ BK816⟩, ⟨bw_ HB⟩⟩
                              case rest =>
                                as_aux_lemma =>
                                  clear HC94
                                  try clear c1
                                  try clear c2
                                  try clear p2
                                  try clear c3
                                  try clear c4
                                  try clear c5
                                  try clear c5b0
                                  try clear c5b1
                                  try clear c6
                                  try clear c7
                                  try clear c8
                                  try clear c9
                                  try clear c10
                                  try clear c11
                                  try clear c12
                                  try clear c15
                                  try clear c17
                                  try clear c18
                                  try clear c19
                                  try clear c20
                                  try clear c21
                                  try clear c27
                                  try clear c28
                                  try clear c29
                                  try clear c31
                                  try clear c31b0
                                  try clear c31b1
                                  try clear c32
                                  try clear c33
                                  try clear c34
                                  try clear c36
                                  try clear c37
                                  try clear c39
                                  try clear c43
                                  try clear c44
                                  try clear c45
                                  try clear c47
                                  try clear c48
                                  try clear c51
                                  try clear c52
                                  try clear c53
                                  try clear c54
                                  try clear c55
                                  try clear c57
                                  try clear c57b0
                                  try clear c57b1
                                  try clear c58
                                  try clear c59
                                  try clear c60
                                  try clear c62
                                  try clear c63
                                  try clear c65
                                  try clear c69
                                  try clear c70
                                  try clear c71
                                  try clear c73
                                  try clear c74
                                  try clear c77
                                  try clear c83
                                  try clear c83b0
                                  try clear c83b1
                                  try clear c84
                                  try clear c85
                                  try clear c86
                                  try clear c88
                                  try clear c89
                                  try clear c91
                                  try clear c95
                                  try clear c96
                                  try clear c97
                                  try clear c99
                                  try clear c100
                                  try clear c103
                                  try clear c109
                                  try clear c109b0
                                  try clear c109b1
                                  try clear c110
                                  try clear c111
                                  try clear c112
                                  try clear c114
                                  try clear c115
                                  try clear hcz101_0
                                  try clear hcz101_1
                                  try clear hcz104_0
                                  try clear hcz104_1
                                  try clear hcz105_0
                                  try clear hcz105_1
                                  try clear hcz106_0
                                  try clear hcz106_1
                                  try clear hcz108_0
                                  try clear hcz108_1
                                  try clear hcz113_0
                                  try clear hcz113_1
                                  try clear hcz116_0
                                  try clear hcz116_1
                                  try clear hcz16_0
                                  try clear hcz16_1
                                  try clear hcz17_0
                                  try clear hcz17_1
                                  try clear hcz22_0
                                  try clear hcz22_1
                                  try clear hcz23_0
                                  try clear hcz23_1
                                  try clear hcz24_0
                                  try clear hcz24_1
                                  try clear hcz30_0
                                  try clear hcz30_1
                                  try clear hcz35_0
                                  try clear hcz35_1
                                  try clear hcz38_0
                                  try clear hcz38_1
                                  try clear hcz46_0
                                  try clear hcz46_1
                                  try clear hcz49_0
                                  try clear hcz49_1
                                  try clear hcz52_0
                                  try clear hcz52_1
                                  try clear hcz53_0
                                  try clear hcz53_1
                                  try clear hcz54_0
                                  try clear hcz54_1
                                  try clear hcz56_0
                                  try clear hcz56_1
                                  try clear hcz61_0
                                  try clear hcz61_1
                                  try clear hcz64_0
                                  try clear hcz64_1
                                  try clear hcz72_0
                                  try clear hcz72_1
                                  try clear hcz75_0
                                  try clear hcz75_1
                                  try clear hcz78_0
                                  try clear hcz78_1
                                  try clear hcz79_0
                                  try clear hcz79_1
                                  try clear hcz80_0
                                  try clear hcz80_1
                                  try clear hcz82_0
                                  try clear hcz82_1
                                  try clear hcz87_0
                                  try clear hcz87_1
                                  try clear hcz90_0
                                  try clear hcz90_1
                                  try clear hcz98_0
                                  try clear hcz98_1
                                  try clear hfz101_0
                                  try clear hfz101_1
                                  try clear hfz104_0
                                  try clear hfz104_1
                                  try clear hfz105_0
                                  try clear hfz105_1
                                  try clear hfz106_0
                                  try clear hfz106_1
                                  try clear hfz108_0
                                  try clear hfz108_1
                                  try clear hfz113_0
                                  try clear hfz113_1
                                  try clear hfz116_0
                                  try clear hfz116_1
                                  try clear hfz16_0
                                  try clear hfz16_1
                                  try clear hfz17_0
                                  try clear hfz17_1
                                  try clear hfz22_0
                                  try clear hfz22_1
                                  try clear hfz23_0
                                  try clear hfz23_1
                                  try clear hfz24_0
                                  try clear hfz24_1
                                  try clear hfz30_0
                                  try clear hfz30_1
                                  try clear hfz35_0
                                  try clear hfz35_1
                                  try clear hfz38_0
                                  try clear hfz38_1
                                  try clear hfz46_0
                                  try clear hfz46_1
                                  try clear hfz49_0
                                  try clear hfz49_1
                                  try clear hfz52_0
                                  try clear hfz52_1
                                  try clear hfz53_0
                                  try clear hfz53_1
                                  try clear hfz54_0
                                  try clear hfz54_1
                                  try clear hfz56_0
                                  try clear hfz56_1
                                  try clear hfz61_0
                                  try clear hfz61_1
                                  try clear hfz64_0
                                  try clear hfz64_1
                                  try clear hfz72_0
                                  try clear hfz72_1
                                  try clear hfz75_0
                                  try clear hfz75_1
                                  try clear hfz78_0
                                  try clear hfz78_1
                                  try clear hfz79_0
                                  try clear hfz79_1
                                  try clear hfz80_0
                                  try clear hfz80_1
                                  try clear hfz82_0
                                  try clear hfz82_1
                                  try clear hfz87_0
                                  try clear hfz87_1
                                  try clear hfz90_0
                                  try clear hfz90_1
                                  try clear hfz98_0
                                  try clear hfz98_1
                                  try clear p2
                                  obtain ⟨kq, x100_93, rfl, HA, HJ93, BK806, BK807, BK812, BK816, HB⟩ := hcut
                                  cases kq with
                                  | zero => exact absurd HA.out (by simp [withylaw01_NumSums.j3])
                                  | succ kj93 =>
                                    have H := HA.out
                                    clear HA
                                    simp only [withylaw01_NumSums.j3] at H
                                    by_cases c117 : x100_93 = true
                                    · subst c117
                                      have H1 : (some false) = some r := by rw [if_pos rfl] at H; exact H
                                      clear H
                                      have H := H1
                                      clear H1
                                      obtain rfl := Option.some.inj H
                                      go_wp2
                                      go_ret
                                      exact ⟨by first | rfl | (simp [*] <;> rfl), bw_ HB⟩
                                    · replace c117 := Bool.eq_false_iff.mpr c117
                                      subst c117
                                      have H1 : ((num_Sum.f kj93 l2).bind fun bt835 => ((withyref01_Sum.f kj93 l2).bind fun bt838 => ((num_Pow.f kj93 a0_0 a0_1 a3).bind fun bt841 => ((withyref01_Pow.f kj93 a0_0 a0_1 a3).bind fun bt845 => (if bt835.2.2 = bt838.2.2 then (if (bt835.1 == bt838.1 && (bt835.2.1 == bt838.2.1)) = true then (if bt841.2.2 = bt845.2.2 then (if (bt841.1 == bt845.1 && (bt841.2.1 == bt845.2.1)) = true then ((withylaw01_summed.f kj93).bind fun t849 => (some t849)) else (some false)) else (some false)) else (some false)) else (some false)))))) = some r := by rw [if_neg (show ¬ (false = true) by decide)] at H; exact H
                                      clear H
                                      have H := H1
                                      clear H1
                                      replace H := Option.bind_eq_some_iff.mp H
                                      obtain ⟨⟨t835, t836, t837⟩, A1180, H⟩ := H
                                      replace H : ((withyref01_Sum.f kj93 l2).bind fun bt838 => ((num_Pow.f kj93 a0_0 a0_1 a3).bind fun bt841 => ((withyref01_Pow.f kj93 a0_0 a0_1 a3).bind fun bt845 => (if t837 = bt838.2.2 then (if (t835 == bt838.1 && (t836 == bt838.2.1)) = true then (if bt841.2.2 = bt845.2.2 then (if (bt841.1 == bt845.1 && (bt841.2.1 == bt845.2.1)) = true then ((withylaw01_summed.f kj93).bind fun t849 => (some t849)) else (some false)) else (some false)) else (some false)) else (some false))))) = some r := H
                                      have A118 := Aside0.mk A1180
                                      clear A1180
                                      replace H := Option.bind_eq_some_iff.mp H
                                      obtain ⟨⟨t838, t839, t840⟩, A1190, H⟩ := H
                                      replace H : ((num_Pow.f kj93 a0_0 a0_1 a3).bind fun bt841 => ((withyref01_Pow.f kj93 a0_0 a0_1 a3).bind fun bt845 => (if t837 = t840 then (if (t835 == t838 && (t836 == t839)) = true then (if bt841.2.2 = bt845.2.2 then (if (bt841.1 == bt845.1 && (bt841.2.1 == bt845.2.1)) = true then ((withylaw01_summed.f kj93).bind fun t849 => (some t849)) else (some false)) else (some false)) else (some false)) else (some false)))) = some r := H
                                      have A119 := Aside0.mk A1190
                                      clear A1190
                                      replace H := Option.bind_eq_some_iff.mp H
                                      obtain ⟨⟨t841, t842, t843⟩, A1200, H⟩ := H
                                      replace H : ((withyref01_Pow.f kj93 a0_0 a0_1 a3).bind fun bt845 => (if t837 = t840 then (if (t835 == t838 && (t836 == t839)) = true then (if t843 = bt845.2.2 then (if (t841 == bt845.1 && (t842 == bt845.2.1)) = true then ((withylaw01_summed.f kj93).bind fun t849 => (some t849)) else (some false)) else (some false)) else (some false)) else (some false))) = some r := H
                                      have A120 := Aside0.mk A1200
                                      clear A1200
                                      replace H := Option.bind_eq_some_iff.mp H
                                      obtain ⟨⟨t845, t846, t847⟩, A1210, H⟩ := H
                                      replace H : (if t837 = t840 then (if (t835 == t838 && (t836 == t839)) = true then (if t843 = t847 then (if (t841 == t845 && (t842 == t846)) = true then ((withylaw01_summed.f kj93).bind fun t849 => (some t849)) else (some false)) else (some false)) else (some false)) else (some false)) = some r := H
                                      have A121 := Aside0.mk A1210
                                      clear A1210
                                      by_cases c122 : t837 = t840
                                      · rw [if_pos c122] at H
                                        have c122b0 : (t837 == t840) = true := beq_iff_eq.mpr c122
                                        have c122b1 : (t837 != t840) = false := bne_eq_false_iff_eq.mpr c122
                                        clear c122
                                        by_cases c123 : (t835 == t838 && (t836 == t839)) = true
                                        · rw [if_pos c123] at H
                                          have c123b0 : (t835 == t838 && (t836 == t839)) = true := c123
                                          (try (have c123b1 : decide (t835 = t838 && (t836 == t839)) = true := by simpa using c123))
                                          (try (have c123b2 : (t835 == t838 && (t836 == t839)) = true := by simpa using c123))
                                          clear c123
                                          by_cases c124 : t843 = t847
                                          · rw [if_pos c124] at H
                                            have c124b0 : (t843 == t847) = true := beq_iff_eq.mpr c124
                                            have c124b1 : (t843 != t847) = false := bne_eq_false_iff_eq.mpr c124
                                            clear c124
                                            by_cases c125 : (t841 == t845 && (t842 == t846)) = true
                                            · rw [if_pos c125] at H
                                              have c125b0 : (t841 == t845 && (t842 == t846)) = true := c125
                                              (try (have c125b1 : decide (t841 = t845 && (t842 == t846)) = true := by simpa using c125))
                                              (try (have c125b2 : (t841 == t845 && (t842 == t846)) = true := by simpa using c125))
                                              clear c125
                                              replace H := Option.bind_eq_some_iff.mp H
                                              obtain ⟨t849, A1260, H⟩ := H
                                              replace H : (some t849) = some r := H
                                              have A126 := Aside0.mk A1260
                                              clear A1260
                                              obtain rfl := Option.some.inj H
                                              go_wp2_with (first | ((with_reducible refine gate_callee (f := 56) rfl ?_); refine gla_ (some 103) Try.func56 #[.slice A2 l2.length c2] ?_; (with_reducible refine (num_Sum.calls kj93 _ _ l2 t835 t836 t837 _ ?side1 ?side2 A118.out).mono ?_); (case side1 => repeat (first | exact (Kd.C_below HR2.out HB.out) | (with_reducible refine Kd.C_alloc ?_ _) | (with_reducible refine Kd.C_drewN ?_ _) | (with_reducible refine Kd.C_drew ?_))); (case side2 => exact HC2.out); rintro e w127 ⟨rfl, hb⟩; refine ⟨_, rfl, ?_⟩; replace BK806 := bkb_ BK806 hb; replace BK807 := bkb_ BK807 hb; replace BK812 := bkb_ BK812 hb; replace BK816 := bkb_ BK816 hb; replace HB := bws_ HB hb; (try clear hb); (try clear hb2); (try clear hk); (try clear hi); have hnb128 := NB812_806.out; have hnc128 := NB806_812.out; have hnb129 := NB812_807.out; have hnc129 := NB807_812.out; have hnb130 := NB812_816.out; have hnc130 := NB816_812.out; obtain ⟨hcz131_0, hcz131_1, hfz131_0, hfz131_1⟩ := bc2_ BK812) | ((with_reducible refine gate_callee (f := 57) rfl ?_); refine gla_ (some 108) Try.func57 #[.slice A2 l2.length c2] ?_; (with_reducible refine (withyref01_Sum.calls kj93 _ _ l2 t838 t839 t840 _ ?side1 ?side2 A119.out).mono ?_); (case side1 => exact Kd.C_below HR2.out (bw_ HB)); (case side2 => exact HC2.out); rintro e w132 ⟨rfl, hb⟩; refine ⟨_, rfl, ?_⟩; replace BK806 := Aside0.mk (blk_below (g := gb806) (o := .cells #[.int .i64 a0_0, .int .i64 a0_1] 23 (0, 0)) (by refine bf_ ?_ NB806_812; refine bf_ ?_ NB806_812; exact bk_ BK806) hb); replace BK807 := Aside0.mk (blk_below (g := gb807) (o := .cells #[.int .i64 a1_0, .int .i64 a1_1] 23 (0, 0)) (by refine bf_ ?_ NB807_812; refine bf_ ?_ NB807_812; exact bk_ BK807) hb); replace BK812 := Aside0.mk (blk_below (g := gb812) (o := .cells #[.int .i64 t835, .int .i64 t836] 23 (0, 0)) (by refine bp_ (cs := #[.int .i64 t835, .int .i64 t830]) ?_ 1; refine bp_ (cs := #[.int .i64 t829, .int .i64 t830]) ?_ 0; exact bk_ BK812) hb); replace BK816 := Aside0.mk (blk_below (g := gb816) (o := .cells #[.int .i64 t832, .int .i64 t833] 23 (0, 0)) (by refine bf_ ?_ NB816_812; refine bf_ ?_ NB816_812; exact bk_ BK816) hb); replace HB := bws_ HB hb; (try clear hb); (try clear hb2); (try clear hk); (try clear hi); have hnb133 := NB816_806.out; have hnc133 := NB806_816.out; have hnb134 := NB816_807.out; have hnc134 := NB807_816.out; obtain ⟨hcz135_0, hcz135_1, hfz135_0, hfz135_1⟩ := bc2_ BK816; have hnb136 := NB806_807.out; have hnc136 := NB807_806.out; obtain ⟨hcz137_0, hcz137_1, hfz137_0, hfz137_1⟩ := bc2_ BK806) | ((with_reducible refine gate_callee (f := 44) rfl ?_); refine gla_ (some 114) Try.func44 #[.agg #[.int .i64 a0_0, .int .i64 a0_1], .int .i64 a3] ?_; (with_reducible refine (num_Pow.calls kj93 a0_0 a0_1 a3 t841 t842 t843 _ A120.out).mono ?_); rintro e w138 ⟨rfl, hb⟩; refine ⟨_, rfl, ?_⟩; replace BK806 := Aside0.mk (blk_below (g := gb806) (o := .cells #[.int .i64 a0_0, .int .i64 a0_1] 23 (0, 0)) (by refine bf_ ?_ NB806_816; refine bf_ ?_ NB806_816; exact bk_ BK806) hb); replace BK807 := Aside0.mk (blk_below (g := gb807) (o := .cells #[.int .i64 a1_0, .int .i64 a1_1] 23 (0, 0)) (by refine bf_ ?_ NB807_816; refine bf_ ?_ NB807_816; exact bk_ BK807) hb); replace BK812 := Aside0.mk (blk_below (g := gb812) (o := .cells #[.int .i64 t835, .int .i64 t836] 23 (0, 0)) (by refine bf_ ?_ NB812_816; refine bf_ ?_ NB812_816; exact bk_ BK812) hb); replace BK816 := Aside0.mk (blk_below (g := gb816) (o := .cells #[.int .i64 t838, .int .i64 t839] 23 (0, 0)) (by refine bp_ (cs := #[.int .i64 t838, .int .i64 t833]) ?_ 1; refine bp_ (cs := #[.int .i64 t832, .int .i64 t833]) ?_ 0; exact bk_ BK816) hb); replace HB := bws_ HB hb; (try clear hb); (try clear hb2); (try clear hk); (try clear hi)) | ((with_reducible refine gate_dst (N := 13) rfl ?_); refine box_event ?hg (N := 13) ?hd (cs := #[.int .i64 0, .int .i64 0]) (t := 23) ?hr ?_; (case hd => rfl); (case hg => rfl); (case hr => first | (go_simp; done) | (go_simp; rfl)); intro gb844 hg w139 hbox hb; have BK844 := Aside0.mk hbox; have GW844 := bwg_ HB hg; have GE844 := bwg_ HB hg; replace HB := bws_ HB hb; have NB806_844 := bkl_ BK806 hg; have NB844_806 := bkr_ BK806 hg; replace BK806 := bkb_ BK806 hb; have NB807_844 := bkl_ BK807 hg; have NB844_807 := bkr_ BK807 hg; replace BK807 := bkb_ BK807 hb; have NB812_844 := bkl_ BK812 hg; have NB844_812 := bkr_ BK812 hg; replace BK812 := bkb_ BK812 hb; have NB816_844 := bkl_ BK816 hg; have NB844_816 := bkr_ BK816 hg; replace BK816 := bkb_ BK816 hb; clear hb hbox hg; have hnb140 := NB844_806.out; have hnc140 := NB806_844.out; have hnb141 := NB844_807.out; have hnc141 := NB807_844.out; have hnb142 := NB844_812.out; have hnc142 := NB812_844.out; have hnb143 := NB844_816.out; have hnc143 := NB816_844.out; obtain ⟨hcz144_0, hcz144_1, hfz144_0, hfz144_1⟩ := bc2_ BK844; obtain ⟨hcz145_0, hcz145_1, hfz145_0, hfz145_1⟩ := bc2_ BK806) | ((with_reducible refine gate_callee (f := 58) rfl ?_); refine gla_ (some 120) Try.func58 #[.agg #[.int .i64 a0_0, .int .i64 a0_1], .int .i64 a3] ?_; (with_reducible refine (withyref01_Pow.calls kj93 a0_0 a0_1 a3 t845 t846 t847 _ A121.out).mono ?_); rintro e w146 ⟨rfl, hb⟩; refine ⟨_, rfl, ?_⟩; replace BK806 := Aside0.mk (blk_below (g := gb806) (o := .cells #[.int .i64 a0_0, .int .i64 a0_1] 23 (0, 0)) (by refine bf_ ?_ NB806_844; refine bf_ ?_ NB806_844; exact bk_ BK806) hb); replace BK807 := Aside0.mk (blk_below (g := gb807) (o := .cells #[.int .i64 a1_0, .int .i64 a1_1] 23 (0, 0)) (by refine bf_ ?_ NB807_844; refine bf_ ?_ NB807_844; exact bk_ BK807) hb); replace BK812 := Aside0.mk (blk_below (g := gb812) (o := .cells #[.int .i64 t835, .int .i64 t836] 23 (0, 0)) (by refine bf_ ?_ NB812_844; refine bf_ ?_ NB812_844; exact bk_ BK812) hb); replace BK816 := Aside0.mk (blk_below (g := gb816) (o := .cells #[.int .i64 t838, .int .i64 t839] 23 (0, 0)) (by refine bf_ ?_ NB816_844; refine bf_ ?_ NB816_844; exact bk_ BK816) hb); replace BK844 := Aside0.mk (blk_below (g := gb844) (o := .cells #[.int .i64 t841, .int .i64 t842] 23 (0, 0)) (by refine bp_ (cs := #[.int .i64 t841, .int .i64 0]) ?_ 1; refine bp_ (cs := #[.int .i64 0, .int .i64 0]) ?_ 0; exact bk_ BK844) hb); replace HB := bws_ HB hb; (try clear hb); (try clear hb2); (try clear hk); (try clear hi)) | ((with_reducible refine gate_dst (N := 15) rfl ?_); refine box_event ?hg (N := 15) ?hd (cs := #[.int .i64 0, .int .i64 0]) (t := 23) ?hr ?_; (case hd => rfl); (case hg => rfl); (case hr => first | (go_simp; done) | (go_simp; rfl)); intro gb848 hg w147 hbox hb; have BK848 := Aside0.mk hbox; have GW848 := bwg_ HB hg; have GE848 := bwg_ HB hg; replace HB := bws_ HB hb; have NB806_848 := bkl_ BK806 hg; have NB848_806 := bkr_ BK806 hg; replace BK806 := bkb_ BK806 hb; have NB807_848 := bkl_ BK807 hg; have NB848_807 := bkr_ BK807 hg; replace BK807 := bkb_ BK807 hb; have NB812_848 := bkl_ BK812 hg; have NB848_812 := bkr_ BK812 hg; replace BK812 := bkb_ BK812 hb; have NB816_848 := bkl_ BK816 hg; have NB848_816 := bkr_ BK816 hg; replace BK816 := bkb_ BK816 hb; have NB844_848 := bkl_ BK844 hg; have NB848_844 := bkr_ BK844 hg; replace BK844 := bkb_ BK844 hb; clear hb hbox hg; have hnb148 := NB848_806.out; have hnc148 := NB806_848.out; have hnb149 := NB848_807.out; have hnc149 := NB807_848.out; have hnb150 := NB848_812.out; have hnc150 := NB812_848.out; have hnb151 := NB848_816.out; have hnc151 := NB816_848.out; have hnb152 := NB848_844.out; have hnc152 := NB844_848.out; obtain ⟨hcz153_0, hcz153_1, hfz153_0, hfz153_1⟩ := bc2_ BK848; obtain ⟨hcz154_0, hcz154_1, hfz154_0, hfz154_1⟩ := bc2_ BK812; obtain ⟨hcz155_0, hcz155_1, hfz155_0, hfz155_1⟩ := bc2_ BK816; obtain ⟨hcz156_0, hcz156_1, hfz156_0, hfz156_1⟩ := bc2_ BK844) | (go_at_call 17; (with_reducible refine (withylaw01_summed.calls kj93  t849 _ A126.out).mono ?_); rintro e w157 ⟨rfl, hb⟩; replace BK806 := Aside0.mk (blk_below (g := gb806) (o := .cells #[.int .i64 a0_0, .int .i64 a0_1] 23 (0, 0)) (by refine bf_ ?_ NB806_848; refine bf_ ?_ NB806_848; exact bk_ BK806) hb); replace BK807 := Aside0.mk (blk_below (g := gb807) (o := .cells #[.int .i64 a1_0, .int .i64 a1_1] 23 (0, 0)) (by refine bf_ ?_ NB807_848; refine bf_ ?_ NB807_848; exact bk_ BK807) hb); replace BK812 := Aside0.mk (blk_below (g := gb812) (o := .cells #[.int .i64 t835, .int .i64 t836] 23 (0, 0)) (by refine bf_ ?_ NB812_848; refine bf_ ?_ NB812_848; exact bk_ BK812) hb); replace BK816 := Aside0.mk (blk_below (g := gb816) (o := .cells #[.int .i64 t838, .int .i64 t839] 23 (0, 0)) (by refine bf_ ?_ NB816_848; refine bf_ ?_ NB816_848; exact bk_ BK816) hb); replace BK844 := Aside0.mk (blk_below (g := gb844) (o := .cells #[.int .i64 t841, .int .i64 t842] 23 (0, 0)) (by refine bf_ ?_ NB844_848; refine bf_ ?_ NB844_848; exact bk_ BK844) hb); replace BK848 := Aside0.mk (blk_below (g := gb848) (o := .cells #[.int .i64 t845, .int .i64 t846] 23 (0, 0)) (by refine bp_ (cs := #[.int .i64 t845, .int .i64 0]) ?_ 1; refine bp_ (cs := #[.int .i64 0, .int .i64 0]) ?_ 0; exact bk_ BK848) hb); replace HB := bws_ HB hb; (try clear hb); (try clear hb2); (try clear hk); (try clear hi)))
                                              go_ret
                                              exact ⟨by first | rfl | (simp [*] <;> rfl), bw_ HB⟩
                                            · rw [if_neg c125] at H
                                              have c125b0 : (t841 == t845 && (t842 == t846)) = false := by simpa using c125
                                              (try (have c125b1 : decide (t841 = t845 && (t842 == t846)) = false := by simpa using c125))
                                              (try (have c125b2 : (t841 == t845 && (t842 == t846)) = false := by simpa using c125))
                                              (try (have c125b3 : ¬ (t841 = t845 && (t842 == t846)) := by simpa using c125))
                                              clear c125
                                              obtain rfl := Option.some.inj H
                                              go_wp2_with (first | ((with_reducible refine gate_callee (f := 56) rfl ?_); refine gla_ (some 103) Try.func56 #[.slice A2 l2.length c2] ?_; (with_reducible refine (num_Sum.calls kj93 _ _ l2 t835 t836 t837 _ ?side1 ?side2 A118.out).mono ?_); (case side1 => repeat (first | exact (Kd.C_below HR2.out HB.out) | (with_reducible refine Kd.C_alloc ?_ _) | (with_reducible refine Kd.C_drewN ?_ _) | (with_reducible refine Kd.C_drew ?_))); (case side2 => exact HC2.out); rintro e w158 ⟨rfl, hb⟩; refine ⟨_, rfl, ?_⟩; replace BK806 := bkb_ BK806 hb; replace BK807 := bkb_ BK807 hb; replace BK812 := bkb_ BK812 hb; replace BK816 := bkb_ BK816 hb; replace HB := bws_ HB hb; (try clear hb); (try clear hb2); (try clear hk); (try clear hi); have hnb159 := NB812_806.out; have hnc159 := NB806_812.out; have hnb160 := NB812_807.out; have hnc160 := NB807_812.out; have hnb161 := NB812_816.out; have hnc161 := NB816_812.out; obtain ⟨hcz162_0, hcz162_1, hfz162_0, hfz162_1⟩ := bc2_ BK812) | ((with_reducible refine gate_callee (f := 57) rfl ?_); refine gla_ (some 108) Try.func57 #[.slice A2 l2.length c2] ?_; (with_reducible refine (withyref01_Sum.calls kj93 _ _ l2 t838 t839 t840 _ ?side1 ?side2 A119.out).mono ?_); (case side1 => exact Kd.C_below HR2.out (bw_ HB)); (case side2 => exact HC2.out); rintro e w163 ⟨rfl, hb⟩; refine ⟨_, rfl, ?_⟩; replace BK806 := Aside0.mk (blk_below (g := gb806) (o := .cells #[.int .i64 a0_0, .int .i64 a0_1] 23 (0, 0)) (by refine bf_ ?_ NB806_812; refine bf_ ?_ NB806_812; exact bk_ BK806) hb); replace BK807 := Aside0.mk (blk_below (g := gb807) (o := .cells #[.int .i64 a1_0, .int .i64 a1_1] 23 (0, 0)) (by refine bf_ ?_ NB807_812; refine bf_ ?_ NB807_812; exact bk_ BK807) hb); replace BK812 := Aside0.mk (blk_below (g := gb812) (o := .cells #[.int .i64 t835, .int .i64 t836] 23 (0, 0)) (by refine bp_ (cs := #[.int .i64 t835, .int .i64 t830]) ?_ 1; refine bp_ (cs := #[.int .i64 t829, .int .i64 t830]) ?_ 0; exact bk_ BK812) hb); replace BK816 := Aside0.mk (blk_below (g := gb816) (o := .cells #[.int .i64 t832, .int .i64 t833] 23 (0, 0)) (by refine bf_ ?_ NB816_812; refine bf_ ?_ NB816_812; exact bk_ BK816) hb); replace HB := bws_ HB hb; (try clear hb); (try clear hb2); (try clear hk); (try clear hi); have hnb164 := NB816_806.out; have hnc164 := NB806_816.out; have hnb165 := NB816_807.out; have hnc165 := NB807_816.out; obtain ⟨hcz166_0, hcz166_1, hfz166_0, hfz166_1⟩ := bc2_ BK816; have hnb167 := NB806_807.out; have hnc167 := NB807_806.out; obtain ⟨hcz168_0, hcz168_1, hfz168_0, hfz168_1⟩ := bc2_ BK806) | ((with_reducible refine gate_callee (f := 44) rfl ?_); refine gla_ (some 114) Try.func44 #[.agg #[.int .i64 a0_0, .int .i64 a0_1], .int .i64 a3] ?_; (with_reducible refine (num_Pow.calls kj93 a0_0 a0_1 a3 t841 t842 t843 _ A120.out).mono ?_); rintro e w169 ⟨rfl, hb⟩; refine ⟨_, rfl, ?_⟩; replace BK806 := Aside0.mk (blk_below (g := gb806) (o := .cells #[.int .i64 a0_0, .int .i64 a0_1] 23 (0, 0)) (by refine bf_ ?_ NB806_816; refine bf_ ?_ NB806_816; exact bk_ BK806) hb); replace BK807 := Aside0.mk (blk_below (g := gb807) (o := .cells #[.int .i64 a1_0, .int .i64 a1_1] 23 (0, 0)) (by refine bf_ ?_ NB807_816; refine bf_ ?_ NB807_816; exact bk_ BK807) hb); replace BK812 := Aside0.mk (blk_below (g := gb812) (o := .cells #[.int .i64 t835, .int .i64 t836] 23 (0, 0)) (by refine bf_ ?_ NB812_816; refine bf_ ?_ NB812_816; exact bk_ BK812) hb); replace BK816 := Aside0.mk (blk_below (g := gb816) (o := .cells #[.int .i64 t838, .int .i64 t839] 23 (0, 0)) (by refine bp_ (cs := #[.int .i64 t838, .int .i64 t833]) ?_ 1; refine bp_ (cs := #[.int .i64 t832, .int .i64 t833]) ?_ 0; exact bk_ BK816) hb); replace HB := bws_ HB hb; (try clear hb); (try clear hb2); (try clear hk); (try clear hi)) | ((with_reducible refine gate_dst (N := 13) rfl ?_); refine box_event ?hg (N := 13) ?hd (cs := #[.int .i64 0, .int .i64 0]) (t := 23) ?hr ?_; (case hd => rfl); (case hg => rfl); (case hr => first | (go_simp; done) | (go_simp; rfl)); intro gb844 hg w170 hbox hb; have BK844 := Aside0.mk hbox; have GW844 := bwg_ HB hg; have GE844 := bwg_ HB hg; replace HB := bws_ HB hb; have NB806_844 := bkl_ BK806 hg; have NB844_806 := bkr_ BK806 hg; replace BK806 := bkb_ BK806 hb; have NB807_844 := bkl_ BK807 hg; have NB844_807 := bkr_ BK807 hg; replace BK807 := bkb_ BK807 hb; have NB812_844 := bkl_ BK812 hg; have NB844_812 := bkr_ BK812 hg; replace BK812 := bkb_ BK812 hb; have NB816_844 := bkl_ BK816 hg; have NB844_816 := bkr_ BK816 hg; replace BK816 := bkb_ BK816 hb; clear hb hbox hg; have hnb171 := NB844_806.out; have hnc171 := NB806_844.out; have hnb172 := NB844_807.out; have hnc172 := NB807_844.out; have hnb173 := NB844_812.out; have hnc173 := NB812_844.out; have hnb174 := NB844_816.out; have hnc174 := NB816_844.out; obtain ⟨hcz175_0, hcz175_1, hfz175_0, hfz175_1⟩ := bc2_ BK844; obtain ⟨hcz176_0, hcz176_1, hfz176_0, hfz176_1⟩ := bc2_ BK806) | ((with_reducible refine gate_callee (f := 58) rfl ?_); refine gla_ (some 120) Try.func58 #[.agg #[.int .i64 a0_0, .int .i64 a0_1], .int .i64 a3] ?_; (with_reducible refine (withyref01_Pow.calls kj93 a0_0 a0_1 a3 t845 t846 t847 _ A121.out).mono ?_); rintro e w177 ⟨rfl, hb⟩; refine ⟨_, rfl, ?_⟩; replace BK806 := Aside0.mk (blk_below (g := gb806) (o := .cells #[.int .i64 a0_0, .int .i64 a0_1] 23 (0, 0)) (by refine bf_ ?_ NB806_844; refine bf_ ?_ NB806_844; exact bk_ BK806) hb); replace BK807 := Aside0.mk (blk_below (g := gb807) (o := .cells #[.int .i64 a1_0, .int .i64 a1_1] 23 (0, 0)) (by refine bf_ ?_ NB807_844; refine bf_ ?_ NB807_844; exact bk_ BK807) hb); replace BK812 := Aside0.mk (blk_below (g := gb812) (o := .cells #[.int .i64 t835, .int .i64 t836] 23 (0, 0)) (by refine bf_ ?_ NB812_844; refine bf_ ?_ NB812_844; exact bk_ BK812) hb); replace BK816 := Aside0.mk (blk_below (g := gb816) (o := .cells #[.int .i64 t838, .int .i64 t839] 23 (0, 0)) (by refine bf_ ?_ NB816_844; refine bf_ ?_ NB816_844; exact bk_ BK816) hb); replace BK844 := Aside0.mk (blk_below (g := gb844) (o := .cells #[.int .i64 t841, .int .i64 t842] 23 (0, 0)) (by refine bp_ (cs := #[.int .i64 t841, .int .i64 0]) ?_ 1; refine bp_ (cs := #[.int .i64 0, .int .i64 0]) ?_ 0; exact bk_ BK844) hb); replace HB := bws_ HB hb; (try clear hb); (try clear hb2); (try clear hk); (try clear hi)) | ((with_reducible refine gate_dst (N := 15) rfl ?_); refine box_event ?hg (N := 15) ?hd (cs := #[.int .i64 0, .int .i64 0]) (t := 23) ?hr ?_; (case hd => rfl); (case hg => rfl); (case hr => first | (go_simp; done) | (go_simp; rfl)); intro gb848 hg w178 hbox hb; have BK848 := Aside0.mk hbox; have GW848 := bwg_ HB hg; have GE848 := bwg_ HB hg; replace HB := bws_ HB hb; have NB806_848 := bkl_ BK806 hg; have NB848_806 := bkr_ BK806 hg; replace BK806 := bkb_ BK806 hb; have NB807_848 := bkl_ BK807 hg; have NB848_807 := bkr_ BK807 hg; replace BK807 := bkb_ BK807 hb; have NB812_848 := bkl_ BK812 hg; have NB848_812 := bkr_ BK812 hg; replace BK812 := bkb_ BK812 hb; have NB816_848 := bkl_ BK816 hg; have NB848_816 := bkr_ BK816 hg; replace BK816 := bkb_ BK816 hb; have NB844_848 := bkl_ BK844 hg; have NB848_844 := bkr_ BK844 hg; replace BK844 := bkb_ BK844 hb; clear hb hbox hg; have hnb179 := NB848_806.out; have hnc179 := NB806_848.out; have hnb180 := NB848_807.out; have hnc180 := NB807_848.out; have hnb181 := NB848_812.out; have hnc181 := NB812_848.out; have hnb182 := NB848_816.out; have hnc182 := NB816_848.out; have hnb183 := NB848_844.out; have hnc183 := NB844_848.out; obtain ⟨hcz184_0, hcz184_1, hfz184_0, hfz184_1⟩ := bc2_ BK848; obtain ⟨hcz185_0, hcz185_1, hfz185_0, hfz185_1⟩ := bc2_ BK812; obtain ⟨hcz186_0, hcz186_1, hfz186_0, hfz186_1⟩ := bc2_ BK816; obtain ⟨hcz187_0, hcz187_1, hfz187_0, hfz187_1⟩ := bc2_ BK844))
                                              go_ret
                                              exact ⟨by first | rfl | (simp [*] <;> rfl), bw_ HB⟩
                                          · rw [if_neg c124] at H
                                            have c124b0 : (t843 == t847) = false := beq_eq_false_iff_ne.mpr c124
                                            have c124b1 : (t843 != t847) = true := bne_iff_ne.mpr c124
                                            obtain rfl := Option.some.inj H
                                            go_wp2_with (first | ((with_reducible refine gate_callee (f := 56) rfl ?_); refine gla_ (some 103) Try.func56 #[.slice A2 l2.length c2] ?_; (with_reducible refine (num_Sum.calls kj93 _ _ l2 t835 t836 t837 _ ?side1 ?side2 A118.out).mono ?_); (case side1 => repeat (first | exact (Kd.C_below HR2.out HB.out) | (with_reducible refine Kd.C_alloc ?_ _) | (with_reducible refine Kd.C_drewN ?_ _) | (with_reducible refine Kd.C_drew ?_))); (case side2 => exact HC2.out); rintro e w188 ⟨rfl, hb⟩; refine ⟨_, rfl, ?_⟩; replace BK806 := bkb_ BK806 hb; replace BK807 := bkb_ BK807 hb; replace BK812 := bkb_ BK812 hb; replace BK816 := bkb_ BK816 hb; replace HB := bws_ HB hb; (try clear hb); (try clear hb2); (try clear hk); (try clear hi); have hnb189 := NB812_806.out; have hnc189 := NB806_812.out; have hnb190 := NB812_807.out; have hnc190 := NB807_812.out; have hnb191 := NB812_816.out; have hnc191 := NB816_812.out; obtain ⟨hcz192_0, hcz192_1, hfz192_0, hfz192_1⟩ := bc2_ BK812) | ((with_reducible refine gate_callee (f := 57) rfl ?_); refine gla_ (some 108) Try.func57 #[.slice A2 l2.length c2] ?_; (with_reducible refine (withyref01_Sum.calls kj93 _ _ l2 t838 t839 t840 _ ?side1 ?side2 A119.out).mono ?_); (case side1 => exact Kd.C_below HR2.out (bw_ HB)); (case side2 => exact HC2.out); rintro e w193 ⟨rfl, hb⟩; refine ⟨_, rfl, ?_⟩; replace BK806 := Aside0.mk (blk_below (g := gb806) (o := .cells #[.int .i64 a0_0, .int .i64 a0_1] 23 (0, 0)) (by refine bf_ ?_ NB806_812; refine bf_ ?_ NB806_812; exact bk_ BK806) hb); replace BK807 := Aside0.mk (blk_below (g := gb807) (o := .cells #[.int .i64 a1_0, .int .i64 a1_1] 23 (0, 0)) (by refine bf_ ?_ NB807_812; refine bf_ ?_ NB807_812; exact bk_ BK807) hb); replace BK812 := Aside0.mk (blk_below (g := gb812) (o := .cells #[.int .i64 t835, .int .i64 t836] 23 (0, 0)) (by refine bp_ (cs := #[.int .i64 t835, .int .i64 t830]) ?_ 1; refine bp_ (cs := #[.int .i64 t829, .int .i64 t830]) ?_ 0; exact bk_ BK812) hb); replace BK816 := Aside0.mk (blk_below (g := gb816) (o := .cells #[.int .i64 t832, .int .i64 t833] 23 (0, 0)) (by refine bf_ ?_ NB816_812; refine bf_ ?_ NB816_812; exact bk_ BK816) hb); replace HB := bws_ HB hb; (try clear hb); (try clear hb2); (try clear hk); (try clear hi); have hnb194 := NB816_806.out; have hnc194 := NB806_816.out; have hnb195 := NB816_807.out; have hnc195 := NB807_816.out; obtain ⟨hcz196_0, hcz196_1, hfz196_0, hfz196_1⟩ := bc2_ BK816; have hnb197 := NB806_807.out; have hnc197 := NB807_806.out; obtain ⟨hcz198_0, hcz198_1, hfz198_0, hfz198_1⟩ := bc2_ BK806) | ((with_reducible refine gate_callee (f := 44) rfl ?_); refine gla_ (some 114) Try.func44 #[.agg #[.int .i64 a0_0, .int .i64 a0_1], .int .i64 a3] ?_; (with_reducible refine (num_Pow.calls kj93 a0_0 a0_1 a3 t841 t842 t843 _ A120.out).mono ?_); rintro e w199 ⟨rfl, hb⟩; refine ⟨_, rfl, ?_⟩; replace BK806 := Aside0.mk (blk_below (g := gb806) (o := .cells #[.int .i64 a0_0, .int .i64 a0_1] 23 (0, 0)) (by refine bf_ ?_ NB806_816; refine bf_ ?_ NB806_816; exact bk_ BK806) hb); replace BK807 := Aside0.mk (blk_below (g := gb807) (o := .cells #[.int .i64 a1_0, .int .i64 a1_1] 23 (0, 0)) (by refine bf_ ?_ NB807_816; refine bf_ ?_ NB807_816; exact bk_ BK807) hb); replace BK812 := Aside0.mk (blk_below (g := gb812) (o := .cells #[.int .i64 t835, .int .i64 t836] 23 (0, 0)) (by refine bf_ ?_ NB812_816; refine bf_ ?_ NB812_816; exact bk_ BK812) hb); replace BK816 := Aside0.mk (blk_below (g := gb816) (o := .cells #[.int .i64 t838, .int .i64 t839] 23 (0, 0)) (by refine bp_ (cs := #[.int .i64 t838, .int .i64 t833]) ?_ 1; refine bp_ (cs := #[.int .i64 t832, .int .i64 t833]) ?_ 0; exact bk_ BK816) hb); replace HB := bws_ HB hb; (try clear hb); (try clear hb2); (try clear hk); (try clear hi)) | ((with_reducible refine gate_dst (N := 13) rfl ?_); refine box_event ?hg (N := 13) ?hd (cs := #[.int .i64 0, .int .i64 0]) (t := 23) ?hr ?_; (case hd => rfl); (case hg => rfl); (case hr => first | (go_simp; done) | (go_simp; rfl)); intro gb844 hg w200 hbox hb; have BK844 := Aside0.mk hbox; have GW844 := bwg_ HB hg; have GE844 := bwg_ HB hg; replace HB := bws_ HB hb; have NB806_844 := bkl_ BK806 hg; have NB844_806 := bkr_ BK806 hg; replace BK806 := bkb_ BK806 hb; have NB807_844 := bkl_ BK807 hg; have NB844_807 := bkr_ BK807 hg; replace BK807 := bkb_ BK807 hb; have NB812_844 := bkl_ BK812 hg; have NB844_812 := bkr_ BK812 hg; replace BK812 := bkb_ BK812 hb; have NB816_844 := bkl_ BK816 hg; have NB844_816 := bkr_ BK816 hg; replace BK816 := bkb_ BK816 hb; clear hb hbox hg; have hnb201 := NB844_806.out; have hnc201 := NB806_844.out; have hnb202 := NB844_807.out; have hnc202 := NB807_844.out; have hnb203 := NB844_812.out; have hnc203 := NB812_844.out; have hnb204 := NB844_816.out; have hnc204 := NB816_844.out; obtain ⟨hcz205_0, hcz205_1, hfz205_0, hfz205_1⟩ := bc2_ BK844; obtain ⟨hcz206_0, hcz206_1, hfz206_0, hfz206_1⟩ := bc2_ BK806) | ((with_reducible refine gate_callee (f := 58) rfl ?_); refine gla_ (some 120) Try.func58 #[.agg #[.int .i64 a0_0, .int .i64 a0_1], .int .i64 a3] ?_; (with_reducible refine (withyref01_Pow.calls kj93 a0_0 a0_1 a3 t845 t846 t847 _ A121.out).mono ?_); rintro e w207 ⟨rfl, hb⟩; refine ⟨_, rfl, ?_⟩; replace BK806 := Aside0.mk (blk_below (g := gb806) (o := .cells #[.int .i64 a0_0, .int .i64 a0_1] 23 (0, 0)) (by refine bf_ ?_ NB806_844; refine bf_ ?_ NB806_844; exact bk_ BK806) hb); replace BK807 := Aside0.mk (blk_below (g := gb807) (o := .cells #[.int .i64 a1_0, .int .i64 a1_1] 23 (0, 0)) (by refine bf_ ?_ NB807_844; refine bf_ ?_ NB807_844; exact bk_ BK807) hb); replace BK812 := Aside0.mk (blk_below (g := gb812) (o := .cells #[.int .i64 t835, .int .i64 t836] 23 (0, 0)) (by refine bf_ ?_ NB812_844; refine bf_ ?_ NB812_844; exact bk_ BK812) hb); replace BK816 := Aside0.mk (blk_below (g := gb816) (o := .cells #[.int .i64 t838, .int .i64 t839] 23 (0, 0)) (by refine bf_ ?_ NB816_844; refine bf_ ?_ NB816_844; exact bk_ BK816) hb); replace BK844 := Aside0.mk (blk_below (g := gb844) (o := .cells #[.int .i64 t841, .int .i64 t842] 23 (0, 0)) (by refine bp_ (cs := #[.int .i64 t841, .int .i64 0]) ?_ 1; refine bp_ (cs := #[.int .i64 0, .int .i64 0]) ?_ 0; exact bk_ BK844) hb); replace HB := bws_ HB hb; (try clear hb); (try clear hb2); (try clear hk); (try clear hi)) | ((with_reducible refine gate_dst (N := 15) rfl ?_); refine box_event ?hg (N := 15) ?hd (cs := #[.int .i64 0, .int .i64 0]) (t := 23) ?hr ?_; (case hd => rfl); (case hg => rfl); (case hr => first | (go_simp; done) | (go_simp; rfl)); intro gb848 hg w208 hbox hb; have BK848 := Aside0.mk hbox; have GW848 := bwg_ HB hg; have GE848 := bwg_ HB hg; replace HB := bws_ HB hb; have NB806_848 := bkl_ BK806 hg; have NB848_806 := bkr_ BK806 hg; replace BK806 := bkb_ BK806 hb; have NB807_848 := bkl_ BK807 hg; have NB848_807 := bkr_ BK807 hg; replace BK807 := bkb_ BK807 hb; have NB812_848 := bkl_ BK812 hg; have NB848_812 := bkr_ BK812 hg; replace BK812 := bkb_ BK812 hb; have NB816_848 := bkl_ BK816 hg; have NB848_816 := bkr_ BK816 hg; replace BK816 := bkb_ BK816 hb; have NB844_848 := bkl_ BK844 hg; have NB848_844 := bkr_ BK844 hg; replace BK844 := bkb_ BK844 hb; clear hb hbox hg; have hnb209 := NB848_806.out; have hnc209 := NB806_848.out; have hnb210 := NB848_807.out; have hnc210 := NB807_848.out; have hnb211 := NB848_812.out; have hnc211 := NB812_848.out; have hnb212 := NB848_816.out; have hnc212 := NB816_848.out; have hnb213 := NB848_844.out; have hnc213 := NB844_848.out; obtain ⟨hcz214_0, hcz214_1, hfz214_0, hfz214_1⟩ := bc2_ BK848; obtain ⟨hcz215_0, hcz215_1, hfz215_0, hfz215_1⟩ := bc2_ BK812; obtain ⟨hcz216_0, hcz216_1, hfz216_0, hfz216_1⟩ := bc2_ BK816))
                                            go_ret
                                            exact ⟨by first | rfl | (simp [*] <;> rfl), bw_ HB⟩
                                        · rw [if_neg c123] at H
                                          have c123b0 : (t835 == t838 && (t836 == t839)) = false := by simpa using c123
                                          (try (have c123b1 : decide (t835 = t838 && (t836 == t839)) = false := by simpa using c123))
                                          (try (have c123b2 : (t835 == t838 && (t836 == t839)) = false := by simpa using c123))
                                          (try (have c123b3 : ¬ (t835 = t838 && (t836 == t839)) := by simpa using c123))
                                          clear c123
                                          obtain rfl := Option.some.inj H
                                          go_wp2_with (first | ((with_reducible refine gate_callee (f := 56) rfl ?_); refine gla_ (some 103) Try.func56 #[.slice A2 l2.length c2] ?_; (with_reducible refine (num_Sum.calls kj93 _ _ l2 t835 t836 t837 _ ?side1 ?side2 A118.out).mono ?_); (case side1 => repeat (first | exact (Kd.C_below HR2.out HB.out) | (with_reducible refine Kd.C_alloc ?_ _) | (with_reducible refine Kd.C_drewN ?_ _) | (with_reducible refine Kd.C_drew ?_))); (case side2 => exact HC2.out); rintro e w217 ⟨rfl, hb⟩; refine ⟨_, rfl, ?_⟩; replace BK806 := bkb_ BK806 hb; replace BK807 := bkb_ BK807 hb; replace BK812 := bkb_ BK812 hb; replace BK816 := bkb_ BK816 hb; replace HB := bws_ HB hb; (try clear hb); (try clear hb2); (try clear hk); (try clear hi); have hnb218 := NB812_806.out; have hnc218 := NB806_812.out; have hnb219 := NB812_807.out; have hnc219 := NB807_812.out; have hnb220 := NB812_816.out; have hnc220 := NB816_812.out; obtain ⟨hcz221_0, hcz221_1, hfz221_0, hfz221_1⟩ := bc2_ BK812) | ((with_reducible refine gate_callee (f := 57) rfl ?_); refine gla_ (some 108) Try.func57 #[.slice A2 l2.length c2] ?_; (with_reducible refine (withyref01_Sum.calls kj93 _ _ l2 t838 t839 t840 _ ?side1 ?side2 A119.out).mono ?_); (case side1 => exact Kd.C_below HR2.out (bw_ HB)); (case side2 => exact HC2.out); rintro e w222 ⟨rfl, hb⟩; refine ⟨_, rfl, ?_⟩; replace BK806 := Aside0.mk (blk_below (g := gb806) (o := .cells #[.int .i64 a0_0, .int .i64 a0_1] 23 (0, 0)) (by refine bf_ ?_ NB806_812; refine bf_ ?_ NB806_812; exact bk_ BK806) hb); replace BK807 := Aside0.mk (blk_below (g := gb807) (o := .cells #[.int .i64 a1_0, .int .i64 a1_1] 23 (0, 0)) (by refine bf_ ?_ NB807_812; refine bf_ ?_ NB807_812; exact bk_ BK807) hb); replace BK812 := Aside0.mk (blk_below (g := gb812) (o := .cells #[.int .i64 t835, .int .i64 t836] 23 (0, 0)) (by refine bp_ (cs := #[.int .i64 t835, .int .i64 t830]) ?_ 1; refine bp_ (cs := #[.int .i64 t829, .int .i64 t830]) ?_ 0; exact bk_ BK812) hb); replace BK816 := Aside0.mk (blk_below (g := gb816) (o := .cells #[.int .i64 t832, .int .i64 t833] 23 (0, 0)) (by refine bf_ ?_ NB816_812; refine bf_ ?_ NB816_812; exact bk_ BK816) hb); replace HB := bws_ HB hb; (try clear hb); (try clear hb2); (try clear hk); (try clear hi); have hnb223 := NB816_806.out; have hnc223 := NB806_816.out; have hnb224 := NB816_807.out; have hnc224 := NB807_816.out; obtain ⟨hcz225_0, hcz225_1, hfz225_0, hfz225_1⟩ := bc2_ BK816; have hnb226 := NB806_807.out; have hnc226 := NB807_806.out; obtain ⟨hcz227_0, hcz227_1, hfz227_0, hfz227_1⟩ := bc2_ BK806) | ((with_reducible refine gate_callee (f := 44) rfl ?_); refine gla_ (some 114) Try.func44 #[.agg #[.int .i64 a0_0, .int .i64 a0_1], .int .i64 a3] ?_; (with_reducible refine (num_Pow.calls kj93 a0_0 a0_1 a3 t841 t842 t843 _ A120.out).mono ?_); rintro e w228 ⟨rfl, hb⟩; refine ⟨_, rfl, ?_⟩; replace BK806 := Aside0.mk (blk_below (g := gb806) (o := .cells #[.int .i64 a0_0, .int .i64 a0_1] 23 (0, 0)) (by refine bf_ ?_ NB806_816; refine bf_ ?_ NB806_816; exact bk_ BK806) hb); replace BK807 := Aside0.mk (blk_below (g := gb807) (o := .cells #[.int .i64 a1_0, .int .i64 a1_1] 23 (0, 0)) (by refine bf_ ?_ NB807_816; refine bf_ ?_ NB807_816; exact bk_ BK807) hb); replace BK812 := Aside0.mk (blk_below (g := gb812) (o := .cells #[.int .i64 t835, .int .i64 t836] 23 (0, 0)) (by refine bf_ ?_ NB812_816; refine bf_ ?_ NB812_816; exact bk_ BK812) hb); replace BK816 := Aside0.mk (blk_below (g := gb816) (o := .cells #[.int .i64 t838, .int .i64 t839] 23 (0, 0)) (by refine bp_ (cs := #[.int .i64 t838, .int .i64 t833]) ?_ 1; refine bp_ (cs := #[.int .i64 t832, .int .i64 t833]) ?_ 0; exact bk_ BK816) hb); replace HB := bws_ HB hb; (try clear hb); (try clear hb2); (try clear hk); (try clear hi)) | ((with_reducible refine gate_dst (N := 13) rfl ?_); refine box_event ?hg (N := 13) ?hd (cs := #[.int .i64 0, .int .i64 0]) (t := 23) ?hr ?_; (case hd => rfl); (case hg => rfl); (case hr => first | (go_simp; done) | (go_simp; rfl)); intro gb844 hg w229 hbox hb; have BK844 := Aside0.mk hbox; have GW844 := bwg_ HB hg; have GE844 := bwg_ HB hg; replace HB := bws_ HB hb; have NB806_844 := bkl_ BK806 hg; have NB844_806 := bkr_ BK806 hg; replace BK806 := bkb_ BK806 hb; have NB807_844 := bkl_ BK807 hg; have NB844_807 := bkr_ BK807 hg; replace BK807 := bkb_ BK807 hb; have NB812_844 := bkl_ BK812 hg; have NB844_812 := bkr_ BK812 hg; replace BK812 := bkb_ BK812 hb; have NB816_844 := bkl_ BK816 hg; have NB844_816 := bkr_ BK816 hg; replace BK816 := bkb_ BK816 hb; clear hb hbox hg; have hnb230 := NB844_806.out; have hnc230 := NB806_844.out; have hnb231 := NB844_807.out; have hnc231 := NB807_844.out; have hnb232 := NB844_812.out; have hnc232 := NB812_844.out; have hnb233 := NB844_816.out; have hnc233 := NB816_844.out; obtain ⟨hcz234_0, hcz234_1, hfz234_0, hfz234_1⟩ := bc2_ BK844; obtain ⟨hcz235_0, hcz235_1, hfz235_0, hfz235_1⟩ := bc2_ BK806) | ((with_reducible refine gate_callee (f := 58) rfl ?_); refine gla_ (some 120) Try.func58 #[.agg #[.int .i64 a0_0, .int .i64 a0_1], .int .i64 a3] ?_; (with_reducible refine (withyref01_Pow.calls kj93 a0_0 a0_1 a3 t845 t846 t847 _ A121.out).mono ?_); rintro e w236 ⟨rfl, hb⟩; refine ⟨_, rfl, ?_⟩; replace BK806 := Aside0.mk (blk_below (g := gb806) (o := .cells #[.int .i64 a0_0, .int .i64 a0_1] 23 (0, 0)) (by refine bf_ ?_ NB806_844; refine bf_ ?_ NB806_844; exact bk_ BK806) hb); replace BK807 := Aside0.mk (blk_below (g := gb807) (o := .cells #[.int .i64 a1_0, .int .i64 a1_1] 23 (0, 0)) (by refine bf_ ?_ NB807_844; refine bf_ ?_ NB807_844; exact bk_ BK807) hb); replace BK812 := Aside0.mk (blk_below (g := gb812) (o := .cells #[.int .i64 t835, .int .i64 t836] 23 (0, 0)) (by refine bf_ ?_ NB812_844; refine bf_ ?_ NB812_844; exact bk_ BK812) hb); replace BK816 := Aside0.mk (blk_below (g := gb816) (o := .cells #[.int .i64 t838, .int .i64 t839] 23 (0, 0)) (by refine bf_ ?_ NB816_844; refine bf_ ?_ NB816_844; exact bk_ BK816) hb); replace BK844 := Aside0.mk (blk_below (g := gb844) (o := .cells #[.int .i64 t841, .int .i64 t842] 23 (0, 0)) (by refine bp_ (cs := #[.int .i64 t841, .int .i64 0]) ?_ 1; refine bp_ (cs := #[.int .i64 0, .int .i64 0]) ?_ 0; exact bk_ BK844) hb); replace HB := bws_ HB hb; (try clear hb); (try clear hb2); (try clear hk); (try clear hi)) | ((with_reducible refine gate_dst (N := 15) rfl ?_); refine box_event ?hg (N := 15) ?hd (cs := #[.int .i64 0, .int .i64 0]) (t := 23) ?hr ?_; (case hd => rfl); (case hg => rfl); (case hr => first | (go_simp; done) | (go_simp; rfl)); intro gb848 hg w237 hbox hb; have BK848 := Aside0.mk hbox; have GW848 := bwg_ HB hg; have GE848 := bwg_ HB hg; replace HB := bws_ HB hb; have NB806_848 := bkl_ BK806 hg; have NB848_806 := bkr_ BK806 hg; replace BK806 := bkb_ BK806 hb; have NB807_848 := bkl_ BK807 hg; have NB848_807 := bkr_ BK807 hg; replace BK807 := bkb_ BK807 hb; have NB812_848 := bkl_ BK812 hg; have NB848_812 := bkr_ BK812 hg; replace BK812 := bkb_ BK812 hb; have NB816_848 := bkl_ BK816 hg; have NB848_816 := bkr_ BK816 hg; replace BK816 := bkb_ BK816 hb; have NB844_848 := bkl_ BK844 hg; have NB848_844 := bkr_ BK844 hg; replace BK844 := bkb_ BK844 hb; clear hb hbox hg; have hnb238 := NB848_806.out; have hnc238 := NB806_848.out; have hnb239 := NB848_807.out; have hnc239 := NB807_848.out; have hnb240 := NB848_812.out; have hnc240 := NB812_848.out; have hnb241 := NB848_816.out; have hnc241 := NB816_848.out; have hnb242 := NB848_844.out; have hnc242 := NB844_848.out; obtain ⟨hcz243_0, hcz243_1, hfz243_0, hfz243_1⟩ := bc2_ BK848; obtain ⟨hcz244_0, hcz244_1, hfz244_0, hfz244_1⟩ := bc2_ BK812; obtain ⟨hcz245_0, hcz245_1, hfz245_0, hfz245_1⟩ := bc2_ BK816))
                                          go_ret
                                          exact ⟨by first | rfl | (simp [*] <;> rfl), bw_ HB⟩
                                      · rw [if_neg c122] at H
                                        have c122b0 : (t837 == t840) = false := beq_eq_false_iff_ne.mpr c122
                                        have c122b1 : (t837 != t840) = true := bne_iff_ne.mpr c122
                                        obtain rfl := Option.some.inj H
                                        go_wp2_with (first | ((with_reducible refine gate_callee (f := 56) rfl ?_); refine gla_ (some 103) Try.func56 #[.slice A2 l2.length c2] ?_; (with_reducible refine (num_Sum.calls kj93 _ _ l2 t835 t836 t837 _ ?side1 ?side2 A118.out).mono ?_); (case side1 => repeat (first | exact (Kd.C_below HR2.out HB.out) | (with_reducible refine Kd.C_alloc ?_ _) | (with_reducible refine Kd.C_drewN ?_ _) | (with_reducible refine Kd.C_drew ?_))); (case side2 => exact HC2.out); rintro e w246 ⟨rfl, hb⟩; refine ⟨_, rfl, ?_⟩; replace BK806 := bkb_ BK806 hb; replace BK807 := bkb_ BK807 hb; replace BK812 := bkb_ BK812 hb; replace BK816 := bkb_ BK816 hb; replace HB := bws_ HB hb; (try clear hb); (try clear hb2); (try clear hk); (try clear hi); have hnb247 := NB812_806.out; have hnc247 := NB806_812.out; have hnb248 := NB812_807.out; have hnc248 := NB807_812.out; have hnb249 := NB812_816.out; have hnc249 := NB816_812.out; obtain ⟨hcz250_0, hcz250_1, hfz250_0, hfz250_1⟩ := bc2_ BK812) | ((with_reducible refine gate_callee (f := 57) rfl ?_); refine gla_ (some 108) Try.func57 #[.slice A2 l2.length c2] ?_; (with_reducible refine (withyref01_Sum.calls kj93 _ _ l2 t838 t839 t840 _ ?side1 ?side2 A119.out).mono ?_); (case side1 => exact Kd.C_below HR2.out (bw_ HB)); (case side2 => exact HC2.out); rintro e w251 ⟨rfl, hb⟩; refine ⟨_, rfl, ?_⟩; replace BK806 := Aside0.mk (blk_below (g := gb806) (o := .cells #[.int .i64 a0_0, .int .i64 a0_1] 23 (0, 0)) (by refine bf_ ?_ NB806_812; refine bf_ ?_ NB806_812; exact bk_ BK806) hb); replace BK807 := Aside0.mk (blk_below (g := gb807) (o := .cells #[.int .i64 a1_0, .int .i64 a1_1] 23 (0, 0)) (by refine bf_ ?_ NB807_812; refine bf_ ?_ NB807_812; exact bk_ BK807) hb); replace BK812 := Aside0.mk (blk_below (g := gb812) (o := .cells #[.int .i64 t835, .int .i64 t836] 23 (0, 0)) (by refine bp_ (cs := #[.int .i64 t835, .int .i64 t830]) ?_ 1; refine bp_ (cs := #[.int .i64 t829, .int .i64 t830]) ?_ 0; exact bk_ BK812) hb); replace BK816 := Aside0.mk (blk_below (g := gb816) (o := .cells #[.int .i64 t832, .int .i64 t833] 23 (0, 0)) (by refine bf_ ?_ NB816_812; refine bf_ ?_ NB816_812; exact bk_ BK816) hb); replace HB := bws_ HB hb; (try clear hb); (try clear hb2); (try clear hk); (try clear hi); have hnb252 := NB816_806.out; have hnc252 := NB806_816.out; have hnb253 := NB816_807.out; have hnc253 := NB807_816.out; obtain ⟨hcz254_0, hcz254_1, hfz254_0, hfz254_1⟩ := bc2_ BK816; have hnb255 := NB806_807.out; have hnc255 := NB807_806.out; obtain ⟨hcz256_0, hcz256_1, hfz256_0, hfz256_1⟩ := bc2_ BK806) | ((with_reducible refine gate_callee (f := 44) rfl ?_); refine gla_ (some 114) Try.func44 #[.agg #[.int .i64 a0_0, .int .i64 a0_1], .int .i64 a3] ?_; (with_reducible refine (num_Pow.calls kj93 a0_0 a0_1 a3 t841 t842 t843 _ A120.out).mono ?_); rintro e w257 ⟨rfl, hb⟩; refine ⟨_, rfl, ?_⟩; replace BK806 := Aside0.mk (blk_below (g := gb806) (o := .cells #[.int .i64 a0_0, .int .i64 a0_1] 23 (0, 0)) (by refine bf_ ?_ NB806_816; refine bf_ ?_ NB806_816; exact bk_ BK806) hb); replace BK807 := Aside0.mk (blk_below (g := gb807) (o := .cells #[.int .i64 a1_0, .int .i64 a1_1] 23 (0, 0)) (by refine bf_ ?_ NB807_816; refine bf_ ?_ NB807_816; exact bk_ BK807) hb); replace BK812 := Aside0.mk (blk_below (g := gb812) (o := .cells #[.int .i64 t835, .int .i64 t836] 23 (0, 0)) (by refine bf_ ?_ NB812_816; refine bf_ ?_ NB812_816; exact bk_ BK812) hb); replace BK816 := Aside0.mk (blk_below (g := gb816) (o := .cells #[.int .i64 t838, .int .i64 t839] 23 (0, 0)) (by refine bp_ (cs := #[.int .i64 t838, .int .i64 t833]) ?_ 1; refine bp_ (cs := #[.int .i64 t832, .int .i64 t833]) ?_ 0; exact bk_ BK816) hb); replace HB := bws_ HB hb; (try clear hb); (try clear hb2); (try clear hk); (try clear hi)) | ((with_reducible refine gate_dst (N := 13) rfl ?_); refine box_event ?hg (N := 13) ?hd (cs := #[.int .i64 0, .int .i64 0]) (t := 23) ?hr ?_; (case hd => rfl); (case hg => rfl); (case hr => first | (go_simp; done) | (go_simp; rfl)); intro gb844 hg w258 hbox hb; have BK844 := Aside0.mk hbox; have GW844 := bwg_ HB hg; have GE844 := bwg_ HB hg; replace HB := bws_ HB hb; have NB806_844 := bkl_ BK806 hg; have NB844_806 := bkr_ BK806 hg; replace BK806 := bkb_ BK806 hb; have NB807_844 := bkl_ BK807 hg; have NB844_807 := bkr_ BK807 hg; replace BK807 := bkb_ BK807 hb; have NB812_844 := bkl_ BK812 hg; have NB844_812 := bkr_ BK812 hg; replace BK812 := bkb_ BK812 hb; have NB816_844 := bkl_ BK816 hg; have NB844_816 := bkr_ BK816 hg; replace BK816 := bkb_ BK816 hb; clear hb hbox hg; have hnb259 := NB844_806.out; have hnc259 := NB806_844.out; have hnb260 := NB844_807.out; have hnc260 := NB807_844.out; have hnb261 := NB844_812.out; have hnc261 := NB812_844.out; have hnb262 := NB844_816.out; have hnc262 := NB816_844.out; obtain ⟨hcz263_0, hcz263_1, hfz263_0, hfz263_1⟩ := bc2_ BK844; obtain ⟨hcz264_0, hcz264_1, hfz264_0, hfz264_1⟩ := bc2_ BK806) | ((with_reducible refine gate_callee (f := 58) rfl ?_); refine gla_ (some 120) Try.func58 #[.agg #[.int .i64 a0_0, .int .i64 a0_1], .int .i64 a3] ?_; (with_reducible refine (withyref01_Pow.calls kj93 a0_0 a0_1 a3 t845 t846 t847 _ A121.out).mono ?_); rintro e w265 ⟨rfl, hb⟩; refine ⟨_, rfl, ?_⟩; replace BK806 := Aside0.mk (blk_below (g := gb806) (o := .cells #[.int .i64 a0_0, .int .i64 a0_1] 23 (0, 0)) (by refine bf_ ?_ NB806_844; refine bf_ ?_ NB806_844; exact bk_ BK806) hb); replace BK807 := Aside0.mk (blk_below (g := gb807) (o := .cells #[.int .i64 a1_0, .int .i64 a1_1] 23 (0, 0)) (by refine bf_ ?_ NB807_844; refine bf_ ?_ NB807_844; exact bk_ BK807) hb); replace BK812 := Aside0.mk (blk_below (g := gb812) (o := .cells #[.int .i64 t835, .int .i64 t836] 23 (0, 0)) (by refine bf_ ?_ NB812_844; refine bf_ ?_ NB812_844; exact bk_ BK812) hb); replace BK816 := Aside0.mk (blk_below (g := gb816) (o := .cells #[.int .i64 t838, .int .i64 t839] 23 (0, 0)) (by refine bf_ ?_ NB816_844; refine bf_ ?_ NB816_844; exact bk_ BK816) hb); replace BK844 := Aside0.mk (blk_below (g := gb844) (o := .cells #[.int .i64 t841, .int .i64 t842] 23 (0, 0)) (by refine bp_ (cs := #[.int .i64 t841, .int .i64 0]) ?_ 1; refine bp_ (cs := #[.int .i64 0, .int .i64 0]) ?_ 0; exact bk_ BK844) hb); replace HB := bws_ HB hb; (try clear hb); (try clear hb2); (try clear hk); (try clear hi)) | ((with_reducible refine gate_dst (N := 15) rfl ?_); refine box_event ?hg (N := 15) ?hd (cs := #[.int .i64 0, .int .i64 0]) (t := 23) ?hr ?_; (case hd => rfl); (case hg => rfl); (case hr => first | (go_simp; done) | (go_simp; rfl)); intro gb848 hg w266 hbox hb; have BK848 := Aside0.mk hbox; have GW848 := bwg_ HB hg; have GE848 := bwg_ HB hg; replace HB := bws_ HB hb; have NB806_848 := bkl_ BK806 hg; have NB848_806 := bkr_ BK806 hg; replace BK806 := bkb_ BK806 hb; have NB807_848 := bkl_ BK807 hg; have NB848_807 := bkr_ BK807 hg; replace BK807 := bkb_ BK807 hb; have NB812_848 := bkl_ BK812 hg; have NB848_812 := bkr_ BK812 hg; replace BK812 := bkb_ BK812 hb; have NB816_848 := bkl_ BK816 hg; have NB848_816 := bkr_ BK816 hg; replace BK816 := bkb_ BK816 hb; have NB844_848 := bkl_ BK844 hg; have NB848_844 := bkr_ BK844 hg; replace BK844 := bkb_ BK844 hb; clear hb hbox hg; have hnb267 := NB848_806.out; have hnc267 := NB806_848.out; have hnb268 := NB848_807.out; have hnc268 := NB807_848.out; have hnb269 := NB848_812.out; have hnc269 := NB812_848.out; have hnb270 := NB848_816.out; have hnc270 := NB816_848.out; have hnb271 := NB848_844.out; have hnc271 := NB844_848.out; obtain ⟨hcz272_0, hcz272_1, hfz272_0, hfz272_1⟩ := bc2_ BK848))
                                        go_ret
                                        exact ⟨by first | rfl | (simp [*] <;> rfl), bw_ HB⟩
end Go.Proofs.Ytakcdoahpbeckaa.H
