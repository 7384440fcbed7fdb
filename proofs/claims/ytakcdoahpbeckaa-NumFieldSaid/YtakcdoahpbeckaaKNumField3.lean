/- NumField: the printed functions it reaches, with their walks. Laid by wip/claimpack.py out of what wip/hprint.py printed. -/
import Derived.Test.YtakcdoahpbeckaaKNumField2
namespace Go.Proofs.Ytakcdoahpbeckaa.H
open Go.RowKit Go.Proofs.YtakcdoahpbeckaaW.PrintWords Go.Proofs.YtakcdoahpbeckaaW.PrintLast Go.Proofs.YtakcdoahpbeckaaW.PrintMore
attribute [local go_sem] max2_int min2_int max_two min_two max_three min_three max_four min_four   -- for this text's walks alone
set_option linter.unusedVariables false
set_option linter.unusedSimpArgs false

attribute [local go_sem high] eqA23
/-! ### withylaw01_summed: function 17 -/
def withylaw01_summed.f (k : Nat)  : Option (Bool) := (num_Add.f k 1 2 1 3).bind fun bt240 => ((num_Simplest.f k 1 3 1 2).bind fun bt244 => ((num_Decimal.f k (-1) 8 2).bind fun bt248 => ((num_Parse.f k (⟨#[49, 46, 50, 53]⟩ : ByteArray)).bind fun bt250 => (if bt240.2.2 = 0 then (if bt244.2.2 = 0 then (if bt248.2 = 0 then (if bt250.2.2 = 0 then (if (bt240.1 == 5 && (bt240.2.1 == 6)) = true then (if (bt244.1 == 2 && (bt244.2.1 == 5)) = true then (if bt248.1.toList = ([45, 48, 46, 49, 50] : List UInt8) then (some (bt250.1 == 5 && (bt250.2.1 == 4))) else (some false)) else (some false)) else (some false)) else (some false)) else (some false)) else (some false)) else (some false)))))
theorem withylaw01_summed.mono : ∀ k, LeO (withylaw01_summed.f k ) (withylaw01_summed.f (k + 1) ) := by
  intro  k
  unfold withylaw01_summed.f
  repeat' first
      | (with_reducible exact num_Add.mono _ _ _ _ _)
      | (with_reducible exact num_Decimal.mono _ _ _ _)
      | (with_reducible exact num_Parse.mono _ _)
      | (with_reducible exact num_Simplest.mono _ _ _ _ _)
      | (with_reducible exact LeO.refl _)
      | (with_reducible exact LeO.none _)
      | (with_reducible refine LeO.ite ?_ ?_)
      | (with_reducible refine LeO.bind ?_ (fun _ => ?_))
      | (with_reducible refine LeO.exc (fun _ => ?_) (fun _ => ?_))
      | exact num_Add.mono _ _ _ _ _
      | exact num_Decimal.mono _ _ _ _
      | exact num_Parse.mono _ _
      | exact num_Simplest.mono _ _ _ _ _
      | exact LeO.none _
      | refine LeO.ite ?_ ?_
      | refine LeO.bind ?_ (fun _ => ?_)
set_option maxHeartbeats 8000000 in
set_option maxRecDepth 100000 in
theorem withylaw01_summed.calls (k : Nat)  (r : Bool) (w : World) (h : withylaw01_summed.f k  = some r) :
    Calls Try.prog 17 #[] w fun e w' => e = .returned (.bool r) ∧ Below w.heap.size w w' := by
  have hu23 := Try.underlying23
  have HB := Aside0.mk (Below.refl w.heap.size w)
  have H : ((num_Add.f k 1 2 1 3).bind fun bt240 => ((num_Simplest.f k 1 3 1 2).bind fun bt244 => ((num_Decimal.f k (-1) 8 2).bind fun bt248 => ((num_Parse.f k (⟨#[49, 46, 50, 53]⟩ : ByteArray)).bind fun bt250 => (if bt240.2.2 = 0 then (if bt244.2.2 = 0 then (if bt248.2 = 0 then (if bt250.2.2 = 0 then (if (bt240.1 == 5 && (bt240.2.1 == 6)) = true then (if (bt244.1 == 2 && (bt244.2.1 == 5)) = true then (if bt248.1.toList = ([45, 48, 46, 49, 50] : List UInt8) then (some (bt250.1 == 5 && (bt250.2.1 == 4))) else (some false)) else (some false)) else (some false)) else (some false)) else (some false)) else (some false)) else (some false)))))) = some r := h
  clear h
  replace H := Option.bind_eq_some_iff.mp H
  obtain ⟨⟨t240, t241, t242⟩, A10, H⟩ := H
  replace H : ((num_Simplest.f k 1 3 1 2).bind fun bt244 => ((num_Decimal.f k (-1) 8 2).bind fun bt248 => ((num_Parse.f k (⟨#[49, 46, 50, 53]⟩ : ByteArray)).bind fun bt250 => (if t242 = 0 then (if bt244.2.2 = 0 then (if bt248.2 = 0 then (if bt250.2.2 = 0 then (if (t240 == 5 && (t241 == 6)) = true then (if (bt244.1 == 2 && (bt244.2.1 == 5)) = true then (if bt248.1.toList = ([45, 48, 46, 49, 50] : List UInt8) then (some (bt250.1 == 5 && (bt250.2.1 == 4))) else (some false)) else (some false)) else (some false)) else (some false)) else (some false)) else (some false)) else (some false))))) = some r := H
  have A1 := Aside0.mk A10
  clear A10
  replace H := Option.bind_eq_some_iff.mp H
  obtain ⟨⟨t244, t245, t246⟩, A20, H⟩ := H
  replace H : ((num_Decimal.f k (-1) 8 2).bind fun bt248 => ((num_Parse.f k (⟨#[49, 46, 50, 53]⟩ : ByteArray)).bind fun bt250 => (if t242 = 0 then (if t246 = 0 then (if bt248.2 = 0 then (if bt250.2.2 = 0 then (if (t240 == 5 && (t241 == 6)) = true then (if (t244 == 2 && (t245 == 5)) = true then (if bt248.1.toList = ([45, 48, 46, 49, 50] : List UInt8) then (some (bt250.1 == 5 && (bt250.2.1 == 4))) else (some false)) else (some false)) else (some false)) else (some false)) else (some false)) else (some false)) else (some false)))) = some r := H
  have A2 := Aside0.mk A20
  clear A20
  replace H := Option.bind_eq_some_iff.mp H
  obtain ⟨⟨t248, t249⟩, A30, H⟩ := H
  replace H : ((num_Parse.f k (⟨#[49, 46, 50, 53]⟩ : ByteArray)).bind fun bt250 => (if t242 = 0 then (if t246 = 0 then (if t249 = 0 then (if bt250.2.2 = 0 then (if (t240 == 5 && (t241 == 6)) = true then (if (t244 == 2 && (t245 == 5)) = true then (if t248.toList = ([45, 48, 46, 49, 50] : List UInt8) then (some (bt250.1 == 5 && (bt250.2.1 == 4))) else (some false)) else (some false)) else (some false)) else (some false)) else (some false)) else (some false)) else (some false))) = some r := H
  have A3 := Aside0.mk A30
  clear A30
  replace H := Option.bind_eq_some_iff.mp H
  obtain ⟨⟨t250, t251, t252⟩, A40, H⟩ := H
  replace H : (if t242 = 0 then (if t246 = 0 then (if t249 = 0 then (if t252 = 0 then (if (t240 == 5 && (t241 == 6)) = true then (if (t244 == 2 && (t245 == 5)) = true then (if t248.toList = ([45, 48, 46, 49, 50] : List UInt8) then (some (t250 == 5 && (t251 == 4))) else (some false)) else (some false)) else (some false)) else (some false)) else (some false)) else (some false)) else (some false)) = some r := H
  have A4 := Aside0.mk A40
  clear A40
  by_cases c5 : t242 = 0
  · rw [if_pos c5] at H
    have c5b0 : (t242 == 0) = true := beq_iff_eq.mpr c5
    have c5b1 : (t242 != 0) = false := bne_eq_false_iff_eq.mpr c5
    clear c5
    by_cases c6 : t246 = 0
    · rw [if_pos c6] at H
      have c6b0 : (t246 == 0) = true := beq_iff_eq.mpr c6
      have c6b1 : (t246 != 0) = false := bne_eq_false_iff_eq.mpr c6
      clear c6
      by_cases c7 : t249 = 0
      · rw [if_pos c7] at H
        have c7b0 : (t249 == 0) = true := beq_iff_eq.mpr c7
        have c7b1 : (t249 != 0) = false := bne_eq_false_iff_eq.mpr c7
        clear c7
        by_cases c8 : t252 = 0
        · rw [if_pos c8] at H
          have c8b0 : (t252 == 0) = true := beq_iff_eq.mpr c8
          have c8b1 : (t252 != 0) = false := bne_eq_false_iff_eq.mpr c8
          clear c8
          by_cases c9 : (t240 == 5 && (t241 == 6)) = true
          · rw [if_pos c9] at H
            have c9b0 : (t240 == 5 && (t241 == 6)) = true := c9
            (try (have c9b1 : decide (t240 = 5 && (t241 == 6)) = true := by simpa using c9))
            (try (have c9b2 : (t240 == 5 && (t241 == 6)) = true := by simpa using c9))
            clear c9
            by_cases c10 : (t244 == 2 && (t245 == 5)) = true
            · rw [if_pos c10] at H
              have c10b0 : (t244 == 2 && (t245 == 5)) = true := c10
              (try (have c10b1 : decide (t244 = 2 && (t245 == 5)) = true := by simpa using c10))
              (try (have c10b2 : (t244 == 2 && (t245 == 5)) = true := by simpa using c10))
              clear c10
              by_cases c11 : t248.toList = ([45, 48, 46, 49, 50] : List UInt8)
              · rw [if_pos c11] at H
                have c11b0 : (t248.toList == ([45, 48, 46, 49, 50] : List UInt8)) = true := beq_iff_eq.mpr c11
                have c11b1 : (t248.toList != ([45, 48, 46, 49, 50] : List UInt8)) = false := bne_eq_false_iff_eq.mpr c11
                clear c11
                obtain rfl := Option.some.inj H
                go_enter Try.func17, Try.ntmps17
                go_wp2_with (first | ((with_reducible refine gate_callee (f := 18) rfl ?_); refine gla_ (some 12) Try.func18 #[.agg #[.int .i64 1, .int .i64 2], .agg #[.int .i64 1, .int .i64 3]] ?_; (with_reducible refine (num_Add.calls k 1 2 1 3 t240 t241 t242 _ A1.out).mono ?_); rintro e w12 ⟨rfl, hb⟩; refine ⟨_, rfl, ?_⟩; replace HB := bws_ HB hb; (try clear hb); (try clear hb2); (try clear hk); (try clear hi)) | ((with_reducible refine gate_dst (N := 1) rfl ?_); refine box_event ?hg (N := 1) ?hd (cs := #[.int .i64 0, .int .i64 0]) (t := 23) ?hr ?_; (case hd => rfl); (case hg => rfl); (case hr => first | (go_simp; done) | (go_simp; rfl)); intro gb243 hg w13 hbox hb; have BK243 := Aside0.mk hbox; have GW243 := bwg_ HB hg; have GE243 := bwg_ HB hg; replace HB := bws_ HB hb; clear hb hbox hg; obtain ⟨hcz14_0, hcz14_1, hfz14_0, hfz14_1⟩ := bc2_ BK243) | ((with_reducible refine gate_callee (f := 25) rfl ?_); refine gla_ (some 18) Try.func25 #[.agg #[.int .i64 1, .int .i64 3], .agg #[.int .i64 1, .int .i64 2]] ?_; (with_reducible refine (num_Simplest.calls k 1 3 1 2 t244 t245 t246 _ A2.out).mono ?_); rintro e w15 ⟨rfl, hb⟩; refine ⟨_, rfl, ?_⟩; replace BK243 := Aside0.mk (blk_below (g := gb243) (o := .cells #[.int .i64 t240, .int .i64 t241] 23 (0, 0)) (by refine bp_ (cs := #[.int .i64 t240, .int .i64 0]) ?_ 1; refine bp_ (cs := #[.int .i64 0, .int .i64 0]) ?_ 0; exact bk_ BK243) hb); replace HB := bws_ HB hb; (try clear hb); (try clear hb2); (try clear hk); (try clear hi)) | ((with_reducible refine gate_dst (N := 3) rfl ?_); refine box_event ?hg (N := 3) ?hd (cs := #[.int .i64 0, .int .i64 0]) (t := 23) ?hr ?_; (case hd => rfl); (case hg => rfl); (case hr => first | (go_simp; done) | (go_simp; rfl)); intro gb247 hg w16 hbox hb; have BK247 := Aside0.mk hbox; have GW247 := bwg_ HB hg; have GE247 := bwg_ HB hg; replace HB := bws_ HB hb; have NB243_247 := bkl_ BK243 hg; have NB247_243 := bkr_ BK243 hg; replace BK243 := bkb_ BK243 hb; clear hb hbox hg; have hnb17 := NB247_243.out; have hnc17 := NB243_247.out; obtain ⟨hcz18_0, hcz18_1, hfz18_0, hfz18_1⟩ := bc2_ BK247) | ((with_reducible refine gate_callee (f := 35) rfl ?_); refine gla_ (some 23) Try.func35 #[.agg #[.int .i64 (-1), .int .i64 8], .int .i64 2] ?_; (with_reducible refine (num_Decimal.calls k (-1) 8 2 t248 t249 _ A3.out).mono ?_); rintro e w19 ⟨rfl, hb⟩; refine ⟨_, rfl, ?_⟩; replace BK243 := Aside0.mk (blk_below (g := gb243) (o := .cells #[.int .i64 t240, .int .i64 t241] 23 (0, 0)) (by refine bf_ ?_ NB243_247; refine bf_ ?_ NB243_247; exact bk_ BK243) hb); replace BK247 := Aside0.mk (blk_below (g := gb247) (o := .cells #[.int .i64 t244, .int .i64 t245] 23 (0, 0)) (by refine bp_ (cs := #[.int .i64 t244, .int .i64 0]) ?_ 1; refine bp_ (cs := #[.int .i64 0, .int .i64 0]) ?_ 0; exact bk_ BK247) hb); replace HB := bws_ HB hb; (try clear hb); (try clear hb2); (try clear hk); (try clear hi)) | ((with_reducible refine gate_callee (f := 39) rfl ?_); refine gla_ (some 27) Try.func39 #[.string (⟨#[49, 46, 50, 53]⟩ : ByteArray)] ?_; (with_reducible refine (num_Parse.calls k (⟨#[49, 46, 50, 53]⟩ : ByteArray) t250 t251 t252 _ A4.out).mono ?_); rintro e w20 ⟨rfl, hb⟩; refine ⟨_, rfl, ?_⟩; replace BK243 := bkb_ BK243 hb; replace BK247 := bkb_ BK247 hb; replace HB := bws_ HB hb; (try clear hb); (try clear hb2); (try clear hk); (try clear hi)) | ((with_reducible refine gate_dst (N := 7) rfl ?_); refine box_event ?hg (N := 7) ?hd (cs := #[.int .i64 0, .int .i64 0]) (t := 23) ?hr ?_; (case hd => rfl); (case hg => rfl); (case hr => first | (go_simp; done) | (go_simp; rfl)); intro gb253 hg w21 hbox hb; have BK253 := Aside0.mk hbox; have GW253 := bwg_ HB hg; have GE253 := bwg_ HB hg; replace HB := bws_ HB hb; have NB243_253 := bkl_ BK243 hg; have NB253_243 := bkr_ BK243 hg; replace BK243 := bkb_ BK243 hb; have NB247_253 := bkl_ BK247 hg; have NB253_247 := bkr_ BK247 hg; replace BK247 := bkb_ BK247 hb; clear hb hbox hg; have hnb22 := NB253_243.out; have hnc22 := NB243_253.out; have hnb23 := NB253_247.out; have hnc23 := NB247_253.out; obtain ⟨hcz24_0, hcz24_1, hfz24_0, hfz24_1⟩ := bc2_ BK253; obtain ⟨hcz25_0, hcz25_1, hfz25_0, hfz25_1⟩ := bc2_ BK243; obtain ⟨hcz26_0, hcz26_1, hfz26_0, hfz26_1⟩ := bc2_ BK247))
                go_ret
                exact ⟨by first | rfl | (simp [*] <;> rfl), bw_ HB⟩
              · rw [if_neg c11] at H
                have c11b0 : (t248.toList == ([45, 48, 46, 49, 50] : List UInt8)) = false := beq_eq_false_iff_ne.mpr c11
                have c11b1 : (t248.toList != ([45, 48, 46, 49, 50] : List UInt8)) = true := bne_iff_ne.mpr c11
                obtain rfl := Option.some.inj H
                go_enter Try.func17, Try.ntmps17
                go_wp2_with (first | ((with_reducible refine gate_callee (f := 18) rfl ?_); refine gla_ (some 12) Try.func18 #[.agg #[.int .i64 1, .int .i64 2], .agg #[.int .i64 1, .int .i64 3]] ?_; (with_reducible refine (num_Add.calls k 1 2 1 3 t240 t241 t242 _ A1.out).mono ?_); rintro e w27 ⟨rfl, hb⟩; refine ⟨_, rfl, ?_⟩; replace HB := bws_ HB hb; (try clear hb); (try clear hb2); (try clear hk); (try clear hi)) | ((with_reducible refine gate_dst (N := 1) rfl ?_); refine box_event ?hg (N := 1) ?hd (cs := #[.int .i64 0, .int .i64 0]) (t := 23) ?hr ?_; (case hd => rfl); (case hg => rfl); (case hr => first | (go_simp; done) | (go_simp; rfl)); intro gb243 hg w28 hbox hb; have BK243 := Aside0.mk hbox; have GW243 := bwg_ HB hg; have GE243 := bwg_ HB hg; replace HB := bws_ HB hb; clear hb hbox hg; obtain ⟨hcz29_0, hcz29_1, hfz29_0, hfz29_1⟩ := bc2_ BK243) | ((with_reducible refine gate_callee (f := 25) rfl ?_); refine gla_ (some 18) Try.func25 #[.agg #[.int .i64 1, .int .i64 3], .agg #[.int .i64 1, .int .i64 2]] ?_; (with_reducible refine (num_Simplest.calls k 1 3 1 2 t244 t245 t246 _ A2.out).mono ?_); rintro e w30 ⟨rfl, hb⟩; refine ⟨_, rfl, ?_⟩; replace BK243 := Aside0.mk (blk_below (g := gb243) (o := .cells #[.int .i64 t240, .int .i64 t241] 23 (0, 0)) (by refine bp_ (cs := #[.int .i64 t240, .int .i64 0]) ?_ 1; refine bp_ (cs := #[.int .i64 0, .int .i64 0]) ?_ 0; exact bk_ BK243) hb); replace HB := bws_ HB hb; (try clear hb); (try clear hb2); (try clear hk); (try clear hi)) | ((with_reducible refine gate_dst (N := 3) rfl ?_); refine box_event ?hg (N := 3) ?hd (cs := #[.int .i64 0, .int .i64 0]) (t := 23) ?hr ?_; (case hd => rfl); (case hg => rfl); (case hr => first | (go_simp; done) | (go_simp; rfl)); intro gb247 hg w31 hbox hb; have BK247 := Aside0.mk hbox; have GW247 := bwg_ HB hg; have GE247 := bwg_ HB hg; replace HB := bws_ HB hb; have NB243_247 := bkl_ BK243 hg; have NB247_243 := bkr_ BK243 hg; replace BK243 := bkb_ BK243 hb; clear hb hbox hg; have hnb32 := NB247_243.out; have hnc32 := NB243_247.out; obtain ⟨hcz33_0, hcz33_1, hfz33_0, hfz33_1⟩ := bc2_ BK247) | ((with_reducible refine gate_callee (f := 35) rfl ?_); refine gla_ (some 23) Try.func35 #[.agg #[.int .i64 (-1), .int .i64 8], .int .i64 2] ?_; (with_reducible refine (num_Decimal.calls k (-1) 8 2 t248 t249 _ A3.out).mono ?_); rintro e w34 ⟨rfl, hb⟩; refine ⟨_, rfl, ?_⟩; replace BK243 := Aside0.mk (blk_below (g := gb243) (o := .cells #[.int .i64 t240, .int .i64 t241] 23 (0, 0)) (by refine bf_ ?_ NB243_247; refine bf_ ?_ NB243_247; exact bk_ BK243) hb); replace BK247 := Aside0.mk (blk_below (g := gb247) (o := .cells #[.int .i64 t244, .int .i64 t245] 23 (0, 0)) (by refine bp_ (cs := #[.int .i64 t244, .int .i64 0]) ?_ 1; refine bp_ (cs := #[.int .i64 0, .int .i64 0]) ?_ 0; exact bk_ BK247) hb); replace HB := bws_ HB hb; (try clear hb); (try clear hb2); (try clear hk); (try clear hi)) | ((with_reducible refine gate_callee (f := 39) rfl ?_); refine gla_ (some 27) Try.func39 #[.string (⟨#[49, 46, 50, 53]⟩ : ByteArray)] ?_; (with_reducible refine (num_Parse.calls k (⟨#[49, 46, 50, 53]⟩ : ByteArray) t250 t251 t252 _ A4.out).mono ?_); rintro e w35 ⟨rfl, hb⟩; refine ⟨_, rfl, ?_⟩; replace BK243 := bkb_ BK243 hb; replace BK247 := bkb_ BK247 hb; replace HB := bws_ HB hb; (try clear hb); (try clear hb2); (try clear hk); (try clear hi)) | ((with_reducible refine gate_dst (N := 7) rfl ?_); refine box_event ?hg (N := 7) ?hd (cs := #[.int .i64 0, .int .i64 0]) (t := 23) ?hr ?_; (case hd => rfl); (case hg => rfl); (case hr => first | (go_simp; done) | (go_simp; rfl)); intro gb253 hg w36 hbox hb; have BK253 := Aside0.mk hbox; have GW253 := bwg_ HB hg; have GE253 := bwg_ HB hg; replace HB := bws_ HB hb; have NB243_253 := bkl_ BK243 hg; have NB253_243 := bkr_ BK243 hg; replace BK243 := bkb_ BK243 hb; have NB247_253 := bkl_ BK247 hg; have NB253_247 := bkr_ BK247 hg; replace BK247 := bkb_ BK247 hb; clear hb hbox hg; have hnb37 := NB253_243.out; have hnc37 := NB243_253.out; have hnb38 := NB253_247.out; have hnc38 := NB247_253.out; obtain ⟨hcz39_0, hcz39_1, hfz39_0, hfz39_1⟩ := bc2_ BK253; obtain ⟨hcz40_0, hcz40_1, hfz40_0, hfz40_1⟩ := bc2_ BK243; obtain ⟨hcz41_0, hcz41_1, hfz41_0, hfz41_1⟩ := bc2_ BK247))
                go_ret
                exact ⟨by first | rfl | (simp [*] <;> rfl), bw_ HB⟩
            · rw [if_neg c10] at H
              have c10b0 : (t244 == 2 && (t245 == 5)) = false := by simpa using c10
              (try (have c10b1 : decide (t244 = 2 && (t245 == 5)) = false := by simpa using c10))
              (try (have c10b2 : (t244 == 2 && (t245 == 5)) = false := by simpa using c10))
              (try (have c10b3 : ¬ (t244 = 2 && (t245 == 5)) := by simpa using c10))
              clear c10
              obtain rfl := Option.some.inj H
              go_enter Try.func17, Try.ntmps17
              go_wp2_with (first | ((with_reducible refine gate_callee (f := 18) rfl ?_); refine gla_ (some 12) Try.func18 #[.agg #[.int .i64 1, .int .i64 2], .agg #[.int .i64 1, .int .i64 3]] ?_; (with_reducible refine (num_Add.calls k 1 2 1 3 t240 t241 t242 _ A1.out).mono ?_); rintro e w42 ⟨rfl, hb⟩; refine ⟨_, rfl, ?_⟩; replace HB := bws_ HB hb; (try clear hb); (try clear hb2); (try clear hk); (try clear hi)) | ((with_reducible refine gate_dst (N := 1) rfl ?_); refine box_event ?hg (N := 1) ?hd (cs := #[.int .i64 0, .int .i64 0]) (t := 23) ?hr ?_; (case hd => rfl); (case hg => rfl); (case hr => first | (go_simp; done) | (go_simp; rfl)); intro gb243 hg w43 hbox hb; have BK243 := Aside0.mk hbox; have GW243 := bwg_ HB hg; have GE243 := bwg_ HB hg; replace HB := bws_ HB hb; clear hb hbox hg; obtain ⟨hcz44_0, hcz44_1, hfz44_0, hfz44_1⟩ := bc2_ BK243) | ((with_reducible refine gate_callee (f := 25) rfl ?_); refine gla_ (some 18) Try.func25 #[.agg #[.int .i64 1, .int .i64 3], .agg #[.int .i64 1, .int .i64 2]] ?_; (with_reducible refine (num_Simplest.calls k 1 3 1 2 t244 t245 t246 _ A2.out).mono ?_); rintro e w45 ⟨rfl, hb⟩; refine ⟨_, rfl, ?_⟩; replace BK243 := Aside0.mk (blk_below (g := gb243) (o := .cells #[.int .i64 t240, .int .i64 t241] 23 (0, 0)) (by refine bp_ (cs := #[.int .i64 t240, .int .i64 0]) ?_ 1; refine bp_ (cs := #[.int .i64 0, .int .i64 0]) ?_ 0; exact bk_ BK243) hb); replace HB := bws_ HB hb; (try clear hb); (try clear hb2); (try clear hk); (try clear hi)) | ((with_reducible refine gate_dst (N := 3) rfl ?_); refine box_event ?hg (N := 3) ?hd (cs := #[.int .i64 0, .int .i64 0]) (t := 23) ?hr ?_; (case hd => rfl); (case hg => rfl); (case hr => first | (go_simp; done) | (go_simp; rfl)); intro gb247 hg w46 hbox hb; have BK247 := Aside0.mk hbox; have GW247 := bwg_ HB hg; have GE247 := bwg_ HB hg; replace HB := bws_ HB hb; have NB243_247 := bkl_ BK243 hg; have NB247_243 := bkr_ BK243 hg; replace BK243 := bkb_ BK243 hb; clear hb hbox hg; have hnb47 := NB247_243.out; have hnc47 := NB243_247.out; obtain ⟨hcz48_0, hcz48_1, hfz48_0, hfz48_1⟩ := bc2_ BK247) | ((with_reducible refine gate_callee (f := 35) rfl ?_); refine gla_ (some 23) Try.func35 #[.agg #[.int .i64 (-1), .int .i64 8], .int .i64 2] ?_; (with_reducible refine (num_Decimal.calls k (-1) 8 2 t248 t249 _ A3.out).mono ?_); rintro e w49 ⟨rfl, hb⟩; refine ⟨_, rfl, ?_⟩; replace BK243 := Aside0.mk (blk_below (g := gb243) (o := .cells #[.int .i64 t240, .int .i64 t241] 23 (0, 0)) (by refine bf_ ?_ NB243_247; refine bf_ ?_ NB243_247; exact bk_ BK243) hb); replace BK247 := Aside0.mk (blk_below (g := gb247) (o := .cells #[.int .i64 t244, .int .i64 t245] 23 (0, 0)) (by refine bp_ (cs := #[.int .i64 t244, .int .i64 0]) ?_ 1; refine bp_ (cs := #[.int .i64 0, .int .i64 0]) ?_ 0; exact bk_ BK247) hb); replace HB := bws_ HB hb; (try clear hb); (try clear hb2); (try clear hk); (try clear hi)) | ((with_reducible refine gate_callee (f := 39) rfl ?_); refine gla_ (some 27) Try.func39 #[.string (⟨#[49, 46, 50, 53]⟩ : ByteArray)] ?_; (with_reducible refine (num_Parse.calls k (⟨#[49, 46, 50, 53]⟩ : ByteArray) t250 t251 t252 _ A4.out).mono ?_); rintro e w50 ⟨rfl, hb⟩; refine ⟨_, rfl, ?_⟩; replace BK243 := bkb_ BK243 hb; replace BK247 := bkb_ BK247 hb; replace HB := bws_ HB hb; (try clear hb); (try clear hb2); (try clear hk); (try clear hi)) | ((with_reducible refine gate_dst (N := 7) rfl ?_); refine box_event ?hg (N := 7) ?hd (cs := #[.int .i64 0, .int .i64 0]) (t := 23) ?hr ?_; (case hd => rfl); (case hg => rfl); (case hr => first | (go_simp; done) | (go_simp; rfl)); intro gb253 hg w51 hbox hb; have BK253 := Aside0.mk hbox; have GW253 := bwg_ HB hg; have GE253 := bwg_ HB hg; replace HB := bws_ HB hb; have NB243_253 := bkl_ BK243 hg; have NB253_243 := bkr_ BK243 hg; replace BK243 := bkb_ BK243 hb; have NB247_253 := bkl_ BK247 hg; have NB253_247 := bkr_ BK247 hg; replace BK247 := bkb_ BK247 hb; clear hb hbox hg; have hnb52 := NB253_243.out; have hnc52 := NB243_253.out; have hnb53 := NB253_247.out; have hnc53 := NB247_253.out; obtain ⟨hcz54_0, hcz54_1, hfz54_0, hfz54_1⟩ := bc2_ BK253; obtain ⟨hcz55_0, hcz55_1, hfz55_0, hfz55_1⟩ := bc2_ BK243; obtain ⟨hcz56_0, hcz56_1, hfz56_0, hfz56_1⟩ := bc2_ BK247))
              go_ret
              exact ⟨by first | rfl | (simp [*] <;> rfl), bw_ HB⟩
          · rw [if_neg c9] at H
            have c9b0 : (t240 == 5 && (t241 == 6)) = false := by simpa using c9
            (try (have c9b1 : decide (t240 = 5 && (t241 == 6)) = false := by simpa using c9))
            (try (have c9b2 : (t240 == 5 && (t241 == 6)) = false := by simpa using c9))
            (try (have c9b3 : ¬ (t240 = 5 && (t241 == 6)) := by simpa using c9))
            clear c9
            obtain rfl := Option.some.inj H
            go_enter Try.func17, Try.ntmps17
            go_wp2_with (first | ((with_reducible refine gate_callee (f := 18) rfl ?_); refine gla_ (some 12) Try.func18 #[.agg #[.int .i64 1, .int .i64 2], .agg #[.int .i64 1, .int .i64 3]] ?_; (with_reducible refine (num_Add.calls k 1 2 1 3 t240 t241 t242 _ A1.out).mono ?_); rintro e w57 ⟨rfl, hb⟩; refine ⟨_, rfl, ?_⟩; replace HB := bws_ HB hb; (try clear hb); (try clear hb2); (try clear hk); (try clear hi)) | ((with_reducible refine gate_dst (N := 1) rfl ?_); refine box_event ?hg (N := 1) ?hd (cs := #[.int .i64 0, .int .i64 0]) (t := 23) ?hr ?_; (case hd => rfl); (case hg => rfl); (case hr => first | (go_simp; done) | (go_simp; rfl)); intro gb243 hg w58 hbox hb; have BK243 := Aside0.mk hbox; have GW243 := bwg_ HB hg; have GE243 := bwg_ HB hg; replace HB := bws_ HB hb; clear hb hbox hg; obtain ⟨hcz59_0, hcz59_1, hfz59_0, hfz59_1⟩ := bc2_ BK243) | ((with_reducible refine gate_callee (f := 25) rfl ?_); refine gla_ (some 18) Try.func25 #[.agg #[.int .i64 1, .int .i64 3], .agg #[.int .i64 1, .int .i64 2]] ?_; (with_reducible refine (num_Simplest.calls k 1 3 1 2 t244 t245 t246 _ A2.out).mono ?_); rintro e w60 ⟨rfl, hb⟩; refine ⟨_, rfl, ?_⟩; replace BK243 := Aside0.mk (blk_below (g := gb243) (o := .cells #[.int .i64 t240, .int .i64 t241] 23 (0, 0)) (by refine bp_ (cs := #[.int .i64 t240, .int .i64 0]) ?_ 1; refine bp_ (cs := #[.int .i64 0, .int .i64 0]) ?_ 0; exact bk_ BK243) hb); replace HB := bws_ HB hb; (try clear hb); (try clear hb2); (try clear hk); (try clear hi)) | ((with_reducible refine gate_dst (N := 3) rfl ?_); refine box_event ?hg (N := 3) ?hd (cs := #[.int .i64 0, .int .i64 0]) (t := 23) ?hr ?_; (case hd => rfl); (case hg => rfl); (case hr => first | (go_simp; done) | (go_simp; rfl)); intro gb247 hg w61 hbox hb; have BK247 := Aside0.mk hbox; have GW247 := bwg_ HB hg; have GE247 := bwg_ HB hg; replace HB := bws_ HB hb; have NB243_247 := bkl_ BK243 hg; have NB247_243 := bkr_ BK243 hg; replace BK243 := bkb_ BK243 hb; clear hb hbox hg; have hnb62 := NB247_243.out; have hnc62 := NB243_247.out; obtain ⟨hcz63_0, hcz63_1, hfz63_0, hfz63_1⟩ := bc2_ BK247) | ((with_reducible refine gate_callee (f := 35) rfl ?_); refine gla_ (some 23) Try.func35 #[.agg #[.int .i64 (-1), .int .i64 8], .int .i64 2] ?_; (with_reducible refine (num_Decimal.calls k (-1) 8 2 t248 t249 _ A3.out).mono ?_); rintro e w64 ⟨rfl, hb⟩; refine ⟨_, rfl, ?_⟩; replace BK243 := Aside0.mk (blk_below (g := gb243) (o := .cells #[.int .i64 t240, .int .i64 t241] 23 (0, 0)) (by refine bf_ ?_ NB243_247; refine bf_ ?_ NB243_247; exact bk_ BK243) hb); replace BK247 := Aside0.mk (blk_below (g := gb247) (o := .cells #[.int .i64 t244, .int .i64 t245] 23 (0, 0)) (by refine bp_ (cs := #[.int .i64 t244, .int .i64 0]) ?_ 1; refine bp_ (cs := #[.int .i64 0, .int .i64 0]) ?_ 0; exact bk_ BK247) hb); replace HB := bws_ HB hb; (try clear hb); (try clear hb2); (try clear hk); (try clear hi)) | ((with_reducible refine gate_callee (f := 39) rfl ?_); refine gla_ (some 27) Try.func39 #[.string (⟨#[49, 46, 50, 53]⟩ : ByteArray)] ?_; (with_reducible refine (num_Parse.calls k (⟨#[49, 46, 50, 53]⟩ : ByteArray) t250 t251 t252 _ A4.out).mono ?_); rintro e w65 ⟨rfl, hb⟩; refine ⟨_, rfl, ?_⟩; replace BK243 := bkb_ BK243 hb; replace BK247 := bkb_ BK247 hb; replace HB := bws_ HB hb; (try clear hb); (try clear hb2); (try clear hk); (try clear hi)) | ((with_reducible refine gate_dst (N := 7) rfl ?_); refine box_event ?hg (N := 7) ?hd (cs := #[.int .i64 0, .int .i64 0]) (t := 23) ?hr ?_; (case hd => rfl); (case hg => rfl); (case hr => first | (go_simp; done) | (go_simp; rfl)); intro gb253 hg w66 hbox hb; have BK253 := Aside0.mk hbox; have GW253 := bwg_ HB hg; have GE253 := bwg_ HB hg; replace HB := bws_ HB hb; have NB243_253 := bkl_ BK243 hg; have NB253_243 := bkr_ BK243 hg; replace BK243 := bkb_ BK243 hb; have NB247_253 := bkl_ BK247 hg; have NB253_247 := bkr_ BK247 hg; replace BK247 := bkb_ BK247 hb; clear hb hbox hg; have hnb67 := NB253_243.out; have hnc67 := NB243_253.out; have hnb68 := NB253_247.out; have hnc68 := NB247_253.out; obtain ⟨hcz69_0, hcz69_1, hfz69_0, hfz69_1⟩ := bc2_ BK253; obtain ⟨hcz70_0, hcz70_1, hfz70_0, hfz70_1⟩ := bc2_ BK243))
            go_ret
            exact ⟨by first | rfl | (simp [*] <;> rfl), bw_ HB⟩
        · rw [if_neg c8] at H
          have c8b0 : (t252 == 0) = false := beq_eq_false_iff_ne.mpr c8
          have c8b1 : (t252 != 0) = true := bne_iff_ne.mpr c8
          obtain rfl := Option.some.inj H
          go_enter Try.func17, Try.ntmps17
          go_wp2_with (first | ((with_reducible refine gate_callee (f := 18) rfl ?_); refine gla_ (some 12) Try.func18 #[.agg #[.int .i64 1, .int .i64 2], .agg #[.int .i64 1, .int .i64 3]] ?_; (with_reducible refine (num_Add.calls k 1 2 1 3 t240 t241 t242 _ A1.out).mono ?_); rintro e w71 ⟨rfl, hb⟩; refine ⟨_, rfl, ?_⟩; replace HB := bws_ HB hb; (try clear hb); (try clear hb2); (try clear hk); (try clear hi)) | ((with_reducible refine gate_dst (N := 1) rfl ?_); refine box_event ?hg (N := 1) ?hd (cs := #[.int .i64 0, .int .i64 0]) (t := 23) ?hr ?_; (case hd => rfl); (case hg => rfl); (case hr => first | (go_simp; done) | (go_simp; rfl)); intro gb243 hg w72 hbox hb; have BK243 := Aside0.mk hbox; have GW243 := bwg_ HB hg; have GE243 := bwg_ HB hg; replace HB := bws_ HB hb; clear hb hbox hg; obtain ⟨hcz73_0, hcz73_1, hfz73_0, hfz73_1⟩ := bc2_ BK243) | ((with_reducible refine gate_callee (f := 25) rfl ?_); refine gla_ (some 18) Try.func25 #[.agg #[.int .i64 1, .int .i64 3], .agg #[.int .i64 1, .int .i64 2]] ?_; (with_reducible refine (num_Simplest.calls k 1 3 1 2 t244 t245 t246 _ A2.out).mono ?_); rintro e w74 ⟨rfl, hb⟩; refine ⟨_, rfl, ?_⟩; replace BK243 := Aside0.mk (blk_below (g := gb243) (o := .cells #[.int .i64 t240, .int .i64 t241] 23 (0, 0)) (by refine bp_ (cs := #[.int .i64 t240, .int .i64 0]) ?_ 1; refine bp_ (cs := #[.int .i64 0, .int .i64 0]) ?_ 0; exact bk_ BK243) hb); replace HB := bws_ HB hb; (try clear hb); (try clear hb2); (try clear hk); (try clear hi)) | ((with_reducible refine gate_dst (N := 3) rfl ?_); refine box_event ?hg (N := 3) ?hd (cs := #[.int .i64 0, .int .i64 0]) (t := 23) ?hr ?_; (case hd => rfl); (case hg => rfl); (case hr => first | (go_simp; done) | (go_simp; rfl)); intro gb247 hg w75 hbox hb; have BK247 := Aside0.mk hbox; have GW247 := bwg_ HB hg; have GE247 := bwg_ HB hg; replace HB := bws_ HB hb; have NB243_247 := bkl_ BK243 hg; have NB247_243 := bkr_ BK243 hg; replace BK243 := bkb_ BK243 hb; clear hb hbox hg; have hnb76 := NB247_243.out; have hnc76 := NB243_247.out; obtain ⟨hcz77_0, hcz77_1, hfz77_0, hfz77_1⟩ := bc2_ BK247) | ((with_reducible refine gate_callee (f := 35) rfl ?_); refine gla_ (some 23) Try.func35 #[.agg #[.int .i64 (-1), .int .i64 8], .int .i64 2] ?_; (with_reducible refine (num_Decimal.calls k (-1) 8 2 t248 t249 _ A3.out).mono ?_); rintro e w78 ⟨rfl, hb⟩; refine ⟨_, rfl, ?_⟩; replace BK243 := Aside0.mk (blk_below (g := gb243) (o := .cells #[.int .i64 t240, .int .i64 t241] 23 (0, 0)) (by refine bf_ ?_ NB243_247; refine bf_ ?_ NB243_247; exact bk_ BK243) hb); replace BK247 := Aside0.mk (blk_below (g := gb247) (o := .cells #[.int .i64 t244, .int .i64 t245] 23 (0, 0)) (by refine bp_ (cs := #[.int .i64 t244, .int .i64 0]) ?_ 1; refine bp_ (cs := #[.int .i64 0, .int .i64 0]) ?_ 0; exact bk_ BK247) hb); replace HB := bws_ HB hb; (try clear hb); (try clear hb2); (try clear hk); (try clear hi)) | ((with_reducible refine gate_callee (f := 39) rfl ?_); refine gla_ (some 27) Try.func39 #[.string (⟨#[49, 46, 50, 53]⟩ : ByteArray)] ?_; (with_reducible refine (num_Parse.calls k (⟨#[49, 46, 50, 53]⟩ : ByteArray) t250 t251 t252 _ A4.out).mono ?_); rintro e w79 ⟨rfl, hb⟩; refine ⟨_, rfl, ?_⟩; replace BK243 := bkb_ BK243 hb; replace BK247 := bkb_ BK247 hb; replace HB := bws_ HB hb; (try clear hb); (try clear hb2); (try clear hk); (try clear hi)) | ((with_reducible refine gate_dst (N := 7) rfl ?_); refine box_event ?hg (N := 7) ?hd (cs := #[.int .i64 0, .int .i64 0]) (t := 23) ?hr ?_; (case hd => rfl); (case hg => rfl); (case hr => first | (go_simp; done) | (go_simp; rfl)); intro gb253 hg w80 hbox hb; have BK253 := Aside0.mk hbox; have GW253 := bwg_ HB hg; have GE253 := bwg_ HB hg; replace HB := bws_ HB hb; have NB243_253 := bkl_ BK243 hg; have NB253_243 := bkr_ BK243 hg; replace BK243 := bkb_ BK243 hb; have NB247_253 := bkl_ BK247 hg; have NB253_247 := bkr_ BK247 hg; replace BK247 := bkb_ BK247 hb; clear hb hbox hg; have hnb81 := NB253_243.out; have hnc81 := NB243_253.out; have hnb82 := NB253_247.out; have hnc82 := NB247_253.out; obtain ⟨hcz83_0, hcz83_1, hfz83_0, hfz83_1⟩ := bc2_ BK253))
          go_ret
          exact ⟨by first | rfl | (simp [*] <;> rfl), bw_ HB⟩
      · rw [if_neg c7] at H
        have c7b0 : (t249 == 0) = false := beq_eq_false_iff_ne.mpr c7
        have c7b1 : (t249 != 0) = true := bne_iff_ne.mpr c7
        obtain rfl := Option.some.inj H
        go_enter Try.func17, Try.ntmps17
        go_wp2_with (first | ((with_reducible refine gate_callee (f := 18) rfl ?_); refine gla_ (some 12) Try.func18 #[.agg #[.int .i64 1, .int .i64 2], .agg #[.int .i64 1, .int .i64 3]] ?_; (with_reducible refine (num_Add.calls k 1 2 1 3 t240 t241 t242 _ A1.out).mono ?_); rintro e w84 ⟨rfl, hb⟩; refine ⟨_, rfl, ?_⟩; replace HB := bws_ HB hb; (try clear hb); (try clear hb2); (try clear hk); (try clear hi)) | ((with_reducible refine gate_dst (N := 1) rfl ?_); refine box_event ?hg (N := 1) ?hd (cs := #[.int .i64 0, .int .i64 0]) (t := 23) ?hr ?_; (case hd => rfl); (case hg => rfl); (case hr => first | (go_simp; done) | (go_simp; rfl)); intro gb243 hg w85 hbox hb; have BK243 := Aside0.mk hbox; have GW243 := bwg_ HB hg; have GE243 := bwg_ HB hg; replace HB := bws_ HB hb; clear hb hbox hg; obtain ⟨hcz86_0, hcz86_1, hfz86_0, hfz86_1⟩ := bc2_ BK243) | ((with_reducible refine gate_callee (f := 25) rfl ?_); refine gla_ (some 18) Try.func25 #[.agg #[.int .i64 1, .int .i64 3], .agg #[.int .i64 1, .int .i64 2]] ?_; (with_reducible refine (num_Simplest.calls k 1 3 1 2 t244 t245 t246 _ A2.out).mono ?_); rintro e w87 ⟨rfl, hb⟩; refine ⟨_, rfl, ?_⟩; replace BK243 := Aside0.mk (blk_below (g := gb243) (o := .cells #[.int .i64 t240, .int .i64 t241] 23 (0, 0)) (by refine bp_ (cs := #[.int .i64 t240, .int .i64 0]) ?_ 1; refine bp_ (cs := #[.int .i64 0, .int .i64 0]) ?_ 0; exact bk_ BK243) hb); replace HB := bws_ HB hb; (try clear hb); (try clear hb2); (try clear hk); (try clear hi)) | ((with_reducible refine gate_dst (N := 3) rfl ?_); refine box_event ?hg (N := 3) ?hd (cs := #[.int .i64 0, .int .i64 0]) (t := 23) ?hr ?_; (case hd => rfl); (case hg => rfl); (case hr => first | (go_simp; done) | (go_simp; rfl)); intro gb247 hg w88 hbox hb; have BK247 := Aside0.mk hbox; have GW247 := bwg_ HB hg; have GE247 := bwg_ HB hg; replace HB := bws_ HB hb; have NB243_247 := bkl_ BK243 hg; have NB247_243 := bkr_ BK243 hg; replace BK243 := bkb_ BK243 hb; clear hb hbox hg; have hnb89 := NB247_243.out; have hnc89 := NB243_247.out; obtain ⟨hcz90_0, hcz90_1, hfz90_0, hfz90_1⟩ := bc2_ BK247) | ((with_reducible refine gate_callee (f := 35) rfl ?_); refine gla_ (some 23) Try.func35 #[.agg #[.int .i64 (-1), .int .i64 8], .int .i64 2] ?_; (with_reducible refine (num_Decimal.calls k (-1) 8 2 t248 t249 _ A3.out).mono ?_); rintro e w91 ⟨rfl, hb⟩; refine ⟨_, rfl, ?_⟩; replace BK243 := Aside0.mk (blk_below (g := gb243) (o := .cells #[.int .i64 t240, .int .i64 t241] 23 (0, 0)) (by refine bf_ ?_ NB243_247; refine bf_ ?_ NB243_247; exact bk_ BK243) hb); replace BK247 := Aside0.mk (blk_below (g := gb247) (o := .cells #[.int .i64 t244, .int .i64 t245] 23 (0, 0)) (by refine bp_ (cs := #[.int .i64 t244, .int .i64 0]) ?_ 1; refine bp_ (cs := #[.int .i64 0, .int .i64 0]) ?_ 0; exact bk_ BK247) hb); replace HB := bws_ HB hb; (try clear hb); (try clear hb2); (try clear hk); (try clear hi)) | ((with_reducible refine gate_callee (f := 39) rfl ?_); refine gla_ (some 27) Try.func39 #[.string (⟨#[49, 46, 50, 53]⟩ : ByteArray)] ?_; (with_reducible refine (num_Parse.calls k (⟨#[49, 46, 50, 53]⟩ : ByteArray) t250 t251 t252 _ A4.out).mono ?_); rintro e w92 ⟨rfl, hb⟩; refine ⟨_, rfl, ?_⟩; replace BK243 := bkb_ BK243 hb; replace BK247 := bkb_ BK247 hb; replace HB := bws_ HB hb; (try clear hb); (try clear hb2); (try clear hk); (try clear hi)) | ((with_reducible refine gate_dst (N := 7) rfl ?_); refine box_event ?hg (N := 7) ?hd (cs := #[.int .i64 0, .int .i64 0]) (t := 23) ?hr ?_; (case hd => rfl); (case hg => rfl); (case hr => first | (go_simp; done) | (go_simp; rfl)); intro gb253 hg w93 hbox hb; have BK253 := Aside0.mk hbox; have GW253 := bwg_ HB hg; have GE253 := bwg_ HB hg; replace HB := bws_ HB hb; have NB243_253 := bkl_ BK243 hg; have NB253_243 := bkr_ BK243 hg; replace BK243 := bkb_ BK243 hb; have NB247_253 := bkl_ BK247 hg; have NB253_247 := bkr_ BK247 hg; replace BK247 := bkb_ BK247 hb; clear hb hbox hg; have hnb94 := NB253_243.out; have hnc94 := NB243_253.out; have hnb95 := NB253_247.out; have hnc95 := NB247_253.out; obtain ⟨hcz96_0, hcz96_1, hfz96_0, hfz96_1⟩ := bc2_ BK253))
        go_ret
        exact ⟨by first | rfl | (simp [*] <;> rfl), bw_ HB⟩
    · rw [if_neg c6] at H
      have c6b0 : (t246 == 0) = false := beq_eq_false_iff_ne.mpr c6
      have c6b1 : (t246 != 0) = true := bne_iff_ne.mpr c6
      obtain rfl := Option.some.inj H
      go_enter Try.func17, Try.ntmps17
      go_wp2_with (first | ((with_reducible refine gate_callee (f := 18) rfl ?_); refine gla_ (some 12) Try.func18 #[.agg #[.int .i64 1, .int .i64 2], .agg #[.int .i64 1, .int .i64 3]] ?_; (with_reducible refine (num_Add.calls k 1 2 1 3 t240 t241 t242 _ A1.out).mono ?_); rintro e w97 ⟨rfl, hb⟩; refine ⟨_, rfl, ?_⟩; replace HB := bws_ HB hb; (try clear hb); (try clear hb2); (try clear hk); (try clear hi)) | ((with_reducible refine gate_dst (N := 1) rfl ?_); refine box_event ?hg (N := 1) ?hd (cs := #[.int .i64 0, .int .i64 0]) (t := 23) ?hr ?_; (case hd => rfl); (case hg => rfl); (case hr => first | (go_simp; done) | (go_simp; rfl)); intro gb243 hg w98 hbox hb; have BK243 := Aside0.mk hbox; have GW243 := bwg_ HB hg; have GE243 := bwg_ HB hg; replace HB := bws_ HB hb; clear hb hbox hg; obtain ⟨hcz99_0, hcz99_1, hfz99_0, hfz99_1⟩ := bc2_ BK243) | ((with_reducible refine gate_callee (f := 25) rfl ?_); refine gla_ (some 18) Try.func25 #[.agg #[.int .i64 1, .int .i64 3], .agg #[.int .i64 1, .int .i64 2]] ?_; (with_reducible refine (num_Simplest.calls k 1 3 1 2 t244 t245 t246 _ A2.out).mono ?_); rintro e w100 ⟨rfl, hb⟩; refine ⟨_, rfl, ?_⟩; replace BK243 := Aside0.mk (blk_below (g := gb243) (o := .cells #[.int .i64 t240, .int .i64 t241] 23 (0, 0)) (by refine bp_ (cs := #[.int .i64 t240, .int .i64 0]) ?_ 1; refine bp_ (cs := #[.int .i64 0, .int .i64 0]) ?_ 0; exact bk_ BK243) hb); replace HB := bws_ HB hb; (try clear hb); (try clear hb2); (try clear hk); (try clear hi)) | ((with_reducible refine gate_dst (N := 3) rfl ?_); refine box_event ?hg (N := 3) ?hd (cs := #[.int .i64 0, .int .i64 0]) (t := 23) ?hr ?_; (case hd => rfl); (case hg => rfl); (case hr => first | (go_simp; done) | (go_simp; rfl)); intro gb247 hg w101 hbox hb; have BK247 := Aside0.mk hbox; have GW247 := bwg_ HB hg; have GE247 := bwg_ HB hg; replace HB := bws_ HB hb; have NB243_247 := bkl_ BK243 hg; have NB247_243 := bkr_ BK243 hg; replace BK243 := bkb_ BK243 hb; clear hb hbox hg; have hnb102 := NB247_243.out; have hnc102 := NB243_247.out; obtain ⟨hcz103_0, hcz103_1, hfz103_0, hfz103_1⟩ := bc2_ BK247) | ((with_reducible refine gate_callee (f := 35) rfl ?_); refine gla_ (some 23) Try.func35 #[.agg #[.int .i64 (-1), .int .i64 8], .int .i64 2] ?_; (with_reducible refine (num_Decimal.calls k (-1) 8 2 t248 t249 _ A3.out).mono ?_); rintro e w104 ⟨rfl, hb⟩; refine ⟨_, rfl, ?_⟩; replace BK243 := Aside0.mk (blk_below (g := gb243) (o := .cells #[.int .i64 t240, .int .i64 t241] 23 (0, 0)) (by refine bf_ ?_ NB243_247; refine bf_ ?_ NB243_247; exact bk_ BK243) hb); replace BK247 := Aside0.mk (blk_below (g := gb247) (o := .cells #[.int .i64 t244, .int .i64 t245] 23 (0, 0)) (by refine bp_ (cs := #[.int .i64 t244, .int .i64 0]) ?_ 1; refine bp_ (cs := #[.int .i64 0, .int .i64 0]) ?_ 0; exact bk_ BK247) hb); replace HB := bws_ HB hb; (try clear hb); (try clear hb2); (try clear hk); (try clear hi)) | ((with_reducible refine gate_callee (f := 39) rfl ?_); refine gla_ (some 27) Try.func39 #[.string (⟨#[49, 46, 50, 53]⟩ : ByteArray)] ?_; (with_reducible refine (num_Parse.calls k (⟨#[49, 46, 50, 53]⟩ : ByteArray) t250 t251 t252 _ A4.out).mono ?_); rintro e w105 ⟨rfl, hb⟩; refine ⟨_, rfl, ?_⟩; replace BK243 := bkb_ BK243 hb; replace BK247 := bkb_ BK247 hb; replace HB := bws_ HB hb; (try clear hb); (try clear hb2); (try clear hk); (try clear hi)) | ((with_reducible refine gate_dst (N := 7) rfl ?_); refine box_event ?hg (N := 7) ?hd (cs := #[.int .i64 0, .int .i64 0]) (t := 23) ?hr ?_; (case hd => rfl); (case hg => rfl); (case hr => first | (go_simp; done) | (go_simp; rfl)); intro gb253 hg w106 hbox hb; have BK253 := Aside0.mk hbox; have GW253 := bwg_ HB hg; have GE253 := bwg_ HB hg; replace HB := bws_ HB hb; have NB243_253 := bkl_ BK243 hg; have NB253_243 := bkr_ BK243 hg; replace BK243 := bkb_ BK243 hb; have NB247_253 := bkl_ BK247 hg; have NB253_247 := bkr_ BK247 hg; replace BK247 := bkb_ BK247 hb; clear hb hbox hg; have hnb107 := NB253_243.out; have hnc107 := NB243_253.out; have hnb108 := NB253_247.out; have hnc108 := NB247_253.out; obtain ⟨hcz109_0, hcz109_1, hfz109_0, hfz109_1⟩ := bc2_ BK253))
      go_ret
      exact ⟨by first | rfl | (simp [*] <;> rfl), bw_ HB⟩
  · rw [if_neg c5] at H
    have c5b0 : (t242 == 0) = false := beq_eq_false_iff_ne.mpr c5
    have c5b1 : (t242 != 0) = true := bne_iff_ne.mpr c5
    obtain rfl := Option.some.inj H
    go_enter Try.func17, Try.ntmps17
    go_wp2_with (first | ((with_reducible refine gate_callee (f := 18) rfl ?_); refine gla_ (some 12) Try.func18 #[.agg #[.int .i64 1, .int .i64 2], .agg #[.int .i64 1, .int .i64 3]] ?_; (with_reducible refine (num_Add.calls k 1 2 1 3 t240 t241 t242 _ A1.out).mono ?_); rintro e w110 ⟨rfl, hb⟩; refine ⟨_, rfl, ?_⟩; replace HB := bws_ HB hb; (try clear hb); (try clear hb2); (try clear hk); (try clear hi)) | ((with_reducible refine gate_dst (N := 1) rfl ?_); refine box_event ?hg (N := 1) ?hd (cs := #[.int .i64 0, .int .i64 0]) (t := 23) ?hr ?_; (case hd => rfl); (case hg => rfl); (case hr => first | (go_simp; done) | (go_simp; rfl)); intro gb243 hg w111 hbox hb; have BK243 := Aside0.mk hbox; have GW243 := bwg_ HB hg; have GE243 := bwg_ HB hg; replace HB := bws_ HB hb; clear hb hbox hg; obtain ⟨hcz112_0, hcz112_1, hfz112_0, hfz112_1⟩ := bc2_ BK243) | ((with_reducible refine gate_callee (f := 25) rfl ?_); refine gla_ (some 18) Try.func25 #[.agg #[.int .i64 1, .int .i64 3], .agg #[.int .i64 1, .int .i64 2]] ?_; (with_reducible refine (num_Simplest.calls k 1 3 1 2 t244 t245 t246 _ A2.out).mono ?_); rintro e w113 ⟨rfl, hb⟩; refine ⟨_, rfl, ?_⟩; replace BK243 := Aside0.mk (blk_below (g := gb243) (o := .cells #[.int .i64 t240, .int .i64 t241] 23 (0, 0)) (by refine bp_ (cs := #[.int .i64 t240, .int .i64 0]) ?_ 1; refine bp_ (cs := #[.int .i64 0, .int .i64 0]) ?_ 0; exact bk_ BK243) hb); replace HB := bws_ HB hb; (try clear hb); (try clear hb2); (try clear hk); (try clear hi)) | ((with_reducible refine gate_dst (N := 3) rfl ?_); refine box_event ?hg (N := 3) ?hd (cs := #[.int .i64 0, .int .i64 0]) (t := 23) ?hr ?_; (case hd => rfl); (case hg => rfl); (case hr => first | (go_simp; done) | (go_simp; rfl)); intro gb247 hg w114 hbox hb; have BK247 := Aside0.mk hbox; have GW247 := bwg_ HB hg; have GE247 := bwg_ HB hg; replace HB := bws_ HB hb; have NB243_247 := bkl_ BK243 hg; have NB247_243 := bkr_ BK243 hg; replace BK243 := bkb_ BK243 hb; clear hb hbox hg; have hnb115 := NB247_243.out; have hnc115 := NB243_247.out; obtain ⟨hcz116_0, hcz116_1, hfz116_0, hfz116_1⟩ := bc2_ BK247) | ((with_reducible refine gate_callee (f := 35) rfl ?_); refine gla_ (some 23) Try.func35 #[.agg #[.int .i64 (-1), .int .i64 8], .int .i64 2] ?_; (with_reducible refine (num_Decimal.calls k (-1) 8 2 t248 t249 _ A3.out).mono ?_); rintro e w117 ⟨rfl, hb⟩; refine ⟨_, rfl, ?_⟩; replace BK243 := Aside0.mk (blk_below (g := gb243) (o := .cells #[.int .i64 t240, .int .i64 t241] 23 (0, 0)) (by refine bf_ ?_ NB243_247; refine bf_ ?_ NB243_247; exact bk_ BK243) hb); replace BK247 := Aside0.mk (blk_below (g := gb247) (o := .cells #[.int .i64 t244, .int .i64 t245] 23 (0, 0)) (by refine bp_ (cs := #[.int .i64 t244, .int .i64 0]) ?_ 1; refine bp_ (cs := #[.int .i64 0, .int .i64 0]) ?_ 0; exact bk_ BK247) hb); replace HB := bws_ HB hb; (try clear hb); (try clear hb2); (try clear hk); (try clear hi)) | ((with_reducible refine gate_callee (f := 39) rfl ?_); refine gla_ (some 27) Try.func39 #[.string (⟨#[49, 46, 50, 53]⟩ : ByteArray)] ?_; (with_reducible refine (num_Parse.calls k (⟨#[49, 46, 50, 53]⟩ : ByteArray) t250 t251 t252 _ A4.out).mono ?_); rintro e w118 ⟨rfl, hb⟩; refine ⟨_, rfl, ?_⟩; replace BK243 := bkb_ BK243 hb; replace BK247 := bkb_ BK247 hb; replace HB := bws_ HB hb; (try clear hb); (try clear hb2); (try clear hk); (try clear hi)) | ((with_reducible refine gate_dst (N := 7) rfl ?_); refine box_event ?hg (N := 7) ?hd (cs := #[.int .i64 0, .int .i64 0]) (t := 23) ?hr ?_; (case hd => rfl); (case hg => rfl); (case hr => first | (go_simp; done) | (go_simp; rfl)); intro gb253 hg w119 hbox hb; have BK253 := Aside0.mk hbox; have GW253 := bwg_ HB hg; have GE253 := bwg_ HB hg; replace HB := bws_ HB hb; have NB243_253 := bkl_ BK243 hg; have NB253_243 := bkr_ BK243 hg; replace BK243 := bkb_ BK243 hb; have NB247_253 := bkl_ BK247 hg; have NB253_247 := bkr_ BK247 hg; replace BK247 := bkb_ BK247 hb; clear hb hbox hg; have hnb120 := NB253_243.out; have hnc120 := NB243_253.out; have hnb121 := NB253_247.out; have hnc121 := NB247_253.out; obtain ⟨hcz122_0, hcz122_1, hfz122_0, hfz122_1⟩ := bc2_ BK253))
    go_ret
    exact ⟨by first | rfl | (simp [*] <;> rfl), bw_ HB⟩
/-! ### num_Mul: function 19 -/
def num_Mul.f (k : Nat) (a0_0 : Int) (a0_1 : Int) (a1_0 : Int) (a1_1 : Int) : Option (Int × Int × Int) := (num_reckon.f k 42 a0_0 a0_1 a1_0 a1_1).bind fun bt257 => (some (bt257.1, bt257.2.1, bt257.2.2))
theorem num_Mul.mono : ∀ a0 a1 a2 a3 k, LeO (num_Mul.f k a0 a1 a2 a3) (num_Mul.f (k + 1) a0 a1 a2 a3) := by
  intro a0 a1 a2 a3 k
  unfold num_Mul.f
  repeat' first
      | (with_reducible exact num_reckon.mono _ _ _ _ _ _)
      | (with_reducible exact LeO.refl _)
      | (with_reducible exact LeO.none _)
      | (with_reducible refine LeO.ite ?_ ?_)
      | (with_reducible refine LeO.bind ?_ (fun _ => ?_))
      | (with_reducible refine LeO.exc (fun _ => ?_) (fun _ => ?_))
      | exact num_reckon.mono _ _ _ _ _ _
      | exact LeO.none _
      | refine LeO.ite ?_ ?_
      | refine LeO.bind ?_ (fun _ => ?_)
set_option maxHeartbeats 8000000 in
set_option maxRecDepth 100000 in
theorem num_Mul.calls (k : Nat) (a0_0 : Int) (a0_1 : Int) (a1_0 : Int) (a1_1 : Int) (r1 : Int) (r2 : Int) (r3 : Int) (w : World) (h : num_Mul.f k a0_0 a0_1 a1_0 a1_1 = some (r1, r2, r3)) :
    Calls Try.prog 19 #[.agg #[.int .i64 a0_0, .int .i64 a0_1], .agg #[.int .i64 a1_0, .int .i64 a1_1]] w fun e w' => e = .returned (.tuple #[.agg #[.int .i64 r1, .int .i64 r2], .int .i64 r3]) ∧ Below w.heap.size w w' := by
  have hu23 := Try.underlying23
  have HB := Aside0.mk (Below.refl w.heap.size w)
  have H : ((num_reckon.f k 42 a0_0 a0_1 a1_0 a1_1).bind fun bt257 => (some (bt257.1, bt257.2.1, bt257.2.2))) = some (r1, r2, r3) := h
  clear h
  replace H := Option.bind_eq_some_iff.mp H
  obtain ⟨⟨t257, t258, t259⟩, A30, H⟩ := H
  replace H : (some (t257, t258, t259)) = some (r1, r2, r3) := H
  have A3 := Aside0.mk A30
  clear A30
  simp only [Option.some.injEq, Prod.mk.injEq] at H
  obtain ⟨rfl, rfl, rfl⟩ := H
  go_enter Try.func19, Try.ntmps19
  go_wp2_with (first | ((with_reducible refine gate_dst (N := 2) rfl ?_); refine box_event ?hg (N := 2) ?hd (cs := #[.int .i64 a0_0, .int .i64 a0_1]) (t := 23) ?hr ?_; (case hd => rfl); (case hg => rfl); (case hr => first | (go_simp; done) | (go_simp; rfl)); intro gb254 hg w4 hbox hb; have BK254 := Aside0.mk hbox; have GW254 := bwg_ HB hg; have GE254 := bwg_ HB hg; replace HB := bws_ HB hb; clear hb hbox hg) | ((with_reducible refine gate_dst (N := 3) rfl ?_); refine box_event ?hg (N := 3) ?hd (cs := #[.int .i64 a1_0, .int .i64 a1_1]) (t := 23) ?hr ?_; (case hd => rfl); (case hg => rfl); (case hr => first | (go_simp; done) | (go_simp; rfl)); intro gb255 hg w5 hbox hb; have BK255 := Aside0.mk hbox; have GW255 := bwg_ HB hg; have GE255 := bwg_ HB hg; replace HB := bws_ HB hb; have NB254_255 := bkl_ BK254 hg; have NB255_254 := bkr_ BK254 hg; replace BK254 := bkb_ BK254 hb; clear hb hbox hg) | ((with_reducible refine gate_dst (N := 4) rfl ?_); refine box_event ?hg (N := 4) ?hd (cs := #[.int .i64 0, .int .i64 0]) (t := 23) ?hr ?_; (case hd => rfl); (case hg => rfl); (case hr => first | (go_simp; done) | (go_simp; rfl)); intro gb256 hg w6 hbox hb; have BK256 := Aside0.mk hbox; have GW256 := bwg_ HB hg; have GE256 := bwg_ HB hg; replace HB := bws_ HB hb; have NB254_256 := bkl_ BK254 hg; have NB256_254 := bkr_ BK254 hg; replace BK254 := bkb_ BK254 hb; have NB255_256 := bkl_ BK255 hg; have NB256_255 := bkr_ BK255 hg; replace BK255 := bkb_ BK255 hb; clear hb hbox hg; have hnb7 := NB254_255.out; have hnc7 := NB255_254.out; have hnb8 := NB254_256.out; have hnc8 := NB256_254.out; obtain ⟨hcz9_0, hcz9_1, hfz9_0, hfz9_1⟩ := bc2_ BK254; have hnb10 := NB255_256.out; have hnc10 := NB256_255.out; obtain ⟨hcz11_0, hcz11_1, hfz11_0, hfz11_1⟩ := bc2_ BK255) | ((with_reducible refine gate_callee (f := 67) rfl ?_); refine gla_ (some 8) Try.func67 #[.int .u8 42, .agg #[.int .i64 a0_0, .int .i64 a0_1], .agg #[.int .i64 a1_0, .int .i64 a1_1]] ?_; (with_reducible refine (num_reckon.calls k 42 a0_0 a0_1 a1_0 a1_1 t257 t258 t259 _ A3.out).mono ?_); rintro e w12 ⟨rfl, hb⟩; refine ⟨_, rfl, ?_⟩; replace BK254 := bkb_ BK254 hb; replace BK255 := bkb_ BK255 hb; replace BK256 := bkb_ BK256 hb; replace HB := bws_ HB hb; (try clear hb); (try clear hb2); (try clear hk); (try clear hi); obtain ⟨hcz13_0, hcz13_1, hfz13_0, hfz13_1⟩ := bc2_ BK256))
  refine bodyPost_ret (results_ct rfl _ _ gb256 23 #[.int .i64 t257, .int .i64 t258] (0, 0) _ rfl (by refine bp_ (cs := #[.int .i64 t257, .int .i64 0]) ?_ 1; refine bp_ (cs := #[.int .i64 0, .int .i64 0]) ?_ 0; exact bk_ BK256) Try.underlying23 rfl (by kernel_rfl)) rfl ?_
  exact ⟨by first | rfl | (simp [*] <;> rfl), bw_ HB⟩
/-! ### num_Sub: function 20 -/
def num_Sub.f (k : Nat) (a0_0 : Int) (a0_1 : Int) (a1_0 : Int) (a1_1 : Int) : Option (Int × Int × Int) := (num_reckon.f k 45 a0_0 a0_1 a1_0 a1_1).bind fun bt263 => (some (bt263.1, bt263.2.1, bt263.2.2))
theorem num_Sub.mono : ∀ a0 a1 a2 a3 k, LeO (num_Sub.f k a0 a1 a2 a3) (num_Sub.f (k + 1) a0 a1 a2 a3) := by
  intro a0 a1 a2 a3 k
  unfold num_Sub.f
  repeat' first
      | (with_reducible exact num_reckon.mono _ _ _ _ _ _)
      | (with_reducible exact LeO.refl _)
      | (with_reducible exact LeO.none _)
      | (with_reducible refine LeO.ite ?_ ?_)
      | (with_reducible refine LeO.bind ?_ (fun _ => ?_))
      | (with_reducible refine LeO.exc (fun _ => ?_) (fun _ => ?_))
      | exact num_reckon.mono _ _ _ _ _ _
      | exact LeO.none _
      | refine LeO.ite ?_ ?_
      | refine LeO.bind ?_ (fun _ => ?_)
set_option maxHeartbeats 8000000 in
set_option maxRecDepth 100000 in
theorem num_Sub.calls (k : Nat) (a0_0 : Int) (a0_1 : Int) (a1_0 : Int) (a1_1 : Int) (r1 : Int) (r2 : Int) (r3 : Int) (w : World) (h : num_Sub.f k a0_0 a0_1 a1_0 a1_1 = some (r1, r2, r3)) :
    Calls Try.prog 20 #[.agg #[.int .i64 a0_0, .int .i64 a0_1], .agg #[.int .i64 a1_0, .int .i64 a1_1]] w fun e w' => e = .returned (.tuple #[.agg #[.int .i64 r1, .int .i64 r2], .int .i64 r3]) ∧ Below w.heap.size w w' := by
  have hu23 := Try.underlying23
  have HB := Aside0.mk (Below.refl w.heap.size w)
  have H : ((num_reckon.f k 45 a0_0 a0_1 a1_0 a1_1).bind fun bt263 => (some (bt263.1, bt263.2.1, bt263.2.2))) = some (r1, r2, r3) := h
  clear h
  replace H := Option.bind_eq_some_iff.mp H
  obtain ⟨⟨t263, t264, t265⟩, A30, H⟩ := H
  replace H : (some (t263, t264, t265)) = some (r1, r2, r3) := H
  have A3 := Aside0.mk A30
  clear A30
  simp only [Option.some.injEq, Prod.mk.injEq] at H
  obtain ⟨rfl, rfl, rfl⟩ := H
  go_enter Try.func20, Try.ntmps20
  go_wp2_with (first | ((with_reducible refine gate_dst (N := 2) rfl ?_); refine box_event ?hg (N := 2) ?hd (cs := #[.int .i64 a0_0, .int .i64 a0_1]) (t := 23) ?hr ?_; (case hd => rfl); (case hg => rfl); (case hr => first | (go_simp; done) | (go_simp; rfl)); intro gb260 hg w4 hbox hb; have BK260 := Aside0.mk hbox; have GW260 := bwg_ HB hg; have GE260 := bwg_ HB hg; replace HB := bws_ HB hb; clear hb hbox hg) | ((with_reducible refine gate_dst (N := 3) rfl ?_); refine box_event ?hg (N := 3) ?hd (cs := #[.int .i64 a1_0, .int .i64 a1_1]) (t := 23) ?hr ?_; (case hd => rfl); (case hg => rfl); (case hr => first | (go_simp; done) | (go_simp; rfl)); intro gb261 hg w5 hbox hb; have BK261 := Aside0.mk hbox; have GW261 := bwg_ HB hg; have GE261 := bwg_ HB hg; replace HB := bws_ HB hb; have NB260_261 := bkl_ BK260 hg; have NB261_260 := bkr_ BK260 hg; replace BK260 := bkb_ BK260 hb; clear hb hbox hg) | ((with_reducible refine gate_dst (N := 4) rfl ?_); refine box_event ?hg (N := 4) ?hd (cs := #[.int .i64 0, .int .i64 0]) (t := 23) ?hr ?_; (case hd => rfl); (case hg => rfl); (case hr => first | (go_simp; done) | (go_simp; rfl)); intro gb262 hg w6 hbox hb; have BK262 := Aside0.mk hbox; have GW262 := bwg_ HB hg; have GE262 := bwg_ HB hg; replace HB := bws_ HB hb; have NB260_262 := bkl_ BK260 hg; have NB262_260 := bkr_ BK260 hg; replace BK260 := bkb_ BK260 hb; have NB261_262 := bkl_ BK261 hg; have NB262_261 := bkr_ BK261 hg; replace BK261 := bkb_ BK261 hb; clear hb hbox hg; have hnb7 := NB260_261.out; have hnc7 := NB261_260.out; have hnb8 := NB260_262.out; have hnc8 := NB262_260.out; obtain ⟨hcz9_0, hcz9_1, hfz9_0, hfz9_1⟩ := bc2_ BK260; have hnb10 := NB261_262.out; have hnc10 := NB262_261.out; obtain ⟨hcz11_0, hcz11_1, hfz11_0, hfz11_1⟩ := bc2_ BK261) | ((with_reducible refine gate_callee (f := 67) rfl ?_); refine gla_ (some 8) Try.func67 #[.int .u8 45, .agg #[.int .i64 a0_0, .int .i64 a0_1], .agg #[.int .i64 a1_0, .int .i64 a1_1]] ?_; (with_reducible refine (num_reckon.calls k 45 a0_0 a0_1 a1_0 a1_1 t263 t264 t265 _ A3.out).mono ?_); rintro e w12 ⟨rfl, hb⟩; refine ⟨_, rfl, ?_⟩; replace BK260 := bkb_ BK260 hb; replace BK261 := bkb_ BK261 hb; replace BK262 := bkb_ BK262 hb; replace HB := bws_ HB hb; (try clear hb); (try clear hb2); (try clear hk); (try clear hi); obtain ⟨hcz13_0, hcz13_1, hfz13_0, hfz13_1⟩ := bc2_ BK262))
  refine bodyPost_ret (results_ct rfl _ _ gb262 23 #[.int .i64 t263, .int .i64 t264] (0, 0) _ rfl (by refine bp_ (cs := #[.int .i64 t263, .int .i64 0]) ?_ 1; refine bp_ (cs := #[.int .i64 0, .int .i64 0]) ?_ 0; exact bk_ BK262) Try.underlying23 rfl (by kernel_rfl)) rfl ?_
  exact ⟨by first | rfl | (simp [*] <;> rfl), bw_ HB⟩
/-! ### num_Div: function 21 -/
def num_Div.f (k : Nat) (a0_0 : Int) (a0_1 : Int) (a1_0 : Int) (a1_1 : Int) : Option (Int × Int × Int) := (num_reckon.f k 47 a0_0 a0_1 a1_0 a1_1).bind fun bt269 => (some (bt269.1, bt269.2.1, bt269.2.2))
theorem num_Div.mono : ∀ a0 a1 a2 a3 k, LeO (num_Div.f k a0 a1 a2 a3) (num_Div.f (k + 1) a0 a1 a2 a3) := by
  intro a0 a1 a2 a3 k
  unfold num_Div.f
  repeat' first
      | (with_reducible exact num_reckon.mono _ _ _ _ _ _)
      | (with_reducible exact LeO.refl _)
      | (with_reducible exact LeO.none _)
      | (with_reducible refine LeO.ite ?_ ?_)
      | (with_reducible refine LeO.bind ?_ (fun _ => ?_))
      | (with_reducible refine LeO.exc (fun _ => ?_) (fun _ => ?_))
      | exact num_reckon.mono _ _ _ _ _ _
      | exact LeO.none _
      | refine LeO.ite ?_ ?_
      | refine LeO.bind ?_ (fun _ => ?_)
set_option maxHeartbeats 8000000 in
set_option maxRecDepth 100000 in
theorem num_Div.calls (k : Nat) (a0_0 : Int) (a0_1 : Int) (a1_0 : Int) (a1_1 : Int) (r1 : Int) (r2 : Int) (r3 : Int) (w : World) (h : num_Div.f k a0_0 a0_1 a1_0 a1_1 = some (r1, r2, r3)) :
    Calls Try.prog 21 #[.agg #[.int .i64 a0_0, .int .i64 a0_1], .agg #[.int .i64 a1_0, .int .i64 a1_1]] w fun e w' => e = .returned (.tuple #[.agg #[.int .i64 r1, .int .i64 r2], .int .i64 r3]) ∧ Below w.heap.size w w' := by
  have hu23 := Try.underlying23
  have HB := Aside0.mk (Below.refl w.heap.size w)
  have H : ((num_reckon.f k 47 a0_0 a0_1 a1_0 a1_1).bind fun bt269 => (some (bt269.1, bt269.2.1, bt269.2.2))) = some (r1, r2, r3) := h
  clear h
  replace H := Option.bind_eq_some_iff.mp H
  obtain ⟨⟨t269, t270, t271⟩, A30, H⟩ := H
  replace H : (some (t269, t270, t271)) = some (r1, r2, r3) := H
  have A3 := Aside0.mk A30
  clear A30
  simp only [Option.some.injEq, Prod.mk.injEq] at H
  obtain ⟨rfl, rfl, rfl⟩ := H
  go_enter Try.func21, Try.ntmps21
  go_wp2_with (first | ((with_reducible refine gate_dst (N := 2) rfl ?_); refine box_event ?hg (N := 2) ?hd (cs := #[.int .i64 a0_0, .int .i64 a0_1]) (t := 23) ?hr ?_; (case hd => rfl); (case hg => rfl); (case hr => first | (go_simp; done) | (go_simp; rfl)); intro gb266 hg w4 hbox hb; have BK266 := Aside0.mk hbox; have GW266 := bwg_ HB hg; have GE266 := bwg_ HB hg; replace HB := bws_ HB hb; clear hb hbox hg) | ((with_reducible refine gate_dst (N := 3) rfl ?_); refine box_event ?hg (N := 3) ?hd (cs := #[.int .i64 a1_0, .int .i64 a1_1]) (t := 23) ?hr ?_; (case hd => rfl); (case hg => rfl); (case hr => first | (go_simp; done) | (go_simp; rfl)); intro gb267 hg w5 hbox hb; have BK267 := Aside0.mk hbox; have GW267 := bwg_ HB hg; have GE267 := bwg_ HB hg; replace HB := bws_ HB hb; have NB266_267 := bkl_ BK266 hg; have NB267_266 := bkr_ BK266 hg; replace BK266 := bkb_ BK266 hb; clear hb hbox hg) | ((with_reducible refine gate_dst (N := 4) rfl ?_); refine box_event ?hg (N := 4) ?hd (cs := #[.int .i64 0, .int .i64 0]) (t := 23) ?hr ?_; (case hd => rfl); (case hg => rfl); (case hr => first | (go_simp; done) | (go_simp; rfl)); intro gb268 hg w6 hbox hb; have BK268 := Aside0.mk hbox; have GW268 := bwg_ HB hg; have GE268 := bwg_ HB hg; replace HB := bws_ HB hb; have NB266_268 := bkl_ BK266 hg; have NB268_266 := bkr_ BK266 hg; replace BK266 := bkb_ BK266 hb; have NB267_268 := bkl_ BK267 hg; have NB268_267 := bkr_ BK267 hg; replace BK267 := bkb_ BK267 hb; clear hb hbox hg; have hnb7 := NB266_267.out; have hnc7 := NB267_266.out; have hnb8 := NB266_268.out; have hnc8 := NB268_266.out; obtain ⟨hcz9_0, hcz9_1, hfz9_0, hfz9_1⟩ := bc2_ BK266; have hnb10 := NB267_268.out; have hnc10 := NB268_267.out; obtain ⟨hcz11_0, hcz11_1, hfz11_0, hfz11_1⟩ := bc2_ BK267) | ((with_reducible refine gate_callee (f := 67) rfl ?_); refine gla_ (some 8) Try.func67 #[.int .u8 47, .agg #[.int .i64 a0_0, .int .i64 a0_1], .agg #[.int .i64 a1_0, .int .i64 a1_1]] ?_; (with_reducible refine (num_reckon.calls k 47 a0_0 a0_1 a1_0 a1_1 t269 t270 t271 _ A3.out).mono ?_); rintro e w12 ⟨rfl, hb⟩; refine ⟨_, rfl, ?_⟩; replace BK266 := bkb_ BK266 hb; replace BK267 := bkb_ BK267 hb; replace BK268 := bkb_ BK268 hb; replace HB := bws_ HB hb; (try clear hb); (try clear hb2); (try clear hk); (try clear hi); obtain ⟨hcz13_0, hcz13_1, hfz13_0, hfz13_1⟩ := bc2_ BK268))
  refine bodyPost_ret (results_ct rfl _ _ gb268 23 #[.int .i64 t269, .int .i64 t270] (0, 0) _ rfl (by refine bp_ (cs := #[.int .i64 t269, .int .i64 0]) ?_ 1; refine bp_ (cs := #[.int .i64 0, .int .i64 0]) ?_ 0; exact bk_ BK268) Try.underlying23 rfl (by kernel_rfl)) rfl ?_
  exact ⟨by first | rfl | (simp [*] <;> rfl), bw_ HB⟩
/-! ### withylaw01_zero: function 22 -/
def withylaw01_zero.f  : Option (Int × Int) := some (0, 1)
set_option maxHeartbeats 8000000 in
set_option maxRecDepth 100000 in
theorem withylaw01_zero.calls  (r1 : Int) (r2 : Int) (w : World) (h : withylaw01_zero.f  = some (r1, r2)) :
    Calls Try.prog 22 #[] w fun e w' => e = .returned (.agg #[.int .i64 r1, .int .i64 r2]) ∧ Below w.heap.size w w' := by
  have hu23 := Try.underlying23
  have HB := Aside0.mk (Below.refl w.heap.size w)
  have H : (some (0, 1)) = some (r1, r2) := h
  clear h
  simp only [Option.some.injEq, Prod.mk.injEq] at H
  obtain ⟨rfl, rfl⟩ := H
  go_enter Try.func22, Try.ntmps22
  go_wp2_with (first | ((with_reducible refine gate_dst (N := 0) rfl ?_); refine box_event ?hg (N := 0) ?hd (cs := #[.int .i64 0, .int .i64 0]) (t := 23) ?hr ?_; (case hd => rfl); (case hg => rfl); (case hr => first | (go_simp; done) | (go_simp; rfl)); intro gb272 hg w1 hbox hb; have BK272 := Aside0.mk hbox; have GW272 := bwg_ HB hg; have GE272 := bwg_ HB hg; replace HB := bws_ HB hb; clear hb hbox hg; obtain ⟨hcz2_0, hcz2_1, hfz2_0, hfz2_1⟩ := bc2_ BK272))
  refine bodyPost_ret (results_cell_row rfl _ _ gb272 23 #[.int .i64 0, .int .i64 1] (0, 0) _ rfl (by refine bp_ (cs := #[.int .i64 0, .int .i64 0]) ?_ 1; refine bp_ (cs := #[.int .i64 0, .int .i64 0]) ?_ 0; exact bk_ BK272) Try.underlying23 rfl (by kernel_rfl)) rfl ?_
  exact ⟨by first | rfl | (simp [*] <;> rfl), bw_ HB⟩
/-! ### withylaw01_one: function 23 -/
def withylaw01_one.f  : Option (Int × Int) := some (1, 1)
set_option maxHeartbeats 8000000 in
set_option maxRecDepth 100000 in
theorem withylaw01_one.calls  (r1 : Int) (r2 : Int) (w : World) (h : withylaw01_one.f  = some (r1, r2)) :
    Calls Try.prog 23 #[] w fun e w' => e = .returned (.agg #[.int .i64 r1, .int .i64 r2]) ∧ Below w.heap.size w w' := by
  have hu23 := Try.underlying23
  have HB := Aside0.mk (Below.refl w.heap.size w)
  have H : (some (1, 1)) = some (r1, r2) := h
  clear h
  simp only [Option.some.injEq, Prod.mk.injEq] at H
  obtain ⟨rfl, rfl⟩ := H
  go_enter Try.func23, Try.ntmps23
  go_wp2_with (first | ((with_reducible refine gate_dst (N := 0) rfl ?_); refine box_event ?hg (N := 0) ?hd (cs := #[.int .i64 0, .int .i64 0]) (t := 23) ?hr ?_; (case hd => rfl); (case hg => rfl); (case hr => first | (go_simp; done) | (go_simp; rfl)); intro gb273 hg w1 hbox hb; have BK273 := Aside0.mk hbox; have GW273 := bwg_ HB hg; have GE273 := bwg_ HB hg; replace HB := bws_ HB hb; clear hb hbox hg; obtain ⟨hcz2_0, hcz2_1, hfz2_0, hfz2_1⟩ := bc2_ BK273))
  refine bodyPost_ret (results_cell_row rfl _ _ gb273 23 #[.int .i64 1, .int .i64 1] (0, 0) _ rfl (by refine bp_ (cs := #[.int .i64 1, .int .i64 0]) ?_ 1; refine bp_ (cs := #[.int .i64 0, .int .i64 0]) ?_ 0; exact bk_ BK273) Try.underlying23 rfl (by kernel_rfl)) rfl ?_
  exact ⟨by first | rfl | (simp [*] <;> rfl), bw_ HB⟩
/-! ### withylaw01_joined: function 24 -/
mutual
def withylaw01_joined.j0 : Nat → Bool → Int → Int → Int → Int → Int → Int → Int → Int → Int → Int → Option (Bool)
  | 0, _, _, _, _, _, _, _, _, _, _, _ => none
  | k + 1, x44, x275000, x275001, x276000, x276001, x277000, x277001, x281000, x281001, x285000, x285001 => if x44 = true then ((num_Add.f k x281000 x281001 x277000 x277001).bind fun bt285 => ((num_Add.f k x275000 x275001 x285000 x285001).bind fun bt289 => (if bt285.2.2 = bt289.2.2 then (withylaw01_joined.j1 k (!(bt285.1 == bt289.1) || (!(bt285.2.1 == bt289.2.1))) x275000 x275001 x276000 x276001 x277000 x277001 x285000 x285001) else (withylaw01_joined.j1 k true x275000 x275001 x276000 x276001 x277000 x277001 x285000 x285001)))) else (withylaw01_joined.j2 k x275000 x275001 x276000 x276001 x277000 x277001)
def withylaw01_joined.j2 : Nat → Int → Int → Int → Int → Int → Int → Option (Bool)
  | 0, _, _, _, _, _, _ => none
  | k + 1, x275000, x275001, x276000, x276001, x277000, x277001 => (num_Mul.f k x275000 x275001 x276000 x276001).bind fun bt309 => ((num_Mul.f k x276000 x276001 x277000 x277001).bind fun bt312 => (if bt309.2.2 = 0 then (withylaw01_joined.j3 k (bt312.2.2 != 0) x275000 x275001 x277000 x277001 bt309.1 bt309.2.1 bt312.1 bt312.2.1) else (withylaw01_joined.j3 k true x275000 x275001 x277000 x277001 bt309.1 bt309.2.1 bt312.1 bt312.2.1)))
def withylaw01_joined.j3 : Nat → Bool → Int → Int → Int → Int → Int → Int → Int → Int → Option (Bool)
  | 0, _, _, _, _, _, _, _, _, _ => none
  | k + 1, x125, x275000, x275001, x277000, x277001, x281000, x281001, x285000, x285001 => if x125 = true then (some true) else ((num_Mul.f k x281000 x281001 x277000 x277001).bind fun bt315 => ((num_Mul.f k x275000 x275001 x285000 x285001).bind fun bt319 => (if bt315.2.2 = bt319.2.2 then (some (bt315.1 == bt319.1 && (bt315.2.1 == bt319.2.1))) else (some false))))
def withylaw01_joined.j1 : Nat → Bool → Int → Int → Int → Int → Int → Int → Int → Int → Option (Bool)
  | 0, _, _, _, _, _, _, _, _, _ => none
  | k + 1, x64, x275000, x275001, x276000, x276001, x277000, x277001, x285000, x285001 => if x64 = true then (some false) else ((num_Mul.f k x275000 x275001 x285000 x285001).bind fun bt293 => ((num_Mul.f k x275000 x275001 x276000 x276001).bind fun bt297 => ((num_Mul.f k x275000 x275001 x277000 x277001).bind fun bt301 => ((num_Add.f k bt297.1 bt297.2.1 bt301.1 bt301.2.1).bind fun bt305 => (if bt293.2.2 = 0 then (if bt297.2.2 = 0 then (if bt301.2.2 = 0 then (if bt305.2.2 = 0 then (if (!(bt305.1 == bt293.1) || (!(bt305.2.1 == bt293.2.1))) = true then (some false) else (withylaw01_joined.j2 k x275000 x275001 x276000 x276001 x277000 x277001)) else (some false)) else (withylaw01_joined.j2 k x275000 x275001 x276000 x276001 x277000 x277001)) else (withylaw01_joined.j2 k x275000 x275001 x276000 x276001 x277000 x277001)) else (withylaw01_joined.j2 k x275000 x275001 x276000 x276001 x277000 x277001))))))
end
def withylaw01_joined.f (k : Nat) (a0_0 : Int) (a0_1 : Int) (a1_0 : Int) (a1_1 : Int) (a2_0 : Int) (a2_1 : Int) : Option (Bool) := (num_Add.f k a0_0 a0_1 a1_0 a1_1).bind fun bt277 => ((num_Add.f k a1_0 a1_1 a2_0 a2_1).bind fun bt281 => (if bt277.2.2 = 0 then (withylaw01_joined.j0 k (bt281.2.2 == 0) a0_0 a0_1 a1_0 a1_1 a2_0 a2_1 bt277.1 bt277.2.1 bt281.1 bt281.2.1) else (withylaw01_joined.j0 k false a0_0 a0_1 a1_0 a1_1 a2_0 a2_1 bt277.1 bt277.2.1 bt281.1 bt281.2.1)))
theorem withylaw01_joined.mono_l : ∀ k, (∀ y0 y1 y2 y3 y4 y5 y6 y7 y8 y9 y10, LeO (withylaw01_joined.j0 k y0 y1 y2 y3 y4 y5 y6 y7 y8 y9 y10) (withylaw01_joined.j0 (k + 1) y0 y1 y2 y3 y4 y5 y6 y7 y8 y9 y10)) ∧ (∀ y0 y1 y2 y3 y4 y5, LeO (withylaw01_joined.j2 k y0 y1 y2 y3 y4 y5) (withylaw01_joined.j2 (k + 1) y0 y1 y2 y3 y4 y5)) ∧ (∀ y0 y1 y2 y3 y4 y5 y6 y7 y8, LeO (withylaw01_joined.j3 k y0 y1 y2 y3 y4 y5 y6 y7 y8) (withylaw01_joined.j3 (k + 1) y0 y1 y2 y3 y4 y5 y6 y7 y8)) ∧ (∀ y0 y1 y2 y3 y4 y5 y6 y7 y8, LeO (withylaw01_joined.j1 k y0 y1 y2 y3 y4 y5 y6 y7 y8) (withylaw01_joined.j1 (k + 1) y0 y1 y2 y3 y4 y5 y6 y7 y8))
  | 0 => ⟨fun _ _ _ _ _ _ _ _ _ _ _ r h => by simp [withylaw01_joined.j0] at h, fun _ _ _ _ _ _ r h => by simp [withylaw01_joined.j2] at h, fun _ _ _ _ _ _ _ _ _ r h => by simp [withylaw01_joined.j3] at h, fun _ _ _ _ _ _ _ _ _ r h => by simp [withylaw01_joined.j1] at h⟩
  | k + 1 => by
    obtain ⟨ih0, ih1, ih2, ih3⟩ := withylaw01_joined.mono_l k
    refine ⟨?_, ?_, ?_, ?_⟩
    · intro y0 y1 y2 y3 y4 y5 y6 y7 y8 y9 y10
      unfold withylaw01_joined.j0
      repeat' first
      | (with_reducible exact ih0 _ _ _ _ _ _ _ _ _ _ _)
      | (with_reducible exact ih1 _ _ _ _ _ _)
      | (with_reducible exact ih2 _ _ _ _ _ _ _ _ _)
      | (with_reducible exact ih3 _ _ _ _ _ _ _ _ _)
      | (with_reducible exact num_Add.mono _ _ _ _ _)
      | (with_reducible exact num_Mul.mono _ _ _ _ _)
      | (with_reducible exact LeO.refl _)
      | (with_reducible exact LeO.none _)
      | (with_reducible refine LeO.ite ?_ ?_)
      | (with_reducible refine LeO.bind ?_ (fun _ => ?_))
      | (with_reducible refine LeO.exc (fun _ => ?_) (fun _ => ?_))
      | exact ih0 _ _ _ _ _ _ _ _ _ _ _
      | exact ih1 _ _ _ _ _ _
      | exact ih2 _ _ _ _ _ _ _ _ _
      | exact ih3 _ _ _ _ _ _ _ _ _
      | exact num_Add.mono _ _ _ _ _
      | exact num_Mul.mono _ _ _ _ _
      | exact LeO.none _
      | refine LeO.ite ?_ ?_
      | refine LeO.bind ?_ (fun _ => ?_)
    · intro y0 y1 y2 y3 y4 y5
      unfold withylaw01_joined.j2
      repeat' first
      | (with_reducible exact ih0 _ _ _ _ _ _ _ _ _ _ _)
      | (with_reducible exact ih1 _ _ _ _ _ _)
      | (with_reducible exact ih2 _ _ _ _ _ _ _ _ _)
      | (with_reducible exact ih3 _ _ _ _ _ _ _ _ _)
      | (with_reducible exact num_Add.mono _ _ _ _ _)
      | (with_reducible exact num_Mul.mono _ _ _ _ _)
      | (with_reducible exact LeO.refl _)
      | (with_reducible exact LeO.none _)
      | (with_reducible refine LeO.ite ?_ ?_)
      | (with_reducible refine LeO.bind ?_ (fun _ => ?_))
      | (with_reducible refine LeO.exc (fun _ => ?_) (fun _ => ?_))
      | exact ih0 _ _ _ _ _ _ _ _ _ _ _
      | exact ih1 _ _ _ _ _ _
      | exact ih2 _ _ _ _ _ _ _ _ _
      | exact ih3 _ _ _ _ _ _ _ _ _
      | exact num_Add.mono _ _ _ _ _
      | exact num_Mul.mono _ _ _ _ _
      | exact LeO.none _
      | refine LeO.ite ?_ ?_
      | refine LeO.bind ?_ (fun _ => ?_)
    · intro y0 y1 y2 y3 y4 y5 y6 y7 y8
      unfold withylaw01_joined.j3
      repeat' first
      | (with_reducible exact ih0 _ _ _ _ _ _ _ _ _ _ _)
      | (with_reducible exact ih1 _ _ _ _ _ _)
      | (with_reducible exact ih2 _ _ _ _ _ _ _ _ _)
      | (with_reducible exact ih3 _ _ _ _ _ _ _ _ _)
      | (with_reducible exact num_Add.mono _ _ _ _ _)
      | (with_reducible exact num_Mul.mono _ _ _ _ _)
      | (with_reducible exact LeO.refl _)
      | (with_reducible exact LeO.none _)
      | (with_reducible refine LeO.ite ?_ ?_)
      | (with_reducible refine LeO.bind ?_ (fun _ => ?_))
      | (with_reducible refine LeO.exc (fun _ => ?_) (fun _ => ?_))
      | exact ih0 _ _ _ _ _ _ _ _ _ _ _
      | exact ih1 _ _ _ _ _ _
      | exact ih2 _ _ _ _ _ _ _ _ _
      | exact ih3 _ _ _ _ _ _ _ _ _
      | exact num_Add.mono _ _ _ _ _
      | exact num_Mul.mono _ _ _ _ _
      | exact LeO.none _
      | refine LeO.ite ?_ ?_
      | refine LeO.bind ?_ (fun _ => ?_)
    · intro y0 y1 y2 y3 y4 y5 y6 y7 y8
      unfold withylaw01_joined.j1
      repeat' first
      | (with_reducible exact ih0 _ _ _ _ _ _ _ _ _ _ _)
      | (with_reducible exact ih1 _ _ _ _ _ _)
      | (with_reducible exact ih2 _ _ _ _ _ _ _ _ _)
      | (with_reducible exact ih3 _ _ _ _ _ _ _ _ _)
      | (with_reducible exact num_Add.mono _ _ _ _ _)
      | (with_reducible exact num_Mul.mono _ _ _ _ _)
      | (with_reducible exact LeO.refl _)
      | (with_reducible exact LeO.none _)
      | (with_reducible refine LeO.ite ?_ ?_)
      | (with_reducible refine LeO.bind ?_ (fun _ => ?_))
      | (with_reducible refine LeO.exc (fun _ => ?_) (fun _ => ?_))
      | exact ih0 _ _ _ _ _ _ _ _ _ _ _
      | exact ih1 _ _ _ _ _ _
      | exact ih2 _ _ _ _ _ _ _ _ _
      | exact ih3 _ _ _ _ _ _ _ _ _
      | exact num_Add.mono _ _ _ _ _
      | exact num_Mul.mono _ _ _ _ _
      | exact LeO.none _
      | refine LeO.ite ?_ ?_
      | refine LeO.bind ?_ (fun _ => ?_)
theorem withylaw01_joined.mono : ∀ a0 a1 a2 a3 a4 a5 k, LeO (withylaw01_joined.f k a0 a1 a2 a3 a4 a5) (withylaw01_joined.f (k + 1) a0 a1 a2 a3 a4 a5) := by
  intro a0 a1 a2 a3 a4 a5 k
  obtain ⟨ih0, ih1, ih2, ih3⟩ := withylaw01_joined.mono_l k
  unfold withylaw01_joined.f
  repeat' first
      | (with_reducible exact ih0 _ _ _ _ _ _ _ _ _ _ _)
      | (with_reducible exact ih1 _ _ _ _ _ _)
      | (with_reducible exact ih2 _ _ _ _ _ _ _ _ _)
      | (with_reducible exact ih3 _ _ _ _ _ _ _ _ _)
      | (with_reducible exact num_Add.mono _ _ _ _ _)
      | (with_reducible exact num_Mul.mono _ _ _ _ _)
      | (with_reducible exact LeO.refl _)
      | (with_reducible exact LeO.none _)
      | (with_reducible refine LeO.ite ?_ ?_)
      | (with_reducible refine LeO.bind ?_ (fun _ => ?_))
      | (with_reducible refine LeO.exc (fun _ => ?_) (fun _ => ?_))
      | exact ih0 _ _ _ _ _ _ _ _ _ _ _
      | exact ih1 _ _ _ _ _ _
      | exact ih2 _ _ _ _ _ _ _ _ _
      | exact ih3 _ _ _ _ _ _ _ _ _
      | exact num_Add.mono _ _ _ _ _
      | exact num_Mul.mono _ _ _ _ _
      | exact LeO.none _
      | refine LeO.ite ?_ ?_
      | refine LeO.bind ?_ (fun _ => ?_)
set_option maxHeartbeats 8000000 in
set_option maxRecDepth 100000 in
theorem withylaw01_joined.calls (k : Nat) (a0_0 : Int) (a0_1 : Int) (a1_0 : Int) (a1_1 : Int) (a2_0 : Int) (a2_1 : Int) (r : Bool) (w : World) (h : withylaw01_joined.f k a0_0 a0_1 a1_0 a1_1 a2_0 a2_1 = some r) :
    Calls Try.prog 24 #[.agg #[.int .i64 a0_0, .int .i64 a0_1], .agg #[.int .i64 a1_0, .int .i64 a1_1], .agg #[.int .i64 a2_0, .int .i64 a2_1]] w fun e w' => e = .returned (.bool r) ∧ Below w.heap.size w w' := by
 have hu23 := Try.underlying23
 have HB := Aside0.mk (Below.refl w.heap.size w)
 have H : ((num_Add.f k a0_0 a0_1 a1_0 a1_1).bind fun bt277 => ((num_Add.f k a1_0 a1_1 a2_0 a2_1).bind fun bt281 => (if bt277.2.2 = 0 then (withylaw01_joined.j0 k (bt281.2.2 == 0) a0_0 a0_1 a1_0 a1_1 a2_0 a2_1 bt277.1 bt277.2.1 bt281.1 bt281.2.1) else (withylaw01_joined.j0 k false a0_0 a0_1 a1_0 a1_1 a2_0 a2_1 bt277.1 bt277.2.1 bt281.1 bt281.2.1)))) = some r := h
 clear h
 replace H := Option.bind_eq_some_iff.mp H
 obtain ⟨⟨t277, t278, t279⟩, A40, H⟩ := H
 replace H : ((num_Add.f k a1_0 a1_1 a2_0 a2_1).bind fun bt281 => (if t279 = 0 then (withylaw01_joined.j0 k (bt281.2.2 == 0) a0_0 a0_1 a1_0 a1_1 a2_0 a2_1 t277 t278 bt281.1 bt281.2.1) else (withylaw01_joined.j0 k false a0_0 a0_1 a1_0 a1_1 a2_0 a2_1 t277 t278 bt281.1 bt281.2.1))) = some r := H
 have A4 := Aside0.mk A40
 clear A40
 replace H := Option.bind_eq_some_iff.mp H
 obtain ⟨⟨t281, t282, t283⟩, A50, H⟩ := H
 replace H : (if t279 = 0 then (withylaw01_joined.j0 k (t283 == 0) a0_0 a0_1 a1_0 a1_1 a2_0 a2_1 t277 t278 t281 t282) else (withylaw01_joined.j0 k false a0_0 a0_1 a1_0 a1_1 a2_0 a2_1 t277 t278 t281 t282)) = some r := H
 have A5 := Aside0.mk A50
 clear A50
 have HC6 := Aside0.mk H
 clear H
 go_enter Try.func24, Try.ntmps24
 go_upto_region 3 with (first | ((with_reducible refine gate_dst (N := 3) rfl ?_); refine box_event ?hg (N := 3) ?hd (cs := #[.int .i64 a0_0, .int .i64 a0_1]) (t := 23) ?hr ?_; (case hd => rfl); (case hg => rfl); (case hr => first | (go_simp; done) | (go_simp; rfl)); intro gb274 hg w7 hbox hb; have BK274 := Aside0.mk hbox; have GW274 := bwg_ HB hg; have GE274 := bwg_ HB hg; replace HB := bws_ HB hb; clear hb hbox hg) | ((with_reducible refine gate_dst (N := 4) rfl ?_); refine box_event ?hg (N := 4) ?hd (cs := #[.int .i64 a1_0, .int .i64 a1_1]) (t := 23) ?hr ?_; (case hd => rfl); (case hg => rfl); (case hr => first | (go_simp; done) | (go_simp; rfl)); intro gb275 hg w8 hbox hb; have BK275 := Aside0.mk hbox; have GW275 := bwg_ HB hg; have GE275 := bwg_ HB hg; replace HB := bws_ HB hb; have NB274_275 := bkl_ BK274 hg; have NB275_274 := bkr_ BK274 hg; replace BK274 := bkb_ BK274 hb; clear hb hbox hg) | ((with_reducible refine gate_dst (N := 5) rfl ?_); refine box_event ?hg (N := 5) ?hd (cs := #[.int .i64 a2_0, .int .i64 a2_1]) (t := 23) ?hr ?_; (case hd => rfl); (case hg => rfl); (case hr => first | (go_simp; done) | (go_simp; rfl)); intro gb276 hg w9 hbox hb; have BK276 := Aside0.mk hbox; have GW276 := bwg_ HB hg; have GE276 := bwg_ HB hg; replace HB := bws_ HB hb; have NB274_276 := bkl_ BK274 hg; have NB276_274 := bkr_ BK274 hg; replace BK274 := bkb_ BK274 hb; have NB275_276 := bkl_ BK275 hg; have NB276_275 := bkr_ BK275 hg; replace BK275 := bkb_ BK275 hb; clear hb hbox hg; have hnb10 := NB274_275.out; have hnc10 := NB275_274.out; have hnb11 := NB274_276.out; have hnc11 := NB276_274.out; obtain ⟨hcz12_0, hcz12_1, hfz12_0, hfz12_1⟩ := bc2_ BK274; have hnb13 := NB275_276.out; have hnc13 := NB276_275.out; obtain ⟨hcz14_0, hcz14_1, hfz14_0, hfz14_1⟩ := bc2_ BK275) | ((with_reducible refine gate_callee (f := 18) rfl ?_); refine gla_ (some 30) Try.func18 #[.agg #[.int .i64 a0_0, .int .i64 a0_1], .agg #[.int .i64 a1_0, .int .i64 a1_1]] ?_; (with_reducible refine (num_Add.calls k a0_0 a0_1 a1_0 a1_1 t277 t278 t279 _ A4.out).mono ?_); rintro e w15 ⟨rfl, hb⟩; refine ⟨_, rfl, ?_⟩; replace BK274 := bkb_ BK274 hb; replace BK275 := bkb_ BK275 hb; replace BK276 := bkb_ BK276 hb; replace HB := bws_ HB hb; (try clear hb); (try clear hb2); (try clear hk); (try clear hi)) | ((with_reducible refine gate_dst (N := 7) rfl ?_); refine box_event ?hg (N := 7) ?hd (cs := #[.int .i64 0, .int .i64 0]) (t := 23) ?hr ?_; (case hd => rfl); (case hg => rfl); (case hr => first | (go_simp; done) | (go_simp; rfl)); intro gb280 hg w16 hbox hb; have BK280 := Aside0.mk hbox; have GW280 := bwg_ HB hg; have GE280 := bwg_ HB hg; replace HB := bws_ HB hb; have NB274_280 := bkl_ BK274 hg; have NB280_274 := bkr_ BK274 hg; replace BK274 := bkb_ BK274 hb; have NB275_280 := bkl_ BK275 hg; have NB280_275 := bkr_ BK275 hg; replace BK275 := bkb_ BK275 hb; have NB276_280 := bkl_ BK276 hg; have NB280_276 := bkr_ BK276 hg; replace BK276 := bkb_ BK276 hb; clear hb hbox hg; have hnb17 := NB280_274.out; have hnc17 := NB274_280.out; have hnb18 := NB280_275.out; have hnc18 := NB275_280.out; have hnb19 := NB280_276.out; have hnc19 := NB276_280.out; obtain ⟨hcz20_0, hcz20_1, hfz20_0, hfz20_1⟩ := bc2_ BK280; obtain ⟨hcz21_0, hcz21_1, hfz21_0, hfz21_1⟩ := bc2_ BK275; obtain ⟨hcz22_0, hcz22_1, hfz22_0, hfz22_1⟩ := bc2_ BK276) | ((with_reducible refine gate_callee (f := 18) rfl ?_); refine gla_ (some 36) Try.func18 #[.agg #[.int .i64 a1_0, .int .i64 a1_1], .agg #[.int .i64 a2_0, .int .i64 a2_1]] ?_; (with_reducible refine (num_Add.calls k a1_0 a1_1 a2_0 a2_1 t281 t282 t283 _ A5.out).mono ?_); rintro e w23 ⟨rfl, hb⟩; refine ⟨_, rfl, ?_⟩; replace BK274 := Aside0.mk (blk_below (g := gb274) (o := .cells #[.int .i64 a0_0, .int .i64 a0_1] 23 (0, 0)) (by refine bf_ ?_ NB274_280; refine bf_ ?_ NB274_280; exact bk_ BK274) hb); replace BK275 := Aside0.mk (blk_below (g := gb275) (o := .cells #[.int .i64 a1_0, .int .i64 a1_1] 23 (0, 0)) (by refine bf_ ?_ NB275_280; refine bf_ ?_ NB275_280; exact bk_ BK275) hb); replace BK276 := Aside0.mk (blk_below (g := gb276) (o := .cells #[.int .i64 a2_0, .int .i64 a2_1] 23 (0, 0)) (by refine bf_ ?_ NB276_280; refine bf_ ?_ NB276_280; exact bk_ BK276) hb); replace BK280 := Aside0.mk (blk_below (g := gb280) (o := .cells #[.int .i64 t277, .int .i64 t278] 23 (0, 0)) (by refine bp_ (cs := #[.int .i64 t277, .int .i64 0]) ?_ 1; refine bp_ (cs := #[.int .i64 0, .int .i64 0]) ?_ 0; exact bk_ BK280) hb); replace HB := bws_ HB hb; (try clear hb); (try clear hb2); (try clear hk); (try clear hi)) | ((with_reducible refine gate_dst (N := 9) rfl ?_); refine box_event ?hg (N := 9) ?hd (cs := #[.int .i64 0, .int .i64 0]) (t := 23) ?hr ?_; (case hd => rfl); (case hg => rfl); (case hr => first | (go_simp; done) | (go_simp; rfl)); intro gb284 hg w24 hbox hb; have BK284 := Aside0.mk hbox; have GW284 := bwg_ HB hg; have GE284 := bwg_ HB hg; replace HB := bws_ HB hb; have NB274_284 := bkl_ BK274 hg; have NB284_274 := bkr_ BK274 hg; replace BK274 := bkb_ BK274 hb; have NB275_284 := bkl_ BK275 hg; have NB284_275 := bkr_ BK275 hg; replace BK275 := bkb_ BK275 hb; have NB276_284 := bkl_ BK276 hg; have NB284_276 := bkr_ BK276 hg; replace BK276 := bkb_ BK276 hb; have NB280_284 := bkl_ BK280 hg; have NB284_280 := bkr_ BK280 hg; replace BK280 := bkb_ BK280 hb; clear hb hbox hg; have hnb25 := NB284_274.out; have hnc25 := NB274_284.out; have hnb26 := NB284_275.out; have hnc26 := NB275_284.out; have hnb27 := NB284_276.out; have hnc27 := NB276_284.out; have hnb28 := NB284_280.out; have hnc28 := NB280_284.out; obtain ⟨hcz29_0, hcz29_1, hfz29_0, hfz29_1⟩ := bc2_ BK284))
 (try simp only [Act.put, List.setIfInBounds_toArray, List.set_cons_zero, List.set_cons_succ])
 go_cut [44] (fun v44 wc => ∃ (kq : Nat) (x44_5 : Bool), v44 = .bool x44_5 ∧ Aside0 (withylaw01_joined.j0 kq x44_5 a0_0 a0_1 a1_0 a1_1 a2_0 a2_1 t277 t278 t281 t282 = some r) ∧ Aside0 (kq ≤ k) ∧ Aside0 (wc.heap[gb274]? = some (.cells #[.int .i64 a0_0, .int .i64 a0_1] 23 (0, 0))) ∧ Aside0 (wc.heap[gb275]? = some (.cells #[.int .i64 a1_0, .int .i64 a1_1] 23 (0, 0))) ∧ Aside0 (wc.heap[gb276]? = some (.cells #[.int .i64 a2_0, .int .i64 a2_1] 23 (0, 0))) ∧ Aside0 (wc.heap[gb280]? = some (.cells #[.int .i64 t277, .int .i64 t278] 23 (0, 0))) ∧ Aside0 (wc.heap[gb284]? = some (.cells #[.int .i64 t281, .int .i64 t282] 23 (0, 0))) ∧ Aside0 (Below w.heap.size w wc))
 case first =>
  as_aux_lemma =>
   have H := HC6.out
   clear HC6
   by_cases c30 : t279 = 0
   · rw [if_pos c30] at H
     have c30b0 : (t279 == 0) = true := beq_iff_eq.mpr c30
     have c30b1 : (t279 != 0) = false := bne_eq_false_iff_eq.mpr c30
     clear c30
     (first | rw [c30b0] | (simp only [i64_w, i32_w]; rw [c30b0]) | skip)
     have H' := Aside0.mk H
     clear H
     go_wp2
     go_meet
     case rel => exact ⟨_, ((t283 == 0)), (by first | rfl | (simp; done) | (simp [*]; done)), H', ⟨by first | omega | exact Nat.le_refl _⟩, ⟨by refine bf_ ?_ NB274_284; refine bf_ ?_ NB274_284; exact bk_ BK274⟩, ⟨by refine bf_ ?_ NB275_284; refine bf_ ?_ NB275_284; exact bk_ BK275⟩, ⟨by refine bf_ ?_ NB276_284; refine bf_ ?_ NB276_284; exact bk_ BK276⟩, ⟨by refine bf_ ?_ NB280_284; refine bf_ ?_ NB280_284; exact bk_ BK280⟩, ⟨by refine bp_ (cs := #[.int .i64 t281, .int .i64 0]) ?_ 1; refine bp_ (cs := #[.int .i64 0, .int .i64 0]) ?_ 0; exact bk_ BK284⟩, ⟨bw_ HB⟩⟩
   · rw [if_neg c30] at H
     have c30b0 : (t279 == 0) = false := beq_eq_false_iff_ne.mpr c30
     have c30b1 : (t279 != 0) = true := bne_iff_ne.mpr c30
     (first | rw [c30b0] | (simp only [i64_w, i32_w]; rw [c30b0]) | skip)
     have H' := Aside0.mk H
     clear H
     go_wp2
     go_meet
     case rel => exact ⟨_, (false), (by first | rfl | (simp; done) | (simp [*]; done)), H', ⟨by first | omega | exact Nat.le_refl _⟩, ⟨by refine bf_ ?_ NB274_284; refine bf_ ?_ NB274_284; exact bk_ BK274⟩, ⟨by refine bf_ ?_ NB275_284; refine bf_ ?_ NB275_284; exact bk_ BK275⟩, ⟨by refine bf_ ?_ NB276_284; refine bf_ ?_ NB276_284; exact bk_ BK276⟩, ⟨by refine bf_ ?_ NB280_284; refine bf_ ?_ NB280_284; exact bk_ BK280⟩, ⟨by refine bp_ (cs := #[.int .i64 t281, .int .i64 0]) ?_ 1; refine bp_ (cs := #[.int .i64 0, .int .i64 0]) ?_ 0; exact bk_ BK284⟩, ⟨bw_ HB⟩⟩
 case rest =>
  as_aux_lemma =>
   clear HC6
   try clear c1
   try clear c2
   try clear p2
   try clear c3
   try clear c10
   try clear c11
   try clear c13
   try clear c17
   try clear c18
   try clear c19
   try clear c24
   try clear c25
   try clear c26
   try clear c27
   try clear c28
   try clear c30
   try clear c30b0
   try clear c30b1
   try clear hcz12_0
   try clear hcz12_1
   try clear hcz14_0
   try clear hcz14_1
   try clear hcz20_0
   try clear hcz20_1
   try clear hcz21_0
   try clear hcz21_1
   try clear hcz22_0
   try clear hcz22_1
   try clear hcz29_0
   try clear hcz29_1
   try clear hfz12_0
   try clear hfz12_1
   try clear hfz14_0
   try clear hfz14_1
   try clear hfz20_0
   try clear hfz20_1
   try clear hfz21_0
   try clear hfz21_1
   try clear hfz22_0
   try clear hfz22_1
   try clear hfz29_0
   try clear hfz29_1
   obtain ⟨kq, x44_5, rfl, HA, HJ5, BK274, BK275, BK276, BK280, BK284, HB⟩ := hcut
   cases kq with
   | zero => exact absurd HA.out (by simp [withylaw01_joined.j0])
   | succ kj5 =>
    have H := HA.out
    clear HA
    simp only [withylaw01_joined.j0] at H
    have HC31 := Aside0.mk H
    clear H
    go_upto_if 44 with (fail)
    go_cut [] (fun wc => ∃ (kq : Nat), Aside0 (withylaw01_joined.j2 kq a0_0 a0_1 a1_0 a1_1 a2_0 a2_1 = some r) ∧ Aside0 (kq ≤ kj5) ∧ Aside0 (wc.heap[gb274]? = some (.cells #[.int .i64 a0_0, .int .i64 a0_1] 23 (0, 0))) ∧ Aside0 (wc.heap[gb275]? = some (.cells #[.int .i64 a1_0, .int .i64 a1_1] 23 (0, 0))) ∧ Aside0 (wc.heap[gb276]? = some (.cells #[.int .i64 a2_0, .int .i64 a2_1] 23 (0, 0))) ∧ Aside0 (wc.heap[gb280]? = some (.cells #[.int .i64 t277, .int .i64 t278] 23 (0, 0))) ∧ Aside0 (wc.heap[gb284]? = some (.cells #[.int .i64 t281, .int .i64 t282] 23 (0, 0))) ∧ Aside0 (Below w.heap.size w wc))
    case first =>
     as_aux_lemma =>
      have H := HC31.out
      clear HC31
      by_cases c32 : x44_5 = true
      · subst c32
        have H1 : ((num_Add.f kj5 t277 t278 a2_0 a2_1).bind fun bt285 => ((num_Add.f kj5 a0_0 a0_1 t281 t282).bind fun bt289 => (if bt285.2.2 = bt289.2.2 then (withylaw01_joined.j1 kj5 (!(bt285.1 == bt289.1) || (!(bt285.2.1 == bt289.2.1))) a0_0 a0_1 a1_0 a1_1 a2_0 a2_1 t281 t282) else (withylaw01_joined.j1 kj5 true a0_0 a0_1 a1_0 a1_1 a2_0 a2_1 t281 t282)))) = some r := by rw [if_pos rfl] at H; exact H
        clear H
        have H := H1
        clear H1
        replace H := Option.bind_eq_some_iff.mp H
        obtain ⟨⟨t285, t286, t287⟩, A330, H⟩ := H
        replace H : ((num_Add.f kj5 a0_0 a0_1 t281 t282).bind fun bt289 => (if t287 = bt289.2.2 then (withylaw01_joined.j1 kj5 (!(t285 == bt289.1) || (!(t286 == bt289.2.1))) a0_0 a0_1 a1_0 a1_1 a2_0 a2_1 t281 t282) else (withylaw01_joined.j1 kj5 true a0_0 a0_1 a1_0 a1_1 a2_0 a2_1 t281 t282))) = some r := H
        have A33 := Aside0.mk A330
        clear A330
        replace H := Option.bind_eq_some_iff.mp H
        obtain ⟨⟨t289, t290, t291⟩, A340, H⟩ := H
        replace H : (if t287 = t291 then (withylaw01_joined.j1 kj5 (!(t285 == t289) || (!(t286 == t290))) a0_0 a0_1 a1_0 a1_1 a2_0 a2_1 t281 t282) else (withylaw01_joined.j1 kj5 true a0_0 a0_1 a1_0 a1_1 a2_0 a2_1 t281 t282)) = some r := H
        have A34 := Aside0.mk A340
        clear A340
        have HC35 := Aside0.mk H
        clear H
        have hnb36 := NB280_274.out
        have hnc36 := NB274_280.out
        have hnb37 := NB280_275.out
        have hnc37 := NB275_280.out
        have hnb38 := NB280_276.out
        have hnc38 := NB276_280.out
        have hnb39 := NB280_284.out
        have hnc39 := NB284_280.out
        obtain ⟨hcz40_0, hcz40_1, hfz40_0, hfz40_1⟩ := bc2_ BK280
        have hnb41 := NB276_274.out
        have hnc41 := NB274_276.out
        have hnb42 := NB276_275.out
        have hnc42 := NB275_276.out
        have hnb43 := NB276_284.out
        have hnc43 := NB284_276.out
        obtain ⟨hcz44_0, hcz44_1, hfz44_0, hfz44_1⟩ := bc2_ BK276
        go_upto_region 6 with (first | ((with_reducible refine gate_callee (f := 18) rfl ?_); refine gla_ (some 48) Try.func18 #[.agg #[.int .i64 t277, .int .i64 t278], .agg #[.int .i64 a2_0, .int .i64 a2_1]] ?_; (with_reducible refine (num_Add.calls kj5 t277 t278 a2_0 a2_1 t285 t286 t287 _ A33.out).mono ?_); rintro e w45 ⟨rfl, hb⟩; refine ⟨_, rfl, ?_⟩; replace BK274 := bkb_ BK274 hb; replace BK275 := bkb_ BK275 hb; replace BK276 := bkb_ BK276 hb; replace BK280 := bkb_ BK280 hb; replace BK284 := bkb_ BK284 hb; replace HB := bws_ HB hb; (try clear hb); (try clear hb2); (try clear hk); (try clear hi)) | ((with_reducible refine gate_dst (N := 11) rfl ?_); refine box_event ?hg (N := 11) ?hd (cs := #[.int .i64 0, .int .i64 0]) (t := 23) ?hr ?_; (case hd => rfl); (case hg => rfl); (case hr => first | (go_simp; done) | (go_simp; rfl)); intro gb288 hg w46 hbox hb; have BK288 := Aside0.mk hbox; have GW288 := bwg_ HB hg; have GE288 := bwg_ HB hg; replace HB := bws_ HB hb; have NB274_288 := bkl_ BK274 hg; have NB288_274 := bkr_ BK274 hg; replace BK274 := bkb_ BK274 hb; have NB275_288 := bkl_ BK275 hg; have NB288_275 := bkr_ BK275 hg; replace BK275 := bkb_ BK275 hb; have NB276_288 := bkl_ BK276 hg; have NB288_276 := bkr_ BK276 hg; replace BK276 := bkb_ BK276 hb; have NB280_288 := bkl_ BK280 hg; have NB288_280 := bkr_ BK280 hg; replace BK280 := bkb_ BK280 hb; have NB284_288 := bkl_ BK284 hg; have NB288_284 := bkr_ BK284 hg; replace BK284 := bkb_ BK284 hb; clear hb hbox hg; have hnb47 := NB288_274.out; have hnc47 := NB274_288.out; have hnb48 := NB288_275.out; have hnc48 := NB275_288.out; have hnb49 := NB288_276.out; have hnc49 := NB276_288.out; have hnb50 := NB288_280.out; have hnc50 := NB280_288.out; have hnb51 := NB288_284.out; have hnc51 := NB284_288.out; obtain ⟨hcz52_0, hcz52_1, hfz52_0, hfz52_1⟩ := bc2_ BK288; have hnb53 := NB274_275.out; have hnc53 := NB275_274.out; have hnb54 := NB274_284.out; have hnc54 := NB284_274.out; obtain ⟨hcz55_0, hcz55_1, hfz55_0, hfz55_1⟩ := bc2_ BK274; have hnb56 := NB284_275.out; have hnc56 := NB275_284.out; obtain ⟨hcz57_0, hcz57_1, hfz57_0, hfz57_1⟩ := bc2_ BK284) | ((with_reducible refine gate_callee (f := 18) rfl ?_); refine gla_ (some 54) Try.func18 #[.agg #[.int .i64 a0_0, .int .i64 a0_1], .agg #[.int .i64 t281, .int .i64 t282]] ?_; (with_reducible refine (num_Add.calls kj5 a0_0 a0_1 t281 t282 t289 t290 t291 _ A34.out).mono ?_); rintro e w58 ⟨rfl, hb⟩; refine ⟨_, rfl, ?_⟩; replace BK274 := Aside0.mk (blk_below (g := gb274) (o := .cells #[.int .i64 a0_0, .int .i64 a0_1] 23 (0, 0)) (by refine bf_ ?_ NB274_288; refine bf_ ?_ NB274_288; exact bk_ BK274) hb); replace BK275 := Aside0.mk (blk_below (g := gb275) (o := .cells #[.int .i64 a1_0, .int .i64 a1_1] 23 (0, 0)) (by refine bf_ ?_ NB275_288; refine bf_ ?_ NB275_288; exact bk_ BK275) hb); replace BK276 := Aside0.mk (blk_below (g := gb276) (o := .cells #[.int .i64 a2_0, .int .i64 a2_1] 23 (0, 0)) (by refine bf_ ?_ NB276_288; refine bf_ ?_ NB276_288; exact bk_ BK276) hb); replace BK280 := Aside0.mk (blk_below (g := gb280) (o := .cells #[.int .i64 t277, .int .i64 t278] 23 (0, 0)) (by refine bf_ ?_ NB280_288; refine bf_ ?_ NB280_288; exact bk_ BK280) hb); replace BK284 := Aside0.mk (blk_below (g := gb284) (o := .cells #[.int .i64 t281, .int .i64 t282] 23 (0, 0)) (by refine bf_ ?_ NB284_288; refine bf_ ?_ NB284_288; exact bk_ BK284) hb); replace BK288 := Aside0.mk (blk_below (g := gb288) (o := .cells #[.int .i64 t285, .int .i64 t286] 23 (0, 0)) (by refine bp_ (cs := #[.int .i64 t285, .int .i64 0]) ?_ 1; refine bp_ (cs := #[.int .i64 0, .int .i64 0]) ?_ 0; exact bk_ BK288) hb); replace HB := bws_ HB hb; (try clear hb); (try clear hb2); (try clear hk); (try clear hi)) | ((with_reducible refine gate_dst (N := 13) rfl ?_); refine box_event ?hg (N := 13) ?hd (cs := #[.int .i64 0, .int .i64 0]) (t := 23) ?hr ?_; (case hd => rfl); (case hg => rfl); (case hr => first | (go_simp; done) | (go_simp; rfl)); intro gb292 hg w59 hbox hb; have BK292 := Aside0.mk hbox; have GW292 := bwg_ HB hg; have GE292 := bwg_ HB hg; replace HB := bws_ HB hb; have NB274_292 := bkl_ BK274 hg; have NB292_274 := bkr_ BK274 hg; replace BK274 := bkb_ BK274 hb; have NB275_292 := bkl_ BK275 hg; have NB292_275 := bkr_ BK275 hg; replace BK275 := bkb_ BK275 hb; have NB276_292 := bkl_ BK276 hg; have NB292_276 := bkr_ BK276 hg; replace BK276 := bkb_ BK276 hb; have NB280_292 := bkl_ BK280 hg; have NB292_280 := bkr_ BK280 hg; replace BK280 := bkb_ BK280 hb; have NB284_292 := bkl_ BK284 hg; have NB292_284 := bkr_ BK284 hg; replace BK284 := bkb_ BK284 hb; have NB288_292 := bkl_ BK288 hg; have NB292_288 := bkr_ BK288 hg; replace BK288 := bkb_ BK288 hb; clear hb hbox hg; have hnb60 := NB292_274.out; have hnc60 := NB274_292.out; have hnb61 := NB292_275.out; have hnc61 := NB275_292.out; have hnb62 := NB292_276.out; have hnc62 := NB276_292.out; have hnb63 := NB292_280.out; have hnc63 := NB280_292.out; have hnb64 := NB292_284.out; have hnc64 := NB284_292.out; have hnb65 := NB292_288.out; have hnc65 := NB288_292.out; obtain ⟨hcz66_0, hcz66_1, hfz66_0, hfz66_1⟩ := bc2_ BK292))
        (try simp only [Act.put, List.setIfInBounds_toArray, List.set_cons_zero, List.set_cons_succ])
        go_cut [64] (fun v64 wc => ∃ (kq : Nat) (x64_34 : Bool), v64 = .bool x64_34 ∧ Aside0 (withylaw01_joined.j1 kq x64_34 a0_0 a0_1 a1_0 a1_1 a2_0 a2_1 t281 t282 = some r) ∧ Aside0 (kq ≤ kj5) ∧ Aside0 (wc.heap[gb274]? = some (.cells #[.int .i64 a0_0, .int .i64 a0_1] 23 (0, 0))) ∧ Aside0 (wc.heap[gb275]? = some (.cells #[.int .i64 a1_0, .int .i64 a1_1] 23 (0, 0))) ∧ Aside0 (wc.heap[gb276]? = some (.cells #[.int .i64 a2_0, .int .i64 a2_1] 23 (0, 0))) ∧ Aside0 (wc.heap[gb280]? = some (.cells #[.int .i64 t277, .int .i64 t278] 23 (0, 0))) ∧ Aside0 (wc.heap[gb284]? = some (.cells #[.int .i64 t281, .int .i64 t282] 23 (0, 0))) ∧ Aside0 (wc.heap[gb288]? = some (.cells #[.int .i64 t285, .int .i64 t286] 23 (0, 0))) ∧ Aside0 (wc.heap[gb292]? = some (.cells #[.int .i64 t289, .int .i64 t290] 23 (0, 0))) ∧ Aside0 (Below w.heap.size w wc))
        case first =>
         as_aux_lemma =>
          have H := HC35.out
          clear HC35
          by_cases c67 : t287 = t291
          · rw [if_pos c67] at H
            have c67b0 : (t287 == t291) = true := beq_iff_eq.mpr c67
            have c67b1 : (t287 != t291) = false := bne_eq_false_iff_eq.mpr c67
            clear c67
            (first | rw [c67b0] | (simp only [i64_w, i32_w]; rw [c67b0]) | skip)
            have H' := Aside0.mk H
            clear H
            have hnb68 := NB288_274.out
            have hnc68 := NB274_288.out
            have hnb69 := NB288_275.out
            have hnc69 := NB275_288.out
            have hnb70 := NB288_276.out
            have hnc70 := NB276_288.out
            have hnb71 := NB288_280.out
            have hnc71 := NB280_288.out
            have hnb72 := NB288_284.out
            have hnc72 := NB284_288.out
            have hnb73 := NB288_292.out
            have hnc73 := NB292_288.out
            obtain ⟨hcz74_0, hcz74_1, hfz74_0, hfz74_1⟩ := bc2_ BK288
            have hnb75 := NB292_274.out
            have hnc75 := NB274_292.out
            have hnb76 := NB292_275.out
            have hnc76 := NB275_292.out
            have hnb77 := NB292_276.out
            have hnc77 := NB276_292.out
            have hnb78 := NB292_280.out
            have hnc78 := NB280_292.out
            have hnb79 := NB292_284.out
            have hnc79 := NB284_292.out
            obtain ⟨hcz80_0, hcz80_1, hfz80_0, hfz80_1⟩ := bc2_ BK292
            go_wp2
            go_meet
            case rel => exact ⟨_, ((!(t285 == t289) || (!(t286 == t290)))), (by first | rfl | (simp; done) | (simp [*]; done)), H', ⟨by have := HJ5.out; first | omega | exact Nat.le_refl _⟩, ⟨by refine bf_ ?_ NB274_292; refine bf_ ?_ NB274_292; exact bk_ BK274⟩, ⟨by refine bf_ ?_ NB275_292; refine bf_ ?_ NB275_292; exact bk_ BK275⟩, ⟨by refine bf_ ?_ NB276_292; refine bf_ ?_ NB276_292; exact bk_ BK276⟩, ⟨by refine bf_ ?_ NB280_292; refine bf_ ?_ NB280_292; exact bk_ BK280⟩, ⟨by refine bf_ ?_ NB284_292; refine bf_ ?_ NB284_292; exact bk_ BK284⟩, ⟨by refine bf_ ?_ NB288_292; refine bf_ ?_ NB288_292; exact bk_ BK288⟩, ⟨by refine bp_ (cs := #[.int .i64 t289, .int .i64 0]) ?_ 1; refine bp_ (cs := #[.int .i64 0, .int .i64 0]) ?_ 0; exact bk_ BK292⟩, ⟨bw_ HB⟩⟩
          · rw [if_neg c67] at H
            have c67b0 : (t287 == t291) = false := beq_eq_false_iff_ne.mpr c67
            have c67b1 : (t287 != t291) = true := bne_iff_ne.mpr c67
            (first | rw [c67b0] | (simp only [i64_w, i32_w]; rw [c67b0]) | skip)
            have H' := Aside0.mk H
            clear H
            go_wp2
            go_meet
            case rel => exact ⟨_, (true), (by first | rfl | (simp; done) | (simp [*]; done)), H', ⟨by have := HJ5.out; first | omega | exact Nat.le_refl _⟩, ⟨by refine bf_ ?_ NB274_292; refine bf_ ?_ NB274_292; exact bk_ BK274⟩, ⟨by refine bf_ ?_ NB275_292; refine bf_ ?_ NB275_292; exact bk_ BK275⟩, ⟨by refine bf_ ?_ NB276_292; refine bf_ ?_ NB276_292; exact bk_ BK276⟩, ⟨by refine bf_ ?_ NB280_292; refine bf_ ?_ NB280_292; exact bk_ BK280⟩, ⟨by refine bf_ ?_ NB284_292; refine bf_ ?_ NB284_292; exact bk_ BK284⟩, ⟨by refine bf_ ?_ NB288_292; refine bf_ ?_ NB288_292; exact bk_ BK288⟩, ⟨by refine bp_ (cs := #[.int .i64 t289, .int .i64 0]) ?_ 1; refine bp_ (cs := #[.int .i64 0, .int .i64 0]) ?_ 0; exact bk_ BK292⟩, ⟨bw_ HB⟩⟩
        case rest =>
         as_aux_lemma =>
          clear HC35
          try clear c1
          try clear c2
          try clear p2
          try clear c3
          try clear c4
          try clear c5
          try clear c6
          try clear c7
          try clear c10
          try clear c11
          try clear c13
          try clear c17
          try clear c18
          try clear c19
          try clear c24
          try clear c25
          try clear c26
          try clear c27
          try clear c28
          try clear c30
          try clear c30b0
          try clear c30b1
          try clear c32
          try clear c36
          try clear c37
          try clear c38
          try clear c39
          try clear c41
          try clear c42
          try clear c43
          try clear c47
          try clear c48
          try clear c49
          try clear c50
          try clear c51
          try clear c53
          try clear c54
          try clear c56
          try clear c60
          try clear c61
          try clear c62
          try clear c63
          try clear c64
          try clear c65
          try clear c67
          try clear c67b0
          try clear c67b1
          try clear c68
          try clear c69
          try clear c70
          try clear c71
          try clear c72
          try clear c73
          try clear c75
          try clear c76
          try clear c77
          try clear c78
          try clear c79
          try clear hcz12_0
          try clear hcz12_1
          try clear hcz14_0
          try clear hcz14_1
          try clear hcz20_0
          try clear hcz20_1
          try clear hcz21_0
          try clear hcz21_1
          try clear hcz22_0
          try clear hcz22_1
          try clear hcz29_0
          try clear hcz29_1
          try clear hcz40_0
          try clear hcz40_1
          try clear hcz44_0
          try clear hcz44_1
          try clear hcz52_0
          try clear hcz52_1
          try clear hcz55_0
          try clear hcz55_1
          try clear hcz57_0
          try clear hcz57_1
          try clear hcz66_0
          try clear hcz66_1
          try clear hcz74_0
          try clear hcz74_1
          try clear hcz80_0
          try clear hcz80_1
          try clear hfz12_0
          try clear hfz12_1
          try clear hfz14_0
          try clear hfz14_1
          try clear hfz20_0
          try clear hfz20_1
          try clear hfz21_0
          try clear hfz21_1
          try clear hfz22_0
          try clear hfz22_1
          try clear hfz29_0
          try clear hfz29_1
          try clear hfz40_0
          try clear hfz40_1
          try clear hfz44_0
          try clear hfz44_1
          try clear hfz52_0
          try clear hfz52_1
          try clear hfz55_0
          try clear hfz55_1
          try clear hfz57_0
          try clear hfz57_1
          try clear hfz66_0
          try clear hfz66_1
          try clear hfz74_0
          try clear hfz74_1
          try clear hfz80_0
          try clear hfz80_1
          try clear p2
          obtain ⟨kq, x64_34, rfl, HA, HJ34, BK274, BK275, BK276, BK280, BK284, BK288, BK292, HB⟩ := hcut
          cases kq with
          | zero => exact absurd HA.out (by simp [withylaw01_joined.j1])
          | succ kj34 =>
           have H := HA.out
           clear HA
           simp only [withylaw01_joined.j1] at H
           by_cases c81 : x64_34 = true
           · subst c81
             have H1 : (some false) = some r := by rw [if_pos rfl] at H; exact H
             clear H
             have H := H1
             clear H1
             obtain rfl := Option.some.inj H
             go_wp2
             go_ret
             exact ⟨by first | rfl | (simp [*] <;> rfl), bw_ HB⟩
           · replace c81 := Bool.eq_false_iff.mpr c81
             subst c81
             have H1 : ((num_Mul.f kj34 a0_0 a0_1 t281 t282).bind fun bt293 => ((num_Mul.f kj34 a0_0 a0_1 a1_0 a1_1).bind fun bt297 => ((num_Mul.f kj34 a0_0 a0_1 a2_0 a2_1).bind fun bt301 => ((num_Add.f kj34 bt297.1 bt297.2.1 bt301.1 bt301.2.1).bind fun bt305 => (if bt293.2.2 = 0 then (if bt297.2.2 = 0 then (if bt301.2.2 = 0 then (if bt305.2.2 = 0 then (if (!(bt305.1 == bt293.1) || (!(bt305.2.1 == bt293.2.1))) = true then (some false) else (withylaw01_joined.j2 kj34 a0_0 a0_1 a1_0 a1_1 a2_0 a2_1)) else (some false)) else (withylaw01_joined.j2 kj34 a0_0 a0_1 a1_0 a1_1 a2_0 a2_1)) else (withylaw01_joined.j2 kj34 a0_0 a0_1 a1_0 a1_1 a2_0 a2_1)) else (withylaw01_joined.j2 kj34 a0_0 a0_1 a1_0 a1_1 a2_0 a2_1)))))) = some r := by rw [if_neg (show ¬ (false = true) by decide)] at H; exact H
             clear H
             have H := H1
             clear H1
             replace H := Option.bind_eq_some_iff.mp H
             obtain ⟨⟨t293, t294, t295⟩, A820, H⟩ := H
             replace H : ((num_Mul.f kj34 a0_0 a0_1 a1_0 a1_1).bind fun bt297 => ((num_Mul.f kj34 a0_0 a0_1 a2_0 a2_1).bind fun bt301 => ((num_Add.f kj34 bt297.1 bt297.2.1 bt301.1 bt301.2.1).bind fun bt305 => (if t295 = 0 then (if bt297.2.2 = 0 then (if bt301.2.2 = 0 then (if bt305.2.2 = 0 then (if (!(bt305.1 == t293) || (!(bt305.2.1 == t294))) = true then (some false) else (withylaw01_joined.j2 kj34 a0_0 a0_1 a1_0 a1_1 a2_0 a2_1)) else (some false)) else (withylaw01_joined.j2 kj34 a0_0 a0_1 a1_0 a1_1 a2_0 a2_1)) else (withylaw01_joined.j2 kj34 a0_0 a0_1 a1_0 a1_1 a2_0 a2_1)) else (withylaw01_joined.j2 kj34 a0_0 a0_1 a1_0 a1_1 a2_0 a2_1))))) = some r := H
             have A82 := Aside0.mk A820
             clear A820
             replace H := Option.bind_eq_some_iff.mp H
             obtain ⟨⟨t297, t298, t299⟩, A830, H⟩ := H
             replace H : ((num_Mul.f kj34 a0_0 a0_1 a2_0 a2_1).bind fun bt301 => ((num_Add.f kj34 t297 t298 bt301.1 bt301.2.1).bind fun bt305 => (if t295 = 0 then (if t299 = 0 then (if bt301.2.2 = 0 then (if bt305.2.2 = 0 then (if (!(bt305.1 == t293) || (!(bt305.2.1 == t294))) = true then (some false) else (withylaw01_joined.j2 kj34 a0_0 a0_1 a1_0 a1_1 a2_0 a2_1)) else (some false)) else (withylaw01_joined.j2 kj34 a0_0 a0_1 a1_0 a1_1 a2_0 a2_1)) else (withylaw01_joined.j2 kj34 a0_0 a0_1 a1_0 a1_1 a2_0 a2_1)) else (withylaw01_joined.j2 kj34 a0_0 a0_1 a1_0 a1_1 a2_0 a2_1)))) = some r := H
             have A83 := Aside0.mk A830
             clear A830
             replace H := Option.bind_eq_some_iff.mp H
             obtain ⟨⟨t301, t302, t303⟩, A840, H⟩ := H
             replace H : ((num_Add.f kj34 t297 t298 t301 t302).bind fun bt305 => (if t295 = 0 then (if t299 = 0 then (if t303 = 0 then (if bt305.2.2 = 0 then (if (!(bt305.1 == t293) || (!(bt305.2.1 == t294))) = true then (some false) else (withylaw01_joined.j2 kj34 a0_0 a0_1 a1_0 a1_1 a2_0 a2_1)) else (some false)) else (withylaw01_joined.j2 kj34 a0_0 a0_1 a1_0 a1_1 a2_0 a2_1)) else (withylaw01_joined.j2 kj34 a0_0 a0_1 a1_0 a1_1 a2_0 a2_1)) else (withylaw01_joined.j2 kj34 a0_0 a0_1 a1_0 a1_1 a2_0 a2_1))) = some r := H
             have A84 := Aside0.mk A840
             clear A840
             replace H := Option.bind_eq_some_iff.mp H
             obtain ⟨⟨t305, t306, t307⟩, A850, H⟩ := H
             replace H : (if t295 = 0 then (if t299 = 0 then (if t303 = 0 then (if t307 = 0 then (if (!(t305 == t293) || (!(t306 == t294))) = true then (some false) else (withylaw01_joined.j2 kj34 a0_0 a0_1 a1_0 a1_1 a2_0 a2_1)) else (some false)) else (withylaw01_joined.j2 kj34 a0_0 a0_1 a1_0 a1_1 a2_0 a2_1)) else (withylaw01_joined.j2 kj34 a0_0 a0_1 a1_0 a1_1 a2_0 a2_1)) else (withylaw01_joined.j2 kj34 a0_0 a0_1 a1_0 a1_1 a2_0 a2_1)) = some r := H
             have A85 := Aside0.mk A850
             clear A850
             by_cases c86 : t295 = 0
             · rw [if_pos c86] at H
               have c86b0 : (t295 == 0) = true := beq_iff_eq.mpr c86
               have c86b1 : (t295 != 0) = false := bne_eq_false_iff_eq.mpr c86
               clear c86
               by_cases c87 : t299 = 0
               · rw [if_pos c87] at H
                 have c87b0 : (t299 == 0) = true := beq_iff_eq.mpr c87
                 have c87b1 : (t299 != 0) = false := bne_eq_false_iff_eq.mpr c87
                 clear c87
                 by_cases c88 : t303 = 0
                 · rw [if_pos c88] at H
                   have c88b0 : (t303 == 0) = true := beq_iff_eq.mpr c88
                   have c88b1 : (t303 != 0) = false := bne_eq_false_iff_eq.mpr c88
                   clear c88
                   by_cases c89 : t307 = 0
                   · rw [if_pos c89] at H
                     have c89b0 : (t307 == 0) = true := beq_iff_eq.mpr c89
                     have c89b1 : (t307 != 0) = false := bne_eq_false_iff_eq.mpr c89
                     clear c89
                     by_cases c90 : (!(t305 == t293) || (!(t306 == t294))) = true
                     · rw [if_pos c90] at H
                       have c90b0 : (!(t305 == t293) || (!(t306 == t294))) = true := c90
                       clear c90
                       obtain rfl := Option.some.inj H
                       have hnb91 := NB274_275.out
                       have hnc91 := NB275_274.out
                       have hnb92 := NB274_276.out
                       have hnc92 := NB276_274.out
                       have hnb93 := NB274_280.out
                       have hnc93 := NB280_274.out
                       have hnb94 := NB274_284.out
                       have hnc94 := NB284_274.out
                       have hnb95 := NB274_288.out
                       have hnc95 := NB288_274.out
                       have hnb96 := NB274_292.out
                       have hnc96 := NB292_274.out
                       obtain ⟨hcz97_0, hcz97_1, hfz97_0, hfz97_1⟩ := bc2_ BK274
                       have hnb98 := NB284_275.out
                       have hnc98 := NB275_284.out
                       have hnb99 := NB284_276.out
                       have hnc99 := NB276_284.out
                       have hnb100 := NB284_280.out
                       have hnc100 := NB280_284.out
                       have hnb101 := NB284_288.out
                       have hnc101 := NB288_284.out
                       have hnb102 := NB284_292.out
                       have hnc102 := NB292_284.out
                       obtain ⟨hcz103_0, hcz103_1, hfz103_0, hfz103_1⟩ := bc2_ BK284
                       go_wp2_with (first | ((with_reducible refine gate_callee (f := 19) rfl ?_); refine gla_ (some 68) Try.func19 #[.agg #[.int .i64 a0_0, .int .i64 a0_1], .agg #[.int .i64 t281, .int .i64 t282]] ?_; (with_reducible refine (num_Mul.calls kj34 a0_0 a0_1 t281 t282 t293 t294 t295 _ A82.out).mono ?_); rintro e w104 ⟨rfl, hb⟩; refine ⟨_, rfl, ?_⟩; replace BK274 := bkb_ BK274 hb; replace BK275 := bkb_ BK275 hb; replace BK276 := bkb_ BK276 hb; replace BK280 := bkb_ BK280 hb; replace BK284 := bkb_ BK284 hb; replace BK288 := bkb_ BK288 hb; replace BK292 := bkb_ BK292 hb; replace HB := bws_ HB hb; (try clear hb); (try clear hb2); (try clear hk); (try clear hi)) | ((with_reducible refine gate_dst (N := 15) rfl ?_); refine box_event ?hg (N := 15) ?hd (cs := #[.int .i64 0, .int .i64 0]) (t := 23) ?hr ?_; (case hd => rfl); (case hg => rfl); (case hr => first | (go_simp; done) | (go_simp; rfl)); intro gb296 hg w105 hbox hb; have BK296 := Aside0.mk hbox; have GW296 := bwg_ HB hg; have GE296 := bwg_ HB hg; replace HB := bws_ HB hb; have NB274_296 := bkl_ BK274 hg; have NB296_274 := bkr_ BK274 hg; replace BK274 := bkb_ BK274 hb; have NB275_296 := bkl_ BK275 hg; have NB296_275 := bkr_ BK275 hg; replace BK275 := bkb_ BK275 hb; have NB276_296 := bkl_ BK276 hg; have NB296_276 := bkr_ BK276 hg; replace BK276 := bkb_ BK276 hb; have NB280_296 := bkl_ BK280 hg; have NB296_280 := bkr_ BK280 hg; replace BK280 := bkb_ BK280 hb; have NB284_296 := bkl_ BK284 hg; have NB296_284 := bkr_ BK284 hg; replace BK284 := bkb_ BK284 hb; have NB288_296 := bkl_ BK288 hg; have NB296_288 := bkr_ BK288 hg; replace BK288 := bkb_ BK288 hb; have NB292_296 := bkl_ BK292 hg; have NB296_292 := bkr_ BK292 hg; replace BK292 := bkb_ BK292 hb; clear hb hbox hg; have hnb106 := NB296_274.out; have hnc106 := NB274_296.out; have hnb107 := NB296_275.out; have hnc107 := NB275_296.out; have hnb108 := NB296_276.out; have hnc108 := NB276_296.out; have hnb109 := NB296_280.out; have hnc109 := NB280_296.out; have hnb110 := NB296_284.out; have hnc110 := NB284_296.out; have hnb111 := NB296_288.out; have hnc111 := NB288_296.out; have hnb112 := NB296_292.out; have hnc112 := NB292_296.out; obtain ⟨hcz113_0, hcz113_1, hfz113_0, hfz113_1⟩ := bc2_ BK296; obtain ⟨hcz114_0, hcz114_1, hfz114_0, hfz114_1⟩ := bc2_ BK274; have hnb115 := NB275_276.out; have hnc115 := NB276_275.out; have hnb116 := NB275_280.out; have hnc116 := NB280_275.out; have hnb117 := NB275_288.out; have hnc117 := NB288_275.out; have hnb118 := NB275_292.out; have hnc118 := NB292_275.out; obtain ⟨hcz119_0, hcz119_1, hfz119_0, hfz119_1⟩ := bc2_ BK275) | ((with_reducible refine gate_callee (f := 19) rfl ?_); refine gla_ (some 74) Try.func19 #[.agg #[.int .i64 a0_0, .int .i64 a0_1], .agg #[.int .i64 a1_0, .int .i64 a1_1]] ?_; (with_reducible refine (num_Mul.calls kj34 a0_0 a0_1 a1_0 a1_1 t297 t298 t299 _ A83.out).mono ?_); rintro e w120 ⟨rfl, hb⟩; refine ⟨_, rfl, ?_⟩; replace BK274 := Aside0.mk (blk_below (g := gb274) (o := .cells #[.int .i64 a0_0, .int .i64 a0_1] 23 (0, 0)) (by refine bf_ ?_ NB274_296; refine bf_ ?_ NB274_296; exact bk_ BK274) hb); replace BK275 := Aside0.mk (blk_below (g := gb275) (o := .cells #[.int .i64 a1_0, .int .i64 a1_1] 23 (0, 0)) (by refine bf_ ?_ NB275_296; refine bf_ ?_ NB275_296; exact bk_ BK275) hb); replace BK276 := Aside0.mk (blk_below (g := gb276) (o := .cells #[.int .i64 a2_0, .int .i64 a2_1] 23 (0, 0)) (by refine bf_ ?_ NB276_296; refine bf_ ?_ NB276_296; exact bk_ BK276) hb); replace BK280 := Aside0.mk (blk_below (g := gb280) (o := .cells #[.int .i64 t277, .int .i64 t278] 23 (0, 0)) (by refine bf_ ?_ NB280_296; refine bf_ ?_ NB280_296; exact bk_ BK280) hb); replace BK284 := Aside0.mk (blk_below (g := gb284) (o := .cells #[.int .i64 t281, .int .i64 t282] 23 (0, 0)) (by refine bf_ ?_ NB284_296; refine bf_ ?_ NB284_296; exact bk_ BK284) hb); replace BK288 := Aside0.mk (blk_below (g := gb288) (o := .cells #[.int .i64 t285, .int .i64 t286] 23 (0, 0)) (by refine bf_ ?_ NB288_296; refine bf_ ?_ NB288_296; exact bk_ BK288) hb); replace BK292 := Aside0.mk (blk_below (g := gb292) (o := .cells #[.int .i64 t289, .int .i64 t290] 23 (0, 0)) (by refine bf_ ?_ NB292_296; refine bf_ ?_ NB292_296; exact bk_ BK292) hb); replace BK296 := Aside0.mk (blk_below (g := gb296) (o := .cells #[.int .i64 t293, .int .i64 t294] 23 (0, 0)) (by refine bp_ (cs := #[.int .i64 t293, .int .i64 0]) ?_ 1; refine bp_ (cs := #[.int .i64 0, .int .i64 0]) ?_ 0; exact bk_ BK296) hb); replace HB := bws_ HB hb; (try clear hb); (try clear hb2); (try clear hk); (try clear hi)) | ((with_reducible refine gate_dst (N := 17) rfl ?_); refine box_event ?hg (N := 17) ?hd (cs := #[.int .i64 0, .int .i64 0]) (t := 23) ?hr ?_; (case hd => rfl); (case hg => rfl); (case hr => first | (go_simp; done) | (go_simp; rfl)); intro gb300 hg w121 hbox hb; have BK300 := Aside0.mk hbox; have GW300 := bwg_ HB hg; have GE300 := bwg_ HB hg; replace HB := bws_ HB hb; have NB274_300 := bkl_ BK274 hg; have NB300_274 := bkr_ BK274 hg; replace BK274 := bkb_ BK274 hb; have NB275_300 := bkl_ BK275 hg; have NB300_275 := bkr_ BK275 hg; replace BK275 := bkb_ BK275 hb; have NB276_300 := bkl_ BK276 hg; have NB300_276 := bkr_ BK276 hg; replace BK276 := bkb_ BK276 hb; have NB280_300 := bkl_ BK280 hg; have NB300_280 := bkr_ BK280 hg; replace BK280 := bkb_ BK280 hb; have NB284_300 := bkl_ BK284 hg; have NB300_284 := bkr_ BK284 hg; replace BK284 := bkb_ BK284 hb; have NB288_300 := bkl_ BK288 hg; have NB300_288 := bkr_ BK288 hg; replace BK288 := bkb_ BK288 hb; have NB292_300 := bkl_ BK292 hg; have NB300_292 := bkr_ BK292 hg; replace BK292 := bkb_ BK292 hb; have NB296_300 := bkl_ BK296 hg; have NB300_296 := bkr_ BK296 hg; replace BK296 := bkb_ BK296 hb; clear hb hbox hg; have hnb122 := NB300_274.out; have hnc122 := NB274_300.out; have hnb123 := NB300_275.out; have hnc123 := NB275_300.out; have hnb124 := NB300_276.out; have hnc124 := NB276_300.out; have hnb125 := NB300_280.out; have hnc125 := NB280_300.out; have hnb126 := NB300_284.out; have hnc126 := NB284_300.out; have hnb127 := NB300_288.out; have hnc127 := NB288_300.out; have hnb128 := NB300_292.out; have hnc128 := NB292_300.out; have hnb129 := NB300_296.out; have hnc129 := NB296_300.out; obtain ⟨hcz130_0, hcz130_1, hfz130_0, hfz130_1⟩ := bc2_ BK300; obtain ⟨hcz131_0, hcz131_1, hfz131_0, hfz131_1⟩ := bc2_ BK274; have hnb132 := NB276_280.out; have hnc132 := NB280_276.out; have hnb133 := NB276_288.out; have hnc133 := NB288_276.out; have hnb134 := NB276_292.out; have hnc134 := NB292_276.out; obtain ⟨hcz135_0, hcz135_1, hfz135_0, hfz135_1⟩ := bc2_ BK276) | ((with_reducible refine gate_callee (f := 19) rfl ?_); refine gla_ (some 80) Try.func19 #[.agg #[.int .i64 a0_0, .int .i64 a0_1], .agg #[.int .i64 a2_0, .int .i64 a2_1]] ?_; (with_reducible refine (num_Mul.calls kj34 a0_0 a0_1 a2_0 a2_1 t301 t302 t303 _ A84.out).mono ?_); rintro e w136 ⟨rfl, hb⟩; refine ⟨_, rfl, ?_⟩; replace BK274 := Aside0.mk (blk_below (g := gb274) (o := .cells #[.int .i64 a0_0, .int .i64 a0_1] 23 (0, 0)) (by refine bf_ ?_ NB274_300; refine bf_ ?_ NB274_300; exact bk_ BK274) hb); replace BK275 := Aside0.mk (blk_below (g := gb275) (o := .cells #[.int .i64 a1_0, .int .i64 a1_1] 23 (0, 0)) (by refine bf_ ?_ NB275_300; refine bf_ ?_ NB275_300; exact bk_ BK275) hb); replace BK276 := Aside0.mk (blk_below (g := gb276) (o := .cells #[.int .i64 a2_0, .int .i64 a2_1] 23 (0, 0)) (by refine bf_ ?_ NB276_300; refine bf_ ?_ NB276_300; exact bk_ BK276) hb); replace BK280 := Aside0.mk (blk_below (g := gb280) (o := .cells #[.int .i64 t277, .int .i64 t278] 23 (0, 0)) (by refine bf_ ?_ NB280_300; refine bf_ ?_ NB280_300; exact bk_ BK280) hb); replace BK284 := Aside0.mk (blk_below (g := gb284) (o := .cells #[.int .i64 t281, .int .i64 t282] 23 (0, 0)) (by refine bf_ ?_ NB284_300; refine bf_ ?_ NB284_300; exact bk_ BK284) hb); replace BK288 := Aside0.mk (blk_below (g := gb288) (o := .cells #[.int .i64 t285, .int .i64 t286] 23 (0, 0)) (by refine bf_ ?_ NB288_300; refine bf_ ?_ NB288_300; exact bk_ BK288) hb); replace BK292 := Aside0.mk (blk_below (g := gb292) (o := .cells #[.int .i64 t289, .int .i64 t290] 23 (0, 0)) (by refine bf_ ?_ NB292_300; refine bf_ ?_ NB292_300; exact bk_ BK292) hb); replace BK296 := Aside0.mk (blk_below (g := gb296) (o := .cells #[.int .i64 t293, .int .i64 t294] 23 (0, 0)) (by refine bf_ ?_ NB296_300; refine bf_ ?_ NB296_300; exact bk_ BK296) hb); replace BK300 := Aside0.mk (blk_below (g := gb300) (o := .cells #[.int .i64 t297, .int .i64 t298] 23 (0, 0)) (by refine bp_ (cs := #[.int .i64 t297, .int .i64 0]) ?_ 1; refine bp_ (cs := #[.int .i64 0, .int .i64 0]) ?_ 0; exact bk_ BK300) hb); replace HB := bws_ HB hb; (try clear hb); (try clear hb2); (try clear hk); (try clear hi)) | ((with_reducible refine gate_dst (N := 19) rfl ?_); refine box_event ?hg (N := 19) ?hd (cs := #[.int .i64 0, .int .i64 0]) (t := 23) ?hr ?_; (case hd => rfl); (case hg => rfl); (case hr => first | (go_simp; done) | (go_simp; rfl)); intro gb304 hg w137 hbox hb; have BK304 := Aside0.mk hbox; have GW304 := bwg_ HB hg; have GE304 := bwg_ HB hg; replace HB := bws_ HB hb; have NB274_304 := bkl_ BK274 hg; have NB304_274 := bkr_ BK274 hg; replace BK274 := bkb_ BK274 hb; have NB275_304 := bkl_ BK275 hg; have NB304_275 := bkr_ BK275 hg; replace BK275 := bkb_ BK275 hb; have NB276_304 := bkl_ BK276 hg; have NB304_276 := bkr_ BK276 hg; replace BK276 := bkb_ BK276 hb; have NB280_304 := bkl_ BK280 hg; have NB304_280 := bkr_ BK280 hg; replace BK280 := bkb_ BK280 hb; have NB284_304 := bkl_ BK284 hg; have NB304_284 := bkr_ BK284 hg; replace BK284 := bkb_ BK284 hb; have NB288_304 := bkl_ BK288 hg; have NB304_288 := bkr_ BK288 hg; replace BK288 := bkb_ BK288 hb; have NB292_304 := bkl_ BK292 hg; have NB304_292 := bkr_ BK292 hg; replace BK292 := bkb_ BK292 hb; have NB296_304 := bkl_ BK296 hg; have NB304_296 := bkr_ BK296 hg; replace BK296 := bkb_ BK296 hb; have NB300_304 := bkl_ BK300 hg; have NB304_300 := bkr_ BK300 hg; replace BK300 := bkb_ BK300 hb; clear hb hbox hg; have hnb138 := NB304_274.out; have hnc138 := NB274_304.out; have hnb139 := NB304_275.out; have hnc139 := NB275_304.out; have hnb140 := NB304_276.out; have hnc140 := NB276_304.out; have hnb141 := NB304_280.out; have hnc141 := NB280_304.out; have hnb142 := NB304_284.out; have hnc142 := NB284_304.out; have hnb143 := NB304_288.out; have hnc143 := NB288_304.out; have hnb144 := NB304_292.out; have hnc144 := NB292_304.out; have hnb145 := NB304_296.out; have hnc145 := NB296_304.out; have hnb146 := NB304_300.out; have hnc146 := NB300_304.out; obtain ⟨hcz147_0, hcz147_1, hfz147_0, hfz147_1⟩ := bc2_ BK304; obtain ⟨hcz148_0, hcz148_1, hfz148_0, hfz148_1⟩ := bc2_ BK300) | ((with_reducible refine gate_callee (f := 18) rfl ?_); refine gla_ (some 86) Try.func18 #[.agg #[.int .i64 t297, .int .i64 t298], .agg #[.int .i64 t301, .int .i64 t302]] ?_; (with_reducible refine (num_Add.calls kj34 t297 t298 t301 t302 t305 t306 t307 _ A85.out).mono ?_); rintro e w149 ⟨rfl, hb⟩; refine ⟨_, rfl, ?_⟩; replace BK274 := Aside0.mk (blk_below (g := gb274) (o := .cells #[.int .i64 a0_0, .int .i64 a0_1] 23 (0, 0)) (by refine bf_ ?_ NB274_304; refine bf_ ?_ NB274_304; exact bk_ BK274) hb); replace BK275 := Aside0.mk (blk_below (g := gb275) (o := .cells #[.int .i64 a1_0, .int .i64 a1_1] 23 (0, 0)) (by refine bf_ ?_ NB275_304; refine bf_ ?_ NB275_304; exact bk_ BK275) hb); replace BK276 := Aside0.mk (blk_below (g := gb276) (o := .cells #[.int .i64 a2_0, .int .i64 a2_1] 23 (0, 0)) (by refine bf_ ?_ NB276_304; refine bf_ ?_ NB276_304; exact bk_ BK276) hb); replace BK280 := Aside0.mk (blk_below (g := gb280) (o := .cells #[.int .i64 t277, .int .i64 t278] 23 (0, 0)) (by refine bf_ ?_ NB280_304; refine bf_ ?_ NB280_304; exact bk_ BK280) hb); replace BK284 := Aside0.mk (blk_below (g := gb284) (o := .cells #[.int .i64 t281, .int .i64 t282] 23 (0, 0)) (by refine bf_ ?_ NB284_304; refine bf_ ?_ NB284_304; exact bk_ BK284) hb); replace BK288 := Aside0.mk (blk_below (g := gb288) (o := .cells #[.int .i64 t285, .int .i64 t286] 23 (0, 0)) (by refine bf_ ?_ NB288_304; refine bf_ ?_ NB288_304; exact bk_ BK288) hb); replace BK292 := Aside0.mk (blk_below (g := gb292) (o := .cells #[.int .i64 t289, .int .i64 t290] 23 (0, 0)) (by refine bf_ ?_ NB292_304; refine bf_ ?_ NB292_304; exact bk_ BK292) hb); replace BK296 := Aside0.mk (blk_below (g := gb296) (o := .cells #[.int .i64 t293, .int .i64 t294] 23 (0, 0)) (by refine bf_ ?_ NB296_304; refine bf_ ?_ NB296_304; exact bk_ BK296) hb); replace BK300 := Aside0.mk (blk_below (g := gb300) (o := .cells #[.int .i64 t297, .int .i64 t298] 23 (0, 0)) (by refine bf_ ?_ NB300_304; refine bf_ ?_ NB300_304; exact bk_ BK300) hb); replace BK304 := Aside0.mk (blk_below (g := gb304) (o := .cells #[.int .i64 t301, .int .i64 t302] 23 (0, 0)) (by refine bp_ (cs := #[.int .i64 t301, .int .i64 0]) ?_ 1; refine bp_ (cs := #[.int .i64 0, .int .i64 0]) ?_ 0; exact bk_ BK304) hb); replace HB := bws_ HB hb; (try clear hb); (try clear hb2); (try clear hk); (try clear hi)) | ((with_reducible refine gate_dst (N := 21) rfl ?_); refine box_event ?hg (N := 21) ?hd (cs := #[.int .i64 0, .int .i64 0]) (t := 23) ?hr ?_; (case hd => rfl); (case hg => rfl); (case hr => first | (go_simp; done) | (go_simp; rfl)); intro gb308 hg w150 hbox hb; have BK308 := Aside0.mk hbox; have GW308 := bwg_ HB hg; have GE308 := bwg_ HB hg; replace HB := bws_ HB hb; have NB274_308 := bkl_ BK274 hg; have NB308_274 := bkr_ BK274 hg; replace BK274 := bkb_ BK274 hb; have NB275_308 := bkl_ BK275 hg; have NB308_275 := bkr_ BK275 hg; replace BK275 := bkb_ BK275 hb; have NB276_308 := bkl_ BK276 hg; have NB308_276 := bkr_ BK276 hg; replace BK276 := bkb_ BK276 hb; have NB280_308 := bkl_ BK280 hg; have NB308_280 := bkr_ BK280 hg; replace BK280 := bkb_ BK280 hb; have NB284_308 := bkl_ BK284 hg; have NB308_284 := bkr_ BK284 hg; replace BK284 := bkb_ BK284 hb; have NB288_308 := bkl_ BK288 hg; have NB308_288 := bkr_ BK288 hg; replace BK288 := bkb_ BK288 hb; have NB292_308 := bkl_ BK292 hg; have NB308_292 := bkr_ BK292 hg; replace BK292 := bkb_ BK292 hb; have NB296_308 := bkl_ BK296 hg; have NB308_296 := bkr_ BK296 hg; replace BK296 := bkb_ BK296 hb; have NB300_308 := bkl_ BK300 hg; have NB308_300 := bkr_ BK300 hg; replace BK300 := bkb_ BK300 hb; have NB304_308 := bkl_ BK304 hg; have NB308_304 := bkr_ BK304 hg; replace BK304 := bkb_ BK304 hb; clear hb hbox hg; have hnb151 := NB308_274.out; have hnc151 := NB274_308.out; have hnb152 := NB308_275.out; have hnc152 := NB275_308.out; have hnb153 := NB308_276.out; have hnc153 := NB276_308.out; have hnb154 := NB308_280.out; have hnc154 := NB280_308.out; have hnb155 := NB308_284.out; have hnc155 := NB284_308.out; have hnb156 := NB308_288.out; have hnc156 := NB288_308.out; have hnb157 := NB308_292.out; have hnc157 := NB292_308.out; have hnb158 := NB308_296.out; have hnc158 := NB296_308.out; have hnb159 := NB308_300.out; have hnc159 := NB300_308.out; have hnb160 := NB308_304.out; have hnc160 := NB304_308.out; obtain ⟨hcz161_0, hcz161_1, hfz161_0, hfz161_1⟩ := bc2_ BK308; obtain ⟨hcz162_0, hcz162_1, hfz162_0, hfz162_1⟩ := bc2_ BK296))
                       go_ret
                       exact ⟨by first | rfl | (simp [*] <;> rfl), bw_ HB⟩
                     · rw [if_neg c90] at H
                       have c90b0 : (!(t305 == t293) || (!(t306 == t294))) = false := by simpa using c90
                       clear c90
                       have H' := Aside0.mk H
                       clear H
                       have hnb163 := NB274_275.out
                       have hnc163 := NB275_274.out
                       have hnb164 := NB274_276.out
                       have hnc164 := NB276_274.out
                       have hnb165 := NB274_280.out
                       have hnc165 := NB280_274.out
                       have hnb166 := NB274_284.out
                       have hnc166 := NB284_274.out
                       have hnb167 := NB274_288.out
                       have hnc167 := NB288_274.out
                       have hnb168 := NB274_292.out
                       have hnc168 := NB292_274.out
                       obtain ⟨hcz169_0, hcz169_1, hfz169_0, hfz169_1⟩ := bc2_ BK274
                       have hnb170 := NB284_275.out
                       have hnc170 := NB275_284.out
                       have hnb171 := NB284_276.out
                       have hnc171 := NB276_284.out
                       have hnb172 := NB284_280.out
                       have hnc172 := NB280_284.out
                       have hnb173 := NB284_288.out
                       have hnc173 := NB288_284.out
                       have hnb174 := NB284_292.out
                       have hnc174 := NB292_284.out
                       obtain ⟨hcz175_0, hcz175_1, hfz175_0, hfz175_1⟩ := bc2_ BK284
                       go_wp2_with (first | ((with_reducible refine gate_callee (f := 19) rfl ?_); refine gla_ (some 68) Try.func19 #[.agg #[.int .i64 a0_0, .int .i64 a0_1], .agg #[.int .i64 t281, .int .i64 t282]] ?_; (with_reducible refine (num_Mul.calls kj34 a0_0 a0_1 t281 t282 t293 t294 t295 _ A82.out).mono ?_); rintro e w176 ⟨rfl, hb⟩; refine ⟨_, rfl, ?_⟩; replace BK274 := bkb_ BK274 hb; replace BK275 := bkb_ BK275 hb; replace BK276 := bkb_ BK276 hb; replace BK280 := bkb_ BK280 hb; replace BK284 := bkb_ BK284 hb; replace BK288 := bkb_ BK288 hb; replace BK292 := bkb_ BK292 hb; replace HB := bws_ HB hb; (try clear hb); (try clear hb2); (try clear hk); (try clear hi)) | ((with_reducible refine gate_dst (N := 15) rfl ?_); refine box_event ?hg (N := 15) ?hd (cs := #[.int .i64 0, .int .i64 0]) (t := 23) ?hr ?_; (case hd => rfl); (case hg => rfl); (case hr => first | (go_simp; done) | (go_simp; rfl)); intro gb296 hg w177 hbox hb; have BK296 := Aside0.mk hbox; have GW296 := bwg_ HB hg; have GE296 := bwg_ HB hg; replace HB := bws_ HB hb; have NB274_296 := bkl_ BK274 hg; have NB296_274 := bkr_ BK274 hg; replace BK274 := bkb_ BK274 hb; have NB275_296 := bkl_ BK275 hg; have NB296_275 := bkr_ BK275 hg; replace BK275 := bkb_ BK275 hb; have NB276_296 := bkl_ BK276 hg; have NB296_276 := bkr_ BK276 hg; replace BK276 := bkb_ BK276 hb; have NB280_296 := bkl_ BK280 hg; have NB296_280 := bkr_ BK280 hg; replace BK280 := bkb_ BK280 hb; have NB284_296 := bkl_ BK284 hg; have NB296_284 := bkr_ BK284 hg; replace BK284 := bkb_ BK284 hb; have NB288_296 := bkl_ BK288 hg; have NB296_288 := bkr_ BK288 hg; replace BK288 := bkb_ BK288 hb; have NB292_296 := bkl_ BK292 hg; have NB296_292 := bkr_ BK292 hg; replace BK292 := bkb_ BK292 hb; clear hb hbox hg; have hnb178 := NB296_274.out; have hnc178 := NB274_296.out; have hnb179 := NB296_275.out; have hnc179 := NB275_296.out; have hnb180 := NB296_276.out; have hnc180 := NB276_296.out; have hnb181 := NB296_280.out; have hnc181 := NB280_296.out; have hnb182 := NB296_284.out; have hnc182 := NB284_296.out; have hnb183 := NB296_288.out; have hnc183 := NB288_296.out; have hnb184 := NB296_292.out; have hnc184 := NB292_296.out; obtain ⟨hcz185_0, hcz185_1, hfz185_0, hfz185_1⟩ := bc2_ BK296; obtain ⟨hcz186_0, hcz186_1, hfz186_0, hfz186_1⟩ := bc2_ BK274; have hnb187 := NB275_276.out; have hnc187 := NB276_275.out; have hnb188 := NB275_280.out; have hnc188 := NB280_275.out; have hnb189 := NB275_288.out; have hnc189 := NB288_275.out; have hnb190 := NB275_292.out; have hnc190 := NB292_275.out; obtain ⟨hcz191_0, hcz191_1, hfz191_0, hfz191_1⟩ := bc2_ BK275) | ((with_reducible refine gate_callee (f := 19) rfl ?_); refine gla_ (some 74) Try.func19 #[.agg #[.int .i64 a0_0, .int .i64 a0_1], .agg #[.int .i64 a1_0, .int .i64 a1_1]] ?_; (with_reducible refine (num_Mul.calls kj34 a0_0 a0_1 a1_0 a1_1 t297 t298 t299 _ A83.out).mono ?_); rintro e w192 ⟨rfl, hb⟩; refine ⟨_, rfl, ?_⟩; replace BK274 := Aside0.mk (blk_below (g := gb274) (o := .cells #[.int .i64 a0_0, .int .i64 a0_1] 23 (0, 0)) (by refine bf_ ?_ NB274_296; refine bf_ ?_ NB274_296; exact bk_ BK274) hb); replace BK275 := Aside0.mk (blk_below (g := gb275) (o := .cells #[.int .i64 a1_0, .int .i64 a1_1] 23 (0, 0)) (by refine bf_ ?_ NB275_296; refine bf_ ?_ NB275_296; exact bk_ BK275) hb); replace BK276 := Aside0.mk (blk_below (g := gb276) (o := .cells #[.int .i64 a2_0, .int .i64 a2_1] 23 (0, 0)) (by refine bf_ ?_ NB276_296; refine bf_ ?_ NB276_296; exact bk_ BK276) hb); replace BK280 := Aside0.mk (blk_below (g := gb280) (o := .cells #[.int .i64 t277, .int .i64 t278] 23 (0, 0)) (by refine bf_ ?_ NB280_296; refine bf_ ?_ NB280_296; exact bk_ BK280) hb); replace BK284 := Aside0.mk (blk_below (g := gb284) (o := .cells #[.int .i64 t281, .int .i64 t282] 23 (0, 0)) (by refine bf_ ?_ NB284_296; refine bf_ ?_ NB284_296; exact bk_ BK284) hb); replace BK288 := Aside0.mk (blk_below (g := gb288) (o := .cells #[.int .i64 t285, .int .i64 t286] 23 (0, 0)) (by refine bf_ ?_ NB288_296; refine bf_ ?_ NB288_296; exact bk_ BK288) hb); replace BK292 := Aside0.mk (blk_below (g := gb292) (o := .cells #[.int .i64 t289, .int .i64 t290] 23 (0, 0)) (by refine bf_ ?_ NB292_296; refine bf_ ?_ NB292_296; exact bk_ BK292) hb); replace BK296 := Aside0.mk (blk_below (g := gb296) (o := .cells #[.int .i64 t293, .int .i64 t294] 23 (0, 0)) (by refine bp_ (cs := #[.int .i64 t293, .int .i64 0]) ?_ 1; refine bp_ (cs := #[.int .i64 0, .int .i64 0]) ?_ 0; exact bk_ BK296) hb); replace HB := bws_ HB hb; (try clear hb); (try clear hb2); (try clear hk); (try clear hi)) | ((with_reducible refine gate_dst (N := 17) rfl ?_); refine box_event ?hg (N := 17) ?hd (cs := #[.int .i64 0, .int .i64 0]) (t := 23) ?hr ?_; (case hd => rfl); (case hg => rfl); (case hr => first | (go_simp; done) | (go_simp; rfl)); intro gb300 hg w193 hbox hb; have BK300 := Aside0.mk hbox; have GW300 := bwg_ HB hg; have GE300 := bwg_ HB hg; replace HB := bws_ HB hb; have NB274_300 := bkl_ BK274 hg; have NB300_274 := bkr_ BK274 hg; replace BK274 := bkb_ BK274 hb; have NB275_300 := bkl_ BK275 hg; have NB300_275 := bkr_ BK275 hg; replace BK275 := bkb_ BK275 hb; have NB276_300 := bkl_ BK276 hg; have NB300_276 := bkr_ BK276 hg; replace BK276 := bkb_ BK276 hb; have NB280_300 := bkl_ BK280 hg; have NB300_280 := bkr_ BK280 hg; replace BK280 := bkb_ BK280 hb; have NB284_300 := bkl_ BK284 hg; have NB300_284 := bkr_ BK284 hg; replace BK284 := bkb_ BK284 hb; have NB288_300 := bkl_ BK288 hg; have NB300_288 := bkr_ BK288 hg; replace BK288 := bkb_ BK288 hb; have NB292_300 := bkl_ BK292 hg; have NB300_292 := bkr_ BK292 hg; replace BK292 := bkb_ BK292 hb; have NB296_300 := bkl_ BK296 hg; have NB300_296 := bkr_ BK296 hg; replace BK296 := bkb_ BK296 hb; clear hb hbox hg; have hnb194 := NB300_274.out; have hnc194 := NB274_300.out; have hnb195 := NB300_275.out; have hnc195 := NB275_300.out; have hnb196 := NB300_276.out; have hnc196 := NB276_300.out; have hnb197 := NB300_280.out; have hnc197 := NB280_300.out; have hnb198 := NB300_284.out; have hnc198 := NB284_300.out; have hnb199 := NB300_288.out; have hnc199 := NB288_300.out; have hnb200 := NB300_292.out; have hnc200 := NB292_300.out; have hnb201 := NB300_296.out; have hnc201 := NB296_300.out; obtain ⟨hcz202_0, hcz202_1, hfz202_0, hfz202_1⟩ := bc2_ BK300; obtain ⟨hcz203_0, hcz203_1, hfz203_0, hfz203_1⟩ := bc2_ BK274; have hnb204 := NB276_280.out; have hnc204 := NB280_276.out; have hnb205 := NB276_288.out; have hnc205 := NB288_276.out; have hnb206 := NB276_292.out; have hnc206 := NB292_276.out; obtain ⟨hcz207_0, hcz207_1, hfz207_0, hfz207_1⟩ := bc2_ BK276) | ((with_reducible refine gate_callee (f := 19) rfl ?_); refine gla_ (some 80) Try.func19 #[.agg #[.int .i64 a0_0, .int .i64 a0_1], .agg #[.int .i64 a2_0, .int .i64 a2_1]] ?_; (with_reducible refine (num_Mul.calls kj34 a0_0 a0_1 a2_0 a2_1 t301 t302 t303 _ A84.out).mono ?_); rintro e w208 ⟨rfl, hb⟩; refine ⟨_, rfl, ?_⟩; replace BK274 := Aside0.mk (blk_below (g := gb274) (o := .cells #[.int .i64 a0_0, .int .i64 a0_1] 23 (0, 0)) (by refine bf_ ?_ NB274_300; refine bf_ ?_ NB274_300; exact bk_ BK274) hb); replace BK275 := Aside0.mk (blk_below (g := gb275) (o := .cells #[.int .i64 a1_0, .int .i64 a1_1] 23 (0, 0)) (by refine bf_ ?_ NB275_300; refine bf_ ?_ NB275_300; exact bk_ BK275) hb); replace BK276 := Aside0.mk (blk_below (g := gb276) (o := .cells #[.int .i64 a2_0, .int .i64 a2_1] 23 (0, 0)) (by refine bf_ ?_ NB276_300; refine bf_ ?_ NB276_300; exact bk_ BK276) hb); replace BK280 := Aside0.mk (blk_below (g := gb280) (o := .cells #[.int .i64 t277, .int .i64 t278] 23 (0, 0)) (by refine bf_ ?_ NB280_300; refine bf_ ?_ NB280_300; exact bk_ BK280) hb); replace BK284 := Aside0.mk (blk_below (g := gb284) (o := .cells #[.int .i64 t281, .int .i64 t282] 23 (0, 0)) (by refine bf_ ?_ NB284_300; refine bf_ ?_ NB284_300; exact bk_ BK284) hb); replace BK288 := Aside0.mk (blk_below (g := gb288) (o := .cells #[.int .i64 t285, .int .i64 t286] 23 (0, 0)) (by refine bf_ ?_ NB288_300; refine bf_ ?_ NB288_300; exact bk_ BK288) hb); replace BK292 := Aside0.mk (blk_below (g := gb292) (o := .cells #[.int .i64 t289, .int .i64 t290] 23 (0, 0)) (by refine bf_ ?_ NB292_300; refine bf_ ?_ NB292_300; exact bk_ BK292) hb); replace BK296 := Aside0.mk (blk_below (g := gb296) (o := .cells #[.int .i64 t293, .int .i64 t294] 23 (0, 0)) (by refine bf_ ?_ NB296_300; refine bf_ ?_ NB296_300; exact bk_ BK296) hb); replace BK300 := Aside0.mk (blk_below (g := gb300) (o := .cells #[.int .i64 t297, .int .i64 t298] 23 (0, 0)) (by refine bp_ (cs := #[.int .i64 t297, .int .i64 0]) ?_ 1; refine bp_ (cs := #[.int .i64 0, .int .i64 0]) ?_ 0; exact bk_ BK300) hb); replace HB := bws_ HB hb; (try clear hb); (try clear hb2); (try clear hk); (try clear hi)) | ((with_reducible refine gate_dst (N := 19) rfl ?_); refine box_event ?hg (N := 19) ?hd (cs := #[.int .i64 0, .int .i64 0]) (t := 23) ?hr ?_; (case hd => rfl); (case hg => rfl); (case hr => first | (go_simp; done) | (go_simp; rfl)); intro gb304 hg w209 hbox hb; have BK304 := Aside0.mk hbox; have GW304 := bwg_ HB hg; have GE304 := bwg_ HB hg; replace HB := bws_ HB hb; have NB274_304 := bkl_ BK274 hg; have NB304_274 := bkr_ BK274 hg; replace BK274 := bkb_ BK274 hb; have NB275_304 := bkl_ BK275 hg; have NB304_275 := bkr_ BK275 hg; replace BK275 := bkb_ BK275 hb; have NB276_304 := bkl_ BK276 hg; have NB304_276 := bkr_ BK276 hg; replace BK276 := bkb_ BK276 hb; have NB280_304 := bkl_ BK280 hg; have NB304_280 := bkr_ BK280 hg; replace BK280 := bkb_ BK280 hb; have NB284_304 := bkl_ BK284 hg; have NB304_284 := bkr_ BK284 hg; replace BK284 := bkb_ BK284 hb; have NB288_304 := bkl_ BK288 hg; have NB304_288 := bkr_ BK288 hg; replace BK288 := bkb_ BK288 hb; have NB292_304 := bkl_ BK292 hg; have NB304_292 := bkr_ BK292 hg; replace BK292 := bkb_ BK292 hb; have NB296_304 := bkl_ BK296 hg; have NB304_296 := bkr_ BK296 hg; replace BK296 := bkb_ BK296 hb; have NB300_304 := bkl_ BK300 hg; have NB304_300 := bkr_ BK300 hg; replace BK300 := bkb_ BK300 hb; clear hb hbox hg; have hnb210 := NB304_274.out; have hnc210 := NB274_304.out; have hnb211 := NB304_275.out; have hnc211 := NB275_304.out; have hnb212 := NB304_276.out; have hnc212 := NB276_304.out; have hnb213 := NB304_280.out; have hnc213 := NB280_304.out; have hnb214 := NB304_284.out; have hnc214 := NB284_304.out; have hnb215 := NB304_288.out; have hnc215 := NB288_304.out; have hnb216 := NB304_292.out; have hnc216 := NB292_304.out; have hnb217 := NB304_296.out; have hnc217 := NB296_304.out; have hnb218 := NB304_300.out; have hnc218 := NB300_304.out; obtain ⟨hcz219_0, hcz219_1, hfz219_0, hfz219_1⟩ := bc2_ BK304; obtain ⟨hcz220_0, hcz220_1, hfz220_0, hfz220_1⟩ := bc2_ BK300) | ((with_reducible refine gate_callee (f := 18) rfl ?_); refine gla_ (some 86) Try.func18 #[.agg #[.int .i64 t297, .int .i64 t298], .agg #[.int .i64 t301, .int .i64 t302]] ?_; (with_reducible refine (num_Add.calls kj34 t297 t298 t301 t302 t305 t306 t307 _ A85.out).mono ?_); rintro e w221 ⟨rfl, hb⟩; refine ⟨_, rfl, ?_⟩; replace BK274 := Aside0.mk (blk_below (g := gb274) (o := .cells #[.int .i64 a0_0, .int .i64 a0_1] 23 (0, 0)) (by refine bf_ ?_ NB274_304; refine bf_ ?_ NB274_304; exact bk_ BK274) hb); replace BK275 := Aside0.mk (blk_below (g := gb275) (o := .cells #[.int .i64 a1_0, .int .i64 a1_1] 23 (0, 0)) (by refine bf_ ?_ NB275_304; refine bf_ ?_ NB275_304; exact bk_ BK275) hb); replace BK276 := Aside0.mk (blk_below (g := gb276) (o := .cells #[.int .i64 a2_0, .int .i64 a2_1] 23 (0, 0)) (by refine bf_ ?_ NB276_304; refine bf_ ?_ NB276_304; exact bk_ BK276) hb); replace BK280 := Aside0.mk (blk_below (g := gb280) (o := .cells #[.int .i64 t277, .int .i64 t278] 23 (0, 0)) (by refine bf_ ?_ NB280_304; refine bf_ ?_ NB280_304; exact bk_ BK280) hb); replace BK284 := Aside0.mk (blk_below (g := gb284) (o := .cells #[.int .i64 t281, .int .i64 t282] 23 (0, 0)) (by refine bf_ ?_ NB284_304; refine bf_ ?_ NB284_304; exact bk_ BK284) hb); replace BK288 := Aside0.mk (blk_below (g := gb288) (o := .cells #[.int .i64 t285, .int .i64 t286] 23 (0, 0)) (by refine bf_ ?_ NB288_304; refine bf_ ?_ NB288_304; exact bk_ BK288) hb); replace BK292 := Aside0.mk (blk_below (g := gb292) (o := .cells #[.int .i64 t289, .int .i64 t290] 23 (0, 0)) (by refine bf_ ?_ NB292_304; refine bf_ ?_ NB292_304; exact bk_ BK292) hb); replace BK296 := Aside0.mk (blk_below (g := gb296) (o := .cells #[.int .i64 t293, .int .i64 t294] 23 (0, 0)) (by refine bf_ ?_ NB296_304; refine bf_ ?_ NB296_304; exact bk_ BK296) hb); replace BK300 := Aside0.mk (blk_below (g := gb300) (o := .cells #[.int .i64 t297, .int .i64 t298] 23 (0, 0)) (by refine bf_ ?_ NB300_304; refine bf_ ?_ NB300_304; exact bk_ BK300) hb); replace BK304 := Aside0.mk (blk_below (g := gb304) (o := .cells #[.int .i64 t301, .int .i64 t302] 23 (0, 0)) (by refine bp_ (cs := #[.int .i64 t301, .int .i64 0]) ?_ 1; refine bp_ (cs := #[.int .i64 0, .int .i64 0]) ?_ 0; exact bk_ BK304) hb); replace HB := bws_ HB hb; (try clear hb); (try clear hb2); (try clear hk); (try clear hi)) | ((with_reducible refine gate_dst (N := 21) rfl ?_); refine box_event ?hg (N := 21) ?hd (cs := #[.int .i64 0, .int .i64 0]) (t := 23) ?hr ?_; (case hd => rfl); (case hg => rfl); (case hr => first | (go_simp; done) | (go_simp; rfl)); intro gb308 hg w222 hbox hb; have BK308 := Aside0.mk hbox; have GW308 := bwg_ HB hg; have GE308 := bwg_ HB hg; replace HB := bws_ HB hb; have NB274_308 := bkl_ BK274 hg; have NB308_274 := bkr_ BK274 hg; replace BK274 := bkb_ BK274 hb; have NB275_308 := bkl_ BK275 hg; have NB308_275 := bkr_ BK275 hg; replace BK275 := bkb_ BK275 hb; have NB276_308 := bkl_ BK276 hg; have NB308_276 := bkr_ BK276 hg; replace BK276 := bkb_ BK276 hb; have NB280_308 := bkl_ BK280 hg; have NB308_280 := bkr_ BK280 hg; replace BK280 := bkb_ BK280 hb; have NB284_308 := bkl_ BK284 hg; have NB308_284 := bkr_ BK284 hg; replace BK284 := bkb_ BK284 hb; have NB288_308 := bkl_ BK288 hg; have NB308_288 := bkr_ BK288 hg; replace BK288 := bkb_ BK288 hb; have NB292_308 := bkl_ BK292 hg; have NB308_292 := bkr_ BK292 hg; replace BK292 := bkb_ BK292 hb; have NB296_308 := bkl_ BK296 hg; have NB308_296 := bkr_ BK296 hg; replace BK296 := bkb_ BK296 hb; have NB300_308 := bkl_ BK300 hg; have NB308_300 := bkr_ BK300 hg; replace BK300 := bkb_ BK300 hb; have NB304_308 := bkl_ BK304 hg; have NB308_304 := bkr_ BK304 hg; replace BK304 := bkb_ BK304 hb; clear hb hbox hg; have hnb223 := NB308_274.out; have hnc223 := NB274_308.out; have hnb224 := NB308_275.out; have hnc224 := NB275_308.out; have hnb225 := NB308_276.out; have hnc225 := NB276_308.out; have hnb226 := NB308_280.out; have hnc226 := NB280_308.out; have hnb227 := NB308_284.out; have hnc227 := NB284_308.out; have hnb228 := NB308_288.out; have hnc228 := NB288_308.out; have hnb229 := NB308_292.out; have hnc229 := NB292_308.out; have hnb230 := NB308_296.out; have hnc230 := NB296_308.out; have hnb231 := NB308_300.out; have hnc231 := NB300_308.out; have hnb232 := NB308_304.out; have hnc232 := NB304_308.out; obtain ⟨hcz233_0, hcz233_1, hfz233_0, hfz233_1⟩ := bc2_ BK308; obtain ⟨hcz234_0, hcz234_1, hfz234_0, hfz234_1⟩ := bc2_ BK296))
                       go_meet
                       case rel => exact ⟨_, H', ⟨by have := HJ5.out; have := HJ34.out; first | omega | exact Nat.le_refl _⟩, ⟨by refine bf_ ?_ NB274_308; refine bf_ ?_ NB274_308; exact bk_ BK274⟩, ⟨by refine bf_ ?_ NB275_308; refine bf_ ?_ NB275_308; exact bk_ BK275⟩, ⟨by refine bf_ ?_ NB276_308; refine bf_ ?_ NB276_308; exact bk_ BK276⟩, ⟨by refine bf_ ?_ NB280_308; refine bf_ ?_ NB280_308; exact bk_ BK280⟩, ⟨by refine bf_ ?_ NB284_308; refine bf_ ?_ NB284_308; exact bk_ BK284⟩, ⟨bw_ HB⟩⟩
                   · rw [if_neg c89] at H
                     have c89b0 : (t307 == 0) = false := beq_eq_false_iff_ne.mpr c89
                     have c89b1 : (t307 != 0) = true := bne_iff_ne.mpr c89
                     obtain rfl := Option.some.inj H
                     have hnb235 := NB274_275.out
                     have hnc235 := NB275_274.out
                     have hnb236 := NB274_276.out
                     have hnc236 := NB276_274.out
                     have hnb237 := NB274_280.out
                     have hnc237 := NB280_274.out
                     have hnb238 := NB274_284.out
                     have hnc238 := NB284_274.out
                     have hnb239 := NB274_288.out
                     have hnc239 := NB288_274.out
                     have hnb240 := NB274_292.out
                     have hnc240 := NB292_274.out
                     obtain ⟨hcz241_0, hcz241_1, hfz241_0, hfz241_1⟩ := bc2_ BK274
                     have hnb242 := NB284_275.out
                     have hnc242 := NB275_284.out
                     have hnb243 := NB284_276.out
                     have hnc243 := NB276_284.out
                     have hnb244 := NB284_280.out
                     have hnc244 := NB280_284.out
                     have hnb245 := NB284_288.out
                     have hnc245 := NB288_284.out
                     have hnb246 := NB284_292.out
                     have hnc246 := NB292_284.out
                     obtain ⟨hcz247_0, hcz247_1, hfz247_0, hfz247_1⟩ := bc2_ BK284
                     go_wp2_with (first | ((with_reducible refine gate_callee (f := 19) rfl ?_); refine gla_ (some 68) Try.func19 #[.agg #[.int .i64 a0_0, .int .i64 a0_1], .agg #[.int .i64 t281, .int .i64 t282]] ?_; (with_reducible refine (num_Mul.calls kj34 a0_0 a0_1 t281 t282 t293 t294 t295 _ A82.out).mono ?_); rintro e w248 ⟨rfl, hb⟩; refine ⟨_, rfl, ?_⟩; replace BK274 := bkb_ BK274 hb; replace BK275 := bkb_ BK275 hb; replace BK276 := bkb_ BK276 hb; replace BK280 := bkb_ BK280 hb; replace BK284 := bkb_ BK284 hb; replace BK288 := bkb_ BK288 hb; replace BK292 := bkb_ BK292 hb; replace HB := bws_ HB hb; (try clear hb); (try clear hb2); (try clear hk); (try clear hi)) | ((with_reducible refine gate_dst (N := 15) rfl ?_); refine box_event ?hg (N := 15) ?hd (cs := #[.int .i64 0, .int .i64 0]) (t := 23) ?hr ?_; (case hd => rfl); (case hg => rfl); (case hr => first | (go_simp; done) | (go_simp; rfl)); intro gb296 hg w249 hbox hb; have BK296 := Aside0.mk hbox; have GW296 := bwg_ HB hg; have GE296 := bwg_ HB hg; replace HB := bws_ HB hb; have NB274_296 := bkl_ BK274 hg; have NB296_274 := bkr_ BK274 hg; replace BK274 := bkb_ BK274 hb; have NB275_296 := bkl_ BK275 hg; have NB296_275 := bkr_ BK275 hg; replace BK275 := bkb_ BK275 hb; have NB276_296 := bkl_ BK276 hg; have NB296_276 := bkr_ BK276 hg; replace BK276 := bkb_ BK276 hb; have NB280_296 := bkl_ BK280 hg; have NB296_280 := bkr_ BK280 hg; replace BK280 := bkb_ BK280 hb; have NB284_296 := bkl_ BK284 hg; have NB296_284 := bkr_ BK284 hg; replace BK284 := bkb_ BK284 hb; have NB288_296 := bkl_ BK288 hg; have NB296_288 := bkr_ BK288 hg; replace BK288 := bkb_ BK288 hb; have NB292_296 := bkl_ BK292 hg; have NB296_292 := bkr_ BK292 hg; replace BK292 := bkb_ BK292 hb; clear hb hbox hg; have hnb250 := NB296_274.out; have hnc250 := NB274_296.out; have hnb251 := NB296_275.out; have hnc251 := NB275_296.out; have hnb252 := NB296_276.out; have hnc252 := NB276_296.out; have hnb253 := NB296_280.out; have hnc253 := NB280_296.out; have hnb254 := NB296_284.out; have hnc254 := NB284_296.out; have hnb255 := NB296_288.out; have hnc255 := NB288_296.out; have hnb256 := NB296_292.out; have hnc256 := NB292_296.out; obtain ⟨hcz257_0, hcz257_1, hfz257_0, hfz257_1⟩ := bc2_ BK296; obtain ⟨hcz258_0, hcz258_1, hfz258_0, hfz258_1⟩ := bc2_ BK274; have hnb259 := NB275_276.out; have hnc259 := NB276_275.out; have hnb260 := NB275_280.out; have hnc260 := NB280_275.out; have hnb261 := NB275_288.out; have hnc261 := NB288_275.out; have hnb262 := NB275_292.out; have hnc262 := NB292_275.out; obtain ⟨hcz263_0, hcz263_1, hfz263_0, hfz263_1⟩ := bc2_ BK275) | ((with_reducible refine gate_callee (f := 19) rfl ?_); refine gla_ (some 74) Try.func19 #[.agg #[.int .i64 a0_0, .int .i64 a0_1], .agg #[.int .i64 a1_0, .int .i64 a1_1]] ?_; (with_reducible refine (num_Mul.calls kj34 a0_0 a0_1 a1_0 a1_1 t297 t298 t299 _ A83.out).mono ?_); rintro e w264 ⟨rfl, hb⟩; refine ⟨_, rfl, ?_⟩; replace BK274 := Aside0.mk (blk_below (g := gb274) (o := .cells #[.int .i64 a0_0, .int .i64 a0_1] 23 (0, 0)) (by refine bf_ ?_ NB274_296; refine bf_ ?_ NB274_296; exact bk_ BK274) hb); replace BK275 := Aside0.mk (blk_below (g := gb275) (o := .cells #[.int .i64 a1_0, .int .i64 a1_1] 23 (0, 0)) (by refine bf_ ?_ NB275_296; refine bf_ ?_ NB275_296; exact bk_ BK275) hb); replace BK276 := Aside0.mk (blk_below (g := gb276) (o := .cells #[.int .i64 a2_0, .int .i64 a2_1] 23 (0, 0)) (by refine bf_ ?_ NB276_296; refine bf_ ?_ NB276_296; exact bk_ BK276) hb); replace BK280 := Aside0.mk (blk_below (g := gb280) (o := .cells #[.int .i64 t277, .int .i64 t278] 23 (0, 0)) (by refine bf_ ?_ NB280_296; refine bf_ ?_ NB280_296; exact bk_ BK280) hb); replace BK284 := Aside0.mk (blk_below (g := gb284) (o := .cells #[.int .i64 t281, .int .i64 t282] 23 (0, 0)) (by refine bf_ ?_ NB284_296; refine bf_ ?_ NB284_296; exact bk_ BK284) hb); replace BK288 := Aside0.mk (blk_below (g := gb288) (o := .cells #[.int .i64 t285, .int .i64 t286] 23 (0, 0)) (by refine bf_ ?_ NB288_296; refine bf_ ?_ NB288_296; exact bk_ BK288) hb); replace BK292 := Aside0.mk (blk_below (g := gb292) (o := .cells #[.int .i64 t289, .int .i64 t290] 23 (0, 0)) (by refine bf_ ?_ NB292_296; refine bf_ ?_ NB292_296; exact bk_ BK292) hb); replace BK296 := Aside0.mk (blk_below (g := gb296) (o := .cells #[.int .i64 t293, .int .i64 t294] 23 (0, 0)) (by refine bp_ (cs := #[.int .i64 t293, .int .i64 0]) ?_ 1; refine bp_ (cs := #[.int .i64 0, .int .i64 0]) ?_ 0; exact bk_ BK296) hb); replace HB := bws_ HB hb; (try clear hb); (try clear hb2); (try clear hk); (try clear hi)) | ((with_reducible refine gate_dst (N := 17) rfl ?_); refine box_event ?hg (N := 17) ?hd (cs := #[.int .i64 0, .int .i64 0]) (t := 23) ?hr ?_; (case hd => rfl); (case hg => rfl); (case hr => first | (go_simp; done) | (go_simp; rfl)); intro gb300 hg w265 hbox hb; have BK300 := Aside0.mk hbox; have GW300 := bwg_ HB hg; have GE300 := bwg_ HB hg; replace HB := bws_ HB hb; have NB274_300 := bkl_ BK274 hg; have NB300_274 := bkr_ BK274 hg; replace BK274 := bkb_ BK274 hb; have NB275_300 := bkl_ BK275 hg; have NB300_275 := bkr_ BK275 hg; replace BK275 := bkb_ BK275 hb; have NB276_300 := bkl_ BK276 hg; have NB300_276 := bkr_ BK276 hg; replace BK276 := bkb_ BK276 hb; have NB280_300 := bkl_ BK280 hg; have NB300_280 := bkr_ BK280 hg; replace BK280 := bkb_ BK280 hb; have NB284_300 := bkl_ BK284 hg; have NB300_284 := bkr_ BK284 hg; replace BK284 := bkb_ BK284 hb; have NB288_300 := bkl_ BK288 hg; have NB300_288 := bkr_ BK288 hg; replace BK288 := bkb_ BK288 hb; have NB292_300 := bkl_ BK292 hg; have NB300_292 := bkr_ BK292 hg; replace BK292 := bkb_ BK292 hb; have NB296_300 := bkl_ BK296 hg; have NB300_296 := bkr_ BK296 hg; replace BK296 := bkb_ BK296 hb; clear hb hbox hg; have hnb266 := NB300_274.out; have hnc266 := NB274_300.out; have hnb267 := NB300_275.out; have hnc267 := NB275_300.out; have hnb268 := NB300_276.out; have hnc268 := NB276_300.out; have hnb269 := NB300_280.out; have hnc269 := NB280_300.out; have hnb270 := NB300_284.out; have hnc270 := NB284_300.out; have hnb271 := NB300_288.out; have hnc271 := NB288_300.out; have hnb272 := NB300_292.out; have hnc272 := NB292_300.out; have hnb273 := NB300_296.out; have hnc273 := NB296_300.out; obtain ⟨hcz274_0, hcz274_1, hfz274_0, hfz274_1⟩ := bc2_ BK300; obtain ⟨hcz275_0, hcz275_1, hfz275_0, hfz275_1⟩ := bc2_ BK274; have hnb276 := NB276_280.out; have hnc276 := NB280_276.out; have hnb277 := NB276_288.out; have hnc277 := NB288_276.out; have hnb278 := NB276_292.out; have hnc278 := NB292_276.out; obtain ⟨hcz279_0, hcz279_1, hfz279_0, hfz279_1⟩ := bc2_ BK276) | ((with_reducible refine gate_callee (f := 19) rfl ?_); refine gla_ (some 80) Try.func19 #[.agg #[.int .i64 a0_0, .int .i64 a0_1], .agg #[.int .i64 a2_0, .int .i64 a2_1]] ?_; (with_reducible refine (num_Mul.calls kj34 a0_0 a0_1 a2_0 a2_1 t301 t302 t303 _ A84.out).mono ?_); rintro e w280 ⟨rfl, hb⟩; refine ⟨_, rfl, ?_⟩; replace BK274 := Aside0.mk (blk_below (g := gb274) (o := .cells #[.int .i64 a0_0, .int .i64 a0_1] 23 (0, 0)) (by refine bf_ ?_ NB274_300; refine bf_ ?_ NB274_300; exact bk_ BK274) hb); replace BK275 := Aside0.mk (blk_below (g := gb275) (o := .cells #[.int .i64 a1_0, .int .i64 a1_1] 23 (0, 0)) (by refine bf_ ?_ NB275_300; refine bf_ ?_ NB275_300; exact bk_ BK275) hb); replace BK276 := Aside0.mk (blk_below (g := gb276) (o := .cells #[.int .i64 a2_0, .int .i64 a2_1] 23 (0, 0)) (by refine bf_ ?_ NB276_300; refine bf_ ?_ NB276_300; exact bk_ BK276) hb); replace BK280 := Aside0.mk (blk_below (g := gb280) (o := .cells #[.int .i64 t277, .int .i64 t278] 23 (0, 0)) (by refine bf_ ?_ NB280_300; refine bf_ ?_ NB280_300; exact bk_ BK280) hb); replace BK284 := Aside0.mk (blk_below (g := gb284) (o := .cells #[.int .i64 t281, .int .i64 t282] 23 (0, 0)) (by refine bf_ ?_ NB284_300; refine bf_ ?_ NB284_300; exact bk_ BK284) hb); replace BK288 := Aside0.mk (blk_below (g := gb288) (o := .cells #[.int .i64 t285, .int .i64 t286] 23 (0, 0)) (by refine bf_ ?_ NB288_300; refine bf_ ?_ NB288_300; exact bk_ BK288) hb); replace BK292 := Aside0.mk (blk_below (g := gb292) (o := .cells #[.int .i64 t289, .int .i64 t290] 23 (0, 0)) (by refine bf_ ?_ NB292_300; refine bf_ ?_ NB292_300; exact bk_ BK292) hb); replace BK296 := Aside0.mk (blk_below (g := gb296) (o := .cells #[.int .i64 t293, .int .i64 t294] 23 (0, 0)) (by refine bf_ ?_ NB296_300; refine bf_ ?_ NB296_300; exact bk_ BK296) hb); replace BK300 := Aside0.mk (blk_below (g := gb300) (o := .cells #[.int .i64 t297, .int .i64 t298] 23 (0, 0)) (by refine bp_ (cs := #[.int .i64 t297, .int .i64 0]) ?_ 1; refine bp_ (cs := #[.int .i64 0, .int .i64 0]) ?_ 0; exact bk_ BK300) hb); replace HB := bws_ HB hb; (try clear hb); (try clear hb2); (try clear hk); (try clear hi)) | ((with_reducible refine gate_dst (N := 19) rfl ?_); refine box_event ?hg (N := 19) ?hd (cs := #[.int .i64 0, .int .i64 0]) (t := 23) ?hr ?_; (case hd => rfl); (case hg => rfl); (case hr => first | (go_simp; done) | (go_simp; rfl)); intro gb304 hg w281 hbox hb; have BK304 := Aside0.mk hbox; have GW304 := bwg_ HB hg; have GE304 := bwg_ HB hg; replace HB := bws_ HB hb; have NB274_304 := bkl_ BK274 hg; have NB304_274 := bkr_ BK274 hg; replace BK274 := bkb_ BK274 hb; have NB275_304 := bkl_ BK275 hg; have NB304_275 := bkr_ BK275 hg; replace BK275 := bkb_ BK275 hb; have NB276_304 := bkl_ BK276 hg; have NB304_276 := bkr_ BK276 hg; replace BK276 := bkb_ BK276 hb; have NB280_304 := bkl_ BK280 hg; have NB304_280 := bkr_ BK280 hg; replace BK280 := bkb_ BK280 hb; have NB284_304 := bkl_ BK284 hg; have NB304_284 := bkr_ BK284 hg; replace BK284 := bkb_ BK284 hb; have NB288_304 := bkl_ BK288 hg; have NB304_288 := bkr_ BK288 hg; replace BK288 := bkb_ BK288 hb; have NB292_304 := bkl_ BK292 hg; have NB304_292 := bkr_ BK292 hg; replace BK292 := bkb_ BK292 hb; have NB296_304 := bkl_ BK296 hg; have NB304_296 := bkr_ BK296 hg; replace BK296 := bkb_ BK296 hb; have NB300_304 := bkl_ BK300 hg; have NB304_300 := bkr_ BK300 hg; replace BK300 := bkb_ BK300 hb; clear hb hbox hg; have hnb282 := NB304_274.out; have hnc282 := NB274_304.out; have hnb283 := NB304_275.out; have hnc283 := NB275_304.out; have hnb284 := NB304_276.out; have hnc284 := NB276_304.out; have hnb285 := NB304_280.out; have hnc285 := NB280_304.out; have hnb286 := NB304_284.out; have hnc286 := NB284_304.out; have hnb287 := NB304_288.out; have hnc287 := NB288_304.out; have hnb288 := NB304_292.out; have hnc288 := NB292_304.out; have hnb289 := NB304_296.out; have hnc289 := NB296_304.out; have hnb290 := NB304_300.out; have hnc290 := NB300_304.out; obtain ⟨hcz291_0, hcz291_1, hfz291_0, hfz291_1⟩ := bc2_ BK304; obtain ⟨hcz292_0, hcz292_1, hfz292_0, hfz292_1⟩ := bc2_ BK300) | ((with_reducible refine gate_callee (f := 18) rfl ?_); refine gla_ (some 86) Try.func18 #[.agg #[.int .i64 t297, .int .i64 t298], .agg #[.int .i64 t301, .int .i64 t302]] ?_; (with_reducible refine (num_Add.calls kj34 t297 t298 t301 t302 t305 t306 t307 _ A85.out).mono ?_); rintro e w293 ⟨rfl, hb⟩; refine ⟨_, rfl, ?_⟩; replace BK274 := Aside0.mk (blk_below (g := gb274) (o := .cells #[.int .i64 a0_0, .int .i64 a0_1] 23 (0, 0)) (by refine bf_ ?_ NB274_304; refine bf_ ?_ NB274_304; exact bk_ BK274) hb); replace BK275 := Aside0.mk (blk_below (g := gb275) (o := .cells #[.int .i64 a1_0, .int .i64 a1_1] 23 (0, 0)) (by refine bf_ ?_ NB275_304; refine bf_ ?_ NB275_304; exact bk_ BK275) hb); replace BK276 := Aside0.mk (blk_below (g := gb276) (o := .cells #[.int .i64 a2_0, .int .i64 a2_1] 23 (0, 0)) (by refine bf_ ?_ NB276_304; refine bf_ ?_ NB276_304; exact bk_ BK276) hb); replace BK280 := Aside0.mk (blk_below (g := gb280) (o := .cells #[.int .i64 t277, .int .i64 t278] 23 (0, 0)) (by refine bf_ ?_ NB280_304; refine bf_ ?_ NB280_304; exact bk_ BK280) hb); replace BK284 := Aside0.mk (blk_below (g := gb284) (o := .cells #[.int .i64 t281, .int .i64 t282] 23 (0, 0)) (by refine bf_ ?_ NB284_304; refine bf_ ?_ NB284_304; exact bk_ BK284) hb); replace BK288 := Aside0.mk (blk_below (g := gb288) (o := .cells #[.int .i64 t285, .int .i64 t286] 23 (0, 0)) (by refine bf_ ?_ NB288_304; refine bf_ ?_ NB288_304; exact bk_ BK288) hb); replace BK292 := Aside0.mk (blk_below (g := gb292) (o := .cells #[.int .i64 t289, .int .i64 t290] 23 (0, 0)) (by refine bf_ ?_ NB292_304; refine bf_ ?_ NB292_304; exact bk_ BK292) hb); replace BK296 := Aside0.mk (blk_below (g := gb296) (o := .cells #[.int .i64 t293, .int .i64 t294] 23 (0, 0)) (by refine bf_ ?_ NB296_304; refine bf_ ?_ NB296_304; exact bk_ BK296) hb); replace BK300 := Aside0.mk (blk_below (g := gb300) (o := .cells #[.int .i64 t297, .int .i64 t298] 23 (0, 0)) (by refine bf_ ?_ NB300_304; refine bf_ ?_ NB300_304; exact bk_ BK300) hb); replace BK304 := Aside0.mk (blk_below (g := gb304) (o := .cells #[.int .i64 t301, .int .i64 t302] 23 (0, 0)) (by refine bp_ (cs := #[.int .i64 t301, .int .i64 0]) ?_ 1; refine bp_ (cs := #[.int .i64 0, .int .i64 0]) ?_ 0; exact bk_ BK304) hb); replace HB := bws_ HB hb; (try clear hb); (try clear hb2); (try clear hk); (try clear hi)) | ((with_reducible refine gate_dst (N := 21) rfl ?_); refine box_event ?hg (N := 21) ?hd (cs := #[.int .i64 0, .int .i64 0]) (t := 23) ?hr ?_; (case hd => rfl); (case hg => rfl); (case hr => first | (go_simp; done) | (go_simp; rfl)); intro gb308 hg w294 hbox hb; have BK308 := Aside0.mk hbox; have GW308 := bwg_ HB hg; have GE308 := bwg_ HB hg; replace HB := bws_ HB hb; have NB274_308 := bkl_ BK274 hg; have NB308_274 := bkr_ BK274 hg; replace BK274 := bkb_ BK274 hb; have NB275_308 := bkl_ BK275 hg; have NB308_275 := bkr_ BK275 hg; replace BK275 := bkb_ BK275 hb; have NB276_308 := bkl_ BK276 hg; have NB308_276 := bkr_ BK276 hg; replace BK276 := bkb_ BK276 hb; have NB280_308 := bkl_ BK280 hg; have NB308_280 := bkr_ BK280 hg; replace BK280 := bkb_ BK280 hb; have NB284_308 := bkl_ BK284 hg; have NB308_284 := bkr_ BK284 hg; replace BK284 := bkb_ BK284 hb; have NB288_308 := bkl_ BK288 hg; have NB308_288 := bkr_ BK288 hg; replace BK288 := bkb_ BK288 hb; have NB292_308 := bkl_ BK292 hg; have NB308_292 := bkr_ BK292 hg; replace BK292 := bkb_ BK292 hb; have NB296_308 := bkl_ BK296 hg; have NB308_296 := bkr_ BK296 hg; replace BK296 := bkb_ BK296 hb; have NB300_308 := bkl_ BK300 hg; have NB308_300 := bkr_ BK300 hg; replace BK300 := bkb_ BK300 hb; have NB304_308 := bkl_ BK304 hg; have NB308_304 := bkr_ BK304 hg; replace BK304 := bkb_ BK304 hb; clear hb hbox hg; have hnb295 := NB308_274.out; have hnc295 := NB274_308.out; have hnb296 := NB308_275.out; have hnc296 := NB275_308.out; have hnb297 := NB308_276.out; have hnc297 := NB276_308.out; have hnb298 := NB308_280.out; have hnc298 := NB280_308.out; have hnb299 := NB308_284.out; have hnc299 := NB284_308.out; have hnb300 := NB308_288.out; have hnc300 := NB288_308.out; have hnb301 := NB308_292.out; have hnc301 := NB292_308.out; have hnb302 := NB308_296.out; have hnc302 := NB296_308.out; have hnb303 := NB308_300.out; have hnc303 := NB300_308.out; have hnb304 := NB308_304.out; have hnc304 := NB304_308.out; obtain ⟨hcz305_0, hcz305_1, hfz305_0, hfz305_1⟩ := bc2_ BK308))
                     go_ret
                     exact ⟨by first | rfl | (simp [*] <;> rfl), bw_ HB⟩
                 · rw [if_neg c88] at H
                   have c88b0 : (t303 == 0) = false := beq_eq_false_iff_ne.mpr c88
                   have c88b1 : (t303 != 0) = true := bne_iff_ne.mpr c88
                   have H' := Aside0.mk H
                   clear H
                   have hnb306 := NB274_275.out
                   have hnc306 := NB275_274.out
                   have hnb307 := NB274_276.out
                   have hnc307 := NB276_274.out
                   have hnb308 := NB274_280.out
                   have hnc308 := NB280_274.out
                   have hnb309 := NB274_284.out
                   have hnc309 := NB284_274.out
                   have hnb310 := NB274_288.out
                   have hnc310 := NB288_274.out
                   have hnb311 := NB274_292.out
                   have hnc311 := NB292_274.out
                   obtain ⟨hcz312_0, hcz312_1, hfz312_0, hfz312_1⟩ := bc2_ BK274
                   have hnb313 := NB284_275.out
                   have hnc313 := NB275_284.out
                   have hnb314 := NB284_276.out
                   have hnc314 := NB276_284.out
                   have hnb315 := NB284_280.out
                   have hnc315 := NB280_284.out
                   have hnb316 := NB284_288.out
                   have hnc316 := NB288_284.out
                   have hnb317 := NB284_292.out
                   have hnc317 := NB292_284.out
                   obtain ⟨hcz318_0, hcz318_1, hfz318_0, hfz318_1⟩ := bc2_ BK284
                   go_wp2_with (first | ((with_reducible refine gate_callee (f := 19) rfl ?_); refine gla_ (some 68) Try.func19 #[.agg #[.int .i64 a0_0, .int .i64 a0_1], .agg #[.int .i64 t281, .int .i64 t282]] ?_; (with_reducible refine (num_Mul.calls kj34 a0_0 a0_1 t281 t282 t293 t294 t295 _ A82.out).mono ?_); rintro e w319 ⟨rfl, hb⟩; refine ⟨_, rfl, ?_⟩; replace BK274 := bkb_ BK274 hb; replace BK275 := bkb_ BK275 hb; replace BK276 := bkb_ BK276 hb; replace BK280 := bkb_ BK280 hb; replace BK284 := bkb_ BK284 hb; replace BK288 := bkb_ BK288 hb; replace BK292 := bkb_ BK292 hb; replace HB := bws_ HB hb; (try clear hb); (try clear hb2); (try clear hk); (try clear hi)) | ((with_reducible refine gate_dst (N := 15) rfl ?_); refine box_event ?hg (N := 15) ?hd (cs := #[.int .i64 0, .int .i64 0]) (t := 23) ?hr ?_; (case hd => rfl); (case hg => rfl); (case hr => first | (go_simp; done) | (go_simp; rfl)); intro gb296 hg w320 hbox hb; have BK296 := Aside0.mk hbox; have GW296 := bwg_ HB hg; have GE296 := bwg_ HB hg; replace HB := bws_ HB hb; have NB274_296 := bkl_ BK274 hg; have NB296_274 := bkr_ BK274 hg; replace BK274 := bkb_ BK274 hb; have NB275_296 := bkl_ BK275 hg; have NB296_275 := bkr_ BK275 hg; replace BK275 := bkb_ BK275 hb; have NB276_296 := bkl_ BK276 hg; have NB296_276 := bkr_ BK276 hg; replace BK276 := bkb_ BK276 hb; have NB280_296 := bkl_ BK280 hg; have NB296_280 := bkr_ BK280 hg; replace BK280 := bkb_ BK280 hb; have NB284_296 := bkl_ BK284 hg; have NB296_284 := bkr_ BK284 hg; replace BK284 := bkb_ BK284 hb; have NB288_296 := bkl_ BK288 hg; have NB296_288 := bkr_ BK288 hg; replace BK288 := bkb_ BK288 hb; have NB292_296 := bkl_ BK292 hg; have NB296_292 := bkr_ BK292 hg; replace BK292 := bkb_ BK292 hb; clear hb hbox hg; have hnb321 := NB296_274.out; have hnc321 := NB274_296.out; have hnb322 := NB296_275.out; have hnc322 := NB275_296.out; have hnb323 := NB296_276.out; have hnc323 := NB276_296.out; have hnb324 := NB296_280.out; have hnc324 := NB280_296.out; have hnb325 := NB296_284.out; have hnc325 := NB284_296.out; have hnb326 := NB296_288.out; have hnc326 := NB288_296.out; have hnb327 := NB296_292.out; have hnc327 := NB292_296.out; obtain ⟨hcz328_0, hcz328_1, hfz328_0, hfz328_1⟩ := bc2_ BK296; obtain ⟨hcz329_0, hcz329_1, hfz329_0, hfz329_1⟩ := bc2_ BK274; have hnb330 := NB275_276.out; have hnc330 := NB276_275.out; have hnb331 := NB275_280.out; have hnc331 := NB280_275.out; have hnb332 := NB275_288.out; have hnc332 := NB288_275.out; have hnb333 := NB275_292.out; have hnc333 := NB292_275.out; obtain ⟨hcz334_0, hcz334_1, hfz334_0, hfz334_1⟩ := bc2_ BK275) | ((with_reducible refine gate_callee (f := 19) rfl ?_); refine gla_ (some 74) Try.func19 #[.agg #[.int .i64 a0_0, .int .i64 a0_1], .agg #[.int .i64 a1_0, .int .i64 a1_1]] ?_; (with_reducible refine (num_Mul.calls kj34 a0_0 a0_1 a1_0 a1_1 t297 t298 t299 _ A83.out).mono ?_); rintro e w335 ⟨rfl, hb⟩; refine ⟨_, rfl, ?_⟩; replace BK274 := Aside0.mk (blk_below (g := gb274) (o := .cells #[.int .i64 a0_0, .int .i64 a0_1] 23 (0, 0)) (by refine bf_ ?_ NB274_296; refine bf_ ?_ NB274_296; exact bk_ BK274) hb); replace BK275 := Aside0.mk (blk_below (g := gb275) (o := .cells #[.int .i64 a1_0, .int .i64 a1_1] 23 (0, 0)) (by refine bf_ ?_ NB275_296; refine bf_ ?_ NB275_296; exact bk_ BK275) hb); replace BK276 := Aside0.mk (blk_below (g := gb276) (o := .cells #[.int .i64 a2_0, .int .i64 a2_1] 23 (0, 0)) (by refine bf_ ?_ NB276_296; refine bf_ ?_ NB276_296; exact bk_ BK276) hb); replace BK280 := Aside0.mk (blk_below (g := gb280) (o := .cells #[.int .i64 t277, .int .i64 t278] 23 (0, 0)) (by refine bf_ ?_ NB280_296; refine bf_ ?_ NB280_296; exact bk_ BK280) hb); replace BK284 := Aside0.mk (blk_below (g := gb284) (o := .cells #[.int .i64 t281, .int .i64 t282] 23 (0, 0)) (by refine bf_ ?_ NB284_296; refine bf_ ?_ NB284_296; exact bk_ BK284) hb); replace BK288 := Aside0.mk (blk_below (g := gb288) (o := .cells #[.int .i64 t285, .int .i64 t286] 23 (0, 0)) (by refine bf_ ?_ NB288_296; refine bf_ ?_ NB288_296; exact bk_ BK288) hb); replace BK292 := Aside0.mk (blk_below (g := gb292) (o := .cells #[.int .i64 t289, .int .i64 t290] 23 (0, 0)) (by refine bf_ ?_ NB292_296; refine bf_ ?_ NB292_296; exact bk_ BK292) hb); replace BK296 := Aside0.mk (blk_below (g := gb296) (o := .cells #[.int .i64 t293, .int .i64 t294] 23 (0, 0)) (by refine bp_ (cs := #[.int .i64 t293, .int .i64 0]) ?_ 1; refine bp_ (cs := #[.int .i64 0, .int .i64 0]) ?_ 0; exact bk_ BK296) hb); replace HB := bws_ HB hb; (try clear hb); (try clear hb2); (try clear hk); (try clear hi)) | ((with_reducible refine gate_dst (N := 17) rfl ?_); refine box_event ?hg (N := 17) ?hd (cs := #[.int .i64 0, .int .i64 0]) (t := 23) ?hr ?_; (case hd => rfl); (case hg => rfl); (case hr => first | (go_simp; done) | (go_simp; rfl)); intro gb300 hg w336 hbox hb; have BK300 := Aside0.mk hbox; have GW300 := bwg_ HB hg; have GE300 := bwg_ HB hg; replace HB := bws_ HB hb; have NB274_300 := bkl_ BK274 hg; have NB300_274 := bkr_ BK274 hg; replace BK274 := bkb_ BK274 hb; have NB275_300 := bkl_ BK275 hg; have NB300_275 := bkr_ BK275 hg; replace BK275 := bkb_ BK275 hb; have NB276_300 := bkl_ BK276 hg; have NB300_276 := bkr_ BK276 hg; replace BK276 := bkb_ BK276 hb; have NB280_300 := bkl_ BK280 hg; have NB300_280 := bkr_ BK280 hg; replace BK280 := bkb_ BK280 hb; have NB284_300 := bkl_ BK284 hg; have NB300_284 := bkr_ BK284 hg; replace BK284 := bkb_ BK284 hb; have NB288_300 := bkl_ BK288 hg; have NB300_288 := bkr_ BK288 hg; replace BK288 := bkb_ BK288 hb; have NB292_300 := bkl_ BK292 hg; have NB300_292 := bkr_ BK292 hg; replace BK292 := bkb_ BK292 hb; have NB296_300 := bkl_ BK296 hg; have NB300_296 := bkr_ BK296 hg; replace BK296 := bkb_ BK296 hb; clear hb hbox hg; have hnb337 := NB300_274.out; have hnc337 := NB274_300.out; have hnb338 := NB300_275.out; have hnc338 := NB275_300.out; have hnb339 := NB300_276.out; have hnc339 := NB276_300.out; have hnb340 := NB300_280.out; have hnc340 := NB280_300.out; have hnb341 := NB300_284.out; have hnc341 := NB284_300.out; have hnb342 := NB300_288.out; have hnc342 := NB288_300.out; have hnb343 := NB300_292.out; have hnc343 := NB292_300.out; have hnb344 := NB300_296.out; have hnc344 := NB296_300.out; obtain ⟨hcz345_0, hcz345_1, hfz345_0, hfz345_1⟩ := bc2_ BK300; obtain ⟨hcz346_0, hcz346_1, hfz346_0, hfz346_1⟩ := bc2_ BK274; have hnb347 := NB276_280.out; have hnc347 := NB280_276.out; have hnb348 := NB276_288.out; have hnc348 := NB288_276.out; have hnb349 := NB276_292.out; have hnc349 := NB292_276.out; obtain ⟨hcz350_0, hcz350_1, hfz350_0, hfz350_1⟩ := bc2_ BK276) | ((with_reducible refine gate_callee (f := 19) rfl ?_); refine gla_ (some 80) Try.func19 #[.agg #[.int .i64 a0_0, .int .i64 a0_1], .agg #[.int .i64 a2_0, .int .i64 a2_1]] ?_; (with_reducible refine (num_Mul.calls kj34 a0_0 a0_1 a2_0 a2_1 t301 t302 t303 _ A84.out).mono ?_); rintro e w351 ⟨rfl, hb⟩; refine ⟨_, rfl, ?_⟩; replace BK274 := Aside0.mk (blk_below (g := gb274) (o := .cells #[.int .i64 a0_0, .int .i64 a0_1] 23 (0, 0)) (by refine bf_ ?_ NB274_300; refine bf_ ?_ NB274_300; exact bk_ BK274) hb); replace BK275 := Aside0.mk (blk_below (g := gb275) (o := .cells #[.int .i64 a1_0, .int .i64 a1_1] 23 (0, 0)) (by refine bf_ ?_ NB275_300; refine bf_ ?_ NB275_300; exact bk_ BK275) hb); replace BK276 := Aside0.mk (blk_below (g := gb276) (o := .cells #[.int .i64 a2_0, .int .i64 a2_1] 23 (0, 0)) (by refine bf_ ?_ NB276_300; refine bf_ ?_ NB276_300; exact bk_ BK276) hb); replace BK280 := Aside0.mk (blk_below (g := gb280) (o := .cells #[.int .i64 t277, .int .i64 t278] 23 (0, 0)) (by refine bf_ ?_ NB280_300; refine bf_ ?_ NB280_300; exact bk_ BK280) hb); replace BK284 := Aside0.mk (blk_below (g := gb284) (o := .cells #[.int .i64 t281, .int .i64 t282] 23 (0, 0)) (by refine bf_ ?_ NB284_300; refine bf_ ?_ NB284_300; exact bk_ BK284) hb); replace BK288 := Aside0.mk (blk_below (g := gb288) (o := .cells #[.int .i64 t285, .int .i64 t286] 23 (0, 0)) (by refine bf_ ?_ NB288_300; refine bf_ ?_ NB288_300; exact bk_ BK288) hb); replace BK292 := Aside0.mk (blk_below (g := gb292) (o := .cells #[.int .i64 t289, .int .i64 t290] 23 (0, 0)) (by refine bf_ ?_ NB292_300; refine bf_ ?_ NB292_300; exact bk_ BK292) hb); replace BK296 := Aside0.mk (blk_below (g := gb296) (o := .cells #[.int .i64 t293, .int .i64 t294] 23 (0, 0)) (by refine bf_ ?_ NB296_300; refine bf_ ?_ NB296_300; exact bk_ BK296) hb); replace BK300 := Aside0.mk (blk_below (g := gb300) (o := .cells #[.int .i64 t297, .int .i64 t298] 23 (0, 0)) (by refine bp_ (cs := #[.int .i64 t297, .int .i64 0]) ?_ 1; refine bp_ (cs := #[.int .i64 0, .int .i64 0]) ?_ 0; exact bk_ BK300) hb); replace HB := bws_ HB hb; (try clear hb); (try clear hb2); (try clear hk); (try clear hi)) | ((with_reducible refine gate_dst (N := 19) rfl ?_); refine box_event ?hg (N := 19) ?hd (cs := #[.int .i64 0, .int .i64 0]) (t := 23) ?hr ?_; (case hd => rfl); (case hg => rfl); (case hr => first | (go_simp; done) | (go_simp; rfl)); intro gb304 hg w352 hbox hb; have BK304 := Aside0.mk hbox; have GW304 := bwg_ HB hg; have GE304 := bwg_ HB hg; replace HB := bws_ HB hb; have NB274_304 := bkl_ BK274 hg; have NB304_274 := bkr_ BK274 hg; replace BK274 := bkb_ BK274 hb; have NB275_304 := bkl_ BK275 hg; have NB304_275 := bkr_ BK275 hg; replace BK275 := bkb_ BK275 hb; have NB276_304 := bkl_ BK276 hg; have NB304_276 := bkr_ BK276 hg; replace BK276 := bkb_ BK276 hb; have NB280_304 := bkl_ BK280 hg; have NB304_280 := bkr_ BK280 hg; replace BK280 := bkb_ BK280 hb; have NB284_304 := bkl_ BK284 hg; have NB304_284 := bkr_ BK284 hg; replace BK284 := bkb_ BK284 hb; have NB288_304 := bkl_ BK288 hg; have NB304_288 := bkr_ BK288 hg; replace BK288 := bkb_ BK288 hb; have NB292_304 := bkl_ BK292 hg; have NB304_292 := bkr_ BK292 hg; replace BK292 := bkb_ BK292 hb; have NB296_304 := bkl_ BK296 hg; have NB304_296 := bkr_ BK296 hg; replace BK296 := bkb_ BK296 hb; have NB300_304 := bkl_ BK300 hg; have NB304_300 := bkr_ BK300 hg; replace BK300 := bkb_ BK300 hb; clear hb hbox hg; have hnb353 := NB304_274.out; have hnc353 := NB274_304.out; have hnb354 := NB304_275.out; have hnc354 := NB275_304.out; have hnb355 := NB304_276.out; have hnc355 := NB276_304.out; have hnb356 := NB304_280.out; have hnc356 := NB280_304.out; have hnb357 := NB304_284.out; have hnc357 := NB284_304.out; have hnb358 := NB304_288.out; have hnc358 := NB288_304.out; have hnb359 := NB304_292.out; have hnc359 := NB292_304.out; have hnb360 := NB304_296.out; have hnc360 := NB296_304.out; have hnb361 := NB304_300.out; have hnc361 := NB300_304.out; obtain ⟨hcz362_0, hcz362_1, hfz362_0, hfz362_1⟩ := bc2_ BK304; obtain ⟨hcz363_0, hcz363_1, hfz363_0, hfz363_1⟩ := bc2_ BK300) | ((with_reducible refine gate_callee (f := 18) rfl ?_); refine gla_ (some 86) Try.func18 #[.agg #[.int .i64 t297, .int .i64 t298], .agg #[.int .i64 t301, .int .i64 t302]] ?_; (with_reducible refine (num_Add.calls kj34 t297 t298 t301 t302 t305 t306 t307 _ A85.out).mono ?_); rintro e w364 ⟨rfl, hb⟩; refine ⟨_, rfl, ?_⟩; replace BK274 := Aside0.mk (blk_below (g := gb274) (o := .cells #[.int .i64 a0_0, .int .i64 a0_1] 23 (0, 0)) (by refine bf_ ?_ NB274_304; refine bf_ ?_ NB274_304; exact bk_ BK274) hb); replace BK275 := Aside0.mk (blk_below (g := gb275) (o := .cells #[.int .i64 a1_0, .int .i64 a1_1] 23 (0, 0)) (by refine bf_ ?_ NB275_304; refine bf_ ?_ NB275_304; exact bk_ BK275) hb); replace BK276 := Aside0.mk (blk_below (g := gb276) (o := .cells #[.int .i64 a2_0, .int .i64 a2_1] 23 (0, 0)) (by refine bf_ ?_ NB276_304; refine bf_ ?_ NB276_304; exact bk_ BK276) hb); replace BK280 := Aside0.mk (blk_below (g := gb280) (o := .cells #[.int .i64 t277, .int .i64 t278] 23 (0, 0)) (by refine bf_ ?_ NB280_304; refine bf_ ?_ NB280_304; exact bk_ BK280) hb); replace BK284 := Aside0.mk (blk_below (g := gb284) (o := .cells #[.int .i64 t281, .int .i64 t282] 23 (0, 0)) (by refine bf_ ?_ NB284_304; refine bf_ ?_ NB284_304; exact bk_ BK284) hb); replace BK288 := Aside0.mk (blk_below (g := gb288) (o := .cells #[.int .i64 t285, .int .i64 t286] 23 (0, 0)) (by refine bf_ ?_ NB288_304; refine bf_ ?_ NB288_304; exact bk_ BK288) hb); replace BK292 := Aside0.mk (blk_below (g := gb292) (o := .cells #[.int .i64 t289, .int .i64 t290] 23 (0, 0)) (by refine bf_ ?_ NB292_304; refine bf_ ?_ NB292_304; exact bk_ BK292) hb); replace BK296 := Aside0.mk (blk_below (g := gb296) (o := .cells #[.int .i64 t293, .int .i64 t294] 23 (0, 0)) (by refine bf_ ?_ NB296_304; refine bf_ ?_ NB296_304; exact bk_ BK296) hb); replace BK300 := Aside0.mk (blk_below (g := gb300) (o := .cells #[.int .i64 t297, .int .i64 t298] 23 (0, 0)) (by refine bf_ ?_ NB300_304; refine bf_ ?_ NB300_304; exact bk_ BK300) hb); replace BK304 := Aside0.mk (blk_below (g := gb304) (o := .cells #[.int .i64 t301, .int .i64 t302] 23 (0, 0)) (by refine bp_ (cs := #[.int .i64 t301, .int .i64 0]) ?_ 1; refine bp_ (cs := #[.int .i64 0, .int .i64 0]) ?_ 0; exact bk_ BK304) hb); replace HB := bws_ HB hb; (try clear hb); (try clear hb2); (try clear hk); (try clear hi)) | ((with_reducible refine gate_dst (N := 21) rfl ?_); refine box_event ?hg (N := 21) ?hd (cs := #[.int .i64 0, .int .i64 0]) (t := 23) ?hr ?_; (case hd => rfl); (case hg => rfl); (case hr => first | (go_simp; done) | (go_simp; rfl)); intro gb308 hg w365 hbox hb; have BK308 := Aside0.mk hbox; have GW308 := bwg_ HB hg; have GE308 := bwg_ HB hg; replace HB := bws_ HB hb; have NB274_308 := bkl_ BK274 hg; have NB308_274 := bkr_ BK274 hg; replace BK274 := bkb_ BK274 hb; have NB275_308 := bkl_ BK275 hg; have NB308_275 := bkr_ BK275 hg; replace BK275 := bkb_ BK275 hb; have NB276_308 := bkl_ BK276 hg; have NB308_276 := bkr_ BK276 hg; replace BK276 := bkb_ BK276 hb; have NB280_308 := bkl_ BK280 hg; have NB308_280 := bkr_ BK280 hg; replace BK280 := bkb_ BK280 hb; have NB284_308 := bkl_ BK284 hg; have NB308_284 := bkr_ BK284 hg; replace BK284 := bkb_ BK284 hb; have NB288_308 := bkl_ BK288 hg; have NB308_288 := bkr_ BK288 hg; replace BK288 := bkb_ BK288 hb; have NB292_308 := bkl_ BK292 hg; have NB308_292 := bkr_ BK292 hg; replace BK292 := bkb_ BK292 hb; have NB296_308 := bkl_ BK296 hg; have NB308_296 := bkr_ BK296 hg; replace BK296 := bkb_ BK296 hb; have NB300_308 := bkl_ BK300 hg; have NB308_300 := bkr_ BK300 hg; replace BK300 := bkb_ BK300 hb; have NB304_308 := bkl_ BK304 hg; have NB308_304 := bkr_ BK304 hg; replace BK304 := bkb_ BK304 hb; clear hb hbox hg; have hnb366 := NB308_274.out; have hnc366 := NB274_308.out; have hnb367 := NB308_275.out; have hnc367 := NB275_308.out; have hnb368 := NB308_276.out; have hnc368 := NB276_308.out; have hnb369 := NB308_280.out; have hnc369 := NB280_308.out; have hnb370 := NB308_284.out; have hnc370 := NB284_308.out; have hnb371 := NB308_288.out; have hnc371 := NB288_308.out; have hnb372 := NB308_292.out; have hnc372 := NB292_308.out; have hnb373 := NB308_296.out; have hnc373 := NB296_308.out; have hnb374 := NB308_300.out; have hnc374 := NB300_308.out; have hnb375 := NB308_304.out; have hnc375 := NB304_308.out; obtain ⟨hcz376_0, hcz376_1, hfz376_0, hfz376_1⟩ := bc2_ BK308))
                   go_meet
                   case rel => exact ⟨_, H', ⟨by have := HJ5.out; have := HJ34.out; first | omega | exact Nat.le_refl _⟩, ⟨by refine bf_ ?_ NB274_308; refine bf_ ?_ NB274_308; exact bk_ BK274⟩, ⟨by refine bf_ ?_ NB275_308; refine bf_ ?_ NB275_308; exact bk_ BK275⟩, ⟨by refine bf_ ?_ NB276_308; refine bf_ ?_ NB276_308; exact bk_ BK276⟩, ⟨by refine bf_ ?_ NB280_308; refine bf_ ?_ NB280_308; exact bk_ BK280⟩, ⟨by refine bf_ ?_ NB284_308; refine bf_ ?_ NB284_308; exact bk_ BK284⟩, ⟨bw_ HB⟩⟩
               · rw [if_neg c87] at H
                 have c87b0 : (t299 == 0) = false := beq_eq_false_iff_ne.mpr c87
                 have c87b1 : (t299 != 0) = true := bne_iff_ne.mpr c87
                 have H' := Aside0.mk H
                 clear H
                 have hnb377 := NB274_275.out
                 have hnc377 := NB275_274.out
                 have hnb378 := NB274_276.out
                 have hnc378 := NB276_274.out
                 have hnb379 := NB274_280.out
                 have hnc379 := NB280_274.out
                 have hnb380 := NB274_284.out
                 have hnc380 := NB284_274.out
                 have hnb381 := NB274_288.out
                 have hnc381 := NB288_274.out
                 have hnb382 := NB274_292.out
                 have hnc382 := NB292_274.out
                 obtain ⟨hcz383_0, hcz383_1, hfz383_0, hfz383_1⟩ := bc2_ BK274
                 have hnb384 := NB284_275.out
                 have hnc384 := NB275_284.out
                 have hnb385 := NB284_276.out
                 have hnc385 := NB276_284.out
                 have hnb386 := NB284_280.out
                 have hnc386 := NB280_284.out
                 have hnb387 := NB284_288.out
                 have hnc387 := NB288_284.out
                 have hnb388 := NB284_292.out
                 have hnc388 := NB292_284.out
                 obtain ⟨hcz389_0, hcz389_1, hfz389_0, hfz389_1⟩ := bc2_ BK284
                 go_wp2_with (first | ((with_reducible refine gate_callee (f := 19) rfl ?_); refine gla_ (some 68) Try.func19 #[.agg #[.int .i64 a0_0, .int .i64 a0_1], .agg #[.int .i64 t281, .int .i64 t282]] ?_; (with_reducible refine (num_Mul.calls kj34 a0_0 a0_1 t281 t282 t293 t294 t295 _ A82.out).mono ?_); rintro e w390 ⟨rfl, hb⟩; refine ⟨_, rfl, ?_⟩; replace BK274 := bkb_ BK274 hb; replace BK275 := bkb_ BK275 hb; replace BK276 := bkb_ BK276 hb; replace BK280 := bkb_ BK280 hb; replace BK284 := bkb_ BK284 hb; replace BK288 := bkb_ BK288 hb; replace BK292 := bkb_ BK292 hb; replace HB := bws_ HB hb; (try clear hb); (try clear hb2); (try clear hk); (try clear hi)) | ((with_reducible refine gate_dst (N := 15) rfl ?_); refine box_event ?hg (N := 15) ?hd (cs := #[.int .i64 0, .int .i64 0]) (t := 23) ?hr ?_; (case hd => rfl); (case hg => rfl); (case hr => first | (go_simp; done) | (go_simp; rfl)); intro gb296 hg w391 hbox hb; have BK296 := Aside0.mk hbox; have GW296 := bwg_ HB hg; have GE296 := bwg_ HB hg; replace HB := bws_ HB hb; have NB274_296 := bkl_ BK274 hg; have NB296_274 := bkr_ BK274 hg; replace BK274 := bkb_ BK274 hb; have NB275_296 := bkl_ BK275 hg; have NB296_275 := bkr_ BK275 hg; replace BK275 := bkb_ BK275 hb; have NB276_296 := bkl_ BK276 hg; have NB296_276 := bkr_ BK276 hg; replace BK276 := bkb_ BK276 hb; have NB280_296 := bkl_ BK280 hg; have NB296_280 := bkr_ BK280 hg; replace BK280 := bkb_ BK280 hb; have NB284_296 := bkl_ BK284 hg; have NB296_284 := bkr_ BK284 hg; replace BK284 := bkb_ BK284 hb; have NB288_296 := bkl_ BK288 hg; have NB296_288 := bkr_ BK288 hg; replace BK288 := bkb_ BK288 hb; have NB292_296 := bkl_ BK292 hg; have NB296_292 := bkr_ BK292 hg; replace BK292 := bkb_ BK292 hb; clear hb hbox hg; have hnb392 := NB296_274.out; have hnc392 := NB274_296.out; have hnb393 := NB296_275.out; have hnc393 := NB275_296.out; have hnb394 := NB296_276.out; have hnc394 := NB276_296.out; have hnb395 := NB296_280.out; have hnc395 := NB280_296.out; have hnb396 := NB296_284.out; have hnc396 := NB284_296.out; have hnb397 := NB296_288.out; have hnc397 := NB288_296.out; have hnb398 := NB296_292.out; have hnc398 := NB292_296.out; obtain ⟨hcz399_0, hcz399_1, hfz399_0, hfz399_1⟩ := bc2_ BK296; obtain ⟨hcz400_0, hcz400_1, hfz400_0, hfz400_1⟩ := bc2_ BK274; have hnb401 := NB275_276.out; have hnc401 := NB276_275.out; have hnb402 := NB275_280.out; have hnc402 := NB280_275.out; have hnb403 := NB275_288.out; have hnc403 := NB288_275.out; have hnb404 := NB275_292.out; have hnc404 := NB292_275.out; obtain ⟨hcz405_0, hcz405_1, hfz405_0, hfz405_1⟩ := bc2_ BK275) | ((with_reducible refine gate_callee (f := 19) rfl ?_); refine gla_ (some 74) Try.func19 #[.agg #[.int .i64 a0_0, .int .i64 a0_1], .agg #[.int .i64 a1_0, .int .i64 a1_1]] ?_; (with_reducible refine (num_Mul.calls kj34 a0_0 a0_1 a1_0 a1_1 t297 t298 t299 _ A83.out).mono ?_); rintro e w406 ⟨rfl, hb⟩; refine ⟨_, rfl, ?_⟩; replace BK274 := Aside0.mk (blk_below (g := gb274) (o := .cells #[.int .i64 a0_0, .int .i64 a0_1] 23 (0, 0)) (by refine bf_ ?_ NB274_296; refine bf_ ?_ NB274_296; exact bk_ BK274) hb); replace BK275 := Aside0.mk (blk_below (g := gb275) (o := .cells #[.int .i64 a1_0, .int .i64 a1_1] 23 (0, 0)) (by refine bf_ ?_ NB275_296; refine bf_ ?_ NB275_296; exact bk_ BK275) hb); replace BK276 := Aside0.mk (blk_below (g := gb276) (o := .cells #[.int .i64 a2_0, .int .i64 a2_1] 23 (0, 0)) (by refine bf_ ?_ NB276_296; refine bf_ ?_ NB276_296; exact bk_ BK276) hb); replace BK280 := Aside0.mk (blk_below (g := gb280) (o := .cells #[.int .i64 t277, .int .i64 t278] 23 (0, 0)) (by refine bf_ ?_ NB280_296; refine bf_ ?_ NB280_296; exact bk_ BK280) hb); replace BK284 := Aside0.mk (blk_below (g := gb284) (o := .cells #[.int .i64 t281, .int .i64 t282] 23 (0, 0)) (by refine bf_ ?_ NB284_296; refine bf_ ?_ NB284_296; exact bk_ BK284) hb); replace BK288 := Aside0.mk (blk_below (g := gb288) (o := .cells #[.int .i64 t285, .int .i64 t286] 23 (0, 0)) (by refine bf_ ?_ NB288_296; refine bf_ ?_ NB288_296; exact bk_ BK288) hb); replace BK292 := Aside0.mk (blk_below (g := gb292) (o := .cells #[.int .i64 t289, .int .i64 t290] 23 (0, 0)) (by refine bf_ ?_ NB292_296; refine bf_ ?_ NB292_296; exact bk_ BK292) hb); replace BK296 := Aside0.mk (blk_below (g := gb296) (o := .cells #[.int .i64 t293, .int .i64 t294] 23 (0, 0)) (by refine bp_ (cs := #[.int .i64 t293, .int .i64 0]) ?_ 1; refine bp_ (cs := #[.int .i64 0, .int .i64 0]) ?_ 0; exact bk_ BK296) hb); replace HB := bws_ HB hb; (try clear hb); (try clear hb2); (try clear hk); (try clear hi)) | ((with_reducible refine gate_dst (N := 17) rfl ?_); refine box_event ?hg (N := 17) ?hd (cs := #[.int .i64 0, .int .i64 0]) (t := 23) ?hr ?_; (case hd => rfl); (case hg => rfl); (case hr => first | (go_simp; done) | (go_simp; rfl)); intro gb300 hg w407 hbox hb; have BK300 := Aside0.mk hbox; have GW300 := bwg_ HB hg; have GE300 := bwg_ HB hg; replace HB := bws_ HB hb; have NB274_300 := bkl_ BK274 hg; have NB300_274 := bkr_ BK274 hg; replace BK274 := bkb_ BK274 hb; have NB275_300 := bkl_ BK275 hg; have NB300_275 := bkr_ BK275 hg; replace BK275 := bkb_ BK275 hb; have NB276_300 := bkl_ BK276 hg; have NB300_276 := bkr_ BK276 hg; replace BK276 := bkb_ BK276 hb; have NB280_300 := bkl_ BK280 hg; have NB300_280 := bkr_ BK280 hg; replace BK280 := bkb_ BK280 hb; have NB284_300 := bkl_ BK284 hg; have NB300_284 := bkr_ BK284 hg; replace BK284 := bkb_ BK284 hb; have NB288_300 := bkl_ BK288 hg; have NB300_288 := bkr_ BK288 hg; replace BK288 := bkb_ BK288 hb; have NB292_300 := bkl_ BK292 hg; have NB300_292 := bkr_ BK292 hg; replace BK292 := bkb_ BK292 hb; have NB296_300 := bkl_ BK296 hg; have NB300_296 := bkr_ BK296 hg; replace BK296 := bkb_ BK296 hb; clear hb hbox hg; have hnb408 := NB300_274.out; have hnc408 := NB274_300.out; have hnb409 := NB300_275.out; have hnc409 := NB275_300.out; have hnb410 := NB300_276.out; have hnc410 := NB276_300.out; have hnb411 := NB300_280.out; have hnc411 := NB280_300.out; have hnb412 := NB300_284.out; have hnc412 := NB284_300.out; have hnb413 := NB300_288.out; have hnc413 := NB288_300.out; have hnb414 := NB300_292.out; have hnc414 := NB292_300.out; have hnb415 := NB300_296.out; have hnc415 := NB296_300.out; obtain ⟨hcz416_0, hcz416_1, hfz416_0, hfz416_1⟩ := bc2_ BK300; obtain ⟨hcz417_0, hcz417_1, hfz417_0, hfz417_1⟩ := bc2_ BK274; have hnb418 := NB276_280.out; have hnc418 := NB280_276.out; have hnb419 := NB276_288.out; have hnc419 := NB288_276.out; have hnb420 := NB276_292.out; have hnc420 := NB292_276.out; obtain ⟨hcz421_0, hcz421_1, hfz421_0, hfz421_1⟩ := bc2_ BK276) | ((with_reducible refine gate_callee (f := 19) rfl ?_); refine gla_ (some 80) Try.func19 #[.agg #[.int .i64 a0_0, .int .i64 a0_1], .agg #[.int .i64 a2_0, .int .i64 a2_1]] ?_; (with_reducible refine (num_Mul.calls kj34 a0_0 a0_1 a2_0 a2_1 t301 t302 t303 _ A84.out).mono ?_); rintro e w422 ⟨rfl, hb⟩; refine ⟨_, rfl, ?_⟩; replace BK274 := Aside0.mk (blk_below (g := gb274) (o := .cells #[.int .i64 a0_0, .int .i64 a0_1] 23 (0, 0)) (by refine bf_ ?_ NB274_300; refine bf_ ?_ NB274_300; exact bk_ BK274) hb); replace BK275 := Aside0.mk (blk_below (g := gb275) (o := .cells #[.int .i64 a1_0, .int .i64 a1_1] 23 (0, 0)) (by refine bf_ ?_ NB275_300; refine bf_ ?_ NB275_300; exact bk_ BK275) hb); replace BK276 := Aside0.mk (blk_below (g := gb276) (o := .cells #[.int .i64 a2_0, .int .i64 a2_1] 23 (0, 0)) (by refine bf_ ?_ NB276_300; refine bf_ ?_ NB276_300; exact bk_ BK276) hb); replace BK280 := Aside0.mk (blk_below (g := gb280) (o := .cells #[.int .i64 t277, .int .i64 t278] 23 (0, 0)) (by refine bf_ ?_ NB280_300; refine bf_ ?_ NB280_300; exact bk_ BK280) hb); replace BK284 := Aside0.mk (blk_below (g := gb284) (o := .cells #[.int .i64 t281, .int .i64 t282] 23 (0, 0)) (by refine bf_ ?_ NB284_300; refine bf_ ?_ NB284_300; exact bk_ BK284) hb); replace BK288 := Aside0.mk (blk_below (g := gb288) (o := .cells #[.int .i64 t285, .int .i64 t286] 23 (0, 0)) (by refine bf_ ?_ NB288_300; refine bf_ ?_ NB288_300; exact bk_ BK288) hb); replace BK292 := Aside0.mk (blk_below (g := gb292) (o := .cells #[.int .i64 t289, .int .i64 t290] 23 (0, 0)) (by refine bf_ ?_ NB292_300; refine bf_ ?_ NB292_300; exact bk_ BK292) hb); replace BK296 := Aside0.mk (blk_below (g := gb296) (o := .cells #[.int .i64 t293, .int .i64 t294] 23 (0, 0)) (by refine bf_ ?_ NB296_300; refine bf_ ?_ NB296_300; exact bk_ BK296) hb); replace BK300 := Aside0.mk (blk_below (g := gb300) (o := .cells #[.int .i64 t297, .int .i64 t298] 23 (0, 0)) (by refine bp_ (cs := #[.int .i64 t297, .int .i64 0]) ?_ 1; refine bp_ (cs := #[.int .i64 0, .int .i64 0]) ?_ 0; exact bk_ BK300) hb); replace HB := bws_ HB hb; (try clear hb); (try clear hb2); (try clear hk); (try clear hi)) | ((with_reducible refine gate_dst (N := 19) rfl ?_); refine box_event ?hg (N := 19) ?hd (cs := #[.int .i64 0, .int .i64 0]) (t := 23) ?hr ?_; (case hd => rfl); (case hg => rfl); (case hr => first | (go_simp; done) | (go_simp; rfl)); intro gb304 hg w423 hbox hb; have BK304 := Aside0.mk hbox; have GW304 := bwg_ HB hg; have GE304 := bwg_ HB hg; replace HB := bws_ HB hb; have NB274_304 := bkl_ BK274 hg; have NB304_274 := bkr_ BK274 hg; replace BK274 := bkb_ BK274 hb; have NB275_304 := bkl_ BK275 hg; have NB304_275 := bkr_ BK275 hg; replace BK275 := bkb_ BK275 hb; have NB276_304 := bkl_ BK276 hg; have NB304_276 := bkr_ BK276 hg; replace BK276 := bkb_ BK276 hb; have NB280_304 := bkl_ BK280 hg; have NB304_280 := bkr_ BK280 hg; replace BK280 := bkb_ BK280 hb; have NB284_304 := bkl_ BK284 hg; have NB304_284 := bkr_ BK284 hg; replace BK284 := bkb_ BK284 hb; have NB288_304 := bkl_ BK288 hg; have NB304_288 := bkr_ BK288 hg; replace BK288 := bkb_ BK288 hb; have NB292_304 := bkl_ BK292 hg; have NB304_292 := bkr_ BK292 hg; replace BK292 := bkb_ BK292 hb; have NB296_304 := bkl_ BK296 hg; have NB304_296 := bkr_ BK296 hg; replace BK296 := bkb_ BK296 hb; have NB300_304 := bkl_ BK300 hg; have NB304_300 := bkr_ BK300 hg; replace BK300 := bkb_ BK300 hb; clear hb hbox hg; have hnb424 := NB304_274.out; have hnc424 := NB274_304.out; have hnb425 := NB304_275.out; have hnc425 := NB275_304.out; have hnb426 := NB304_276.out; have hnc426 := NB276_304.out; have hnb427 := NB304_280.out; have hnc427 := NB280_304.out; have hnb428 := NB304_284.out; have hnc428 := NB284_304.out; have hnb429 := NB304_288.out; have hnc429 := NB288_304.out; have hnb430 := NB304_292.out; have hnc430 := NB292_304.out; have hnb431 := NB304_296.out; have hnc431 := NB296_304.out; have hnb432 := NB304_300.out; have hnc432 := NB300_304.out; obtain ⟨hcz433_0, hcz433_1, hfz433_0, hfz433_1⟩ := bc2_ BK304; obtain ⟨hcz434_0, hcz434_1, hfz434_0, hfz434_1⟩ := bc2_ BK300) | ((with_reducible refine gate_callee (f := 18) rfl ?_); refine gla_ (some 86) Try.func18 #[.agg #[.int .i64 t297, .int .i64 t298], .agg #[.int .i64 t301, .int .i64 t302]] ?_; (with_reducible refine (num_Add.calls kj34 t297 t298 t301 t302 t305 t306 t307 _ A85.out).mono ?_); rintro e w435 ⟨rfl, hb⟩; refine ⟨_, rfl, ?_⟩; replace BK274 := Aside0.mk (blk_below (g := gb274) (o := .cells #[.int .i64 a0_0, .int .i64 a0_1] 23 (0, 0)) (by refine bf_ ?_ NB274_304; refine bf_ ?_ NB274_304; exact bk_ BK274) hb); replace BK275 := Aside0.mk (blk_below (g := gb275) (o := .cells #[.int .i64 a1_0, .int .i64 a1_1] 23 (0, 0)) (by refine bf_ ?_ NB275_304; refine bf_ ?_ NB275_304; exact bk_ BK275) hb); replace BK276 := Aside0.mk (blk_below (g := gb276) (o := .cells #[.int .i64 a2_0, .int .i64 a2_1] 23 (0, 0)) (by refine bf_ ?_ NB276_304; refine bf_ ?_ NB276_304; exact bk_ BK276) hb); replace BK280 := Aside0.mk (blk_below (g := gb280) (o := .cells #[.int .i64 t277, .int .i64 t278] 23 (0, 0)) (by refine bf_ ?_ NB280_304; refine bf_ ?_ NB280_304; exact bk_ BK280) hb); replace BK284 := Aside0.mk (blk_below (g := gb284) (o := .cells #[.int .i64 t281, .int .i64 t282] 23 (0, 0)) (by refine bf_ ?_ NB284_304; refine bf_ ?_ NB284_304; exact bk_ BK284) hb); replace BK288 := Aside0.mk (blk_below (g := gb288) (o := .cells #[.int .i64 t285, .int .i64 t286] 23 (0, 0)) (by refine bf_ ?_ NB288_304; refine bf_ ?_ NB288_304; exact bk_ BK288) hb); replace BK292 := Aside0.mk (blk_below (g := gb292) (o := .cells #[.int .i64 t289, .int .i64 t290] 23 (0, 0)) (by refine bf_ ?_ NB292_304; refine bf_ ?_ NB292_304; exact bk_ BK292) hb); replace BK296 := Aside0.mk (blk_below (g := gb296) (o := .cells #[.int .i64 t293, .int .i64 t294] 23 (0, 0)) (by refine bf_ ?_ NB296_304; refine bf_ ?_ NB296_304; exact bk_ BK296) hb); replace BK300 := Aside0.mk (blk_below (g := gb300) (o := .cells #[.int .i64 t297, .int .i64 t298] 23 (0, 0)) (by refine bf_ ?_ NB300_304; refine bf_ ?_ NB300_304; exact bk_ BK300) hb); replace BK304 := Aside0.mk (blk_below (g := gb304) (o := .cells #[.int .i64 t301, .int .i64 t302] 23 (0, 0)) (by refine bp_ (cs := #[.int .i64 t301, .int .i64 0]) ?_ 1; refine bp_ (cs := #[.int .i64 0, .int .i64 0]) ?_ 0; exact bk_ BK304) hb); replace HB := bws_ HB hb; (try clear hb); (try clear hb2); (try clear hk); (try clear hi)) | ((with_reducible refine gate_dst (N := 21) rfl ?_); refine box_event ?hg (N := 21) ?hd (cs := #[.int .i64 0, .int .i64 0]) (t := 23) ?hr ?_; (case hd => rfl); (case hg => rfl); (case hr => first | (go_simp; done) | (go_simp; rfl)); intro gb308 hg w436 hbox hb; have BK308 := Aside0.mk hbox; have GW308 := bwg_ HB hg; have GE308 := bwg_ HB hg; replace HB := bws_ HB hb; have NB274_308 := bkl_ BK274 hg; have NB308_274 := bkr_ BK274 hg; replace BK274 := bkb_ BK274 hb; have NB275_308 := bkl_ BK275 hg; have NB308_275 := bkr_ BK275 hg; replace BK275 := bkb_ BK275 hb; have NB276_308 := bkl_ BK276 hg; have NB308_276 := bkr_ BK276 hg; replace BK276 := bkb_ BK276 hb; have NB280_308 := bkl_ BK280 hg; have NB308_280 := bkr_ BK280 hg; replace BK280 := bkb_ BK280 hb; have NB284_308 := bkl_ BK284 hg; have NB308_284 := bkr_ BK284 hg; replace BK284 := bkb_ BK284 hb; have NB288_308 := bkl_ BK288 hg; have NB308_288 := bkr_ BK288 hg; replace BK288 := bkb_ BK288 hb; have NB292_308 := bkl_ BK292 hg; have NB308_292 := bkr_ BK292 hg; replace BK292 := bkb_ BK292 hb; have NB296_308 := bkl_ BK296 hg; have NB308_296 := bkr_ BK296 hg; replace BK296 := bkb_ BK296 hb; have NB300_308 := bkl_ BK300 hg; have NB308_300 := bkr_ BK300 hg; replace BK300 := bkb_ BK300 hb; have NB304_308 := bkl_ BK304 hg; have NB308_304 := bkr_ BK304 hg; replace BK304 := bkb_ BK304 hb; clear hb hbox hg; have hnb437 := NB308_274.out; have hnc437 := NB274_308.out; have hnb438 := NB308_275.out; have hnc438 := NB275_308.out; have hnb439 := NB308_276.out; have hnc439 := NB276_308.out; have hnb440 := NB308_280.out; have hnc440 := NB280_308.out; have hnb441 := NB308_284.out; have hnc441 := NB284_308.out; have hnb442 := NB308_288.out; have hnc442 := NB288_308.out; have hnb443 := NB308_292.out; have hnc443 := NB292_308.out; have hnb444 := NB308_296.out; have hnc444 := NB296_308.out; have hnb445 := NB308_300.out; have hnc445 := NB300_308.out; have hnb446 := NB308_304.out; have hnc446 := NB304_308.out; obtain ⟨hcz447_0, hcz447_1, hfz447_0, hfz447_1⟩ := bc2_ BK308))
                 go_meet
                 case rel => exact ⟨_, H', ⟨by have := HJ5.out; have := HJ34.out; first | omega | exact Nat.le_refl _⟩, ⟨by refine bf_ ?_ NB274_308; refine bf_ ?_ NB274_308; exact bk_ BK274⟩, ⟨by refine bf_ ?_ NB275_308; refine bf_ ?_ NB275_308; exact bk_ BK275⟩, ⟨by refine bf_ ?_ NB276_308; refine bf_ ?_ NB276_308; exact bk_ BK276⟩, ⟨by refine bf_ ?_ NB280_308; refine bf_ ?_ NB280_308; exact bk_ BK280⟩, ⟨by refine bf_ ?_ NB284_308; refine bf_ ?_ NB284_308; exact bk_ BK284⟩, ⟨bw_ HB⟩⟩
             · rw [if_neg c86] at H
               have c86b0 : (t295 == 0) = false := beq_eq_false_iff_ne.mpr c86
               have c86b1 : (t295 != 0) = true := bne_iff_ne.mpr c86
               have H' := Aside0.mk H
               clear H
               have hnb448 := NB274_275.out
               have hnc448 := NB275_274.out
               have hnb449 := NB274_276.out
               have hnc449 := NB276_274.out
               have hnb450 := NB274_280.out
               have hnc450 := NB280_274.out
               have hnb451 := NB274_284.out
               have hnc451 := NB284_274.out
               have hnb452 := NB274_288.out
               have hnc452 := NB288_274.out
               have hnb453 := NB274_292.out
               have hnc453 := NB292_274.out
               obtain ⟨hcz454_0, hcz454_1, hfz454_0, hfz454_1⟩ := bc2_ BK274
               have hnb455 := NB284_275.out
               have hnc455 := NB275_284.out
               have hnb456 := NB284_276.out
               have hnc456 := NB276_284.out
               have hnb457 := NB284_280.out
               have hnc457 := NB280_284.out
               have hnb458 := NB284_288.out
               have hnc458 := NB288_284.out
               have hnb459 := NB284_292.out
               have hnc459 := NB292_284.out
               obtain ⟨hcz460_0, hcz460_1, hfz460_0, hfz460_1⟩ := bc2_ BK284
               go_wp2_with (first | ((with_reducible refine gate_callee (f := 19) rfl ?_); refine gla_ (some 68) Try.func19 #[.agg #[.int .i64 a0_0, .int .i64 a0_1], .agg #[.int .i64 t281, .int .i64 t282]] ?_; (with_reducible refine (num_Mul.calls kj34 a0_0 a0_1 t281 t282 t293 t294 t295 _ A82.out).mono ?_); rintro e w461 ⟨rfl, hb⟩; refine ⟨_, rfl, ?_⟩; replace BK274 := bkb_ BK274 hb; replace BK275 := bkb_ BK275 hb; replace BK276 := bkb_ BK276 hb; replace BK280 := bkb_ BK280 hb; replace BK284 := bkb_ BK284 hb; replace BK288 := bkb_ BK288 hb; replace BK292 := bkb_ BK292 hb; replace HB := bws_ HB hb; (try clear hb); (try clear hb2); (try clear hk); (try clear hi)) | ((with_reducible refine gate_dst (N := 15) rfl ?_); refine box_event ?hg (N := 15) ?hd (cs := #[.int .i64 0, .int .i64 0]) (t := 23) ?hr ?_; (case hd => rfl); (case hg => rfl); (case hr => first | (go_simp; done) | (go_simp; rfl)); intro gb296 hg w462 hbox hb; have BK296 := Aside0.mk hbox; have GW296 := bwg_ HB hg; have GE296 := bwg_ HB hg; replace HB := bws_ HB hb; have NB274_296 := bkl_ BK274 hg; have NB296_274 := bkr_ BK274 hg; replace BK274 := bkb_ BK274 hb; have NB275_296 := bkl_ BK275 hg; have NB296_275 := bkr_ BK275 hg; replace BK275 := bkb_ BK275 hb; have NB276_296 := bkl_ BK276 hg; have NB296_276 := bkr_ BK276 hg; replace BK276 := bkb_ BK276 hb; have NB280_296 := bkl_ BK280 hg; have NB296_280 := bkr_ BK280 hg; replace BK280 := bkb_ BK280 hb; have NB284_296 := bkl_ BK284 hg; have NB296_284 := bkr_ BK284 hg; replace BK284 := bkb_ BK284 hb; have NB288_296 := bkl_ BK288 hg; have NB296_288 := bkr_ BK288 hg; replace BK288 := bkb_ BK288 hb; have NB292_296 := bkl_ BK292 hg; have NB296_292 := bkr_ BK292 hg; replace BK292 := bkb_ BK292 hb; clear hb hbox hg; have hnb463 := NB296_274.out; have hnc463 := NB274_296.out; have hnb464 := NB296_275.out; have hnc464 := NB275_296.out; have hnb465 := NB296_276.out; have hnc465 := NB276_296.out; have hnb466 := NB296_280.out; have hnc466 := NB280_296.out; have hnb467 := NB296_284.out; have hnc467 := NB284_296.out; have hnb468 := NB296_288.out; have hnc468 := NB288_296.out; have hnb469 := NB296_292.out; have hnc469 := NB292_296.out; obtain ⟨hcz470_0, hcz470_1, hfz470_0, hfz470_1⟩ := bc2_ BK296; obtain ⟨hcz471_0, hcz471_1, hfz471_0, hfz471_1⟩ := bc2_ BK274; have hnb472 := NB275_276.out; have hnc472 := NB276_275.out; have hnb473 := NB275_280.out; have hnc473 := NB280_275.out; have hnb474 := NB275_288.out; have hnc474 := NB288_275.out; have hnb475 := NB275_292.out; have hnc475 := NB292_275.out; obtain ⟨hcz476_0, hcz476_1, hfz476_0, hfz476_1⟩ := bc2_ BK275) | ((with_reducible refine gate_callee (f := 19) rfl ?_); refine gla_ (some 74) Try.func19 #[.agg #[.int .i64 a0_0, .int .i64 a0_1], .agg #[.int .i64 a1_0, .int .i64 a1_1]] ?_; (with_reducible refine (num_Mul.calls kj34 a0_0 a0_1 a1_0 a1_1 t297 t298 t299 _ A83.out).mono ?_); rintro e w477 ⟨rfl, hb⟩; refine ⟨_, rfl, ?_⟩; replace BK274 := Aside0.mk (blk_below (g := gb274) (o := .cells #[.int .i64 a0_0, .int .i64 a0_1] 23 (0, 0)) (by refine bf_ ?_ NB274_296; refine bf_ ?_ NB274_296; exact bk_ BK274) hb); replace BK275 := Aside0.mk (blk_below (g := gb275) (o := .cells #[.int .i64 a1_0, .int .i64 a1_1] 23 (0, 0)) (by refine bf_ ?_ NB275_296; refine bf_ ?_ NB275_296; exact bk_ BK275) hb); replace BK276 := Aside0.mk (blk_below (g := gb276) (o := .cells #[.int .i64 a2_0, .int .i64 a2_1] 23 (0, 0)) (by refine bf_ ?_ NB276_296; refine bf_ ?_ NB276_296; exact bk_ BK276) hb); replace BK280 := Aside0.mk (blk_below (g := gb280) (o := .cells #[.int .i64 t277, .int .i64 t278] 23 (0, 0)) (by refine bf_ ?_ NB280_296; refine bf_ ?_ NB280_296; exact bk_ BK280) hb); replace BK284 := Aside0.mk (blk_below (g := gb284) (o := .cells #[.int .i64 t281, .int .i64 t282] 23 (0, 0)) (by refine bf_ ?_ NB284_296; refine bf_ ?_ NB284_296; exact bk_ BK284) hb); replace BK288 := Aside0.mk (blk_below (g := gb288) (o := .cells #[.int .i64 t285, .int .i64 t286] 23 (0, 0)) (by refine bf_ ?_ NB288_296; refine bf_ ?_ NB288_296; exact bk_ BK288) hb); replace BK292 := Aside0.mk (blk_below (g := gb292) (o := .cells #[.int .i64 t289, .int .i64 t290] 23 (0, 0)) (by refine bf_ ?_ NB292_296; refine bf_ ?_ NB292_296; exact bk_ BK292) hb); replace BK296 := Aside0.mk (blk_below (g := gb296) (o := .cells #[.int .i64 t293, .int .i64 t294] 23 (0, 0)) (by refine bp_ (cs := #[.int .i64 t293, .int .i64 0]) ?_ 1; refine bp_ (cs := #[.int .i64 0, .int .i64 0]) ?_ 0; exact bk_ BK296) hb); replace HB := bws_ HB hb; (try clear hb); (try clear hb2); (try clear hk); (try clear hi)) | ((with_reducible refine gate_dst (N := 17) rfl ?_); refine box_event ?hg (N := 17) ?hd (cs := #[.int .i64 0, .int .i64 0]) (t := 23) ?hr ?_; (case hd => rfl); (case hg => rfl); (case hr => first | (go_simp; done) | (go_simp; rfl)); intro gb300 hg w478 hbox hb; have BK300 := Aside0.mk hbox; have GW300 := bwg_ HB hg; have GE300 := bwg_ HB hg; replace HB := bws_ HB hb; have NB274_300 := bkl_ BK274 hg; have NB300_274 := bkr_ BK274 hg; replace BK274 := bkb_ BK274 hb; have NB275_300 := bkl_ BK275 hg; have NB300_275 := bkr_ BK275 hg; replace BK275 := bkb_ BK275 hb; have NB276_300 := bkl_ BK276 hg; have NB300_276 := bkr_ BK276 hg; replace BK276 := bkb_ BK276 hb; have NB280_300 := bkl_ BK280 hg; have NB300_280 := bkr_ BK280 hg; replace BK280 := bkb_ BK280 hb; have NB284_300 := bkl_ BK284 hg; have NB300_284 := bkr_ BK284 hg; replace BK284 := bkb_ BK284 hb; have NB288_300 := bkl_ BK288 hg; have NB300_288 := bkr_ BK288 hg; replace BK288 := bkb_ BK288 hb; have NB292_300 := bkl_ BK292 hg; have NB300_292 := bkr_ BK292 hg; replace BK292 := bkb_ BK292 hb; have NB296_300 := bkl_ BK296 hg; have NB300_296 := bkr_ BK296 hg; replace BK296 := bkb_ BK296 hb; clear hb hbox hg; have hnb479 := NB300_274.out; have hnc479 := NB274_300.out; have hnb480 := NB300_275.out; have hnc480 := NB275_300.out; have hnb481 := NB300_276.out; have hnc481 := NB276_300.out; have hnb482 := NB300_280.out; have hnc482 := NB280_300.out; have hnb483 := NB300_284.out; have hnc483 := NB284_300.out; have hnb484 := NB300_288.out; have hnc484 := NB288_300.out; have hnb485 := NB300_292.out; have hnc485 := NB292_300.out; have hnb486 := NB300_296.out; have hnc486 := NB296_300.out; obtain ⟨hcz487_0, hcz487_1, hfz487_0, hfz487_1⟩ := bc2_ BK300; obtain ⟨hcz488_0, hcz488_1, hfz488_0, hfz488_1⟩ := bc2_ BK274; have hnb489 := NB276_280.out; have hnc489 := NB280_276.out; have hnb490 := NB276_288.out; have hnc490 := NB288_276.out; have hnb491 := NB276_292.out; have hnc491 := NB292_276.out; obtain ⟨hcz492_0, hcz492_1, hfz492_0, hfz492_1⟩ := bc2_ BK276) | ((with_reducible refine gate_callee (f := 19) rfl ?_); refine gla_ (some 80) Try.func19 #[.agg #[.int .i64 a0_0, .int .i64 a0_1], .agg #[.int .i64 a2_0, .int .i64 a2_1]] ?_; (with_reducible refine (num_Mul.calls kj34 a0_0 a0_1 a2_0 a2_1 t301 t302 t303 _ A84.out).mono ?_); rintro e w493 ⟨rfl, hb⟩; refine ⟨_, rfl, ?_⟩; replace BK274 := Aside0.mk (blk_below (g := gb274) (o := .cells #[.int .i64 a0_0, .int .i64 a0_1] 23 (0, 0)) (by refine bf_ ?_ NB274_300; refine bf_ ?_ NB274_300; exact bk_ BK274) hb); replace BK275 := Aside0.mk (blk_below (g := gb275) (o := .cells #[.int .i64 a1_0, .int .i64 a1_1] 23 (0, 0)) (by refine bf_ ?_ NB275_300; refine bf_ ?_ NB275_300; exact bk_ BK275) hb); replace BK276 := Aside0.mk (blk_below (g := gb276) (o := .cells #[.int .i64 a2_0, .int .i64 a2_1] 23 (0, 0)) (by refine bf_ ?_ NB276_300; refine bf_ ?_ NB276_300; exact bk_ BK276) hb); replace BK280 := Aside0.mk (blk_below (g := gb280) (o := .cells #[.int .i64 t277, .int .i64 t278] 23 (0, 0)) (by refine bf_ ?_ NB280_300; refine bf_ ?_ NB280_300; exact bk_ BK280) hb); replace BK284 := Aside0.mk (blk_below (g := gb284) (o := .cells #[.int .i64 t281, .int .i64 t282] 23 (0, 0)) (by refine bf_ ?_ NB284_300; refine bf_ ?_ NB284_300; exact bk_ BK284) hb); replace BK288 := Aside0.mk (blk_below (g := gb288) (o := .cells #[.int .i64 t285, .int .i64 t286] 23 (0, 0)) (by refine bf_ ?_ NB288_300; refine bf_ ?_ NB288_300; exact bk_ BK288) hb); replace BK292 := Aside0.mk (blk_below (g := gb292) (o := .cells #[.int .i64 t289, .int .i64 t290] 23 (0, 0)) (by refine bf_ ?_ NB292_300; refine bf_ ?_ NB292_300; exact bk_ BK292) hb); replace BK296 := Aside0.mk (blk_below (g := gb296) (o := .cells #[.int .i64 t293, .int .i64 t294] 23 (0, 0)) (by refine bf_ ?_ NB296_300; refine bf_ ?_ NB296_300; exact bk_ BK296) hb); replace BK300 := Aside0.mk (blk_below (g := gb300) (o := .cells #[.int .i64 t297, .int .i64 t298] 23 (0, 0)) (by refine bp_ (cs := #[.int .i64 t297, .int .i64 0]) ?_ 1; refine bp_ (cs := #[.int .i64 0, .int .i64 0]) ?_ 0; exact bk_ BK300) hb); replace HB := bws_ HB hb; (try clear hb); (try clear hb2); (try clear hk); (try clear hi)) | ((with_reducible refine gate_dst (N := 19) rfl ?_); refine box_event ?hg (N := 19) ?hd (cs := #[.int .i64 0, .int .i64 0]) (t := 23) ?hr ?_; (case hd => rfl); (case hg => rfl); (case hr => first | (go_simp; done) | (go_simp; rfl)); intro gb304 hg w494 hbox hb; have BK304 := Aside0.mk hbox; have GW304 := bwg_ HB hg; have GE304 := bwg_ HB hg; replace HB := bws_ HB hb; have NB274_304 := bkl_ BK274 hg; have NB304_274 := bkr_ BK274 hg; replace BK274 := bkb_ BK274 hb; have NB275_304 := bkl_ BK275 hg; have NB304_275 := bkr_ BK275 hg; replace BK275 := bkb_ BK275 hb; have NB276_304 := bkl_ BK276 hg; have NB304_276 := bkr_ BK276 hg; replace BK276 := bkb_ BK276 hb; have NB280_304 := bkl_ BK280 hg; have NB304_280 := bkr_ BK280 hg; replace BK280 := bkb_ BK280 hb; have NB284_304 := bkl_ BK284 hg; have NB304_284 := bkr_ BK284 hg; replace BK284 := bkb_ BK284 hb; have NB288_304 := bkl_ BK288 hg; have NB304_288 := bkr_ BK288 hg; replace BK288 := bkb_ BK288 hb; have NB292_304 := bkl_ BK292 hg; have NB304_292 := bkr_ BK292 hg; replace BK292 := bkb_ BK292 hb; have NB296_304 := bkl_ BK296 hg; have NB304_296 := bkr_ BK296 hg; replace BK296 := bkb_ BK296 hb; have NB300_304 := bkl_ BK300 hg; have NB304_300 := bkr_ BK300 hg; replace BK300 := bkb_ BK300 hb; clear hb hbox hg; have hnb495 := NB304_274.out; have hnc495 := NB274_304.out; have hnb496 := NB304_275.out; have hnc496 := NB275_304.out; have hnb497 := NB304_276.out; have hnc497 := NB276_304.out; have hnb498 := NB304_280.out; have hnc498 := NB280_304.out; have hnb499 := NB304_284.out; have hnc499 := NB284_304.out; have hnb500 := NB304_288.out; have hnc500 := NB288_304.out; have hnb501 := NB304_292.out; have hnc501 := NB292_304.out; have hnb502 := NB304_296.out; have hnc502 := NB296_304.out; have hnb503 := NB304_300.out; have hnc503 := NB300_304.out; obtain ⟨hcz504_0, hcz504_1, hfz504_0, hfz504_1⟩ := bc2_ BK304; obtain ⟨hcz505_0, hcz505_1, hfz505_0, hfz505_1⟩ := bc2_ BK300) | ((with_reducible refine gate_callee (f := 18) rfl ?_); refine gla_ (some 86) Try.func18 #[.agg #[.int .i64 t297, .int .i64 t298], .agg #[.int .i64 t301, .int .i64 t302]] ?_; (with_reducible refine (num_Add.calls kj34 t297 t298 t301 t302 t305 t306 t307 _ A85.out).mono ?_); rintro e w506 ⟨rfl, hb⟩; refine ⟨_, rfl, ?_⟩; replace BK274 := Aside0.mk (blk_below (g := gb274) (o := .cells #[.int .i64 a0_0, .int .i64 a0_1] 23 (0, 0)) (by refine bf_ ?_ NB274_304; refine bf_ ?_ NB274_304; exact bk_ BK274) hb); replace BK275 := Aside0.mk (blk_below (g := gb275) (o := .cells #[.int .i64 a1_0, .int .i64 a1_1] 23 (0, 0)) (by refine bf_ ?_ NB275_304; refine bf_ ?_ NB275_304; exact bk_ BK275) hb); replace BK276 := Aside0.mk (blk_below (g := gb276) (o := .cells #[.int .i64 a2_0, .int .i64 a2_1] 23 (0, 0)) (by refine bf_ ?_ NB276_304; refine bf_ ?_ NB276_304; exact bk_ BK276) hb); replace BK280 := Aside0.mk (blk_below (g := gb280) (o := .cells #[.int .i64 t277, .int .i64 t278] 23 (0, 0)) (by refine bf_ ?_ NB280_304; refine bf_ ?_ NB280_304; exact bk_ BK280) hb); replace BK284 := Aside0.mk (blk_below (g := gb284) (o := .cells #[.int .i64 t281, .int .i64 t282] 23 (0, 0)) (by refine bf_ ?_ NB284_304; refine bf_ ?_ NB284_304; exact bk_ BK284) hb); replace BK288 := Aside0.mk (blk_below (g := gb288) (o := .cells #[.int .i64 t285, .int .i64 t286] 23 (0, 0)) (by refine bf_ ?_ NB288_304; refine bf_ ?_ NB288_304; exact bk_ BK288) hb); replace BK292 := Aside0.mk (blk_below (g := gb292) (o := .cells #[.int .i64 t289, .int .i64 t290] 23 (0, 0)) (by refine bf_ ?_ NB292_304; refine bf_ ?_ NB292_304; exact bk_ BK292) hb); replace BK296 := Aside0.mk (blk_below (g := gb296) (o := .cells #[.int .i64 t293, .int .i64 t294] 23 (0, 0)) (by refine bf_ ?_ NB296_304; refine bf_ ?_ NB296_304; exact bk_ BK296) hb); replace BK300 := Aside0.mk (blk_below (g := gb300) (o := .cells #[.int .i64 t297, .int .i64 t298] 23 (0, 0)) (by refine bf_ ?_ NB300_304; refine bf_ ?_ NB300_304; exact bk_ BK300) hb); replace BK304 := Aside0.mk (blk_below (g := gb304) (o := .cells #[.int .i64 t301, .int .i64 t302] 23 (0, 0)) (by refine bp_ (cs := #[.int .i64 t301, .int .i64 0]) ?_ 1; refine bp_ (cs := #[.int .i64 0, .int .i64 0]) ?_ 0; exact bk_ BK304) hb); replace HB := bws_ HB hb; (try clear hb); (try clear hb2); (try clear hk); (try clear hi)) | ((with_reducible refine gate_dst (N := 21) rfl ?_); refine box_event ?hg (N := 21) ?hd (cs := #[.int .i64 0, .int .i64 0]) (t := 23) ?hr ?_; (case hd => rfl); (case hg => rfl); (case hr => first | (go_simp; done) | (go_simp; rfl)); intro gb308 hg w507 hbox hb; have BK308 := Aside0.mk hbox; have GW308 := bwg_ HB hg; have GE308 := bwg_ HB hg; replace HB := bws_ HB hb; have NB274_308 := bkl_ BK274 hg; have NB308_274 := bkr_ BK274 hg; replace BK274 := bkb_ BK274 hb; have NB275_308 := bkl_ BK275 hg; have NB308_275 := bkr_ BK275 hg; replace BK275 := bkb_ BK275 hb; have NB276_308 := bkl_ BK276 hg; have NB308_276 := bkr_ BK276 hg; replace BK276 := bkb_ BK276 hb; have NB280_308 := bkl_ BK280 hg; have NB308_280 := bkr_ BK280 hg; replace BK280 := bkb_ BK280 hb; have NB284_308 := bkl_ BK284 hg; have NB308_284 := bkr_ BK284 hg; replace BK284 := bkb_ BK284 hb; have NB288_308 := bkl_ BK288 hg; have NB308_288 := bkr_ BK288 hg; replace BK288 := bkb_ BK288 hb; have NB292_308 := bkl_ BK292 hg; have NB308_292 := bkr_ BK292 hg; replace BK292 := bkb_ BK292 hb; have NB296_308 := bkl_ BK296 hg; have NB308_296 := bkr_ BK296 hg; replace BK296 := bkb_ BK296 hb; have NB300_308 := bkl_ BK300 hg; have NB308_300 := bkr_ BK300 hg; replace BK300 := bkb_ BK300 hb; have NB304_308 := bkl_ BK304 hg; have NB308_304 := bkr_ BK304 hg; replace BK304 := bkb_ BK304 hb; clear hb hbox hg; have hnb508 := NB308_274.out; have hnc508 := NB274_308.out; have hnb509 := NB308_275.out; have hnc509 := NB275_308.out; have hnb510 := NB308_276.out; have hnc510 := NB276_308.out; have hnb511 := NB308_280.out; have hnc511 := NB280_308.out; have hnb512 := NB308_284.out; have hnc512 := NB284_308.out; have hnb513 := NB308_288.out; have hnc513 := NB288_308.out; have hnb514 := NB308_292.out; have hnc514 := NB292_308.out; have hnb515 := NB308_296.out; have hnc515 := NB296_308.out; have hnb516 := NB308_300.out; have hnc516 := NB300_308.out; have hnb517 := NB308_304.out; have hnc517 := NB304_308.out; obtain ⟨hcz518_0, hcz518_1, hfz518_0, hfz518_1⟩ := bc2_ BK308))
               go_meet
               case rel => exact ⟨_, H', ⟨by have := HJ5.out; have := HJ34.out; first | omega | exact Nat.le_refl _⟩, ⟨by refine bf_ ?_ NB274_308; refine bf_ ?_ NB274_308; exact bk_ BK274⟩, ⟨by refine bf_ ?_ NB275_308; refine bf_ ?_ NB275_308; exact bk_ BK275⟩, ⟨by refine bf_ ?_ NB276_308; refine bf_ ?_ NB276_308; exact bk_ BK276⟩, ⟨by refine bf_ ?_ NB280_308; refine bf_ ?_ NB280_308; exact bk_ BK280⟩, ⟨by refine bf_ ?_ NB284_308; refine bf_ ?_ NB284_308; exact bk_ BK284⟩, ⟨bw_ HB⟩⟩
      · replace c32 := Bool.eq_false_iff.mpr c32
        subst c32
        have H1 : (withylaw01_joined.j2 kj5 a0_0 a0_1 a1_0 a1_1 a2_0 a2_1) = some r := by rw [if_neg (show ¬ (false = true) by decide)] at H; exact H
        clear H
        have H := H1
        clear H1
        have H' := Aside0.mk H
        clear H
        go_wp2
        go_meet
        case rel => exact ⟨_, H', ⟨by have := HJ5.out; first | omega | exact Nat.le_refl _⟩, ⟨by exact bk_ BK274⟩, ⟨by exact bk_ BK275⟩, ⟨by exact bk_ BK276⟩, ⟨by exact bk_ BK280⟩, ⟨by exact bk_ BK284⟩, ⟨bw_ HB⟩⟩
    case rest =>
     as_aux_lemma =>
      clear HC31
      try clear c1
      try clear c2
      try clear p2
      try clear c3
      try clear c4
      try clear c5
      try clear c6
      try clear c7
      try clear c8
      try clear c9
      try clear c10
      try clear c11
      try clear c12
      try clear c13
      try clear c14
      try clear c15
      try clear c16
      try clear c17
      try clear c18
      try clear c19
      try clear c20
      try clear c21
      try clear c22
      try clear c23
      try clear c24
      try clear c25
      try clear c26
      try clear c27
      try clear c28
      try clear c29
      try clear c30
      try clear c30b0
      try clear c30b1
      try clear c31
      try clear c32
      try clear c33
      try clear c34
      try clear c35
      try clear c36
      try clear c37
      try clear c38
      try clear c39
      try clear c40
      try clear c41
      try clear c42
      try clear c43
      try clear c44
      try clear c45
      try clear c46
      try clear c47
      try clear c48
      try clear c49
      try clear c50
      try clear c51
      try clear c53
      try clear c54
      try clear c56
      try clear c60
      try clear c61
      try clear c62
      try clear c63
      try clear c64
      try clear c65
      try clear c67
      try clear c67b0
      try clear c67b1
      try clear c68
      try clear c69
      try clear c70
      try clear c71
      try clear c72
      try clear c73
      try clear c75
      try clear c76
      try clear c77
      try clear c78
      try clear c79
      try clear c81
      try clear c86
      try clear c86b0
      try clear c86b1
      try clear c87
      try clear c87b0
      try clear c87b1
      try clear c88
      try clear c88b0
      try clear c88b1
      try clear c89
      try clear c89b0
      try clear c89b1
      try clear c90
      try clear c90b0
      try clear c91
      try clear c92
      try clear c93
      try clear c94
      try clear c95
      try clear c96
      try clear c98
      try clear c99
      try clear c100
      try clear c101
      try clear c102
      try clear c106
      try clear c107
      try clear c108
      try clear c109
      try clear c110
      try clear c111
      try clear c112
      try clear c115
      try clear c116
      try clear c117
      try clear c118
      try clear c122
      try clear c123
      try clear c124
      try clear c125
      try clear c126
      try clear c127
      try clear c128
      try clear c129
      try clear c132
      try clear c133
      try clear c134
      try clear c138
      try clear c139
      try clear c140
      try clear c141
      try clear c142
      try clear c143
      try clear c144
      try clear c145
      try clear c146
      try clear c151
      try clear c152
      try clear c153
      try clear c154
      try clear c155
      try clear c156
      try clear c157
      try clear c158
      try clear c159
      try clear c160
      try clear c163
      try clear c164
      try clear c165
      try clear c166
      try clear c167
      try clear c168
      try clear c170
      try clear c171
      try clear c172
      try clear c173
      try clear c174
      try clear c178
      try clear c179
      try clear c180
      try clear c181
      try clear c182
      try clear c183
      try clear c184
      try clear c187
      try clear c188
      try clear c189
      try clear c190
      try clear c194
      try clear c195
      try clear c196
      try clear c197
      try clear c198
      try clear c199
      try clear c200
      try clear c201
      try clear c204
      try clear c205
      try clear c206
      try clear c210
      try clear c211
      try clear c212
      try clear c213
      try clear c214
      try clear c215
      try clear c216
      try clear c217
      try clear c218
      try clear c223
      try clear c224
      try clear c225
      try clear c226
      try clear c227
      try clear c228
      try clear c229
      try clear c230
      try clear c231
      try clear c232
      try clear c235
      try clear c236
      try clear c237
      try clear c238
      try clear c239
      try clear c240
      try clear c242
      try clear c243
      try clear c244
      try clear c245
      try clear c246
      try clear c250
      try clear c251
      try clear c252
      try clear c253
      try clear c254
      try clear c255
      try clear c256
      try clear c259
      try clear c260
      try clear c261
      try clear c262
      try clear c266
      try clear c267
      try clear c268
      try clear c269
      try clear c270
      try clear c271
      try clear c272
      try clear c273
      try clear c276
      try clear c277
      try clear c278
      try clear c282
      try clear c283
      try clear c284
      try clear c285
      try clear c286
      try clear c287
      try clear c288
      try clear c289
      try clear c290
      try clear c295
      try clear c296
      try clear c297
      try clear c298
      try clear c299
      try clear c300
      try clear c301
      try clear c302
      try clear c303
      try clear c304
      try clear c306
      try clear c307
      try clear c308
      try clear c309
      try clear c310
      try clear c311
      try clear c313
      try clear c314
      try clear c315
      try clear c316
      try clear c317
      try clear c321
      try clear c322
      try clear c323
      try clear c324
      try clear c325
      try clear c326
      try clear c327
      try clear c330
      try clear c331
      try clear c332
      try clear c333
      try clear c337
      try clear c338
      try clear c339
      try clear c340
      try clear c341
      try clear c342
      try clear c343
      try clear c344
      try clear c347
      try clear c348
      try clear c349
      try clear c353
      try clear c354
      try clear c355
      try clear c356
      try clear c357
      try clear c358
      try clear c359
      try clear c360
      try clear c361
      try clear c366
      try clear c367
      try clear c368
      try clear c369
      try clear c370
      try clear c371
      try clear c372
      try clear c373
      try clear c374
      try clear c375
      try clear c377
      try clear c378
      try clear c379
      try clear c380
      try clear c381
      try clear c382
      try clear c384
      try clear c385
      try clear c386
      try clear c387
      try clear c388
      try clear c392
      try clear c393
      try clear c394
      try clear c395
      try clear c396
      try clear c397
      try clear c398
      try clear c401
      try clear c402
      try clear c403
      try clear c404
      try clear c408
      try clear c409
      try clear c410
      try clear c411
      try clear c412
      try clear c413
      try clear c414
      try clear c415
      try clear c418
      try clear c419
      try clear c420
      try clear c424
      try clear c425
      try clear c426
      try clear c427
      try clear c428
      try clear c429
      try clear c430
      try clear c431
      try clear c432
      try clear c437
      try clear c438
      try clear c439
      try clear c440
      try clear c441
      try clear c442
      try clear c443
      try clear c444
      try clear c445
      try clear c446
      try clear c448
      try clear c449
      try clear c450
      try clear c451
      try clear c452
      try clear c453
      try clear c455
      try clear c456
      try clear c457
      try clear c458
      try clear c459
      try clear c463
      try clear c464
      try clear c465
      try clear c466
      try clear c467
      try clear c468
      try clear c469
      try clear c472
      try clear c473
      try clear c474
      try clear c475
      try clear c479
      try clear c480
      try clear c481
      try clear c482
      try clear c483
      try clear c484
      try clear c485
      try clear c486
      try clear c489
      try clear c490
      try clear c491
      try clear c495
      try clear c496
      try clear c497
      try clear c498
      try clear c499
      try clear c500
      try clear c501
      try clear c502
      try clear c503
      try clear c508
      try clear c509
      try clear c510
      try clear c511
      try clear c512
      try clear c513
      try clear c514
      try clear c515
      try clear c516
      try clear c517
      try clear hcz103_0
      try clear hcz103_1
      try clear hcz113_0
      try clear hcz113_1
      try clear hcz114_0
      try clear hcz114_1
      try clear hcz119_0
      try clear hcz119_1
      try clear hcz12_0
      try clear hcz12_1
      try clear hcz130_0
      try clear hcz130_1
      try clear hcz131_0
      try clear hcz131_1
      try clear hcz135_0
      try clear hcz135_1
      try clear hcz147_0
      try clear hcz147_1
      try clear hcz148_0
      try clear hcz148_1
      try clear hcz14_0
      try clear hcz14_1
      try clear hcz161_0
      try clear hcz161_1
      try clear hcz162_0
      try clear hcz162_1
      try clear hcz169_0
      try clear hcz169_1
      try clear hcz175_0
      try clear hcz175_1
      try clear hcz185_0
      try clear hcz185_1
      try clear hcz186_0
      try clear hcz186_1
      try clear hcz191_0
      try clear hcz191_1
      try clear hcz202_0
      try clear hcz202_1
      try clear hcz203_0
      try clear hcz203_1
      try clear hcz207_0
      try clear hcz207_1
      try clear hcz20_0
      try clear hcz20_1
      try clear hcz219_0
      try clear hcz219_1
      try clear hcz21_0
      try clear hcz21_1
      try clear hcz220_0
      try clear hcz220_1
      try clear hcz22_0
      try clear hcz22_1
      try clear hcz233_0
      try clear hcz233_1
      try clear hcz234_0
      try clear hcz234_1
      try clear hcz241_0
      try clear hcz241_1
      try clear hcz247_0
      try clear hcz247_1
      try clear hcz257_0
      try clear hcz257_1
      try clear hcz258_0
      try clear hcz258_1
      try clear hcz263_0
      try clear hcz263_1
      try clear hcz274_0
      try clear hcz274_1
      try clear hcz275_0
      try clear hcz275_1
      try clear hcz279_0
      try clear hcz279_1
      try clear hcz291_0
      try clear hcz291_1
      try clear hcz292_0
      try clear hcz292_1
      try clear hcz29_0
      try clear hcz29_1
      try clear hcz305_0
      try clear hcz305_1
      try clear hcz312_0
      try clear hcz312_1
      try clear hcz318_0
      try clear hcz318_1
      try clear hcz328_0
      try clear hcz328_1
      try clear hcz329_0
      try clear hcz329_1
      try clear hcz334_0
      try clear hcz334_1
      try clear hcz345_0
      try clear hcz345_1
      try clear hcz346_0
      try clear hcz346_1
      try clear hcz350_0
      try clear hcz350_1
      try clear hcz362_0
      try clear hcz362_1
      try clear hcz363_0
      try clear hcz363_1
      try clear hcz376_0
      try clear hcz376_1
      try clear hcz383_0
      try clear hcz383_1
      try clear hcz389_0
      try clear hcz389_1
      try clear hcz399_0
      try clear hcz399_1
      try clear hcz400_0
      try clear hcz400_1
      try clear hcz405_0
      try clear hcz405_1
      try clear hcz40_0
      try clear hcz40_1
      try clear hcz416_0
      try clear hcz416_1
      try clear hcz417_0
      try clear hcz417_1
      try clear hcz421_0
      try clear hcz421_1
      try clear hcz433_0
      try clear hcz433_1
      try clear hcz434_0
      try clear hcz434_1
      try clear hcz447_0
      try clear hcz447_1
      try clear hcz44_0
      try clear hcz44_1
      try clear hcz454_0
      try clear hcz454_1
      try clear hcz460_0
      try clear hcz460_1
      try clear hcz470_0
      try clear hcz470_1
      try clear hcz471_0
      try clear hcz471_1
      try clear hcz476_0
      try clear hcz476_1
      try clear hcz487_0
      try clear hcz487_1
      try clear hcz488_0
      try clear hcz488_1
      try clear hcz492_0
      try clear hcz492_1
      try clear hcz504_0
      try clear hcz504_1
      try clear hcz505_0
      try clear hcz505_1
      try clear hcz518_0
      try clear hcz518_1
      try clear hcz52_0
      try clear hcz52_1
      try clear hcz55_0
      try clear hcz55_1
      try clear hcz57_0
      try clear hcz57_1
      try clear hcz66_0
      try clear hcz66_1
      try clear hcz74_0
      try clear hcz74_1
      try clear hcz80_0
      try clear hcz80_1
      try clear hcz97_0
      try clear hcz97_1
      try clear hfz103_0
      try clear hfz103_1
      try clear hfz113_0
      try clear hfz113_1
      try clear hfz114_0
      try clear hfz114_1
      try clear hfz119_0
      try clear hfz119_1
      try clear hfz12_0
      try clear hfz12_1
      try clear hfz130_0
      try clear hfz130_1
      try clear hfz131_0
      try clear hfz131_1
      try clear hfz135_0
      try clear hfz135_1
      try clear hfz147_0
      try clear hfz147_1
      try clear hfz148_0
      try clear hfz148_1
      try clear hfz14_0
      try clear hfz14_1
      try clear hfz161_0
      try clear hfz161_1
      try clear hfz162_0
      try clear hfz162_1
      try clear hfz169_0
      try clear hfz169_1
      try clear hfz175_0
      try clear hfz175_1
      try clear hfz185_0
      try clear hfz185_1
      try clear hfz186_0
      try clear hfz186_1
      try clear hfz191_0
      try clear hfz191_1
      try clear hfz202_0
      try clear hfz202_1
      try clear hfz203_0
      try clear hfz203_1
      try clear hfz207_0
      try clear hfz207_1
      try clear hfz20_0
      try clear hfz20_1
      try clear hfz219_0
      try clear hfz219_1
      try clear hfz21_0
      try clear hfz21_1
      try clear hfz220_0
      try clear hfz220_1
      try clear hfz22_0
      try clear hfz22_1
      try clear hfz233_0
      try clear hfz233_1
      try clear hfz234_0
      try clear hfz234_1
      try clear hfz241_0
      try clear hfz241_1
      try clear hfz247_0
      try clear hfz247_1
      try clear hfz257_0
      try clear hfz257_1
      try clear hfz258_0
      try clear hfz258_1
      try clear hfz263_0
      try clear hfz263_1
      try clear hfz274_0
      try clear hfz274_1
      try clear hfz275_0
      try clear hfz275_1
      try clear hfz279_0
      try clear hfz279_1
      try clear hfz291_0
      try clear hfz291_1
      try clear hfz292_0
      try clear hfz292_1
      try clear hfz29_0
      try clear hfz29_1
      try clear hfz305_0
      try clear hfz305_1
      try clear hfz312_0
      try clear hfz312_1
      try clear hfz318_0
      try clear hfz318_1
      try clear hfz328_0
      try clear hfz328_1
      try clear hfz329_0
      try clear hfz329_1
      try clear hfz334_0
      try clear hfz334_1
      try clear hfz345_0
      try clear hfz345_1
      try clear hfz346_0
      try clear hfz346_1
      try clear hfz350_0
      try clear hfz350_1
      try clear hfz362_0
      try clear hfz362_1
      try clear hfz363_0
      try clear hfz363_1
      try clear hfz376_0
      try clear hfz376_1
      try clear hfz383_0
      try clear hfz383_1
      try clear hfz389_0
      try clear hfz389_1
      try clear hfz399_0
      try clear hfz399_1
      try clear hfz400_0
      try clear hfz400_1
      try clear hfz405_0
      try clear hfz405_1
      try clear hfz40_0
      try clear hfz40_1
      try clear hfz416_0
      try clear hfz416_1
      try clear hfz417_0
      try clear hfz417_1
      try clear hfz421_0
      try clear hfz421_1
      try clear hfz433_0
      try clear hfz433_1
      try clear hfz434_0
      try clear hfz434_1
      try clear hfz447_0
      try clear hfz447_1
      try clear hfz44_0
      try clear hfz44_1
      try clear hfz454_0
      try clear hfz454_1
      try clear hfz460_0
      try clear hfz460_1
      try clear hfz470_0
      try clear hfz470_1
      try clear hfz471_0
      try clear hfz471_1
      try clear hfz476_0
      try clear hfz476_1
      try clear hfz487_0
      try clear hfz487_1
      try clear hfz488_0
      try clear hfz488_1
      try clear hfz492_0
      try clear hfz492_1
      try clear hfz504_0
      try clear hfz504_1
      try clear hfz505_0
      try clear hfz505_1
      try clear hfz518_0
      try clear hfz518_1
      try clear hfz52_0
      try clear hfz52_1
      try clear hfz55_0
      try clear hfz55_1
      try clear hfz57_0
      try clear hfz57_1
      try clear hfz66_0
      try clear hfz66_1
      try clear hfz74_0
      try clear hfz74_1
      try clear hfz80_0
      try clear hfz80_1
      try clear hfz97_0
      try clear hfz97_1
      try clear p2
      obtain ⟨kq, HA, HJ30, BK274, BK275, BK276, BK280, BK284, HB⟩ := hcut
      cases kq with
      | zero => exact absurd HA.out (by simp [withylaw01_joined.j2])
      | succ kj30 =>
       have H := HA.out
       clear HA
       simp only [withylaw01_joined.j2] at H
       replace H := Option.bind_eq_some_iff.mp H
       obtain ⟨⟨t309, t310, t311⟩, A5190, H⟩ := H
       replace H : ((num_Mul.f kj30 a1_0 a1_1 a2_0 a2_1).bind fun bt312 => (if t311 = 0 then (withylaw01_joined.j3 kj30 (bt312.2.2 != 0) a0_0 a0_1 a2_0 a2_1 t309 t310 bt312.1 bt312.2.1) else (withylaw01_joined.j3 kj30 true a0_0 a0_1 a2_0 a2_1 t309 t310 bt312.1 bt312.2.1))) = some r := H
       have A519 := Aside0.mk A5190
       clear A5190
       replace H := Option.bind_eq_some_iff.mp H
       obtain ⟨⟨t312, t313, t314⟩, A5200, H⟩ := H
       replace H : (if t311 = 0 then (withylaw01_joined.j3 kj30 (t314 != 0) a0_0 a0_1 a2_0 a2_1 t309 t310 t312 t313) else (withylaw01_joined.j3 kj30 true a0_0 a0_1 a2_0 a2_1 t309 t310 t312 t313)) = some r := H
       have A520 := Aside0.mk A5200
       clear A5200
       have HC521 := Aside0.mk H
       clear H
       have hnb522 := NB274_275.out
       have hnc522 := NB275_274.out
       have hnb523 := NB274_276.out
       have hnc523 := NB276_274.out
       have hnb524 := NB274_280.out
       have hnc524 := NB280_274.out
       have hnb525 := NB274_284.out
       have hnc525 := NB284_274.out
       obtain ⟨hcz526_0, hcz526_1, hfz526_0, hfz526_1⟩ := bc2_ BK274
       have hnb527 := NB275_276.out
       have hnc527 := NB276_275.out
       have hnb528 := NB275_280.out
       have hnc528 := NB280_275.out
       have hnb529 := NB275_284.out
       have hnc529 := NB284_275.out
       obtain ⟨hcz530_0, hcz530_1, hfz530_0, hfz530_1⟩ := bc2_ BK275
       go_upto_region 16 with (first | ((with_reducible refine gate_callee (f := 19) rfl ?_); refine gla_ (some 111) Try.func19 #[.agg #[.int .i64 a0_0, .int .i64 a0_1], .agg #[.int .i64 a1_0, .int .i64 a1_1]] ?_; (with_reducible refine (num_Mul.calls kj30 a0_0 a0_1 a1_0 a1_1 t309 t310 t311 _ A519.out).mono ?_); rintro e w531 ⟨rfl, hb⟩; refine ⟨_, rfl, ?_⟩; replace BK274 := bkb_ BK274 hb; replace BK275 := bkb_ BK275 hb; replace BK276 := bkb_ BK276 hb; replace BK280 := bkb_ BK280 hb; replace BK284 := bkb_ BK284 hb; replace HB := bws_ HB hb; (try clear hb); (try clear hb2); (try clear hk); (try clear hi); have hnb532 := NB280_276.out; have hnc532 := NB276_280.out; have hnb533 := NB280_284.out; have hnc533 := NB284_280.out; obtain ⟨hcz534_0, hcz534_1, hfz534_0, hfz534_1⟩ := bc2_ BK280; obtain ⟨hcz535_0, hcz535_1, hfz535_0, hfz535_1⟩ := bc2_ BK275; have hnb536 := NB276_284.out; have hnc536 := NB284_276.out; obtain ⟨hcz537_0, hcz537_1, hfz537_0, hfz537_1⟩ := bc2_ BK276) | ((with_reducible refine gate_callee (f := 19) rfl ?_); refine gla_ (some 117) Try.func19 #[.agg #[.int .i64 a1_0, .int .i64 a1_1], .agg #[.int .i64 a2_0, .int .i64 a2_1]] ?_; (with_reducible refine (num_Mul.calls kj30 a1_0 a1_1 a2_0 a2_1 t312 t313 t314 _ A520.out).mono ?_); rintro e w538 ⟨rfl, hb⟩; refine ⟨_, rfl, ?_⟩; replace BK274 := Aside0.mk (blk_below (g := gb274) (o := .cells #[.int .i64 a0_0, .int .i64 a0_1] 23 (0, 0)) (by refine bf_ ?_ NB274_280; refine bf_ ?_ NB274_280; exact bk_ BK274) hb); replace BK275 := Aside0.mk (blk_below (g := gb275) (o := .cells #[.int .i64 a1_0, .int .i64 a1_1] 23 (0, 0)) (by refine bf_ ?_ NB275_280; refine bf_ ?_ NB275_280; exact bk_ BK275) hb); replace BK276 := Aside0.mk (blk_below (g := gb276) (o := .cells #[.int .i64 a2_0, .int .i64 a2_1] 23 (0, 0)) (by refine bf_ ?_ NB276_280; refine bf_ ?_ NB276_280; exact bk_ BK276) hb); replace BK280 := Aside0.mk (blk_below (g := gb280) (o := .cells #[.int .i64 t309, .int .i64 t310] 23 (0, 0)) (by refine bp_ (cs := #[.int .i64 t309, .int .i64 t278]) ?_ 1; refine bp_ (cs := #[.int .i64 t277, .int .i64 t278]) ?_ 0; exact bk_ BK280) hb); replace BK284 := Aside0.mk (blk_below (g := gb284) (o := .cells #[.int .i64 t281, .int .i64 t282] 23 (0, 0)) (by refine bf_ ?_ NB284_280; refine bf_ ?_ NB284_280; exact bk_ BK284) hb); replace HB := bws_ HB hb; (try clear hb); (try clear hb2); (try clear hk); (try clear hi); obtain ⟨hcz539_0, hcz539_1, hfz539_0, hfz539_1⟩ := bc2_ BK284))
       (try simp only [Act.put, List.setIfInBounds_toArray, List.set_cons_zero, List.set_cons_succ])
       go_cut [125] (fun v125 wc => ∃ (kq : Nat) (x125_520 : Bool), v125 = .bool x125_520 ∧ Aside0 (withylaw01_joined.j3 kq x125_520 a0_0 a0_1 a2_0 a2_1 t309 t310 t312 t313 = some r) ∧ Aside0 (kq ≤ kj30) ∧ Aside0 (wc.heap[gb274]? = some (.cells #[.int .i64 a0_0, .int .i64 a0_1] 23 (0, 0))) ∧ Aside0 (wc.heap[gb275]? = some (.cells #[.int .i64 a1_0, .int .i64 a1_1] 23 (0, 0))) ∧ Aside0 (wc.heap[gb276]? = some (.cells #[.int .i64 a2_0, .int .i64 a2_1] 23 (0, 0))) ∧ Aside0 (wc.heap[gb280]? = some (.cells #[.int .i64 t309, .int .i64 t310] 23 (0, 0))) ∧ Aside0 (wc.heap[gb284]? = some (.cells #[.int .i64 t312, .int .i64 t313] 23 (0, 0))) ∧ Aside0 (Below w.heap.size w wc))
       case first =>
        as_aux_lemma =>
         have H := HC521.out
         clear HC521
         by_cases c540 : t311 = 0
         · rw [if_pos c540] at H
           have c540b0 : (t311 == 0) = true := beq_iff_eq.mpr c540
           have c540b1 : (t311 != 0) = false := bne_eq_false_iff_eq.mpr c540
           clear c540
           (first | rw [c540b0] | (simp only [i64_w, i32_w]; rw [c540b0]) | skip)
           have H' := Aside0.mk H
           clear H
           go_wp2
           go_meet
           case rel => exact ⟨_, ((t314 != 0)), (by first | rfl | (simp; done) | (simp [*]; done)), H', ⟨by have := HJ5.out; have := HJ30.out; first | omega | exact Nat.le_refl _⟩, ⟨by refine bf_ ?_ NB274_284; refine bf_ ?_ NB274_284; exact bk_ BK274⟩, ⟨by refine bf_ ?_ NB275_284; refine bf_ ?_ NB275_284; exact bk_ BK275⟩, ⟨by refine bf_ ?_ NB276_284; refine bf_ ?_ NB276_284; exact bk_ BK276⟩, ⟨by refine bf_ ?_ NB280_284; refine bf_ ?_ NB280_284; exact bk_ BK280⟩, ⟨by refine bp_ (cs := #[.int .i64 t312, .int .i64 t282]) ?_ 1; refine bp_ (cs := #[.int .i64 t281, .int .i64 t282]) ?_ 0; exact bk_ BK284⟩, ⟨bw_ HB⟩⟩
         · rw [if_neg c540] at H
           have c540b0 : (t311 == 0) = false := beq_eq_false_iff_ne.mpr c540
           have c540b1 : (t311 != 0) = true := bne_iff_ne.mpr c540
           (first | rw [c540b0] | (simp only [i64_w, i32_w]; rw [c540b0]) | skip)
           have H' := Aside0.mk H
           clear H
           go_wp2
           go_meet
           case rel => exact ⟨_, (true), (by first | rfl | (simp; done) | (simp [*]; done)), H', ⟨by have := HJ5.out; have := HJ30.out; first | omega | exact Nat.le_refl _⟩, ⟨by refine bf_ ?_ NB274_284; refine bf_ ?_ NB274_284; exact bk_ BK274⟩, ⟨by refine bf_ ?_ NB275_284; refine bf_ ?_ NB275_284; exact bk_ BK275⟩, ⟨by refine bf_ ?_ NB276_284; refine bf_ ?_ NB276_284; exact bk_ BK276⟩, ⟨by refine bf_ ?_ NB280_284; refine bf_ ?_ NB280_284; exact bk_ BK280⟩, ⟨by refine bp_ (cs := #[.int .i64 t312, .int .i64 t282]) ?_ 1; refine bp_ (cs := #[.int .i64 t281, .int .i64 t282]) ?_ 0; exact bk_ BK284⟩, ⟨bw_ HB⟩⟩
       case rest =>
        as_aux_lemma =>
         clear HC521
         try clear c1
         try clear c2
         try clear p2
         try clear c3
         try clear c4
         try clear c5
         try clear c19
         try clear c24
         try clear c25
         try clear c26
         try clear c27
         try clear c28
         try clear c29
         try clear c30
         try clear c31
         try clear c32
         try clear c33
         try clear c34
         try clear c35
         try clear c36
         try clear c37
         try clear c38
         try clear c39
         try clear c40
         try clear c41
         try clear c42
         try clear c43
         try clear c44
         try clear c45
         try clear c46
         try clear c47
         try clear c48
         try clear c49
         try clear c50
         try clear c51
         try clear c52
         try clear c53
         try clear c54
         try clear c242
         try clear c243
         try clear c244
         try clear c245
         try clear c246
         try clear c250
         try clear c251
         try clear c252
         try clear c253
         try clear c254
         try clear c255
         try clear c256
         try clear c259
         try clear c260
         try clear c261
         try clear c262
         try clear c266
         try clear c267
         try clear c268
         try clear c269
         try clear c270
         try clear c271
         try clear c272
         try clear c273
         try clear c276
         try clear c277
         try clear c278
         try clear c282
         try clear c283
         try clear c284
         try clear c285
         try clear c286
         try clear c287
         try clear c288
         try clear c289
         try clear c290
         try clear c295
         try clear c296
         try clear c297
         try clear c298
         try clear c299
         try clear c300
         try clear c301
         try clear c302
         try clear c303
         try clear c304
         try clear c306
         try clear c307
         try clear c308
         try clear c309
         try clear c310
         try clear c311
         try clear c313
         try clear c314
         try clear c315
         try clear c316
         try clear c317
         try clear c321
         try clear c322
         try clear c323
         try clear c324
         try clear c325
         try clear c326
         try clear c327
         try clear c330
         try clear c331
         try clear c332
         try clear c333
         try clear c337
         try clear c338
         try clear c339
         try clear c340
         try clear c341
         try clear c342
         try clear c343
         try clear c344
         try clear c347
         try clear c348
         try clear c349
         try clear c353
         try clear c354
         try clear c355
         try clear c356
         try clear c357
         try clear c358
         try clear c359
         try clear c360
         try clear c361
         try clear c366
         try clear c367
         try clear c368
         try clear c369
         try clear c370
         try clear c371
         try clear c372
         try clear c373
         try clear c374
         try clear c375
         try clear c377
         try clear c378
         try clear c379
         try clear c380
         try clear c381
         try clear c382
         try clear c384
         try clear c385
         try clear c386
         try clear c387
         try clear c388
         try clear c392
         try clear c393
         try clear c394
         try clear c395
         try clear c396
         try clear c397
         try clear c398
         try clear c401
         try clear c402
         try clear c403
         try clear c404
         try clear c408
         try clear c409
         try clear c410
         try clear c411
         try clear c412
         try clear c413
         try clear c414
         try clear c415
         try clear c418
         try clear c419
         try clear c420
         try clear c424
         try clear c425
         try clear c426
         try clear c427
         try clear c428
         try clear c429
         try clear c430
         try clear c431
         try clear c432
         try clear c437
         try clear c438
         try clear c439
         try clear c440
         try clear c441
         try clear c442
         try clear c443
         try clear c444
         try clear c445
         try clear c446
         try clear c448
         try clear c449
         try clear c450
         try clear c451
         try clear c452
         try clear c453
         try clear c455
         try clear c456
         try clear c457
         try clear c458
         try clear c459
         try clear c463
         try clear c464
         try clear c465
         try clear c466
         try clear c467
         try clear c468
         try clear c469
         try clear c472
         try clear c473
         try clear c474
         try clear c475
         try clear c479
         try clear c480
         try clear c481
         try clear c482
         try clear c483
         try clear c484
         try clear c485
         try clear c486
         try clear c489
         try clear c490
         try clear c491
         try clear c495
         try clear c496
         try clear c497
         try clear c498
         try clear c499
         try clear c500
         try clear c501
         try clear c502
         try clear c503
         try clear c508
         try clear c509
         try clear c510
         try clear c511
         try clear c512
         try clear c513
         try clear c514
         try clear c515
         try clear c516
         try clear c517
         try clear c522
         try clear c523
         try clear c524
         try clear c525
         try clear c527
         try clear c528
         try clear c529
         try clear c532
         try clear c533
         try clear c536
         try clear c540
         try clear c540b0
         try clear c540b1
         try clear hcz103_0
         try clear hcz103_1
         try clear hcz113_0
         try clear hcz113_1
         try clear hcz114_0
         try clear hcz114_1
         try clear hcz119_0
         try clear hcz119_1
         try clear hcz12_0
         try clear hcz12_1
         try clear hcz130_0
         try clear hcz130_1
         try clear hcz131_0
         try clear hcz131_1
         try clear hcz135_0
         try clear hcz135_1
         try clear hcz147_0
         try clear hcz147_1
         try clear hcz148_0
         try clear hcz148_1
         try clear hcz14_0
         try clear hcz14_1
         try clear hcz161_0
         try clear hcz161_1
         try clear hcz162_0
         try clear hcz162_1
         try clear hcz169_0
         try clear hcz169_1
         try clear hcz175_0
         try clear hcz175_1
         try clear hcz185_0
         try clear hcz185_1
         try clear hcz186_0
         try clear hcz186_1
         try clear hcz191_0
         try clear hcz191_1
         try clear hcz202_0
         try clear hcz202_1
         try clear hcz203_0
         try clear hcz203_1
         try clear hcz207_0
         try clear hcz207_1
         try clear hcz20_0
         try clear hcz20_1
         try clear hcz219_0
         try clear hcz219_1
         try clear hcz21_0
         try clear hcz21_1
         try clear hcz220_0
         try clear hcz220_1
         try clear hcz22_0
         try clear hcz22_1
         try clear hcz233_0
         try clear hcz233_1
         try clear hcz234_0
         try clear hcz234_1
         try clear hcz241_0
         try clear hcz241_1
         try clear hcz247_0
         try clear hcz247_1
         try clear hcz257_0
         try clear hcz257_1
         try clear hcz258_0
         try clear hcz258_1
         try clear hcz263_0
         try clear hcz263_1
         try clear hcz274_0
         try clear hcz274_1
         try clear hcz275_0
         try clear hcz275_1
         try clear hcz279_0
         try clear hcz279_1
         try clear hcz291_0
         try clear hcz291_1
         try clear hcz292_0
         try clear hcz292_1
         try clear hcz29_0
         try clear hcz29_1
         try clear hcz305_0
         try clear hcz305_1
         try clear hcz312_0
         try clear hcz312_1
         try clear hcz318_0
         try clear hcz318_1
         try clear hcz328_0
         try clear hcz328_1
         try clear hcz329_0
         try clear hcz329_1
         try clear hcz334_0
         try clear hcz334_1
         try clear hcz345_0
         try clear hcz345_1
         try clear hcz346_0
         try clear hcz346_1
         try clear hcz350_0
         try clear hcz350_1
         try clear hcz362_0
         try clear hcz362_1
         try clear hcz363_0
         try clear hcz363_1
         try clear hcz376_0
         try clear hcz376_1
         try clear hcz383_0
         try clear hcz383_1
         try clear hcz389_0
         try clear hcz389_1
         try clear hcz399_0
         try clear hcz399_1
         try clear hcz400_0
         try clear hcz400_1
         try clear hcz405_0
         try clear hcz405_1
         try clear hcz40_0
         try clear hcz40_1
         try clear hcz416_0
         try clear hcz416_1
         try clear hcz417_0
         try clear hcz417_1
         try clear hcz421_0
         try clear hcz421_1
         try clear hcz433_0
         try clear hcz433_1
         try clear hcz434_0
         try clear hcz434_1
         try clear hcz447_0
         try clear hcz447_1
         try clear hcz44_0
         try clear hcz44_1
         try clear hcz454_0
         try clear hcz454_1
         try clear hcz460_0
         try clear hcz460_1
         try clear hcz470_0
         try clear hcz470_1
         try clear hcz471_0
         try clear hcz471_1
         try clear hcz476_0
         try clear hcz476_1
         try clear hcz487_0
         try clear hcz487_1
         try clear hcz488_0
         try clear hcz488_1
         try clear hcz492_0
         try clear hcz492_1
         try clear hcz504_0
         try clear hcz504_1
         try clear hcz505_0
         try clear hcz505_1
         try clear hcz518_0
         try clear hcz518_1
         try clear hcz526_0
         try clear hcz526_1
         try clear hcz52_0
         try clear hcz52_1
         try clear hcz530_0
         try clear hcz530_1
         try clear hcz534_0
         try clear hcz534_1
         try clear hcz535_0
         try clear hcz535_1
         try clear hcz537_0
         try clear hcz537_1
         try clear hcz539_0
         try clear hcz539_1
         try clear hcz55_0
         try clear hcz55_1
         try clear hcz57_0
         try clear hcz57_1
         try clear hcz66_0
         try clear hcz66_1
         try clear hcz74_0
         try clear hcz74_1
         try clear hcz80_0
         try clear hcz80_1
         try clear hcz97_0
         try clear hcz97_1
         try clear hfz103_0
         try clear hfz103_1
         try clear hfz113_0
         try clear hfz113_1
         try clear hfz114_0
         try clear hfz114_1
         try clear hfz119_0
         try clear hfz119_1
         try clear hfz12_0
         try clear hfz12_1
         try clear hfz130_0
         try clear hfz130_1
         try clear hfz131_0
         try clear hfz131_1
         try clear hfz135_0
         try clear hfz135_1
         try clear hfz147_0
         try clear hfz147_1
         try clear hfz148_0
         try clear hfz148_1
         try clear hfz14_0
         try clear hfz14_1
         try clear hfz161_0
         try clear hfz161_1
         try clear hfz162_0
         try clear hfz162_1
         try clear hfz169_0
         try clear hfz169_1
         try clear hfz175_0
         try clear hfz175_1
         try clear hfz185_0
         try clear hfz185_1
         try clear hfz186_0
         try clear hfz186_1
         try clear hfz191_0
         try clear hfz191_1
         try clear hfz202_0
         try clear hfz202_1
         try clear hfz203_0
         try clear hfz203_1
         try clear hfz207_0
         try clear hfz207_1
         try clear hfz20_0
         try clear hfz20_1
         try clear hfz219_0
         try clear hfz219_1
         try clear hfz21_0
         try clear hfz21_1
         try clear hfz220_0
         try clear hfz220_1
         try clear hfz22_0
         try clear hfz22_1
         try clear hfz233_0
         try clear hfz233_1
         try clear hfz234_0
         try clear hfz234_1
         try clear hfz241_0
         try clear hfz241_1
         try clear hfz247_0
         try clear hfz247_1
         try clear hfz257_0
         try clear hfz257_1
         try clear hfz258_0
         try clear hfz258_1
         try clear hfz263_0
         try clear hfz263_1
         try clear hfz274_0
         try clear hfz274_1
         try clear hfz275_0
         try clear hfz275_1
         try clear hfz279_0
         try clear hfz279_1
         try clear hfz291_0
         try clear hfz291_1
         try clear hfz292_0
         try clear hfz292_1
         try clear hfz29_0
         try clear hfz29_1
         try clear hfz305_0
         try clear hfz305_1
         try clear hfz312_0
         try clear hfz312_1
         try clear hfz318_0
         try clear hfz318_1
         try clear hfz328_0
         try clear hfz328_1
         try clear hfz329_0
         try clear hfz329_1
         try clear hfz334_0
         try clear hfz334_1
         try clear hfz345_0
         try clear hfz345_1
         try clear hfz346_0
         try clear hfz346_1
         try clear hfz350_0
         try clear hfz350_1
         try clear hfz362_0
         try clear hfz362_1
         try clear hfz363_0
         try clear hfz363_1
         try clear hfz376_0
         try clear hfz376_1
         try clear hfz383_0
         try clear hfz383_1
         try clear hfz389_0
         try clear hfz389_1
         try clear hfz399_0
         try clear hfz399_1
         try clear hfz400_0
         try clear hfz400_1
         try clear hfz405_0
         try clear hfz405_1
         try clear hfz40_0
         try clear hfz40_1
         try clear hfz416_0
         try clear hfz416_1
         try clear hfz417_0
         try clear hfz417_1
         try clear hfz421_0
         try clear hfz421_1
         try clear hfz433_0
         try clear hfz433_1
         try clear hfz434_0
         try clear hfz434_1
         try clear hfz447_0
         try clear hfz447_1
         try clear hfz44_0
         try clear hfz44_1
         try clear hfz454_0
         try clear hfz454_1
         try clear hfz460_0
         try clear hfz460_1
         try clear hfz470_0
         try clear hfz470_1
         try clear hfz471_0
         try clear hfz471_1
         try clear hfz476_0
         try clear hfz476_1
         try clear hfz487_0
         try clear hfz487_1
         try clear hfz488_0
         try clear hfz488_1
         try clear hfz492_0
         try clear hfz492_1
         try clear hfz504_0
         try clear hfz504_1
         try clear hfz505_0
         try clear hfz505_1
         try clear hfz518_0
         try clear hfz518_1
         try clear hfz526_0
         try clear hfz526_1
         try clear hfz52_0
         try clear hfz52_1
         try clear hfz530_0
         try clear hfz530_1
         try clear hfz534_0
         try clear hfz534_1
         try clear hfz535_0
         try clear hfz535_1
         try clear hfz537_0
         try clear hfz537_1
         try clear hfz539_0
         try clear hfz539_1
         try clear hfz55_0
         try clear hfz55_1
         try clear hfz57_0
         try clear hfz57_1
         try clear hfz66_0
         try clear hfz66_1
         try clear hfz74_0
         try clear hfz74_1
         try clear hfz80_0
         try clear hfz80_1
         try clear hfz97_0
         try clear hfz97_1
         try clear p2
         obtain ⟨kq, x125_520, rfl, HA, HJ520, BK274, BK275, BK276, BK280, BK284, HB⟩ := hcut
         cases kq with
         | zero => exact absurd HA.out (by simp [withylaw01_joined.j3])
         | succ kj520 =>
          have H := HA.out
          clear HA
          simp only [withylaw01_joined.j3] at H
          by_cases c541 : x125_520 = true
          · subst c541
            have H1 : (some true) = some r := by rw [if_pos rfl] at H; exact H
            clear H
            have H := H1
            clear H1
            obtain rfl := Option.some.inj H
            go_wp2
            go_ret
            exact ⟨by first | rfl | (simp [*] <;> rfl), bw_ HB⟩
          · replace c541 := Bool.eq_false_iff.mpr c541
            subst c541
            have H1 : ((num_Mul.f kj520 t309 t310 a2_0 a2_1).bind fun bt315 => ((num_Mul.f kj520 a0_0 a0_1 t312 t313).bind fun bt319 => (if bt315.2.2 = bt319.2.2 then (some (bt315.1 == bt319.1 && (bt315.2.1 == bt319.2.1))) else (some false)))) = some r := by rw [if_neg (show ¬ (false = true) by decide)] at H; exact H
            clear H
            have H := H1
            clear H1
            replace H := Option.bind_eq_some_iff.mp H
            obtain ⟨⟨t315, t316, t317⟩, A5420, H⟩ := H
            replace H : ((num_Mul.f kj520 a0_0 a0_1 t312 t313).bind fun bt319 => (if t317 = bt319.2.2 then (some (t315 == bt319.1 && (t316 == bt319.2.1))) else (some false))) = some r := H
            have A542 := Aside0.mk A5420
            clear A5420
            replace H := Option.bind_eq_some_iff.mp H
            obtain ⟨⟨t319, t320, t321⟩, A5430, H⟩ := H
            replace H : (if t317 = t321 then (some (t315 == t319 && (t316 == t320))) else (some false)) = some r := H
            have A543 := Aside0.mk A5430
            clear A5430
            by_cases c544 : t317 = t321
            · rw [if_pos c544] at H
              have c544b0 : (t317 == t321) = true := beq_iff_eq.mpr c544
              have c544b1 : (t317 != t321) = false := bne_eq_false_iff_eq.mpr c544
              clear c544
              obtain rfl := Option.some.inj H
              have hnb545 := NB280_274.out
              have hnc545 := NB274_280.out
              have hnb546 := NB280_275.out
              have hnc546 := NB275_280.out
              have hnb547 := NB280_276.out
              have hnc547 := NB276_280.out
              have hnb548 := NB280_284.out
              have hnc548 := NB284_280.out
              obtain ⟨hcz549_0, hcz549_1, hfz549_0, hfz549_1⟩ := bc2_ BK280
              have hnb550 := NB276_274.out
              have hnc550 := NB274_276.out
              have hnb551 := NB276_275.out
              have hnc551 := NB275_276.out
              have hnb552 := NB276_284.out
              have hnc552 := NB284_276.out
              obtain ⟨hcz553_0, hcz553_1, hfz553_0, hfz553_1⟩ := bc2_ BK276
              go_wp2_with (first | ((with_reducible refine gate_callee (f := 19) rfl ?_); refine gla_ (some 129) Try.func19 #[.agg #[.int .i64 t309, .int .i64 t310], .agg #[.int .i64 a2_0, .int .i64 a2_1]] ?_; (with_reducible refine (num_Mul.calls kj520 t309 t310 a2_0 a2_1 t315 t316 t317 _ A542.out).mono ?_); rintro e w554 ⟨rfl, hb⟩; refine ⟨_, rfl, ?_⟩; replace BK274 := bkb_ BK274 hb; replace BK275 := bkb_ BK275 hb; replace BK276 := bkb_ BK276 hb; replace BK280 := bkb_ BK280 hb; replace BK284 := bkb_ BK284 hb; replace HB := bws_ HB hb; (try clear hb); (try clear hb2); (try clear hk); (try clear hi)) | ((with_reducible refine gate_dst (N := 23) rfl ?_); refine box_event ?hg (N := 23) ?hd (cs := #[.int .i64 0, .int .i64 0]) (t := 23) ?hr ?_; (case hd => rfl); (case hg => rfl); (case hr => first | (go_simp; done) | (go_simp; rfl)); intro gb318 hg w555 hbox hb; have BK318 := Aside0.mk hbox; have GW318 := bwg_ HB hg; have GE318 := bwg_ HB hg; replace HB := bws_ HB hb; have NB274_318 := bkl_ BK274 hg; have NB318_274 := bkr_ BK274 hg; replace BK274 := bkb_ BK274 hb; have NB275_318 := bkl_ BK275 hg; have NB318_275 := bkr_ BK275 hg; replace BK275 := bkb_ BK275 hb; have NB276_318 := bkl_ BK276 hg; have NB318_276 := bkr_ BK276 hg; replace BK276 := bkb_ BK276 hb; have NB280_318 := bkl_ BK280 hg; have NB318_280 := bkr_ BK280 hg; replace BK280 := bkb_ BK280 hb; have NB284_318 := bkl_ BK284 hg; have NB318_284 := bkr_ BK284 hg; replace BK284 := bkb_ BK284 hb; clear hb hbox hg; have hnb556 := NB318_274.out; have hnc556 := NB274_318.out; have hnb557 := NB318_275.out; have hnc557 := NB275_318.out; have hnb558 := NB318_276.out; have hnc558 := NB276_318.out; have hnb559 := NB318_280.out; have hnc559 := NB280_318.out; have hnb560 := NB318_284.out; have hnc560 := NB284_318.out; obtain ⟨hcz561_0, hcz561_1, hfz561_0, hfz561_1⟩ := bc2_ BK318; have hnb562 := NB274_275.out; have hnc562 := NB275_274.out; have hnb563 := NB274_284.out; have hnc563 := NB284_274.out; obtain ⟨hcz564_0, hcz564_1, hfz564_0, hfz564_1⟩ := bc2_ BK274; have hnb565 := NB284_275.out; have hnc565 := NB275_284.out; obtain ⟨hcz566_0, hcz566_1, hfz566_0, hfz566_1⟩ := bc2_ BK284) | ((with_reducible refine gate_callee (f := 19) rfl ?_); refine gla_ (some 135) Try.func19 #[.agg #[.int .i64 a0_0, .int .i64 a0_1], .agg #[.int .i64 t312, .int .i64 t313]] ?_; (with_reducible refine (num_Mul.calls kj520 a0_0 a0_1 t312 t313 t319 t320 t321 _ A543.out).mono ?_); rintro e w567 ⟨rfl, hb⟩; refine ⟨_, rfl, ?_⟩; replace BK274 := Aside0.mk (blk_below (g := gb274) (o := .cells #[.int .i64 a0_0, .int .i64 a0_1] 23 (0, 0)) (by refine bf_ ?_ NB274_318; refine bf_ ?_ NB274_318; exact bk_ BK274) hb); replace BK275 := Aside0.mk (blk_below (g := gb275) (o := .cells #[.int .i64 a1_0, .int .i64 a1_1] 23 (0, 0)) (by refine bf_ ?_ NB275_318; refine bf_ ?_ NB275_318; exact bk_ BK275) hb); replace BK276 := Aside0.mk (blk_below (g := gb276) (o := .cells #[.int .i64 a2_0, .int .i64 a2_1] 23 (0, 0)) (by refine bf_ ?_ NB276_318; refine bf_ ?_ NB276_318; exact bk_ BK276) hb); replace BK280 := Aside0.mk (blk_below (g := gb280) (o := .cells #[.int .i64 t309, .int .i64 t310] 23 (0, 0)) (by refine bf_ ?_ NB280_318; refine bf_ ?_ NB280_318; exact bk_ BK280) hb); replace BK284 := Aside0.mk (blk_below (g := gb284) (o := .cells #[.int .i64 t312, .int .i64 t313] 23 (0, 0)) (by refine bf_ ?_ NB284_318; refine bf_ ?_ NB284_318; exact bk_ BK284) hb); replace BK318 := Aside0.mk (blk_below (g := gb318) (o := .cells #[.int .i64 t315, .int .i64 t316] 23 (0, 0)) (by refine bp_ (cs := #[.int .i64 t315, .int .i64 0]) ?_ 1; refine bp_ (cs := #[.int .i64 0, .int .i64 0]) ?_ 0; exact bk_ BK318) hb); replace HB := bws_ HB hb; (try clear hb); (try clear hb2); (try clear hk); (try clear hi)) | ((with_reducible refine gate_dst (N := 25) rfl ?_); refine box_event ?hg (N := 25) ?hd (cs := #[.int .i64 0, .int .i64 0]) (t := 23) ?hr ?_; (case hd => rfl); (case hg => rfl); (case hr => first | (go_simp; done) | (go_simp; rfl)); intro gb322 hg w568 hbox hb; have BK322 := Aside0.mk hbox; have GW322 := bwg_ HB hg; have GE322 := bwg_ HB hg; replace HB := bws_ HB hb; have NB274_322 := bkl_ BK274 hg; have NB322_274 := bkr_ BK274 hg; replace BK274 := bkb_ BK274 hb; have NB275_322 := bkl_ BK275 hg; have NB322_275 := bkr_ BK275 hg; replace BK275 := bkb_ BK275 hb; have NB276_322 := bkl_ BK276 hg; have NB322_276 := bkr_ BK276 hg; replace BK276 := bkb_ BK276 hb; have NB280_322 := bkl_ BK280 hg; have NB322_280 := bkr_ BK280 hg; replace BK280 := bkb_ BK280 hb; have NB284_322 := bkl_ BK284 hg; have NB322_284 := bkr_ BK284 hg; replace BK284 := bkb_ BK284 hb; have NB318_322 := bkl_ BK318 hg; have NB322_318 := bkr_ BK318 hg; replace BK318 := bkb_ BK318 hb; clear hb hbox hg; have hnb569 := NB322_274.out; have hnc569 := NB274_322.out; have hnb570 := NB322_275.out; have hnc570 := NB275_322.out; have hnb571 := NB322_276.out; have hnc571 := NB276_322.out; have hnb572 := NB322_280.out; have hnc572 := NB280_322.out; have hnb573 := NB322_284.out; have hnc573 := NB284_322.out; have hnb574 := NB322_318.out; have hnc574 := NB318_322.out; obtain ⟨hcz575_0, hcz575_1, hfz575_0, hfz575_1⟩ := bc2_ BK322; obtain ⟨hcz576_0, hcz576_1, hfz576_0, hfz576_1⟩ := bc2_ BK318))
              go_ret
              exact ⟨by first | rfl | (simp [*] <;> rfl), bw_ HB⟩
            · rw [if_neg c544] at H
              have c544b0 : (t317 == t321) = false := beq_eq_false_iff_ne.mpr c544
              have c544b1 : (t317 != t321) = true := bne_iff_ne.mpr c544
              obtain rfl := Option.some.inj H
              have hnb577 := NB280_274.out
              have hnc577 := NB274_280.out
              have hnb578 := NB280_275.out
              have hnc578 := NB275_280.out
              have hnb579 := NB280_276.out
              have hnc579 := NB276_280.out
              have hnb580 := NB280_284.out
              have hnc580 := NB284_280.out
              obtain ⟨hcz581_0, hcz581_1, hfz581_0, hfz581_1⟩ := bc2_ BK280
              have hnb582 := NB276_274.out
              have hnc582 := NB274_276.out
              have hnb583 := NB276_275.out
              have hnc583 := NB275_276.out
              have hnb584 := NB276_284.out
              have hnc584 := NB284_276.out
              obtain ⟨hcz585_0, hcz585_1, hfz585_0, hfz585_1⟩ := bc2_ BK276
              go_wp2_with (first | ((with_reducible refine gate_callee (f := 19) rfl ?_); refine gla_ (some 129) Try.func19 #[.agg #[.int .i64 t309, .int .i64 t310], .agg #[.int .i64 a2_0, .int .i64 a2_1]] ?_; (with_reducible refine (num_Mul.calls kj520 t309 t310 a2_0 a2_1 t315 t316 t317 _ A542.out).mono ?_); rintro e w586 ⟨rfl, hb⟩; refine ⟨_, rfl, ?_⟩; replace BK274 := bkb_ BK274 hb; replace BK275 := bkb_ BK275 hb; replace BK276 := bkb_ BK276 hb; replace BK280 := bkb_ BK280 hb; replace BK284 := bkb_ BK284 hb; replace HB := bws_ HB hb; (try clear hb); (try clear hb2); (try clear hk); (try clear hi)) | ((with_reducible refine gate_dst (N := 23) rfl ?_); refine box_event ?hg (N := 23) ?hd (cs := #[.int .i64 0, .int .i64 0]) (t := 23) ?hr ?_; (case hd => rfl); (case hg => rfl); (case hr => first | (go_simp; done) | (go_simp; rfl)); intro gb318 hg w587 hbox hb; have BK318 := Aside0.mk hbox; have GW318 := bwg_ HB hg; have GE318 := bwg_ HB hg; replace HB := bws_ HB hb; have NB274_318 := bkl_ BK274 hg; have NB318_274 := bkr_ BK274 hg; replace BK274 := bkb_ BK274 hb; have NB275_318 := bkl_ BK275 hg; have NB318_275 := bkr_ BK275 hg; replace BK275 := bkb_ BK275 hb; have NB276_318 := bkl_ BK276 hg; have NB318_276 := bkr_ BK276 hg; replace BK276 := bkb_ BK276 hb; have NB280_318 := bkl_ BK280 hg; have NB318_280 := bkr_ BK280 hg; replace BK280 := bkb_ BK280 hb; have NB284_318 := bkl_ BK284 hg; have NB318_284 := bkr_ BK284 hg; replace BK284 := bkb_ BK284 hb; clear hb hbox hg; have hnb588 := NB318_274.out; have hnc588 := NB274_318.out; have hnb589 := NB318_275.out; have hnc589 := NB275_318.out; have hnb590 := NB318_276.out; have hnc590 := NB276_318.out; have hnb591 := NB318_280.out; have hnc591 := NB280_318.out; have hnb592 := NB318_284.out; have hnc592 := NB284_318.out; obtain ⟨hcz593_0, hcz593_1, hfz593_0, hfz593_1⟩ := bc2_ BK318; have hnb594 := NB274_275.out; have hnc594 := NB275_274.out; have hnb595 := NB274_284.out; have hnc595 := NB284_274.out; obtain ⟨hcz596_0, hcz596_1, hfz596_0, hfz596_1⟩ := bc2_ BK274; have hnb597 := NB284_275.out; have hnc597 := NB275_284.out; obtain ⟨hcz598_0, hcz598_1, hfz598_0, hfz598_1⟩ := bc2_ BK284) | ((with_reducible refine gate_callee (f := 19) rfl ?_); refine gla_ (some 135) Try.func19 #[.agg #[.int .i64 a0_0, .int .i64 a0_1], .agg #[.int .i64 t312, .int .i64 t313]] ?_; (with_reducible refine (num_Mul.calls kj520 a0_0 a0_1 t312 t313 t319 t320 t321 _ A543.out).mono ?_); rintro e w599 ⟨rfl, hb⟩; refine ⟨_, rfl, ?_⟩; replace BK274 := Aside0.mk (blk_below (g := gb274) (o := .cells #[.int .i64 a0_0, .int .i64 a0_1] 23 (0, 0)) (by refine bf_ ?_ NB274_318; refine bf_ ?_ NB274_318; exact bk_ BK274) hb); replace BK275 := Aside0.mk (blk_below (g := gb275) (o := .cells #[.int .i64 a1_0, .int .i64 a1_1] 23 (0, 0)) (by refine bf_ ?_ NB275_318; refine bf_ ?_ NB275_318; exact bk_ BK275) hb); replace BK276 := Aside0.mk (blk_below (g := gb276) (o := .cells #[.int .i64 a2_0, .int .i64 a2_1] 23 (0, 0)) (by refine bf_ ?_ NB276_318; refine bf_ ?_ NB276_318; exact bk_ BK276) hb); replace BK280 := Aside0.mk (blk_below (g := gb280) (o := .cells #[.int .i64 t309, .int .i64 t310] 23 (0, 0)) (by refine bf_ ?_ NB280_318; refine bf_ ?_ NB280_318; exact bk_ BK280) hb); replace BK284 := Aside0.mk (blk_below (g := gb284) (o := .cells #[.int .i64 t312, .int .i64 t313] 23 (0, 0)) (by refine bf_ ?_ NB284_318; refine bf_ ?_ NB284_318; exact bk_ BK284) hb); replace BK318 := Aside0.mk (blk_below (g := gb318) (o := .cells #[.int .i64 t315, .int .i64 t316] 23 (0, 0)) (by refine bp_ (cs := #[.int .i64 t315, .int .i64 0]) ?_ 1; refine bp_ (cs := #[.int .i64 0, .int .i64 0]) ?_ 0; exact bk_ BK318) hb); replace HB := bws_ HB hb; (try clear hb); (try clear hb2); (try clear hk); (try clear hi)) | ((with_reducible refine gate_dst (N := 25) rfl ?_); refine box_event ?hg (N := 25) ?hd (cs := #[.int .i64 0, .int .i64 0]) (t := 23) ?hr ?_; (case hd => rfl); (case hg => rfl); (case hr => first | (go_simp; done) | (go_simp; rfl)); intro gb322 hg w600 hbox hb; have BK322 := Aside0.mk hbox; have GW322 := bwg_ HB hg; have GE322 := bwg_ HB hg; replace HB := bws_ HB hb; have NB274_322 := bkl_ BK274 hg; have NB322_274 := bkr_ BK274 hg; replace BK274 := bkb_ BK274 hb; have NB275_322 := bkl_ BK275 hg; have NB322_275 := bkr_ BK275 hg; replace BK275 := bkb_ BK275 hb; have NB276_322 := bkl_ BK276 hg; have NB322_276 := bkr_ BK276 hg; replace BK276 := bkb_ BK276 hb; have NB280_322 := bkl_ BK280 hg; have NB322_280 := bkr_ BK280 hg; replace BK280 := bkb_ BK280 hb; have NB284_322 := bkl_ BK284 hg; have NB322_284 := bkr_ BK284 hg; replace BK284 := bkb_ BK284 hb; have NB318_322 := bkl_ BK318 hg; have NB322_318 := bkr_ BK318 hg; replace BK318 := bkb_ BK318 hb; clear hb hbox hg; have hnb601 := NB322_274.out; have hnc601 := NB274_322.out; have hnb602 := NB322_275.out; have hnc602 := NB275_322.out; have hnb603 := NB322_276.out; have hnc603 := NB276_322.out; have hnb604 := NB322_280.out; have hnc604 := NB280_322.out; have hnb605 := NB322_284.out; have hnc605 := NB284_322.out; have hnb606 := NB322_318.out; have hnc606 := NB318_322.out; obtain ⟨hcz607_0, hcz607_1, hfz607_0, hfz607_1⟩ := bc2_ BK322))
              go_ret
              exact ⟨by first | rfl | (simp [*] <;> rfl), bw_ HB⟩
end Go.Proofs.Ytakcdoahpbeckaa.H
