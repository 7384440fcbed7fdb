/- NumOrder: the printed functions it reaches, with their walks. Laid by wip/claimpack.py out of what wip/hprint.py printed. -/
import Derived.Test.YtakcdoahpbeckaaKNumOrder2
namespace Go.Proofs.Ytakcdoahpbeckaa.H
open Go.RowKit Go.Proofs.YtakcdoahpbeckaaW.PrintWords Go.Proofs.YtakcdoahpbeckaaW.PrintLast Go.Proofs.YtakcdoahpbeckaaW.PrintMore
attribute [local go_sem] max2_int min2_int max_two min_two max_three min_three max_four min_four   -- for this text's walks alone
set_option linter.unusedVariables false
set_option linter.unusedSimpArgs false

attribute [local go_sem high] eqA23
/-! ### withylaw01_summed: function 17 -/
def withylaw01_summed.f (k : Nat)  : Option (Bool) := (num_Add.f k 1 2 1 3).bind fun bt240 => ((num_Simplest.f k 1 3 1 2).bind fun bt244 => ((num_Decimal.f k (-1) 8 2).bind fun bt248 => ((num_Parse.f k (⟨#[49, 46, 50, 53]⟩ : ByteArray)).bind fun bt250 => (if bt240.2.2 = 0 then (if bt244.2.2 = 0 then (if bt248.2 = 0 then (if bt250.2.2 = 0 then (if (bt240.1 == 5 && (bt240.2.1 == 6)) = true then (if (bt244.1 == 2 && (bt244.2.1 == 5)) = true then (if bt248.1.toList = ([45, 48, 46, 49, 50] : List UInt8) then (some (bt250.1 == 5 && (bt250.2.1 == 4))) else (some false)) else (some false)) else (some false)) else (some false)) else (some false)) else (some false)) else (some false)))))
theorem withylaw01_summed.mono : ∀ k, LeO (withylaw01_summed.f k ) (withylaw01_summed.f (k + 1) ) := by
  intro  k
  unfold withylaw01_summed.f
  repeat' first
      | (with_reducible exact num_Add.mono _ _ _ _ _)
      | (with_reducible exact num_Decimal.mono _ _ _ _)
      | (with_reducible exact num_Parse.mono _ _)
      | (with_reducible exact num_Simplest.mono _ _ _ _ _)
      | (with_reducible exact LeO.refl _)
      | (with_reducible exact LeO.none _)
      | (with_reducible refine LeO.ite ?_ ?_)
      | (with_reducible refine LeO.bind ?_ (fun _ => ?_))
      | (with_reducible refine LeO.exc (fun _ => ?_) (fun _ => ?_))
      | exact num_Add.mono _ _ _ _ _
      | exact num_Decimal.mono _ _ _ _
      | exact num_Parse.mono _ _
      | exact num_Simplest.mono _ _ _ _ _
      | exact LeO.none _
      | refine LeO.ite ?_ ?_
      | refine LeO.bind ?_ (fun _ => ?_)
set_option maxHeartbeats 8000000 in
set_option maxRecDepth 100000 in
theorem withylaw01_summed.calls (k : Nat)  (r : Bool) (w : World) (h : withylaw01_summed.f k  = some r) :
    Calls Try.prog 17 #[] w fun e w' => e = .returned (.bool r) ∧ Below w.heap.size w w' := by
  have hu23 := Try.underlying23
  have HB := Aside0.mk (Below.refl w.heap.size w)
  have H : ((num_Add.f k 1 2 1 3).bind fun bt240 => ((num_Simplest.f k 1 3 1 2).bind fun bt244 => ((num_Decimal.f k (-1) 8 2).bind fun bt248 => ((num_Parse.f k (⟨#[49, 46, 50, 53]⟩ : ByteArray)).bind fun bt250 => (if bt240.2.2 = 0 then (if bt244.2.2 = 0 then (if bt248.2 = 0 then (if bt250.2.2 = 0 then (if (bt240.1 == 5 && (bt240.2.1 == 6)) = true then (if (bt244.1 == 2 && (bt244.2.1 == 5)) = true then (if bt248.1.toList = ([45, 48, 46, 49, 50] : List UInt8) then (some (bt250.1 == 5 && (bt250.2.1 == 4))) else (some false)) else (some false)) else (some false)) else (some false)) else (some false)) else (some false)) else (some false)))))) = some r := h
  clear h
  replace H := Option.bind_eq_some_iff.mp H
  obtain ⟨⟨t240, t241, t242⟩, A10, H⟩ := H
  replace H : ((num_Simplest.f k 1 3 1 2).bind fun bt244 => ((num_Decimal.f k (-1) 8 2).bind fun bt248 => ((num_Parse.f k (⟨#[49, 46, 50, 53]⟩ : ByteArray)).bind fun bt250 => (if t242 = 0 then (if bt244.2.2 = 0 then (if bt248.2 = 0 then (if bt250.2.2 = 0 then (if (t240 == 5 && (t241 == 6)) = true then (if (bt244.1 == 2 && (bt244.2.1 == 5)) = true then (if bt248.1.toList = ([45, 48, 46, 49, 50] : List UInt8) then (some (bt250.1 == 5 && (bt250.2.1 == 4))) else (some false)) else (some false)) else (some false)) else (some false)) else (some false)) else (some false)) else (some false))))) = some r := H
  have A1 := Aside0.mk A10
  clear A10
  replace H := Option.bind_eq_some_iff.mp H
  obtain ⟨⟨t244, t245, t246⟩, A20, H⟩ := H
  replace H : ((num_Decimal.f k (-1) 8 2).bind fun bt248 => ((num_Parse.f k (⟨#[49, 46, 50, 53]⟩ : ByteArray)).bind fun bt250 => (if t242 = 0 then (if t246 = 0 then (if bt248.2 = 0 then (if bt250.2.2 = 0 then (if (t240 == 5 && (t241 == 6)) = true then (if (t244 == 2 && (t245 == 5)) = true then (if bt248.1.toList = ([45, 48, 46, 49, 50] : List UInt8) then (some (bt250.1 == 5 && (bt250.2.1 == 4))) else (some false)) else (some false)) else (some false)) else (some false)) else (some false)) else (some false)) else (some false)))) = some r := H
  have A2 := Aside0.mk A20
  clear A20
  replace H := Option.bind_eq_some_iff.mp H
  obtain ⟨⟨t248, t249⟩, A30, H⟩ := H
  replace H : ((num_Parse.f k (⟨#[49, 46, 50, 53]⟩ : ByteArray)).bind fun bt250 => (if t242 = 0 then (if t246 = 0 then (if t249 = 0 then (if bt250.2.2 = 0 then (if (t240 == 5 && (t241 == 6)) = true then (if (t244 == 2 && (t245 == 5)) = true then (if t248.toList = ([45, 48, 46, 49, 50] : List UInt8) then (some (bt250.1 == 5 && (bt250.2.1 == 4))) else (some false)) else (some false)) else (some false)) else (some false)) else (some false)) else (some false)) else (some false))) = some r := H
  have A3 := Aside0.mk A30
  clear A30
  replace H := Option.bind_eq_some_iff.mp H
  obtain ⟨⟨t250, t251, t252⟩, A40, H⟩ := H
  replace H : (if t242 = 0 then (if t246 = 0 then (if t249 = 0 then (if t252 = 0 then (if (t240 == 5 && (t241 == 6)) = true then (if (t244 == 2 && (t245 == 5)) = true then (if t248.toList = ([45, 48, 46, 49, 50] : List UInt8) then (some (t250 == 5 && (t251 == 4))) else (some false)) else (some false)) else (some false)) else (some false)) else (some false)) else (some false)) else (some false)) = some r := H
  have A4 := Aside0.mk A40
  clear A40
  by_cases c5 : t242 = 0
  · rw [if_pos c5] at H
    have c5b0 : (t242 == 0) = true := beq_iff_eq.mpr c5
    have c5b1 : (t242 != 0) = false := bne_eq_false_iff_eq.mpr c5
    clear c5
    by_cases c6 : t246 = 0
    · rw [if_pos c6] at H
      have c6b0 : (t246 == 0) = true := beq_iff_eq.mpr c6
      have c6b1 : (t246 != 0) = false := bne_eq_false_iff_eq.mpr c6
      clear c6
      by_cases c7 : t249 = 0
      · rw [if_pos c7] at H
        have c7b0 : (t249 == 0) = true := beq_iff_eq.mpr c7
        have c7b1 : (t249 != 0) = false := bne_eq_false_iff_eq.mpr c7
        clear c7
        by_cases c8 : t252 = 0
        · rw [if_pos c8] at H
          have c8b0 : (t252 == 0) = true := beq_iff_eq.mpr c8
          have c8b1 : (t252 != 0) = false := bne_eq_false_iff_eq.mpr c8
          clear c8
          by_cases c9 : (t240 == 5 && (t241 == 6)) = true
          · rw [if_pos c9] at H
            have c9b0 : (t240 == 5 && (t241 == 6)) = true := c9
            (try (have c9b1 : decide (t240 = 5 && (t241 == 6)) = true := by simpa using c9))
            (try (have c9b2 : (t240 == 5 && (t241 == 6)) = true := by simpa using c9))
            clear c9
            by_cases c10 : (t244 == 2 && (t245 == 5)) = true
            · rw [if_pos c10] at H
              have c10b0 : (t244 == 2 && (t245 == 5)) = true := c10
              (try (have c10b1 : decide (t244 = 2 && (t245 == 5)) = true := by simpa using c10))
              (try (have c10b2 : (t244 == 2 && (t245 == 5)) = true := by simpa using c10))
              clear c10
              by_cases c11 : t248.toList = ([45, 48, 46, 49, 50] : List UInt8)
              · rw [if_pos c11] at H
                have c11b0 : (t248.toList == ([45, 48, 46, 49, 50] : List UInt8)) = true := beq_iff_eq.mpr c11
                have c11b1 : (t248.toList != ([45, 48, 46, 49, 50] : List UInt8)) = false := bne_eq_false_iff_eq.mpr c11
                clear c11
                obtain rfl := Option.some.inj H
                go_enter Try.func17, Try.ntmps17
                go_wp2_with (first | ((with_reducible refine gate_callee (f := 18) rfl ?_); refine gla_ (some 12) Try.func18 #[.agg #[.int .i64 1, .int .i64 2], .agg #[.int .i64 1, .int .i64 3]] ?_; (with_reducible refine (num_Add.calls k 1 2 1 3 t240 t241 t242 _ A1.out).mono ?_); rintro e w12 ⟨rfl, hb⟩; refine ⟨_, rfl, ?_⟩; replace HB := bws_ HB hb; (try clear hb); (try clear hb2); (try clear hk); (try clear hi)) | ((with_reducible refine gate_dst (N := 1) rfl ?_); refine box_event ?hg (N := 1) ?hd (cs := #[.int .i64 0, .int .i64 0]) (t := 23) ?hr ?_; (case hd => rfl); (case hg => rfl); (case hr => first | (go_simp; done) | (go_simp; rfl)); intro gb243 hg w13 hbox hb; have BK243 := Aside0.mk hbox; have GW243 := bwg_ HB hg; have GE243 := bwg_ HB hg; replace HB := bws_ HB hb; clear hb hbox hg; obtain ⟨hcz14_0, hcz14_1, hfz14_0, hfz14_1⟩ := bc2_ BK243) | ((with_reducible refine gate_callee (f := 25) rfl ?_); refine gla_ (some 18) Try.func25 #[.agg #[.int .i64 1, .int .i64 3], .agg #[.int .i64 1, .int .i64 2]] ?_; (with_reducible refine (num_Simplest.calls k 1 3 1 2 t244 t245 t246 _ A2.out).mono ?_); rintro e w15 ⟨rfl, hb⟩; refine ⟨_, rfl, ?_⟩; replace BK243 := Aside0.mk (blk_below (g := gb243) (o := .cells #[.int .i64 t240, .int .i64 t241] 23 (0, 0)) (by refine bp_ (cs := #[.int .i64 t240, .int .i64 0]) ?_ 1; refine bp_ (cs := #[.int .i64 0, .int .i64 0]) ?_ 0; exact bk_ BK243) hb); replace HB := bws_ HB hb; (try clear hb); (try clear hb2); (try clear hk); (try clear hi)) | ((with_reducible refine gate_dst (N := 3) rfl ?_); refine box_event ?hg (N := 3) ?hd (cs := #[.int .i64 0, .int .i64 0]) (t := 23) ?hr ?_; (case hd => rfl); (case hg => rfl); (case hr => first | (go_simp; done) | (go_simp; rfl)); intro gb247 hg w16 hbox hb; have BK247 := Aside0.mk hbox; have GW247 := bwg_ HB hg; have GE247 := bwg_ HB hg; replace HB := bws_ HB hb; have NB243_247 := bkl_ BK243 hg; have NB247_243 := bkr_ BK243 hg; replace BK243 := bkb_ BK243 hb; clear hb hbox hg; have hnb17 := NB247_243.out; have hnc17 := NB243_247.out; obtain ⟨hcz18_0, hcz18_1, hfz18_0, hfz18_1⟩ := bc2_ BK247) | ((with_reducible refine gate_callee (f := 35) rfl ?_); refine gla_ (some 23) Try.func35 #[.agg #[.int .i64 (-1), .int .i64 8], .int .i64 2] ?_; (with_reducible refine (num_Decimal.calls k (-1) 8 2 t248 t249 _ A3.out).mono ?_); rintro e w19 ⟨rfl, hb⟩; refine ⟨_, rfl, ?_⟩; replace BK243 := Aside0.mk (blk_below (g := gb243) (o := .cells #[.int .i64 t240, .int .i64 t241] 23 (0, 0)) (by refine bf_ ?_ NB243_247; refine bf_ ?_ NB243_247; exact bk_ BK243) hb); replace BK247 := Aside0.mk (blk_below (g := gb247) (o := .cells #[.int .i64 t244, .int .i64 t245] 23 (0, 0)) (by refine bp_ (cs := #[.int .i64 t244, .int .i64 0]) ?_ 1; refine bp_ (cs := #[.int .i64 0, .int .i64 0]) ?_ 0; exact bk_ BK247) hb); replace HB := bws_ HB hb; (try clear hb); (try clear hb2); (try clear hk); (try clear hi)) | ((with_reducible refine gate_callee (f := 39) rfl ?_); refine gla_ (some 27) Try.func39 #[.string (⟨#[49, 46, 50, 53]⟩ : ByteArray)] ?_; (with_reducible refine (num_Parse.calls k (⟨#[49, 46, 50, 53]⟩ : ByteArray) t250 t251 t252 _ A4.out).mono ?_); rintro e w20 ⟨rfl, hb⟩; refine ⟨_, rfl, ?_⟩; replace BK243 := bkb_ BK243 hb; replace BK247 := bkb_ BK247 hb; replace HB := bws_ HB hb; (try clear hb); (try clear hb2); (try clear hk); (try clear hi)) | ((with_reducible refine gate_dst (N := 7) rfl ?_); refine box_event ?hg (N := 7) ?hd (cs := #[.int .i64 0, .int .i64 0]) (t := 23) ?hr ?_; (case hd => rfl); (case hg => rfl); (case hr => first | (go_simp; done) | (go_simp; rfl)); intro gb253 hg w21 hbox hb; have BK253 := Aside0.mk hbox; have GW253 := bwg_ HB hg; have GE253 := bwg_ HB hg; replace HB := bws_ HB hb; have NB243_253 := bkl_ BK243 hg; have NB253_243 := bkr_ BK243 hg; replace BK243 := bkb_ BK243 hb; have NB247_253 := bkl_ BK247 hg; have NB253_247 := bkr_ BK247 hg; replace BK247 := bkb_ BK247 hb; clear hb hbox hg; have hnb22 := NB253_243.out; have hnc22 := NB243_253.out; have hnb23 := NB253_247.out; have hnc23 := NB247_253.out; obtain ⟨hcz24_0, hcz24_1, hfz24_0, hfz24_1⟩ := bc2_ BK253; obtain ⟨hcz25_0, hcz25_1, hfz25_0, hfz25_1⟩ := bc2_ BK243; obtain ⟨hcz26_0, hcz26_1, hfz26_0, hfz26_1⟩ := bc2_ BK247))
                go_ret
                exact ⟨by first | rfl | (simp [*] <;> rfl), bw_ HB⟩
              · rw [if_neg c11] at H
                have c11b0 : (t248.toList == ([45, 48, 46, 49, 50] : List UInt8)) = false := beq_eq_false_iff_ne.mpr c11
                have c11b1 : (t248.toList != ([45, 48, 46, 49, 50] : List UInt8)) = true := bne_iff_ne.mpr c11
                obtain rfl := Option.some.inj H
                go_enter Try.func17, Try.ntmps17
                go_wp2_with (first | ((with_reducible refine gate_callee (f := 18) rfl ?_); refine gla_ (some 12) Try.func18 #[.agg #[.int .i64 1, .int .i64 2], .agg #[.int .i64 1, .int .i64 3]] ?_; (with_reducible refine (num_Add.calls k 1 2 1 3 t240 t241 t242 _ A1.out).mono ?_); rintro e w27 ⟨rfl, hb⟩; refine ⟨_, rfl, ?_⟩; replace HB := bws_ HB hb; (try clear hb); (try clear hb2); (try clear hk); (try clear hi)) | ((with_reducible refine gate_dst (N := 1) rfl ?_); refine box_event ?hg (N := 1) ?hd (cs := #[.int .i64 0, .int .i64 0]) (t := 23) ?hr ?_; (case hd => rfl); (case hg => rfl); (case hr => first | (go_simp; done) | (go_simp; rfl)); intro gb243 hg w28 hbox hb; have BK243 := Aside0.mk hbox; have GW243 := bwg_ HB hg; have GE243 := bwg_ HB hg; replace HB := bws_ HB hb; clear hb hbox hg; obtain ⟨hcz29_0, hcz29_1, hfz29_0, hfz29_1⟩ := bc2_ BK243) | ((with_reducible refine gate_callee (f := 25) rfl ?_); refine gla_ (some 18) Try.func25 #[.agg #[.int .i64 1, .int .i64 3], .agg #[.int .i64 1, .int .i64 2]] ?_; (with_reducible refine (num_Simplest.calls k 1 3 1 2 t244 t245 t246 _ A2.out).mono ?_); rintro e w30 ⟨rfl, hb⟩; refine ⟨_, rfl, ?_⟩; replace BK243 := Aside0.mk (blk_below (g := gb243) (o := .cells #[.int .i64 t240, .int .i64 t241] 23 (0, 0)) (by refine bp_ (cs := #[.int .i64 t240, .int .i64 0]) ?_ 1; refine bp_ (cs := #[.int .i64 0, .int .i64 0]) ?_ 0; exact bk_ BK243) hb); replace HB := bws_ HB hb; (try clear hb); (try clear hb2); (try clear hk); (try clear hi)) | ((with_reducible refine gate_dst (N := 3) rfl ?_); refine box_event ?hg (N := 3) ?hd (cs := #[.int .i64 0, .int .i64 0]) (t := 23) ?hr ?_; (case hd => rfl); (case hg => rfl); (case hr => first | (go_simp; done) | (go_simp; rfl)); intro gb247 hg w31 hbox hb; have BK247 := Aside0.mk hbox; have GW247 := bwg_ HB hg; have GE247 := bwg_ HB hg; replace HB := bws_ HB hb; have NB243_247 := bkl_ BK243 hg; have NB247_243 := bkr_ BK243 hg; replace BK243 := bkb_ BK243 hb; clear hb hbox hg; have hnb32 := NB247_243.out; have hnc32 := NB243_247.out; obtain ⟨hcz33_0, hcz33_1, hfz33_0, hfz33_1⟩ := bc2_ BK247) | ((with_reducible refine gate_callee (f := 35) rfl ?_); refine gla_ (some 23) Try.func35 #[.agg #[.int .i64 (-1), .int .i64 8], .int .i64 2] ?_; (with_reducible refine (num_Decimal.calls k (-1) 8 2 t248 t249 _ A3.out).mono ?_); rintro e w34 ⟨rfl, hb⟩; refine ⟨_, rfl, ?_⟩; replace BK243 := Aside0.mk (blk_below (g := gb243) (o := .cells #[.int .i64 t240, .int .i64 t241] 23 (0, 0)) (by refine bf_ ?_ NB243_247; refine bf_ ?_ NB243_247; exact bk_ BK243) hb); replace BK247 := Aside0.mk (blk_below (g := gb247) (o := .cells #[.int .i64 t244, .int .i64 t245] 23 (0, 0)) (by refine bp_ (cs := #[.int .i64 t244, .int .i64 0]) ?_ 1; refine bp_ (cs := #[.int .i64 0, .int .i64 0]) ?_ 0; exact bk_ BK247) hb); replace HB := bws_ HB hb; (try clear hb); (try clear hb2); (try clear hk); (try clear hi)) | ((with_reducible refine gate_callee (f := 39) rfl ?_); refine gla_ (some 27) Try.func39 #[.string (⟨#[49, 46, 50, 53]⟩ : ByteArray)] ?_; (with_reducible refine (num_Parse.calls k (⟨#[49, 46, 50, 53]⟩ : ByteArray) t250 t251 t252 _ A4.out).mono ?_); rintro e w35 ⟨rfl, hb⟩; refine ⟨_, rfl, ?_⟩; replace BK243 := bkb_ BK243 hb; replace BK247 := bkb_ BK247 hb; replace HB := bws_ HB hb; (try clear hb); (try clear hb2); (try clear hk); (try clear hi)) | ((with_reducible refine gate_dst (N := 7) rfl ?_); refine box_event ?hg (N := 7) ?hd (cs := #[.int .i64 0, .int .i64 0]) (t := 23) ?hr ?_; (case hd => rfl); (case hg => rfl); (case hr => first | (go_simp; done) | (go_simp; rfl)); intro gb253 hg w36 hbox hb; have BK253 := Aside0.mk hbox; have GW253 := bwg_ HB hg; have GE253 := bwg_ HB hg; replace HB := bws_ HB hb; have NB243_253 := bkl_ BK243 hg; have NB253_243 := bkr_ BK243 hg; replace BK243 := bkb_ BK243 hb; have NB247_253 := bkl_ BK247 hg; have NB253_247 := bkr_ BK247 hg; replace BK247 := bkb_ BK247 hb; clear hb hbox hg; have hnb37 := NB253_243.out; have hnc37 := NB243_253.out; have hnb38 := NB253_247.out; have hnc38 := NB247_253.out; obtain ⟨hcz39_0, hcz39_1, hfz39_0, hfz39_1⟩ := bc2_ BK253; obtain ⟨hcz40_0, hcz40_1, hfz40_0, hfz40_1⟩ := bc2_ BK243; obtain ⟨hcz41_0, hcz41_1, hfz41_0, hfz41_1⟩ := bc2_ BK247))
                go_ret
                exact ⟨by first | rfl | (simp [*] <;> rfl), bw_ HB⟩
            · rw [if_neg c10] at H
              have c10b0 : (t244 == 2 && (t245 == 5)) = false := by simpa using c10
              (try (have c10b1 : decide (t244 = 2 && (t245 == 5)) = false := by simpa using c10))
              (try (have c10b2 : (t244 == 2 && (t245 == 5)) = false := by simpa using c10))
              (try (have c10b3 : ¬ (t244 = 2 && (t245 == 5)) := by simpa using c10))
              clear c10
              obtain rfl := Option.some.inj H
              go_enter Try.func17, Try.ntmps17
              go_wp2_with (first | ((with_reducible refine gate_callee (f := 18) rfl ?_); refine gla_ (some 12) Try.func18 #[.agg #[.int .i64 1, .int .i64 2], .agg #[.int .i64 1, .int .i64 3]] ?_; (with_reducible refine (num_Add.calls k 1 2 1 3 t240 t241 t242 _ A1.out).mono ?_); rintro e w42 ⟨rfl, hb⟩; refine ⟨_, rfl, ?_⟩; replace HB := bws_ HB hb; (try clear hb); (try clear hb2); (try clear hk); (try clear hi)) | ((with_reducible refine gate_dst (N := 1) rfl ?_); refine box_event ?hg (N := 1) ?hd (cs := #[.int .i64 0, .int .i64 0]) (t := 23) ?hr ?_; (case hd => rfl); (case hg => rfl); (case hr => first | (go_simp; done) | (go_simp; rfl)); intro gb243 hg w43 hbox hb; have BK243 := Aside0.mk hbox; have GW243 := bwg_ HB hg; have GE243 := bwg_ HB hg; replace HB := bws_ HB hb; clear hb hbox hg; obtain ⟨hcz44_0, hcz44_1, hfz44_0, hfz44_1⟩ := bc2_ BK243) | ((with_reducible refine gate_callee (f := 25) rfl ?_); refine gla_ (some 18) Try.func25 #[.agg #[.int .i64 1, .int .i64 3], .agg #[.int .i64 1, .int .i64 2]] ?_; (with_reducible refine (num_Simplest.calls k 1 3 1 2 t244 t245 t246 _ A2.out).mono ?_); rintro e w45 ⟨rfl, hb⟩; refine ⟨_, rfl, ?_⟩; replace BK243 := Aside0.mk (blk_below (g := gb243) (o := .cells #[.int .i64 t240, .int .i64 t241] 23 (0, 0)) (by refine bp_ (cs := #[.int .i64 t240, .int .i64 0]) ?_ 1; refine bp_ (cs := #[.int .i64 0, .int .i64 0]) ?_ 0; exact bk_ BK243) hb); replace HB := bws_ HB hb; (try clear hb); (try clear hb2); (try clear hk); (try clear hi)) | ((with_reducible refine gate_dst (N := 3) rfl ?_); refine box_event ?hg (N := 3) ?hd (cs := #[.int .i64 0, .int .i64 0]) (t := 23) ?hr ?_; (case hd => rfl); (case hg => rfl); (case hr => first | (go_simp; done) | (go_simp; rfl)); intro gb247 hg w46 hbox hb; have BK247 := Aside0.mk hbox; have GW247 := bwg_ HB hg; have GE247 := bwg_ HB hg; replace HB := bws_ HB hb; have NB243_247 := bkl_ BK243 hg; have NB247_243 := bkr_ BK243 hg; replace BK243 := bkb_ BK243 hb; clear hb hbox hg; have hnb47 := NB247_243.out; have hnc47 := NB243_247.out; obtain ⟨hcz48_0, hcz48_1, hfz48_0, hfz48_1⟩ := bc2_ BK247) | ((with_reducible refine gate_callee (f := 35) rfl ?_); refine gla_ (some 23) Try.func35 #[.agg #[.int .i64 (-1), .int .i64 8], .int .i64 2] ?_; (with_reducible refine (num_Decimal.calls k (-1) 8 2 t248 t249 _ A3.out).mono ?_); rintro e w49 ⟨rfl, hb⟩; refine ⟨_, rfl, ?_⟩; replace BK243 := Aside0.mk (blk_below (g := gb243) (o := .cells #[.int .i64 t240, .int .i64 t241] 23 (0, 0)) (by refine bf_ ?_ NB243_247; refine bf_ ?_ NB243_247; exact bk_ BK243) hb); replace BK247 := Aside0.mk (blk_below (g := gb247) (o := .cells #[.int .i64 t244, .int .i64 t245] 23 (0, 0)) (by refine bp_ (cs := #[.int .i64 t244, .int .i64 0]) ?_ 1; refine bp_ (cs := #[.int .i64 0, .int .i64 0]) ?_ 0; exact bk_ BK247) hb); replace HB := bws_ HB hb; (try clear hb); (try clear hb2); (try clear hk); (try clear hi)) | ((with_reducible refine gate_callee (f := 39) rfl ?_); refine gla_ (some 27) Try.func39 #[.string (⟨#[49, 46, 50, 53]⟩ : ByteArray)] ?_; (with_reducible refine (num_Parse.calls k (⟨#[49, 46, 50, 53]⟩ : ByteArray) t250 t251 t252 _ A4.out).mono ?_); rintro e w50 ⟨rfl, hb⟩; refine ⟨_, rfl, ?_⟩; replace BK243 := bkb_ BK243 hb; replace BK247 := bkb_ BK247 hb; replace HB := bws_ HB hb; (try clear hb); (try clear hb2); (try clear hk); (try clear hi)) | ((with_reducible refine gate_dst (N := 7) rfl ?_); refine box_event ?hg (N := 7) ?hd (cs := #[.int .i64 0, .int .i64 0]) (t := 23) ?hr ?_; (case hd => rfl); (case hg => rfl); (case hr => first | (go_simp; done) | (go_simp; rfl)); intro gb253 hg w51 hbox hb; have BK253 := Aside0.mk hbox; have GW253 := bwg_ HB hg; have GE253 := bwg_ HB hg; replace HB := bws_ HB hb; have NB243_253 := bkl_ BK243 hg; have NB253_243 := bkr_ BK243 hg; replace BK243 := bkb_ BK243 hb; have NB247_253 := bkl_ BK247 hg; have NB253_247 := bkr_ BK247 hg; replace BK247 := bkb_ BK247 hb; clear hb hbox hg; have hnb52 := NB253_243.out; have hnc52 := NB243_253.out; have hnb53 := NB253_247.out; have hnc53 := NB247_253.out; obtain ⟨hcz54_0, hcz54_1, hfz54_0, hfz54_1⟩ := bc2_ BK253; obtain ⟨hcz55_0, hcz55_1, hfz55_0, hfz55_1⟩ := bc2_ BK243; obtain ⟨hcz56_0, hcz56_1, hfz56_0, hfz56_1⟩ := bc2_ BK247))
              go_ret
              exact ⟨by first | rfl | (simp [*] <;> rfl), bw_ HB⟩
          · rw [if_neg c9] at H
            have c9b0 : (t240 == 5 && (t241 == 6)) = false := by simpa using c9
            (try (have c9b1 : decide (t240 = 5 && (t241 == 6)) = false := by simpa using c9))
            (try (have c9b2 : (t240 == 5 && (t241 == 6)) = false := by simpa using c9))
            (try (have c9b3 : ¬ (t240 = 5 && (t241 == 6)) := by simpa using c9))
            clear c9
            obtain rfl := Option.some.inj H
            go_enter Try.func17, Try.ntmps17
            go_wp2_with (first | ((with_reducible refine gate_callee (f := 18) rfl ?_); refine gla_ (some 12) Try.func18 #[.agg #[.int .i64 1, .int .i64 2], .agg #[.int .i64 1, .int .i64 3]] ?_; (with_reducible refine (num_Add.calls k 1 2 1 3 t240 t241 t242 _ A1.out).mono ?_); rintro e w57 ⟨rfl, hb⟩; refine ⟨_, rfl, ?_⟩; replace HB := bws_ HB hb; (try clear hb); (try clear hb2); (try clear hk); (try clear hi)) | ((with_reducible refine gate_dst (N := 1) rfl ?_); refine box_event ?hg (N := 1) ?hd (cs := #[.int .i64 0, .int .i64 0]) (t := 23) ?hr ?_; (case hd => rfl); (case hg => rfl); (case hr => first | (go_simp; done) | (go_simp; rfl)); intro gb243 hg w58 hbox hb; have BK243 := Aside0.mk hbox; have GW243 := bwg_ HB hg; have GE243 := bwg_ HB hg; replace HB := bws_ HB hb; clear hb hbox hg; obtain ⟨hcz59_0, hcz59_1, hfz59_0, hfz59_1⟩ := bc2_ BK243) | ((with_reducible refine gate_callee (f := 25) rfl ?_); refine gla_ (some 18) Try.func25 #[.agg #[.int .i64 1, .int .i64 3], .agg #[.int .i64 1, .int .i64 2]] ?_; (with_reducible refine (num_Simplest.calls k 1 3 1 2 t244 t245 t246 _ A2.out).mono ?_); rintro e w60 ⟨rfl, hb⟩; refine ⟨_, rfl, ?_⟩; replace BK243 := Aside0.mk (blk_below (g := gb243) (o := .cells #[.int .i64 t240, .int .i64 t241] 23 (0, 0)) (by refine bp_ (cs := #[.int .i64 t240, .int .i64 0]) ?_ 1; refine bp_ (cs := #[.int .i64 0, .int .i64 0]) ?_ 0; exact bk_ BK243) hb); replace HB := bws_ HB hb; (try clear hb); (try clear hb2); (try clear hk); (try clear hi)) | ((with_reducible refine gate_dst (N := 3) rfl ?_); refine box_event ?hg (N := 3) ?hd (cs := #[.int .i64 0, .int .i64 0]) (t := 23) ?hr ?_; (case hd => rfl); (case hg => rfl); (case hr => first | (go_simp; done) | (go_simp; rfl)); intro gb247 hg w61 hbox hb; have BK247 := Aside0.mk hbox; have GW247 := bwg_ HB hg; have GE247 := bwg_ HB hg; replace HB := bws_ HB hb; have NB243_247 := bkl_ BK243 hg; have NB247_243 := bkr_ BK243 hg; replace BK243 := bkb_ BK243 hb; clear hb hbox hg; have hnb62 := NB247_243.out; have hnc62 := NB243_247.out; obtain ⟨hcz63_0, hcz63_1, hfz63_0, hfz63_1⟩ := bc2_ BK247) | ((with_reducible refine gate_callee (f := 35) rfl ?_); refine gla_ (some 23) Try.func35 #[.agg #[.int .i64 (-1), .int .i64 8], .int .i64 2] ?_; (with_reducible refine (num_Decimal.calls k (-1) 8 2 t248 t249 _ A3.out).mono ?_); rintro e w64 ⟨rfl, hb⟩; refine ⟨_, rfl, ?_⟩; replace BK243 := Aside0.mk (blk_below (g := gb243) (o := .cells #[.int .i64 t240, .int .i64 t241] 23 (0, 0)) (by refine bf_ ?_ NB243_247; refine bf_ ?_ NB243_247; exact bk_ BK243) hb); replace BK247 := Aside0.mk (blk_below (g := gb247) (o := .cells #[.int .i64 t244, .int .i64 t245] 23 (0, 0)) (by refine bp_ (cs := #[.int .i64 t244, .int .i64 0]) ?_ 1; refine bp_ (cs := #[.int .i64 0, .int .i64 0]) ?_ 0; exact bk_ BK247) hb); replace HB := bws_ HB hb; (try clear hb); (try clear hb2); (try clear hk); (try clear hi)) | ((with_reducible refine gate_callee (f := 39) rfl ?_); refine gla_ (some 27) Try.func39 #[.string (⟨#[49, 46, 50, 53]⟩ : ByteArray)] ?_; (with_reducible refine (num_Parse.calls k (⟨#[49, 46, 50, 53]⟩ : ByteArray) t250 t251 t252 _ A4.out).mono ?_); rintro e w65 ⟨rfl, hb⟩; refine ⟨_, rfl, ?_⟩; replace BK243 := bkb_ BK243 hb; replace BK247 := bkb_ BK247 hb; replace HB := bws_ HB hb; (try clear hb); (try clear hb2); (try clear hk); (try clear hi)) | ((with_reducible refine gate_dst (N := 7) rfl ?_); refine box_event ?hg (N := 7) ?hd (cs := #[.int .i64 0, .int .i64 0]) (t := 23) ?hr ?_; (case hd => rfl); (case hg => rfl); (case hr => first | (go_simp; done) | (go_simp; rfl)); intro gb253 hg w66 hbox hb; have BK253 := Aside0.mk hbox; have GW253 := bwg_ HB hg; have GE253 := bwg_ HB hg; replace HB := bws_ HB hb; have NB243_253 := bkl_ BK243 hg; have NB253_243 := bkr_ BK243 hg; replace BK243 := bkb_ BK243 hb; have NB247_253 := bkl_ BK247 hg; have NB253_247 := bkr_ BK247 hg; replace BK247 := bkb_ BK247 hb; clear hb hbox hg; have hnb67 := NB253_243.out; have hnc67 := NB243_253.out; have hnb68 := NB253_247.out; have hnc68 := NB247_253.out; obtain ⟨hcz69_0, hcz69_1, hfz69_0, hfz69_1⟩ := bc2_ BK253; obtain ⟨hcz70_0, hcz70_1, hfz70_0, hfz70_1⟩ := bc2_ BK243))
            go_ret
            exact ⟨by first | rfl | (simp [*] <;> rfl), bw_ HB⟩
        · rw [if_neg c8] at H
          have c8b0 : (t252 == 0) = false := beq_eq_false_iff_ne.mpr c8
          have c8b1 : (t252 != 0) = true := bne_iff_ne.mpr c8
          obtain rfl := Option.some.inj H
          go_enter Try.func17, Try.ntmps17
          go_wp2_with (first | ((with_reducible refine gate_callee (f := 18) rfl ?_); refine gla_ (some 12) Try.func18 #[.agg #[.int .i64 1, .int .i64 2], .agg #[.int .i64 1, .int .i64 3]] ?_; (with_reducible refine (num_Add.calls k 1 2 1 3 t240 t241 t242 _ A1.out).mono ?_); rintro e w71 ⟨rfl, hb⟩; refine ⟨_, rfl, ?_⟩; replace HB := bws_ HB hb; (try clear hb); (try clear hb2); (try clear hk); (try clear hi)) | ((with_reducible refine gate_dst (N := 1) rfl ?_); refine box_event ?hg (N := 1) ?hd (cs := #[.int .i64 0, .int .i64 0]) (t := 23) ?hr ?_; (case hd => rfl); (case hg => rfl); (case hr => first | (go_simp; done) | (go_simp; rfl)); intro gb243 hg w72 hbox hb; have BK243 := Aside0.mk hbox; have GW243 := bwg_ HB hg; have GE243 := bwg_ HB hg; replace HB := bws_ HB hb; clear hb hbox hg; obtain ⟨hcz73_0, hcz73_1, hfz73_0, hfz73_1⟩ := bc2_ BK243) | ((with_reducible refine gate_callee (f := 25) rfl ?_); refine gla_ (some 18) Try.func25 #[.agg #[.int .i64 1, .int .i64 3], .agg #[.int .i64 1, .int .i64 2]] ?_; (with_reducible refine (num_Simplest.calls k 1 3 1 2 t244 t245 t246 _ A2.out).mono ?_); rintro e w74 ⟨rfl, hb⟩; refine ⟨_, rfl, ?_⟩; replace BK243 := Aside0.mk (blk_below (g := gb243) (o := .cells #[.int .i64 t240, .int .i64 t241] 23 (0, 0)) (by refine bp_ (cs := #[.int .i64 t240, .int .i64 0]) ?_ 1; refine bp_ (cs := #[.int .i64 0, .int .i64 0]) ?_ 0; exact bk_ BK243) hb); replace HB := bws_ HB hb; (try clear hb); (try clear hb2); (try clear hk); (try clear hi)) | ((with_reducible refine gate_dst (N := 3) rfl ?_); refine box_event ?hg (N := 3) ?hd (cs := #[.int .i64 0, .int .i64 0]) (t := 23) ?hr ?_; (case hd => rfl); (case hg => rfl); (case hr => first | (go_simp; done) | (go_simp; rfl)); intro gb247 hg w75 hbox hb; have BK247 := Aside0.mk hbox; have GW247 := bwg_ HB hg; have GE247 := bwg_ HB hg; replace HB := bws_ HB hb; have NB243_247 := bkl_ BK243 hg; have NB247_243 := bkr_ BK243 hg; replace BK243 := bkb_ BK243 hb; clear hb hbox hg; have hnb76 := NB247_243.out; have hnc76 := NB243_247.out; obtain ⟨hcz77_0, hcz77_1, hfz77_0, hfz77_1⟩ := bc2_ BK247) | ((with_reducible refine gate_callee (f := 35) rfl ?_); refine gla_ (some 23) Try.func35 #[.agg #[.int .i64 (-1), .int .i64 8], .int .i64 2] ?_; (with_reducible refine (num_Decimal.calls k (-1) 8 2 t248 t249 _ A3.out).mono ?_); rintro e w78 ⟨rfl, hb⟩; refine ⟨_, rfl, ?_⟩; replace BK243 := Aside0.mk (blk_below (g := gb243) (o := .cells #[.int .i64 t240, .int .i64 t241] 23 (0, 0)) (by refine bf_ ?_ NB243_247; refine bf_ ?_ NB243_247; exact bk_ BK243) hb); replace BK247 := Aside0.mk (blk_below (g := gb247) (o := .cells #[.int .i64 t244, .int .i64 t245] 23 (0, 0)) (by refine bp_ (cs := #[.int .i64 t244, .int .i64 0]) ?_ 1; refine bp_ (cs := #[.int .i64 0, .int .i64 0]) ?_ 0; exact bk_ BK247) hb); replace HB := bws_ HB hb; (try clear hb); (try clear hb2); (try clear hk); (try clear hi)) | ((with_reducible refine gate_callee (f := 39) rfl ?_); refine gla_ (some 27) Try.func39 #[.string (⟨#[49, 46, 50, 53]⟩ : ByteArray)] ?_; (with_reducible refine (num_Parse.calls k (⟨#[49, 46, 50, 53]⟩ : ByteArray) t250 t251 t252 _ A4.out).mono ?_); rintro e w79 ⟨rfl, hb⟩; refine ⟨_, rfl, ?_⟩; replace BK243 := bkb_ BK243 hb; replace BK247 := bkb_ BK247 hb; replace HB := bws_ HB hb; (try clear hb); (try clear hb2); (try clear hk); (try clear hi)) | ((with_reducible refine gate_dst (N := 7) rfl ?_); refine box_event ?hg (N := 7) ?hd (cs := #[.int .i64 0, .int .i64 0]) (t := 23) ?hr ?_; (case hd => rfl); (case hg => rfl); (case hr => first | (go_simp; done) | (go_simp; rfl)); intro gb253 hg w80 hbox hb; have BK253 := Aside0.mk hbox; have GW253 := bwg_ HB hg; have GE253 := bwg_ HB hg; replace HB := bws_ HB hb; have NB243_253 := bkl_ BK243 hg; have NB253_243 := bkr_ BK243 hg; replace BK243 := bkb_ BK243 hb; have NB247_253 := bkl_ BK247 hg; have NB253_247 := bkr_ BK247 hg; replace BK247 := bkb_ BK247 hb; clear hb hbox hg; have hnb81 := NB253_243.out; have hnc81 := NB243_253.out; have hnb82 := NB253_247.out; have hnc82 := NB247_253.out; obtain ⟨hcz83_0, hcz83_1, hfz83_0, hfz83_1⟩ := bc2_ BK253))
          go_ret
          exact ⟨by first | rfl | (simp [*] <;> rfl), bw_ HB⟩
      · rw [if_neg c7] at H
        have c7b0 : (t249 == 0) = false := beq_eq_false_iff_ne.mpr c7
        have c7b1 : (t249 != 0) = true := bne_iff_ne.mpr c7
        obtain rfl := Option.some.inj H
        go_enter Try.func17, Try.ntmps17
        go_wp2_with (first | ((with_reducible refine gate_callee (f := 18) rfl ?_); refine gla_ (some 12) Try.func18 #[.agg #[.int .i64 1, .int .i64 2], .agg #[.int .i64 1, .int .i64 3]] ?_; (with_reducible refine (num_Add.calls k 1 2 1 3 t240 t241 t242 _ A1.out).mono ?_); rintro e w84 ⟨rfl, hb⟩; refine ⟨_, rfl, ?_⟩; replace HB := bws_ HB hb; (try clear hb); (try clear hb2); (try clear hk); (try clear hi)) | ((with_reducible refine gate_dst (N := 1) rfl ?_); refine box_event ?hg (N := 1) ?hd (cs := #[.int .i64 0, .int .i64 0]) (t := 23) ?hr ?_; (case hd => rfl); (case hg => rfl); (case hr => first | (go_simp; done) | (go_simp; rfl)); intro gb243 hg w85 hbox hb; have BK243 := Aside0.mk hbox; have GW243 := bwg_ HB hg; have GE243 := bwg_ HB hg; replace HB := bws_ HB hb; clear hb hbox hg; obtain ⟨hcz86_0, hcz86_1, hfz86_0, hfz86_1⟩ := bc2_ BK243) | ((with_reducible refine gate_callee (f := 25) rfl ?_); refine gla_ (some 18) Try.func25 #[.agg #[.int .i64 1, .int .i64 3], .agg #[.int .i64 1, .int .i64 2]] ?_; (with_reducible refine (num_Simplest.calls k 1 3 1 2 t244 t245 t246 _ A2.out).mono ?_); rintro e w87 ⟨rfl, hb⟩; refine ⟨_, rfl, ?_⟩; replace BK243 := Aside0.mk (blk_below (g := gb243) (o := .cells #[.int .i64 t240, .int .i64 t241] 23 (0, 0)) (by refine bp_ (cs := #[.int .i64 t240, .int .i64 0]) ?_ 1; refine bp_ (cs := #[.int .i64 0, .int .i64 0]) ?_ 0; exact bk_ BK243) hb); replace HB := bws_ HB hb; (try clear hb); (try clear hb2); (try clear hk); (try clear hi)) | ((with_reducible refine gate_dst (N := 3) rfl ?_); refine box_event ?hg (N := 3) ?hd (cs := #[.int .i64 0, .int .i64 0]) (t := 23) ?hr ?_; (case hd => rfl); (case hg => rfl); (case hr => first | (go_simp; done) | (go_simp; rfl)); intro gb247 hg w88 hbox hb; have BK247 := Aside0.mk hbox; have GW247 := bwg_ HB hg; have GE247 := bwg_ HB hg; replace HB := bws_ HB hb; have NB243_247 := bkl_ BK243 hg; have NB247_243 := bkr_ BK243 hg; replace BK243 := bkb_ BK243 hb; clear hb hbox hg; have hnb89 := NB247_243.out; have hnc89 := NB243_247.out; obtain ⟨hcz90_0, hcz90_1, hfz90_0, hfz90_1⟩ := bc2_ BK247) | ((with_reducible refine gate_callee (f := 35) rfl ?_); refine gla_ (some 23) Try.func35 #[.agg #[.int .i64 (-1), .int .i64 8], .int .i64 2] ?_; (with_reducible refine (num_Decimal.calls k (-1) 8 2 t248 t249 _ A3.out).mono ?_); rintro e w91 ⟨rfl, hb⟩; refine ⟨_, rfl, ?_⟩; replace BK243 := Aside0.mk (blk_below (g := gb243) (o := .cells #[.int .i64 t240, .int .i64 t241] 23 (0, 0)) (by refine bf_ ?_ NB243_247; refine bf_ ?_ NB243_247; exact bk_ BK243) hb); replace BK247 := Aside0.mk (blk_below (g := gb247) (o := .cells #[.int .i64 t244, .int .i64 t245] 23 (0, 0)) (by refine bp_ (cs := #[.int .i64 t244, .int .i64 0]) ?_ 1; refine bp_ (cs := #[.int .i64 0, .int .i64 0]) ?_ 0; exact bk_ BK247) hb); replace HB := bws_ HB hb; (try clear hb); (try clear hb2); (try clear hk); (try clear hi)) | ((with_reducible refine gate_callee (f := 39) rfl ?_); refine gla_ (some 27) Try.func39 #[.string (⟨#[49, 46, 50, 53]⟩ : ByteArray)] ?_; (with_reducible refine (num_Parse.calls k (⟨#[49, 46, 50, 53]⟩ : ByteArray) t250 t251 t252 _ A4.out).mono ?_); rintro e w92 ⟨rfl, hb⟩; refine ⟨_, rfl, ?_⟩; replace BK243 := bkb_ BK243 hb; replace BK247 := bkb_ BK247 hb; replace HB := bws_ HB hb; (try clear hb); (try clear hb2); (try clear hk); (try clear hi)) | ((with_reducible refine gate_dst (N := 7) rfl ?_); refine box_event ?hg (N := 7) ?hd (cs := #[.int .i64 0, .int .i64 0]) (t := 23) ?hr ?_; (case hd => rfl); (case hg => rfl); (case hr => first | (go_simp; done) | (go_simp; rfl)); intro gb253 hg w93 hbox hb; have BK253 := Aside0.mk hbox; have GW253 := bwg_ HB hg; have GE253 := bwg_ HB hg; replace HB := bws_ HB hb; have NB243_253 := bkl_ BK243 hg; have NB253_243 := bkr_ BK243 hg; replace BK243 := bkb_ BK243 hb; have NB247_253 := bkl_ BK247 hg; have NB253_247 := bkr_ BK247 hg; replace BK247 := bkb_ BK247 hb; clear hb hbox hg; have hnb94 := NB253_243.out; have hnc94 := NB243_253.out; have hnb95 := NB253_247.out; have hnc95 := NB247_253.out; obtain ⟨hcz96_0, hcz96_1, hfz96_0, hfz96_1⟩ := bc2_ BK253))
        go_ret
        exact ⟨by first | rfl | (simp [*] <;> rfl), bw_ HB⟩
    · rw [if_neg c6] at H
      have c6b0 : (t246 == 0) = false := beq_eq_false_iff_ne.mpr c6
      have c6b1 : (t246 != 0) = true := bne_iff_ne.mpr c6
      obtain rfl := Option.some.inj H
      go_enter Try.func17, Try.ntmps17
      go_wp2_with (first | ((with_reducible refine gate_callee (f := 18) rfl ?_); refine gla_ (some 12) Try.func18 #[.agg #[.int .i64 1, .int .i64 2], .agg #[.int .i64 1, .int .i64 3]] ?_; (with_reducible refine (num_Add.calls k 1 2 1 3 t240 t241 t242 _ A1.out).mono ?_); rintro e w97 ⟨rfl, hb⟩; refine ⟨_, rfl, ?_⟩; replace HB := bws_ HB hb; (try clear hb); (try clear hb2); (try clear hk); (try clear hi)) | ((with_reducible refine gate_dst (N := 1) rfl ?_); refine box_event ?hg (N := 1) ?hd (cs := #[.int .i64 0, .int .i64 0]) (t := 23) ?hr ?_; (case hd => rfl); (case hg => rfl); (case hr => first | (go_simp; done) | (go_simp; rfl)); intro gb243 hg w98 hbox hb; have BK243 := Aside0.mk hbox; have GW243 := bwg_ HB hg; have GE243 := bwg_ HB hg; replace HB := bws_ HB hb; clear hb hbox hg; obtain ⟨hcz99_0, hcz99_1, hfz99_0, hfz99_1⟩ := bc2_ BK243) | ((with_reducible refine gate_callee (f := 25) rfl ?_); refine gla_ (some 18) Try.func25 #[.agg #[.int .i64 1, .int .i64 3], .agg #[.int .i64 1, .int .i64 2]] ?_; (with_reducible refine (num_Simplest.calls k 1 3 1 2 t244 t245 t246 _ A2.out).mono ?_); rintro e w100 ⟨rfl, hb⟩; refine ⟨_, rfl, ?_⟩; replace BK243 := Aside0.mk (blk_below (g := gb243) (o := .cells #[.int .i64 t240, .int .i64 t241] 23 (0, 0)) (by refine bp_ (cs := #[.int .i64 t240, .int .i64 0]) ?_ 1; refine bp_ (cs := #[.int .i64 0, .int .i64 0]) ?_ 0; exact bk_ BK243) hb); replace HB := bws_ HB hb; (try clear hb); (try clear hb2); (try clear hk); (try clear hi)) | ((with_reducible refine gate_dst (N := 3) rfl ?_); refine box_event ?hg (N := 3) ?hd (cs := #[.int .i64 0, .int .i64 0]) (t := 23) ?hr ?_; (case hd => rfl); (case hg => rfl); (case hr => first | (go_simp; done) | (go_simp; rfl)); intro gb247 hg w101 hbox hb; have BK247 := Aside0.mk hbox; have GW247 := bwg_ HB hg; have GE247 := bwg_ HB hg; replace HB := bws_ HB hb; have NB243_247 := bkl_ BK243 hg; have NB247_243 := bkr_ BK243 hg; replace BK243 := bkb_ BK243 hb; clear hb hbox hg; have hnb102 := NB247_243.out; have hnc102 := NB243_247.out; obtain ⟨hcz103_0, hcz103_1, hfz103_0, hfz103_1⟩ := bc2_ BK247) | ((with_reducible refine gate_callee (f := 35) rfl ?_); refine gla_ (some 23) Try.func35 #[.agg #[.int .i64 (-1), .int .i64 8], .int .i64 2] ?_; (with_reducible refine (num_Decimal.calls k (-1) 8 2 t248 t249 _ A3.out).mono ?_); rintro e w104 ⟨rfl, hb⟩; refine ⟨_, rfl, ?_⟩; replace BK243 := Aside0.mk (blk_below (g := gb243) (o := .cells #[.int .i64 t240, .int .i64 t241] 23 (0, 0)) (by refine bf_ ?_ NB243_247; refine bf_ ?_ NB243_247; exact bk_ BK243) hb); replace BK247 := Aside0.mk (blk_below (g := gb247) (o := .cells #[.int .i64 t244, .int .i64 t245] 23 (0, 0)) (by refine bp_ (cs := #[.int .i64 t244, .int .i64 0]) ?_ 1; refine bp_ (cs := #[.int .i64 0, .int .i64 0]) ?_ 0; exact bk_ BK247) hb); replace HB := bws_ HB hb; (try clear hb); (try clear hb2); (try clear hk); (try clear hi)) | ((with_reducible refine gate_callee (f := 39) rfl ?_); refine gla_ (some 27) Try.func39 #[.string (⟨#[49, 46, 50, 53]⟩ : ByteArray)] ?_; (with_reducible refine (num_Parse.calls k (⟨#[49, 46, 50, 53]⟩ : ByteArray) t250 t251 t252 _ A4.out).mono ?_); rintro e w105 ⟨rfl, hb⟩; refine ⟨_, rfl, ?_⟩; replace BK243 := bkb_ BK243 hb; replace BK247 := bkb_ BK247 hb; replace HB := bws_ HB hb; (try clear hb); (try clear hb2); (try clear hk); (try clear hi)) | ((with_reducible refine gate_dst (N := 7) rfl ?_); refine box_event ?hg (N := 7) ?hd (cs := #[.int .i64 0, .int .i64 0]) (t := 23) ?hr ?_; (case hd => rfl); (case hg => rfl); (case hr => first | (go_simp; done) | (go_simp; rfl)); intro gb253 hg w106 hbox hb; have BK253 := Aside0.mk hbox; have GW253 := bwg_ HB hg; have GE253 := bwg_ HB hg; replace HB := bws_ HB hb; have NB243_253 := bkl_ BK243 hg; have NB253_243 := bkr_ BK243 hg; replace BK243 := bkb_ BK243 hb; have NB247_253 := bkl_ BK247 hg; have NB253_247 := bkr_ BK247 hg; replace BK247 := bkb_ BK247 hb; clear hb hbox hg; have hnb107 := NB253_243.out; have hnc107 := NB243_253.out; have hnb108 := NB253_247.out; have hnc108 := NB247_253.out; obtain ⟨hcz109_0, hcz109_1, hfz109_0, hfz109_1⟩ := bc2_ BK253))
      go_ret
      exact ⟨by first | rfl | (simp [*] <;> rfl), bw_ HB⟩
  · rw [if_neg c5] at H
    have c5b0 : (t242 == 0) = false := beq_eq_false_iff_ne.mpr c5
    have c5b1 : (t242 != 0) = true := bne_iff_ne.mpr c5
    obtain rfl := Option.some.inj H
    go_enter Try.func17, Try.ntmps17
    go_wp2_with (first | ((with_reducible refine gate_callee (f := 18) rfl ?_); refine gla_ (some 12) Try.func18 #[.agg #[.int .i64 1, .int .i64 2], .agg #[.int .i64 1, .int .i64 3]] ?_; (with_reducible refine (num_Add.calls k 1 2 1 3 t240 t241 t242 _ A1.out).mono ?_); rintro e w110 ⟨rfl, hb⟩; refine ⟨_, rfl, ?_⟩; replace HB := bws_ HB hb; (try clear hb); (try clear hb2); (try clear hk); (try clear hi)) | ((with_reducible refine gate_dst (N := 1) rfl ?_); refine box_event ?hg (N := 1) ?hd (cs := #[.int .i64 0, .int .i64 0]) (t := 23) ?hr ?_; (case hd => rfl); (case hg => rfl); (case hr => first | (go_simp; done) | (go_simp; rfl)); intro gb243 hg w111 hbox hb; have BK243 := Aside0.mk hbox; have GW243 := bwg_ HB hg; have GE243 := bwg_ HB hg; replace HB := bws_ HB hb; clear hb hbox hg; obtain ⟨hcz112_0, hcz112_1, hfz112_0, hfz112_1⟩ := bc2_ BK243) | ((with_reducible refine gate_callee (f := 25) rfl ?_); refine gla_ (some 18) Try.func25 #[.agg #[.int .i64 1, .int .i64 3], .agg #[.int .i64 1, .int .i64 2]] ?_; (with_reducible refine (num_Simplest.calls k 1 3 1 2 t244 t245 t246 _ A2.out).mono ?_); rintro e w113 ⟨rfl, hb⟩; refine ⟨_, rfl, ?_⟩; replace BK243 := Aside0.mk (blk_below (g := gb243) (o := .cells #[.int .i64 t240, .int .i64 t241] 23 (0, 0)) (by refine bp_ (cs := #[.int .i64 t240, .int .i64 0]) ?_ 1; refine bp_ (cs := #[.int .i64 0, .int .i64 0]) ?_ 0; exact bk_ BK243) hb); replace HB := bws_ HB hb; (try clear hb); (try clear hb2); (try clear hk); (try clear hi)) | ((with_reducible refine gate_dst (N := 3) rfl ?_); refine box_event ?hg (N := 3) ?hd (cs := #[.int .i64 0, .int .i64 0]) (t := 23) ?hr ?_; (case hd => rfl); (case hg => rfl); (case hr => first | (go_simp; done) | (go_simp; rfl)); intro gb247 hg w114 hbox hb; have BK247 := Aside0.mk hbox; have GW247 := bwg_ HB hg; have GE247 := bwg_ HB hg; replace HB := bws_ HB hb; have NB243_247 := bkl_ BK243 hg; have NB247_243 := bkr_ BK243 hg; replace BK243 := bkb_ BK243 hb; clear hb hbox hg; have hnb115 := NB247_243.out; have hnc115 := NB243_247.out; obtain ⟨hcz116_0, hcz116_1, hfz116_0, hfz116_1⟩ := bc2_ BK247) | ((with_reducible refine gate_callee (f := 35) rfl ?_); refine gla_ (some 23) Try.func35 #[.agg #[.int .i64 (-1), .int .i64 8], .int .i64 2] ?_; (with_reducible refine (num_Decimal.calls k (-1) 8 2 t248 t249 _ A3.out).mono ?_); rintro e w117 ⟨rfl, hb⟩; refine ⟨_, rfl, ?_⟩; replace BK243 := Aside0.mk (blk_below (g := gb243) (o := .cells #[.int .i64 t240, .int .i64 t241] 23 (0, 0)) (by refine bf_ ?_ NB243_247; refine bf_ ?_ NB243_247; exact bk_ BK243) hb); replace BK247 := Aside0.mk (blk_below (g := gb247) (o := .cells #[.int .i64 t244, .int .i64 t245] 23 (0, 0)) (by refine bp_ (cs := #[.int .i64 t244, .int .i64 0]) ?_ 1; refine bp_ (cs := #[.int .i64 0, .int .i64 0]) ?_ 0; exact bk_ BK247) hb); replace HB := bws_ HB hb; (try clear hb); (try clear hb2); (try clear hk); (try clear hi)) | ((with_reducible refine gate_callee (f := 39) rfl ?_); refine gla_ (some 27) Try.func39 #[.string (⟨#[49, 46, 50, 53]⟩ : ByteArray)] ?_; (with_reducible refine (num_Parse.calls k (⟨#[49, 46, 50, 53]⟩ : ByteArray) t250 t251 t252 _ A4.out).mono ?_); rintro e w118 ⟨rfl, hb⟩; refine ⟨_, rfl, ?_⟩; replace BK243 := bkb_ BK243 hb; replace BK247 := bkb_ BK247 hb; replace HB := bws_ HB hb; (try clear hb); (try clear hb2); (try clear hk); (try clear hi)) | ((with_reducible refine gate_dst (N := 7) rfl ?_); refine box_event ?hg (N := 7) ?hd (cs := #[.int .i64 0, .int .i64 0]) (t := 23) ?hr ?_; (case hd => rfl); (case hg => rfl); (case hr => first | (go_simp; done) | (go_simp; rfl)); intro gb253 hg w119 hbox hb; have BK253 := Aside0.mk hbox; have GW253 := bwg_ HB hg; have GE253 := bwg_ HB hg; replace HB := bws_ HB hb; have NB243_253 := bkl_ BK243 hg; have NB253_243 := bkr_ BK243 hg; replace BK243 := bkb_ BK243 hb; have NB247_253 := bkl_ BK247 hg; have NB253_247 := bkr_ BK247 hg; replace BK247 := bkb_ BK247 hb; clear hb hbox hg; have hnb120 := NB253_243.out; have hnc120 := NB243_253.out; have hnb121 := NB253_247.out; have hnc121 := NB247_253.out; obtain ⟨hcz122_0, hcz122_1, hfz122_0, hfz122_1⟩ := bc2_ BK253))
    go_ret
    exact ⟨by first | rfl | (simp [*] <;> rfl), bw_ HB⟩
/-! ### num_Mul: function 19 -/
def num_Mul.f (k : Nat) (a0_0 : Int) (a0_1 : Int) (a1_0 : Int) (a1_1 : Int) : Option (Int × Int × Int) := (num_reckon.f k 42 a0_0 a0_1 a1_0 a1_1).bind fun bt257 => (some (bt257.1, bt257.2.1, bt257.2.2))
theorem num_Mul.mono : ∀ a0 a1 a2 a3 k, LeO (num_Mul.f k a0 a1 a2 a3) (num_Mul.f (k + 1) a0 a1 a2 a3) := by
  intro a0 a1 a2 a3 k
  unfold num_Mul.f
  repeat' first
      | (with_reducible exact num_reckon.mono _ _ _ _ _ _)
      | (with_reducible exact LeO.refl _)
      | (with_reducible exact LeO.none _)
      | (with_reducible refine LeO.ite ?_ ?_)
      | (with_reducible refine LeO.bind ?_ (fun _ => ?_))
      | (with_reducible refine LeO.exc (fun _ => ?_) (fun _ => ?_))
      | exact num_reckon.mono _ _ _ _ _ _
      | exact LeO.none _
      | refine LeO.ite ?_ ?_
      | refine LeO.bind ?_ (fun _ => ?_)
set_option maxHeartbeats 8000000 in
set_option maxRecDepth 100000 in
theorem num_Mul.calls (k : Nat) (a0_0 : Int) (a0_1 : Int) (a1_0 : Int) (a1_1 : Int) (r1 : Int) (r2 : Int) (r3 : Int) (w : World) (h : num_Mul.f k a0_0 a0_1 a1_0 a1_1 = some (r1, r2, r3)) :
    Calls Try.prog 19 #[.agg #[.int .i64 a0_0, .int .i64 a0_1], .agg #[.int .i64 a1_0, .int .i64 a1_1]] w fun e w' => e = .returned (.tuple #[.agg #[.int .i64 r1, .int .i64 r2], .int .i64 r3]) ∧ Below w.heap.size w w' := by
  have hu23 := Try.underlying23
  have HB := Aside0.mk (Below.refl w.heap.size w)
  have H : ((num_reckon.f k 42 a0_0 a0_1 a1_0 a1_1).bind fun bt257 => (some (bt257.1, bt257.2.1, bt257.2.2))) = some (r1, r2, r3) := h
  clear h
  replace H := Option.bind_eq_some_iff.mp H
  obtain ⟨⟨t257, t258, t259⟩, A30, H⟩ := H
  replace H : (some (t257, t258, t259)) = some (r1, r2, r3) := H
  have A3 := Aside0.mk A30
  clear A30
  simp only [Option.some.injEq, Prod.mk.injEq] at H
  obtain ⟨rfl, rfl, rfl⟩ := H
  go_enter Try.func19, Try.ntmps19
  go_wp2_with (first | ((with_reducible refine gate_dst (N := 2) rfl ?_); refine box_event ?hg (N := 2) ?hd (cs := #[.int .i64 a0_0, .int .i64 a0_1]) (t := 23) ?hr ?_; (case hd => rfl); (case hg => rfl); (case hr => first | (go_simp; done) | (go_simp; rfl)); intro gb254 hg w4 hbox hb; have BK254 := Aside0.mk hbox; have GW254 := bwg_ HB hg; have GE254 := bwg_ HB hg; replace HB := bws_ HB hb; clear hb hbox hg) | ((with_reducible refine gate_dst (N := 3) rfl ?_); refine box_event ?hg (N := 3) ?hd (cs := #[.int .i64 a1_0, .int .i64 a1_1]) (t := 23) ?hr ?_; (case hd => rfl); (case hg => rfl); (case hr => first | (go_simp; done) | (go_simp; rfl)); intro gb255 hg w5 hbox hb; have BK255 := Aside0.mk hbox; have GW255 := bwg_ HB hg; have GE255 := bwg_ HB hg; replace HB := bws_ HB hb; have NB254_255 := bkl_ BK254 hg; have NB255_254 := bkr_ BK254 hg; replace BK254 := bkb_ BK254 hb; clear hb hbox hg) | ((with_reducible refine gate_dst (N := 4) rfl ?_); refine box_event ?hg (N := 4) ?hd (cs := #[.int .i64 0, .int .i64 0]) (t := 23) ?hr ?_; (case hd => rfl); (case hg => rfl); (case hr => first | (go_simp; done) | (go_simp; rfl)); intro gb256 hg w6 hbox hb; have BK256 := Aside0.mk hbox; have GW256 := bwg_ HB hg; have GE256 := bwg_ HB hg; replace HB := bws_ HB hb; have NB254_256 := bkl_ BK254 hg; have NB256_254 := bkr_ BK254 hg; replace BK254 := bkb_ BK254 hb; have NB255_256 := bkl_ BK255 hg; have NB256_255 := bkr_ BK255 hg; replace BK255 := bkb_ BK255 hb; clear hb hbox hg; have hnb7 := NB254_255.out; have hnc7 := NB255_254.out; have hnb8 := NB254_256.out; have hnc8 := NB256_254.out; obtain ⟨hcz9_0, hcz9_1, hfz9_0, hfz9_1⟩ := bc2_ BK254; have hnb10 := NB255_256.out; have hnc10 := NB256_255.out; obtain ⟨hcz11_0, hcz11_1, hfz11_0, hfz11_1⟩ := bc2_ BK255) | ((with_reducible refine gate_callee (f := 67) rfl ?_); refine gla_ (some 8) Try.func67 #[.int .u8 42, .agg #[.int .i64 a0_0, .int .i64 a0_1], .agg #[.int .i64 a1_0, .int .i64 a1_1]] ?_; (with_reducible refine (num_reckon.calls k 42 a0_0 a0_1 a1_0 a1_1 t257 t258 t259 _ A3.out).mono ?_); rintro e w12 ⟨rfl, hb⟩; refine ⟨_, rfl, ?_⟩; replace BK254 := bkb_ BK254 hb; replace BK255 := bkb_ BK255 hb; replace BK256 := bkb_ BK256 hb; replace HB := bws_ HB hb; (try clear hb); (try clear hb2); (try clear hk); (try clear hi); obtain ⟨hcz13_0, hcz13_1, hfz13_0, hfz13_1⟩ := bc2_ BK256))
  refine bodyPost_ret (results_ct rfl _ _ gb256 23 #[.int .i64 t257, .int .i64 t258] (0, 0) _ rfl (by refine bp_ (cs := #[.int .i64 t257, .int .i64 0]) ?_ 1; refine bp_ (cs := #[.int .i64 0, .int .i64 0]) ?_ 0; exact bk_ BK256) Try.underlying23 rfl (by kernel_rfl)) rfl ?_
  exact ⟨by first | rfl | (simp [*] <;> rfl), bw_ HB⟩
/-! ### withylaw01_NumOrder: function 8 -/
mutual
def withylaw01_NumOrder.j0 : Nat → Int → Int → Bool → Int → Int → Int → Int → Int → Int → Option (Bool)
  | 0, _, _, _, _, _, _, _, _, _ => none
  | k + 1, x7, x9, x97, x531000, x531001, x532000, x532001, x533000, x533001 => if x97 = true then (some false) else ((num_Add.f k x531000 x531001 x533000 x533001).bind fun bt544 => ((num_Add.f k x532000 x532001 x533000 x533001).bind fun bt548 => (if bt544.2.2 = 0 then (withylaw01_NumOrder.j1 k x7 x9 (bt548.2.2 == 0) x531000 x531001 x532000 x532001 x533000 x533001 bt544.1 bt544.2.1 bt548.1 bt548.2.1) else (withylaw01_NumOrder.j1 k x7 x9 false x531000 x531001 x532000 x532001 x533000 x533001 bt544.1 bt544.2.1 bt548.1 bt548.2.1))))
def withylaw01_NumOrder.j1 : Nat → Int → Int → Bool → Int → Int → Int → Int → Int → Int → Int → Int → Int → Int → Option (Bool)
  | 0, _, _, _, _, _, _, _, _, _, _, _, _, _ => none
  | k + 1, x7, x9, x115, x531000, x531001, x532000, x532001, x533000, x533001, x548000, x548001, x552000, x552001 => if x115 = true then ((num_Cmp.f k x548000 x548001 x552000 x552001).bind fun bt552 => (if bt552.2 = 0 then (if bt552.1 = x7 then (withylaw01_NumOrder.j2 k x7 x9 x531000 x531001 x532000 x532001 x533000 x533001) else (some false)) else (some false))) else (withylaw01_NumOrder.j2 k x7 x9 x531000 x531001 x532000 x532001 x533000 x533001)
def withylaw01_NumOrder.j2 : Nat → Int → Int → Int → Int → Int → Int → Int → Int → Option (Bool)
  | 0, _, _, _, _, _, _, _, _ => none
  | k + 1, x7, x9, x531000, x531001, x532000, x532001, x533000, x533001 => (num_Mul.f k x531000 x531001 x533000 x533001).bind fun bt554 => ((num_Mul.f k x532000 x532001 x533000 x533001).bind fun bt557 => (if bt554.2.2 = 0 then (if bt557.2.2 = 0 then (withylaw01_NumOrder.j3 k x7 x9 (decide (x533000 > 0)) x531000 x531001 x532000 x532001 bt554.1 bt554.2.1 bt557.1 bt557.2.1) else (withylaw01_NumOrder.j3 k x7 x9 false x531000 x531001 x532000 x532001 bt554.1 bt554.2.1 bt557.1 bt557.2.1)) else (withylaw01_NumOrder.j3 k x7 x9 false x531000 x531001 x532000 x532001 bt554.1 bt554.2.1 bt557.1 bt557.2.1)))
def withylaw01_NumOrder.j3 : Nat → Int → Int → Bool → Int → Int → Int → Int → Int → Int → Int → Int → Option (Bool)
  | 0, _, _, _, _, _, _, _, _, _, _, _ => none
  | k + 1, x7, x9, x151, x531000, x531001, x532000, x532001, x548000, x548001, x552000, x552001 => if x151 = true then ((num_Cmp.f k x548000 x548001 x552000 x552001).bind fun bt560 => (if bt560.2 = 0 then (if bt560.1 = x7 then (withylaw01_NumOrder.j4 k x9 x531000 x531001 x532000 x532001) else (some false)) else (some false))) else (withylaw01_NumOrder.j4 k x9 x531000 x531001 x532000 x532001)
def withylaw01_NumOrder.j4 : Nat → Int → Int → Int → Int → Int → Option (Bool)
  | 0, _, _, _, _, _ => none
  | k + 1, x9, x531000, x531001, x532000, x532001 => (num_Neg.f k x531000 x531001).bind fun bt562 => ((num_Neg.f k x532000 x532001).bind fun bt565 => ((num_Cmp.f k bt562.1 bt562.2.1 bt565.1 bt565.2.1).bind fun bt568 => (if bt562.2.2 = 0 then (if bt565.2.2 = 0 then (if bt568.2 = 0 then (if bt568.1 = x9 then ((withylaw01_summed.f k).bind fun t570 => (some t570)) else (some false)) else (some false)) else (some false)) else (some false))))
end
def withylaw01_NumOrder.f (k : Nat) (a0_0 : Int) (a0_1 : Int) (a1_0 : Int) (a1_1 : Int) (a2_0 : Int) (a2_1 : Int) : Option (Bool) := (withylaw01_fit.f k a0_0 a0_1 a1_0 a1_1 a2_0 a2_1).bind fun t533 => (if t533 = true then ((num_Cmp.f k a0_0 a0_1 a1_0 a1_1).bind fun bt535 => ((num_Cmp.f k a1_0 a1_1 a0_0 a0_1).bind fun bt537 => ((num_Cmp.f k a1_0 a1_1 a2_0 a2_1).bind fun bt539 => ((num_Cmp.f k a0_0 a0_1 a2_0 a2_1).bind fun bt541 => (if bt535.2 = 0 then (if bt537.2 = 0 then (if bt539.2 = 0 then (if bt541.2 = 0 then (if bt535.1 = (wrap64 (-bt537.1)) then ((withyref01_In.f bt535.1 (-1) 1).bind fun t543 => (if t543 = true then (if ((bt535.1 == 0) != (a0_0 == a1_0 && (a0_1 == a1_1))) = true then (withylaw01_NumOrder.j0 k bt535.1 bt537.1 true a0_0 a0_1 a1_0 a1_1 a2_0 a2_1) else (if bt535.1 = bt539.1 then (withylaw01_NumOrder.j0 k bt535.1 bt537.1 (bt541.1 != bt535.1) a0_0 a0_1 a1_0 a1_1 a2_0 a2_1) else (withylaw01_NumOrder.j0 k bt535.1 bt537.1 false a0_0 a0_1 a1_0 a1_1 a2_0 a2_1))) else (withylaw01_NumOrder.j0 k bt535.1 bt537.1 true a0_0 a0_1 a1_0 a1_1 a2_0 a2_1))) else (withylaw01_NumOrder.j0 k bt535.1 bt537.1 true a0_0 a0_1 a1_0 a1_1 a2_0 a2_1)) else (withylaw01_NumOrder.j0 k bt535.1 bt537.1 true a0_0 a0_1 a1_0 a1_1 a2_0 a2_1)) else (withylaw01_NumOrder.j0 k bt535.1 bt537.1 true a0_0 a0_1 a1_0 a1_1 a2_0 a2_1)) else (withylaw01_NumOrder.j0 k bt535.1 bt537.1 true a0_0 a0_1 a1_0 a1_1 a2_0 a2_1)) else (withylaw01_NumOrder.j0 k bt535.1 bt537.1 true a0_0 a0_1 a1_0 a1_1 a2_0 a2_1)))))) else ((withylaw01_summed.f k).bind fun t534 => (some t534)))
theorem withylaw01_NumOrder.mono_l : ∀ k, (∀ y0 y1 y2 y3 y4 y5 y6 y7 y8, LeO (withylaw01_NumOrder.j0 k y0 y1 y2 y3 y4 y5 y6 y7 y8) (withylaw01_NumOrder.j0 (k + 1) y0 y1 y2 y3 y4 y5 y6 y7 y8)) ∧ (∀ y0 y1 y2 y3 y4 y5 y6 y7 y8 y9 y10 y11 y12, LeO (withylaw01_NumOrder.j1 k y0 y1 y2 y3 y4 y5 y6 y7 y8 y9 y10 y11 y12) (withylaw01_NumOrder.j1 (k + 1) y0 y1 y2 y3 y4 y5 y6 y7 y8 y9 y10 y11 y12)) ∧ (∀ y0 y1 y2 y3 y4 y5 y6 y7, LeO (withylaw01_NumOrder.j2 k y0 y1 y2 y3 y4 y5 y6 y7) (withylaw01_NumOrder.j2 (k + 1) y0 y1 y2 y3 y4 y5 y6 y7)) ∧ (∀ y0 y1 y2 y3 y4 y5 y6 y7 y8 y9 y10, LeO (withylaw01_NumOrder.j3 k y0 y1 y2 y3 y4 y5 y6 y7 y8 y9 y10) (withylaw01_NumOrder.j3 (k + 1) y0 y1 y2 y3 y4 y5 y6 y7 y8 y9 y10)) ∧ (∀ y0 y1 y2 y3 y4, LeO (withylaw01_NumOrder.j4 k y0 y1 y2 y3 y4) (withylaw01_NumOrder.j4 (k + 1) y0 y1 y2 y3 y4))
  | 0 => ⟨fun _ _ _ _ _ _ _ _ _ r h => by simp [withylaw01_NumOrder.j0] at h, fun _ _ _ _ _ _ _ _ _ _ _ _ _ r h => by simp [withylaw01_NumOrder.j1] at h, fun _ _ _ _ _ _ _ _ r h => by simp [withylaw01_NumOrder.j2] at h, fun _ _ _ _ _ _ _ _ _ _ _ r h => by simp [withylaw01_NumOrder.j3] at h, fun _ _ _ _ _ r h => by simp [withylaw01_NumOrder.j4] at h⟩
  | k + 1 => by
    obtain ⟨ih0, ih1, ih2, ih3, ih4⟩ := withylaw01_NumOrder.mono_l k
    refine ⟨?_, ?_, ?_, ?_, ?_⟩
    · intro y0 y1 y2 y3 y4 y5 y6 y7 y8
      unfold withylaw01_NumOrder.j0
      repeat' first
      | (with_reducible exact ih0 _ _ _ _ _ _ _ _ _)
      | (with_reducible exact ih1 _ _ _ _ _ _ _ _ _ _ _ _ _)
      | (with_reducible exact ih2 _ _ _ _ _ _ _ _)
      | (with_reducible exact ih3 _ _ _ _ _ _ _ _ _ _ _)
      | (with_reducible exact ih4 _ _ _ _ _)
      | (with_reducible exact num_Add.mono _ _ _ _ _)
      | (with_reducible exact num_Cmp.mono _ _ _ _ _)
      | (with_reducible exact num_Mul.mono _ _ _ _ _)
      | (with_reducible exact num_Neg.mono _ _ _)
      | (with_reducible exact withylaw01_fit.mono _ _ _ _ _ _ _)
      | (with_reducible exact withylaw01_summed.mono _)
      | (with_reducible exact LeO.refl _)
      | (with_reducible exact LeO.none _)
      | (with_reducible refine LeO.ite ?_ ?_)
      | (with_reducible refine LeO.bind ?_ (fun _ => ?_))
      | (with_reducible refine LeO.exc (fun _ => ?_) (fun _ => ?_))
      | exact ih0 _ _ _ _ _ _ _ _ _
      | exact ih1 _ _ _ _ _ _ _ _ _ _ _ _ _
      | exact ih2 _ _ _ _ _ _ _ _
      | exact ih3 _ _ _ _ _ _ _ _ _ _ _
      | exact ih4 _ _ _ _ _
      | exact num_Add.mono _ _ _ _ _
      | exact num_Cmp.mono _ _ _ _ _
      | exact num_Mul.mono _ _ _ _ _
      | exact num_Neg.mono _ _ _
      | exact withylaw01_fit.mono _ _ _ _ _ _ _
      | exact withylaw01_summed.mono _
      | exact LeO.none _
      | refine LeO.ite ?_ ?_
      | refine LeO.bind ?_ (fun _ => ?_)
    · intro y0 y1 y2 y3 y4 y5 y6 y7 y8 y9 y10 y11 y12
      unfold withylaw01_NumOrder.j1
      repeat' first
      | (with_reducible exact ih0 _ _ _ _ _ _ _ _ _)
      | (with_reducible exact ih1 _ _ _ _ _ _ _ _ _ _ _ _ _)
      | (with_reducible exact ih2 _ _ _ _ _ _ _ _)
      | (with_reducible exact ih3 _ _ _ _ _ _ _ _ _ _ _)
      | (with_reducible exact ih4 _ _ _ _ _)
      | (with_reducible exact num_Add.mono _ _ _ _ _)
      | (with_reducible exact num_Cmp.mono _ _ _ _ _)
      | (with_reducible exact num_Mul.mono _ _ _ _ _)
      | (with_reducible exact num_Neg.mono _ _ _)
      | (with_reducible exact withylaw01_fit.mono _ _ _ _ _ _ _)
      | (with_reducible exact withylaw01_summed.mono _)
      | (with_reducible exact LeO.refl _)
      | (with_reducible exact LeO.none _)
      | (with_reducible refine LeO.ite ?_ ?_)
      | (with_reducible refine LeO.bind ?_ (fun _ => ?_))
      | (with_reducible refine LeO.exc (fun _ => ?_) (fun _ => ?_))
      | exact ih0 _ _ _ _ _ _ _ _ _
      | exact ih1 _ _ _ _ _ _ _ _ _ _ _ _ _
      | exact ih2 _ _ _ _ _ _ _ _
      | exact ih3 _ _ _ _ _ _ _ _ _ _ _
      | exact ih4 _ _ _ _ _
      | exact num_Add.mono _ _ _ _ _
      | exact num_Cmp.mono _ _ _ _ _
      | exact num_Mul.mono _ _ _ _ _
      | exact num_Neg.mono _ _ _
      | exact withylaw01_fit.mono _ _ _ _ _ _ _
      | exact withylaw01_summed.mono _
      | exact LeO.none _
      | refine LeO.ite ?_ ?_
      | refine LeO.bind ?_ (fun _ => ?_)
    · intro y0 y1 y2 y3 y4 y5 y6 y7
      unfold withylaw01_NumOrder.j2
      repeat' first
      | (with_reducible exact ih0 _ _ _ _ _ _ _ _ _)
      | (with_reducible exact ih1 _ _ _ _ _ _ _ _ _ _ _ _ _)
      | (with_reducible exact ih2 _ _ _ _ _ _ _ _)
      | (with_reducible exact ih3 _ _ _ _ _ _ _ _ _ _ _)
      | (with_reducible exact ih4 _ _ _ _ _)
      | (with_reducible exact num_Add.mono _ _ _ _ _)
      | (with_reducible exact num_Cmp.mono _ _ _ _ _)
      | (with_reducible exact num_Mul.mono _ _ _ _ _)
      | (with_reducible exact num_Neg.mono _ _ _)
      | (with_reducible exact withylaw01_fit.mono _ _ _ _ _ _ _)
      | (with_reducible exact withylaw01_summed.mono _)
      | (with_reducible exact LeO.refl _)
      | (with_reducible exact LeO.none _)
      | (with_reducible refine LeO.ite ?_ ?_)
      | (with_reducible refine LeO.bind ?_ (fun _ => ?_))
      | (with_reducible refine LeO.exc (fun _ => ?_) (fun _ => ?_))
      | exact ih0 _ _ _ _ _ _ _ _ _
      | exact ih1 _ _ _ _ _ _ _ _ _ _ _ _ _
      | exact ih2 _ _ _ _ _ _ _ _
      | exact ih3 _ _ _ _ _ _ _ _ _ _ _
      | exact ih4 _ _ _ _ _
      | exact num_Add.mono _ _ _ _ _
      | exact num_Cmp.mono _ _ _ _ _
      | exact num_Mul.mono _ _ _ _ _
      | exact num_Neg.mono _ _ _
      | exact withylaw01_fit.mono _ _ _ _ _ _ _
      | exact withylaw01_summed.mono _
      | exact LeO.none _
      | refine LeO.ite ?_ ?_
      | refine LeO.bind ?_ (fun _ => ?_)
    · intro y0 y1 y2 y3 y4 y5 y6 y7 y8 y9 y10
      unfold withylaw01_NumOrder.j3
      repeat' first
      | (with_reducible exact ih0 _ _ _ _ _ _ _ _ _)
      | (with_reducible exact ih1 _ _ _ _ _ _ _ _ _ _ _ _ _)
      | (with_reducible exact ih2 _ _ _ _ _ _ _ _)
      | (with_reducible exact ih3 _ _ _ _ _ _ _ _ _ _ _)
      | (with_reducible exact ih4 _ _ _ _ _)
      | (with_reducible exact num_Add.mono _ _ _ _ _)
      | (with_reducible exact num_Cmp.mono _ _ _ _ _)
      | (with_reducible exact num_Mul.mono _ _ _ _ _)
      | (with_reducible exact num_Neg.mono _ _ _)
      | (with_reducible exact withylaw01_fit.mono _ _ _ _ _ _ _)
      | (with_reducible exact withylaw01_summed.mono _)
      | (with_reducible exact LeO.refl _)
      | (with_reducible exact LeO.none _)
      | (with_reducible refine LeO.ite ?_ ?_)
      | (with_reducible refine LeO.bind ?_ (fun _ => ?_))
      | (with_reducible refine LeO.exc (fun _ => ?_) (fun _ => ?_))
      | exact ih0 _ _ _ _ _ _ _ _ _
      | exact ih1 _ _ _ _ _ _ _ _ _ _ _ _ _
      | exact ih2 _ _ _ _ _ _ _ _
      | exact ih3 _ _ _ _ _ _ _ _ _ _ _
      | exact ih4 _ _ _ _ _
      | exact num_Add.mono _ _ _ _ _
      | exact num_Cmp.mono _ _ _ _ _
      | exact num_Mul.mono _ _ _ _ _
      | exact num_Neg.mono _ _ _
      | exact withylaw01_fit.mono _ _ _ _ _ _ _
      | exact withylaw01_summed.mono _
      | exact LeO.none _
      | refine LeO.ite ?_ ?_
      | refine LeO.bind ?_ (fun _ => ?_)
    · intro y0 y1 y2 y3 y4
      unfold withylaw01_NumOrder.j4
      repeat' first
      | (with_reducible exact ih0 _ _ _ _ _ _ _ _ _)
      | (with_reducible exact ih1 _ _ _ _ _ _ _ _ _ _ _ _ _)
      | (with_reducible exact ih2 _ _ _ _ _ _ _ _)
      | (with_reducible exact ih3 _ _ _ _ _ _ _ _ _ _ _)
      | (with_reducible exact ih4 _ _ _ _ _)
      | (with_reducible exact num_Add.mono _ _ _ _ _)
      | (with_reducible exact num_Cmp.mono _ _ _ _ _)
      | (with_reducible exact num_Mul.mono _ _ _ _ _)
      | (with_reducible exact num_Neg.mono _ _ _)
      | (with_reducible exact withylaw01_fit.mono _ _ _ _ _ _ _)
      | (with_reducible exact withylaw01_summed.mono _)
      | (with_reducible exact LeO.refl _)
      | (with_reducible exact LeO.none _)
      | (with_reducible refine LeO.ite ?_ ?_)
      | (with_reducible refine LeO.bind ?_ (fun _ => ?_))
      | (with_reducible refine LeO.exc (fun _ => ?_) (fun _ => ?_))
      | exact ih0 _ _ _ _ _ _ _ _ _
      | exact ih1 _ _ _ _ _ _ _ _ _ _ _ _ _
      | exact ih2 _ _ _ _ _ _ _ _
      | exact ih3 _ _ _ _ _ _ _ _ _ _ _
      | exact ih4 _ _ _ _ _
      | exact num_Add.mono _ _ _ _ _
      | exact num_Cmp.mono _ _ _ _ _
      | exact num_Mul.mono _ _ _ _ _
      | exact num_Neg.mono _ _ _
      | exact withylaw01_fit.mono _ _ _ _ _ _ _
      | exact withylaw01_summed.mono _
      | exact LeO.none _
      | refine LeO.ite ?_ ?_
      | refine LeO.bind ?_ (fun _ => ?_)
theorem withylaw01_NumOrder.mono : ∀ a0 a1 a2 a3 a4 a5 k, LeO (withylaw01_NumOrder.f k a0 a1 a2 a3 a4 a5) (withylaw01_NumOrder.f (k + 1) a0 a1 a2 a3 a4 a5) := by
  intro a0 a1 a2 a3 a4 a5 k
  obtain ⟨ih0, ih1, ih2, ih3, ih4⟩ := withylaw01_NumOrder.mono_l k
  unfold withylaw01_NumOrder.f
  repeat' first
      | (with_reducible exact ih0 _ _ _ _ _ _ _ _ _)
      | (with_reducible exact ih1 _ _ _ _ _ _ _ _ _ _ _ _ _)
      | (with_reducible exact ih2 _ _ _ _ _ _ _ _)
      | (with_reducible exact ih3 _ _ _ _ _ _ _ _ _ _ _)
      | (with_reducible exact ih4 _ _ _ _ _)
      | (with_reducible exact num_Add.mono _ _ _ _ _)
      | (with_reducible exact num_Cmp.mono _ _ _ _ _)
      | (with_reducible exact num_Mul.mono _ _ _ _ _)
      | (with_reducible exact num_Neg.mono _ _ _)
      | (with_reducible exact withylaw01_fit.mono _ _ _ _ _ _ _)
      | (with_reducible exact withylaw01_summed.mono _)
      | (with_reducible exact LeO.refl _)
      | (with_reducible exact LeO.none _)
      | (with_reducible refine LeO.ite ?_ ?_)
      | (with_reducible refine LeO.bind ?_ (fun _ => ?_))
      | (with_reducible refine LeO.exc (fun _ => ?_) (fun _ => ?_))
      | exact ih0 _ _ _ _ _ _ _ _ _
      | exact ih1 _ _ _ _ _ _ _ _ _ _ _ _ _
      | exact ih2 _ _ _ _ _ _ _ _
      | exact ih3 _ _ _ _ _ _ _ _ _ _ _
      | exact ih4 _ _ _ _ _
      | exact num_Add.mono _ _ _ _ _
      | exact num_Cmp.mono _ _ _ _ _
      | exact num_Mul.mono _ _ _ _ _
      | exact num_Neg.mono _ _ _
      | exact withylaw01_fit.mono _ _ _ _ _ _ _
      | exact withylaw01_summed.mono _
      | exact LeO.none _
      | refine LeO.ite ?_ ?_
      | refine LeO.bind ?_ (fun _ => ?_)
set_option maxHeartbeats 8000000 in
set_option maxRecDepth 100000 in
theorem withylaw01_NumOrder.calls (k : Nat) (a0_0 : Int) (a0_1 : Int) (a1_0 : Int) (a1_1 : Int) (a2_0 : Int) (a2_1 : Int) (r : Bool) (w : World) (h : withylaw01_NumOrder.f k a0_0 a0_1 a1_0 a1_1 a2_0 a2_1 = some r) :
    Calls Try.prog 8 #[.agg #[.int .i64 a0_0, .int .i64 a0_1], .agg #[.int .i64 a1_0, .int .i64 a1_1], .agg #[.int .i64 a2_0, .int .i64 a2_1]] w fun e w' => e = .returned (.bool r) ∧ Below w.heap.size w w' := by
  have hu23 := Try.underlying23
  have HB := Aside0.mk (Below.refl w.heap.size w)
  have H : ((withylaw01_fit.f k a0_0 a0_1 a1_0 a1_1 a2_0 a2_1).bind fun t533 => (if t533 = true then ((num_Cmp.f k a0_0 a0_1 a1_0 a1_1).bind fun bt535 => ((num_Cmp.f k a1_0 a1_1 a0_0 a0_1).bind fun bt537 => ((num_Cmp.f k a1_0 a1_1 a2_0 a2_1).bind fun bt539 => ((num_Cmp.f k a0_0 a0_1 a2_0 a2_1).bind fun bt541 => (if bt535.2 = 0 then (if bt537.2 = 0 then (if bt539.2 = 0 then (if bt541.2 = 0 then (if bt535.1 = (wrap64 (-bt537.1)) then ((withyref01_In.f bt535.1 (-1) 1).bind fun t543 => (if t543 = true then (if ((bt535.1 == 0) != (a0_0 == a1_0 && (a0_1 == a1_1))) = true then (withylaw01_NumOrder.j0 k bt535.1 bt537.1 true a0_0 a0_1 a1_0 a1_1 a2_0 a2_1) else (if bt535.1 = bt539.1 then (withylaw01_NumOrder.j0 k bt535.1 bt537.1 (bt541.1 != bt535.1) a0_0 a0_1 a1_0 a1_1 a2_0 a2_1) else (withylaw01_NumOrder.j0 k bt535.1 bt537.1 false a0_0 a0_1 a1_0 a1_1 a2_0 a2_1))) else (withylaw01_NumOrder.j0 k bt535.1 bt537.1 true a0_0 a0_1 a1_0 a1_1 a2_0 a2_1))) else (withylaw01_NumOrder.j0 k bt535.1 bt537.1 true a0_0 a0_1 a1_0 a1_1 a2_0 a2_1)) else (withylaw01_NumOrder.j0 k bt535.1 bt537.1 true a0_0 a0_1 a1_0 a1_1 a2_0 a2_1)) else (withylaw01_NumOrder.j0 k bt535.1 bt537.1 true a0_0 a0_1 a1_0 a1_1 a2_0 a2_1)) else (withylaw01_NumOrder.j0 k bt535.1 bt537.1 true a0_0 a0_1 a1_0 a1_1 a2_0 a2_1)) else (withylaw01_NumOrder.j0 k bt535.1 bt537.1 true a0_0 a0_1 a1_0 a1_1 a2_0 a2_1)))))) else ((withylaw01_summed.f k).bind fun t534 => (some t534)))) = some r := h
  clear h
  replace H := Option.bind_eq_some_iff.mp H
  obtain ⟨t533, A40, H⟩ := H
  replace H : (if t533 = true then ((num_Cmp.f k a0_0 a0_1 a1_0 a1_1).bind fun bt535 => ((num_Cmp.f k a1_0 a1_1 a0_0 a0_1).bind fun bt537 => ((num_Cmp.f k a1_0 a1_1 a2_0 a2_1).bind fun bt539 => ((num_Cmp.f k a0_0 a0_1 a2_0 a2_1).bind fun bt541 => (if bt535.2 = 0 then (if bt537.2 = 0 then (if bt539.2 = 0 then (if bt541.2 = 0 then (if bt535.1 = (wrap64 (-bt537.1)) then ((withyref01_In.f bt535.1 (-1) 1).bind fun t543 => (if t543 = true then (if ((bt535.1 == 0) != (a0_0 == a1_0 && (a0_1 == a1_1))) = true then (withylaw01_NumOrder.j0 k bt535.1 bt537.1 true a0_0 a0_1 a1_0 a1_1 a2_0 a2_1) else (if bt535.1 = bt539.1 then (withylaw01_NumOrder.j0 k bt535.1 bt537.1 (bt541.1 != bt535.1) a0_0 a0_1 a1_0 a1_1 a2_0 a2_1) else (withylaw01_NumOrder.j0 k bt535.1 bt537.1 false a0_0 a0_1 a1_0 a1_1 a2_0 a2_1))) else (withylaw01_NumOrder.j0 k bt535.1 bt537.1 true a0_0 a0_1 a1_0 a1_1 a2_0 a2_1))) else (withylaw01_NumOrder.j0 k bt535.1 bt537.1 true a0_0 a0_1 a1_0 a1_1 a2_0 a2_1)) else (withylaw01_NumOrder.j0 k bt535.1 bt537.1 true a0_0 a0_1 a1_0 a1_1 a2_0 a2_1)) else (withylaw01_NumOrder.j0 k bt535.1 bt537.1 true a0_0 a0_1 a1_0 a1_1 a2_0 a2_1)) else (withylaw01_NumOrder.j0 k bt535.1 bt537.1 true a0_0 a0_1 a1_0 a1_1 a2_0 a2_1)) else (withylaw01_NumOrder.j0 k bt535.1 bt537.1 true a0_0 a0_1 a1_0 a1_1 a2_0 a2_1)))))) else ((withylaw01_summed.f k).bind fun t534 => (some t534))) = some r := H
  have A4 := Aside0.mk A40
  clear A40
  by_cases c5 : t533 = true
  · subst c5
    have H1 : ((num_Cmp.f k a0_0 a0_1 a1_0 a1_1).bind fun bt535 => ((num_Cmp.f k a1_0 a1_1 a0_0 a0_1).bind fun bt537 => ((num_Cmp.f k a1_0 a1_1 a2_0 a2_1).bind fun bt539 => ((num_Cmp.f k a0_0 a0_1 a2_0 a2_1).bind fun bt541 => (if bt535.2 = 0 then (if bt537.2 = 0 then (if bt539.2 = 0 then (if bt541.2 = 0 then (if bt535.1 = (wrap64 (-bt537.1)) then ((withyref01_In.f bt535.1 (-1) 1).bind fun t543 => (if t543 = true then (if ((bt535.1 == 0) != (a0_0 == a1_0 && (a0_1 == a1_1))) = true then (withylaw01_NumOrder.j0 k bt535.1 bt537.1 true a0_0 a0_1 a1_0 a1_1 a2_0 a2_1) else (if bt535.1 = bt539.1 then (withylaw01_NumOrder.j0 k bt535.1 bt537.1 (bt541.1 != bt535.1) a0_0 a0_1 a1_0 a1_1 a2_0 a2_1) else (withylaw01_NumOrder.j0 k bt535.1 bt537.1 false a0_0 a0_1 a1_0 a1_1 a2_0 a2_1))) else (withylaw01_NumOrder.j0 k bt535.1 bt537.1 true a0_0 a0_1 a1_0 a1_1 a2_0 a2_1))) else (withylaw01_NumOrder.j0 k bt535.1 bt537.1 true a0_0 a0_1 a1_0 a1_1 a2_0 a2_1)) else (withylaw01_NumOrder.j0 k bt535.1 bt537.1 true a0_0 a0_1 a1_0 a1_1 a2_0 a2_1)) else (withylaw01_NumOrder.j0 k bt535.1 bt537.1 true a0_0 a0_1 a1_0 a1_1 a2_0 a2_1)) else (withylaw01_NumOrder.j0 k bt535.1 bt537.1 true a0_0 a0_1 a1_0 a1_1 a2_0 a2_1)) else (withylaw01_NumOrder.j0 k bt535.1 bt537.1 true a0_0 a0_1 a1_0 a1_1 a2_0 a2_1)))))) = some r := by rw [if_pos rfl] at H; exact H
    clear H
    have H := H1
    clear H1
    replace H := Option.bind_eq_some_iff.mp H
    obtain ⟨⟨t535, t536⟩, A60, H⟩ := H
    replace H : ((num_Cmp.f k a1_0 a1_1 a0_0 a0_1).bind fun bt537 => ((num_Cmp.f k a1_0 a1_1 a2_0 a2_1).bind fun bt539 => ((num_Cmp.f k a0_0 a0_1 a2_0 a2_1).bind fun bt541 => (if t536 = 0 then (if bt537.2 = 0 then (if bt539.2 = 0 then (if bt541.2 = 0 then (if t535 = (wrap64 (-bt537.1)) then ((withyref01_In.f t535 (-1) 1).bind fun t543 => (if t543 = true then (if ((t535 == 0) != (a0_0 == a1_0 && (a0_1 == a1_1))) = true then (withylaw01_NumOrder.j0 k t535 bt537.1 true a0_0 a0_1 a1_0 a1_1 a2_0 a2_1) else (if t535 = bt539.1 then (withylaw01_NumOrder.j0 k t535 bt537.1 (bt541.1 != t535) a0_0 a0_1 a1_0 a1_1 a2_0 a2_1) else (withylaw01_NumOrder.j0 k t535 bt537.1 false a0_0 a0_1 a1_0 a1_1 a2_0 a2_1))) else (withylaw01_NumOrder.j0 k t535 bt537.1 true a0_0 a0_1 a1_0 a1_1 a2_0 a2_1))) else (withylaw01_NumOrder.j0 k t535 bt537.1 true a0_0 a0_1 a1_0 a1_1 a2_0 a2_1)) else (withylaw01_NumOrder.j0 k t535 bt537.1 true a0_0 a0_1 a1_0 a1_1 a2_0 a2_1)) else (withylaw01_NumOrder.j0 k t535 bt537.1 true a0_0 a0_1 a1_0 a1_1 a2_0 a2_1)) else (withylaw01_NumOrder.j0 k t535 bt537.1 true a0_0 a0_1 a1_0 a1_1 a2_0 a2_1)) else (withylaw01_NumOrder.j0 k t535 bt537.1 true a0_0 a0_1 a1_0 a1_1 a2_0 a2_1))))) = some r := H
    have A6 := Aside0.mk A60
    clear A60
    replace H := Option.bind_eq_some_iff.mp H
    obtain ⟨⟨t537, t538⟩, A70, H⟩ := H
    replace H : ((num_Cmp.f k a1_0 a1_1 a2_0 a2_1).bind fun bt539 => ((num_Cmp.f k a0_0 a0_1 a2_0 a2_1).bind fun bt541 => (if t536 = 0 then (if t538 = 0 then (if bt539.2 = 0 then (if bt541.2 = 0 then (if t535 = (wrap64 (-t537)) then ((withyref01_In.f t535 (-1) 1).bind fun t543 => (if t543 = true then (if ((t535 == 0) != (a0_0 == a1_0 && (a0_1 == a1_1))) = true then (withylaw01_NumOrder.j0 k t535 t537 true a0_0 a0_1 a1_0 a1_1 a2_0 a2_1) else (if t535 = bt539.1 then (withylaw01_NumOrder.j0 k t535 t537 (bt541.1 != t535) a0_0 a0_1 a1_0 a1_1 a2_0 a2_1) else (withylaw01_NumOrder.j0 k t535 t537 false a0_0 a0_1 a1_0 a1_1 a2_0 a2_1))) else (withylaw01_NumOrder.j0 k t535 t537 true a0_0 a0_1 a1_0 a1_1 a2_0 a2_1))) else (withylaw01_NumOrder.j0 k t535 t537 true a0_0 a0_1 a1_0 a1_1 a2_0 a2_1)) else (withylaw01_NumOrder.j0 k t535 t537 true a0_0 a0_1 a1_0 a1_1 a2_0 a2_1)) else (withylaw01_NumOrder.j0 k t535 t537 true a0_0 a0_1 a1_0 a1_1 a2_0 a2_1)) else (withylaw01_NumOrder.j0 k t535 t537 true a0_0 a0_1 a1_0 a1_1 a2_0 a2_1)) else (withylaw01_NumOrder.j0 k t535 t537 true a0_0 a0_1 a1_0 a1_1 a2_0 a2_1)))) = some r := H
    have A7 := Aside0.mk A70
    clear A70
    replace H := Option.bind_eq_some_iff.mp H
    obtain ⟨⟨t539, t540⟩, A80, H⟩ := H
    replace H : ((num_Cmp.f k a0_0 a0_1 a2_0 a2_1).bind fun bt541 => (if t536 = 0 then (if t538 = 0 then (if t540 = 0 then (if bt541.2 = 0 then (if t535 = (wrap64 (-t537)) then ((withyref01_In.f t535 (-1) 1).bind fun t543 => (if t543 = true then (if ((t535 == 0) != (a0_0 == a1_0 && (a0_1 == a1_1))) = true then (withylaw01_NumOrder.j0 k t535 t537 true a0_0 a0_1 a1_0 a1_1 a2_0 a2_1) else (if t535 = t539 then (withylaw01_NumOrder.j0 k t535 t537 (bt541.1 != t535) a0_0 a0_1 a1_0 a1_1 a2_0 a2_1) else (withylaw01_NumOrder.j0 k t535 t537 false a0_0 a0_1 a1_0 a1_1 a2_0 a2_1))) else (withylaw01_NumOrder.j0 k t535 t537 true a0_0 a0_1 a1_0 a1_1 a2_0 a2_1))) else (withylaw01_NumOrder.j0 k t535 t537 true a0_0 a0_1 a1_0 a1_1 a2_0 a2_1)) else (withylaw01_NumOrder.j0 k t535 t537 true a0_0 a0_1 a1_0 a1_1 a2_0 a2_1)) else (withylaw01_NumOrder.j0 k t535 t537 true a0_0 a0_1 a1_0 a1_1 a2_0 a2_1)) else (withylaw01_NumOrder.j0 k t535 t537 true a0_0 a0_1 a1_0 a1_1 a2_0 a2_1)) else (withylaw01_NumOrder.j0 k t535 t537 true a0_0 a0_1 a1_0 a1_1 a2_0 a2_1))) = some r := H
    have A8 := Aside0.mk A80
    clear A80
    replace H := Option.bind_eq_some_iff.mp H
    obtain ⟨⟨t541, t542⟩, A90, H⟩ := H
    replace H : (if t536 = 0 then (if t538 = 0 then (if t540 = 0 then (if t542 = 0 then (if t535 = (wrap64 (-t537)) then ((withyref01_In.f t535 (-1) 1).bind fun t543 => (if t543 = true then (if ((t535 == 0) != (a0_0 == a1_0 && (a0_1 == a1_1))) = true then (withylaw01_NumOrder.j0 k t535 t537 true a0_0 a0_1 a1_0 a1_1 a2_0 a2_1) else (if t535 = t539 then (withylaw01_NumOrder.j0 k t535 t537 (t541 != t535) a0_0 a0_1 a1_0 a1_1 a2_0 a2_1) else (withylaw01_NumOrder.j0 k t535 t537 false a0_0 a0_1 a1_0 a1_1 a2_0 a2_1))) else (withylaw01_NumOrder.j0 k t535 t537 true a0_0 a0_1 a1_0 a1_1 a2_0 a2_1))) else (withylaw01_NumOrder.j0 k t535 t537 true a0_0 a0_1 a1_0 a1_1 a2_0 a2_1)) else (withylaw01_NumOrder.j0 k t535 t537 true a0_0 a0_1 a1_0 a1_1 a2_0 a2_1)) else (withylaw01_NumOrder.j0 k t535 t537 true a0_0 a0_1 a1_0 a1_1 a2_0 a2_1)) else (withylaw01_NumOrder.j0 k t535 t537 true a0_0 a0_1 a1_0 a1_1 a2_0 a2_1)) else (withylaw01_NumOrder.j0 k t535 t537 true a0_0 a0_1 a1_0 a1_1 a2_0 a2_1)) = some r := H
    have A9 := Aside0.mk A90
    clear A90
    have HC10 := Aside0.mk H
    clear H
    as_aux_lemma =>
      go_enter Try.func8, Try.ntmps8
      go_upto_region 7 with (first | ((with_reducible refine gate_dst (N := 3) rfl ?_); refine box_event ?hg (N := 3) ?hd (cs := #[.int .i64 a0_0, .int .i64 a0_1]) (t := 23) ?hr ?_; (case hd => rfl); (case hg => rfl); (case hr => first | (go_simp; done) | (go_simp; rfl)); intro gb530 hg w11 hbox hb; have BK530 := Aside0.mk hbox; have GW530 := bwg_ HB hg; have GE530 := bwg_ HB hg; replace HB := bws_ HB hb; clear hb hbox hg) | ((with_reducible refine gate_dst (N := 4) rfl ?_); refine box_event ?hg (N := 4) ?hd (cs := #[.int .i64 a1_0, .int .i64 a1_1]) (t := 23) ?hr ?_; (case hd => rfl); (case hg => rfl); (case hr => first | (go_simp; done) | (go_simp; rfl)); intro gb531 hg w12 hbox hb; have BK531 := Aside0.mk hbox; have GW531 := bwg_ HB hg; have GE531 := bwg_ HB hg; replace HB := bws_ HB hb; have NB530_531 := bkl_ BK530 hg; have NB531_530 := bkr_ BK530 hg; replace BK530 := bkb_ BK530 hb; clear hb hbox hg) | ((with_reducible refine gate_dst (N := 5) rfl ?_); refine box_event ?hg (N := 5) ?hd (cs := #[.int .i64 a2_0, .int .i64 a2_1]) (t := 23) ?hr ?_; (case hd => rfl); (case hg => rfl); (case hr => first | (go_simp; done) | (go_simp; rfl)); intro gb532 hg w13 hbox hb; have BK532 := Aside0.mk hbox; have GW532 := bwg_ HB hg; have GE532 := bwg_ HB hg; replace HB := bws_ HB hb; have NB530_532 := bkl_ BK530 hg; have NB532_530 := bkr_ BK530 hg; replace BK530 := bkb_ BK530 hb; have NB531_532 := bkl_ BK531 hg; have NB532_531 := bkr_ BK531 hg; replace BK531 := bkb_ BK531 hb; clear hb hbox hg; have hnb14 := NB530_531.out; have hnc14 := NB531_530.out; have hnb15 := NB530_532.out; have hnc15 := NB532_530.out; obtain ⟨hcz16_0, hcz16_1, hfz16_0, hfz16_1⟩ := bc2_ BK530; have hnb17 := NB531_532.out; have hnc17 := NB532_531.out; obtain ⟨hcz18_0, hcz18_1, hfz18_0, hfz18_1⟩ := bc2_ BK531; obtain ⟨hcz19_0, hcz19_1, hfz19_0, hfz19_1⟩ := bc2_ BK532) | ((with_reducible refine gate_callee (f := 16) rfl ?_); refine gla_ (some 28) Try.func16 #[.agg #[.int .i64 a0_0, .int .i64 a0_1], .agg #[.int .i64 a1_0, .int .i64 a1_1], .agg #[.int .i64 a2_0, .int .i64 a2_1]] ?_; (with_reducible refine (withylaw01_fit.calls k a0_0 a0_1 a1_0 a1_1 a2_0 a2_1 true _ A4.out).mono ?_); rintro e w20 ⟨rfl, hb⟩; refine ⟨_, rfl, ?_⟩; replace BK530 := bkb_ BK530 hb; replace BK531 := bkb_ BK531 hb; replace BK532 := bkb_ BK532 hb; replace HB := bws_ HB hb; (try clear hb); (try clear hb2); (try clear hk); (try clear hi); obtain ⟨hcz21_0, hcz21_1, hfz21_0, hfz21_1⟩ := bc2_ BK530; obtain ⟨hcz22_0, hcz22_1, hfz22_0, hfz22_1⟩ := bc2_ BK531) | ((with_reducible refine gate_callee (f := 26) rfl ?_); refine gla_ (some 34) Try.func26 #[.agg #[.int .i64 a0_0, .int .i64 a0_1], .agg #[.int .i64 a1_0, .int .i64 a1_1]] ?_; (with_reducible refine (num_Cmp.calls k a0_0 a0_1 a1_0 a1_1 t535 t536 _ A6.out).mono ?_); rintro e w23 ⟨rfl, hb⟩; refine ⟨_, rfl, ?_⟩; replace BK530 := bkb_ BK530 hb; replace BK531 := bkb_ BK531 hb; replace BK532 := bkb_ BK532 hb; replace HB := bws_ HB hb; (try clear hb); (try clear hb2); (try clear hk); (try clear hi); obtain ⟨hcz24_0, hcz24_1, hfz24_0, hfz24_1⟩ := bc2_ BK531; obtain ⟨hcz25_0, hcz25_1, hfz25_0, hfz25_1⟩ := bc2_ BK530) | ((with_reducible refine gate_callee (f := 26) rfl ?_); refine gla_ (some 40) Try.func26 #[.agg #[.int .i64 a1_0, .int .i64 a1_1], .agg #[.int .i64 a0_0, .int .i64 a0_1]] ?_; (with_reducible refine (num_Cmp.calls k a1_0 a1_1 a0_0 a0_1 t537 t538 _ A7.out).mono ?_); rintro e w26 ⟨rfl, hb⟩; refine ⟨_, rfl, ?_⟩; replace BK530 := bkb_ BK530 hb; replace BK531 := bkb_ BK531 hb; replace BK532 := bkb_ BK532 hb; replace HB := bws_ HB hb; (try clear hb); (try clear hb2); (try clear hk); (try clear hi); obtain ⟨hcz27_0, hcz27_1, hfz27_0, hfz27_1⟩ := bc2_ BK531; obtain ⟨hcz28_0, hcz28_1, hfz28_0, hfz28_1⟩ := bc2_ BK532) | ((with_reducible refine gate_callee (f := 26) rfl ?_); refine gla_ (some 46) Try.func26 #[.agg #[.int .i64 a1_0, .int .i64 a1_1], .agg #[.int .i64 a2_0, .int .i64 a2_1]] ?_; (with_reducible refine (num_Cmp.calls k a1_0 a1_1 a2_0 a2_1 t539 t540 _ A8.out).mono ?_); rintro e w29 ⟨rfl, hb⟩; refine ⟨_, rfl, ?_⟩; replace BK530 := bkb_ BK530 hb; replace BK531 := bkb_ BK531 hb; replace BK532 := bkb_ BK532 hb; replace HB := bws_ HB hb; (try clear hb); (try clear hb2); (try clear hk); (try clear hi); obtain ⟨hcz30_0, hcz30_1, hfz30_0, hfz30_1⟩ := bc2_ BK530; obtain ⟨hcz31_0, hcz31_1, hfz31_0, hfz31_1⟩ := bc2_ BK532) | ((with_reducible refine gate_callee (f := 26) rfl ?_); refine gla_ (some 52) Try.func26 #[.agg #[.int .i64 a0_0, .int .i64 a0_1], .agg #[.int .i64 a2_0, .int .i64 a2_1]] ?_; (with_reducible refine (num_Cmp.calls k a0_0 a0_1 a2_0 a2_1 t541 t542 _ A9.out).mono ?_); rintro e w32 ⟨rfl, hb⟩; refine ⟨_, rfl, ?_⟩; replace BK530 := bkb_ BK530 hb; replace BK531 := bkb_ BK531 hb; replace BK532 := bkb_ BK532 hb; replace HB := bws_ HB hb; (try clear hb); (try clear hb2); (try clear hk); (try clear hi)))
      (try simp only [Act.put, List.setIfInBounds_toArray, List.set_cons_zero, List.set_cons_succ])
      go_cut [97] (fun v97 wc => ∃ (kq : Nat) (x97_9 : Bool), v97 = .bool x97_9 ∧ Aside0 (withylaw01_NumOrder.j0 kq t535 t537 x97_9 a0_0 a0_1 a1_0 a1_1 a2_0 a2_1 = some r) ∧ Aside0 (kq ≤ k) ∧ Aside0 (wc.heap[gb530]? = some (.cells #[.int .i64 a0_0, .int .i64 a0_1] 23 (0, 0))) ∧ Aside0 (wc.heap[gb531]? = some (.cells #[.int .i64 a1_0, .int .i64 a1_1] 23 (0, 0))) ∧ Aside0 (wc.heap[gb532]? = some (.cells #[.int .i64 a2_0, .int .i64 a2_1] 23 (0, 0))) ∧ Aside0 (Below w.heap.size w wc))
      case first =>
        as_aux_lemma =>
          have H := HC10.out
          clear HC10
          by_cases c33 : t536 = 0
          · rw [if_pos c33] at H
            have c33b0 : (t536 == 0) = true := beq_iff_eq.mpr c33
            have c33b1 : (t536 != 0) = false := bne_eq_false_iff_eq.mpr c33
            clear c33
            (first | rw [c33b0] | (simp only [i64_w, i32_w]; rw [c33b0]) | skip)
            by_cases c34 : t538 = 0
            · rw [if_pos c34] at H
              have c34b0 : (t538 == 0) = true := beq_iff_eq.mpr c34
              have c34b1 : (t538 != 0) = false := bne_eq_false_iff_eq.mpr c34
              clear c34
              by_cases c35 : t540 = 0
              · rw [if_pos c35] at H
                have c35b0 : (t540 == 0) = true := beq_iff_eq.mpr c35
                have c35b1 : (t540 != 0) = false := bne_eq_false_iff_eq.mpr c35
                clear c35
                by_cases c36 : t542 = 0
                · rw [if_pos c36] at H
                  have c36b0 : (t542 == 0) = true := beq_iff_eq.mpr c36
                  have c36b1 : (t542 != 0) = false := bne_eq_false_iff_eq.mpr c36
                  clear c36
                  by_cases c37 : t535 = (wrap64 (-t537))
                  · rw [if_pos c37] at H
                    have c37b0 : (t535 == (wrap64 (-t537))) = true := beq_iff_eq.mpr c37
                    have c37b1 : (t535 != (wrap64 (-t537))) = false := bne_eq_false_iff_eq.mpr c37
                    clear c37
                    replace H := Option.bind_eq_some_iff.mp H
                    obtain ⟨t543, A380, H⟩ := H
                    replace H : (if t543 = true then (if ((t535 == 0) != (a0_0 == a1_0 && (a0_1 == a1_1))) = true then (withylaw01_NumOrder.j0 k t535 t537 true a0_0 a0_1 a1_0 a1_1 a2_0 a2_1) else (if t535 = t539 then (withylaw01_NumOrder.j0 k t535 t537 (t541 != t535) a0_0 a0_1 a1_0 a1_1 a2_0 a2_1) else (withylaw01_NumOrder.j0 k t535 t537 false a0_0 a0_1 a1_0 a1_1 a2_0 a2_1))) else (withylaw01_NumOrder.j0 k t535 t537 true a0_0 a0_1 a1_0 a1_1 a2_0 a2_1)) = some r := H
                    have A38 := Aside0.mk A380
                    clear A380
                    by_cases c39 : t543 = true
                    · subst c39
                      have H1 : (if ((t535 == 0) != (a0_0 == a1_0 && (a0_1 == a1_1))) = true then (withylaw01_NumOrder.j0 k t535 t537 true a0_0 a0_1 a1_0 a1_1 a2_0 a2_1) else (if t535 = t539 then (withylaw01_NumOrder.j0 k t535 t537 (t541 != t535) a0_0 a0_1 a1_0 a1_1 a2_0 a2_1) else (withylaw01_NumOrder.j0 k t535 t537 false a0_0 a0_1 a1_0 a1_1 a2_0 a2_1))) = some r := by rw [if_pos rfl] at H; exact H
                      clear H
                      have H := H1
                      clear H1
                      by_cases c40 : ((t535 == 0) != (a0_0 == a1_0 && (a0_1 == a1_1))) = true
                      · rw [if_pos c40] at H
                        have c40b0 : ((t535 == 0) != (a0_0 == a1_0 && (a0_1 == a1_1))) = true := c40
                        (try (have c40b1 : decide ((t535 == 0) = (a0_0 == a1_0 && (a0_1 == a1_1))) = false := by simpa using c40))
                        (try (have c40b2 : ((t535 == 0) == (a0_0 == a1_0 && (a0_1 == a1_1))) = false := by simpa using c40))
                        (try (have c40b3 : ¬ ((t535 == 0) = (a0_0 == a1_0 && (a0_1 == a1_1))) := by simpa using c40))
                        clear c40
                        have H' := Aside0.mk H
                        clear H
                        go_wp2_with (first | (go_at_call 42; (with_reducible refine (withyref01_In.calls t535 (-1) 1 true _ A38.out).mono ?_); rintro e w' ⟨rfl, ⟨nd, rfl⟩⟩; have hnb41 := NB530_531.out; have hnc41 := NB531_530.out; have hnb42 := NB530_532.out; have hnc42 := NB532_530.out; obtain ⟨hcz43_0, hcz43_1, hfz43_0, hfz43_1⟩ := bc2_ BK530; have hnb44 := NB531_532.out; have hnc44 := NB532_531.out; obtain ⟨hcz45_0, hcz45_1, hfz45_0, hfz45_1⟩ := bc2_ BK531))
                        go_meet
                        case rel => exact ⟨_, (true), (by first | rfl | (simp; done) | (simp [*]; done)), H', ⟨by first | omega | exact Nat.le_refl _⟩, ⟨by exact bk_ BK530⟩, ⟨by exact bk_ BK531⟩, ⟨by exact bk_ BK532⟩, ⟨bw_ HB⟩⟩
                      · rw [if_neg c40] at H
                        have c40b0 : ((t535 == 0) != (a0_0 == a1_0 && (a0_1 == a1_1))) = false := by simpa using c40
                        (try (have c40b1 : decide ((t535 == 0) = (a0_0 == a1_0 && (a0_1 == a1_1))) = true := by simpa using c40))
                        (try (have c40b2 : ((t535 == 0) == (a0_0 == a1_0 && (a0_1 == a1_1))) = true := by simpa using c40))
                        clear c40
                        by_cases c46 : t535 = t539
                        · rw [if_pos c46] at H
                          have c46b0 : (t535 == t539) = true := beq_iff_eq.mpr c46
                          have c46b1 : (t535 != t539) = false := bne_eq_false_iff_eq.mpr c46
                          clear c46
                          have H' := Aside0.mk H
                          clear H
                          go_wp2_with (first | (go_at_call 42; (with_reducible refine (withyref01_In.calls t535 (-1) 1 true _ A38.out).mono ?_); rintro e w' ⟨rfl, ⟨nd, rfl⟩⟩; have hnb47 := NB530_531.out; have hnc47 := NB531_530.out; have hnb48 := NB530_532.out; have hnc48 := NB532_530.out; obtain ⟨hcz49_0, hcz49_1, hfz49_0, hfz49_1⟩ := bc2_ BK530; have hnb50 := NB531_532.out; have hnc50 := NB532_531.out; obtain ⟨hcz51_0, hcz51_1, hfz51_0, hfz51_1⟩ := bc2_ BK531))
                          go_meet
                          case rel => exact ⟨_, ((t541 != t535)), (by first | rfl | (simp; done) | (simp [*]; done)), H', ⟨by first | omega | exact Nat.le_refl _⟩, ⟨by exact bk_ BK530⟩, ⟨by exact bk_ BK531⟩, ⟨by exact bk_ BK532⟩, ⟨bw_ HB⟩⟩
                        · rw [if_neg c46] at H
                          have c46b0 : (t535 == t539) = false := beq_eq_false_iff_ne.mpr c46
                          have c46b1 : (t535 != t539) = true := bne_iff_ne.mpr c46
                          have H' := Aside0.mk H
                          clear H
                          go_wp2_with (first | (go_at_call 42; (with_reducible refine (withyref01_In.calls t535 (-1) 1 true _ A38.out).mono ?_); rintro e w' ⟨rfl, ⟨nd, rfl⟩⟩; have hnb52 := NB530_531.out; have hnc52 := NB531_530.out; have hnb53 := NB530_532.out; have hnc53 := NB532_530.out; obtain ⟨hcz54_0, hcz54_1, hfz54_0, hfz54_1⟩ := bc2_ BK530; have hnb55 := NB531_532.out; have hnc55 := NB532_531.out; obtain ⟨hcz56_0, hcz56_1, hfz56_0, hfz56_1⟩ := bc2_ BK531))
                          go_meet
                          case rel => exact ⟨_, (false), (by first | rfl | (simp; done) | (simp [*]; done)), H', ⟨by first | omega | exact Nat.le_refl _⟩, ⟨by exact bk_ BK530⟩, ⟨by exact bk_ BK531⟩, ⟨by exact bk_ BK532⟩, ⟨bw_ HB⟩⟩
                    · replace c39 := Bool.eq_false_iff.mpr c39
                      subst c39
                      have H1 : (withylaw01_NumOrder.j0 k t535 t537 true a0_0 a0_1 a1_0 a1_1 a2_0 a2_1) = some r := by rw [if_neg (show ¬ (false = true) by decide)] at H; exact H
                      clear H
                      have H := H1
                      clear H1
                      have H' := Aside0.mk H
                      clear H
                      go_wp2_with (first | (go_at_call 42; (with_reducible refine (withyref01_In.calls t535 (-1) 1 false _ A38.out).mono ?_); rintro e w' ⟨rfl, ⟨nd, rfl⟩⟩))
                      go_meet
                      case rel => exact ⟨_, (true), (by first | rfl | (simp; done) | (simp [*]; done)), H', ⟨by first | omega | exact Nat.le_refl _⟩, ⟨by exact bk_ BK530⟩, ⟨by exact bk_ BK531⟩, ⟨by exact bk_ BK532⟩, ⟨bw_ HB⟩⟩
                  · rw [if_neg c37] at H
                    have c37b0 : (t535 == (wrap64 (-t537))) = false := beq_eq_false_iff_ne.mpr c37
                    have c37b1 : (t535 != (wrap64 (-t537))) = true := bne_iff_ne.mpr c37
                    have H' := Aside0.mk H
                    clear H
                    go_wp2
                    go_meet
                    case rel => exact ⟨_, (true), (by first | rfl | (simp; done) | (simp [*]; done)), H', ⟨by first | omega | exact Nat.le_refl _⟩, ⟨by exact bk_ BK530⟩, ⟨by exact bk_ BK531⟩, ⟨by exact bk_ BK532⟩, ⟨bw_ HB⟩⟩
                · rw [if_neg c36] at H
                  have c36b0 : (t542 == 0) = false := beq_eq_false_iff_ne.mpr c36
                  have c36b1 : (t542 != 0) = true := bne_iff_ne.mpr c36
                  have H' := Aside0.mk H
                  clear H
                  go_wp2
                  go_meet
                  case rel => exact ⟨_, (true), (by first | rfl | (simp; done) | (simp [*]; done)), H', ⟨by first | omega | exact Nat.le_refl _⟩, ⟨by exact bk_ BK530⟩, ⟨by exact bk_ BK531⟩, ⟨by exact bk_ BK532⟩, ⟨bw_ HB⟩⟩
              · rw [if_neg c35] at H
                have c35b0 : (t540 == 0) = false := beq_eq_false_iff_ne.mpr c35
                have c35b1 : (t540 != 0) = true := bne_iff_ne.mpr c35
                have H' := Aside0.mk H
                clear H
                go_wp2
                go_meet
                case rel => exact ⟨_, (true), (by first | rfl | (simp; done) | (simp [*]; done)), H', ⟨by first | omega | exact Nat.le_refl _⟩, ⟨by exact bk_ BK530⟩, ⟨by exact bk_ BK531⟩, ⟨by exact bk_ BK532⟩, ⟨bw_ HB⟩⟩
            · rw [if_neg c34] at H
              have c34b0 : (t538 == 0) = false := beq_eq_false_iff_ne.mpr c34
              have c34b1 : (t538 != 0) = true := bne_iff_ne.mpr c34
              have H' := Aside0.mk H
              clear H
              go_wp2
              go_meet
              case rel => exact ⟨_, (true), (by first | rfl | (simp; done) | (simp [*]; done)), H', ⟨by first | omega | exact Nat.le_refl _⟩, ⟨by exact bk_ BK530⟩, ⟨by exact bk_ BK531⟩, ⟨by exact bk_ BK532⟩, ⟨bw_ HB⟩⟩
          · rw [if_neg c33] at H
            have c33b0 : (t536 == 0) = false := beq_eq_false_iff_ne.mpr c33
            have c33b1 : (t536 != 0) = true := bne_iff_ne.mpr c33
            (first | rw [c33b0] | (simp only [i64_w, i32_w]; rw [c33b0]) | skip)
            have H' := Aside0.mk H
            clear H
            go_wp2
            go_meet
            case rel => exact ⟨_, (true), (by first | rfl | (simp; done) | (simp [*]; done)), H', ⟨by first | omega | exact Nat.le_refl _⟩, ⟨by exact bk_ BK530⟩, ⟨by exact bk_ BK531⟩, ⟨by exact bk_ BK532⟩, ⟨bw_ HB⟩⟩
      case rest =>
        as_aux_lemma =>
          clear HC10
          try clear c1
          try clear c2
          try clear p2
          try clear c3
          try clear c4
          try clear c5
          try clear p6
          try clear c8
          try clear c14
          try clear c15
          try clear c16
          try clear c17
          try clear c26
          try clear c33
          try clear c33b0
          try clear c33b1
          try clear c34
          try clear c34b0
          try clear c34b1
          try clear c35
          try clear c35b0
          try clear c35b1
          try clear c36
          try clear c36b0
          try clear c36b1
          try clear c37
          try clear c37b0
          try clear c37b1
          try clear c39
          try clear c40
          try clear c40b0
          try clear c40b1
          try clear c40b2
          try clear c41
          try clear c42
          try clear c44
          try clear c46
          try clear c46b0
          try clear c46b1
          try clear c47
          try clear c48
          try clear c50
          try clear c52
          try clear c53
          try clear c55
          try clear hcz16_0
          try clear hcz16_1
          try clear hcz18_0
          try clear hcz18_1
          try clear hcz19_0
          try clear hcz19_1
          try clear hcz21_0
          try clear hcz21_1
          try clear hcz22_0
          try clear hcz22_1
          try clear hcz24_0
          try clear hcz24_1
          try clear hcz25_0
          try clear hcz25_1
          try clear hcz27_0
          try clear hcz27_1
          try clear hcz28_0
          try clear hcz28_1
          try clear hcz30_0
          try clear hcz30_1
          try clear hcz31_0
          try clear hcz31_1
          try clear hcz43_0
          try clear hcz43_1
          try clear hcz45_0
          try clear hcz45_1
          try clear hcz49_0
          try clear hcz49_1
          try clear hcz51_0
          try clear hcz51_1
          try clear hcz54_0
          try clear hcz54_1
          try clear hcz56_0
          try clear hcz56_1
          try clear hfz16_0
          try clear hfz16_1
          try clear hfz18_0
          try clear hfz18_1
          try clear hfz19_0
          try clear hfz19_1
          try clear hfz21_0
          try clear hfz21_1
          try clear hfz22_0
          try clear hfz22_1
          try clear hfz24_0
          try clear hfz24_1
          try clear hfz25_0
          try clear hfz25_1
          try clear hfz27_0
          try clear hfz27_1
          try clear hfz28_0
          try clear hfz28_1
          try clear hfz30_0
          try clear hfz30_1
          try clear hfz31_0
          try clear hfz31_1
          try clear hfz43_0
          try clear hfz43_1
          try clear hfz45_0
          try clear hfz45_1
          try clear hfz49_0
          try clear hfz49_1
          try clear hfz51_0
          try clear hfz51_1
          try clear hfz54_0
          try clear hfz54_1
          try clear hfz56_0
          try clear hfz56_1
          obtain ⟨kq, x97_9, rfl, HA, HJ9, BK530, BK531, BK532, HB⟩ := hcut
          cases kq with
          | zero => exact absurd HA.out (by simp [withylaw01_NumOrder.j0])
          | succ kj9 =>
            have H := HA.out
            clear HA
            simp only [withylaw01_NumOrder.j0] at H
            by_cases c57 : x97_9 = true
            · subst c57
              have H1 : (some false) = some r := by rw [if_pos rfl] at H; exact H
              clear H
              have H := H1
              clear H1
              obtain rfl := Option.some.inj H
              go_wp2
              go_ret
              exact ⟨by first | rfl | (simp [*] <;> rfl), bw_ HB⟩
            · replace c57 := Bool.eq_false_iff.mpr c57
              subst c57
              have H1 : ((num_Add.f kj9 a0_0 a0_1 a2_0 a2_1).bind fun bt544 => ((num_Add.f kj9 a1_0 a1_1 a2_0 a2_1).bind fun bt548 => (if bt544.2.2 = 0 then (withylaw01_NumOrder.j1 kj9 t535 t537 (bt548.2.2 == 0) a0_0 a0_1 a1_0 a1_1 a2_0 a2_1 bt544.1 bt544.2.1 bt548.1 bt548.2.1) else (withylaw01_NumOrder.j1 kj9 t535 t537 false a0_0 a0_1 a1_0 a1_1 a2_0 a2_1 bt544.1 bt544.2.1 bt548.1 bt548.2.1)))) = some r := by rw [if_neg (show ¬ (false = true) by decide)] at H; exact H
              clear H
              have H := H1
              clear H1
              replace H := Option.bind_eq_some_iff.mp H
              obtain ⟨⟨t544, t545, t546⟩, A580, H⟩ := H
              replace H : ((num_Add.f kj9 a1_0 a1_1 a2_0 a2_1).bind fun bt548 => (if t546 = 0 then (withylaw01_NumOrder.j1 kj9 t535 t537 (bt548.2.2 == 0) a0_0 a0_1 a1_0 a1_1 a2_0 a2_1 t544 t545 bt548.1 bt548.2.1) else (withylaw01_NumOrder.j1 kj9 t535 t537 false a0_0 a0_1 a1_0 a1_1 a2_0 a2_1 t544 t545 bt548.1 bt548.2.1))) = some r := H
              have A58 := Aside0.mk A580
              clear A580
              replace H := Option.bind_eq_some_iff.mp H
              obtain ⟨⟨t548, t549, t550⟩, A590, H⟩ := H
              replace H : (if t546 = 0 then (withylaw01_NumOrder.j1 kj9 t535 t537 (t550 == 0) a0_0 a0_1 a1_0 a1_1 a2_0 a2_1 t544 t545 t548 t549) else (withylaw01_NumOrder.j1 kj9 t535 t537 false a0_0 a0_1 a1_0 a1_1 a2_0 a2_1 t544 t545 t548 t549)) = some r := H
              have A59 := Aside0.mk A590
              clear A590
              have HC60 := Aside0.mk H
              clear H
              have hnb61 := NB530_531.out
              have hnc61 := NB531_530.out
              have hnb62 := NB530_532.out
              have hnc62 := NB532_530.out
              obtain ⟨hcz63_0, hcz63_1, hfz63_0, hfz63_1⟩ := bc2_ BK530
              have hnb64 := NB532_531.out
              have hnc64 := NB531_532.out
              obtain ⟨hcz65_0, hcz65_1, hfz65_0, hfz65_1⟩ := bc2_ BK532
              go_upto_region 11 with (first | ((with_reducible refine gate_callee (f := 18) rfl ?_); refine gla_ (some 101) Try.func18 #[.agg #[.int .i64 a0_0, .int .i64 a0_1], .agg #[.int .i64 a2_0, .int .i64 a2_1]] ?_; (with_reducible refine (num_Add.calls kj9 a0_0 a0_1 a2_0 a2_1 t544 t545 t546 _ A58.out).mono ?_); rintro e w66 ⟨rfl, hb⟩; refine ⟨_, rfl, ?_⟩; replace BK530 := bkb_ BK530 hb; replace BK531 := bkb_ BK531 hb; replace BK532 := bkb_ BK532 hb; replace HB := bws_ HB hb; (try clear hb); (try clear hb2); (try clear hk); (try clear hi)) | ((with_reducible refine gate_dst (N := 15) rfl ?_); refine box_event ?hg (N := 15) ?hd (cs := #[.int .i64 0, .int .i64 0]) (t := 23) ?hr ?_; (case hd => rfl); (case hg => rfl); (case hr => first | (go_simp; done) | (go_simp; rfl)); intro gb547 hg w67 hbox hb; have BK547 := Aside0.mk hbox; have GW547 := bwg_ HB hg; have GE547 := bwg_ HB hg; replace HB := bws_ HB hb; have NB530_547 := bkl_ BK530 hg; have NB547_530 := bkr_ BK530 hg; replace BK530 := bkb_ BK530 hb; have NB531_547 := bkl_ BK531 hg; have NB547_531 := bkr_ BK531 hg; replace BK531 := bkb_ BK531 hb; have NB532_547 := bkl_ BK532 hg; have NB547_532 := bkr_ BK532 hg; replace BK532 := bkb_ BK532 hb; clear hb hbox hg; have hnb68 := NB547_530.out; have hnc68 := NB530_547.out; have hnb69 := NB547_531.out; have hnc69 := NB531_547.out; have hnb70 := NB547_532.out; have hnc70 := NB532_547.out; obtain ⟨hcz71_0, hcz71_1, hfz71_0, hfz71_1⟩ := bc2_ BK547; obtain ⟨hcz72_0, hcz72_1, hfz72_0, hfz72_1⟩ := bc2_ BK531; obtain ⟨hcz73_0, hcz73_1, hfz73_0, hfz73_1⟩ := bc2_ BK532) | ((with_reducible refine gate_callee (f := 18) rfl ?_); refine gla_ (some 107) Try.func18 #[.agg #[.int .i64 a1_0, .int .i64 a1_1], .agg #[.int .i64 a2_0, .int .i64 a2_1]] ?_; (with_reducible refine (num_Add.calls kj9 a1_0 a1_1 a2_0 a2_1 t548 t549 t550 _ A59.out).mono ?_); rintro e w74 ⟨rfl, hb⟩; refine ⟨_, rfl, ?_⟩; replace BK530 := Aside0.mk (blk_below (g := gb530) (o := .cells #[.int .i64 a0_0, .int .i64 a0_1] 23 (0, 0)) (by refine bf_ ?_ NB530_547; refine bf_ ?_ NB530_547; exact bk_ BK530) hb); replace BK531 := Aside0.mk (blk_below (g := gb531) (o := .cells #[.int .i64 a1_0, .int .i64 a1_1] 23 (0, 0)) (by refine bf_ ?_ NB531_547; refine bf_ ?_ NB531_547; exact bk_ BK531) hb); replace BK532 := Aside0.mk (blk_below (g := gb532) (o := .cells #[.int .i64 a2_0, .int .i64 a2_1] 23 (0, 0)) (by refine bf_ ?_ NB532_547; refine bf_ ?_ NB532_547; exact bk_ BK532) hb); replace BK547 := Aside0.mk (blk_below (g := gb547) (o := .cells #[.int .i64 t544, .int .i64 t545] 23 (0, 0)) (by refine bp_ (cs := #[.int .i64 t544, .int .i64 0]) ?_ 1; refine bp_ (cs := #[.int .i64 0, .int .i64 0]) ?_ 0; exact bk_ BK547) hb); replace HB := bws_ HB hb; (try clear hb); (try clear hb2); (try clear hk); (try clear hi)) | ((with_reducible refine gate_dst (N := 17) rfl ?_); refine box_event ?hg (N := 17) ?hd (cs := #[.int .i64 0, .int .i64 0]) (t := 23) ?hr ?_; (case hd => rfl); (case hg => rfl); (case hr => first | (go_simp; done) | (go_simp; rfl)); intro gb551 hg w75 hbox hb; have BK551 := Aside0.mk hbox; have GW551 := bwg_ HB hg; have GE551 := bwg_ HB hg; replace HB := bws_ HB hb; have NB530_551 := bkl_ BK530 hg; have NB551_530 := bkr_ BK530 hg; replace BK530 := bkb_ BK530 hb; have NB531_551 := bkl_ BK531 hg; have NB551_531 := bkr_ BK531 hg; replace BK531 := bkb_ BK531 hb; have NB532_551 := bkl_ BK532 hg; have NB551_532 := bkr_ BK532 hg; replace BK532 := bkb_ BK532 hb; have NB547_551 := bkl_ BK547 hg; have NB551_547 := bkr_ BK547 hg; replace BK547 := bkb_ BK547 hb; clear hb hbox hg; have hnb76 := NB551_530.out; have hnc76 := NB530_551.out; have hnb77 := NB551_531.out; have hnc77 := NB531_551.out; have hnb78 := NB551_532.out; have hnc78 := NB532_551.out; have hnb79 := NB551_547.out; have hnc79 := NB547_551.out; obtain ⟨hcz80_0, hcz80_1, hfz80_0, hfz80_1⟩ := bc2_ BK551))
              (try simp only [Act.put, List.setIfInBounds_toArray, List.set_cons_zero, List.set_cons_succ])
              go_cut [115] (fun v115 wc => ∃ (kq : Nat) (x115_59 : Bool), v115 = .bool x115_59 ∧ Aside0 (withylaw01_NumOrder.j1 kq t535 t537 x115_59 a0_0 a0_1 a1_0 a1_1 a2_0 a2_1 t544 t545 t548 t549 = some r) ∧ Aside0 (kq ≤ kj9) ∧ Aside0 (wc.heap[gb530]? = some (.cells #[.int .i64 a0_0, .int .i64 a0_1] 23 (0, 0))) ∧ Aside0 (wc.heap[gb531]? = some (.cells #[.int .i64 a1_0, .int .i64 a1_1] 23 (0, 0))) ∧ Aside0 (wc.heap[gb532]? = some (.cells #[.int .i64 a2_0, .int .i64 a2_1] 23 (0, 0))) ∧ Aside0 (wc.heap[gb547]? = some (.cells #[.int .i64 t544, .int .i64 t545] 23 (0, 0))) ∧ Aside0 (wc.heap[gb551]? = some (.cells #[.int .i64 t548, .int .i64 t549] 23 (0, 0))) ∧ Aside0 (Below w.heap.size w wc))
              case first =>
                as_aux_lemma =>
                  have H := HC60.out
                  clear HC60
                  by_cases c81 : t546 = 0
                  · rw [if_pos c81] at H
                    have c81b0 : (t546 == 0) = true := beq_iff_eq.mpr c81
                    have c81b1 : (t546 != 0) = false := bne_eq_false_iff_eq.mpr c81
                    clear c81
                    (first | rw [c81b0] | (simp only [i64_w, i32_w]; rw [c81b0]) | skip)
                    have H' := Aside0.mk H
                    clear H
                    go_wp2
                    go_meet
                    case rel => exact ⟨_, ((t550 == 0)), (by first | rfl | (simp; done) | (simp [*]; done)), H', ⟨by have := HJ9.out; first | omega | exact Nat.le_refl _⟩, ⟨by refine bf_ ?_ NB530_551; refine bf_ ?_ NB530_551; exact bk_ BK530⟩, ⟨by refine bf_ ?_ NB531_551; refine bf_ ?_ NB531_551; exact bk_ BK531⟩, ⟨by refine bf_ ?_ NB532_551; refine bf_ ?_ NB532_551; exact bk_ BK532⟩, ⟨by refine bf_ ?_ NB547_551; refine bf_ ?_ NB547_551; exact bk_ BK547⟩, ⟨by refine bp_ (cs := #[.int .i64 t548, .int .i64 0]) ?_ 1; refine bp_ (cs := #[.int .i64 0, .int .i64 0]) ?_ 0; exact bk_ BK551⟩, ⟨bw_ HB⟩⟩
                  · rw [if_neg c81] at H
                    have c81b0 : (t546 == 0) = false := beq_eq_false_iff_ne.mpr c81
                    have c81b1 : (t546 != 0) = true := bne_iff_ne.mpr c81
                    (first | rw [c81b0] | (simp only [i64_w, i32_w]; rw [c81b0]) | skip)
                    have H' := Aside0.mk H
                    clear H
                    go_wp2
                    go_meet
                    case rel => exact ⟨_, (false), (by first | rfl | (simp; done) | (simp [*]; done)), H', ⟨by have := HJ9.out; first | omega | exact Nat.le_refl _⟩, ⟨by refine bf_ ?_ NB530_551; refine bf_ ?_ NB530_551; exact bk_ BK530⟩, ⟨by refine bf_ ?_ NB531_551; refine bf_ ?_ NB531_551; exact bk_ BK531⟩, ⟨by refine bf_ ?_ NB532_551; refine bf_ ?_ NB532_551; exact bk_ BK532⟩, ⟨by refine bf_ ?_ NB547_551; refine bf_ ?_ NB547_551; exact bk_ BK547⟩, ⟨by refine bp_ (cs := #[.int .i64 t548, .int .i64 0]) ?_ 1; refine bp_ (cs := #[.int .i64 0, .int .i64 0]) ?_ 0; exact bk_ BK551⟩, ⟨bw_ HB⟩⟩
              case rest =>
                as_aux_lemma =>
                  clear HC60
                  try clear c1
                  try clear c2
                  try clear p2
                  try clear c3
                  try clear c4
                  try clear c5
                  try clear c6
                  try clear p6
                  try clear c7
                  try clear c8
                  try clear c14
                  try clear c15
                  try clear c16
                  try clear c17
                  try clear c18
                  try clear c26
                  try clear c33
                  try clear c33b0
                  try clear c33b1
                  try clear c34
                  try clear c34b0
                  try clear c34b1
                  try clear c35
                  try clear c35b0
                  try clear c35b1
                  try clear c36
                  try clear c36b0
                  try clear c36b1
                  try clear c37
                  try clear c37b0
                  try clear c37b1
                  try clear c39
                  try clear c40
                  try clear c40b0
                  try clear c40b1
                  try clear c40b2
                  try clear c41
                  try clear c42
                  try clear c44
                  try clear c46
                  try clear c46b0
                  try clear c46b1
                  try clear c47
                  try clear c48
                  try clear c50
                  try clear c52
                  try clear c53
                  try clear c55
                  try clear c57
                  try clear c61
                  try clear c62
                  try clear c64
                  try clear p64
                  try clear c68
                  try clear c69
                  try clear c70
                  try clear c76
                  try clear c77
                  try clear c78
                  try clear c79
                  try clear c81
                  try clear c81b0
                  try clear c81b1
                  try clear hcz16_0
                  try clear hcz16_1
                  try clear hcz18_0
                  try clear hcz18_1
                  try clear hcz19_0
                  try clear hcz19_1
                  try clear hcz21_0
                  try clear hcz21_1
                  try clear hcz22_0
                  try clear hcz22_1
                  try clear hcz24_0
                  try clear hcz24_1
                  try clear hcz25_0
                  try clear hcz25_1
                  try clear hcz27_0
                  try clear hcz27_1
                  try clear hcz28_0
                  try clear hcz28_1
                  try clear hcz30_0
                  try clear hcz30_1
                  try clear hcz31_0
                  try clear hcz31_1
                  try clear hcz43_0
                  try clear hcz43_1
                  try clear hcz45_0
                  try clear hcz45_1
                  try clear hcz49_0
                  try clear hcz49_1
                  try clear hcz51_0
                  try clear hcz51_1
                  try clear hcz54_0
                  try clear hcz54_1
                  try clear hcz56_0
                  try clear hcz56_1
                  try clear hcz63_0
                  try clear hcz63_1
                  try clear hcz65_0
                  try clear hcz65_1
                  try clear hcz71_0
                  try clear hcz71_1
                  try clear hcz72_0
                  try clear hcz72_1
                  try clear hcz73_0
                  try clear hcz73_1
                  try clear hcz80_0
                  try clear hcz80_1
                  try clear hfz16_0
                  try clear hfz16_1
                  try clear hfz18_0
                  try clear hfz18_1
                  try clear hfz19_0
                  try clear hfz19_1
                  try clear hfz21_0
                  try clear hfz21_1
                  try clear hfz22_0
                  try clear hfz22_1
                  try clear hfz24_0
                  try clear hfz24_1
                  try clear hfz25_0
                  try clear hfz25_1
                  try clear hfz27_0
                  try clear hfz27_1
                  try clear hfz28_0
                  try clear hfz28_1
                  try clear hfz30_0
                  try clear hfz30_1
                  try clear hfz31_0
                  try clear hfz31_1
                  try clear hfz43_0
                  try clear hfz43_1
                  try clear hfz45_0
                  try clear hfz45_1
                  try clear hfz49_0
                  try clear hfz49_1
                  try clear hfz51_0
                  try clear hfz51_1
                  try clear hfz54_0
                  try clear hfz54_1
                  try clear hfz56_0
                  try clear hfz56_1
                  try clear hfz63_0
                  try clear hfz63_1
                  try clear hfz65_0
                  try clear hfz65_1
                  try clear hfz71_0
                  try clear hfz71_1
                  try clear hfz72_0
                  try clear hfz72_1
                  try clear hfz73_0
                  try clear hfz73_1
                  try clear hfz80_0
                  try clear hfz80_1
                  try clear p2
                  try clear p6
                  obtain ⟨kq, x115_59, rfl, HA, HJ59, BK530, BK531, BK532, BK547, BK551, HB⟩ := hcut
                  cases kq with
                  | zero => exact absurd HA.out (by simp [withylaw01_NumOrder.j1])
                  | succ kj59 =>
                    have H := HA.out
                    clear HA
                    simp only [withylaw01_NumOrder.j1] at H
                    have HC82 := Aside0.mk H
                    clear H
                    go_upto_if 115 with (fail)
                    go_cut [] (fun wc => ∃ (kq : Nat), Aside0 (withylaw01_NumOrder.j2 kq t535 t537 a0_0 a0_1 a1_0 a1_1 a2_0 a2_1 = some r) ∧ Aside0 (kq ≤ kj59) ∧ Aside0 (wc.heap[gb530]? = some (.cells #[.int .i64 a0_0, .int .i64 a0_1] 23 (0, 0))) ∧ Aside0 (wc.heap[gb531]? = some (.cells #[.int .i64 a1_0, .int .i64 a1_1] 23 (0, 0))) ∧ Aside0 (wc.heap[gb532]? = some (.cells #[.int .i64 a2_0, .int .i64 a2_1] 23 (0, 0))) ∧ Aside0 (wc.heap[gb547]? = some (.cells #[.int .i64 t544, .int .i64 t545] 23 (0, 0))) ∧ Aside0 (wc.heap[gb551]? = some (.cells #[.int .i64 t548, .int .i64 t549] 23 (0, 0))) ∧ Aside0 (Below w.heap.size w wc))
                    case first =>
                      as_aux_lemma =>
                        have H := HC82.out
                        clear HC82
                        by_cases c83 : x115_59 = true
                        · subst c83
                          have H1 : ((num_Cmp.f kj59 t544 t545 t548 t549).bind fun bt552 => (if bt552.2 = 0 then (if bt552.1 = t535 then (withylaw01_NumOrder.j2 kj59 t535 t537 a0_0 a0_1 a1_0 a1_1 a2_0 a2_1) else (some false)) else (some false))) = some r := by rw [if_pos rfl] at H; exact H
                          clear H
                          have H := H1
                          clear H1
                          replace H := Option.bind_eq_some_iff.mp H
                          obtain ⟨⟨t552, t553⟩, A840, H⟩ := H
                          replace H : (if t553 = 0 then (if t552 = t535 then (withylaw01_NumOrder.j2 kj59 t535 t537 a0_0 a0_1 a1_0 a1_1 a2_0 a2_1) else (some false)) else (some false)) = some r := H
                          have A84 := Aside0.mk A840
                          clear A840
                          by_cases c85 : t553 = 0
                          · rw [if_pos c85] at H
                            have c85b0 : (t553 == 0) = true := beq_iff_eq.mpr c85
                            have c85b1 : (t553 != 0) = false := bne_eq_false_iff_eq.mpr c85
                            clear c85
                            (first | rw [c85b0] | (simp only [i64_w, i32_w]; rw [c85b0]) | skip)
                            by_cases c86 : t552 = t535
                            · rw [if_pos c86] at H
                              have c86b0 : (t552 == t535) = true := beq_iff_eq.mpr c86
                              have c86b1 : (t552 != t535) = false := bne_eq_false_iff_eq.mpr c86
                              clear c86
                              have H' := Aside0.mk H
                              clear H
                              have hnb87 := NB547_530.out
                              have hnc87 := NB530_547.out
                              have hnb88 := NB547_531.out
                              have hnc88 := NB531_547.out
                              have hnb89 := NB547_532.out
                              have hnc89 := NB532_547.out
                              have hnb90 := NB547_551.out
                              have hnc90 := NB551_547.out
                              obtain ⟨hcz91_0, hcz91_1, hfz91_0, hfz91_1⟩ := bc2_ BK547
                              have hnb92 := NB551_530.out
                              have hnc92 := NB530_551.out
                              have hnb93 := NB551_531.out
                              have hnc93 := NB531_551.out
                              have hnb94 := NB551_532.out
                              have hnc94 := NB532_551.out
                              obtain ⟨hcz95_0, hcz95_1, hfz95_0, hfz95_1⟩ := bc2_ BK551
                              go_wp2_with (first | ((with_reducible refine gate_callee (f := 26) rfl ?_); refine gla_ (some 119) Try.func26 #[.agg #[.int .i64 t544, .int .i64 t545], .agg #[.int .i64 t548, .int .i64 t549]] ?_; (with_reducible refine (num_Cmp.calls kj59 t544 t545 t548 t549 t552 t553 _ A84.out).mono ?_); rintro e w96 ⟨rfl, hb⟩; refine ⟨_, rfl, ?_⟩; replace BK530 := bkb_ BK530 hb; replace BK531 := bkb_ BK531 hb; replace BK532 := bkb_ BK532 hb; replace BK547 := bkb_ BK547 hb; replace BK551 := bkb_ BK551 hb; replace HB := bws_ HB hb; (try clear hb); (try clear hb2); (try clear hk); (try clear hi)))
                              go_meet
                              case rel => exact ⟨_, H', ⟨by have := HJ9.out; have := HJ59.out; first | omega | exact Nat.le_refl _⟩, ⟨by exact bk_ BK530⟩, ⟨by exact bk_ BK531⟩, ⟨by exact bk_ BK532⟩, ⟨by exact bk_ BK547⟩, ⟨by exact bk_ BK551⟩, ⟨bw_ HB⟩⟩
                            · rw [if_neg c86] at H
                              have c86b0 : (t552 == t535) = false := beq_eq_false_iff_ne.mpr c86
                              have c86b1 : (t552 != t535) = true := bne_iff_ne.mpr c86
                              obtain rfl := Option.some.inj H
                              have hnb97 := NB547_530.out
                              have hnc97 := NB530_547.out
                              have hnb98 := NB547_531.out
                              have hnc98 := NB531_547.out
                              have hnb99 := NB547_532.out
                              have hnc99 := NB532_547.out
                              have hnb100 := NB547_551.out
                              have hnc100 := NB551_547.out
                              obtain ⟨hcz101_0, hcz101_1, hfz101_0, hfz101_1⟩ := bc2_ BK547
                              have hnb102 := NB551_530.out
                              have hnc102 := NB530_551.out
                              have hnb103 := NB551_531.out
                              have hnc103 := NB531_551.out
                              have hnb104 := NB551_532.out
                              have hnc104 := NB532_551.out
                              obtain ⟨hcz105_0, hcz105_1, hfz105_0, hfz105_1⟩ := bc2_ BK551
                              go_wp2_with (first | ((with_reducible refine gate_callee (f := 26) rfl ?_); refine gla_ (some 119) Try.func26 #[.agg #[.int .i64 t544, .int .i64 t545], .agg #[.int .i64 t548, .int .i64 t549]] ?_; (with_reducible refine (num_Cmp.calls kj59 t544 t545 t548 t549 t552 t553 _ A84.out).mono ?_); rintro e w106 ⟨rfl, hb⟩; refine ⟨_, rfl, ?_⟩; replace BK530 := bkb_ BK530 hb; replace BK531 := bkb_ BK531 hb; replace BK532 := bkb_ BK532 hb; replace BK547 := bkb_ BK547 hb; replace BK551 := bkb_ BK551 hb; replace HB := bws_ HB hb; (try clear hb); (try clear hb2); (try clear hk); (try clear hi)))
                              go_ret
                              exact ⟨by first | rfl | (simp [*] <;> rfl), bw_ HB⟩
                          · rw [if_neg c85] at H
                            have c85b0 : (t553 == 0) = false := beq_eq_false_iff_ne.mpr c85
                            have c85b1 : (t553 != 0) = true := bne_iff_ne.mpr c85
                            (first | rw [c85b0] | (simp only [i64_w, i32_w]; rw [c85b0]) | skip)
                            obtain rfl := Option.some.inj H
                            have hnb107 := NB547_530.out
                            have hnc107 := NB530_547.out
                            have hnb108 := NB547_531.out
                            have hnc108 := NB531_547.out
                            have hnb109 := NB547_532.out
                            have hnc109 := NB532_547.out
                            have hnb110 := NB547_551.out
                            have hnc110 := NB551_547.out
                            obtain ⟨hcz111_0, hcz111_1, hfz111_0, hfz111_1⟩ := bc2_ BK547
                            have hnb112 := NB551_530.out
                            have hnc112 := NB530_551.out
                            have hnb113 := NB551_531.out
                            have hnc113 := NB531_551.out
                            have hnb114 := NB551_532.out
                            have hnc114 := NB532_551.out
                            obtain ⟨hcz115_0, hcz115_1, hfz115_0, hfz115_1⟩ := bc2_ BK551
                            go_wp2_with (first | ((with_reducible refine gate_callee (f := 26) rfl ?_); refine gla_ (some 119) Try.func26 #[.agg #[.int .i64 t544, .int .i64 t545], .agg #[.int .i64 t548, .int .i64 t549]] ?_; (with_reducible refine (num_Cmp.calls kj59 t544 t545 t548 t549 t552 t553 _ A84.out).mono ?_); rintro e w116 ⟨rfl, hb⟩; refine ⟨_, rfl, ?_⟩; replace BK530 := bkb_ BK530 hb; replace BK531 := bkb_ BK531 hb; replace BK532 := bkb_ BK532 hb; replace BK547 := bkb_ BK547 hb; replace BK551 := bkb_ BK551 hb; replace HB := bws_ HB hb; (try clear hb); (try clear hb2); (try clear hk); (try clear hi)))
                            go_ret
                            exact ⟨by first | rfl | (simp [*] <;> rfl), bw_ HB⟩
                        · replace c83 := Bool.eq_false_iff.mpr c83
                          subst c83
                          have H1 : (withylaw01_NumOrder.j2 kj59 t535 t537 a0_0 a0_1 a1_0 a1_1 a2_0 a2_1) = some r := by rw [if_neg (show ¬ (false = true) by decide)] at H; exact H
                          clear H
                          have H := H1
                          clear H1
                          have H' := Aside0.mk H
                          clear H
                          go_wp2
                          go_meet
                          case rel => exact ⟨_, H', ⟨by have := HJ9.out; have := HJ59.out; first | omega | exact Nat.le_refl _⟩, ⟨by exact bk_ BK530⟩, ⟨by exact bk_ BK531⟩, ⟨by exact bk_ BK532⟩, ⟨by exact bk_ BK547⟩, ⟨by exact bk_ BK551⟩, ⟨bw_ HB⟩⟩
                    case rest =>
                      as_aux_lemma =>
                        clear HC82
                        try clear c1
                        try clear c2
                        try clear p2
                        try clear c3
                        try clear c4
                        try clear c5
                        try clear c6
                        try clear p6
                        try clear c7
                        try clear c8
                        try clear c9
                        try clear c10
                        try clear c11
                        try clear c14
                        try clear c15
                        try clear c16
                        try clear c17
                        try clear c18
                        try clear c26
                        try clear c33
                        try clear c33b0
                        try clear c33b1
                        try clear c34
                        try clear c34b0
                        try clear c34b1
                        try clear c35
                        try clear c35b0
                        try clear c35b1
                        try clear c36
                        try clear c36b0
                        try clear c36b1
                        try clear c37
                        try clear c37b0
                        try clear c37b1
                        try clear c39
                        try clear c40
                        try clear c40b0
                        try clear c40b1
                        try clear c40b2
                        try clear c41
                        try clear c42
                        try clear c44
                        try clear c46
                        try clear c46b0
                        try clear c46b1
                        try clear c47
                        try clear c48
                        try clear c50
                        try clear c52
                        try clear c53
                        try clear c55
                        try clear c57
                        try clear c61
                        try clear c62
                        try clear c64
                        try clear p64
                        try clear c68
                        try clear c69
                        try clear c70
                        try clear c76
                        try clear c77
                        try clear c78
                        try clear c79
                        try clear c81
                        try clear c81b0
                        try clear c81b1
                        try clear c83
                        try clear c85
                        try clear c85b0
                        try clear c85b1
                        try clear c86
                        try clear c86b0
                        try clear c86b1
                        try clear c87
                        try clear c88
                        try clear c89
                        try clear c90
                        try clear c92
                        try clear c93
                        try clear c94
                        try clear c97
                        try clear c98
                        try clear c99
                        try clear c100
                        try clear c102
                        try clear c103
                        try clear c104
                        try clear c107
                        try clear c108
                        try clear c109
                        try clear c110
                        try clear c112
                        try clear c113
                        try clear c114
                        try clear hcz101_0
                        try clear hcz101_1
                        try clear hcz105_0
                        try clear hcz105_1
                        try clear hcz111_0
                        try clear hcz111_1
                        try clear hcz115_0
                        try clear hcz115_1
                        try clear hcz16_0
                        try clear hcz16_1
                        try clear hcz18_0
                        try clear hcz18_1
                        try clear hcz19_0
                        try clear hcz19_1
                        try clear hcz21_0
                        try clear hcz21_1
                        try clear hcz22_0
                        try clear hcz22_1
                        try clear hcz24_0
                        try clear hcz24_1
                        try clear hcz25_0
                        try clear hcz25_1
                        try clear hcz27_0
                        try clear hcz27_1
                        try clear hcz28_0
                        try clear hcz28_1
                        try clear hcz30_0
                        try clear hcz30_1
                        try clear hcz31_0
                        try clear hcz31_1
                        try clear hcz43_0
                        try clear hcz43_1
                        try clear hcz45_0
                        try clear hcz45_1
                        try clear hcz49_0
                        try clear hcz49_1
                        try clear hcz51_0
                        try clear hcz51_1
                        try clear hcz54_0
                        try clear hcz54_1
                        try clear hcz56_0
                        try clear hcz56_1
                        try clear hcz63_0
                        try clear hcz63_1
                        try clear hcz65_0
                        try clear hcz65_1
                        try clear hcz71_0
                        try clear hcz71_1
                        try clear hcz72_0
                        try clear hcz72_1
                        try clear hcz73_0
                        try clear hcz73_1
                        try clear hcz80_0
                        try clear hcz80_1
                        try clear hcz91_0
                        try clear hcz91_1
                        try clear hcz95_0
                        try clear hcz95_1
                        try clear hfz101_0
                        try clear hfz101_1
                        try clear hfz105_0
                        try clear hfz105_1
                        try clear hfz111_0
                        try clear hfz111_1
                        try clear hfz115_0
                        try clear hfz115_1
                        try clear hfz16_0
                        try clear hfz16_1
                        try clear hfz18_0
                        try clear hfz18_1
                        try clear hfz19_0
                        try clear hfz19_1
                        try clear hfz21_0
                        try clear hfz21_1
                        try clear hfz22_0
                        try clear hfz22_1
                        try clear hfz24_0
                        try clear hfz24_1
                        try clear hfz25_0
                        try clear hfz25_1
                        try clear hfz27_0
                        try clear hfz27_1
                        try clear hfz28_0
                        try clear hfz28_1
                        try clear hfz30_0
                        try clear hfz30_1
                        try clear hfz31_0
                        try clear hfz31_1
                        try clear hfz43_0
                        try clear hfz43_1
                        try clear hfz45_0
                        try clear hfz45_1
                        try clear hfz49_0
                        try clear hfz49_1
                        try clear hfz51_0
                        try clear hfz51_1
                        try clear hfz54_0
                        try clear hfz54_1
                        try clear hfz56_0
                        try clear hfz56_1
                        try clear hfz63_0
                        try clear hfz63_1
                        try clear hfz65_0
                        try clear hfz65_1
                        try clear hfz71_0
                        try clear hfz71_1
                        try clear hfz72_0
                        try clear hfz72_1
                        try clear hfz73_0
                        try clear hfz73_1
                        try clear hfz80_0
                        try clear hfz80_1
                        try clear hfz91_0
                        try clear hfz91_1
                        try clear hfz95_0
                        try clear hfz95_1
                        try clear p2
                        try clear p6
                        try clear p64
                        obtain ⟨kq, HA, HJ81, BK530, BK531, BK532, BK547, BK551, HB⟩ := hcut
                        cases kq with
                        | zero => exact absurd HA.out (by simp [withylaw01_NumOrder.j2])
                        | succ kj81 =>
                          have H := HA.out
                          clear HA
                          simp only [withylaw01_NumOrder.j2] at H
                          replace H := Option.bind_eq_some_iff.mp H
                          obtain ⟨⟨t554, t555, t556⟩, A1170, H⟩ := H
                          replace H : ((num_Mul.f kj81 a1_0 a1_1 a2_0 a2_1).bind fun bt557 => (if t556 = 0 then (if bt557.2.2 = 0 then (withylaw01_NumOrder.j3 kj81 t535 t537 (decide (a2_0 > 0)) a0_0 a0_1 a1_0 a1_1 t554 t555 bt557.1 bt557.2.1) else (withylaw01_NumOrder.j3 kj81 t535 t537 false a0_0 a0_1 a1_0 a1_1 t554 t555 bt557.1 bt557.2.1)) else (withylaw01_NumOrder.j3 kj81 t535 t537 false a0_0 a0_1 a1_0 a1_1 t554 t555 bt557.1 bt557.2.1))) = some r := H
                          have A117 := Aside0.mk A1170
                          clear A1170
                          replace H := Option.bind_eq_some_iff.mp H
                          obtain ⟨⟨t557, t558, t559⟩, A1180, H⟩ := H
                          replace H : (if t556 = 0 then (if t559 = 0 then (withylaw01_NumOrder.j3 kj81 t535 t537 (decide (a2_0 > 0)) a0_0 a0_1 a1_0 a1_1 t554 t555 t557 t558) else (withylaw01_NumOrder.j3 kj81 t535 t537 false a0_0 a0_1 a1_0 a1_1 t554 t555 t557 t558)) else (withylaw01_NumOrder.j3 kj81 t535 t537 false a0_0 a0_1 a1_0 a1_1 t554 t555 t557 t558)) = some r := H
                          have A118 := Aside0.mk A1180
                          clear A1180
                          have HC119 := Aside0.mk H
                          clear H
                          have hnb120 := NB530_531.out
                          have hnc120 := NB531_530.out
                          have hnb121 := NB530_532.out
                          have hnc121 := NB532_530.out
                          have hnb122 := NB530_547.out
                          have hnc122 := NB547_530.out
                          have hnb123 := NB530_551.out
                          have hnc123 := NB551_530.out
                          obtain ⟨hcz124_0, hcz124_1, hfz124_0, hfz124_1⟩ := bc2_ BK530
                          have hnb125 := NB532_531.out
                          have hnc125 := NB531_532.out
                          have hnb126 := NB532_547.out
                          have hnc126 := NB547_532.out
                          have hnb127 := NB532_551.out
                          have hnc127 := NB551_532.out
                          obtain ⟨hcz128_0, hcz128_1, hfz128_0, hfz128_1⟩ := bc2_ BK532
                          go_upto_region 17 with (first | ((with_reducible refine gate_callee (f := 19) rfl ?_); refine gla_ (some 132) Try.func19 #[.agg #[.int .i64 a0_0, .int .i64 a0_1], .agg #[.int .i64 a2_0, .int .i64 a2_1]] ?_; (with_reducible refine (num_Mul.calls kj81 a0_0 a0_1 a2_0 a2_1 t554 t555 t556 _ A117.out).mono ?_); rintro e w129 ⟨rfl, hb⟩; refine ⟨_, rfl, ?_⟩; replace BK530 := bkb_ BK530 hb; replace BK531 := bkb_ BK531 hb; replace BK532 := bkb_ BK532 hb; replace BK547 := bkb_ BK547 hb; replace BK551 := bkb_ BK551 hb; replace HB := bws_ HB hb; (try clear hb); (try clear hb2); (try clear hk); (try clear hi); have hnb130 := NB547_531.out; have hnc130 := NB531_547.out; have hnb131 := NB547_551.out; have hnc131 := NB551_547.out; obtain ⟨hcz132_0, hcz132_1, hfz132_0, hfz132_1⟩ := bc2_ BK547; have hnb133 := NB531_551.out; have hnc133 := NB551_531.out; obtain ⟨hcz134_0, hcz134_1, hfz134_0, hfz134_1⟩ := bc2_ BK531; obtain ⟨hcz135_0, hcz135_1, hfz135_0, hfz135_1⟩ := bc2_ BK532) | ((with_reducible refine gate_callee (f := 19) rfl ?_); refine gla_ (some 138) Try.func19 #[.agg #[.int .i64 a1_0, .int .i64 a1_1], .agg #[.int .i64 a2_0, .int .i64 a2_1]] ?_; (with_reducible refine (num_Mul.calls kj81 a1_0 a1_1 a2_0 a2_1 t557 t558 t559 _ A118.out).mono ?_); rintro e w136 ⟨rfl, hb⟩; refine ⟨_, rfl, ?_⟩; replace BK530 := Aside0.mk (blk_below (g := gb530) (o := .cells #[.int .i64 a0_0, .int .i64 a0_1] 23 (0, 0)) (by refine bf_ ?_ NB530_547; refine bf_ ?_ NB530_547; exact bk_ BK530) hb); replace BK531 := Aside0.mk (blk_below (g := gb531) (o := .cells #[.int .i64 a1_0, .int .i64 a1_1] 23 (0, 0)) (by refine bf_ ?_ NB531_547; refine bf_ ?_ NB531_547; exact bk_ BK531) hb); replace BK532 := Aside0.mk (blk_below (g := gb532) (o := .cells #[.int .i64 a2_0, .int .i64 a2_1] 23 (0, 0)) (by refine bf_ ?_ NB532_547; refine bf_ ?_ NB532_547; exact bk_ BK532) hb); replace BK547 := Aside0.mk (blk_below (g := gb547) (o := .cells #[.int .i64 t554, .int .i64 t555] 23 (0, 0)) (by refine bp_ (cs := #[.int .i64 t554, .int .i64 t545]) ?_ 1; refine bp_ (cs := #[.int .i64 t544, .int .i64 t545]) ?_ 0; exact bk_ BK547) hb); replace BK551 := Aside0.mk (blk_below (g := gb551) (o := .cells #[.int .i64 t548, .int .i64 t549] 23 (0, 0)) (by refine bf_ ?_ NB551_547; refine bf_ ?_ NB551_547; exact bk_ BK551) hb); replace HB := bws_ HB hb; (try clear hb); (try clear hb2); (try clear hk); (try clear hi); obtain ⟨hcz137_0, hcz137_1, hfz137_0, hfz137_1⟩ := bc2_ BK551))
                          (try simp only [Act.put, List.setIfInBounds_toArray, List.set_cons_zero, List.set_cons_succ])
                          go_cut [151] (fun v151 wc => ∃ (kq : Nat) (x151_118 : Bool), v151 = .bool x151_118 ∧ Aside0 (withylaw01_NumOrder.j3 kq t535 t537 x151_118 a0_0 a0_1 a1_0 a1_1 t554 t555 t557 t558 = some r) ∧ Aside0 (kq ≤ kj81) ∧ Aside0 (wc.heap[gb530]? = some (.cells #[.int .i64 a0_0, .int .i64 a0_1] 23 (0, 0))) ∧ Aside0 (wc.heap[gb531]? = some (.cells #[.int .i64 a1_0, .int .i64 a1_1] 23 (0, 0))) ∧ Aside0 (wc.heap[gb532]? = some (.cells #[.int .i64 a2_0, .int .i64 a2_1] 23 (0, 0))) ∧ Aside0 (wc.heap[gb547]? = some (.cells #[.int .i64 t554, .int .i64 t555] 23 (0, 0))) ∧ Aside0 (wc.heap[gb551]? = some (.cells #[.int .i64 t557, .int .i64 t558] 23 (0, 0))) ∧ Aside0 (Below w.heap.size w wc))
                          case first =>
                            as_aux_lemma =>
                              have H := HC119.out
                              clear HC119
                              by_cases c138 : t556 = 0
                              · rw [if_pos c138] at H
                                have c138b0 : (t556 == 0) = true := beq_iff_eq.mpr c138
                                have c138b1 : (t556 != 0) = false := bne_eq_false_iff_eq.mpr c138
                                clear c138
                                (first | rw [c138b0] | (simp only [i64_w, i32_w]; rw [c138b0]) | skip)
                                by_cases c139 : t559 = 0
                                · rw [if_pos c139] at H
                                  have c139b0 : (t559 == 0) = true := beq_iff_eq.mpr c139
                                  have c139b1 : (t559 != 0) = false := bne_eq_false_iff_eq.mpr c139
                                  clear c139
                                  have H' := Aside0.mk H
                                  clear H
                                  have hnb140 := NB532_530.out
                                  have hnc140 := NB530_532.out
                                  have hnb141 := NB532_531.out
                                  have hnc141 := NB531_532.out
                                  have hnb142 := NB532_547.out
                                  have hnc142 := NB547_532.out
                                  have hnb143 := NB532_551.out
                                  have hnc143 := NB551_532.out
                                  obtain ⟨hcz144_0, hcz144_1, hfz144_0, hfz144_1⟩ := bc2_ BK532
                                  go_wp2
                                  go_meet
                                  case rel => exact ⟨_, (decide (a2_0 > 0)), (by first | rfl | (simp; done) | (simp [*]; done)), H', ⟨by have := HJ9.out; have := HJ59.out; have := HJ81.out; first | omega | exact Nat.le_refl _⟩, ⟨by refine bf_ ?_ NB530_551; refine bf_ ?_ NB530_551; exact bk_ BK530⟩, ⟨by refine bf_ ?_ NB531_551; refine bf_ ?_ NB531_551; exact bk_ BK531⟩, ⟨by refine bf_ ?_ NB532_551; refine bf_ ?_ NB532_551; exact bk_ BK532⟩, ⟨by refine bf_ ?_ NB547_551; refine bf_ ?_ NB547_551; exact bk_ BK547⟩, ⟨by refine bp_ (cs := #[.int .i64 t557, .int .i64 t549]) ?_ 1; refine bp_ (cs := #[.int .i64 t548, .int .i64 t549]) ?_ 0; exact bk_ BK551⟩, ⟨bw_ HB⟩⟩
                                · rw [if_neg c139] at H
                                  have c139b0 : (t559 == 0) = false := beq_eq_false_iff_ne.mpr c139
                                  have c139b1 : (t559 != 0) = true := bne_iff_ne.mpr c139
                                  have H' := Aside0.mk H
                                  clear H
                                  go_wp2
                                  go_meet
                                  case rel => exact ⟨_, (false), (by first | rfl | (simp; done) | (simp [*]; done)), H', ⟨by have := HJ9.out; have := HJ59.out; have := HJ81.out; first | omega | exact Nat.le_refl _⟩, ⟨by refine bf_ ?_ NB530_551; refine bf_ ?_ NB530_551; exact bk_ BK530⟩, ⟨by refine bf_ ?_ NB531_551; refine bf_ ?_ NB531_551; exact bk_ BK531⟩, ⟨by refine bf_ ?_ NB532_551; refine bf_ ?_ NB532_551; exact bk_ BK532⟩, ⟨by refine bf_ ?_ NB547_551; refine bf_ ?_ NB547_551; exact bk_ BK547⟩, ⟨by refine bp_ (cs := #[.int .i64 t557, .int .i64 t549]) ?_ 1; refine bp_ (cs := #[.int .i64 t548, .int .i64 t549]) ?_ 0; exact bk_ BK551⟩, ⟨bw_ HB⟩⟩
                              · rw [if_neg c138] at H
                                have c138b0 : (t556 == 0) = false := beq_eq_false_iff_ne.mpr c138
                                have c138b1 : (t556 != 0) = true := bne_iff_ne.mpr c138
                                (first | rw [c138b0] | (simp only [i64_w, i32_w]; rw [c138b0]) | skip)
                                have H' := Aside0.mk H
                                clear H
                                go_wp2
                                go_meet
                                case rel => exact ⟨_, (false), (by first | rfl | (simp; done) | (simp [*]; done)), H', ⟨by have := HJ9.out; have := HJ59.out; have := HJ81.out; first | omega | exact Nat.le_refl _⟩, ⟨by refine bf_ ?_ NB530_551; refine bf_ ?_ NB530_551; exact bk_ BK530⟩, ⟨by refine bf_ ?_ NB531_551; refine bf_ ?_ NB531_551; exact bk_ BK531⟩, ⟨by refine bf_ ?_ NB532_551; refine bf_ ?_ NB532_551; exact bk_ BK532⟩, ⟨by refine bf_ ?_ NB547_551; refine bf_ ?_ NB547_551; exact bk_ BK547⟩, ⟨by refine bp_ (cs := #[.int .i64 t557, .int .i64 t549]) ?_ 1; refine bp_ (cs := #[.int .i64 t548, .int .i64 t549]) ?_ 0; exact bk_ BK551⟩, ⟨bw_ HB⟩⟩
                          case rest =>
                            as_aux_lemma =>
                              clear HC119
                              try clear c1
                              try clear c2
                              try clear p2
                              try clear c3
                              try clear c4
                              try clear c5
                              try clear c6
                              try clear p6
                              try clear c7
                              try clear c8
                              try clear c9
                              try clear c10
                              try clear c11
                              try clear c12
                              try clear c13
                              try clear c14
                              try clear c15
                              try clear c16
                              try clear c17
                              try clear c18
                              try clear c19
                              try clear c26
                              try clear c33
                              try clear c33b0
                              try clear c33b1
                              try clear c34
                              try clear c34b0
                              try clear c34b1
                              try clear c35
                              try clear c35b0
                              try clear c35b1
                              try clear c36
                              try clear c36b0
                              try clear c36b1
                              try clear c37
                              try clear c37b0
                              try clear c37b1
                              try clear c39
                              try clear c40
                              try clear c40b0
                              try clear c40b1
                              try clear c40b2
                              try clear c41
                              try clear c42
                              try clear c44
                              try clear c46
                              try clear c46b0
                              try clear c46b1
                              try clear c47
                              try clear c48
                              try clear c50
                              try clear c52
                              try clear c53
                              try clear c55
                              try clear c57
                              try clear c61
                              try clear c62
                              try clear c64
                              try clear p64
                              try clear c68
                              try clear c69
                              try clear c70
                              try clear c76
                              try clear c77
                              try clear c78
                              try clear c79
                              try clear c81
                              try clear c81b0
                              try clear c81b1
                              try clear c83
                              try clear c85
                              try clear c85b0
                              try clear c85b1
                              try clear c86
                              try clear c86b0
                              try clear c86b1
                              try clear c87
                              try clear c88
                              try clear c89
                              try clear c90
                              try clear c92
                              try clear c93
                              try clear c94
                              try clear c97
                              try clear c98
                              try clear c99
                              try clear c100
                              try clear c102
                              try clear c103
                              try clear c104
                              try clear c107
                              try clear c108
                              try clear c109
                              try clear c110
                              try clear c112
                              try clear c113
                              try clear c114
                              try clear c120
                              try clear c121
                              try clear c122
                              try clear c123
                              try clear c125
                              try clear c126
                              try clear c127
                              try clear c130
                              try clear c131
                              try clear c133
                              try clear c138
                              try clear c138b0
                              try clear c138b1
                              try clear c139
                              try clear c139b0
                              try clear c139b1
                              try clear c140
                              try clear c141
                              try clear c142
                              try clear c143
                              try clear hcz101_0
                              try clear hcz101_1
                              try clear hcz105_0
                              try clear hcz105_1
                              try clear hcz111_0
                              try clear hcz111_1
                              try clear hcz115_0
                              try clear hcz115_1
                              try clear hcz124_0
                              try clear hcz124_1
                              try clear hcz128_0
                              try clear hcz128_1
                              try clear hcz132_0
                              try clear hcz132_1
                              try clear hcz134_0
                              try clear hcz134_1
                              try clear hcz135_0
                              try clear hcz135_1
                              try clear hcz137_0
                              try clear hcz137_1
                              try clear hcz144_0
                              try clear hcz144_1
                              try clear hcz16_0
                              try clear hcz16_1
                              try clear hcz18_0
                              try clear hcz18_1
                              try clear hcz19_0
                              try clear hcz19_1
                              try clear hcz21_0
                              try clear hcz21_1
                              try clear hcz22_0
                              try clear hcz22_1
                              try clear hcz24_0
                              try clear hcz24_1
                              try clear hcz25_0
                              try clear hcz25_1
                              try clear hcz27_0
                              try clear hcz27_1
                              try clear hcz28_0
                              try clear hcz28_1
                              try clear hcz30_0
                              try clear hcz30_1
                              try clear hcz31_0
                              try clear hcz31_1
                              try clear hcz43_0
                              try clear hcz43_1
                              try clear hcz45_0
                              try clear hcz45_1
                              try clear hcz49_0
                              try clear hcz49_1
                              try clear hcz51_0
                              try clear hcz51_1
                              try clear hcz54_0
                              try clear hcz54_1
                              try clear hcz56_0
                              try clear hcz56_1
                              try clear hcz63_0
                              try clear hcz63_1
                              try clear hcz65_0
                              try clear hcz65_1
                              try clear hcz71_0
                              try clear hcz71_1
                              try clear hcz72_0
                              try clear hcz72_1
                              try clear hcz73_0
                              try clear hcz73_1
                              try clear hcz80_0
                              try clear hcz80_1
                              try clear hcz91_0
                              try clear hcz91_1
                              try clear hcz95_0
                              try clear hcz95_1
                              try clear hfz101_0
                              try clear hfz101_1
                              try clear hfz105_0
                              try clear hfz105_1
                              try clear hfz111_0
                              try clear hfz111_1
                              try clear hfz115_0
                              try clear hfz115_1
                              try clear hfz124_0
                              try clear hfz124_1
                              try clear hfz128_0
                              try clear hfz128_1
                              try clear hfz132_0
                              try clear hfz132_1
                              try clear hfz134_0
                              try clear hfz134_1
                              try clear hfz135_0
                              try clear hfz135_1
                              try clear hfz137_0
                              try clear hfz137_1
                              try clear hfz144_0
                              try clear hfz144_1
                              try clear hfz16_0
                              try clear hfz16_1
                              try clear hfz18_0
                              try clear hfz18_1
                              try clear hfz19_0
                              try clear hfz19_1
                              try clear hfz21_0
                              try clear hfz21_1
                              try clear hfz22_0
                              try clear hfz22_1
                              try clear hfz24_0
                              try clear hfz24_1
                              try clear hfz25_0
                              try clear hfz25_1
                              try clear hfz27_0
                              try clear hfz27_1
                              try clear hfz28_0
                              try clear hfz28_1
                              try clear hfz30_0
                              try clear hfz30_1
                              try clear hfz31_0
                              try clear hfz31_1
                              try clear hfz43_0
                              try clear hfz43_1
                              try clear hfz45_0
                              try clear hfz45_1
                              try clear hfz49_0
                              try clear hfz49_1
                              try clear hfz51_0
                              try clear hfz51_1
                              try clear hfz54_0
                              try clear hfz54_1
                              try clear hfz56_0
                              try clear hfz56_1
                              try clear hfz63_0
                              try clear hfz63_1
                              try clear hfz65_0
                              try clear hfz65_1
                              try clear hfz71_0
                              try clear hfz71_1
                              try clear hfz72_0
                              try clear hfz72_1
                              try clear hfz73_0
                              try clear hfz73_1
                              try clear hfz80_0
                              try clear hfz80_1
                              try clear hfz91_0
                              try clear hfz91_1
                              try clear hfz95_0
                              try clear hfz95_1
                              try clear p2
                              try clear p6
                              try clear p64
                              obtain ⟨kq, x151_118, rfl, HA, HJ118, BK530, BK531, BK532, BK547, BK551, HB⟩ := hcut
                              cases kq with
                              | zero => exact absurd HA.out (by simp [withylaw01_NumOrder.j3])
                              | succ kj118 =>
                                have H := HA.out
                                clear HA
                                simp only [withylaw01_NumOrder.j3] at H
                                have HC145 := Aside0.mk H
                                clear H
                                go_upto_if 151 with (fail)
                                go_cut [] (fun wc => ∃ (kq : Nat), Aside0 (withylaw01_NumOrder.j4 kq t537 a0_0 a0_1 a1_0 a1_1 = some r) ∧ Aside0 (kq ≤ kj118) ∧ Aside0 (wc.heap[gb530]? = some (.cells #[.int .i64 a0_0, .int .i64 a0_1] 23 (0, 0))) ∧ Aside0 (wc.heap[gb531]? = some (.cells #[.int .i64 a1_0, .int .i64 a1_1] 23 (0, 0))) ∧ Aside0 (wc.heap[gb532]? = some (.cells #[.int .i64 a2_0, .int .i64 a2_1] 23 (0, 0))) ∧ Aside0 (wc.heap[gb547]? = some (.cells #[.int .i64 t554, .int .i64 t555] 23 (0, 0))) ∧ Aside0 (wc.heap[gb551]? = some (.cells #[.int .i64 t557, .int .i64 t558] 23 (0, 0))) ∧ Aside0 (Below w.heap.size w wc))
                                case first =>
                                  as_aux_lemma =>
                                    have H := HC145.out
                                    clear HC145
                                    by_cases c146 : x151_118 = true
                                    · subst c146
                                      have H1 : ((num_Cmp.f kj118 t554 t555 t557 t558).bind fun bt560 => (if bt560.2 = 0 then (if bt560.1 = t535 then (withylaw01_NumOrder.j4 kj118 t537 a0_0 a0_1 a1_0 a1_1) else (some false)) else (some false))) = some r := by rw [if_pos rfl] at H; exact H
                                      clear H
                                      have H := H1
                                      clear H1
                                      replace H := Option.bind_eq_some_iff.mp H
                                      obtain ⟨⟨t560, t561⟩, A1470, H⟩ := H
                                      replace H : (if t561 = 0 then (if t560 = t535 then (withylaw01_NumOrder.j4 kj118 t537 a0_0 a0_1 a1_0 a1_1) else (some false)) else (some false)) = some r := H
                                      have A147 := Aside0.mk A1470
                                      clear A1470
                                      by_cases c148 : t561 = 0
                                      · rw [if_pos c148] at H
                                        have c148b0 : (t561 == 0) = true := beq_iff_eq.mpr c148
                                        have c148b1 : (t561 != 0) = false := bne_eq_false_iff_eq.mpr c148
                                        clear c148
                                        (first | rw [c148b0] | (simp only [i64_w, i32_w]; rw [c148b0]) | skip)
                                        by_cases c149 : t560 = t535
                                        · rw [if_pos c149] at H
                                          have c149b0 : (t560 == t535) = true := beq_iff_eq.mpr c149
                                          have c149b1 : (t560 != t535) = false := bne_eq_false_iff_eq.mpr c149
                                          clear c149
                                          have H' := Aside0.mk H
                                          clear H
                                          have hnb150 := NB547_530.out
                                          have hnc150 := NB530_547.out
                                          have hnb151 := NB547_531.out
                                          have hnc151 := NB531_547.out
                                          have hnb152 := NB547_532.out
                                          have hnc152 := NB532_547.out
                                          have hnb153 := NB547_551.out
                                          have hnc153 := NB551_547.out
                                          obtain ⟨hcz154_0, hcz154_1, hfz154_0, hfz154_1⟩ := bc2_ BK547
                                          have hnb155 := NB551_530.out
                                          have hnc155 := NB530_551.out
                                          have hnb156 := NB551_531.out
                                          have hnc156 := NB531_551.out
                                          have hnb157 := NB551_532.out
                                          have hnc157 := NB532_551.out
                                          obtain ⟨hcz158_0, hcz158_1, hfz158_0, hfz158_1⟩ := bc2_ BK551
                                          go_wp2_with (first | ((with_reducible refine gate_callee (f := 26) rfl ?_); refine gla_ (some 155) Try.func26 #[.agg #[.int .i64 t554, .int .i64 t555], .agg #[.int .i64 t557, .int .i64 t558]] ?_; (with_reducible refine (num_Cmp.calls kj118 t554 t555 t557 t558 t560 t561 _ A147.out).mono ?_); rintro e w159 ⟨rfl, hb⟩; refine ⟨_, rfl, ?_⟩; replace BK530 := bkb_ BK530 hb; replace BK531 := bkb_ BK531 hb; replace BK532 := bkb_ BK532 hb; replace BK547 := bkb_ BK547 hb; replace BK551 := bkb_ BK551 hb; replace HB := bws_ HB hb; (try clear hb); (try clear hb2); (try clear hk); (try clear hi)))
                                          go_meet
                                          case rel => exact ⟨_, H', ⟨by have := HJ9.out; have := HJ59.out; have := HJ81.out; have := HJ118.out; first | omega | exact Nat.le_refl _⟩, ⟨by exact bk_ BK530⟩, ⟨by exact bk_ BK531⟩, ⟨by exact bk_ BK532⟩, ⟨by exact bk_ BK547⟩, ⟨by exact bk_ BK551⟩, ⟨bw_ HB⟩⟩
                                        · rw [if_neg c149] at H
                                          have c149b0 : (t560 == t535) = false := beq_eq_false_iff_ne.mpr c149
                                          have c149b1 : (t560 != t535) = true := bne_iff_ne.mpr c149
                                          obtain rfl := Option.some.inj H
                                          have hnb160 := NB547_530.out
                                          have hnc160 := NB530_547.out
                                          have hnb161 := NB547_531.out
                                          have hnc161 := NB531_547.out
                                          have hnb162 := NB547_532.out
                                          have hnc162 := NB532_547.out
                                          have hnb163 := NB547_551.out
                                          have hnc163 := NB551_547.out
                                          obtain ⟨hcz164_0, hcz164_1, hfz164_0, hfz164_1⟩ := bc2_ BK547
                                          have hnb165 := NB551_530.out
                                          have hnc165 := NB530_551.out
                                          have hnb166 := NB551_531.out
                                          have hnc166 := NB531_551.out
                                          have hnb167 := NB551_532.out
                                          have hnc167 := NB532_551.out
                                          obtain ⟨hcz168_0, hcz168_1, hfz168_0, hfz168_1⟩ := bc2_ BK551
                                          go_wp2_with (first | ((with_reducible refine gate_callee (f := 26) rfl ?_); refine gla_ (some 155) Try.func26 #[.agg #[.int .i64 t554, .int .i64 t555], .agg #[.int .i64 t557, .int .i64 t558]] ?_; (with_reducible refine (num_Cmp.calls kj118 t554 t555 t557 t558 t560 t561 _ A147.out).mono ?_); rintro e w169 ⟨rfl, hb⟩; refine ⟨_, rfl, ?_⟩; replace BK530 := bkb_ BK530 hb; replace BK531 := bkb_ BK531 hb; replace BK532 := bkb_ BK532 hb; replace BK547 := bkb_ BK547 hb; replace BK551 := bkb_ BK551 hb; replace HB := bws_ HB hb; (try clear hb); (try clear hb2); (try clear hk); (try clear hi)))
                                          go_ret
                                          exact ⟨by first | rfl | (simp [*] <;> rfl), bw_ HB⟩
                                      · rw [if_neg c148] at H
                                        have c148b0 : (t561 == 0) = false := beq_eq_false_iff_ne.mpr c148
                                        have c148b1 : (t561 != 0) = true := bne_iff_ne.mpr c148
                                        (first | rw [c148b0] | (simp only [i64_w, i32_w]; rw [c148b0]) | skip)
                                        obtain rfl := Option.some.inj H
                                        have hnb170 := NB547_530.out
                                        have hnc170 := NB530_547.out
                                        have hnb171 := NB547_531.out
                                        have hnc171 := NB531_547.out
                                        have hnb172 := NB547_532.out
                                        have hnc172 := NB532_547.out
                                        have hnb173 := NB547_551.out
                                        have hnc173 := NB551_547.out
                                        obtain ⟨hcz174_0, hcz174_1, hfz174_0, hfz174_1⟩ := bc2_ BK547
                                        have hnb175 := NB551_530.out
                                        have hnc175 := NB530_551.out
                                        have hnb176 := NB551_531.out
                                        have hnc176 := NB531_551.out
                                        have hnb177 := NB551_532.out
                                        have hnc177 := NB532_551.out
                                        obtain ⟨hcz178_0, hcz178_1, hfz178_0, hfz178_1⟩ := bc2_ BK551
                                        go_wp2_with (first | ((with_reducible refine gate_callee (f := 26) rfl ?_); refine gla_ (some 155) Try.func26 #[.agg #[.int .i64 t554, .int .i64 t555], .agg #[.int .i64 t557, .int .i64 t558]] ?_; (with_reducible refine (num_Cmp.calls kj118 t554 t555 t557 t558 t560 t561 _ A147.out).mono ?_); rintro e w179 ⟨rfl, hb⟩; refine ⟨_, rfl, ?_⟩; replace BK530 := bkb_ BK530 hb; replace BK531 := bkb_ BK531 hb; replace BK532 := bkb_ BK532 hb; replace BK547 := bkb_ BK547 hb; replace BK551 := bkb_ BK551 hb; replace HB := bws_ HB hb; (try clear hb); (try clear hb2); (try clear hk); (try clear hi)))
                                        go_ret
                                        exact ⟨by first | rfl | (simp [*] <;> rfl), bw_ HB⟩
                                    · replace c146 := Bool.eq_false_iff.mpr c146
                                      subst c146
                                      have H1 : (withylaw01_NumOrder.j4 kj118 t537 a0_0 a0_1 a1_0 a1_1) = some r := by rw [if_neg (show ¬ (false = true) by decide)] at H; exact H
                                      clear H
                                      have H := H1
                                      clear H1
                                      have H' := Aside0.mk H
                                      clear H
                                      go_wp2
                                      go_meet
                                      case rel => exact ⟨_, H', ⟨by have := HJ9.out; have := HJ59.out; have := HJ81.out; have := HJ118.out; first | omega | exact Nat.le_refl _⟩, ⟨by exact bk_ BK530⟩, ⟨by exact bk_ BK531⟩, ⟨by exact bk_ BK532⟩, ⟨by exact bk_ BK547⟩, ⟨by exact bk_ BK551⟩, ⟨bw_ HB⟩⟩
                                case rest =>
                                  as_aux_lemma =>
                                    clear HC145
                                    try clear c1
                                    try clear c2
                                    try clear p2
                                    try clear c3
                                    try clear c4
                                    try clear c5
                                    try clear c6
                                    try clear p6
                                    try clear c7
                                    try clear c8
                                    try clear c9
                                    try clear c10
                                    try clear c11
                                    try clear c12
                                    try clear c13
                                    try clear c14
                                    try clear c15
                                    try clear c16
                                    try clear c17
                                    try clear c18
                                    try clear c19
                                    try clear c26
                                    try clear c33
                                    try clear c33b0
                                    try clear c33b1
                                    try clear c34
                                    try clear c34b0
                                    try clear c34b1
                                    try clear c35
                                    try clear c35b0
                                    try clear c35b1
                                    try clear c36
                                    try clear c36b0
                                    try clear c36b1
                                    try clear c37
                                    try clear c37b0
                                    try clear c37b1
                                    try clear c39
                                    try clear c40
                                    try clear c40b0
                                    try clear c40b1
                                    try clear c40b2
                                    try clear c41
                                    try clear c42
                                    try clear c44
                                    try clear c46
                                    try clear c46b0
                                    try clear c46b1
                                    try clear c47
                                    try clear c48
                                    try clear c50
                                    try clear c52
                                    try clear c53
                                    try clear c55
                                    try clear c57
                                    try clear c61
                                    try clear c62
                                    try clear c64
                                    try clear p64
                                    try clear c68
                                    try clear c69
                                    try clear c70
                                    try clear c76
                                    try clear c77
                                    try clear c78
                                    try clear c79
                                    try clear c81
                                    try clear c81b0
                                    try clear c81b1
                                    try clear c83
                                    try clear c85
                                    try clear c85b0
                                    try clear c85b1
                                    try clear c86
                                    try clear c86b0
                                    try clear c86b1
                                    try clear c87
                                    try clear c88
                                    try clear c89
                                    try clear c90
                                    try clear c92
                                    try clear c93
                                    try clear c94
                                    try clear c97
                                    try clear c98
                                    try clear c99
                                    try clear c100
                                    try clear c102
                                    try clear c103
                                    try clear c104
                                    try clear c107
                                    try clear c108
                                    try clear c109
                                    try clear c110
                                    try clear c112
                                    try clear c113
                                    try clear c114
                                    try clear c120
                                    try clear c121
                                    try clear c122
                                    try clear c123
                                    try clear c125
                                    try clear c126
                                    try clear c127
                                    try clear c130
                                    try clear c131
                                    try clear c133
                                    try clear c138
                                    try clear c138b0
                                    try clear c138b1
                                    try clear c139
                                    try clear c139b0
                                    try clear c139b1
                                    try clear c140
                                    try clear c141
                                    try clear c142
                                    try clear c143
                                    try clear c146
                                    try clear c148
                                    try clear c148b0
                                    try clear c148b1
                                    try clear c149
                                    try clear c149b0
                                    try clear c149b1
                                    try clear c150
                                    try clear c151
                                    try clear c152
                                    try clear c153
                                    try clear c155
                                    try clear c156
                                    try clear c157
                                    try clear c160
                                    try clear c161
                                    try clear c162
                                    try clear c163
                                    try clear c165
                                    try clear c166
                                    try clear c167
                                    try clear c170
                                    try clear c171
                                    try clear c172
                                    try clear c173
                                    try clear c175
                                    try clear c176
                                    try clear c177
                                    try clear hcz101_0
                                    try clear hcz101_1
                                    try clear hcz105_0
                                    try clear hcz105_1
                                    try clear hcz111_0
                                    try clear hcz111_1
                                    try clear hcz115_0
                                    try clear hcz115_1
                                    try clear hcz124_0
                                    try clear hcz124_1
                                    try clear hcz128_0
                                    try clear hcz128_1
                                    try clear hcz132_0
                                    try clear hcz132_1
                                    try clear hcz134_0
                                    try clear hcz134_1
                                    try clear hcz135_0
                                    try clear hcz135_1
                                    try clear hcz137_0
                                    try clear hcz137_1
                                    try clear hcz144_0
                                    try clear hcz144_1
                                    try clear hcz154_0
                                    try clear hcz154_1
                                    try clear hcz158_0
                                    try clear hcz158_1
                                    try clear hcz164_0
                                    try clear hcz164_1
                                    try clear hcz168_0
                                    try clear hcz168_1
                                    try clear hcz16_0
                                    try clear hcz16_1
                                    try clear hcz174_0
                                    try clear hcz174_1
                                    try clear hcz178_0
                                    try clear hcz178_1
                                    try clear hcz18_0
                                    try clear hcz18_1
                                    try clear hcz19_0
                                    try clear hcz19_1
                                    try clear hcz21_0
                                    try clear hcz21_1
                                    try clear hcz22_0
                                    try clear hcz22_1
                                    try clear hcz24_0
                                    try clear hcz24_1
                                    try clear hcz25_0
                                    try clear hcz25_1
                                    try clear hcz27_0
                                    try clear hcz27_1
                                    try clear hcz28_0
                                    try clear hcz28_1
                                    try clear hcz30_0
                                    try clear hcz30_1
                                    try clear hcz31_0
                                    try clear hcz31_1
                                    try clear hcz43_0
                                    try clear hcz43_1
                                    try clear hcz45_0
                                    try clear hcz45_1
                                    try clear hcz49_0
                                    try clear hcz49_1
                                    try clear hcz51_0
                                    try clear hcz51_1
                                    try clear hcz54_0
                                    try clear hcz54_1
                                    try clear hcz56_0
                                    try clear hcz56_1
                                    try clear hcz63_0
                                    try clear hcz63_1
                                    try clear hcz65_0
                                    try clear hcz65_1
                                    try clear hcz71_0
                                    try clear hcz71_1
                                    try clear hcz72_0
                                    try clear hcz72_1
                                    try clear hcz73_0
                                    try clear hcz73_1
                                    try clear hcz80_0
                                    try clear hcz80_1
                                    try clear hcz91_0
                                    try clear hcz91_1
                                    try clear hcz95_0
                                    try clear hcz95_1
                                    try clear hfz101_0
                                    try clear hfz101_1
                                    try clear hfz105_0
                                    try clear hfz105_1
                                    try clear hfz111_0
                                    try clear hfz111_1
                                    try clear hfz115_0
                                    try clear hfz115_1
                                    try clear hfz124_0
                                    try clear hfz124_1
                                    try clear hfz128_0
                                    try clear hfz128_1
                                    try clear hfz132_0
                                    try clear hfz132_1
                                    try clear hfz134_0
                                    try clear hfz134_1
                                    try clear hfz135_0
                                    try clear hfz135_1
                                    try clear hfz137_0
                                    try clear hfz137_1
                                    try clear hfz144_0
                                    try clear hfz144_1
                                    try clear hfz154_0
                                    try clear hfz154_1
                                    try clear hfz158_0
                                    try clear hfz158_1
                                    try clear hfz164_0
                                    try clear hfz164_1
                                    try clear hfz168_0
                                    try clear hfz168_1
                                    try clear hfz16_0
                                    try clear hfz16_1
                                    try clear hfz174_0
                                    try clear hfz174_1
                                    try clear hfz178_0
                                    try clear hfz178_1
                                    try clear hfz18_0
                                    try clear hfz18_1
                                    try clear hfz19_0
                                    try clear hfz19_1
                                    try clear hfz21_0
                                    try clear hfz21_1
                                    try clear hfz22_0
                                    try clear hfz22_1
                                    try clear hfz24_0
                                    try clear hfz24_1
                                    try clear hfz25_0
                                    try clear hfz25_1
                                    try clear hfz27_0
                                    try clear hfz27_1
                                    try clear hfz28_0
                                    try clear hfz28_1
                                    try clear hfz30_0
                                    try clear hfz30_1
                                    try clear hfz31_0
                                    try clear hfz31_1
                                    try clear hfz43_0
                                    try clear hfz43_1
                                    try clear hfz45_0
                                    try clear hfz45_1
                                    try clear hfz49_0
                                    try clear hfz49_1
                                    try clear hfz51_0
                                    try clear hfz51_1
                                    try clear hfz54_0
                                    try clear hfz54_1
                                    try clear hfz56_0
                                    try clear hfz56_1
                                    try clear hfz63_0
                                    try clear hfz63_1
                                    try clear hfz65_0
                                    try clear hfz65_1
                                    try clear hfz71_0
                                    try clear hfz71_1
                                    try clear hfz72_0
                                    try clear hfz72_1
                                    try clear hfz73_0
                                    try clear hfz73_1
                                    try clear hfz80_0
                                    try clear hfz80_1
                                    try clear hfz91_0
                                    try clear hfz91_1
                                    try clear hfz95_0
                                    try clear hfz95_1
                                    try clear p2
                                    try clear p6
                                    try clear p64
                                    obtain ⟨kq, HA, HJ144, BK530, BK531, BK532, BK547, BK551, HB⟩ := hcut
                                    cases kq with
                                    | zero => exact absurd HA.out (by simp [withylaw01_NumOrder.j4])
                                    | succ kj144 =>
                                      have H := HA.out
                                      clear HA
                                      simp only [withylaw01_NumOrder.j4] at H
                                      replace H := Option.bind_eq_some_iff.mp H
                                      obtain ⟨⟨t562, t563, t564⟩, A1800, H⟩ := H
                                      replace H : ((num_Neg.f kj144 a1_0 a1_1).bind fun bt565 => ((num_Cmp.f kj144 t562 t563 bt565.1 bt565.2.1).bind fun bt568 => (if t564 = 0 then (if bt565.2.2 = 0 then (if bt568.2 = 0 then (if bt568.1 = t537 then ((withylaw01_summed.f kj144).bind fun t570 => (some t570)) else (some false)) else (some false)) else (some false)) else (some false)))) = some r := H
                                      have A180 := Aside0.mk A1800
                                      clear A1800
                                      replace H := Option.bind_eq_some_iff.mp H
                                      obtain ⟨⟨t565, t566, t567⟩, A1810, H⟩ := H
                                      replace H : ((num_Cmp.f kj144 t562 t563 t565 t566).bind fun bt568 => (if t564 = 0 then (if t567 = 0 then (if bt568.2 = 0 then (if bt568.1 = t537 then ((withylaw01_summed.f kj144).bind fun t570 => (some t570)) else (some false)) else (some false)) else (some false)) else (some false))) = some r := H
                                      have A181 := Aside0.mk A1810
                                      clear A1810
                                      replace H := Option.bind_eq_some_iff.mp H
                                      obtain ⟨⟨t568, t569⟩, A1820, H⟩ := H
                                      replace H : (if t564 = 0 then (if t567 = 0 then (if t569 = 0 then (if t568 = t537 then ((withylaw01_summed.f kj144).bind fun t570 => (some t570)) else (some false)) else (some false)) else (some false)) else (some false)) = some r := H
                                      have A182 := Aside0.mk A1820
                                      clear A1820
                                      by_cases c183 : t564 = 0
                                      · rw [if_pos c183] at H
                                        have c183b0 : (t564 == 0) = true := beq_iff_eq.mpr c183
                                        have c183b1 : (t564 != 0) = false := bne_eq_false_iff_eq.mpr c183
                                        clear c183
                                        by_cases c184 : t567 = 0
                                        · rw [if_pos c184] at H
                                          have c184b0 : (t567 == 0) = true := beq_iff_eq.mpr c184
                                          have c184b1 : (t567 != 0) = false := bne_eq_false_iff_eq.mpr c184
                                          clear c184
                                          by_cases c185 : t569 = 0
                                          · rw [if_pos c185] at H
                                            have c185b0 : (t569 == 0) = true := beq_iff_eq.mpr c185
                                            have c185b1 : (t569 != 0) = false := bne_eq_false_iff_eq.mpr c185
                                            clear c185
                                            by_cases c186 : t568 = t537
                                            · rw [if_pos c186] at H
                                              have c186b0 : (t568 == t537) = true := beq_iff_eq.mpr c186
                                              have c186b1 : (t568 != t537) = false := bne_eq_false_iff_eq.mpr c186
                                              clear c186
                                              replace H := Option.bind_eq_some_iff.mp H
                                              obtain ⟨t570, A1870, H⟩ := H
                                              replace H : (some t570) = some r := H
                                              have A187 := Aside0.mk A1870
                                              clear A1870
                                              obtain rfl := Option.some.inj H
                                              have hnb188 := NB530_531.out
                                              have hnc188 := NB531_530.out
                                              have hnb189 := NB530_532.out
                                              have hnc189 := NB532_530.out
                                              have hnb190 := NB530_547.out
                                              have hnc190 := NB547_530.out
                                              have hnb191 := NB530_551.out
                                              have hnc191 := NB551_530.out
                                              obtain ⟨hcz192_0, hcz192_1, hfz192_0, hfz192_1⟩ := bc2_ BK530
                                              go_wp2_with (first | ((with_reducible refine gate_callee (f := 43) rfl ?_); refine gla_ (some 167) Try.func43 #[.agg #[.int .i64 a0_0, .int .i64 a0_1]] ?_; (with_reducible refine (num_Neg.calls kj144 a0_0 a0_1 t562 t563 t564 _ A180.out).mono ?_); rintro e w193 ⟨rfl, hb⟩; refine ⟨_, rfl, ?_⟩; replace BK530 := bkb_ BK530 hb; replace BK531 := bkb_ BK531 hb; replace BK532 := bkb_ BK532 hb; replace BK547 := bkb_ BK547 hb; replace BK551 := bkb_ BK551 hb; replace HB := bws_ HB hb; (try clear hb); (try clear hb2); (try clear hk); (try clear hi); have hnb194 := NB547_531.out; have hnc194 := NB531_547.out; have hnb195 := NB547_532.out; have hnc195 := NB532_547.out; have hnb196 := NB547_551.out; have hnc196 := NB551_547.out; obtain ⟨hcz197_0, hcz197_1, hfz197_0, hfz197_1⟩ := bc2_ BK547; have hnb198 := NB531_532.out; have hnc198 := NB532_531.out; have hnb199 := NB531_551.out; have hnc199 := NB551_531.out; obtain ⟨hcz200_0, hcz200_1, hfz200_0, hfz200_1⟩ := bc2_ BK531) | ((with_reducible refine gate_callee (f := 43) rfl ?_); refine gla_ (some 172) Try.func43 #[.agg #[.int .i64 a1_0, .int .i64 a1_1]] ?_; (with_reducible refine (num_Neg.calls kj144 a1_0 a1_1 t565 t566 t567 _ A181.out).mono ?_); rintro e w201 ⟨rfl, hb⟩; refine ⟨_, rfl, ?_⟩; replace BK530 := Aside0.mk (blk_below (g := gb530) (o := .cells #[.int .i64 a0_0, .int .i64 a0_1] 23 (0, 0)) (by refine bf_ ?_ NB530_547; refine bf_ ?_ NB530_547; exact bk_ BK530) hb); replace BK531 := Aside0.mk (blk_below (g := gb531) (o := .cells #[.int .i64 a1_0, .int .i64 a1_1] 23 (0, 0)) (by refine bf_ ?_ NB531_547; refine bf_ ?_ NB531_547; exact bk_ BK531) hb); replace BK532 := Aside0.mk (blk_below (g := gb532) (o := .cells #[.int .i64 a2_0, .int .i64 a2_1] 23 (0, 0)) (by refine bf_ ?_ NB532_547; refine bf_ ?_ NB532_547; exact bk_ BK532) hb); replace BK547 := Aside0.mk (blk_below (g := gb547) (o := .cells #[.int .i64 t562, .int .i64 t563] 23 (0, 0)) (by refine bp_ (cs := #[.int .i64 t562, .int .i64 t555]) ?_ 1; refine bp_ (cs := #[.int .i64 t554, .int .i64 t555]) ?_ 0; exact bk_ BK547) hb); replace BK551 := Aside0.mk (blk_below (g := gb551) (o := .cells #[.int .i64 t557, .int .i64 t558] 23 (0, 0)) (by refine bf_ ?_ NB551_547; refine bf_ ?_ NB551_547; exact bk_ BK551) hb); replace HB := bws_ HB hb; (try clear hb); (try clear hb2); (try clear hk); (try clear hi); have hnb202 := NB551_532.out; have hnc202 := NB532_551.out; obtain ⟨hcz203_0, hcz203_1, hfz203_0, hfz203_1⟩ := bc2_ BK551; obtain ⟨hcz204_0, hcz204_1, hfz204_0, hfz204_1⟩ := bc2_ BK547) | ((with_reducible refine gate_callee (f := 26) rfl ?_); refine gla_ (some 178) Try.func26 #[.agg #[.int .i64 t562, .int .i64 t563], .agg #[.int .i64 t565, .int .i64 t566]] ?_; (with_reducible refine (num_Cmp.calls kj144 t562 t563 t565 t566 t568 t569 _ A182.out).mono ?_); rintro e w205 ⟨rfl, hb⟩; refine ⟨_, rfl, ?_⟩; replace BK530 := Aside0.mk (blk_below (g := gb530) (o := .cells #[.int .i64 a0_0, .int .i64 a0_1] 23 (0, 0)) (by refine bf_ ?_ NB530_551; refine bf_ ?_ NB530_551; exact bk_ BK530) hb); replace BK531 := Aside0.mk (blk_below (g := gb531) (o := .cells #[.int .i64 a1_0, .int .i64 a1_1] 23 (0, 0)) (by refine bf_ ?_ NB531_551; refine bf_ ?_ NB531_551; exact bk_ BK531) hb); replace BK532 := Aside0.mk (blk_below (g := gb532) (o := .cells #[.int .i64 a2_0, .int .i64 a2_1] 23 (0, 0)) (by refine bf_ ?_ NB532_551; refine bf_ ?_ NB532_551; exact bk_ BK532) hb); replace BK547 := Aside0.mk (blk_below (g := gb547) (o := .cells #[.int .i64 t562, .int .i64 t563] 23 (0, 0)) (by refine bf_ ?_ NB547_551; refine bf_ ?_ NB547_551; exact bk_ BK547) hb); replace BK551 := Aside0.mk (blk_below (g := gb551) (o := .cells #[.int .i64 t565, .int .i64 t566] 23 (0, 0)) (by refine bp_ (cs := #[.int .i64 t565, .int .i64 t558]) ?_ 1; refine bp_ (cs := #[.int .i64 t557, .int .i64 t558]) ?_ 0; exact bk_ BK551) hb); replace HB := bws_ HB hb; (try clear hb); (try clear hb2); (try clear hk); (try clear hi)) | (go_at_call 17; (with_reducible refine (withylaw01_summed.calls kj144  t570 _ A187.out).mono ?_); rintro e w206 ⟨rfl, hb⟩; replace BK530 := bkb_ BK530 hb; replace BK531 := bkb_ BK531 hb; replace BK532 := bkb_ BK532 hb; replace BK547 := bkb_ BK547 hb; replace BK551 := bkb_ BK551 hb; replace HB := bws_ HB hb; (try clear hb); (try clear hb2); (try clear hk); (try clear hi)))
                                              go_ret
                                              exact ⟨by first | rfl | (simp [*] <;> rfl), bw_ HB⟩
                                            · rw [if_neg c186] at H
                                              have c186b0 : (t568 == t537) = false := beq_eq_false_iff_ne.mpr c186
                                              have c186b1 : (t568 != t537) = true := bne_iff_ne.mpr c186
                                              obtain rfl := Option.some.inj H
                                              have hnb207 := NB530_531.out
                                              have hnc207 := NB531_530.out
                                              have hnb208 := NB530_532.out
                                              have hnc208 := NB532_530.out
                                              have hnb209 := NB530_547.out
                                              have hnc209 := NB547_530.out
                                              have hnb210 := NB530_551.out
                                              have hnc210 := NB551_530.out
                                              obtain ⟨hcz211_0, hcz211_1, hfz211_0, hfz211_1⟩ := bc2_ BK530
                                              go_wp2_with (first | ((with_reducible refine gate_callee (f := 43) rfl ?_); refine gla_ (some 167) Try.func43 #[.agg #[.int .i64 a0_0, .int .i64 a0_1]] ?_; (with_reducible refine (num_Neg.calls kj144 a0_0 a0_1 t562 t563 t564 _ A180.out).mono ?_); rintro e w212 ⟨rfl, hb⟩; refine ⟨_, rfl, ?_⟩; replace BK530 := bkb_ BK530 hb; replace BK531 := bkb_ BK531 hb; replace BK532 := bkb_ BK532 hb; replace BK547 := bkb_ BK547 hb; replace BK551 := bkb_ BK551 hb; replace HB := bws_ HB hb; (try clear hb); (try clear hb2); (try clear hk); (try clear hi); have hnb213 := NB547_531.out; have hnc213 := NB531_547.out; have hnb214 := NB547_532.out; have hnc214 := NB532_547.out; have hnb215 := NB547_551.out; have hnc215 := NB551_547.out; obtain ⟨hcz216_0, hcz216_1, hfz216_0, hfz216_1⟩ := bc2_ BK547; have hnb217 := NB531_532.out; have hnc217 := NB532_531.out; have hnb218 := NB531_551.out; have hnc218 := NB551_531.out; obtain ⟨hcz219_0, hcz219_1, hfz219_0, hfz219_1⟩ := bc2_ BK531) | ((with_reducible refine gate_callee (f := 43) rfl ?_); refine gla_ (some 172) Try.func43 #[.agg #[.int .i64 a1_0, .int .i64 a1_1]] ?_; (with_reducible refine (num_Neg.calls kj144 a1_0 a1_1 t565 t566 t567 _ A181.out).mono ?_); rintro e w220 ⟨rfl, hb⟩; refine ⟨_, rfl, ?_⟩; replace BK530 := Aside0.mk (blk_below (g := gb530) (o := .cells #[.int .i64 a0_0, .int .i64 a0_1] 23 (0, 0)) (by refine bf_ ?_ NB530_547; refine bf_ ?_ NB530_547; exact bk_ BK530) hb); replace BK531 := Aside0.mk (blk_below (g := gb531) (o := .cells #[.int .i64 a1_0, .int .i64 a1_1] 23 (0, 0)) (by refine bf_ ?_ NB531_547; refine bf_ ?_ NB531_547; exact bk_ BK531) hb); replace BK532 := Aside0.mk (blk_below (g := gb532) (o := .cells #[.int .i64 a2_0, .int .i64 a2_1] 23 (0, 0)) (by refine bf_ ?_ NB532_547; refine bf_ ?_ NB532_547; exact bk_ BK532) hb); replace BK547 := Aside0.mk (blk_below (g := gb547) (o := .cells #[.int .i64 t562, .int .i64 t563] 23 (0, 0)) (by refine bp_ (cs := #[.int .i64 t562, .int .i64 t555]) ?_ 1; refine bp_ (cs := #[.int .i64 t554, .int .i64 t555]) ?_ 0; exact bk_ BK547) hb); replace BK551 := Aside0.mk (blk_below (g := gb551) (o := .cells #[.int .i64 t557, .int .i64 t558] 23 (0, 0)) (by refine bf_ ?_ NB551_547; refine bf_ ?_ NB551_547; exact bk_ BK551) hb); replace HB := bws_ HB hb; (try clear hb); (try clear hb2); (try clear hk); (try clear hi); have hnb221 := NB551_532.out; have hnc221 := NB532_551.out; obtain ⟨hcz222_0, hcz222_1, hfz222_0, hfz222_1⟩ := bc2_ BK551; obtain ⟨hcz223_0, hcz223_1, hfz223_0, hfz223_1⟩ := bc2_ BK547) | ((with_reducible refine gate_callee (f := 26) rfl ?_); refine gla_ (some 178) Try.func26 #[.agg #[.int .i64 t562, .int .i64 t563], .agg #[.int .i64 t565, .int .i64 t566]] ?_; (with_reducible refine (num_Cmp.calls kj144 t562 t563 t565 t566 t568 t569 _ A182.out).mono ?_); rintro e w224 ⟨rfl, hb⟩; refine ⟨_, rfl, ?_⟩; replace BK530 := Aside0.mk (blk_below (g := gb530) (o := .cells #[.int .i64 a0_0, .int .i64 a0_1] 23 (0, 0)) (by refine bf_ ?_ NB530_551; refine bf_ ?_ NB530_551; exact bk_ BK530) hb); replace BK531 := Aside0.mk (blk_below (g := gb531) (o := .cells #[.int .i64 a1_0, .int .i64 a1_1] 23 (0, 0)) (by refine bf_ ?_ NB531_551; refine bf_ ?_ NB531_551; exact bk_ BK531) hb); replace BK532 := Aside0.mk (blk_below (g := gb532) (o := .cells #[.int .i64 a2_0, .int .i64 a2_1] 23 (0, 0)) (by refine bf_ ?_ NB532_551; refine bf_ ?_ NB532_551; exact bk_ BK532) hb); replace BK547 := Aside0.mk (blk_below (g := gb547) (o := .cells #[.int .i64 t562, .int .i64 t563] 23 (0, 0)) (by refine bf_ ?_ NB547_551; refine bf_ ?_ NB547_551; exact bk_ BK547) hb); replace BK551 := Aside0.mk (blk_below (g := gb551) (o := .cells #[.int .i64 t565, .int .i64 t566] 23 (0, 0)) (by refine bp_ (cs := #[.int .i64 t565, .int .i64 t558]) ?_ 1; refine bp_ (cs := #[.int .i64 t557, .int .i64 t558]) ?_ 0; exact bk_ BK551) hb); replace HB := bws_ HB hb; (try clear hb); (try clear hb2); (try clear hk); (try clear hi)))
                                              go_ret
                                              exact ⟨by first | rfl | (simp [*] <;> rfl), bw_ HB⟩
                                          · rw [if_neg c185] at H
                                            have c185b0 : (t569 == 0) = false := beq_eq_false_iff_ne.mpr c185
                                            have c185b1 : (t569 != 0) = true := bne_iff_ne.mpr c185
                                            obtain rfl := Option.some.inj H
                                            have hnb225 := NB530_531.out
                                            have hnc225 := NB531_530.out
                                            have hnb226 := NB530_532.out
                                            have hnc226 := NB532_530.out
                                            have hnb227 := NB530_547.out
                                            have hnc227 := NB547_530.out
                                            have hnb228 := NB530_551.out
                                            have hnc228 := NB551_530.out
                                            obtain ⟨hcz229_0, hcz229_1, hfz229_0, hfz229_1⟩ := bc2_ BK530
                                            go_wp2_with (first | ((with_reducible refine gate_callee (f := 43) rfl ?_); refine gla_ (some 167) Try.func43 #[.agg #[.int .i64 a0_0, .int .i64 a0_1]] ?_; (with_reducible refine (num_Neg.calls kj144 a0_0 a0_1 t562 t563 t564 _ A180.out).mono ?_); rintro e w230 ⟨rfl, hb⟩; refine ⟨_, rfl, ?_⟩; replace BK530 := bkb_ BK530 hb; replace BK531 := bkb_ BK531 hb; replace BK532 := bkb_ BK532 hb; replace BK547 := bkb_ BK547 hb; replace BK551 := bkb_ BK551 hb; replace HB := bws_ HB hb; (try clear hb); (try clear hb2); (try clear hk); (try clear hi); have hnb231 := NB547_531.out; have hnc231 := NB531_547.out; have hnb232 := NB547_532.out; have hnc232 := NB532_547.out; have hnb233 := NB547_551.out; have hnc233 := NB551_547.out; obtain ⟨hcz234_0, hcz234_1, hfz234_0, hfz234_1⟩ := bc2_ BK547; have hnb235 := NB531_532.out; have hnc235 := NB532_531.out; have hnb236 := NB531_551.out; have hnc236 := NB551_531.out; obtain ⟨hcz237_0, hcz237_1, hfz237_0, hfz237_1⟩ := bc2_ BK531) | ((with_reducible refine gate_callee (f := 43) rfl ?_); refine gla_ (some 172) Try.func43 #[.agg #[.int .i64 a1_0, .int .i64 a1_1]] ?_; (with_reducible refine (num_Neg.calls kj144 a1_0 a1_1 t565 t566 t567 _ A181.out).mono ?_); rintro e w238 ⟨rfl, hb⟩; refine ⟨_, rfl, ?_⟩; replace BK530 := Aside0.mk (blk_below (g := gb530) (o := .cells #[.int .i64 a0_0, .int .i64 a0_1] 23 (0, 0)) (by refine bf_ ?_ NB530_547; refine bf_ ?_ NB530_547; exact bk_ BK530) hb); replace BK531 := Aside0.mk (blk_below (g := gb531) (o := .cells #[.int .i64 a1_0, .int .i64 a1_1] 23 (0, 0)) (by refine bf_ ?_ NB531_547; refine bf_ ?_ NB531_547; exact bk_ BK531) hb); replace BK532 := Aside0.mk (blk_below (g := gb532) (o := .cells #[.int .i64 a2_0, .int .i64 a2_1] 23 (0, 0)) (by refine bf_ ?_ NB532_547; refine bf_ ?_ NB532_547; exact bk_ BK532) hb); replace BK547 := Aside0.mk (blk_below (g := gb547) (o := .cells #[.int .i64 t562, .int .i64 t563] 23 (0, 0)) (by refine bp_ (cs := #[.int .i64 t562, .int .i64 t555]) ?_ 1; refine bp_ (cs := #[.int .i64 t554, .int .i64 t555]) ?_ 0; exact bk_ BK547) hb); replace BK551 := Aside0.mk (blk_below (g := gb551) (o := .cells #[.int .i64 t557, .int .i64 t558] 23 (0, 0)) (by refine bf_ ?_ NB551_547; refine bf_ ?_ NB551_547; exact bk_ BK551) hb); replace HB := bws_ HB hb; (try clear hb); (try clear hb2); (try clear hk); (try clear hi); have hnb239 := NB551_532.out; have hnc239 := NB532_551.out; obtain ⟨hcz240_0, hcz240_1, hfz240_0, hfz240_1⟩ := bc2_ BK551; obtain ⟨hcz241_0, hcz241_1, hfz241_0, hfz241_1⟩ := bc2_ BK547) | ((with_reducible refine gate_callee (f := 26) rfl ?_); refine gla_ (some 178) Try.func26 #[.agg #[.int .i64 t562, .int .i64 t563], .agg #[.int .i64 t565, .int .i64 t566]] ?_; (with_reducible refine (num_Cmp.calls kj144 t562 t563 t565 t566 t568 t569 _ A182.out).mono ?_); rintro e w242 ⟨rfl, hb⟩; refine ⟨_, rfl, ?_⟩; replace BK530 := Aside0.mk (blk_below (g := gb530) (o := .cells #[.int .i64 a0_0, .int .i64 a0_1] 23 (0, 0)) (by refine bf_ ?_ NB530_551; refine bf_ ?_ NB530_551; exact bk_ BK530) hb); replace BK531 := Aside0.mk (blk_below (g := gb531) (o := .cells #[.int .i64 a1_0, .int .i64 a1_1] 23 (0, 0)) (by refine bf_ ?_ NB531_551; refine bf_ ?_ NB531_551; exact bk_ BK531) hb); replace BK532 := Aside0.mk (blk_below (g := gb532) (o := .cells #[.int .i64 a2_0, .int .i64 a2_1] 23 (0, 0)) (by refine bf_ ?_ NB532_551; refine bf_ ?_ NB532_551; exact bk_ BK532) hb); replace BK547 := Aside0.mk (blk_below (g := gb547) (o := .cells #[.int .i64 t562, .int .i64 t563] 23 (0, 0)) (by refine bf_ ?_ NB547_551; refine bf_ ?_ NB547_551; exact bk_ BK547) hb); replace BK551 := Aside0.mk (blk_below (g := gb551) (o := .cells #[.int .i64 t565, .int .i64 t566] 23 (0, 0)) (by refine bp_ (cs := #[.int .i64 t565, .int .i64 t558]) ?_ 1; refine bp_ (cs := #[.int .i64 t557, .int .i64 t558]) ?_ 0; exact bk_ BK551) hb); replace HB := bws_ HB hb; (try clear hb); (try clear hb2); (try clear hk); (try clear hi)))
                                            go_ret
                                            exact ⟨by first | rfl | (simp [*] <;> rfl), bw_ HB⟩
                                        · rw [if_neg c184] at H
                                          have c184b0 : (t567 == 0) = false := beq_eq_false_iff_ne.mpr c184
                                          have c184b1 : (t567 != 0) = true := bne_iff_ne.mpr c184
                                          obtain rfl := Option.some.inj H
                                          have hnb243 := NB530_531.out
                                          have hnc243 := NB531_530.out
                                          have hnb244 := NB530_532.out
                                          have hnc244 := NB532_530.out
                                          have hnb245 := NB530_547.out
                                          have hnc245 := NB547_530.out
                                          have hnb246 := NB530_551.out
                                          have hnc246 := NB551_530.out
                                          obtain ⟨hcz247_0, hcz247_1, hfz247_0, hfz247_1⟩ := bc2_ BK530
                                          go_wp2_with (first | ((with_reducible refine gate_callee (f := 43) rfl ?_); refine gla_ (some 167) Try.func43 #[.agg #[.int .i64 a0_0, .int .i64 a0_1]] ?_; (with_reducible refine (num_Neg.calls kj144 a0_0 a0_1 t562 t563 t564 _ A180.out).mono ?_); rintro e w248 ⟨rfl, hb⟩; refine ⟨_, rfl, ?_⟩; replace BK530 := bkb_ BK530 hb; replace BK531 := bkb_ BK531 hb; replace BK532 := bkb_ BK532 hb; replace BK547 := bkb_ BK547 hb; replace BK551 := bkb_ BK551 hb; replace HB := bws_ HB hb; (try clear hb); (try clear hb2); (try clear hk); (try clear hi); have hnb249 := NB547_531.out; have hnc249 := NB531_547.out; have hnb250 := NB547_532.out; have hnc250 := NB532_547.out; have hnb251 := NB547_551.out; have hnc251 := NB551_547.out; obtain ⟨hcz252_0, hcz252_1, hfz252_0, hfz252_1⟩ := bc2_ BK547; have hnb253 := NB531_532.out; have hnc253 := NB532_531.out; have hnb254 := NB531_551.out; have hnc254 := NB551_531.out; obtain ⟨hcz255_0, hcz255_1, hfz255_0, hfz255_1⟩ := bc2_ BK531) | ((with_reducible refine gate_callee (f := 43) rfl ?_); refine gla_ (some 172) Try.func43 #[.agg #[.int .i64 a1_0, .int .i64 a1_1]] ?_; (with_reducible refine (num_Neg.calls kj144 a1_0 a1_1 t565 t566 t567 _ A181.out).mono ?_); rintro e w256 ⟨rfl, hb⟩; refine ⟨_, rfl, ?_⟩; replace BK530 := Aside0.mk (blk_below (g := gb530) (o := .cells #[.int .i64 a0_0, .int .i64 a0_1] 23 (0, 0)) (by refine bf_ ?_ NB530_547; refine bf_ ?_ NB530_547; exact bk_ BK530) hb); replace BK531 := Aside0.mk (blk_below (g := gb531) (o := .cells #[.int .i64 a1_0, .int .i64 a1_1] 23 (0, 0)) (by refine bf_ ?_ NB531_547; refine bf_ ?_ NB531_547; exact bk_ BK531) hb); replace BK532 := Aside0.mk (blk_below (g := gb532) (o := .cells #[.int .i64 a2_0, .int .i64 a2_1] 23 (0, 0)) (by refine bf_ ?_ NB532_547; refine bf_ ?_ NB532_547; exact bk_ BK532) hb); replace BK547 := Aside0.mk (blk_below (g := gb547) (o := .cells #[.int .i64 t562, .int .i64 t563] 23 (0, 0)) (by refine bp_ (cs := #[.int .i64 t562, .int .i64 t555]) ?_ 1; refine bp_ (cs := #[.int .i64 t554, .int .i64 t555]) ?_ 0; exact bk_ BK547) hb); replace BK551 := Aside0.mk (blk_below (g := gb551) (o := .cells #[.int .i64 t557, .int .i64 t558] 23 (0, 0)) (by refine bf_ ?_ NB551_547; refine bf_ ?_ NB551_547; exact bk_ BK551) hb); replace HB := bws_ HB hb; (try clear hb); (try clear hb2); (try clear hk); (try clear hi); have hnb257 := NB551_532.out; have hnc257 := NB532_551.out; obtain ⟨hcz258_0, hcz258_1, hfz258_0, hfz258_1⟩ := bc2_ BK551; obtain ⟨hcz259_0, hcz259_1, hfz259_0, hfz259_1⟩ := bc2_ BK547) | ((with_reducible refine gate_callee (f := 26) rfl ?_); refine gla_ (some 178) Try.func26 #[.agg #[.int .i64 t562, .int .i64 t563], .agg #[.int .i64 t565, .int .i64 t566]] ?_; (with_reducible refine (num_Cmp.calls kj144 t562 t563 t565 t566 t568 t569 _ A182.out).mono ?_); rintro e w260 ⟨rfl, hb⟩; refine ⟨_, rfl, ?_⟩; replace BK530 := Aside0.mk (blk_below (g := gb530) (o := .cells #[.int .i64 a0_0, .int .i64 a0_1] 23 (0, 0)) (by refine bf_ ?_ NB530_551; refine bf_ ?_ NB530_551; exact bk_ BK530) hb); replace BK531 := Aside0.mk (blk_below (g := gb531) (o := .cells #[.int .i64 a1_0, .int .i64 a1_1] 23 (0, 0)) (by refine bf_ ?_ NB531_551; refine bf_ ?_ NB531_551; exact bk_ BK531) hb); replace BK532 := Aside0.mk (blk_below (g := gb532) (o := .cells #[.int .i64 a2_0, .int .i64 a2_1] 23 (0, 0)) (by refine bf_ ?_ NB532_551; refine bf_ ?_ NB532_551; exact bk_ BK532) hb); replace BK547 := Aside0.mk (blk_below (g := gb547) (o := .cells #[.int .i64 t562, .int .i64 t563] 23 (0, 0)) (by refine bf_ ?_ NB547_551; refine bf_ ?_ NB547_551; exact bk_ BK547) hb); replace BK551 := Aside0.mk (blk_below (g := gb551) (o := .cells #[.int .i64 t565, .int .i64 t566] 23 (0, 0)) (by refine bp_ (cs := #[.int .i64 t565, .int .i64 t558]) ?_ 1; refine bp_ (cs := #[.int .i64 t557, .int .i64 t558]) ?_ 0; exact bk_ BK551) hb); replace HB := bws_ HB hb; (try clear hb); (try clear hb2); (try clear hk); (try clear hi)))
                                          go_ret
                                          exact ⟨by first | rfl | (simp [*] <;> rfl), bw_ HB⟩
                                      · rw [if_neg c183] at H
                                        have c183b0 : (t564 == 0) = false := beq_eq_false_iff_ne.mpr c183
                                        have c183b1 : (t564 != 0) = true := bne_iff_ne.mpr c183
                                        obtain rfl := Option.some.inj H
                                        have hnb261 := NB530_531.out
                                        have hnc261 := NB531_530.out
                                        have hnb262 := NB530_532.out
                                        have hnc262 := NB532_530.out
                                        have hnb263 := NB530_547.out
                                        have hnc263 := NB547_530.out
                                        have hnb264 := NB530_551.out
                                        have hnc264 := NB551_530.out
                                        obtain ⟨hcz265_0, hcz265_1, hfz265_0, hfz265_1⟩ := bc2_ BK530
                                        go_wp2_with (first | ((with_reducible refine gate_callee (f := 43) rfl ?_); refine gla_ (some 167) Try.func43 #[.agg #[.int .i64 a0_0, .int .i64 a0_1]] ?_; (with_reducible refine (num_Neg.calls kj144 a0_0 a0_1 t562 t563 t564 _ A180.out).mono ?_); rintro e w266 ⟨rfl, hb⟩; refine ⟨_, rfl, ?_⟩; replace BK530 := bkb_ BK530 hb; replace BK531 := bkb_ BK531 hb; replace BK532 := bkb_ BK532 hb; replace BK547 := bkb_ BK547 hb; replace BK551 := bkb_ BK551 hb; replace HB := bws_ HB hb; (try clear hb); (try clear hb2); (try clear hk); (try clear hi); have hnb267 := NB547_531.out; have hnc267 := NB531_547.out; have hnb268 := NB547_532.out; have hnc268 := NB532_547.out; have hnb269 := NB547_551.out; have hnc269 := NB551_547.out; obtain ⟨hcz270_0, hcz270_1, hfz270_0, hfz270_1⟩ := bc2_ BK547; have hnb271 := NB531_532.out; have hnc271 := NB532_531.out; have hnb272 := NB531_551.out; have hnc272 := NB551_531.out; obtain ⟨hcz273_0, hcz273_1, hfz273_0, hfz273_1⟩ := bc2_ BK531) | ((with_reducible refine gate_callee (f := 43) rfl ?_); refine gla_ (some 172) Try.func43 #[.agg #[.int .i64 a1_0, .int .i64 a1_1]] ?_; (with_reducible refine (num_Neg.calls kj144 a1_0 a1_1 t565 t566 t567 _ A181.out).mono ?_); rintro e w274 ⟨rfl, hb⟩; refine ⟨_, rfl, ?_⟩; replace BK530 := Aside0.mk (blk_below (g := gb530) (o := .cells #[.int .i64 a0_0, .int .i64 a0_1] 23 (0, 0)) (by refine bf_ ?_ NB530_547; refine bf_ ?_ NB530_547; exact bk_ BK530) hb); replace BK531 := Aside0.mk (blk_below (g := gb531) (o := .cells #[.int .i64 a1_0, .int .i64 a1_1] 23 (0, 0)) (by refine bf_ ?_ NB531_547; refine bf_ ?_ NB531_547; exact bk_ BK531) hb); replace BK532 := Aside0.mk (blk_below (g := gb532) (o := .cells #[.int .i64 a2_0, .int .i64 a2_1] 23 (0, 0)) (by refine bf_ ?_ NB532_547; refine bf_ ?_ NB532_547; exact bk_ BK532) hb); replace BK547 := Aside0.mk (blk_below (g := gb547) (o := .cells #[.int .i64 t562, .int .i64 t563] 23 (0, 0)) (by refine bp_ (cs := #[.int .i64 t562, .int .i64 t555]) ?_ 1; refine bp_ (cs := #[.int .i64 t554, .int .i64 t555]) ?_ 0; exact bk_ BK547) hb); replace BK551 := Aside0.mk (blk_below (g := gb551) (o := .cells #[.int .i64 t557, .int .i64 t558] 23 (0, 0)) (by refine bf_ ?_ NB551_547; refine bf_ ?_ NB551_547; exact bk_ BK551) hb); replace HB := bws_ HB hb; (try clear hb); (try clear hb2); (try clear hk); (try clear hi); have hnb275 := NB551_532.out; have hnc275 := NB532_551.out; obtain ⟨hcz276_0, hcz276_1, hfz276_0, hfz276_1⟩ := bc2_ BK551; obtain ⟨hcz277_0, hcz277_1, hfz277_0, hfz277_1⟩ := bc2_ BK547) | ((with_reducible refine gate_callee (f := 26) rfl ?_); refine gla_ (some 178) Try.func26 #[.agg #[.int .i64 t562, .int .i64 t563], .agg #[.int .i64 t565, .int .i64 t566]] ?_; (with_reducible refine (num_Cmp.calls kj144 t562 t563 t565 t566 t568 t569 _ A182.out).mono ?_); rintro e w278 ⟨rfl, hb⟩; refine ⟨_, rfl, ?_⟩; replace BK530 := Aside0.mk (blk_below (g := gb530) (o := .cells #[.int .i64 a0_0, .int .i64 a0_1] 23 (0, 0)) (by refine bf_ ?_ NB530_551; refine bf_ ?_ NB530_551; exact bk_ BK530) hb); replace BK531 := Aside0.mk (blk_below (g := gb531) (o := .cells #[.int .i64 a1_0, .int .i64 a1_1] 23 (0, 0)) (by refine bf_ ?_ NB531_551; refine bf_ ?_ NB531_551; exact bk_ BK531) hb); replace BK532 := Aside0.mk (blk_below (g := gb532) (o := .cells #[.int .i64 a2_0, .int .i64 a2_1] 23 (0, 0)) (by refine bf_ ?_ NB532_551; refine bf_ ?_ NB532_551; exact bk_ BK532) hb); replace BK547 := Aside0.mk (blk_below (g := gb547) (o := .cells #[.int .i64 t562, .int .i64 t563] 23 (0, 0)) (by refine bf_ ?_ NB547_551; refine bf_ ?_ NB547_551; exact bk_ BK547) hb); replace BK551 := Aside0.mk (blk_below (g := gb551) (o := .cells #[.int .i64 t565, .int .i64 t566] 23 (0, 0)) (by refine bp_ (cs := #[.int .i64 t565, .int .i64 t558]) ?_ 1; refine bp_ (cs := #[.int .i64 t557, .int .i64 t558]) ?_ 0; exact bk_ BK551) hb); replace HB := bws_ HB hb; (try clear hb); (try clear hb2); (try clear hk); (try clear hi)))
                                        go_ret
                                        exact ⟨by first | rfl | (simp [*] <;> rfl), bw_ HB⟩
  · replace c5 := Bool.eq_false_iff.mpr c5
    subst c5
    have H1 : ((withylaw01_summed.f k).bind fun t534 => (some t534)) = some r := by rw [if_neg (show ¬ (false = true) by decide)] at H; exact H
    clear H
    have H := H1
    clear H1
    replace H := Option.bind_eq_some_iff.mp H
    obtain ⟨t534, A2790, H⟩ := H
    replace H : (some t534) = some r := H
    have A279 := Aside0.mk A2790
    clear A2790
    obtain rfl := Option.some.inj H
    as_aux_lemma =>
      go_enter Try.func8, Try.ntmps8
      go_wp2_with (first | ((with_reducible refine gate_dst (N := 3) rfl ?_); refine box_event ?hg (N := 3) ?hd (cs := #[.int .i64 a0_0, .int .i64 a0_1]) (t := 23) ?hr ?_; (case hd => rfl); (case hg => rfl); (case hr => first | (go_simp; done) | (go_simp; rfl)); intro gb530 hg w280 hbox hb; have BK530 := Aside0.mk hbox; have GW530 := bwg_ HB hg; have GE530 := bwg_ HB hg; replace HB := bws_ HB hb; clear hb hbox hg) | ((with_reducible refine gate_dst (N := 4) rfl ?_); refine box_event ?hg (N := 4) ?hd (cs := #[.int .i64 a1_0, .int .i64 a1_1]) (t := 23) ?hr ?_; (case hd => rfl); (case hg => rfl); (case hr => first | (go_simp; done) | (go_simp; rfl)); intro gb531 hg w281 hbox hb; have BK531 := Aside0.mk hbox; have GW531 := bwg_ HB hg; have GE531 := bwg_ HB hg; replace HB := bws_ HB hb; have NB530_531 := bkl_ BK530 hg; have NB531_530 := bkr_ BK530 hg; replace BK530 := bkb_ BK530 hb; clear hb hbox hg) | ((with_reducible refine gate_dst (N := 5) rfl ?_); refine box_event ?hg (N := 5) ?hd (cs := #[.int .i64 a2_0, .int .i64 a2_1]) (t := 23) ?hr ?_; (case hd => rfl); (case hg => rfl); (case hr => first | (go_simp; done) | (go_simp; rfl)); intro gb532 hg w282 hbox hb; have BK532 := Aside0.mk hbox; have GW532 := bwg_ HB hg; have GE532 := bwg_ HB hg; replace HB := bws_ HB hb; have NB530_532 := bkl_ BK530 hg; have NB532_530 := bkr_ BK530 hg; replace BK530 := bkb_ BK530 hb; have NB531_532 := bkl_ BK531 hg; have NB532_531 := bkr_ BK531 hg; replace BK531 := bkb_ BK531 hb; clear hb hbox hg; have hnb283 := NB530_531.out; have hnc283 := NB531_530.out; have hnb284 := NB530_532.out; have hnc284 := NB532_530.out; obtain ⟨hcz285_0, hcz285_1, hfz285_0, hfz285_1⟩ := bc2_ BK530; have hnb286 := NB531_532.out; have hnc286 := NB532_531.out; obtain ⟨hcz287_0, hcz287_1, hfz287_0, hfz287_1⟩ := bc2_ BK531; obtain ⟨hcz288_0, hcz288_1, hfz288_0, hfz288_1⟩ := bc2_ BK532) | ((with_reducible refine gate_callee (f := 16) rfl ?_); refine gla_ (some 28) Try.func16 #[.agg #[.int .i64 a0_0, .int .i64 a0_1], .agg #[.int .i64 a1_0, .int .i64 a1_1], .agg #[.int .i64 a2_0, .int .i64 a2_1]] ?_; (with_reducible refine (withylaw01_fit.calls k a0_0 a0_1 a1_0 a1_1 a2_0 a2_1 false _ A4.out).mono ?_); rintro e w289 ⟨rfl, hb⟩; refine ⟨_, rfl, ?_⟩; replace BK530 := bkb_ BK530 hb; replace BK531 := bkb_ BK531 hb; replace BK532 := bkb_ BK532 hb; replace HB := bws_ HB hb; (try clear hb); (try clear hb2); (try clear hk); (try clear hi)) | ((with_reducible refine gate_callee (f := 17) rfl ?_); refine gla_ (some 30) Try.func17 #[] ?_; (with_reducible refine (withylaw01_summed.calls k  t534 _ A279.out).mono ?_); rintro e w290 ⟨rfl, hb⟩; refine ⟨_, rfl, ?_⟩; replace BK530 := bkb_ BK530 hb; replace BK531 := bkb_ BK531 hb; replace BK532 := bkb_ BK532 hb; replace HB := bws_ HB hb; (try clear hb); (try clear hb2); (try clear hk); (try clear hi)))
      go_ret
      exact ⟨by first | rfl | (simp [*] <;> rfl), bw_ HB⟩
end Go.Proofs.Ytakcdoahpbeckaa.H
