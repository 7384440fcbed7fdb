/- NumBasics: the printed functions it reaches, with their walks. Laid by wip/claimpack.py out of what wip/hprint.py printed. -/
import Derived.Test.YtakcdoahpbeckaaKNumBasics3
namespace Go.Proofs.Ytakcdoahpbeckaa.H
open Go.RowKit Go.Proofs.YtakcdoahpbeckaaW.PrintWords Go.Proofs.YtakcdoahpbeckaaW.PrintLast Go.Proofs.YtakcdoahpbeckaaW.PrintMore
attribute [local go_sem] max2_int min2_int max_two min_two max_three min_three max_four min_four   -- for this text's walks alone
set_option linter.unusedVariables false
set_option linter.unusedSimpArgs false

attribute [local go_sem high] eqA23
/-! ### withylaw01_summed: function 17 -/
def withylaw01_summed.f (k : Nat)  : Option (Bool) := (num_Add.f k 1 2 1 3).bind fun bt240 => ((num_Simplest.f k 1 3 1 2).bind fun bt244 => ((num_Decimal.f k (-1) 8 2).bind fun bt248 => ((num_Parse.f k (⟨#[49, 46, 50, 53]⟩ : ByteArray)).bind fun bt250 => (if bt240.2.2 = 0 then (if bt244.2.2 = 0 then (if bt248.2 = 0 then (if bt250.2.2 = 0 then (if (bt240.1 == 5 && (bt240.2.1 == 6)) = true then (if (bt244.1 == 2 && (bt244.2.1 == 5)) = true then (if bt248.1.toList = ([45, 48, 46, 49, 50] : List UInt8) then (some (bt250.1 == 5 && (bt250.2.1 == 4))) else (some false)) else (some false)) else (some false)) else (some false)) else (some false)) else (some false)) else (some false)))))
theorem withylaw01_summed.mono : ∀ k, LeO (withylaw01_summed.f k ) (withylaw01_summed.f (k + 1) ) := by
  intro  k
  unfold withylaw01_summed.f
  repeat' first
      | (with_reducible exact num_Add.mono _ _ _ _ _)
      | (with_reducible exact num_Decimal.mono _ _ _ _)
      | (with_reducible exact num_Parse.mono _ _)
      | (with_reducible exact num_Simplest.mono _ _ _ _ _)
      | (with_reducible exact LeO.refl _)
      | (with_reducible exact LeO.none _)
      | (with_reducible refine LeO.ite ?_ ?_)
      | (with_reducible refine LeO.bind ?_ (fun _ => ?_))
      | (with_reducible refine LeO.exc (fun _ => ?_) (fun _ => ?_))
      | exact num_Add.mono _ _ _ _ _
      | exact num_Decimal.mono _ _ _ _
      | exact num_Parse.mono _ _
      | exact num_Simplest.mono _ _ _ _ _
      | exact LeO.none _
      | refine LeO.ite ?_ ?_
      | refine LeO.bind ?_ (fun _ => ?_)
set_option maxHeartbeats 8000000 in
set_option maxRecDepth 100000 in
theorem withylaw01_summed.calls (k : Nat)  (r : Bool) (w : World) (h : withylaw01_summed.f k  = some r) :
    Calls Try.prog 17 #[] w fun e w' => e = .returned (.bool r) ∧ Below w.heap.size w w' := by
  have hu23 := Try.underlying23
  have HB := Aside0.mk (Below.refl w.heap.size w)
  have H : ((num_Add.f k 1 2 1 3).bind fun bt240 => ((num_Simplest.f k 1 3 1 2).bind fun bt244 => ((num_Decimal.f k (-1) 8 2).bind fun bt248 => ((num_Parse.f k (⟨#[49, 46, 50, 53]⟩ : ByteArray)).bind fun bt250 => (if bt240.2.2 = 0 then (if bt244.2.2 = 0 then (if bt248.2 = 0 then (if bt250.2.2 = 0 then (if (bt240.1 == 5 && (bt240.2.1 == 6)) = true then (if (bt244.1 == 2 && (bt244.2.1 == 5)) = true then (if bt248.1.toList = ([45, 48, 46, 49, 50] : List UInt8) then (some (bt250.1 == 5 && (bt250.2.1 == 4))) else (some false)) else (some false)) else (some false)) else (some false)) else (some false)) else (some false)) else (some false)))))) = some r := h
  clear h
  replace H := Option.bind_eq_some_iff.mp H
  obtain ⟨⟨t240, t241, t242⟩, A10, H⟩ := H
  replace H : ((num_Simplest.f k 1 3 1 2).bind fun bt244 => ((num_Decimal.f k (-1) 8 2).bind fun bt248 => ((num_Parse.f k (⟨#[49, 46, 50, 53]⟩ : ByteArray)).bind fun bt250 => (if t242 = 0 then (if bt244.2.2 = 0 then (if bt248.2 = 0 then (if bt250.2.2 = 0 then (if (t240 == 5 && (t241 == 6)) = true then (if (bt244.1 == 2 && (bt244.2.1 == 5)) = true then (if bt248.1.toList = ([45, 48, 46, 49, 50] : List UInt8) then (some (bt250.1 == 5 && (bt250.2.1 == 4))) else (some false)) else (some false)) else (some false)) else (some false)) else (some false)) else (some false)) else (some false))))) = some r := H
  have A1 := Aside0.mk A10
  clear A10
  replace H := Option.bind_eq_some_iff.mp H
  obtain ⟨⟨t244, t245, t246⟩, A20, H⟩ := H
  replace H : ((num_Decimal.f k (-1) 8 2).bind fun bt248 => ((num_Parse.f k (⟨#[49, 46, 50, 53]⟩ : ByteArray)).bind fun bt250 => (if t242 = 0 then (if t246 = 0 then (if bt248.2 = 0 then (if bt250.2.2 = 0 then (if (t240 == 5 && (t241 == 6)) = true then (if (t244 == 2 && (t245 == 5)) = true then (if bt248.1.toList = ([45, 48, 46, 49, 50] : List UInt8) then (some (bt250.1 == 5 && (bt250.2.1 == 4))) else (some false)) else (some false)) else (some false)) else (some false)) else (some false)) else (some false)) else (some false)))) = some r := H
  have A2 := Aside0.mk A20
  clear A20
  replace H := Option.bind_eq_some_iff.mp H
  obtain ⟨⟨t248, t249⟩, A30, H⟩ := H
  replace H : ((num_Parse.f k (⟨#[49, 46, 50, 53]⟩ : ByteArray)).bind fun bt250 => (if t242 = 0 then (if t246 = 0 then (if t249 = 0 then (if bt250.2.2 = 0 then (if (t240 == 5 && (t241 == 6)) = true then (if (t244 == 2 && (t245 == 5)) = true then (if t248.toList = ([45, 48, 46, 49, 50] : List UInt8) then (some (bt250.1 == 5 && (bt250.2.1 == 4))) else (some false)) else (some false)) else (some false)) else (some false)) else (some false)) else (some false)) else (some false))) = some r := H
  have A3 := Aside0.mk A30
  clear A30
  replace H := Option.bind_eq_some_iff.mp H
  obtain ⟨⟨t250, t251, t252⟩, A40, H⟩ := H
  replace H : (if t242 = 0 then (if t246 = 0 then (if t249 = 0 then (if t252 = 0 then (if (t240 == 5 && (t241 == 6)) = true then (if (t244 == 2 && (t245 == 5)) = true then (if t248.toList = ([45, 48, 46, 49, 50] : List UInt8) then (some (t250 == 5 && (t251 == 4))) else (some false)) else (some false)) else (some false)) else (some false)) else (some false)) else (some false)) else (some false)) = some r := H
  have A4 := Aside0.mk A40
  clear A40
  by_cases c5 : t242 = 0
  · rw [if_pos c5] at H
    have c5b0 : (t242 == 0) = true := beq_iff_eq.mpr c5
    have c5b1 : (t242 != 0) = false := bne_eq_false_iff_eq.mpr c5
    clear c5
    by_cases c6 : t246 = 0
    · rw [if_pos c6] at H
      have c6b0 : (t246 == 0) = true := beq_iff_eq.mpr c6
      have c6b1 : (t246 != 0) = false := bne_eq_false_iff_eq.mpr c6
      clear c6
      by_cases c7 : t249 = 0
      · rw [if_pos c7] at H
        have c7b0 : (t249 == 0) = true := beq_iff_eq.mpr c7
        have c7b1 : (t249 != 0) = false := bne_eq_false_iff_eq.mpr c7
        clear c7
        by_cases c8 : t252 = 0
        · rw [if_pos c8] at H
          have c8b0 : (t252 == 0) = true := beq_iff_eq.mpr c8
          have c8b1 : (t252 != 0) = false := bne_eq_false_iff_eq.mpr c8
          clear c8
          by_cases c9 : (t240 == 5 && (t241 == 6)) = true
          · rw [if_pos c9] at H
            have c9b0 : (t240 == 5 && (t241 == 6)) = true := c9
            (try (have c9b1 : decide (t240 = 5 && (t241 == 6)) = true := by simpa using c9))
            (try (have c9b2 : (t240 == 5 && (t241 == 6)) = true := by simpa using c9))
            clear c9
            by_cases c10 : (t244 == 2 && (t245 == 5)) = true
            · rw [if_pos c10] at H
              have c10b0 : (t244 == 2 && (t245 == 5)) = true := c10
              (try (have c10b1 : decide (t244 = 2 && (t245 == 5)) = true := by simpa using c10))
              (try (have c10b2 : (t244 == 2 && (t245 == 5)) = true := by simpa using c10))
              clear c10
              by_cases c11 : t248.toList = ([45, 48, 46, 49, 50] : List UInt8)
              · rw [if_pos c11] at H
                have c11b0 : (t248.toList == ([45, 48, 46, 49, 50] : List UInt8)) = true := beq_iff_eq.mpr c11
                have c11b1 : (t248.toList != ([45, 48, 46, 49, 50] : List UInt8)) = false := bne_eq_false_iff_eq.mpr c11
                clear c11
                obtain rfl := Option.some.inj H
                go_enter Try.func17, Try.ntmps17
                go_wp2_with (first | ((with_reducible refine gate_callee (f := 18) rfl ?_); refine gla_ (some 12) Try.func18 #[.agg #[.int .i64 1, .int .i64 2], .agg #[.int .i64 1, .int .i64 3]] ?_; (with_reducible refine (num_Add.calls k 1 2 1 3 t240 t241 t242 _ A1.out).mono ?_); rintro e w12 ⟨rfl, hb⟩; refine ⟨_, rfl, ?_⟩; replace HB := bws_ HB hb; (try clear hb); (try clear hb2); (try clear hk); (try clear hi)) | ((with_reducible refine gate_dst (N := 1) rfl ?_); refine box_event ?hg (N := 1) ?hd (cs := #[.int .i64 0, .int .i64 0]) (t := 23) ?hr ?_; (case hd => rfl); (case hg => rfl); (case hr => first | (go_simp; done) | (go_simp; rfl)); intro gb243 hg w13 hbox hb; have BK243 := Aside0.mk hbox; have GW243 := bwg_ HB hg; have GE243 := bwg_ HB hg; replace HB := bws_ HB hb; clear hb hbox hg; obtain ⟨hcz14_0, hcz14_1, hfz14_0, hfz14_1⟩ := bc2_ BK243) | ((with_reducible refine gate_callee (f := 25) rfl ?_); refine gla_ (some 18) Try.func25 #[.agg #[.int .i64 1, .int .i64 3], .agg #[.int .i64 1, .int .i64 2]] ?_; (with_reducible refine (num_Simplest.calls k 1 3 1 2 t244 t245 t246 _ A2.out).mono ?_); rintro e w15 ⟨rfl, hb⟩; refine ⟨_, rfl, ?_⟩; replace BK243 := Aside0.mk (blk_below (g := gb243) (o := .cells #[.int .i64 t240, .int .i64 t241] 23 (0, 0)) (by refine bp_ (cs := #[.int .i64 t240, .int .i64 0]) ?_ 1; refine bp_ (cs := #[.int .i64 0, .int .i64 0]) ?_ 0; exact bk_ BK243) hb); replace HB := bws_ HB hb; (try clear hb); (try clear hb2); (try clear hk); (try clear hi)) | ((with_reducible refine gate_dst (N := 3) rfl ?_); refine box_event ?hg (N := 3) ?hd (cs := #[.int .i64 0, .int .i64 0]) (t := 23) ?hr ?_; (case hd => rfl); (case hg => rfl); (case hr => first | (go_simp; done) | (go_simp; rfl)); intro gb247 hg w16 hbox hb; have BK247 := Aside0.mk hbox; have GW247 := bwg_ HB hg; have GE247 := bwg_ HB hg; replace HB := bws_ HB hb; have NB243_247 := bkl_ BK243 hg; have NB247_243 := bkr_ BK243 hg; replace BK243 := bkb_ BK243 hb; clear hb hbox hg; have hnb17 := NB247_243.out; have hnc17 := NB243_247.out; obtain ⟨hcz18_0, hcz18_1, hfz18_0, hfz18_1⟩ := bc2_ BK247) | ((with_reducible refine gate_callee (f := 35) rfl ?_); refine gla_ (some 23) Try.func35 #[.agg #[.int .i64 (-1), .int .i64 8], .int .i64 2] ?_; (with_reducible refine (num_Decimal.calls k (-1) 8 2 t248 t249 _ A3.out).mono ?_); rintro e w19 ⟨rfl, hb⟩; refine ⟨_, rfl, ?_⟩; replace BK243 := Aside0.mk (blk_below (g := gb243) (o := .cells #[.int .i64 t240, .int .i64 t241] 23 (0, 0)) (by refine bf_ ?_ NB243_247; refine bf_ ?_ NB243_247; exact bk_ BK243) hb); replace BK247 := Aside0.mk (blk_below (g := gb247) (o := .cells #[.int .i64 t244, .int .i64 t245] 23 (0, 0)) (by refine bp_ (cs := #[.int .i64 t244, .int .i64 0]) ?_ 1; refine bp_ (cs := #[.int .i64 0, .int .i64 0]) ?_ 0; exact bk_ BK247) hb); replace HB := bws_ HB hb; (try clear hb); (try clear hb2); (try clear hk); (try clear hi)) | ((with_reducible refine gate_callee (f := 39) rfl ?_); refine gla_ (some 27) Try.func39 #[.string (⟨#[49, 46, 50, 53]⟩ : ByteArray)] ?_; (with_reducible refine (num_Parse.calls k (⟨#[49, 46, 50, 53]⟩ : ByteArray) t250 t251 t252 _ A4.out).mono ?_); rintro e w20 ⟨rfl, hb⟩; refine ⟨_, rfl, ?_⟩; replace BK243 := bkb_ BK243 hb; replace BK247 := bkb_ BK247 hb; replace HB := bws_ HB hb; (try clear hb); (try clear hb2); (try clear hk); (try clear hi)) | ((with_reducible refine gate_dst (N := 7) rfl ?_); refine box_event ?hg (N := 7) ?hd (cs := #[.int .i64 0, .int .i64 0]) (t := 23) ?hr ?_; (case hd => rfl); (case hg => rfl); (case hr => first | (go_simp; done) | (go_simp; rfl)); intro gb253 hg w21 hbox hb; have BK253 := Aside0.mk hbox; have GW253 := bwg_ HB hg; have GE253 := bwg_ HB hg; replace HB := bws_ HB hb; have NB243_253 := bkl_ BK243 hg; have NB253_243 := bkr_ BK243 hg; replace BK243 := bkb_ BK243 hb; have NB247_253 := bkl_ BK247 hg; have NB253_247 := bkr_ BK247 hg; replace BK247 := bkb_ BK247 hb; clear hb hbox hg; have hnb22 := NB253_243.out; have hnc22 := NB243_253.out; have hnb23 := NB253_247.out; have hnc23 := NB247_253.out; obtain ⟨hcz24_0, hcz24_1, hfz24_0, hfz24_1⟩ := bc2_ BK253; obtain ⟨hcz25_0, hcz25_1, hfz25_0, hfz25_1⟩ := bc2_ BK243; obtain ⟨hcz26_0, hcz26_1, hfz26_0, hfz26_1⟩ := bc2_ BK247))
                go_ret
                exact ⟨by first | rfl | (simp [*] <;> rfl), bw_ HB⟩
              · rw [if_neg c11] at H
                have c11b0 : (t248.toList == ([45, 48, 46, 49, 50] : List UInt8)) = false := beq_eq_false_iff_ne.mpr c11
                have c11b1 : (t248.toList != ([45, 48, 46, 49, 50] : List UInt8)) = true := bne_iff_ne.mpr c11
                obtain rfl := Option.some.inj H
                go_enter Try.func17, Try.ntmps17
                go_wp2_with (first | ((with_reducible refine gate_callee (f := 18) rfl ?_); refine gla_ (some 12) Try.func18 #[.agg #[.int .i64 1, .int .i64 2], .agg #[.int .i64 1, .int .i64 3]] ?_; (with_reducible refine (num_Add.calls k 1 2 1 3 t240 t241 t242 _ A1.out).mono ?_); rintro e w27 ⟨rfl, hb⟩; refine ⟨_, rfl, ?_⟩; replace HB := bws_ HB hb; (try clear hb); (try clear hb2); (try clear hk); (try clear hi)) | ((with_reducible refine gate_dst (N := 1) rfl ?_); refine box_event ?hg (N := 1) ?hd (cs := #[.int .i64 0, .int .i64 0]) (t := 23) ?hr ?_; (case hd => rfl); (case hg => rfl); (case hr => first | (go_simp; done) | (go_simp; rfl)); intro gb243 hg w28 hbox hb; have BK243 := Aside0.mk hbox; have GW243 := bwg_ HB hg; have GE243 := bwg_ HB hg; replace HB := bws_ HB hb; clear hb hbox hg; obtain ⟨hcz29_0, hcz29_1, hfz29_0, hfz29_1⟩ := bc2_ BK243) | ((with_reducible refine gate_callee (f := 25) rfl ?_); refine gla_ (some 18) Try.func25 #[.agg #[.int .i64 1, .int .i64 3], .agg #[.int .i64 1, .int .i64 2]] ?_; (with_reducible refine (num_Simplest.calls k 1 3 1 2 t244 t245 t246 _ A2.out).mono ?_); rintro e w30 ⟨rfl, hb⟩; refine ⟨_, rfl, ?_⟩; replace BK243 := Aside0.mk (blk_below (g := gb243) (o := .cells #[.int .i64 t240, .int .i64 t241] 23 (0, 0)) (by refine bp_ (cs := #[.int .i64 t240, .int .i64 0]) ?_ 1; refine bp_ (cs := #[.int .i64 0, .int .i64 0]) ?_ 0; exact bk_ BK243) hb); replace HB := bws_ HB hb; (try clear hb); (try clear hb2); (try clear hk); (try clear hi)) | ((with_reducible refine gate_dst (N := 3) rfl ?_); refine box_event ?hg (N := 3) ?hd (cs := #[.int .i64 0, .int .i64 0]) (t := 23) ?hr ?_; (case hd => rfl); (case hg => rfl); (case hr => first | (go_simp; done) | (go_simp; rfl)); intro gb247 hg w31 hbox hb; have BK247 := Aside0.mk hbox; have GW247 := bwg_ HB hg; have GE247 := bwg_ HB hg; replace HB := bws_ HB hb; have NB243_247 := bkl_ BK243 hg; have NB247_243 := bkr_ BK243 hg; replace BK243 := bkb_ BK243 hb; clear hb hbox hg; have hnb32 := NB247_243.out; have hnc32 := NB243_247.out; obtain ⟨hcz33_0, hcz33_1, hfz33_0, hfz33_1⟩ := bc2_ BK247) | ((with_reducible refine gate_callee (f := 35) rfl ?_); refine gla_ (some 23) Try.func35 #[.agg #[.int .i64 (-1), .int .i64 8], .int .i64 2] ?_; (with_reducible refine (num_Decimal.calls k (-1) 8 2 t248 t249 _ A3.out).mono ?_); rintro e w34 ⟨rfl, hb⟩; refine ⟨_, rfl, ?_⟩; replace BK243 := Aside0.mk (blk_below (g := gb243) (o := .cells #[.int .i64 t240, .int .i64 t241] 23 (0, 0)) (by refine bf_ ?_ NB243_247; refine bf_ ?_ NB243_247; exact bk_ BK243) hb); replace BK247 := Aside0.mk (blk_below (g := gb247) (o := .cells #[.int .i64 t244, .int .i64 t245] 23 (0, 0)) (by refine bp_ (cs := #[.int .i64 t244, .int .i64 0]) ?_ 1; refine bp_ (cs := #[.int .i64 0, .int .i64 0]) ?_ 0; exact bk_ BK247) hb); replace HB := bws_ HB hb; (try clear hb); (try clear hb2); (try clear hk); (try clear hi)) | ((with_reducible refine gate_callee (f := 39) rfl ?_); refine gla_ (some 27) Try.func39 #[.string (⟨#[49, 46, 50, 53]⟩ : ByteArray)] ?_; (with_reducible refine (num_Parse.calls k (⟨#[49, 46, 50, 53]⟩ : ByteArray) t250 t251 t252 _ A4.out).mono ?_); rintro e w35 ⟨rfl, hb⟩; refine ⟨_, rfl, ?_⟩; replace BK243 := bkb_ BK243 hb; replace BK247 := bkb_ BK247 hb; replace HB := bws_ HB hb; (try clear hb); (try clear hb2); (try clear hk); (try clear hi)) | ((with_reducible refine gate_dst (N := 7) rfl ?_); refine box_event ?hg (N := 7) ?hd (cs := #[.int .i64 0, .int .i64 0]) (t := 23) ?hr ?_; (case hd => rfl); (case hg => rfl); (case hr => first | (go_simp; done) | (go_simp; rfl)); intro gb253 hg w36 hbox hb; have BK253 := Aside0.mk hbox; have GW253 := bwg_ HB hg; have GE253 := bwg_ HB hg; replace HB := bws_ HB hb; have NB243_253 := bkl_ BK243 hg; have NB253_243 := bkr_ BK243 hg; replace BK243 := bkb_ BK243 hb; have NB247_253 := bkl_ BK247 hg; have NB253_247 := bkr_ BK247 hg; replace BK247 := bkb_ BK247 hb; clear hb hbox hg; have hnb37 := NB253_243.out; have hnc37 := NB243_253.out; have hnb38 := NB253_247.out; have hnc38 := NB247_253.out; obtain ⟨hcz39_0, hcz39_1, hfz39_0, hfz39_1⟩ := bc2_ BK253; obtain ⟨hcz40_0, hcz40_1, hfz40_0, hfz40_1⟩ := bc2_ BK243; obtain ⟨hcz41_0, hcz41_1, hfz41_0, hfz41_1⟩ := bc2_ BK247))
                go_ret
                exact ⟨by first | rfl | (simp [*] <;> rfl), bw_ HB⟩
            · rw [if_neg c10] at H
              have c10b0 : (t244 == 2 && (t245 == 5)) = false := by simpa using c10
              (try (have c10b1 : decide (t244 = 2 && (t245 == 5)) = false := by simpa using c10))
              (try (have c10b2 : (t244 == 2 && (t245 == 5)) = false := by simpa using c10))
              (try (have c10b3 : ¬ (t244 = 2 && (t245 == 5)) := by simpa using c10))
              clear c10
              obtain rfl := Option.some.inj H
              go_enter Try.func17, Try.ntmps17
              go_wp2_with (first | ((with_reducible refine gate_callee (f := 18) rfl ?_); refine gla_ (some 12) Try.func18 #[.agg #[.int .i64 1, .int .i64 2], .agg #[.int .i64 1, .int .i64 3]] ?_; (with_reducible refine (num_Add.calls k 1 2 1 3 t240 t241 t242 _ A1.out).mono ?_); rintro e w42 ⟨rfl, hb⟩; refine ⟨_, rfl, ?_⟩; replace HB := bws_ HB hb; (try clear hb); (try clear hb2); (try clear hk); (try clear hi)) | ((with_reducible refine gate_dst (N := 1) rfl ?_); refine box_event ?hg (N := 1) ?hd (cs := #[.int .i64 0, .int .i64 0]) (t := 23) ?hr ?_; (case hd => rfl); (case hg => rfl); (case hr => first | (go_simp; done) | (go_simp; rfl)); intro gb243 hg w43 hbox hb; have BK243 := Aside0.mk hbox; have GW243 := bwg_ HB hg; have GE243 := bwg_ HB hg; replace HB := bws_ HB hb; clear hb hbox hg; obtain ⟨hcz44_0, hcz44_1, hfz44_0, hfz44_1⟩ := bc2_ BK243) | ((with_reducible refine gate_callee (f := 25) rfl ?_); refine gla_ (some 18) Try.func25 #[.agg #[.int .i64 1, .int .i64 3], .agg #[.int .i64 1, .int .i64 2]] ?_; (with_reducible refine (num_Simplest.calls k 1 3 1 2 t244 t245 t246 _ A2.out).mono ?_); rintro e w45 ⟨rfl, hb⟩; refine ⟨_, rfl, ?_⟩; replace BK243 := Aside0.mk (blk_below (g := gb243) (o := .cells #[.int .i64 t240, .int .i64 t241] 23 (0, 0)) (by refine bp_ (cs := #[.int .i64 t240, .int .i64 0]) ?_ 1; refine bp_ (cs := #[.int .i64 0, .int .i64 0]) ?_ 0; exact bk_ BK243) hb); replace HB := bws_ HB hb; (try clear hb); (try clear hb2); (try clear hk); (try clear hi)) | ((with_reducible refine gate_dst (N := 3) rfl ?_); refine box_event ?hg (N := 3) ?hd (cs := #[.int .i64 0, .int .i64 0]) (t := 23) ?hr ?_; (case hd => rfl); (case hg => rfl); (case hr => first | (go_simp; done) | (go_simp; rfl)); intro gb247 hg w46 hbox hb; have BK247 := Aside0.mk hbox; have GW247 := bwg_ HB hg; have GE247 := bwg_ HB hg; replace HB := bws_ HB hb; have NB243_247 := bkl_ BK243 hg; have NB247_243 := bkr_ BK243 hg; replace BK243 := bkb_ BK243 hb; clear hb hbox hg; have hnb47 := NB247_243.out; have hnc47 := NB243_247.out; obtain ⟨hcz48_0, hcz48_1, hfz48_0, hfz48_1⟩ := bc2_ BK247) | ((with_reducible refine gate_callee (f := 35) rfl ?_); refine gla_ (some 23) Try.func35 #[.agg #[.int .i64 (-1), .int .i64 8], .int .i64 2] ?_; (with_reducible refine (num_Decimal.calls k (-1) 8 2 t248 t249 _ A3.out).mono ?_); rintro e w49 ⟨rfl, hb⟩; refine ⟨_, rfl, ?_⟩; replace BK243 := Aside0.mk (blk_below (g := gb243) (o := .cells #[.int .i64 t240, .int .i64 t241] 23 (0, 0)) (by refine bf_ ?_ NB243_247; refine bf_ ?_ NB243_247; exact bk_ BK243) hb); replace BK247 := Aside0.mk (blk_below (g := gb247) (o := .cells #[.int .i64 t244, .int .i64 t245] 23 (0, 0)) (by refine bp_ (cs := #[.int .i64 t244, .int .i64 0]) ?_ 1; refine bp_ (cs := #[.int .i64 0, .int .i64 0]) ?_ 0; exact bk_ BK247) hb); replace HB := bws_ HB hb; (try clear hb); (try clear hb2); (try clear hk); (try clear hi)) | ((with_reducible refine gate_callee (f := 39) rfl ?_); refine gla_ (some 27) Try.func39 #[.string (⟨#[49, 46, 50, 53]⟩ : ByteArray)] ?_; (with_reducible refine (num_Parse.calls k (⟨#[49, 46, 50, 53]⟩ : ByteArray) t250 t251 t252 _ A4.out).mono ?_); rintro e w50 ⟨rfl, hb⟩; refine ⟨_, rfl, ?_⟩; replace BK243 := bkb_ BK243 hb; replace BK247 := bkb_ BK247 hb; replace HB := bws_ HB hb; (try clear hb); (try clear hb2); (try clear hk); (try clear hi)) | ((with_reducible refine gate_dst (N := 7) rfl ?_); refine box_event ?hg (N := 7) ?hd (cs := #[.int .i64 0, .int .i64 0]) (t := 23) ?hr ?_; (case hd => rfl); (case hg => rfl); (case hr => first | (go_simp; done) | (go_simp; rfl)); intro gb253 hg w51 hbox hb; have BK253 := Aside0.mk hbox; have GW253 := bwg_ HB hg; have GE253 := bwg_ HB hg; replace HB := bws_ HB hb; have NB243_253 := bkl_ BK243 hg; have NB253_243 := bkr_ BK243 hg; replace BK243 := bkb_ BK243 hb; have NB247_253 := bkl_ BK247 hg; have NB253_247 := bkr_ BK247 hg; replace BK247 := bkb_ BK247 hb; clear hb hbox hg; have hnb52 := NB253_243.out; have hnc52 := NB243_253.out; have hnb53 := NB253_247.out; have hnc53 := NB247_253.out; obtain ⟨hcz54_0, hcz54_1, hfz54_0, hfz54_1⟩ := bc2_ BK253; obtain ⟨hcz55_0, hcz55_1, hfz55_0, hfz55_1⟩ := bc2_ BK243; obtain ⟨hcz56_0, hcz56_1, hfz56_0, hfz56_1⟩ := bc2_ BK247))
              go_ret
              exact ⟨by first | rfl | (simp [*] <;> rfl), bw_ HB⟩
          · rw [if_neg c9] at H
            have c9b0 : (t240 == 5 && (t241 == 6)) = false := by simpa using c9
            (try (have c9b1 : decide (t240 = 5 && (t241 == 6)) = false := by simpa using c9))
            (try (have c9b2 : (t240 == 5 && (t241 == 6)) = false := by simpa using c9))
            (try (have c9b3 : ¬ (t240 = 5 && (t241 == 6)) := by simpa using c9))
            clear c9
            obtain rfl := Option.some.inj H
            go_enter Try.func17, Try.ntmps17
            go_wp2_with (first | ((with_reducible refine gate_callee (f := 18) rfl ?_); refine gla_ (some 12) Try.func18 #[.agg #[.int .i64 1, .int .i64 2], .agg #[.int .i64 1, .int .i64 3]] ?_; (with_reducible refine (num_Add.calls k 1 2 1 3 t240 t241 t242 _ A1.out).mono ?_); rintro e w57 ⟨rfl, hb⟩; refine ⟨_, rfl, ?_⟩; replace HB := bws_ HB hb; (try clear hb); (try clear hb2); (try clear hk); (try clear hi)) | ((with_reducible refine gate_dst (N := 1) rfl ?_); refine box_event ?hg (N := 1) ?hd (cs := #[.int .i64 0, .int .i64 0]) (t := 23) ?hr ?_; (case hd => rfl); (case hg => rfl); (case hr => first | (go_simp; done) | (go_simp; rfl)); intro gb243 hg w58 hbox hb; have BK243 := Aside0.mk hbox; have GW243 := bwg_ HB hg; have GE243 := bwg_ HB hg; replace HB := bws_ HB hb; clear hb hbox hg; obtain ⟨hcz59_0, hcz59_1, hfz59_0, hfz59_1⟩ := bc2_ BK243) | ((with_reducible refine gate_callee (f := 25) rfl ?_); refine gla_ (some 18) Try.func25 #[.agg #[.int .i64 1, .int .i64 3], .agg #[.int .i64 1, .int .i64 2]] ?_; (with_reducible refine (num_Simplest.calls k 1 3 1 2 t244 t245 t246 _ A2.out).mono ?_); rintro e w60 ⟨rfl, hb⟩; refine ⟨_, rfl, ?_⟩; replace BK243 := Aside0.mk (blk_below (g := gb243) (o := .cells #[.int .i64 t240, .int .i64 t241] 23 (0, 0)) (by refine bp_ (cs := #[.int .i64 t240, .int .i64 0]) ?_ 1; refine bp_ (cs := #[.int .i64 0, .int .i64 0]) ?_ 0; exact bk_ BK243) hb); replace HB := bws_ HB hb; (try clear hb); (try clear hb2); (try clear hk); (try clear hi)) | ((with_reducible refine gate_dst (N := 3) rfl ?_); refine box_event ?hg (N := 3) ?hd (cs := #[.int .i64 0, .int .i64 0]) (t := 23) ?hr ?_; (case hd => rfl); (case hg => rfl); (case hr => first | (go_simp; done) | (go_simp; rfl)); intro gb247 hg w61 hbox hb; have BK247 := Aside0.mk hbox; have GW247 := bwg_ HB hg; have GE247 := bwg_ HB hg; replace HB := bws_ HB hb; have NB243_247 := bkl_ BK243 hg; have NB247_243 := bkr_ BK243 hg; replace BK243 := bkb_ BK243 hb; clear hb hbox hg; have hnb62 := NB247_243.out; have hnc62 := NB243_247.out; obtain ⟨hcz63_0, hcz63_1, hfz63_0, hfz63_1⟩ := bc2_ BK247) | ((with_reducible refine gate_callee (f := 35) rfl ?_); refine gla_ (some 23) Try.func35 #[.agg #[.int .i64 (-1), .int .i64 8], .int .i64 2] ?_; (with_reducible refine (num_Decimal.calls k (-1) 8 2 t248 t249 _ A3.out).mono ?_); rintro e w64 ⟨rfl, hb⟩; refine ⟨_, rfl, ?_⟩; replace BK243 := Aside0.mk (blk_below (g := gb243) (o := .cells #[.int .i64 t240, .int .i64 t241] 23 (0, 0)) (by refine bf_ ?_ NB243_247; refine bf_ ?_ NB243_247; exact bk_ BK243) hb); replace BK247 := Aside0.mk (blk_below (g := gb247) (o := .cells #[.int .i64 t244, .int .i64 t245] 23 (0, 0)) (by refine bp_ (cs := #[.int .i64 t244, .int .i64 0]) ?_ 1; refine bp_ (cs := #[.int .i64 0, .int .i64 0]) ?_ 0; exact bk_ BK247) hb); replace HB := bws_ HB hb; (try clear hb); (try clear hb2); (try clear hk); (try clear hi)) | ((with_reducible refine gate_callee (f := 39) rfl ?_); refine gla_ (some 27) Try.func39 #[.string (⟨#[49, 46, 50, 53]⟩ : ByteArray)] ?_; (with_reducible refine (num_Parse.calls k (⟨#[49, 46, 50, 53]⟩ : ByteArray) t250 t251 t252 _ A4.out).mono ?_); rintro e w65 ⟨rfl, hb⟩; refine ⟨_, rfl, ?_⟩; replace BK243 := bkb_ BK243 hb; replace BK247 := bkb_ BK247 hb; replace HB := bws_ HB hb; (try clear hb); (try clear hb2); (try clear hk); (try clear hi)) | ((with_reducible refine gate_dst (N := 7) rfl ?_); refine box_event ?hg (N := 7) ?hd (cs := #[.int .i64 0, .int .i64 0]) (t := 23) ?hr ?_; (case hd => rfl); (case hg => rfl); (case hr => first | (go_simp; done) | (go_simp; rfl)); intro gb253 hg w66 hbox hb; have BK253 := Aside0.mk hbox; have GW253 := bwg_ HB hg; have GE253 := bwg_ HB hg; replace HB := bws_ HB hb; have NB243_253 := bkl_ BK243 hg; have NB253_243 := bkr_ BK243 hg; replace BK243 := bkb_ BK243 hb; have NB247_253 := bkl_ BK247 hg; have NB253_247 := bkr_ BK247 hg; replace BK247 := bkb_ BK247 hb; clear hb hbox hg; have hnb67 := NB253_243.out; have hnc67 := NB243_253.out; have hnb68 := NB253_247.out; have hnc68 := NB247_253.out; obtain ⟨hcz69_0, hcz69_1, hfz69_0, hfz69_1⟩ := bc2_ BK253; obtain ⟨hcz70_0, hcz70_1, hfz70_0, hfz70_1⟩ := bc2_ BK243))
            go_ret
            exact ⟨by first | rfl | (simp [*] <;> rfl), bw_ HB⟩
        · rw [if_neg c8] at H
          have c8b0 : (t252 == 0) = false := beq_eq_false_iff_ne.mpr c8
          have c8b1 : (t252 != 0) = true := bne_iff_ne.mpr c8
          obtain rfl := Option.some.inj H
          go_enter Try.func17, Try.ntmps17
          go_wp2_with (first | ((with_reducible refine gate_callee (f := 18) rfl ?_); refine gla_ (some 12) Try.func18 #[.agg #[.int .i64 1, .int .i64 2], .agg #[.int .i64 1, .int .i64 3]] ?_; (with_reducible refine (num_Add.calls k 1 2 1 3 t240 t241 t242 _ A1.out).mono ?_); rintro e w71 ⟨rfl, hb⟩; refine ⟨_, rfl, ?_⟩; replace HB := bws_ HB hb; (try clear hb); (try clear hb2); (try clear hk); (try clear hi)) | ((with_reducible refine gate_dst (N := 1) rfl ?_); refine box_event ?hg (N := 1) ?hd (cs := #[.int .i64 0, .int .i64 0]) (t := 23) ?hr ?_; (case hd => rfl); (case hg => rfl); (case hr => first | (go_simp; done) | (go_simp; rfl)); intro gb243 hg w72 hbox hb; have BK243 := Aside0.mk hbox; have GW243 := bwg_ HB hg; have GE243 := bwg_ HB hg; replace HB := bws_ HB hb; clear hb hbox hg; obtain ⟨hcz73_0, hcz73_1, hfz73_0, hfz73_1⟩ := bc2_ BK243) | ((with_reducible refine gate_callee (f := 25) rfl ?_); refine gla_ (some 18) Try.func25 #[.agg #[.int .i64 1, .int .i64 3], .agg #[.int .i64 1, .int .i64 2]] ?_; (with_reducible refine (num_Simplest.calls k 1 3 1 2 t244 t245 t246 _ A2.out).mono ?_); rintro e w74 ⟨rfl, hb⟩; refine ⟨_, rfl, ?_⟩; replace BK243 := Aside0.mk (blk_below (g := gb243) (o := .cells #[.int .i64 t240, .int .i64 t241] 23 (0, 0)) (by refine bp_ (cs := #[.int .i64 t240, .int .i64 0]) ?_ 1; refine bp_ (cs := #[.int .i64 0, .int .i64 0]) ?_ 0; exact bk_ BK243) hb); replace HB := bws_ HB hb; (try clear hb); (try clear hb2); (try clear hk); (try clear hi)) | ((with_reducible refine gate_dst (N := 3) rfl ?_); refine box_event ?hg (N := 3) ?hd (cs := #[.int .i64 0, .int .i64 0]) (t := 23) ?hr ?_; (case hd => rfl); (case hg => rfl); (case hr => first | (go_simp; done) | (go_simp; rfl)); intro gb247 hg w75 hbox hb; have BK247 := Aside0.mk hbox; have GW247 := bwg_ HB hg; have GE247 := bwg_ HB hg; replace HB := bws_ HB hb; have NB243_247 := bkl_ BK243 hg; have NB247_243 := bkr_ BK243 hg; replace BK243 := bkb_ BK243 hb; clear hb hbox hg; have hnb76 := NB247_243.out; have hnc76 := NB243_247.out; obtain ⟨hcz77_0, hcz77_1, hfz77_0, hfz77_1⟩ := bc2_ BK247) | ((with_reducible refine gate_callee (f := 35) rfl ?_); refine gla_ (some 23) Try.func35 #[.agg #[.int .i64 (-1), .int .i64 8], .int .i64 2] ?_; (with_reducible refine (num_Decimal.calls k (-1) 8 2 t248 t249 _ A3.out).mono ?_); rintro e w78 ⟨rfl, hb⟩; refine ⟨_, rfl, ?_⟩; replace BK243 := Aside0.mk (blk_below (g := gb243) (o := .cells #[.int .i64 t240, .int .i64 t241] 23 (0, 0)) (by refine bf_ ?_ NB243_247; refine bf_ ?_ NB243_247; exact bk_ BK243) hb); replace BK247 := Aside0.mk (blk_below (g := gb247) (o := .cells #[.int .i64 t244, .int .i64 t245] 23 (0, 0)) (by refine bp_ (cs := #[.int .i64 t244, .int .i64 0]) ?_ 1; refine bp_ (cs := #[.int .i64 0, .int .i64 0]) ?_ 0; exact bk_ BK247) hb); replace HB := bws_ HB hb; (try clear hb); (try clear hb2); (try clear hk); (try clear hi)) | ((with_reducible refine gate_callee (f := 39) rfl ?_); refine gla_ (some 27) Try.func39 #[.string (⟨#[49, 46, 50, 53]⟩ : ByteArray)] ?_; (with_reducible refine (num_Parse.calls k (⟨#[49, 46, 50, 53]⟩ : ByteArray) t250 t251 t252 _ A4.out).mono ?_); rintro e w79 ⟨rfl, hb⟩; refine ⟨_, rfl, ?_⟩; replace BK243 := bkb_ BK243 hb; replace BK247 := bkb_ BK247 hb; replace HB := bws_ HB hb; (try clear hb); (try clear hb2); (try clear hk); (try clear hi)) | ((with_reducible refine gate_dst (N := 7) rfl ?_); refine box_event ?hg (N := 7) ?hd (cs := #[.int .i64 0, .int .i64 0]) (t := 23) ?hr ?_; (case hd => rfl); (case hg => rfl); (case hr => first | (go_simp; done) | (go_simp; rfl)); intro gb253 hg w80 hbox hb; have BK253 := Aside0.mk hbox; have GW253 := bwg_ HB hg; have GE253 := bwg_ HB hg; replace HB := bws_ HB hb; have NB243_253 := bkl_ BK243 hg; have NB253_243 := bkr_ BK243 hg; replace BK243 := bkb_ BK243 hb; have NB247_253 := bkl_ BK247 hg; have NB253_247 := bkr_ BK247 hg; replace BK247 := bkb_ BK247 hb; clear hb hbox hg; have hnb81 := NB253_243.out; have hnc81 := NB243_253.out; have hnb82 := NB253_247.out; have hnc82 := NB247_253.out; obtain ⟨hcz83_0, hcz83_1, hfz83_0, hfz83_1⟩ := bc2_ BK253))
          go_ret
          exact ⟨by first | rfl | (simp [*] <;> rfl), bw_ HB⟩
      · rw [if_neg c7] at H
        have c7b0 : (t249 == 0) = false := beq_eq_false_iff_ne.mpr c7
        have c7b1 : (t249 != 0) = true := bne_iff_ne.mpr c7
        obtain rfl := Option.some.inj H
        go_enter Try.func17, Try.ntmps17
        go_wp2_with (first | ((with_reducible refine gate_callee (f := 18) rfl ?_); refine gla_ (some 12) Try.func18 #[.agg #[.int .i64 1, .int .i64 2], .agg #[.int .i64 1, .int .i64 3]] ?_; (with_reducible refine (num_Add.calls k 1 2 1 3 t240 t241 t242 _ A1.out).mono ?_); rintro e w84 ⟨rfl, hb⟩; refine ⟨_, rfl, ?_⟩; replace HB := bws_ HB hb; (try clear hb); (try clear hb2); (try clear hk); (try clear hi)) | ((with_reducible refine gate_dst (N := 1) rfl ?_); refine box_event ?hg (N := 1) ?hd (cs := #[.int .i64 0, .int .i64 0]) (t := 23) ?hr ?_; (case hd => rfl); (case hg => rfl); (case hr => first | (go_simp; done) | (go_simp; rfl)); intro gb243 hg w85 hbox hb; have BK243 := Aside0.mk hbox; have GW243 := bwg_ HB hg; have GE243 := bwg_ HB hg; replace HB := bws_ HB hb; clear hb hbox hg; obtain ⟨hcz86_0, hcz86_1, hfz86_0, hfz86_1⟩ := bc2_ BK243) | ((with_reducible refine gate_callee (f := 25) rfl ?_); refine gla_ (some 18) Try.func25 #[.agg #[.int .i64 1, .int .i64 3], .agg #[.int .i64 1, .int .i64 2]] ?_; (with_reducible refine (num_Simplest.calls k 1 3 1 2 t244 t245 t246 _ A2.out).mono ?_); rintro e w87 ⟨rfl, hb⟩; refine ⟨_, rfl, ?_⟩; replace BK243 := Aside0.mk (blk_below (g := gb243) (o := .cells #[.int .i64 t240, .int .i64 t241] 23 (0, 0)) (by refine bp_ (cs := #[.int .i64 t240, .int .i64 0]) ?_ 1; refine bp_ (cs := #[.int .i64 0, .int .i64 0]) ?_ 0; exact bk_ BK243) hb); replace HB := bws_ HB hb; (try clear hb); (try clear hb2); (try clear hk); (try clear hi)) | ((with_reducible refine gate_dst (N := 3) rfl ?_); refine box_event ?hg (N := 3) ?hd (cs := #[.int .i64 0, .int .i64 0]) (t := 23) ?hr ?_; (case hd => rfl); (case hg => rfl); (case hr => first | (go_simp; done) | (go_simp; rfl)); intro gb247 hg w88 hbox hb; have BK247 := Aside0.mk hbox; have GW247 := bwg_ HB hg; have GE247 := bwg_ HB hg; replace HB := bws_ HB hb; have NB243_247 := bkl_ BK243 hg; have NB247_243 := bkr_ BK243 hg; replace BK243 := bkb_ BK243 hb; clear hb hbox hg; have hnb89 := NB247_243.out; have hnc89 := NB243_247.out; obtain ⟨hcz90_0, hcz90_1, hfz90_0, hfz90_1⟩ := bc2_ BK247) | ((with_reducible refine gate_callee (f := 35) rfl ?_); refine gla_ (some 23) Try.func35 #[.agg #[.int .i64 (-1), .int .i64 8], .int .i64 2] ?_; (with_reducible refine (num_Decimal.calls k (-1) 8 2 t248 t249 _ A3.out).mono ?_); rintro e w91 ⟨rfl, hb⟩; refine ⟨_, rfl, ?_⟩; replace BK243 := Aside0.mk (blk_below (g := gb243) (o := .cells #[.int .i64 t240, .int .i64 t241] 23 (0, 0)) (by refine bf_ ?_ NB243_247; refine bf_ ?_ NB243_247; exact bk_ BK243) hb); replace BK247 := Aside0.mk (blk_below (g := gb247) (o := .cells #[.int .i64 t244, .int .i64 t245] 23 (0, 0)) (by refine bp_ (cs := #[.int .i64 t244, .int .i64 0]) ?_ 1; refine bp_ (cs := #[.int .i64 0, .int .i64 0]) ?_ 0; exact bk_ BK247) hb); replace HB := bws_ HB hb; (try clear hb); (try clear hb2); (try clear hk); (try clear hi)) | ((with_reducible refine gate_callee (f := 39) rfl ?_); refine gla_ (some 27) Try.func39 #[.string (⟨#[49, 46, 50, 53]⟩ : ByteArray)] ?_; (with_reducible refine (num_Parse.calls k (⟨#[49, 46, 50, 53]⟩ : ByteArray) t250 t251 t252 _ A4.out).mono ?_); rintro e w92 ⟨rfl, hb⟩; refine ⟨_, rfl, ?_⟩; replace BK243 := bkb_ BK243 hb; replace BK247 := bkb_ BK247 hb; replace HB := bws_ HB hb; (try clear hb); (try clear hb2); (try clear hk); (try clear hi)) | ((with_reducible refine gate_dst (N := 7) rfl ?_); refine box_event ?hg (N := 7) ?hd (cs := #[.int .i64 0, .int .i64 0]) (t := 23) ?hr ?_; (case hd => rfl); (case hg => rfl); (case hr => first | (go_simp; done) | (go_simp; rfl)); intro gb253 hg w93 hbox hb; have BK253 := Aside0.mk hbox; have GW253 := bwg_ HB hg; have GE253 := bwg_ HB hg; replace HB := bws_ HB hb; have NB243_253 := bkl_ BK243 hg; have NB253_243 := bkr_ BK243 hg; replace BK243 := bkb_ BK243 hb; have NB247_253 := bkl_ BK247 hg; have NB253_247 := bkr_ BK247 hg; replace BK247 := bkb_ BK247 hb; clear hb hbox hg; have hnb94 := NB253_243.out; have hnc94 := NB243_253.out; have hnb95 := NB253_247.out; have hnc95 := NB247_253.out; obtain ⟨hcz96_0, hcz96_1, hfz96_0, hfz96_1⟩ := bc2_ BK253))
        go_ret
        exact ⟨by first | rfl | (simp [*] <;> rfl), bw_ HB⟩
    · rw [if_neg c6] at H
      have c6b0 : (t246 == 0) = false := beq_eq_false_iff_ne.mpr c6
      have c6b1 : (t246 != 0) = true := bne_iff_ne.mpr c6
      obtain rfl := Option.some.inj H
      go_enter Try.func17, Try.ntmps17
      go_wp2_with (first | ((with_reducible refine gate_callee (f := 18) rfl ?_); refine gla_ (some 12) Try.func18 #[.agg #[.int .i64 1, .int .i64 2], .agg #[.int .i64 1, .int .i64 3]] ?_; (with_reducible refine (num_Add.calls k 1 2 1 3 t240 t241 t242 _ A1.out).mono ?_); rintro e w97 ⟨rfl, hb⟩; refine ⟨_, rfl, ?_⟩; replace HB := bws_ HB hb; (try clear hb); (try clear hb2); (try clear hk); (try clear hi)) | ((with_reducible refine gate_dst (N := 1) rfl ?_); refine box_event ?hg (N := 1) ?hd (cs := #[.int .i64 0, .int .i64 0]) (t := 23) ?hr ?_; (case hd => rfl); (case hg => rfl); (case hr => first | (go_simp; done) | (go_simp; rfl)); intro gb243 hg w98 hbox hb; have BK243 := Aside0.mk hbox; have GW243 := bwg_ HB hg; have GE243 := bwg_ HB hg; replace HB := bws_ HB hb; clear hb hbox hg; obtain ⟨hcz99_0, hcz99_1, hfz99_0, hfz99_1⟩ := bc2_ BK243) | ((with_reducible refine gate_callee (f := 25) rfl ?_); refine gla_ (some 18) Try.func25 #[.agg #[.int .i64 1, .int .i64 3], .agg #[.int .i64 1, .int .i64 2]] ?_; (with_reducible refine (num_Simplest.calls k 1 3 1 2 t244 t245 t246 _ A2.out).mono ?_); rintro e w100 ⟨rfl, hb⟩; refine ⟨_, rfl, ?_⟩; replace BK243 := Aside0.mk (blk_below (g := gb243) (o := .cells #[.int .i64 t240, .int .i64 t241] 23 (0, 0)) (by refine bp_ (cs := #[.int .i64 t240, .int .i64 0]) ?_ 1; refine bp_ (cs := #[.int .i64 0, .int .i64 0]) ?_ 0; exact bk_ BK243) hb); replace HB := bws_ HB hb; (try clear hb); (try clear hb2); (try clear hk); (try clear hi)) | ((with_reducible refine gate_dst (N := 3) rfl ?_); refine box_event ?hg (N := 3) ?hd (cs := #[.int .i64 0, .int .i64 0]) (t := 23) ?hr ?_; (case hd => rfl); (case hg => rfl); (case hr => first | (go_simp; done) | (go_simp; rfl)); intro gb247 hg w101 hbox hb; have BK247 := Aside0.mk hbox; have GW247 := bwg_ HB hg; have GE247 := bwg_ HB hg; replace HB := bws_ HB hb; have NB243_247 := bkl_ BK243 hg; have NB247_243 := bkr_ BK243 hg; replace BK243 := bkb_ BK243 hb; clear hb hbox hg; have hnb102 := NB247_243.out; have hnc102 := NB243_247.out; obtain ⟨hcz103_0, hcz103_1, hfz103_0, hfz103_1⟩ := bc2_ BK247) | ((with_reducible refine gate_callee (f := 35) rfl ?_); refine gla_ (some 23) Try.func35 #[.agg #[.int .i64 (-1), .int .i64 8], .int .i64 2] ?_; (with_reducible refine (num_Decimal.calls k (-1) 8 2 t248 t249 _ A3.out).mono ?_); rintro e w104 ⟨rfl, hb⟩; refine ⟨_, rfl, ?_⟩; replace BK243 := Aside0.mk (blk_below (g := gb243) (o := .cells #[.int .i64 t240, .int .i64 t241] 23 (0, 0)) (by refine bf_ ?_ NB243_247; refine bf_ ?_ NB243_247; exact bk_ BK243) hb); replace BK247 := Aside0.mk (blk_below (g := gb247) (o := .cells #[.int .i64 t244, .int .i64 t245] 23 (0, 0)) (by refine bp_ (cs := #[.int .i64 t244, .int .i64 0]) ?_ 1; refine bp_ (cs := #[.int .i64 0, .int .i64 0]) ?_ 0; exact bk_ BK247) hb); replace HB := bws_ HB hb; (try clear hb); (try clear hb2); (try clear hk); (try clear hi)) | ((with_reducible refine gate_callee (f := 39) rfl ?_); refine gla_ (some 27) Try.func39 #[.string (⟨#[49, 46, 50, 53]⟩ : ByteArray)] ?_; (with_reducible refine (num_Parse.calls k (⟨#[49, 46, 50, 53]⟩ : ByteArray) t250 t251 t252 _ A4.out).mono ?_); rintro e w105 ⟨rfl, hb⟩; refine ⟨_, rfl, ?_⟩; replace BK243 := bkb_ BK243 hb; replace BK247 := bkb_ BK247 hb; replace HB := bws_ HB hb; (try clear hb); (try clear hb2); (try clear hk); (try clear hi)) | ((with_reducible refine gate_dst (N := 7) rfl ?_); refine box_event ?hg (N := 7) ?hd (cs := #[.int .i64 0, .int .i64 0]) (t := 23) ?hr ?_; (case hd => rfl); (case hg => rfl); (case hr => first | (go_simp; done) | (go_simp; rfl)); intro gb253 hg w106 hbox hb; have BK253 := Aside0.mk hbox; have GW253 := bwg_ HB hg; have GE253 := bwg_ HB hg; replace HB := bws_ HB hb; have NB243_253 := bkl_ BK243 hg; have NB253_243 := bkr_ BK243 hg; replace BK243 := bkb_ BK243 hb; have NB247_253 := bkl_ BK247 hg; have NB253_247 := bkr_ BK247 hg; replace BK247 := bkb_ BK247 hb; clear hb hbox hg; have hnb107 := NB253_243.out; have hnc107 := NB243_253.out; have hnb108 := NB253_247.out; have hnc108 := NB247_253.out; obtain ⟨hcz109_0, hcz109_1, hfz109_0, hfz109_1⟩ := bc2_ BK253))
      go_ret
      exact ⟨by first | rfl | (simp [*] <;> rfl), bw_ HB⟩
  · rw [if_neg c5] at H
    have c5b0 : (t242 == 0) = false := beq_eq_false_iff_ne.mpr c5
    have c5b1 : (t242 != 0) = true := bne_iff_ne.mpr c5
    obtain rfl := Option.some.inj H
    go_enter Try.func17, Try.ntmps17
    go_wp2_with (first | ((with_reducible refine gate_callee (f := 18) rfl ?_); refine gla_ (some 12) Try.func18 #[.agg #[.int .i64 1, .int .i64 2], .agg #[.int .i64 1, .int .i64 3]] ?_; (with_reducible refine (num_Add.calls k 1 2 1 3 t240 t241 t242 _ A1.out).mono ?_); rintro e w110 ⟨rfl, hb⟩; refine ⟨_, rfl, ?_⟩; replace HB := bws_ HB hb; (try clear hb); (try clear hb2); (try clear hk); (try clear hi)) | ((with_reducible refine gate_dst (N := 1) rfl ?_); refine box_event ?hg (N := 1) ?hd (cs := #[.int .i64 0, .int .i64 0]) (t := 23) ?hr ?_; (case hd => rfl); (case hg => rfl); (case hr => first | (go_simp; done) | (go_simp; rfl)); intro gb243 hg w111 hbox hb; have BK243 := Aside0.mk hbox; have GW243 := bwg_ HB hg; have GE243 := bwg_ HB hg; replace HB := bws_ HB hb; clear hb hbox hg; obtain ⟨hcz112_0, hcz112_1, hfz112_0, hfz112_1⟩ := bc2_ BK243) | ((with_reducible refine gate_callee (f := 25) rfl ?_); refine gla_ (some 18) Try.func25 #[.agg #[.int .i64 1, .int .i64 3], .agg #[.int .i64 1, .int .i64 2]] ?_; (with_reducible refine (num_Simplest.calls k 1 3 1 2 t244 t245 t246 _ A2.out).mono ?_); rintro e w113 ⟨rfl, hb⟩; refine ⟨_, rfl, ?_⟩; replace BK243 := Aside0.mk (blk_below (g := gb243) (o := .cells #[.int .i64 t240, .int .i64 t241] 23 (0, 0)) (by refine bp_ (cs := #[.int .i64 t240, .int .i64 0]) ?_ 1; refine bp_ (cs := #[.int .i64 0, .int .i64 0]) ?_ 0; exact bk_ BK243) hb); replace HB := bws_ HB hb; (try clear hb); (try clear hb2); (try clear hk); (try clear hi)) | ((with_reducible refine gate_dst (N := 3) rfl ?_); refine box_event ?hg (N := 3) ?hd (cs := #[.int .i64 0, .int .i64 0]) (t := 23) ?hr ?_; (case hd => rfl); (case hg => rfl); (case hr => first | (go_simp; done) | (go_simp; rfl)); intro gb247 hg w114 hbox hb; have BK247 := Aside0.mk hbox; have GW247 := bwg_ HB hg; have GE247 := bwg_ HB hg; replace HB := bws_ HB hb; have NB243_247 := bkl_ BK243 hg; have NB247_243 := bkr_ BK243 hg; replace BK243 := bkb_ BK243 hb; clear hb hbox hg; have hnb115 := NB247_243.out; have hnc115 := NB243_247.out; obtain ⟨hcz116_0, hcz116_1, hfz116_0, hfz116_1⟩ := bc2_ BK247) | ((with_reducible refine gate_callee (f := 35) rfl ?_); refine gla_ (some 23) Try.func35 #[.agg #[.int .i64 (-1), .int .i64 8], .int .i64 2] ?_; (with_reducible refine (num_Decimal.calls k (-1) 8 2 t248 t249 _ A3.out).mono ?_); rintro e w117 ⟨rfl, hb⟩; refine ⟨_, rfl, ?_⟩; replace BK243 := Aside0.mk (blk_below (g := gb243) (o := .cells #[.int .i64 t240, .int .i64 t241] 23 (0, 0)) (by refine bf_ ?_ NB243_247; refine bf_ ?_ NB243_247; exact bk_ BK243) hb); replace BK247 := Aside0.mk (blk_below (g := gb247) (o := .cells #[.int .i64 t244, .int .i64 t245] 23 (0, 0)) (by refine bp_ (cs := #[.int .i64 t244, .int .i64 0]) ?_ 1; refine bp_ (cs := #[.int .i64 0, .int .i64 0]) ?_ 0; exact bk_ BK247) hb); replace HB := bws_ HB hb; (try clear hb); (try clear hb2); (try clear hk); (try clear hi)) | ((with_reducible refine gate_callee (f := 39) rfl ?_); refine gla_ (some 27) Try.func39 #[.string (⟨#[49, 46, 50, 53]⟩ : ByteArray)] ?_; (with_reducible refine (num_Parse.calls k (⟨#[49, 46, 50, 53]⟩ : ByteArray) t250 t251 t252 _ A4.out).mono ?_); rintro e w118 ⟨rfl, hb⟩; refine ⟨_, rfl, ?_⟩; replace BK243 := bkb_ BK243 hb; replace BK247 := bkb_ BK247 hb; replace HB := bws_ HB hb; (try clear hb); (try clear hb2); (try clear hk); (try clear hi)) | ((with_reducible refine gate_dst (N := 7) rfl ?_); refine box_event ?hg (N := 7) ?hd (cs := #[.int .i64 0, .int .i64 0]) (t := 23) ?hr ?_; (case hd => rfl); (case hg => rfl); (case hr => first | (go_simp; done) | (go_simp; rfl)); intro gb253 hg w119 hbox hb; have BK253 := Aside0.mk hbox; have GW253 := bwg_ HB hg; have GE253 := bwg_ HB hg; replace HB := bws_ HB hb; have NB243_253 := bkl_ BK243 hg; have NB253_243 := bkr_ BK243 hg; replace BK243 := bkb_ BK243 hb; have NB247_253 := bkl_ BK247 hg; have NB253_247 := bkr_ BK247 hg; replace BK247 := bkb_ BK247 hb; clear hb hbox hg; have hnb120 := NB253_243.out; have hnc120 := NB243_253.out; have hnb121 := NB253_247.out; have hnc121 := NB247_253.out; obtain ⟨hcz122_0, hcz122_1, hfz122_0, hfz122_1⟩ := bc2_ BK253))
    go_ret
    exact ⟨by first | rfl | (simp [*] <;> rfl), bw_ HB⟩
/-! ### num_Mul: function 19 -/
def num_Mul.f (k : Nat) (a0_0 : Int) (a0_1 : Int) (a1_0 : Int) (a1_1 : Int) : Option (Int × Int × Int) := (num_reckon.f k 42 a0_0 a0_1 a1_0 a1_1).bind fun bt257 => (some (bt257.1, bt257.2.1, bt257.2.2))
theorem num_Mul.mono : ∀ a0 a1 a2 a3 k, LeO (num_Mul.f k a0 a1 a2 a3) (num_Mul.f (k + 1) a0 a1 a2 a3) := by
  intro a0 a1 a2 a3 k
  unfold num_Mul.f
  repeat' first
      | (with_reducible exact num_reckon.mono _ _ _ _ _ _)
      | (with_reducible exact LeO.refl _)
      | (with_reducible exact LeO.none _)
      | (with_reducible refine LeO.ite ?_ ?_)
      | (with_reducible refine LeO.bind ?_ (fun _ => ?_))
      | (with_reducible refine LeO.exc (fun _ => ?_) (fun _ => ?_))
      | exact num_reckon.mono _ _ _ _ _ _
      | exact LeO.none _
      | refine LeO.ite ?_ ?_
      | refine LeO.bind ?_ (fun _ => ?_)
set_option maxHeartbeats 8000000 in
set_option maxRecDepth 100000 in
theorem num_Mul.calls (k : Nat) (a0_0 : Int) (a0_1 : Int) (a1_0 : Int) (a1_1 : Int) (r1 : Int) (r2 : Int) (r3 : Int) (w : World) (h : num_Mul.f k a0_0 a0_1 a1_0 a1_1 = some (r1, r2, r3)) :
    Calls Try.prog 19 #[.agg #[.int .i64 a0_0, .int .i64 a0_1], .agg #[.int .i64 a1_0, .int .i64 a1_1]] w fun e w' => e = .returned (.tuple #[.agg #[.int .i64 r1, .int .i64 r2], .int .i64 r3]) ∧ Below w.heap.size w w' := by
  have hu23 := Try.underlying23
  have HB := Aside0.mk (Below.refl w.heap.size w)
  have H : ((num_reckon.f k 42 a0_0 a0_1 a1_0 a1_1).bind fun bt257 => (some (bt257.1, bt257.2.1, bt257.2.2))) = some (r1, r2, r3) := h
  clear h
  replace H := Option.bind_eq_some_iff.mp H
  obtain ⟨⟨t257, t258, t259⟩, A30, H⟩ := H
  replace H : (some (t257, t258, t259)) = some (r1, r2, r3) := H
  have A3 := Aside0.mk A30
  clear A30
  simp only [Option.some.injEq, Prod.mk.injEq] at H
  obtain ⟨rfl, rfl, rfl⟩ := H
  go_enter Try.func19, Try.ntmps19
  go_wp2_with (first | ((with_reducible refine gate_dst (N := 2) rfl ?_); refine box_event ?hg (N := 2) ?hd (cs := #[.int .i64 a0_0, .int .i64 a0_1]) (t := 23) ?hr ?_; (case hd => rfl); (case hg => rfl); (case hr => first | (go_simp; done) | (go_simp; rfl)); intro gb254 hg w4 hbox hb; have BK254 := Aside0.mk hbox; have GW254 := bwg_ HB hg; have GE254 := bwg_ HB hg; replace HB := bws_ HB hb; clear hb hbox hg) | ((with_reducible refine gate_dst (N := 3) rfl ?_); refine box_event ?hg (N := 3) ?hd (cs := #[.int .i64 a1_0, .int .i64 a1_1]) (t := 23) ?hr ?_; (case hd => rfl); (case hg => rfl); (case hr => first | (go_simp; done) | (go_simp; rfl)); intro gb255 hg w5 hbox hb; have BK255 := Aside0.mk hbox; have GW255 := bwg_ HB hg; have GE255 := bwg_ HB hg; replace HB := bws_ HB hb; have NB254_255 := bkl_ BK254 hg; have NB255_254 := bkr_ BK254 hg; replace BK254 := bkb_ BK254 hb; clear hb hbox hg) | ((with_reducible refine gate_dst (N := 4) rfl ?_); refine box_event ?hg (N := 4) ?hd (cs := #[.int .i64 0, .int .i64 0]) (t := 23) ?hr ?_; (case hd => rfl); (case hg => rfl); (case hr => first | (go_simp; done) | (go_simp; rfl)); intro gb256 hg w6 hbox hb; have BK256 := Aside0.mk hbox; have GW256 := bwg_ HB hg; have GE256 := bwg_ HB hg; replace HB := bws_ HB hb; have NB254_256 := bkl_ BK254 hg; have NB256_254 := bkr_ BK254 hg; replace BK254 := bkb_ BK254 hb; have NB255_256 := bkl_ BK255 hg; have NB256_255 := bkr_ BK255 hg; replace BK255 := bkb_ BK255 hb; clear hb hbox hg; have hnb7 := NB254_255.out; have hnc7 := NB255_254.out; have hnb8 := NB254_256.out; have hnc8 := NB256_254.out; obtain ⟨hcz9_0, hcz9_1, hfz9_0, hfz9_1⟩ := bc2_ BK254; have hnb10 := NB255_256.out; have hnc10 := NB256_255.out; obtain ⟨hcz11_0, hcz11_1, hfz11_0, hfz11_1⟩ := bc2_ BK255) | ((with_reducible refine gate_callee (f := 67) rfl ?_); refine gla_ (some 8) Try.func67 #[.int .u8 42, .agg #[.int .i64 a0_0, .int .i64 a0_1], .agg #[.int .i64 a1_0, .int .i64 a1_1]] ?_; (with_reducible refine (num_reckon.calls k 42 a0_0 a0_1 a1_0 a1_1 t257 t258 t259 _ A3.out).mono ?_); rintro e w12 ⟨rfl, hb⟩; refine ⟨_, rfl, ?_⟩; replace BK254 := bkb_ BK254 hb; replace BK255 := bkb_ BK255 hb; replace BK256 := bkb_ BK256 hb; replace HB := bws_ HB hb; (try clear hb); (try clear hb2); (try clear hk); (try clear hi); obtain ⟨hcz13_0, hcz13_1, hfz13_0, hfz13_1⟩ := bc2_ BK256))
  refine bodyPost_ret (results_ct rfl _ _ gb256 23 #[.int .i64 t257, .int .i64 t258] (0, 0) _ rfl (by refine bp_ (cs := #[.int .i64 t257, .int .i64 0]) ?_ 1; refine bp_ (cs := #[.int .i64 0, .int .i64 0]) ?_ 0; exact bk_ BK256) Try.underlying23 rfl (by kernel_rfl)) rfl ?_
  exact ⟨by first | rfl | (simp [*] <;> rfl), bw_ HB⟩
/-! ### num_Sub: function 20 -/
def num_Sub.f (k : Nat) (a0_0 : Int) (a0_1 : Int) (a1_0 : Int) (a1_1 : Int) : Option (Int × Int × Int) := (num_reckon.f k 45 a0_0 a0_1 a1_0 a1_1).bind fun bt263 => (some (bt263.1, bt263.2.1, bt263.2.2))
theorem num_Sub.mono : ∀ a0 a1 a2 a3 k, LeO (num_Sub.f k a0 a1 a2 a3) (num_Sub.f (k + 1) a0 a1 a2 a3) := by
  intro a0 a1 a2 a3 k
  unfold num_Sub.f
  repeat' first
      | (with_reducible exact num_reckon.mono _ _ _ _ _ _)
      | (with_reducible exact LeO.refl _)
      | (with_reducible exact LeO.none _)
      | (with_reducible refine LeO.ite ?_ ?_)
      | (with_reducible refine LeO.bind ?_ (fun _ => ?_))
      | (with_reducible refine LeO.exc (fun _ => ?_) (fun _ => ?_))
      | exact num_reckon.mono _ _ _ _ _ _
      | exact LeO.none _
      | refine LeO.ite ?_ ?_
      | refine LeO.bind ?_ (fun _ => ?_)
set_option maxHeartbeats 8000000 in
set_option maxRecDepth 100000 in
theorem num_Sub.calls (k : Nat) (a0_0 : Int) (a0_1 : Int) (a1_0 : Int) (a1_1 : Int) (r1 : Int) (r2 : Int) (r3 : Int) (w : World) (h : num_Sub.f k a0_0 a0_1 a1_0 a1_1 = some (r1, r2, r3)) :
    Calls Try.prog 20 #[.agg #[.int .i64 a0_0, .int .i64 a0_1], .agg #[.int .i64 a1_0, .int .i64 a1_1]] w fun e w' => e = .returned (.tuple #[.agg #[.int .i64 r1, .int .i64 r2], .int .i64 r3]) ∧ Below w.heap.size w w' := by
  have hu23 := Try.underlying23
  have HB := Aside0.mk (Below.refl w.heap.size w)
  have H : ((num_reckon.f k 45 a0_0 a0_1 a1_0 a1_1).bind fun bt263 => (some (bt263.1, bt263.2.1, bt263.2.2))) = some (r1, r2, r3) := h
  clear h
  replace H := Option.bind_eq_some_iff.mp H
  obtain ⟨⟨t263, t264, t265⟩, A30, H⟩ := H
  replace H : (some (t263, t264, t265)) = some (r1, r2, r3) := H
  have A3 := Aside0.mk A30
  clear A30
  simp only [Option.some.injEq, Prod.mk.injEq] at H
  obtain ⟨rfl, rfl, rfl⟩ := H
  go_enter Try.func20, Try.ntmps20
  go_wp2_with (first | ((with_reducible refine gate_dst (N := 2) rfl ?_); refine box_event ?hg (N := 2) ?hd (cs := #[.int .i64 a0_0, .int .i64 a0_1]) (t := 23) ?hr ?_; (case hd => rfl); (case hg => rfl); (case hr => first | (go_simp; done) | (go_simp; rfl)); intro gb260 hg w4 hbox hb; have BK260 := Aside0.mk hbox; have GW260 := bwg_ HB hg; have GE260 := bwg_ HB hg; replace HB := bws_ HB hb; clear hb hbox hg) | ((with_reducible refine gate_dst (N := 3) rfl ?_); refine box_event ?hg (N := 3) ?hd (cs := #[.int .i64 a1_0, .int .i64 a1_1]) (t := 23) ?hr ?_; (case hd => rfl); (case hg => rfl); (case hr => first | (go_simp; done) | (go_simp; rfl)); intro gb261 hg w5 hbox hb; have BK261 := Aside0.mk hbox; have GW261 := bwg_ HB hg; have GE261 := bwg_ HB hg; replace HB := bws_ HB hb; have NB260_261 := bkl_ BK260 hg; have NB261_260 := bkr_ BK260 hg; replace BK260 := bkb_ BK260 hb; clear hb hbox hg) | ((with_reducible refine gate_dst (N := 4) rfl ?_); refine box_event ?hg (N := 4) ?hd (cs := #[.int .i64 0, .int .i64 0]) (t := 23) ?hr ?_; (case hd => rfl); (case hg => rfl); (case hr => first | (go_simp; done) | (go_simp; rfl)); intro gb262 hg w6 hbox hb; have BK262 := Aside0.mk hbox; have GW262 := bwg_ HB hg; have GE262 := bwg_ HB hg; replace HB := bws_ HB hb; have NB260_262 := bkl_ BK260 hg; have NB262_260 := bkr_ BK260 hg; replace BK260 := bkb_ BK260 hb; have NB261_262 := bkl_ BK261 hg; have NB262_261 := bkr_ BK261 hg; replace BK261 := bkb_ BK261 hb; clear hb hbox hg; have hnb7 := NB260_261.out; have hnc7 := NB261_260.out; have hnb8 := NB260_262.out; have hnc8 := NB262_260.out; obtain ⟨hcz9_0, hcz9_1, hfz9_0, hfz9_1⟩ := bc2_ BK260; have hnb10 := NB261_262.out; have hnc10 := NB262_261.out; obtain ⟨hcz11_0, hcz11_1, hfz11_0, hfz11_1⟩ := bc2_ BK261) | ((with_reducible refine gate_callee (f := 67) rfl ?_); refine gla_ (some 8) Try.func67 #[.int .u8 45, .agg #[.int .i64 a0_0, .int .i64 a0_1], .agg #[.int .i64 a1_0, .int .i64 a1_1]] ?_; (with_reducible refine (num_reckon.calls k 45 a0_0 a0_1 a1_0 a1_1 t263 t264 t265 _ A3.out).mono ?_); rintro e w12 ⟨rfl, hb⟩; refine ⟨_, rfl, ?_⟩; replace BK260 := bkb_ BK260 hb; replace BK261 := bkb_ BK261 hb; replace BK262 := bkb_ BK262 hb; replace HB := bws_ HB hb; (try clear hb); (try clear hb2); (try clear hk); (try clear hi); obtain ⟨hcz13_0, hcz13_1, hfz13_0, hfz13_1⟩ := bc2_ BK262))
  refine bodyPost_ret (results_ct rfl _ _ gb262 23 #[.int .i64 t263, .int .i64 t264] (0, 0) _ rfl (by refine bp_ (cs := #[.int .i64 t263, .int .i64 0]) ?_ 1; refine bp_ (cs := #[.int .i64 0, .int .i64 0]) ?_ 0; exact bk_ BK262) Try.underlying23 rfl (by kernel_rfl)) rfl ?_
  exact ⟨by first | rfl | (simp [*] <;> rfl), bw_ HB⟩
/-! ### num_Div: function 21 -/
def num_Div.f (k : Nat) (a0_0 : Int) (a0_1 : Int) (a1_0 : Int) (a1_1 : Int) : Option (Int × Int × Int) := (num_reckon.f k 47 a0_0 a0_1 a1_0 a1_1).bind fun bt269 => (some (bt269.1, bt269.2.1, bt269.2.2))
theorem num_Div.mono : ∀ a0 a1 a2 a3 k, LeO (num_Div.f k a0 a1 a2 a3) (num_Div.f (k + 1) a0 a1 a2 a3) := by
  intro a0 a1 a2 a3 k
  unfold num_Div.f
  repeat' first
      | (with_reducible exact num_reckon.mono _ _ _ _ _ _)
      | (with_reducible exact LeO.refl _)
      | (with_reducible exact LeO.none _)
      | (with_reducible refine LeO.ite ?_ ?_)
      | (with_reducible refine LeO.bind ?_ (fun _ => ?_))
      | (with_reducible refine LeO.exc (fun _ => ?_) (fun _ => ?_))
      | exact num_reckon.mono _ _ _ _ _ _
      | exact LeO.none _
      | refine LeO.ite ?_ ?_
      | refine LeO.bind ?_ (fun _ => ?_)
set_option maxHeartbeats 8000000 in
set_option maxRecDepth 100000 in
theorem num_Div.calls (k : Nat) (a0_0 : Int) (a0_1 : Int) (a1_0 : Int) (a1_1 : Int) (r1 : Int) (r2 : Int) (r3 : Int) (w : World) (h : num_Div.f k a0_0 a0_1 a1_0 a1_1 = some (r1, r2, r3)) :
    Calls Try.prog 21 #[.agg #[.int .i64 a0_0, .int .i64 a0_1], .agg #[.int .i64 a1_0, .int .i64 a1_1]] w fun e w' => e = .returned (.tuple #[.agg #[.int .i64 r1, .int .i64 r2], .int .i64 r3]) ∧ Below w.heap.size w w' := by
  have hu23 := Try.underlying23
  have HB := Aside0.mk (Below.refl w.heap.size w)
  have H : ((num_reckon.f k 47 a0_0 a0_1 a1_0 a1_1).bind fun bt269 => (some (bt269.1, bt269.2.1, bt269.2.2))) = some (r1, r2, r3) := h
  clear h
  replace H := Option.bind_eq_some_iff.mp H
  obtain ⟨⟨t269, t270, t271⟩, A30, H⟩ := H
  replace H : (some (t269, t270, t271)) = some (r1, r2, r3) := H
  have A3 := Aside0.mk A30
  clear A30
  simp only [Option.some.injEq, Prod.mk.injEq] at H
  obtain ⟨rfl, rfl, rfl⟩ := H
  go_enter Try.func21, Try.ntmps21
  go_wp2_with (first | ((with_reducible refine gate_dst (N := 2) rfl ?_); refine box_event ?hg (N := 2) ?hd (cs := #[.int .i64 a0_0, .int .i64 a0_1]) (t := 23) ?hr ?_; (case hd => rfl); (case hg => rfl); (case hr => first | (go_simp; done) | (go_simp; rfl)); intro gb266 hg w4 hbox hb; have BK266 := Aside0.mk hbox; have GW266 := bwg_ HB hg; have GE266 := bwg_ HB hg; replace HB := bws_ HB hb; clear hb hbox hg) | ((with_reducible refine gate_dst (N := 3) rfl ?_); refine box_event ?hg (N := 3) ?hd (cs := #[.int .i64 a1_0, .int .i64 a1_1]) (t := 23) ?hr ?_; (case hd => rfl); (case hg => rfl); (case hr => first | (go_simp; done) | (go_simp; rfl)); intro gb267 hg w5 hbox hb; have BK267 := Aside0.mk hbox; have GW267 := bwg_ HB hg; have GE267 := bwg_ HB hg; replace HB := bws_ HB hb; have NB266_267 := bkl_ BK266 hg; have NB267_266 := bkr_ BK266 hg; replace BK266 := bkb_ BK266 hb; clear hb hbox hg) | ((with_reducible refine gate_dst (N := 4) rfl ?_); refine box_event ?hg (N := 4) ?hd (cs := #[.int .i64 0, .int .i64 0]) (t := 23) ?hr ?_; (case hd => rfl); (case hg => rfl); (case hr => first | (go_simp; done) | (go_simp; rfl)); intro gb268 hg w6 hbox hb; have BK268 := Aside0.mk hbox; have GW268 := bwg_ HB hg; have GE268 := bwg_ HB hg; replace HB := bws_ HB hb; have NB266_268 := bkl_ BK266 hg; have NB268_266 := bkr_ BK266 hg; replace BK266 := bkb_ BK266 hb; have NB267_268 := bkl_ BK267 hg; have NB268_267 := bkr_ BK267 hg; replace BK267 := bkb_ BK267 hb; clear hb hbox hg; have hnb7 := NB266_267.out; have hnc7 := NB267_266.out; have hnb8 := NB266_268.out; have hnc8 := NB268_266.out; obtain ⟨hcz9_0, hcz9_1, hfz9_0, hfz9_1⟩ := bc2_ BK266; have hnb10 := NB267_268.out; have hnc10 := NB268_267.out; obtain ⟨hcz11_0, hcz11_1, hfz11_0, hfz11_1⟩ := bc2_ BK267) | ((with_reducible refine gate_callee (f := 67) rfl ?_); refine gla_ (some 8) Try.func67 #[.int .u8 47, .agg #[.int .i64 a0_0, .int .i64 a0_1], .agg #[.int .i64 a1_0, .int .i64 a1_1]] ?_; (with_reducible refine (num_reckon.calls k 47 a0_0 a0_1 a1_0 a1_1 t269 t270 t271 _ A3.out).mono ?_); rintro e w12 ⟨rfl, hb⟩; refine ⟨_, rfl, ?_⟩; replace BK266 := bkb_ BK266 hb; replace BK267 := bkb_ BK267 hb; replace BK268 := bkb_ BK268 hb; replace HB := bws_ HB hb; (try clear hb); (try clear hb2); (try clear hk); (try clear hi); obtain ⟨hcz13_0, hcz13_1, hfz13_0, hfz13_1⟩ := bc2_ BK268))
  refine bodyPost_ret (results_ct rfl _ _ gb268 23 #[.int .i64 t269, .int .i64 t270] (0, 0) _ rfl (by refine bp_ (cs := #[.int .i64 t269, .int .i64 0]) ?_ 1; refine bp_ (cs := #[.int .i64 0, .int .i64 0]) ?_ 0; exact bk_ BK268) Try.underlying23 rfl (by kernel_rfl)) rfl ?_
  exact ⟨by first | rfl | (simp [*] <;> rfl), bw_ HB⟩
/-! ### num_rounded: function 74, by hand -/
def num_rounded.g (p : Int → Int → Option Int) (k : Nat) (a0 a1 : Int) : Option (Int × Int) := (num_Check.f k a0 a1).bind fun e => if e = 0 then (p a0 a1).bind fun r => some (r, 0) else some (0, e)
set_option maxHeartbeats 4000000 in
set_option maxRecDepth 100000 in
theorem num_rounded.calls (g : Nat) (p : Int → Int → Option Int) (eg : ∀ args w, (callFunc g args).run Try.prog w = .ok (.enter g args) w)
    (hp : ∀ (n d r : Int) (W : World), p n d = some r → Calls Try.prog g #[.agg #[.int .i64 n, .int .i64 d]] W fun e w' => e = .returned (.int .i64 r) ∧ Below W.heap.size W w')
    (k : Nat) (a0 a1 r1 r2 : Int) (w : World) (h : num_rounded.g p k a0 a1 = some (r1, r2)) :
    Calls Try.prog 74 #[.agg #[.int .i64 a0, .int .i64 a1], .func (.func g) #[] #[]] w fun e w' => e = .returned (.tuple #[.int .i64 r1, .int .i64 r2]) ∧ Below w.heap.size w w' := by
  have hu := Try.underlying23
  obtain ⟨ec, hc, H⟩ := Option.bind_eq_some_iff.mp h
  clear h
  have hA := cell_of_row (w.alloc (.cells #[.int .i64 a0, .int .i64 a1] 23)) w.heap.size 0 _ _ _ (blk_new w _)
  have hA1 := cell_of_row (w.alloc (.cells #[.int .i64 a0, .int .i64 a1] 23)) w.heap.size 1 _ _ _ (blk_new w _)
  have HB := Aside0.mk (below_alloc (Below.refl w.heap.size w) (.cells #[.int .i64 a0, .int .i64 a1] 23))
  have HC := Aside0.mk (num_Check.calls k a0 a1 ec (w.alloc (.cells #[.int .i64 a0, .int .i64 a1] 23)) hc)
  have HA := Aside0.mk hA
  have HA1 := Aside0.mk hA1
  clear hc hA hA1
  have HP := Aside0.mk hp
  clear hp
  by_cases c : ec = 0
  · rw [if_pos c] at H
    subst c
    obtain ⟨r, hr, H⟩ := Option.bind_eq_some_iff.mp H
    simp only [Option.some.injEq, Prod.mk.injEq] at H
    obtain ⟨rfl, rfl⟩ := H
    have HR := Aside0.mk hr
    clear hr
    go_enter Try.func74, Try.ntmps74
    go_wp2_with (fail)
    refine HC.out.mono ?_
    rintro e w1 ⟨rfl, hb⟩
    have hA := pw_cell_below hb HA.out
    have hA1 := pw_cell_below hb HA1.out
    have HB1 := Aside0.mk (below_step HB.out hb)
    clear hb
    go_wp2_with (fail)
    refine (num_of.calls a0 a1 a0 a1 _ rfl).mono ?_
    rintro e w2 ⟨rfl, hb⟩
    have HB2 := Aside0.mk (below_step HB1.out hb)
    clear hb hA hA1
    go_wp2_with (fail)
    refine (HP.out a0 a1 r w2 HR.out).mono ?_
    rintro e w3 ⟨rfl, hb⟩
    have HB3 := Aside0.mk (below_step HB2.out hb)
    clear hb
    go_wp2
    go_ret2
    exact ⟨rfl, HB3.out⟩
  · rw [if_neg c] at H
    simp only [Option.some.injEq, Prod.mk.injEq] at H
    obtain ⟨rfl, rfl⟩ := H
    have cb0 : (ec == 0) = false := beq_eq_false_iff_ne.mpr c
    have cb1 : (ec != 0) = true := bne_iff_ne.mpr c
    go_enter Try.func74, Try.ntmps74
    go_wp2_with (fail)
    refine HC.out.mono ?_
    rintro e w1 ⟨rfl, hb⟩
    have HB1 := Aside0.mk (below_step HB.out hb)
    clear hb
    go_wp2
    go_ret2
    exact ⟨rfl, HB1.out⟩
theorem num_rounded.mono (p : Int → Int → Option Int) : ∀ a0 a1 k, LeO (num_rounded.g p k a0 a1) (num_rounded.g p (k + 1) a0 a1) := by
  intro a0 a1 k
  exact LeO.bind (num_Check.mono a0 a1 k) (fun _ => LeO.refl _)
def num_Floor.f (k : Nat) (a0_0 : Int) (a0_1 : Int) : Option (Int × Int) := num_rounded.g num_ratio_floor.f k a0_0 a0_1
theorem num_Floor.mono : ∀ a0 a1 k, LeO (num_Floor.f k a0 a1) (num_Floor.f (k + 1) a0 a1) := num_rounded.mono _
theorem num_ratio_floor.enters : Enters Try.prog 75 := enters_of Try.func75 (by kernel_rfl) rfl
set_option maxHeartbeats 4000000 in
set_option maxRecDepth 100000 in
theorem num_Floor.calls (k : Nat) (a0_0 : Int) (a0_1 : Int) (r1 : Int) (r2 : Int) (w : World) (h : num_Floor.f k a0_0 a0_1 = some (r1, r2)) :
    Calls Try.prog 29 #[.agg #[.int .i64 a0_0, .int .i64 a0_1]] w fun e w' => e = .returned (.tuple #[.int .i64 r1, .int .i64 r2]) ∧ Below w.heap.size w w' := by
  have HC := Aside0.mk (num_rounded.calls 75 num_ratio_floor.f num_ratio_floor.enters (fun n d r W hr => num_ratio_floor.calls n d r W hr) k a0_0 a0_1 r1 r2 (w.alloc (.cells #[.int .i64 a0_0, .int .i64 a0_1] 23)) h)
  clear h
  have HB := Aside0.mk (below_alloc (Below.refl w.heap.size w) (.cells #[.int .i64 a0_0, .int .i64 a0_1] 23))
  have hu := Try.underlying23
  go_enter Try.func29, Try.ntmps29
  go_wp2_with (fail)
  refine HC.out.mono ?_
  rintro e w1 ⟨rfl, hb⟩
  have HB1 := Aside0.mk (below_step HB.out hb)
  clear hb
  go_wp2
  go_ret2
  exact ⟨rfl, HB1.out⟩
def num_Ceil.f (k : Nat) (a0_0 : Int) (a0_1 : Int) : Option (Int × Int) := num_rounded.g num_ratio_ceil.f k a0_0 a0_1
theorem num_Ceil.mono : ∀ a0 a1 k, LeO (num_Ceil.f k a0 a1) (num_Ceil.f (k + 1) a0 a1) := num_rounded.mono _
theorem num_ratio_ceil.enters : Enters Try.prog 77 := enters_of Try.func77 (by kernel_rfl) rfl
set_option maxHeartbeats 4000000 in
set_option maxRecDepth 100000 in
theorem num_Ceil.calls (k : Nat) (a0_0 : Int) (a0_1 : Int) (r1 : Int) (r2 : Int) (w : World) (h : num_Ceil.f k a0_0 a0_1 = some (r1, r2)) :
    Calls Try.prog 31 #[.agg #[.int .i64 a0_0, .int .i64 a0_1]] w fun e w' => e = .returned (.tuple #[.int .i64 r1, .int .i64 r2]) ∧ Below w.heap.size w w' := by
  have HC := Aside0.mk (num_rounded.calls 77 num_ratio_ceil.f num_ratio_ceil.enters (fun n d r W hr => num_ratio_ceil.calls n d r W hr) k a0_0 a0_1 r1 r2 (w.alloc (.cells #[.int .i64 a0_0, .int .i64 a0_1] 23)) h)
  clear h
  have HB := Aside0.mk (below_alloc (Below.refl w.heap.size w) (.cells #[.int .i64 a0_0, .int .i64 a0_1] 23))
  have hu := Try.underlying23
  go_enter Try.func31, Try.ntmps31
  go_wp2_with (fail)
  refine HC.out.mono ?_
  rintro e w1 ⟨rfl, hb⟩
  have HB1 := Aside0.mk (below_step HB.out hb)
  clear hb
  go_wp2
  go_ret2
  exact ⟨rfl, HB1.out⟩
def num_Round.f (k : Nat) (a0_0 : Int) (a0_1 : Int) : Option (Int × Int) := num_rounded.g num_ratio_nearest.f k a0_0 a0_1
theorem num_Round.mono : ∀ a0 a1 k, LeO (num_Round.f k a0 a1) (num_Round.f (k + 1) a0 a1) := num_rounded.mono _
theorem num_ratio_nearest.enters : Enters Try.prog 78 := enters_of Try.func78 (by kernel_rfl) rfl
set_option maxHeartbeats 4000000 in
set_option maxRecDepth 100000 in
theorem num_Round.calls (k : Nat) (a0_0 : Int) (a0_1 : Int) (r1 : Int) (r2 : Int) (w : World) (h : num_Round.f k a0_0 a0_1 = some (r1, r2)) :
    Calls Try.prog 33 #[.agg #[.int .i64 a0_0, .int .i64 a0_1]] w fun e w' => e = .returned (.tuple #[.int .i64 r1, .int .i64 r2]) ∧ Below w.heap.size w w' := by
  have HC := Aside0.mk (num_rounded.calls 78 num_ratio_nearest.f num_ratio_nearest.enters (fun n d r W hr => num_ratio_nearest.calls n d r W hr) k a0_0 a0_1 r1 r2 (w.alloc (.cells #[.int .i64 a0_0, .int .i64 a0_1] 23)) h)
  clear h
  have HB := Aside0.mk (below_alloc (Below.refl w.heap.size w) (.cells #[.int .i64 a0_0, .int .i64 a0_1] 23))
  have hu := Try.underlying23
  go_enter Try.func33, Try.ntmps33
  go_wp2_with (fail)
  refine HC.out.mono ?_
  rintro e w1 ⟨rfl, hb⟩
  have HB1 := Aside0.mk (below_step HB.out hb)
  clear hb
  go_wp2
  go_ret2
  exact ⟨rfl, HB1.out⟩
/-! ### withylaw01_NumBasics: function 11 -/
def withylaw01_NumBasics.f (k : Nat) (a0_0 : Int) (a0_1 : Int) (a1_0 : Int) (a1_1 : Int) (a2 : Int) (a3 : Int) : Option (Bool) := (num_Check.f k a0_0 a0_1).bind fun t696 => ((withyref01_Check.f k a0_0 a0_1).bind fun t697 => (if t696 = t697 then ((num_Make.f k a2 a3).bind fun bt698 => ((withyref01_Make.f k a2 a3).bind fun bt702 => ((num_Neg.f k a0_0 a0_1).bind fun bt706 => ((withyref01_Neg.f k a0_0 a0_1).bind fun bt710 => ((num_Cmp.f k a0_0 a0_1 a1_0 a1_1).bind fun bt714 => ((withyref01_Cmp.f k a0_0 a0_1 a1_0 a1_1).bind fun bt716 => ((num_Whole.f k a0_0 a0_1).bind fun bt718 => ((withyref01_Whole.f k a0_0 a0_1).bind fun bt720 => (if bt698.2.2 = bt702.2.2 then (if (bt698.1 == bt702.1 && (bt698.2.1 == bt702.2.1)) = true then (if bt706.2.2 = bt710.2.2 then (if (bt706.1 == bt710.1 && (bt706.2.1 == bt710.2.1)) = true then (if bt714.2 = bt716.2 then (if bt714.1 = bt716.1 then (if bt718.2 = bt720.2 then (if (bt718.1 == bt720.1) = true then ((withylaw01_summed.f k).bind fun t722 => (some t722)) else (some false)) else (some false)) else (some false)) else (some false)) else (some false)) else (some false)) else (some false)) else (some false)))))))))) else (some false)))
theorem withylaw01_NumBasics.mono : ∀ a0 a1 a2 a3 a4 a5 k, LeO (withylaw01_NumBasics.f k a0 a1 a2 a3 a4 a5) (withylaw01_NumBasics.f (k + 1) a0 a1 a2 a3 a4 a5) := by
  intro a0 a1 a2 a3 a4 a5 k
  unfold withylaw01_NumBasics.f
  repeat' first
      | (with_reducible exact num_Check.mono _ _ _)
      | (with_reducible exact num_Cmp.mono _ _ _ _ _)
      | (with_reducible exact num_Make.mono _ _ _)
      | (with_reducible exact num_Neg.mono _ _ _)
      | (with_reducible exact num_Whole.mono _ _ _)
      | (with_reducible exact withylaw01_summed.mono _)
      | (with_reducible exact withyref01_Check.mono _ _ _)
      | (with_reducible exact withyref01_Cmp.mono _ _ _ _ _)
      | (with_reducible exact withyref01_Make.mono _ _ _)
      | (with_reducible exact withyref01_Neg.mono _ _ _)
      | (with_reducible exact withyref01_Whole.mono _ _ _)
      | (with_reducible exact LeO.refl _)
      | (with_reducible exact LeO.none _)
      | (with_reducible refine LeO.ite ?_ ?_)
      | (with_reducible refine LeO.bind ?_ (fun _ => ?_))
      | (with_reducible refine LeO.exc (fun _ => ?_) (fun _ => ?_))
      | exact num_Check.mono _ _ _
      | exact num_Cmp.mono _ _ _ _ _
      | exact num_Make.mono _ _ _
      | exact num_Neg.mono _ _ _
      | exact num_Whole.mono _ _ _
      | exact withylaw01_summed.mono _
      | exact withyref01_Check.mono _ _ _
      | exact withyref01_Cmp.mono _ _ _ _ _
      | exact withyref01_Make.mono _ _ _
      | exact withyref01_Neg.mono _ _ _
      | exact withyref01_Whole.mono _ _ _
      | exact LeO.none _
      | refine LeO.ite ?_ ?_
      | refine LeO.bind ?_ (fun _ => ?_)
set_option maxHeartbeats 8000000 in
set_option maxRecDepth 100000 in
theorem withylaw01_NumBasics.calls (k : Nat) (a0_0 : Int) (a0_1 : Int) (a1_0 : Int) (a1_1 : Int) (a2 : Int) (a3 : Int) (r : Bool) (w : World) (h : withylaw01_NumBasics.f k a0_0 a0_1 a1_0 a1_1 a2 a3 = some r) :
    Calls Try.prog 11 #[.agg #[.int .i64 a0_0, .int .i64 a0_1], .agg #[.int .i64 a1_0, .int .i64 a1_1], .int .i64 a2, .int .i64 a3] w fun e w' => e = .returned (.bool r) ∧ Below w.heap.size w w' := by
  have hu23 := Try.underlying23
  have HB := Aside0.mk (Below.refl w.heap.size w)
  have H : ((num_Check.f k a0_0 a0_1).bind fun t696 => ((withyref01_Check.f k a0_0 a0_1).bind fun t697 => (if t696 = t697 then ((num_Make.f k a2 a3).bind fun bt698 => ((withyref01_Make.f k a2 a3).bind fun bt702 => ((num_Neg.f k a0_0 a0_1).bind fun bt706 => ((withyref01_Neg.f k a0_0 a0_1).bind fun bt710 => ((num_Cmp.f k a0_0 a0_1 a1_0 a1_1).bind fun bt714 => ((withyref01_Cmp.f k a0_0 a0_1 a1_0 a1_1).bind fun bt716 => ((num_Whole.f k a0_0 a0_1).bind fun bt718 => ((withyref01_Whole.f k a0_0 a0_1).bind fun bt720 => (if bt698.2.2 = bt702.2.2 then (if (bt698.1 == bt702.1 && (bt698.2.1 == bt702.2.1)) = true then (if bt706.2.2 = bt710.2.2 then (if (bt706.1 == bt710.1 && (bt706.2.1 == bt710.2.1)) = true then (if bt714.2 = bt716.2 then (if bt714.1 = bt716.1 then (if bt718.2 = bt720.2 then (if (bt718.1 == bt720.1) = true then ((withylaw01_summed.f k).bind fun t722 => (some t722)) else (some false)) else (some false)) else (some false)) else (some false)) else (some false)) else (some false)) else (some false)) else (some false)))))))))) else (some false)))) = some r := h
  clear h
  replace H := Option.bind_eq_some_iff.mp H
  obtain ⟨t696, A50, H⟩ := H
  replace H : ((withyref01_Check.f k a0_0 a0_1).bind fun t697 => (if t696 = t697 then ((num_Make.f k a2 a3).bind fun bt698 => ((withyref01_Make.f k a2 a3).bind fun bt702 => ((num_Neg.f k a0_0 a0_1).bind fun bt706 => ((withyref01_Neg.f k a0_0 a0_1).bind fun bt710 => ((num_Cmp.f k a0_0 a0_1 a1_0 a1_1).bind fun bt714 => ((withyref01_Cmp.f k a0_0 a0_1 a1_0 a1_1).bind fun bt716 => ((num_Whole.f k a0_0 a0_1).bind fun bt718 => ((withyref01_Whole.f k a0_0 a0_1).bind fun bt720 => (if bt698.2.2 = bt702.2.2 then (if (bt698.1 == bt702.1 && (bt698.2.1 == bt702.2.1)) = true then (if bt706.2.2 = bt710.2.2 then (if (bt706.1 == bt710.1 && (bt706.2.1 == bt710.2.1)) = true then (if bt714.2 = bt716.2 then (if bt714.1 = bt716.1 then (if bt718.2 = bt720.2 then (if (bt718.1 == bt720.1) = true then ((withylaw01_summed.f k).bind fun t722 => (some t722)) else (some false)) else (some false)) else (some false)) else (some false)) else (some false)) else (some false)) else (some false)) else (some false)))))))))) else (some false))) = some r := H
  have A5 := Aside0.mk A50
  clear A50
  replace H := Option.bind_eq_some_iff.mp H
  obtain ⟨t697, A60, H⟩ := H
  replace H : (if t696 = t697 then ((num_Make.f k a2 a3).bind fun bt698 => ((withyref01_Make.f k a2 a3).bind fun bt702 => ((num_Neg.f k a0_0 a0_1).bind fun bt706 => ((withyref01_Neg.f k a0_0 a0_1).bind fun bt710 => ((num_Cmp.f k a0_0 a0_1 a1_0 a1_1).bind fun bt714 => ((withyref01_Cmp.f k a0_0 a0_1 a1_0 a1_1).bind fun bt716 => ((num_Whole.f k a0_0 a0_1).bind fun bt718 => ((withyref01_Whole.f k a0_0 a0_1).bind fun bt720 => (if bt698.2.2 = bt702.2.2 then (if (bt698.1 == bt702.1 && (bt698.2.1 == bt702.2.1)) = true then (if bt706.2.2 = bt710.2.2 then (if (bt706.1 == bt710.1 && (bt706.2.1 == bt710.2.1)) = true then (if bt714.2 = bt716.2 then (if bt714.1 = bt716.1 then (if bt718.2 = bt720.2 then (if (bt718.1 == bt720.1) = true then ((withylaw01_summed.f k).bind fun t722 => (some t722)) else (some false)) else (some false)) else (some false)) else (some false)) else (some false)) else (some false)) else (some false)) else (some false)))))))))) else (some false)) = some r := H
  have A6 := Aside0.mk A60
  clear A60
  by_cases c7 : t696 = t697
  · rw [if_pos c7] at H
    have c7b0 : (t696 == t697) = true := beq_iff_eq.mpr c7
    have c7b1 : (t696 != t697) = false := bne_eq_false_iff_eq.mpr c7
    clear c7
    replace H := Option.bind_eq_some_iff.mp H
    obtain ⟨⟨t698, t699, t700⟩, A80, H⟩ := H
    replace H : ((withyref01_Make.f k a2 a3).bind fun bt702 => ((num_Neg.f k a0_0 a0_1).bind fun bt706 => ((withyref01_Neg.f k a0_0 a0_1).bind fun bt710 => ((num_Cmp.f k a0_0 a0_1 a1_0 a1_1).bind fun bt714 => ((withyref01_Cmp.f k a0_0 a0_1 a1_0 a1_1).bind fun bt716 => ((num_Whole.f k a0_0 a0_1).bind fun bt718 => ((withyref01_Whole.f k a0_0 a0_1).bind fun bt720 => (if t700 = bt702.2.2 then (if (t698 == bt702.1 && (t699 == bt702.2.1)) = true then (if bt706.2.2 = bt710.2.2 then (if (bt706.1 == bt710.1 && (bt706.2.1 == bt710.2.1)) = true then (if bt714.2 = bt716.2 then (if bt714.1 = bt716.1 then (if bt718.2 = bt720.2 then (if (bt718.1 == bt720.1) = true then ((withylaw01_summed.f k).bind fun t722 => (some t722)) else (some false)) else (some false)) else (some false)) else (some false)) else (some false)) else (some false)) else (some false)) else (some false))))))))) = some r := H
    have A8 := Aside0.mk A80
    clear A80
    replace H := Option.bind_eq_some_iff.mp H
    obtain ⟨⟨t702, t703, t704⟩, A90, H⟩ := H
    replace H : ((num_Neg.f k a0_0 a0_1).bind fun bt706 => ((withyref01_Neg.f k a0_0 a0_1).bind fun bt710 => ((num_Cmp.f k a0_0 a0_1 a1_0 a1_1).bind fun bt714 => ((withyref01_Cmp.f k a0_0 a0_1 a1_0 a1_1).bind fun bt716 => ((num_Whole.f k a0_0 a0_1).bind fun bt718 => ((withyref01_Whole.f k a0_0 a0_1).bind fun bt720 => (if t700 = t704 then (if (t698 == t702 && (t699 == t703)) = true then (if bt706.2.2 = bt710.2.2 then (if (bt706.1 == bt710.1 && (bt706.2.1 == bt710.2.1)) = true then (if bt714.2 = bt716.2 then (if bt714.1 = bt716.1 then (if bt718.2 = bt720.2 then (if (bt718.1 == bt720.1) = true then ((withylaw01_summed.f k).bind fun t722 => (some t722)) else (some false)) else (some false)) else (some false)) else (some false)) else (some false)) else (some false)) else (some false)) else (some false)))))))) = some r := H
    have A9 := Aside0.mk A90
    clear A90
    replace H := Option.bind_eq_some_iff.mp H
    obtain ⟨⟨t706, t707, t708⟩, A100, H⟩ := H
    replace H : ((withyref01_Neg.f k a0_0 a0_1).bind fun bt710 => ((num_Cmp.f k a0_0 a0_1 a1_0 a1_1).bind fun bt714 => ((withyref01_Cmp.f k a0_0 a0_1 a1_0 a1_1).bind fun bt716 => ((num_Whole.f k a0_0 a0_1).bind fun bt718 => ((withyref01_Whole.f k a0_0 a0_1).bind fun bt720 => (if t700 = t704 then (if (t698 == t702 && (t699 == t703)) = true then (if t708 = bt710.2.2 then (if (t706 == bt710.1 && (t707 == bt710.2.1)) = true then (if bt714.2 = bt716.2 then (if bt714.1 = bt716.1 then (if bt718.2 = bt720.2 then (if (bt718.1 == bt720.1) = true then ((withylaw01_summed.f k).bind fun t722 => (some t722)) else (some false)) else (some false)) else (some false)) else (some false)) else (some false)) else (some false)) else (some false)) else (some false))))))) = some r := H
    have A10 := Aside0.mk A100
    clear A100
    replace H := Option.bind_eq_some_iff.mp H
    obtain ⟨⟨t710, t711, t712⟩, A110, H⟩ := H
    replace H : ((num_Cmp.f k a0_0 a0_1 a1_0 a1_1).bind fun bt714 => ((withyref01_Cmp.f k a0_0 a0_1 a1_0 a1_1).bind fun bt716 => ((num_Whole.f k a0_0 a0_1).bind fun bt718 => ((withyref01_Whole.f k a0_0 a0_1).bind fun bt720 => (if t700 = t704 then (if (t698 == t702 && (t699 == t703)) = true then (if t708 = t712 then (if (t706 == t710 && (t707 == t711)) = true then (if bt714.2 = bt716.2 then (if bt714.1 = bt716.1 then (if bt718.2 = bt720.2 then (if (bt718.1 == bt720.1) = true then ((withylaw01_summed.f k).bind fun t722 => (some t722)) else (some false)) else (some false)) else (some false)) else (some false)) else (some false)) else (some false)) else (some false)) else (some false)))))) = some r := H
    have A11 := Aside0.mk A110
    clear A110
    replace H := Option.bind_eq_some_iff.mp H
    obtain ⟨⟨t714, t715⟩, A120, H⟩ := H
    replace H : ((withyref01_Cmp.f k a0_0 a0_1 a1_0 a1_1).bind fun bt716 => ((num_Whole.f k a0_0 a0_1).bind fun bt718 => ((withyref01_Whole.f k a0_0 a0_1).bind fun bt720 => (if t700 = t704 then (if (t698 == t702 && (t699 == t703)) = true then (if t708 = t712 then (if (t706 == t710 && (t707 == t711)) = true then (if t715 = bt716.2 then (if t714 = bt716.1 then (if bt718.2 = bt720.2 then (if (bt718.1 == bt720.1) = true then ((withylaw01_summed.f k).bind fun t722 => (some t722)) else (some false)) else (some false)) else (some false)) else (some false)) else (some false)) else (some false)) else (some false)) else (some false))))) = some r := H
    have A12 := Aside0.mk A120
    clear A120
    replace H := Option.bind_eq_some_iff.mp H
    obtain ⟨⟨t716, t717⟩, A130, H⟩ := H
    replace H : ((num_Whole.f k a0_0 a0_1).bind fun bt718 => ((withyref01_Whole.f k a0_0 a0_1).bind fun bt720 => (if t700 = t704 then (if (t698 == t702 && (t699 == t703)) = true then (if t708 = t712 then (if (t706 == t710 && (t707 == t711)) = true then (if t715 = t717 then (if t714 = t716 then (if bt718.2 = bt720.2 then (if (bt718.1 == bt720.1) = true then ((withylaw01_summed.f k).bind fun t722 => (some t722)) else (some false)) else (some false)) else (some false)) else (some false)) else (some false)) else (some false)) else (some false)) else (some false)))) = some r := H
    have A13 := Aside0.mk A130
    clear A130
    replace H := Option.bind_eq_some_iff.mp H
    obtain ⟨⟨t718, t719⟩, A140, H⟩ := H
    replace H : ((withyref01_Whole.f k a0_0 a0_1).bind fun bt720 => (if t700 = t704 then (if (t698 == t702 && (t699 == t703)) = true then (if t708 = t712 then (if (t706 == t710 && (t707 == t711)) = true then (if t715 = t717 then (if t714 = t716 then (if t719 = bt720.2 then (if (t718 == bt720.1) = true then ((withylaw01_summed.f k).bind fun t722 => (some t722)) else (some false)) else (some false)) else (some false)) else (some false)) else (some false)) else (some false)) else (some false)) else (some false))) = some r := H
    have A14 := Aside0.mk A140
    clear A140
    replace H := Option.bind_eq_some_iff.mp H
    obtain ⟨⟨t720, t721⟩, A150, H⟩ := H
    replace H : (if t700 = t704 then (if (t698 == t702 && (t699 == t703)) = true then (if t708 = t712 then (if (t706 == t710 && (t707 == t711)) = true then (if t715 = t717 then (if t714 = t716 then (if t719 = t721 then (if (t718 == t720) = true then ((withylaw01_summed.f k).bind fun t722 => (some t722)) else (some false)) else (some false)) else (some false)) else (some false)) else (some false)) else (some false)) else (some false)) else (some false)) = some r := H
    have A15 := Aside0.mk A150
    clear A150
    by_cases c16 : t700 = t704
    · rw [if_pos c16] at H
      have c16b0 : (t700 == t704) = true := beq_iff_eq.mpr c16
      have c16b1 : (t700 != t704) = false := bne_eq_false_iff_eq.mpr c16
      clear c16
      by_cases c17 : (t698 == t702 && (t699 == t703)) = true
      · rw [if_pos c17] at H
        have c17b0 : (t698 == t702 && (t699 == t703)) = true := c17
        (try (have c17b1 : decide (t698 = t702 && (t699 == t703)) = true := by simpa using c17))
        (try (have c17b2 : (t698 == t702 && (t699 == t703)) = true := by simpa using c17))
        clear c17
        by_cases c18 : t708 = t712
        · rw [if_pos c18] at H
          have c18b0 : (t708 == t712) = true := beq_iff_eq.mpr c18
          have c18b1 : (t708 != t712) = false := bne_eq_false_iff_eq.mpr c18
          clear c18
          by_cases c19 : (t706 == t710 && (t707 == t711)) = true
          · rw [if_pos c19] at H
            have c19b0 : (t706 == t710 && (t707 == t711)) = true := c19
            (try (have c19b1 : decide (t706 = t710 && (t707 == t711)) = true := by simpa using c19))
            (try (have c19b2 : (t706 == t710 && (t707 == t711)) = true := by simpa using c19))
            clear c19
            by_cases c20 : t715 = t717
            · rw [if_pos c20] at H
              have c20b0 : (t715 == t717) = true := beq_iff_eq.mpr c20
              have c20b1 : (t715 != t717) = false := bne_eq_false_iff_eq.mpr c20
              clear c20
              by_cases c21 : t714 = t716
              · rw [if_pos c21] at H
                have c21b0 : (t714 == t716) = true := beq_iff_eq.mpr c21
                have c21b1 : (t714 != t716) = false := bne_eq_false_iff_eq.mpr c21
                clear c21
                by_cases c22 : t719 = t721
                · rw [if_pos c22] at H
                  have c22b0 : (t719 == t721) = true := beq_iff_eq.mpr c22
                  have c22b1 : (t719 != t721) = false := bne_eq_false_iff_eq.mpr c22
                  clear c22
                  by_cases c23 : (t718 == t720) = true
                  · rw [if_pos c23] at H
                    have c23b0 : (t718 == t720) = true := c23
                    (try (have c23b1 : decide (t718 = t720) = true := by simpa using c23))
                    (try (have c23b2 : (t718 == t720) = true := by simpa using c23))
                    clear c23
                    replace H := Option.bind_eq_some_iff.mp H
                    obtain ⟨t722, A240, H⟩ := H
                    replace H : (some t722) = some r := H
                    have A24 := Aside0.mk A240
                    clear A240
                    obtain rfl := Option.some.inj H
                    as_aux_lemma =>
                      go_enter Try.func11, Try.ntmps11
                      try go_wp2_with (first | ((with_reducible refine gate_dst (N := 4) rfl ?_); refine box_event ?hg (N := 4) ?hd (cs := #[.int .i64 a0_0, .int .i64 a0_1]) (t := 23) ?hr ?_; (case hd => rfl); (case hg => rfl); (case hr => first | (go_simp; done) | (go_simp; rfl)); intro gb694 hg w25 hbox hb; have BK694 := Aside0.mk hbox; have GW694 := bwg_ HB hg; have GE694 := bwg_ HB hg; replace HB := bws_ HB hb; clear hb hbox hg) | ((with_reducible refine gate_dst (N := 5) rfl ?_); refine box_event ?hg (N := 5) ?hd (cs := #[.int .i64 a1_0, .int .i64 a1_1]) (t := 23) ?hr ?_; (case hd => rfl); (case hg => rfl); (case hr => first | (go_simp; done) | (go_simp; rfl)); intro gb695 hg w26 hbox hb; have BK695 := Aside0.mk hbox; have GW695 := bwg_ HB hg; have GE695 := bwg_ HB hg; replace HB := bws_ HB hb; have NB694_695 := bkl_ BK694 hg; have NB695_694 := bkr_ BK694 hg; replace BK694 := bkb_ BK694 hb; clear hb hbox hg))
                      replace BK694 := Aside0.mk (blk_drew BK694.out)
                      replace BK695 := Aside0.mk (blk_drew BK695.out)
                      replace HB := Aside0.mk (below_drew1 HB.out)
                      refine start_ (n := 5) (S := fun w' => w'.cell? ⟨gb694, 0, none⟩ = some (.int .i64 a0_0) ∧ w'.cell? ⟨gb694, 1, none⟩ = some (.int .i64 a0_1)) (ds := []) #[false, false, false, false, false] (by kernel_rfl) rfl rfl ⟨(blk_cell BK694.out 0).trans rfl, (blk_cell BK694.out 1).trans rfl⟩ (fun hHeld => ?_)
                      generalize w26.drew = w27 at BK694 BK695 HB hHeld ⊢
                      refine take_ (i := 0) (N := some 25) (v := ?_) (a' := ?_) #[true, false, false, false, false] rfl rfl (by kernel_rfl) (fun _ _ _ h => h) (Or.inl ⟨by rfl, ?_⟩) hHeld ?_ ?_
                      rotate_left
                      · rintro w' ⟨s0, s1⟩
                        go_simp
                        with_reducible rfl
                      rotate_left
                      · simp only [Act.put, List.setIfInBounds_toArray, List.set_cons_zero, List.set_cons_succ, i64_w, i32_w]
                        rfl
                      refine take_ (i := 2) (N := some 27) (v := ?_) (a' := ?_) #[true, false, true, false, false] rfl rfl (by kernel_rfl) (fun _ _ _ h => h) (Or.inl ⟨by rfl, ?_⟩) hHeld ?_ ?_
                      rotate_left
                      · rintro w' ⟨s0, s1⟩
                        go_simp
                        with_reducible rfl
                      rotate_left
                      · simp only [Act.put, List.setIfInBounds_toArray, List.set_cons_zero, List.set_cons_succ, i64_w, i32_w]
                        rfl
                      refine one_ (i := 1) (N := some 26) #[true, true, true, false, false] rfl rfl (by kernel_rfl) (by decide) (fun K hK => ?_)
                      refine gos_ Try.func46 #[.agg #[.int .i64 a0_0, .int .i64 a0_1]] ?_
                      with_reducible refine (num_Check.calls k a0_0 a0_1 t696 _ A5.out).mono ?_
                      rintro e w28 ⟨rfl, hb⟩
                      refine ⟨_, rfl, ?_⟩
                      replace BK694 := bkb_ BK694 hb
                      replace BK695 := bkb_ BK695 hb
                      replace HB := bws_ HB hb
                      (try clear hb)
                      (try clear hb2)
                      (try clear hk)
                      (try clear hi)
                      refine hK.out _ _ ⟨(blk_cell BK694.out 0).trans rfl, (blk_cell BK694.out 1).trans rfl⟩ (fun hHeld => ?_)
                      clear hK K
                      refine norm_ (a' := ?_) ?_ ?_
                      rotate_left
                      · show Act.put _ (some 26) _ = _
                        simp only [Act.put, List.setIfInBounds_toArray, List.set_cons_zero, List.set_cons_succ, i64_w, i32_w]
                        rfl
                      refine one_ (i := 3) (N := some 28) #[true, true, true, true, false] rfl rfl (by kernel_rfl) (by decide) (fun K hK => ?_)
                      refine gos_ Try.func41 #[.agg #[.int .i64 a0_0, .int .i64 a0_1]] ?_
                      with_reducible refine (withyref01_Check.calls k a0_0 a0_1 t697 _ A6.out).mono ?_
                      rintro e w29 ⟨rfl, hb⟩
                      refine ⟨_, rfl, ?_⟩
                      replace BK694 := bkb_ BK694 hb
                      replace BK695 := bkb_ BK695 hb
                      replace HB := bws_ HB hb
                      (try clear hb)
                      (try clear hb2)
                      (try clear hk)
                      (try clear hi)
                      refine hK.out _ _ ⟨(blk_cell BK694.out 0).trans rfl, (blk_cell BK694.out 1).trans rfl⟩ (fun hHeld => ?_)
                      clear hK K
                      refine norm_ (a' := ?_) ?_ ?_
                      rotate_left
                      · show Act.put _ (some 28) _ = _
                        simp only [Act.put, List.setIfInBounds_toArray, List.set_cons_zero, List.set_cons_succ, i64_w, i32_w]
                        rfl
                      refine pure_ (i := 4) (N := some 29) (v := ?_) (a' := ?_) #[true, true, true, true, true] rfl rfl (by kernel_rfl) (fun _ _ _ h => h) (Or.inl ⟨by rfl, ?_⟩) ?_ ?_
                      rotate_left
                      · intro w'
                        go_simp
                        with_reducible rfl
                      rotate_left
                      · simp only [Act.put, List.setIfInBounds_toArray, List.set_cons_zero, List.set_cons_succ, i64_w, i32_w]
                        rfl
                      refine done_ (by kernel_rfl) ?_
                      try go_wp2_with (first | ((with_reducible refine gate_callee (f := 47) rfl ?_); refine gla_ (some 33) Try.func47 #[.int .i64 a2, .int .i64 a3] ?_; (with_reducible refine (num_Make.calls k a2 a3 t698 t699 t700 _ A8.out).mono ?_); rintro e w30 ⟨rfl, hb⟩; refine ⟨_, rfl, ?_⟩; replace BK694 := bkb_ BK694 hb; replace BK695 := bkb_ BK695 hb; replace HB := bws_ HB hb; (try clear hb); (try clear hb2); (try clear hk); (try clear hi)) | ((with_reducible refine gate_dst (N := 9) rfl ?_); refine box_event ?hg (N := 9) ?hd (cs := #[.int .i64 0, .int .i64 0]) (t := 23) ?hr ?_; (case hd => rfl); (case hg => rfl); (case hr => first | (go_simp; done) | (go_simp; rfl)); intro gb701 hg w31 hbox hb; have BK701 := Aside0.mk hbox; have GW701 := bwg_ HB hg; have GE701 := bwg_ HB hg; replace HB := bws_ HB hb; have NB694_701 := bkl_ BK694 hg; have NB701_694 := bkr_ BK694 hg; replace BK694 := bkb_ BK694 hb; have NB695_701 := bkl_ BK695 hg; have NB701_695 := bkr_ BK695 hg; replace BK695 := bkb_ BK695 hb; clear hb hbox hg; have hnb32 := NB701_694.out; have hnc32 := NB694_701.out; have hnb33 := NB701_695.out; have hnc33 := NB695_701.out; obtain ⟨hcz34_0, hcz34_1, hfz34_0, hfz34_1⟩ := bc2_ BK701) | ((with_reducible refine gate_callee (f := 48) rfl ?_); refine gla_ (some 39) Try.func48 #[.int .i64 a2, .int .i64 a3] ?_; (with_reducible refine (withyref01_Make.calls k a2 a3 t702 t703 t704 _ A9.out).mono ?_); rintro e w35 ⟨rfl, hb⟩; refine ⟨_, rfl, ?_⟩; replace BK694 := Aside0.mk (blk_below (g := gb694) (o := .cells #[.int .i64 a0_0, .int .i64 a0_1] 23 (0, 0)) (by refine bf_ ?_ NB694_701; refine bf_ ?_ NB694_701; exact bk_ BK694) hb); replace BK695 := Aside0.mk (blk_below (g := gb695) (o := .cells #[.int .i64 a1_0, .int .i64 a1_1] 23 (0, 0)) (by refine bf_ ?_ NB695_701; refine bf_ ?_ NB695_701; exact bk_ BK695) hb); replace BK701 := Aside0.mk (blk_below (g := gb701) (o := .cells #[.int .i64 t698, .int .i64 t699] 23 (0, 0)) (by refine bp_ (cs := #[.int .i64 t698, .int .i64 0]) ?_ 1; refine bp_ (cs := #[.int .i64 0, .int .i64 0]) ?_ 0; exact bk_ BK701) hb); replace HB := bws_ HB hb; (try clear hb); (try clear hb2); (try clear hk); (try clear hi)) | ((with_reducible refine gate_dst (N := 11) rfl ?_); refine box_event ?hg (N := 11) ?hd (cs := #[.int .i64 0, .int .i64 0]) (t := 23) ?hr ?_; (case hd => rfl); (case hg => rfl); (case hr => first | (go_simp; done) | (go_simp; rfl)); intro gb705 hg w36 hbox hb; have BK705 := Aside0.mk hbox; have GW705 := bwg_ HB hg; have GE705 := bwg_ HB hg; replace HB := bws_ HB hb; have NB694_705 := bkl_ BK694 hg; have NB705_694 := bkr_ BK694 hg; replace BK694 := bkb_ BK694 hb; have NB695_705 := bkl_ BK695 hg; have NB705_695 := bkr_ BK695 hg; replace BK695 := bkb_ BK695 hb; have NB701_705 := bkl_ BK701 hg; have NB705_701 := bkr_ BK701 hg; replace BK701 := bkb_ BK701 hb; clear hb hbox hg; have hnb37 := NB705_694.out; have hnc37 := NB694_705.out; have hnb38 := NB705_695.out; have hnc38 := NB695_705.out; have hnb39 := NB705_701.out; have hnc39 := NB701_705.out; obtain ⟨hcz40_0, hcz40_1, hfz40_0, hfz40_1⟩ := bc2_ BK705; have hnb41 := NB694_695.out; have hnc41 := NB695_694.out; obtain ⟨hcz42_0, hcz42_1, hfz42_0, hfz42_1⟩ := bc2_ BK694) | ((with_reducible refine gate_callee (f := 43) rfl ?_); refine gla_ (some 44) Try.func43 #[.agg #[.int .i64 a0_0, .int .i64 a0_1]] ?_; (with_reducible refine (num_Neg.calls k a0_0 a0_1 t706 t707 t708 _ A10.out).mono ?_); rintro e w43 ⟨rfl, hb⟩; refine ⟨_, rfl, ?_⟩; replace BK694 := Aside0.mk (blk_below (g := gb694) (o := .cells #[.int .i64 a0_0, .int .i64 a0_1] 23 (0, 0)) (by refine bf_ ?_ NB694_705; refine bf_ ?_ NB694_705; exact bk_ BK694) hb); replace BK695 := Aside0.mk (blk_below (g := gb695) (o := .cells #[.int .i64 a1_0, .int .i64 a1_1] 23 (0, 0)) (by refine bf_ ?_ NB695_705; refine bf_ ?_ NB695_705; exact bk_ BK695) hb); replace BK701 := Aside0.mk (blk_below (g := gb701) (o := .cells #[.int .i64 t698, .int .i64 t699] 23 (0, 0)) (by refine bf_ ?_ NB701_705; refine bf_ ?_ NB701_705; exact bk_ BK701) hb); replace BK705 := Aside0.mk (blk_below (g := gb705) (o := .cells #[.int .i64 t702, .int .i64 t703] 23 (0, 0)) (by refine bp_ (cs := #[.int .i64 t702, .int .i64 0]) ?_ 1; refine bp_ (cs := #[.int .i64 0, .int .i64 0]) ?_ 0; exact bk_ BK705) hb); replace HB := bws_ HB hb; (try clear hb); (try clear hb2); (try clear hk); (try clear hi)) | ((with_reducible refine gate_dst (N := 13) rfl ?_); refine box_event ?hg (N := 13) ?hd (cs := #[.int .i64 0, .int .i64 0]) (t := 23) ?hr ?_; (case hd => rfl); (case hg => rfl); (case hr => first | (go_simp; done) | (go_simp; rfl)); intro gb709 hg w44 hbox hb; have BK709 := Aside0.mk hbox; have GW709 := bwg_ HB hg; have GE709 := bwg_ HB hg; replace HB := bws_ HB hb; have NB694_709 := bkl_ BK694 hg; have NB709_694 := bkr_ BK694 hg; replace BK694 := bkb_ BK694 hb; have NB695_709 := bkl_ BK695 hg; have NB709_695 := bkr_ BK695 hg; replace BK695 := bkb_ BK695 hb; have NB701_709 := bkl_ BK701 hg; have NB709_701 := bkr_ BK701 hg; replace BK701 := bkb_ BK701 hb; have NB705_709 := bkl_ BK705 hg; have NB709_705 := bkr_ BK705 hg; replace BK705 := bkb_ BK705 hb; clear hb hbox hg; have hnb45 := NB709_694.out; have hnc45 := NB694_709.out; have hnb46 := NB709_695.out; have hnc46 := NB695_709.out; have hnb47 := NB709_701.out; have hnc47 := NB701_709.out; have hnb48 := NB709_705.out; have hnc48 := NB705_709.out; obtain ⟨hcz49_0, hcz49_1, hfz49_0, hfz49_1⟩ := bc2_ BK709; obtain ⟨hcz50_0, hcz50_1, hfz50_0, hfz50_1⟩ := bc2_ BK694) | ((with_reducible refine gate_callee (f := 49) rfl ?_); refine gla_ (some 49) Try.func49 #[.agg #[.int .i64 a0_0, .int .i64 a0_1]] ?_; (with_reducible refine (withyref01_Neg.calls k a0_0 a0_1 t710 t711 t712 _ A11.out).mono ?_); rintro e w51 ⟨rfl, hb⟩; refine ⟨_, rfl, ?_⟩; replace BK694 := Aside0.mk (blk_below (g := gb694) (o := .cells #[.int .i64 a0_0, .int .i64 a0_1] 23 (0, 0)) (by refine bf_ ?_ NB694_709; refine bf_ ?_ NB694_709; exact bk_ BK694) hb); replace BK695 := Aside0.mk (blk_below (g := gb695) (o := .cells #[.int .i64 a1_0, .int .i64 a1_1] 23 (0, 0)) (by refine bf_ ?_ NB695_709; refine bf_ ?_ NB695_709; exact bk_ BK695) hb); replace BK701 := Aside0.mk (blk_below (g := gb701) (o := .cells #[.int .i64 t698, .int .i64 t699] 23 (0, 0)) (by refine bf_ ?_ NB701_709; refine bf_ ?_ NB701_709; exact bk_ BK701) hb); replace BK705 := Aside0.mk (blk_below (g := gb705) (o := .cells #[.int .i64 t702, .int .i64 t703] 23 (0, 0)) (by refine bf_ ?_ NB705_709; refine bf_ ?_ NB705_709; exact bk_ BK705) hb); replace BK709 := Aside0.mk (blk_below (g := gb709) (o := .cells #[.int .i64 t706, .int .i64 t707] 23 (0, 0)) (by refine bp_ (cs := #[.int .i64 t706, .int .i64 0]) ?_ 1; refine bp_ (cs := #[.int .i64 0, .int .i64 0]) ?_ 0; exact bk_ BK709) hb); replace HB := bws_ HB hb; (try clear hb); (try clear hb2); (try clear hk); (try clear hi)) | ((with_reducible refine gate_dst (N := 15) rfl ?_); refine box_event ?hg (N := 15) ?hd (cs := #[.int .i64 0, .int .i64 0]) (t := 23) ?hr ?_; (case hd => rfl); (case hg => rfl); (case hr => first | (go_simp; done) | (go_simp; rfl)); intro gb713 hg w52 hbox hb; have BK713 := Aside0.mk hbox; have GW713 := bwg_ HB hg; have GE713 := bwg_ HB hg; replace HB := bws_ HB hb; have NB694_713 := bkl_ BK694 hg; have NB713_694 := bkr_ BK694 hg; replace BK694 := bkb_ BK694 hb; have NB695_713 := bkl_ BK695 hg; have NB713_695 := bkr_ BK695 hg; replace BK695 := bkb_ BK695 hb; have NB701_713 := bkl_ BK701 hg; have NB713_701 := bkr_ BK701 hg; replace BK701 := bkb_ BK701 hb; have NB705_713 := bkl_ BK705 hg; have NB713_705 := bkr_ BK705 hg; replace BK705 := bkb_ BK705 hb; have NB709_713 := bkl_ BK709 hg; have NB713_709 := bkr_ BK709 hg; replace BK709 := bkb_ BK709 hb; clear hb hbox hg; have hnb53 := NB713_694.out; have hnc53 := NB694_713.out; have hnb54 := NB713_695.out; have hnc54 := NB695_713.out; have hnb55 := NB713_701.out; have hnc55 := NB701_713.out; have hnb56 := NB713_705.out; have hnc56 := NB705_713.out; have hnb57 := NB713_709.out; have hnc57 := NB709_713.out; obtain ⟨hcz58_0, hcz58_1, hfz58_0, hfz58_1⟩ := bc2_ BK713; obtain ⟨hcz59_0, hcz59_1, hfz59_0, hfz59_1⟩ := bc2_ BK694; obtain ⟨hcz60_0, hcz60_1, hfz60_0, hfz60_1⟩ := bc2_ BK695) | ((with_reducible refine gate_callee (f := 26) rfl ?_); refine gla_ (some 55) Try.func26 #[.agg #[.int .i64 a0_0, .int .i64 a0_1], .agg #[.int .i64 a1_0, .int .i64 a1_1]] ?_; (with_reducible refine (num_Cmp.calls k a0_0 a0_1 a1_0 a1_1 t714 t715 _ A12.out).mono ?_); rintro e w61 ⟨rfl, hb⟩; refine ⟨_, rfl, ?_⟩; replace BK694 := Aside0.mk (blk_below (g := gb694) (o := .cells #[.int .i64 a0_0, .int .i64 a0_1] 23 (0, 0)) (by refine bf_ ?_ NB694_713; refine bf_ ?_ NB694_713; exact bk_ BK694) hb); replace BK695 := Aside0.mk (blk_below (g := gb695) (o := .cells #[.int .i64 a1_0, .int .i64 a1_1] 23 (0, 0)) (by refine bf_ ?_ NB695_713; refine bf_ ?_ NB695_713; exact bk_ BK695) hb); replace BK701 := Aside0.mk (blk_below (g := gb701) (o := .cells #[.int .i64 t698, .int .i64 t699] 23 (0, 0)) (by refine bf_ ?_ NB701_713; refine bf_ ?_ NB701_713; exact bk_ BK701) hb); replace BK705 := Aside0.mk (blk_below (g := gb705) (o := .cells #[.int .i64 t702, .int .i64 t703] 23 (0, 0)) (by refine bf_ ?_ NB705_713; refine bf_ ?_ NB705_713; exact bk_ BK705) hb); replace BK709 := Aside0.mk (blk_below (g := gb709) (o := .cells #[.int .i64 t706, .int .i64 t707] 23 (0, 0)) (by refine bf_ ?_ NB709_713; refine bf_ ?_ NB709_713; exact bk_ BK709) hb); replace BK713 := Aside0.mk (blk_below (g := gb713) (o := .cells #[.int .i64 t710, .int .i64 t711] 23 (0, 0)) (by refine bp_ (cs := #[.int .i64 t710, .int .i64 0]) ?_ 1; refine bp_ (cs := #[.int .i64 0, .int .i64 0]) ?_ 0; exact bk_ BK713) hb); replace HB := bws_ HB hb; (try clear hb); (try clear hb2); (try clear hk); (try clear hi); obtain ⟨hcz62_0, hcz62_1, hfz62_0, hfz62_1⟩ := bc2_ BK694; obtain ⟨hcz63_0, hcz63_1, hfz63_0, hfz63_1⟩ := bc2_ BK695) | ((with_reducible refine gate_callee (f := 50) rfl ?_); refine gla_ (some 61) Try.func50 #[.agg #[.int .i64 a0_0, .int .i64 a0_1], .agg #[.int .i64 a1_0, .int .i64 a1_1]] ?_; (with_reducible refine (withyref01_Cmp.calls k a0_0 a0_1 a1_0 a1_1 t716 t717 _ A13.out).mono ?_); rintro e w64 ⟨rfl, hb⟩; refine ⟨_, rfl, ?_⟩; replace BK694 := bkb_ BK694 hb; replace BK695 := bkb_ BK695 hb; replace BK701 := bkb_ BK701 hb; replace BK705 := bkb_ BK705 hb; replace BK709 := bkb_ BK709 hb; replace BK713 := bkb_ BK713 hb; replace HB := bws_ HB hb; (try clear hb); (try clear hb2); (try clear hk); (try clear hi); obtain ⟨hcz65_0, hcz65_1, hfz65_0, hfz65_1⟩ := bc2_ BK694) | ((with_reducible refine gate_callee (f := 45) rfl ?_); refine gla_ (some 66) Try.func45 #[.agg #[.int .i64 a0_0, .int .i64 a0_1]] ?_; (with_reducible refine (num_Whole.calls k a0_0 a0_1 t718 t719 _ A14.out).mono ?_); rintro e w66 ⟨rfl, hb⟩; refine ⟨_, rfl, ?_⟩; replace BK694 := bkb_ BK694 hb; replace BK695 := bkb_ BK695 hb; replace BK701 := bkb_ BK701 hb; replace BK705 := bkb_ BK705 hb; replace BK709 := bkb_ BK709 hb; replace BK713 := bkb_ BK713 hb; replace HB := bws_ HB hb; (try clear hb); (try clear hb2); (try clear hk); (try clear hi); obtain ⟨hcz67_0, hcz67_1, hfz67_0, hfz67_1⟩ := bc2_ BK694) | ((with_reducible refine gate_callee (f := 51) rfl ?_); refine gla_ (some 71) Try.func51 #[.agg #[.int .i64 a0_0, .int .i64 a0_1]] ?_; (with_reducible refine (withyref01_Whole.calls k a0_0 a0_1 t720 t721 _ A15.out).mono ?_); rintro e w68 ⟨rfl, hb⟩; refine ⟨_, rfl, ?_⟩; replace BK694 := bkb_ BK694 hb; replace BK695 := bkb_ BK695 hb; replace BK701 := bkb_ BK701 hb; replace BK705 := bkb_ BK705 hb; replace BK709 := bkb_ BK709 hb; replace BK713 := bkb_ BK713 hb; replace HB := bws_ HB hb; (try clear hb); (try clear hb2); (try clear hk); (try clear hi); obtain ⟨hcz69_0, hcz69_1, hfz69_0, hfz69_1⟩ := bc2_ BK701; obtain ⟨hcz70_0, hcz70_1, hfz70_0, hfz70_1⟩ := bc2_ BK705; obtain ⟨hcz71_0, hcz71_1, hfz71_0, hfz71_1⟩ := bc2_ BK709; obtain ⟨hcz72_0, hcz72_1, hfz72_0, hfz72_1⟩ := bc2_ BK713) | (go_at_call 17; (with_reducible refine (withylaw01_summed.calls k  t722 _ A24.out).mono ?_); rintro e w73 ⟨rfl, hb⟩; replace BK694 := bkb_ BK694 hb; replace BK695 := bkb_ BK695 hb; replace BK701 := bkb_ BK701 hb; replace BK705 := bkb_ BK705 hb; replace BK709 := bkb_ BK709 hb; replace BK713 := bkb_ BK713 hb; replace HB := bws_ HB hb; (try clear hb); (try clear hb2); (try clear hk); (try clear hi)))
                      go_ret
                      exact ⟨by first | rfl | (simp [*] <;> rfl), bw_ HB⟩
                  · rw [if_neg c23] at H
                    have c23b0 : (t718 == t720) = false := by simpa using c23
                    (try (have c23b1 : decide (t718 = t720) = false := by simpa using c23))
                    (try (have c23b2 : (t718 == t720) = false := by simpa using c23))
                    (try (have c23b3 : ¬ (t718 = t720) := by simpa using c23))
                    clear c23
                    obtain rfl := Option.some.inj H
                    as_aux_lemma =>
                      go_enter Try.func11, Try.ntmps11
                      try go_wp2_with (first | ((with_reducible refine gate_dst (N := 4) rfl ?_); refine box_event ?hg (N := 4) ?hd (cs := #[.int .i64 a0_0, .int .i64 a0_1]) (t := 23) ?hr ?_; (case hd => rfl); (case hg => rfl); (case hr => first | (go_simp; done) | (go_simp; rfl)); intro gb694 hg w74 hbox hb; have BK694 := Aside0.mk hbox; have GW694 := bwg_ HB hg; have GE694 := bwg_ HB hg; replace HB := bws_ HB hb; clear hb hbox hg) | ((with_reducible refine gate_dst (N := 5) rfl ?_); refine box_event ?hg (N := 5) ?hd (cs := #[.int .i64 a1_0, .int .i64 a1_1]) (t := 23) ?hr ?_; (case hd => rfl); (case hg => rfl); (case hr => first | (go_simp; done) | (go_simp; rfl)); intro gb695 hg w75 hbox hb; have BK695 := Aside0.mk hbox; have GW695 := bwg_ HB hg; have GE695 := bwg_ HB hg; replace HB := bws_ HB hb; have NB694_695 := bkl_ BK694 hg; have NB695_694 := bkr_ BK694 hg; replace BK694 := bkb_ BK694 hb; clear hb hbox hg))
                      replace BK694 := Aside0.mk (blk_drew BK694.out)
                      replace BK695 := Aside0.mk (blk_drew BK695.out)
                      replace HB := Aside0.mk (below_drew1 HB.out)
                      refine start_ (n := 5) (S := fun w' => w'.cell? ⟨gb694, 0, none⟩ = some (.int .i64 a0_0) ∧ w'.cell? ⟨gb694, 1, none⟩ = some (.int .i64 a0_1)) (ds := []) #[false, false, false, false, false] (by kernel_rfl) rfl rfl ⟨(blk_cell BK694.out 0).trans rfl, (blk_cell BK694.out 1).trans rfl⟩ (fun hHeld => ?_)
                      generalize w75.drew = w76 at BK694 BK695 HB hHeld ⊢
                      refine take_ (i := 0) (N := some 25) (v := ?_) (a' := ?_) #[true, false, false, false, false] rfl rfl (by kernel_rfl) (fun _ _ _ h => h) (Or.inl ⟨by rfl, ?_⟩) hHeld ?_ ?_
                      rotate_left
                      · rintro w' ⟨s0, s1⟩
                        go_simp
                        with_reducible rfl
                      rotate_left
                      · simp only [Act.put, List.setIfInBounds_toArray, List.set_cons_zero, List.set_cons_succ, i64_w, i32_w]
                        rfl
                      refine take_ (i := 2) (N := some 27) (v := ?_) (a' := ?_) #[true, false, true, false, false] rfl rfl (by kernel_rfl) (fun _ _ _ h => h) (Or.inl ⟨by rfl, ?_⟩) hHeld ?_ ?_
                      rotate_left
                      · rintro w' ⟨s0, s1⟩
                        go_simp
                        with_reducible rfl
                      rotate_left
                      · simp only [Act.put, List.setIfInBounds_toArray, List.set_cons_zero, List.set_cons_succ, i64_w, i32_w]
                        rfl
                      refine one_ (i := 1) (N := some 26) #[true, true, true, false, false] rfl rfl (by kernel_rfl) (by decide) (fun K hK => ?_)
                      refine gos_ Try.func46 #[.agg #[.int .i64 a0_0, .int .i64 a0_1]] ?_
                      with_reducible refine (num_Check.calls k a0_0 a0_1 t696 _ A5.out).mono ?_
                      rintro e w77 ⟨rfl, hb⟩
                      refine ⟨_, rfl, ?_⟩
                      replace BK694 := bkb_ BK694 hb
                      replace BK695 := bkb_ BK695 hb
                      replace HB := bws_ HB hb
                      (try clear hb)
                      (try clear hb2)
                      (try clear hk)
                      (try clear hi)
                      refine hK.out _ _ ⟨(blk_cell BK694.out 0).trans rfl, (blk_cell BK694.out 1).trans rfl⟩ (fun hHeld => ?_)
                      clear hK K
                      refine norm_ (a' := ?_) ?_ ?_
                      rotate_left
                      · show Act.put _ (some 26) _ = _
                        simp only [Act.put, List.setIfInBounds_toArray, List.set_cons_zero, List.set_cons_succ, i64_w, i32_w]
                        rfl
                      refine one_ (i := 3) (N := some 28) #[true, true, true, true, false] rfl rfl (by kernel_rfl) (by decide) (fun K hK => ?_)
                      refine gos_ Try.func41 #[.agg #[.int .i64 a0_0, .int .i64 a0_1]] ?_
                      with_reducible refine (withyref01_Check.calls k a0_0 a0_1 t697 _ A6.out).mono ?_
                      rintro e w78 ⟨rfl, hb⟩
                      refine ⟨_, rfl, ?_⟩
                      replace BK694 := bkb_ BK694 hb
                      replace BK695 := bkb_ BK695 hb
                      replace HB := bws_ HB hb
                      (try clear hb)
                      (try clear hb2)
                      (try clear hk)
                      (try clear hi)
                      refine hK.out _ _ ⟨(blk_cell BK694.out 0).trans rfl, (blk_cell BK694.out 1).trans rfl⟩ (fun hHeld => ?_)
                      clear hK K
                      refine norm_ (a' := ?_) ?_ ?_
                      rotate_left
                      · show Act.put _ (some 28) _ = _
                        simp only [Act.put, List.setIfInBounds_toArray, List.set_cons_zero, List.set_cons_succ, i64_w, i32_w]
                        rfl
                      refine pure_ (i := 4) (N := some 29) (v := ?_) (a' := ?_) #[true, true, true, true, true] rfl rfl (by kernel_rfl) (fun _ _ _ h => h) (Or.inl ⟨by rfl, ?_⟩) ?_ ?_
                      rotate_left
                      · intro w'
                        go_simp
                        with_reducible rfl
                      rotate_left
                      · simp only [Act.put, List.setIfInBounds_toArray, List.set_cons_zero, List.set_cons_succ, i64_w, i32_w]
                        rfl
                      refine done_ (by kernel_rfl) ?_
                      try go_wp2_with (first | ((with_reducible refine gate_callee (f := 47) rfl ?_); refine gla_ (some 33) Try.func47 #[.int .i64 a2, .int .i64 a3] ?_; (with_reducible refine (num_Make.calls k a2 a3 t698 t699 t700 _ A8.out).mono ?_); rintro e w79 ⟨rfl, hb⟩; refine ⟨_, rfl, ?_⟩; replace BK694 := bkb_ BK694 hb; replace BK695 := bkb_ BK695 hb; replace HB := bws_ HB hb; (try clear hb); (try clear hb2); (try clear hk); (try clear hi)) | ((with_reducible refine gate_dst (N := 9) rfl ?_); refine box_event ?hg (N := 9) ?hd (cs := #[.int .i64 0, .int .i64 0]) (t := 23) ?hr ?_; (case hd => rfl); (case hg => rfl); (case hr => first | (go_simp; done) | (go_simp; rfl)); intro gb701 hg w80 hbox hb; have BK701 := Aside0.mk hbox; have GW701 := bwg_ HB hg; have GE701 := bwg_ HB hg; replace HB := bws_ HB hb; have NB694_701 := bkl_ BK694 hg; have NB701_694 := bkr_ BK694 hg; replace BK694 := bkb_ BK694 hb; have NB695_701 := bkl_ BK695 hg; have NB701_695 := bkr_ BK695 hg; replace BK695 := bkb_ BK695 hb; clear hb hbox hg; have hnb81 := NB701_694.out; have hnc81 := NB694_701.out; have hnb82 := NB701_695.out; have hnc82 := NB695_701.out; obtain ⟨hcz83_0, hcz83_1, hfz83_0, hfz83_1⟩ := bc2_ BK701) | ((with_reducible refine gate_callee (f := 48) rfl ?_); refine gla_ (some 39) Try.func48 #[.int .i64 a2, .int .i64 a3] ?_; (with_reducible refine (withyref01_Make.calls k a2 a3 t702 t703 t704 _ A9.out).mono ?_); rintro e w84 ⟨rfl, hb⟩; refine ⟨_, rfl, ?_⟩; replace BK694 := Aside0.mk (blk_below (g := gb694) (o := .cells #[.int .i64 a0_0, .int .i64 a0_1] 23 (0, 0)) (by refine bf_ ?_ NB694_701; refine bf_ ?_ NB694_701; exact bk_ BK694) hb); replace BK695 := Aside0.mk (blk_below (g := gb695) (o := .cells #[.int .i64 a1_0, .int .i64 a1_1] 23 (0, 0)) (by refine bf_ ?_ NB695_701; refine bf_ ?_ NB695_701; exact bk_ BK695) hb); replace BK701 := Aside0.mk (blk_below (g := gb701) (o := .cells #[.int .i64 t698, .int .i64 t699] 23 (0, 0)) (by refine bp_ (cs := #[.int .i64 t698, .int .i64 0]) ?_ 1; refine bp_ (cs := #[.int .i64 0, .int .i64 0]) ?_ 0; exact bk_ BK701) hb); replace HB := bws_ HB hb; (try clear hb); (try clear hb2); (try clear hk); (try clear hi)) | ((with_reducible refine gate_dst (N := 11) rfl ?_); refine box_event ?hg (N := 11) ?hd (cs := #[.int .i64 0, .int .i64 0]) (t := 23) ?hr ?_; (case hd => rfl); (case hg => rfl); (case hr => first | (go_simp; done) | (go_simp; rfl)); intro gb705 hg w85 hbox hb; have BK705 := Aside0.mk hbox; have GW705 := bwg_ HB hg; have GE705 := bwg_ HB hg; replace HB := bws_ HB hb; have NB694_705 := bkl_ BK694 hg; have NB705_694 := bkr_ BK694 hg; replace BK694 := bkb_ BK694 hb; have NB695_705 := bkl_ BK695 hg; have NB705_695 := bkr_ BK695 hg; replace BK695 := bkb_ BK695 hb; have NB701_705 := bkl_ BK701 hg; have NB705_701 := bkr_ BK701 hg; replace BK701 := bkb_ BK701 hb; clear hb hbox hg; have hnb86 := NB705_694.out; have hnc86 := NB694_705.out; have hnb87 := NB705_695.out; have hnc87 := NB695_705.out; have hnb88 := NB705_701.out; have hnc88 := NB701_705.out; obtain ⟨hcz89_0, hcz89_1, hfz89_0, hfz89_1⟩ := bc2_ BK705; have hnb90 := NB694_695.out; have hnc90 := NB695_694.out; obtain ⟨hcz91_0, hcz91_1, hfz91_0, hfz91_1⟩ := bc2_ BK694) | ((with_reducible refine gate_callee (f := 43) rfl ?_); refine gla_ (some 44) Try.func43 #[.agg #[.int .i64 a0_0, .int .i64 a0_1]] ?_; (with_reducible refine (num_Neg.calls k a0_0 a0_1 t706 t707 t708 _ A10.out).mono ?_); rintro e w92 ⟨rfl, hb⟩; refine ⟨_, rfl, ?_⟩; replace BK694 := Aside0.mk (blk_below (g := gb694) (o := .cells #[.int .i64 a0_0, .int .i64 a0_1] 23 (0, 0)) (by refine bf_ ?_ NB694_705; refine bf_ ?_ NB694_705; exact bk_ BK694) hb); replace BK695 := Aside0.mk (blk_below (g := gb695) (o := .cells #[.int .i64 a1_0, .int .i64 a1_1] 23 (0, 0)) (by refine bf_ ?_ NB695_705; refine bf_ ?_ NB695_705; exact bk_ BK695) hb); replace BK701 := Aside0.mk (blk_below (g := gb701) (o := .cells #[.int .i64 t698, .int .i64 t699] 23 (0, 0)) (by refine bf_ ?_ NB701_705; refine bf_ ?_ NB701_705; exact bk_ BK701) hb); replace BK705 := Aside0.mk (blk_below (g := gb705) (o := .cells #[.int .i64 t702, .int .i64 t703] 23 (0, 0)) (by refine bp_ (cs := #[.int .i64 t702, .int .i64 0]) ?_ 1; refine bp_ (cs := #[.int .i64 0, .int .i64 0]) ?_ 0; exact bk_ BK705) hb); replace HB := bws_ HB hb; (try clear hb); (try clear hb2); (try clear hk); (try clear hi)) | ((with_reducible refine gate_dst (N := 13) rfl ?_); refine box_event ?hg (N := 13) ?hd (cs := #[.int .i64 0, .int .i64 0]) (t := 23) ?hr ?_; (case hd => rfl); (case hg => rfl); (case hr => first | (go_simp; done) | (go_simp; rfl)); intro gb709 hg w93 hbox hb; have BK709 := Aside0.mk hbox; have GW709 := bwg_ HB hg; have GE709 := bwg_ HB hg; replace HB := bws_ HB hb; have NB694_709 := bkl_ BK694 hg; have NB709_694 := bkr_ BK694 hg; replace BK694 := bkb_ BK694 hb; have NB695_709 := bkl_ BK695 hg; have NB709_695 := bkr_ BK695 hg; replace BK695 := bkb_ BK695 hb; have NB701_709 := bkl_ BK701 hg; have NB709_701 := bkr_ BK701 hg; replace BK701 := bkb_ BK701 hb; have NB705_709 := bkl_ BK705 hg; have NB709_705 := bkr_ BK705 hg; replace BK705 := bkb_ BK705 hb; clear hb hbox hg; have hnb94 := NB709_694.out; have hnc94 := NB694_709.out; have hnb95 := NB709_695.out; have hnc95 := NB695_709.out; have hnb96 := NB709_701.out; have hnc96 := NB701_709.out; have hnb97 := NB709_705.out; have hnc97 := NB705_709.out; obtain ⟨hcz98_0, hcz98_1, hfz98_0, hfz98_1⟩ := bc2_ BK709; obtain ⟨hcz99_0, hcz99_1, hfz99_0, hfz99_1⟩ := bc2_ BK694) | ((with_reducible refine gate_callee (f := 49) rfl ?_); refine gla_ (some 49) Try.func49 #[.agg #[.int .i64 a0_0, .int .i64 a0_1]] ?_; (with_reducible refine (withyref01_Neg.calls k a0_0 a0_1 t710 t711 t712 _ A11.out).mono ?_); rintro e w100 ⟨rfl, hb⟩; refine ⟨_, rfl, ?_⟩; replace BK694 := Aside0.mk (blk_below (g := gb694) (o := .cells #[.int .i64 a0_0, .int .i64 a0_1] 23 (0, 0)) (by refine bf_ ?_ NB694_709; refine bf_ ?_ NB694_709; exact bk_ BK694) hb); replace BK695 := Aside0.mk (blk_below (g := gb695) (o := .cells #[.int .i64 a1_0, .int .i64 a1_1] 23 (0, 0)) (by refine bf_ ?_ NB695_709; refine bf_ ?_ NB695_709; exact bk_ BK695) hb); replace BK701 := Aside0.mk (blk_below (g := gb701) (o := .cells #[.int .i64 t698, .int .i64 t699] 23 (0, 0)) (by refine bf_ ?_ NB701_709; refine bf_ ?_ NB701_709; exact bk_ BK701) hb); replace BK705 := Aside0.mk (blk_below (g := gb705) (o := .cells #[.int .i64 t702, .int .i64 t703] 23 (0, 0)) (by refine bf_ ?_ NB705_709; refine bf_ ?_ NB705_709; exact bk_ BK705) hb); replace BK709 := Aside0.mk (blk_below (g := gb709) (o := .cells #[.int .i64 t706, .int .i64 t707] 23 (0, 0)) (by refine bp_ (cs := #[.int .i64 t706, .int .i64 0]) ?_ 1; refine bp_ (cs := #[.int .i64 0, .int .i64 0]) ?_ 0; exact bk_ BK709) hb); replace HB := bws_ HB hb; (try clear hb); (try clear hb2); (try clear hk); (try clear hi)) | ((with_reducible refine gate_dst (N := 15) rfl ?_); refine box_event ?hg (N := 15) ?hd (cs := #[.int .i64 0, .int .i64 0]) (t := 23) ?hr ?_; (case hd => rfl); (case hg => rfl); (case hr => first | (go_simp; done) | (go_simp; rfl)); intro gb713 hg w101 hbox hb; have BK713 := Aside0.mk hbox; have GW713 := bwg_ HB hg; have GE713 := bwg_ HB hg; replace HB := bws_ HB hb; have NB694_713 := bkl_ BK694 hg; have NB713_694 := bkr_ BK694 hg; replace BK694 := bkb_ BK694 hb; have NB695_713 := bkl_ BK695 hg; have NB713_695 := bkr_ BK695 hg; replace BK695 := bkb_ BK695 hb; have NB701_713 := bkl_ BK701 hg; have NB713_701 := bkr_ BK701 hg; replace BK701 := bkb_ BK701 hb; have NB705_713 := bkl_ BK705 hg; have NB713_705 := bkr_ BK705 hg; replace BK705 := bkb_ BK705 hb; have NB709_713 := bkl_ BK709 hg; have NB713_709 := bkr_ BK709 hg; replace BK709 := bkb_ BK709 hb; clear hb hbox hg; have hnb102 := NB713_694.out; have hnc102 := NB694_713.out; have hnb103 := NB713_695.out; have hnc103 := NB695_713.out; have hnb104 := NB713_701.out; have hnc104 := NB701_713.out; have hnb105 := NB713_705.out; have hnc105 := NB705_713.out; have hnb106 := NB713_709.out; have hnc106 := NB709_713.out; obtain ⟨hcz107_0, hcz107_1, hfz107_0, hfz107_1⟩ := bc2_ BK713; obtain ⟨hcz108_0, hcz108_1, hfz108_0, hfz108_1⟩ := bc2_ BK694; obtain ⟨hcz109_0, hcz109_1, hfz109_0, hfz109_1⟩ := bc2_ BK695) | ((with_reducible refine gate_callee (f := 26) rfl ?_); refine gla_ (some 55) Try.func26 #[.agg #[.int .i64 a0_0, .int .i64 a0_1], .agg #[.int .i64 a1_0, .int .i64 a1_1]] ?_; (with_reducible refine (num_Cmp.calls k a0_0 a0_1 a1_0 a1_1 t714 t715 _ A12.out).mono ?_); rintro e w110 ⟨rfl, hb⟩; refine ⟨_, rfl, ?_⟩; replace BK694 := Aside0.mk (blk_below (g := gb694) (o := .cells #[.int .i64 a0_0, .int .i64 a0_1] 23 (0, 0)) (by refine bf_ ?_ NB694_713; refine bf_ ?_ NB694_713; exact bk_ BK694) hb); replace BK695 := Aside0.mk (blk_below (g := gb695) (o := .cells #[.int .i64 a1_0, .int .i64 a1_1] 23 (0, 0)) (by refine bf_ ?_ NB695_713; refine bf_ ?_ NB695_713; exact bk_ BK695) hb); replace BK701 := Aside0.mk (blk_below (g := gb701) (o := .cells #[.int .i64 t698, .int .i64 t699] 23 (0, 0)) (by refine bf_ ?_ NB701_713; refine bf_ ?_ NB701_713; exact bk_ BK701) hb); replace BK705 := Aside0.mk (blk_below (g := gb705) (o := .cells #[.int .i64 t702, .int .i64 t703] 23 (0, 0)) (by refine bf_ ?_ NB705_713; refine bf_ ?_ NB705_713; exact bk_ BK705) hb); replace BK709 := Aside0.mk (blk_below (g := gb709) (o := .cells #[.int .i64 t706, .int .i64 t707] 23 (0, 0)) (by refine bf_ ?_ NB709_713; refine bf_ ?_ NB709_713; exact bk_ BK709) hb); replace BK713 := Aside0.mk (blk_below (g := gb713) (o := .cells #[.int .i64 t710, .int .i64 t711] 23 (0, 0)) (by refine bp_ (cs := #[.int .i64 t710, .int .i64 0]) ?_ 1; refine bp_ (cs := #[.int .i64 0, .int .i64 0]) ?_ 0; exact bk_ BK713) hb); replace HB := bws_ HB hb; (try clear hb); (try clear hb2); (try clear hk); (try clear hi); obtain ⟨hcz111_0, hcz111_1, hfz111_0, hfz111_1⟩ := bc2_ BK694; obtain ⟨hcz112_0, hcz112_1, hfz112_0, hfz112_1⟩ := bc2_ BK695) | ((with_reducible refine gate_callee (f := 50) rfl ?_); refine gla_ (some 61) Try.func50 #[.agg #[.int .i64 a0_0, .int .i64 a0_1], .agg #[.int .i64 a1_0, .int .i64 a1_1]] ?_; (with_reducible refine (withyref01_Cmp.calls k a0_0 a0_1 a1_0 a1_1 t716 t717 _ A13.out).mono ?_); rintro e w113 ⟨rfl, hb⟩; refine ⟨_, rfl, ?_⟩; replace BK694 := bkb_ BK694 hb; replace BK695 := bkb_ BK695 hb; replace BK701 := bkb_ BK701 hb; replace BK705 := bkb_ BK705 hb; replace BK709 := bkb_ BK709 hb; replace BK713 := bkb_ BK713 hb; replace HB := bws_ HB hb; (try clear hb); (try clear hb2); (try clear hk); (try clear hi); obtain ⟨hcz114_0, hcz114_1, hfz114_0, hfz114_1⟩ := bc2_ BK694) | ((with_reducible refine gate_callee (f := 45) rfl ?_); refine gla_ (some 66) Try.func45 #[.agg #[.int .i64 a0_0, .int .i64 a0_1]] ?_; (with_reducible refine (num_Whole.calls k a0_0 a0_1 t718 t719 _ A14.out).mono ?_); rintro e w115 ⟨rfl, hb⟩; refine ⟨_, rfl, ?_⟩; replace BK694 := bkb_ BK694 hb; replace BK695 := bkb_ BK695 hb; replace BK701 := bkb_ BK701 hb; replace BK705 := bkb_ BK705 hb; replace BK709 := bkb_ BK709 hb; replace BK713 := bkb_ BK713 hb; replace HB := bws_ HB hb; (try clear hb); (try clear hb2); (try clear hk); (try clear hi); obtain ⟨hcz116_0, hcz116_1, hfz116_0, hfz116_1⟩ := bc2_ BK694) | ((with_reducible refine gate_callee (f := 51) rfl ?_); refine gla_ (some 71) Try.func51 #[.agg #[.int .i64 a0_0, .int .i64 a0_1]] ?_; (with_reducible refine (withyref01_Whole.calls k a0_0 a0_1 t720 t721 _ A15.out).mono ?_); rintro e w117 ⟨rfl, hb⟩; refine ⟨_, rfl, ?_⟩; replace BK694 := bkb_ BK694 hb; replace BK695 := bkb_ BK695 hb; replace BK701 := bkb_ BK701 hb; replace BK705 := bkb_ BK705 hb; replace BK709 := bkb_ BK709 hb; replace BK713 := bkb_ BK713 hb; replace HB := bws_ HB hb; (try clear hb); (try clear hb2); (try clear hk); (try clear hi); obtain ⟨hcz118_0, hcz118_1, hfz118_0, hfz118_1⟩ := bc2_ BK701; obtain ⟨hcz119_0, hcz119_1, hfz119_0, hfz119_1⟩ := bc2_ BK705; obtain ⟨hcz120_0, hcz120_1, hfz120_0, hfz120_1⟩ := bc2_ BK709; obtain ⟨hcz121_0, hcz121_1, hfz121_0, hfz121_1⟩ := bc2_ BK713))
                      go_ret
                      exact ⟨by first | rfl | (simp [*] <;> rfl), bw_ HB⟩
                · rw [if_neg c22] at H
                  have c22b0 : (t719 == t721) = false := beq_eq_false_iff_ne.mpr c22
                  have c22b1 : (t719 != t721) = true := bne_iff_ne.mpr c22
                  obtain rfl := Option.some.inj H
                  as_aux_lemma =>
                    go_enter Try.func11, Try.ntmps11
                    try go_wp2_with (first | ((with_reducible refine gate_dst (N := 4) rfl ?_); refine box_event ?hg (N := 4) ?hd (cs := #[.int .i64 a0_0, .int .i64 a0_1]) (t := 23) ?hr ?_; (case hd => rfl); (case hg => rfl); (case hr => first | (go_simp; done) | (go_simp; rfl)); intro gb694 hg w122 hbox hb; have BK694 := Aside0.mk hbox; have GW694 := bwg_ HB hg; have GE694 := bwg_ HB hg; replace HB := bws_ HB hb; clear hb hbox hg) | ((with_reducible refine gate_dst (N := 5) rfl ?_); refine box_event ?hg (N := 5) ?hd (cs := #[.int .i64 a1_0, .int .i64 a1_1]) (t := 23) ?hr ?_; (case hd => rfl); (case hg => rfl); (case hr => first | (go_simp; done) | (go_simp; rfl)); intro gb695 hg w123 hbox hb; have BK695 := Aside0.mk hbox; have GW695 := bwg_ HB hg; have GE695 := bwg_ HB hg; replace HB := bws_ HB hb; have NB694_695 := bkl_ BK694 hg; have NB695_694 := bkr_ BK694 hg; replace BK694 := bkb_ BK694 hb; clear hb hbox hg))
                    replace BK694 := Aside0.mk (blk_drew BK694.out)
                    replace BK695 := Aside0.mk (blk_drew BK695.out)
                    replace HB := Aside0.mk (below_drew1 HB.out)
                    refine start_ (n := 5) (S := fun w' => w'.cell? ⟨gb694, 0, none⟩ = some (.int .i64 a0_0) ∧ w'.cell? ⟨gb694, 1, none⟩ = some (.int .i64 a0_1)) (ds := []) #[false, false, false, false, false] (by kernel_rfl) rfl rfl ⟨(blk_cell BK694.out 0).trans rfl, (blk_cell BK694.out 1).trans rfl⟩ (fun hHeld => ?_)
                    generalize w123.drew = w124 at BK694 BK695 HB hHeld ⊢
                    refine take_ (i := 0) (N := some 25) (v := ?_) (a' := ?_) #[true, false, false, false, false] rfl rfl (by kernel_rfl) (fun _ _ _ h => h) (Or.inl ⟨by rfl, ?_⟩) hHeld ?_ ?_
                    rotate_left
                    · rintro w' ⟨s0, s1⟩
                      go_simp
                      with_reducible rfl
                    rotate_left
                    · simp only [Act.put, List.setIfInBounds_toArray, List.set_cons_zero, List.set_cons_succ, i64_w, i32_w]
                      rfl
                    refine take_ (i := 2) (N := some 27) (v := ?_) (a' := ?_) #[true, false, true, false, false] rfl rfl (by kernel_rfl) (fun _ _ _ h => h) (Or.inl ⟨by rfl, ?_⟩) hHeld ?_ ?_
                    rotate_left
                    · rintro w' ⟨s0, s1⟩
                      go_simp
                      with_reducible rfl
                    rotate_left
                    · simp only [Act.put, List.setIfInBounds_toArray, List.set_cons_zero, List.set_cons_succ, i64_w, i32_w]
                      rfl
                    refine one_ (i := 1) (N := some 26) #[true, true, true, false, false] rfl rfl (by kernel_rfl) (by decide) (fun K hK => ?_)
                    refine gos_ Try.func46 #[.agg #[.int .i64 a0_0, .int .i64 a0_1]] ?_
                    with_reducible refine (num_Check.calls k a0_0 a0_1 t696 _ A5.out).mono ?_
                    rintro e w125 ⟨rfl, hb⟩
                    refine ⟨_, rfl, ?_⟩
                    replace BK694 := bkb_ BK694 hb
                    replace BK695 := bkb_ BK695 hb
                    replace HB := bws_ HB hb
                    (try clear hb)
                    (try clear hb2)
                    (try clear hk)
                    (try clear hi)
                    refine hK.out _ _ ⟨(blk_cell BK694.out 0).trans rfl, (blk_cell BK694.out 1).trans rfl⟩ (fun hHeld => ?_)
                    clear hK K
                    refine norm_ (a' := ?_) ?_ ?_
                    rotate_left
                    · show Act.put _ (some 26) _ = _
                      simp only [Act.put, List.setIfInBounds_toArray, List.set_cons_zero, List.set_cons_succ, i64_w, i32_w]
                      rfl
                    refine one_ (i := 3) (N := some 28) #[true, true, true, true, false] rfl rfl (by kernel_rfl) (by decide) (fun K hK => ?_)
                    refine gos_ Try.func41 #[.agg #[.int .i64 a0_0, .int .i64 a0_1]] ?_
                    with_reducible refine (withyref01_Check.calls k a0_0 a0_1 t697 _ A6.out).mono ?_
                    rintro e w126 ⟨rfl, hb⟩
                    refine ⟨_, rfl, ?_⟩
                    replace BK694 := bkb_ BK694 hb
                    replace BK695 := bkb_ BK695 hb
                    replace HB := bws_ HB hb
                    (try clear hb)
                    (try clear hb2)
                    (try clear hk)
                    (try clear hi)
                    refine hK.out _ _ ⟨(blk_cell BK694.out 0).trans rfl, (blk_cell BK694.out 1).trans rfl⟩ (fun hHeld => ?_)
                    clear hK K
                    refine norm_ (a' := ?_) ?_ ?_
                    rotate_left
                    · show Act.put _ (some 28) _ = _
                      simp only [Act.put, List.setIfInBounds_toArray, List.set_cons_zero, List.set_cons_succ, i64_w, i32_w]
                      rfl
                    refine pure_ (i := 4) (N := some 29) (v := ?_) (a' := ?_) #[true, true, true, true, true] rfl rfl (by kernel_rfl) (fun _ _ _ h => h) (Or.inl ⟨by rfl, ?_⟩) ?_ ?_
                    rotate_left
                    · intro w'
                      go_simp
                      with_reducible rfl
                    rotate_left
                    · simp only [Act.put, List.setIfInBounds_toArray, List.set_cons_zero, List.set_cons_succ, i64_w, i32_w]
                      rfl
                    refine done_ (by kernel_rfl) ?_
                    try go_wp2_with (first | ((with_reducible refine gate_callee (f := 47) rfl ?_); refine gla_ (some 33) Try.func47 #[.int .i64 a2, .int .i64 a3] ?_; (with_reducible refine (num_Make.calls k a2 a3 t698 t699 t700 _ A8.out).mono ?_); rintro e w127 ⟨rfl, hb⟩; refine ⟨_, rfl, ?_⟩; replace BK694 := bkb_ BK694 hb; replace BK695 := bkb_ BK695 hb; replace HB := bws_ HB hb; (try clear hb); (try clear hb2); (try clear hk); (try clear hi)) | ((with_reducible refine gate_dst (N := 9) rfl ?_); refine box_event ?hg (N := 9) ?hd (cs := #[.int .i64 0, .int .i64 0]) (t := 23) ?hr ?_; (case hd => rfl); (case hg => rfl); (case hr => first | (go_simp; done) | (go_simp; rfl)); intro gb701 hg w128 hbox hb; have BK701 := Aside0.mk hbox; have GW701 := bwg_ HB hg; have GE701 := bwg_ HB hg; replace HB := bws_ HB hb; have NB694_701 := bkl_ BK694 hg; have NB701_694 := bkr_ BK694 hg; replace BK694 := bkb_ BK694 hb; have NB695_701 := bkl_ BK695 hg; have NB701_695 := bkr_ BK695 hg; replace BK695 := bkb_ BK695 hb; clear hb hbox hg; have hnb129 := NB701_694.out; have hnc129 := NB694_701.out; have hnb130 := NB701_695.out; have hnc130 := NB695_701.out; obtain ⟨hcz131_0, hcz131_1, hfz131_0, hfz131_1⟩ := bc2_ BK701) | ((with_reducible refine gate_callee (f := 48) rfl ?_); refine gla_ (some 39) Try.func48 #[.int .i64 a2, .int .i64 a3] ?_; (with_reducible refine (withyref01_Make.calls k a2 a3 t702 t703 t704 _ A9.out).mono ?_); rintro e w132 ⟨rfl, hb⟩; refine ⟨_, rfl, ?_⟩; replace BK694 := Aside0.mk (blk_below (g := gb694) (o := .cells #[.int .i64 a0_0, .int .i64 a0_1] 23 (0, 0)) (by refine bf_ ?_ NB694_701; refine bf_ ?_ NB694_701; exact bk_ BK694) hb); replace BK695 := Aside0.mk (blk_below (g := gb695) (o := .cells #[.int .i64 a1_0, .int .i64 a1_1] 23 (0, 0)) (by refine bf_ ?_ NB695_701; refine bf_ ?_ NB695_701; exact bk_ BK695) hb); replace BK701 := Aside0.mk (blk_below (g := gb701) (o := .cells #[.int .i64 t698, .int .i64 t699] 23 (0, 0)) (by refine bp_ (cs := #[.int .i64 t698, .int .i64 0]) ?_ 1; refine bp_ (cs := #[.int .i64 0, .int .i64 0]) ?_ 0; exact bk_ BK701) hb); replace HB := bws_ HB hb; (try clear hb); (try clear hb2); (try clear hk); (try clear hi)) | ((with_reducible refine gate_dst (N := 11) rfl ?_); refine box_event ?hg (N := 11) ?hd (cs := #[.int .i64 0, .int .i64 0]) (t := 23) ?hr ?_; (case hd => rfl); (case hg => rfl); (case hr => first | (go_simp; done) | (go_simp; rfl)); intro gb705 hg w133 hbox hb; have BK705 := Aside0.mk hbox; have GW705 := bwg_ HB hg; have GE705 := bwg_ HB hg; replace HB := bws_ HB hb; have NB694_705 := bkl_ BK694 hg; have NB705_694 := bkr_ BK694 hg; replace BK694 := bkb_ BK694 hb; have NB695_705 := bkl_ BK695 hg; have NB705_695 := bkr_ BK695 hg; replace BK695 := bkb_ BK695 hb; have NB701_705 := bkl_ BK701 hg; have NB705_701 := bkr_ BK701 hg; replace BK701 := bkb_ BK701 hb; clear hb hbox hg; have hnb134 := NB705_694.out; have hnc134 := NB694_705.out; have hnb135 := NB705_695.out; have hnc135 := NB695_705.out; have hnb136 := NB705_701.out; have hnc136 := NB701_705.out; obtain ⟨hcz137_0, hcz137_1, hfz137_0, hfz137_1⟩ := bc2_ BK705; have hnb138 := NB694_695.out; have hnc138 := NB695_694.out; obtain ⟨hcz139_0, hcz139_1, hfz139_0, hfz139_1⟩ := bc2_ BK694) | ((with_reducible refine gate_callee (f := 43) rfl ?_); refine gla_ (some 44) Try.func43 #[.agg #[.int .i64 a0_0, .int .i64 a0_1]] ?_; (with_reducible refine (num_Neg.calls k a0_0 a0_1 t706 t707 t708 _ A10.out).mono ?_); rintro e w140 ⟨rfl, hb⟩; refine ⟨_, rfl, ?_⟩; replace BK694 := Aside0.mk (blk_below (g := gb694) (o := .cells #[.int .i64 a0_0, .int .i64 a0_1] 23 (0, 0)) (by refine bf_ ?_ NB694_705; refine bf_ ?_ NB694_705; exact bk_ BK694) hb); replace BK695 := Aside0.mk (blk_below (g := gb695) (o := .cells #[.int .i64 a1_0, .int .i64 a1_1] 23 (0, 0)) (by refine bf_ ?_ NB695_705; refine bf_ ?_ NB695_705; exact bk_ BK695) hb); replace BK701 := Aside0.mk (blk_below (g := gb701) (o := .cells #[.int .i64 t698, .int .i64 t699] 23 (0, 0)) (by refine bf_ ?_ NB701_705; refine bf_ ?_ NB701_705; exact bk_ BK701) hb); replace BK705 := Aside0.mk (blk_below (g := gb705) (o := .cells #[.int .i64 t702, .int .i64 t703] 23 (0, 0)) (by refine bp_ (cs := #[.int .i64 t702, .int .i64 0]) ?_ 1; refine bp_ (cs := #[.int .i64 0, .int .i64 0]) ?_ 0; exact bk_ BK705) hb); replace HB := bws_ HB hb; (try clear hb); (try clear hb2); (try clear hk); (try clear hi)) | ((with_reducible refine gate_dst (N := 13) rfl ?_); refine box_event ?hg (N := 13) ?hd (cs := #[.int .i64 0, .int .i64 0]) (t := 23) ?hr ?_; (case hd => rfl); (case hg => rfl); (case hr => first | (go_simp; done) | (go_simp; rfl)); intro gb709 hg w141 hbox hb; have BK709 := Aside0.mk hbox; have GW709 := bwg_ HB hg; have GE709 := bwg_ HB hg; replace HB := bws_ HB hb; have NB694_709 := bkl_ BK694 hg; have NB709_694 := bkr_ BK694 hg; replace BK694 := bkb_ BK694 hb; have NB695_709 := bkl_ BK695 hg; have NB709_695 := bkr_ BK695 hg; replace BK695 := bkb_ BK695 hb; have NB701_709 := bkl_ BK701 hg; have NB709_701 := bkr_ BK701 hg; replace BK701 := bkb_ BK701 hb; have NB705_709 := bkl_ BK705 hg; have NB709_705 := bkr_ BK705 hg; replace BK705 := bkb_ BK705 hb; clear hb hbox hg; have hnb142 := NB709_694.out; have hnc142 := NB694_709.out; have hnb143 := NB709_695.out; have hnc143 := NB695_709.out; have hnb144 := NB709_701.out; have hnc144 := NB701_709.out; have hnb145 := NB709_705.out; have hnc145 := NB705_709.out; obtain ⟨hcz146_0, hcz146_1, hfz146_0, hfz146_1⟩ := bc2_ BK709; obtain ⟨hcz147_0, hcz147_1, hfz147_0, hfz147_1⟩ := bc2_ BK694) | ((with_reducible refine gate_callee (f := 49) rfl ?_); refine gla_ (some 49) Try.func49 #[.agg #[.int .i64 a0_0, .int .i64 a0_1]] ?_; (with_reducible refine (withyref01_Neg.calls k a0_0 a0_1 t710 t711 t712 _ A11.out).mono ?_); rintro e w148 ⟨rfl, hb⟩; refine ⟨_, rfl, ?_⟩; replace BK694 := Aside0.mk (blk_below (g := gb694) (o := .cells #[.int .i64 a0_0, .int .i64 a0_1] 23 (0, 0)) (by refine bf_ ?_ NB694_709; refine bf_ ?_ NB694_709; exact bk_ BK694) hb); replace BK695 := Aside0.mk (blk_below (g := gb695) (o := .cells #[.int .i64 a1_0, .int .i64 a1_1] 23 (0, 0)) (by refine bf_ ?_ NB695_709; refine bf_ ?_ NB695_709; exact bk_ BK695) hb); replace BK701 := Aside0.mk (blk_below (g := gb701) (o := .cells #[.int .i64 t698, .int .i64 t699] 23 (0, 0)) (by refine bf_ ?_ NB701_709; refine bf_ ?_ NB701_709; exact bk_ BK701) hb); replace BK705 := Aside0.mk (blk_below (g := gb705) (o := .cells #[.int .i64 t702, .int .i64 t703] 23 (0, 0)) (by refine bf_ ?_ NB705_709; refine bf_ ?_ NB705_709; exact bk_ BK705) hb); replace BK709 := Aside0.mk (blk_below (g := gb709) (o := .cells #[.int .i64 t706, .int .i64 t707] 23 (0, 0)) (by refine bp_ (cs := #[.int .i64 t706, .int .i64 0]) ?_ 1; refine bp_ (cs := #[.int .i64 0, .int .i64 0]) ?_ 0; exact bk_ BK709) hb); replace HB := bws_ HB hb; (try clear hb); (try clear hb2); (try clear hk); (try clear hi)) | ((with_reducible refine gate_dst (N := 15) rfl ?_); refine box_event ?hg (N := 15) ?hd (cs := #[.int .i64 0, .int .i64 0]) (t := 23) ?hr ?_; (case hd => rfl); (case hg => rfl); (case hr => first | (go_simp; done) | (go_simp; rfl)); intro gb713 hg w149 hbox hb; have BK713 := Aside0.mk hbox; have GW713 := bwg_ HB hg; have GE713 := bwg_ HB hg; replace HB := bws_ HB hb; have NB694_713 := bkl_ BK694 hg; have NB713_694 := bkr_ BK694 hg; replace BK694 := bkb_ BK694 hb; have NB695_713 := bkl_ BK695 hg; have NB713_695 := bkr_ BK695 hg; replace BK695 := bkb_ BK695 hb; have NB701_713 := bkl_ BK701 hg; have NB713_701 := bkr_ BK701 hg; replace BK701 := bkb_ BK701 hb; have NB705_713 := bkl_ BK705 hg; have NB713_705 := bkr_ BK705 hg; replace BK705 := bkb_ BK705 hb; have NB709_713 := bkl_ BK709 hg; have NB713_709 := bkr_ BK709 hg; replace BK709 := bkb_ BK709 hb; clear hb hbox hg; have hnb150 := NB713_694.out; have hnc150 := NB694_713.out; have hnb151 := NB713_695.out; have hnc151 := NB695_713.out; have hnb152 := NB713_701.out; have hnc152 := NB701_713.out; have hnb153 := NB713_705.out; have hnc153 := NB705_713.out; have hnb154 := NB713_709.out; have hnc154 := NB709_713.out; obtain ⟨hcz155_0, hcz155_1, hfz155_0, hfz155_1⟩ := bc2_ BK713; obtain ⟨hcz156_0, hcz156_1, hfz156_0, hfz156_1⟩ := bc2_ BK694; obtain ⟨hcz157_0, hcz157_1, hfz157_0, hfz157_1⟩ := bc2_ BK695) | ((with_reducible refine gate_callee (f := 26) rfl ?_); refine gla_ (some 55) Try.func26 #[.agg #[.int .i64 a0_0, .int .i64 a0_1], .agg #[.int .i64 a1_0, .int .i64 a1_1]] ?_; (with_reducible refine (num_Cmp.calls k a0_0 a0_1 a1_0 a1_1 t714 t715 _ A12.out).mono ?_); rintro e w158 ⟨rfl, hb⟩; refine ⟨_, rfl, ?_⟩; replace BK694 := Aside0.mk (blk_below (g := gb694) (o := .cells #[.int .i64 a0_0, .int .i64 a0_1] 23 (0, 0)) (by refine bf_ ?_ NB694_713; refine bf_ ?_ NB694_713; exact bk_ BK694) hb); replace BK695 := Aside0.mk (blk_below (g := gb695) (o := .cells #[.int .i64 a1_0, .int .i64 a1_1] 23 (0, 0)) (by refine bf_ ?_ NB695_713; refine bf_ ?_ NB695_713; exact bk_ BK695) hb); replace BK701 := Aside0.mk (blk_below (g := gb701) (o := .cells #[.int .i64 t698, .int .i64 t699] 23 (0, 0)) (by refine bf_ ?_ NB701_713; refine bf_ ?_ NB701_713; exact bk_ BK701) hb); replace BK705 := Aside0.mk (blk_below (g := gb705) (o := .cells #[.int .i64 t702, .int .i64 t703] 23 (0, 0)) (by refine bf_ ?_ NB705_713; refine bf_ ?_ NB705_713; exact bk_ BK705) hb); replace BK709 := Aside0.mk (blk_below (g := gb709) (o := .cells #[.int .i64 t706, .int .i64 t707] 23 (0, 0)) (by refine bf_ ?_ NB709_713; refine bf_ ?_ NB709_713; exact bk_ BK709) hb); replace BK713 := Aside0.mk (blk_below (g := gb713) (o := .cells #[.int .i64 t710, .int .i64 t711] 23 (0, 0)) (by refine bp_ (cs := #[.int .i64 t710, .int .i64 0]) ?_ 1; refine bp_ (cs := #[.int .i64 0, .int .i64 0]) ?_ 0; exact bk_ BK713) hb); replace HB := bws_ HB hb; (try clear hb); (try clear hb2); (try clear hk); (try clear hi); obtain ⟨hcz159_0, hcz159_1, hfz159_0, hfz159_1⟩ := bc2_ BK694; obtain ⟨hcz160_0, hcz160_1, hfz160_0, hfz160_1⟩ := bc2_ BK695) | ((with_reducible refine gate_callee (f := 50) rfl ?_); refine gla_ (some 61) Try.func50 #[.agg #[.int .i64 a0_0, .int .i64 a0_1], .agg #[.int .i64 a1_0, .int .i64 a1_1]] ?_; (with_reducible refine (withyref01_Cmp.calls k a0_0 a0_1 a1_0 a1_1 t716 t717 _ A13.out).mono ?_); rintro e w161 ⟨rfl, hb⟩; refine ⟨_, rfl, ?_⟩; replace BK694 := bkb_ BK694 hb; replace BK695 := bkb_ BK695 hb; replace BK701 := bkb_ BK701 hb; replace BK705 := bkb_ BK705 hb; replace BK709 := bkb_ BK709 hb; replace BK713 := bkb_ BK713 hb; replace HB := bws_ HB hb; (try clear hb); (try clear hb2); (try clear hk); (try clear hi); obtain ⟨hcz162_0, hcz162_1, hfz162_0, hfz162_1⟩ := bc2_ BK694) | ((with_reducible refine gate_callee (f := 45) rfl ?_); refine gla_ (some 66) Try.func45 #[.agg #[.int .i64 a0_0, .int .i64 a0_1]] ?_; (with_reducible refine (num_Whole.calls k a0_0 a0_1 t718 t719 _ A14.out).mono ?_); rintro e w163 ⟨rfl, hb⟩; refine ⟨_, rfl, ?_⟩; replace BK694 := bkb_ BK694 hb; replace BK695 := bkb_ BK695 hb; replace BK701 := bkb_ BK701 hb; replace BK705 := bkb_ BK705 hb; replace BK709 := bkb_ BK709 hb; replace BK713 := bkb_ BK713 hb; replace HB := bws_ HB hb; (try clear hb); (try clear hb2); (try clear hk); (try clear hi); obtain ⟨hcz164_0, hcz164_1, hfz164_0, hfz164_1⟩ := bc2_ BK694) | ((with_reducible refine gate_callee (f := 51) rfl ?_); refine gla_ (some 71) Try.func51 #[.agg #[.int .i64 a0_0, .int .i64 a0_1]] ?_; (with_reducible refine (withyref01_Whole.calls k a0_0 a0_1 t720 t721 _ A15.out).mono ?_); rintro e w165 ⟨rfl, hb⟩; refine ⟨_, rfl, ?_⟩; replace BK694 := bkb_ BK694 hb; replace BK695 := bkb_ BK695 hb; replace BK701 := bkb_ BK701 hb; replace BK705 := bkb_ BK705 hb; replace BK709 := bkb_ BK709 hb; replace BK713 := bkb_ BK713 hb; replace HB := bws_ HB hb; (try clear hb); (try clear hb2); (try clear hk); (try clear hi); obtain ⟨hcz166_0, hcz166_1, hfz166_0, hfz166_1⟩ := bc2_ BK701; obtain ⟨hcz167_0, hcz167_1, hfz167_0, hfz167_1⟩ := bc2_ BK705; obtain ⟨hcz168_0, hcz168_1, hfz168_0, hfz168_1⟩ := bc2_ BK709; obtain ⟨hcz169_0, hcz169_1, hfz169_0, hfz169_1⟩ := bc2_ BK713))
                    go_ret
                    exact ⟨by first | rfl | (simp [*] <;> rfl), bw_ HB⟩
              · rw [if_neg c21] at H
                have c21b0 : (t714 == t716) = false := beq_eq_false_iff_ne.mpr c21
                have c21b1 : (t714 != t716) = true := bne_iff_ne.mpr c21
                obtain rfl := Option.some.inj H
                as_aux_lemma =>
                  go_enter Try.func11, Try.ntmps11
                  try go_wp2_with (first | ((with_reducible refine gate_dst (N := 4) rfl ?_); refine box_event ?hg (N := 4) ?hd (cs := #[.int .i64 a0_0, .int .i64 a0_1]) (t := 23) ?hr ?_; (case hd => rfl); (case hg => rfl); (case hr => first | (go_simp; done) | (go_simp; rfl)); intro gb694 hg w170 hbox hb; have BK694 := Aside0.mk hbox; have GW694 := bwg_ HB hg; have GE694 := bwg_ HB hg; replace HB := bws_ HB hb; clear hb hbox hg) | ((with_reducible refine gate_dst (N := 5) rfl ?_); refine box_event ?hg (N := 5) ?hd (cs := #[.int .i64 a1_0, .int .i64 a1_1]) (t := 23) ?hr ?_; (case hd => rfl); (case hg => rfl); (case hr => first | (go_simp; done) | (go_simp; rfl)); intro gb695 hg w171 hbox hb; have BK695 := Aside0.mk hbox; have GW695 := bwg_ HB hg; have GE695 := bwg_ HB hg; replace HB := bws_ HB hb; have NB694_695 := bkl_ BK694 hg; have NB695_694 := bkr_ BK694 hg; replace BK694 := bkb_ BK694 hb; clear hb hbox hg))
                  replace BK694 := Aside0.mk (blk_drew BK694.out)
                  replace BK695 := Aside0.mk (blk_drew BK695.out)
                  replace HB := Aside0.mk (below_drew1 HB.out)
                  refine start_ (n := 5) (S := fun w' => w'.cell? ⟨gb694, 0, none⟩ = some (.int .i64 a0_0) ∧ w'.cell? ⟨gb694, 1, none⟩ = some (.int .i64 a0_1)) (ds := []) #[false, false, false, false, false] (by kernel_rfl) rfl rfl ⟨(blk_cell BK694.out 0).trans rfl, (blk_cell BK694.out 1).trans rfl⟩ (fun hHeld => ?_)
                  generalize w171.drew = w172 at BK694 BK695 HB hHeld ⊢
                  refine take_ (i := 0) (N := some 25) (v := ?_) (a' := ?_) #[true, false, false, false, false] rfl rfl (by kernel_rfl) (fun _ _ _ h => h) (Or.inl ⟨by rfl, ?_⟩) hHeld ?_ ?_
                  rotate_left
                  · rintro w' ⟨s0, s1⟩
                    go_simp
                    with_reducible rfl
                  rotate_left
                  · simp only [Act.put, List.setIfInBounds_toArray, List.set_cons_zero, List.set_cons_succ, i64_w, i32_w]
                    rfl
                  refine take_ (i := 2) (N := some 27) (v := ?_) (a' := ?_) #[true, false, true, false, false] rfl rfl (by kernel_rfl) (fun _ _ _ h => h) (Or.inl ⟨by rfl, ?_⟩) hHeld ?_ ?_
                  rotate_left
                  · rintro w' ⟨s0, s1⟩
                    go_simp
                    with_reducible rfl
                  rotate_left
                  · simp only [Act.put, List.setIfInBounds_toArray, List.set_cons_zero, List.set_cons_succ, i64_w, i32_w]
                    rfl
                  refine one_ (i := 1) (N := some 26) #[true, true, true, false, false] rfl rfl (by kernel_rfl) (by decide) (fun K hK => ?_)
                  refine gos_ Try.func46 #[.agg #[.int .i64 a0_0, .int .i64 a0_1]] ?_
                  with_reducible refine (num_Check.calls k a0_0 a0_1 t696 _ A5.out).mono ?_
                  rintro e w173 ⟨rfl, hb⟩
                  refine ⟨_, rfl, ?_⟩
                  replace BK694 := bkb_ BK694 hb
                  replace BK695 := bkb_ BK695 hb
                  replace HB := bws_ HB hb
                  (try clear hb)
                  (try clear hb2)
                  (try clear hk)
                  (try clear hi)
                  refine hK.out _ _ ⟨(blk_cell BK694.out 0).trans rfl, (blk_cell BK694.out 1).trans rfl⟩ (fun hHeld => ?_)
                  clear hK K
                  refine norm_ (a' := ?_) ?_ ?_
                  rotate_left
                  · show Act.put _ (some 26) _ = _
                    simp only [Act.put, List.setIfInBounds_toArray, List.set_cons_zero, List.set_cons_succ, i64_w, i32_w]
                    rfl
                  refine one_ (i := 3) (N := some 28) #[true, true, true, true, false] rfl rfl (by kernel_rfl) (by decide) (fun K hK => ?_)
                  refine gos_ Try.func41 #[.agg #[.int .i64 a0_0, .int .i64 a0_1]] ?_
                  with_reducible refine (withyref01_Check.calls k a0_0 a0_1 t697 _ A6.out).mono ?_
                  rintro e w174 ⟨rfl, hb⟩
                  refine ⟨_, rfl, ?_⟩
                  replace BK694 := bkb_ BK694 hb
                  replace BK695 := bkb_ BK695 hb
                  replace HB := bws_ HB hb
                  (try clear hb)
                  (try clear hb2)
                  (try clear hk)
                  (try clear hi)
                  refine hK.out _ _ ⟨(blk_cell BK694.out 0).trans rfl, (blk_cell BK694.out 1).trans rfl⟩ (fun hHeld => ?_)
                  clear hK K
                  refine norm_ (a' := ?_) ?_ ?_
                  rotate_left
                  · show Act.put _ (some 28) _ = _
                    simp only [Act.put, List.setIfInBounds_toArray, List.set_cons_zero, List.set_cons_succ, i64_w, i32_w]
                    rfl
                  refine pure_ (i := 4) (N := some 29) (v := ?_) (a' := ?_) #[true, true, true, true, true] rfl rfl (by kernel_rfl) (fun _ _ _ h => h) (Or.inl ⟨by rfl, ?_⟩) ?_ ?_
                  rotate_left
                  · intro w'
                    go_simp
                    with_reducible rfl
                  rotate_left
                  · simp only [Act.put, List.setIfInBounds_toArray, List.set_cons_zero, List.set_cons_succ, i64_w, i32_w]
                    rfl
                  refine done_ (by kernel_rfl) ?_
                  try go_wp2_with (first | ((with_reducible refine gate_callee (f := 47) rfl ?_); refine gla_ (some 33) Try.func47 #[.int .i64 a2, .int .i64 a3] ?_; (with_reducible refine (num_Make.calls k a2 a3 t698 t699 t700 _ A8.out).mono ?_); rintro e w175 ⟨rfl, hb⟩; refine ⟨_, rfl, ?_⟩; replace BK694 := bkb_ BK694 hb; replace BK695 := bkb_ BK695 hb; replace HB := bws_ HB hb; (try clear hb); (try clear hb2); (try clear hk); (try clear hi)) | ((with_reducible refine gate_dst (N := 9) rfl ?_); refine box_event ?hg (N := 9) ?hd (cs := #[.int .i64 0, .int .i64 0]) (t := 23) ?hr ?_; (case hd => rfl); (case hg => rfl); (case hr => first | (go_simp; done) | (go_simp; rfl)); intro gb701 hg w176 hbox hb; have BK701 := Aside0.mk hbox; have GW701 := bwg_ HB hg; have GE701 := bwg_ HB hg; replace HB := bws_ HB hb; have NB694_701 := bkl_ BK694 hg; have NB701_694 := bkr_ BK694 hg; replace BK694 := bkb_ BK694 hb; have NB695_701 := bkl_ BK695 hg; have NB701_695 := bkr_ BK695 hg; replace BK695 := bkb_ BK695 hb; clear hb hbox hg; have hnb177 := NB701_694.out; have hnc177 := NB694_701.out; have hnb178 := NB701_695.out; have hnc178 := NB695_701.out; obtain ⟨hcz179_0, hcz179_1, hfz179_0, hfz179_1⟩ := bc2_ BK701) | ((with_reducible refine gate_callee (f := 48) rfl ?_); refine gla_ (some 39) Try.func48 #[.int .i64 a2, .int .i64 a3] ?_; (with_reducible refine (withyref01_Make.calls k a2 a3 t702 t703 t704 _ A9.out).mono ?_); rintro e w180 ⟨rfl, hb⟩; refine ⟨_, rfl, ?_⟩; replace BK694 := Aside0.mk (blk_below (g := gb694) (o := .cells #[.int .i64 a0_0, .int .i64 a0_1] 23 (0, 0)) (by refine bf_ ?_ NB694_701; refine bf_ ?_ NB694_701; exact bk_ BK694) hb); replace BK695 := Aside0.mk (blk_below (g := gb695) (o := .cells #[.int .i64 a1_0, .int .i64 a1_1] 23 (0, 0)) (by refine bf_ ?_ NB695_701; refine bf_ ?_ NB695_701; exact bk_ BK695) hb); replace BK701 := Aside0.mk (blk_below (g := gb701) (o := .cells #[.int .i64 t698, .int .i64 t699] 23 (0, 0)) (by refine bp_ (cs := #[.int .i64 t698, .int .i64 0]) ?_ 1; refine bp_ (cs := #[.int .i64 0, .int .i64 0]) ?_ 0; exact bk_ BK701) hb); replace HB := bws_ HB hb; (try clear hb); (try clear hb2); (try clear hk); (try clear hi)) | ((with_reducible refine gate_dst (N := 11) rfl ?_); refine box_event ?hg (N := 11) ?hd (cs := #[.int .i64 0, .int .i64 0]) (t := 23) ?hr ?_; (case hd => rfl); (case hg => rfl); (case hr => first | (go_simp; done) | (go_simp; rfl)); intro gb705 hg w181 hbox hb; have BK705 := Aside0.mk hbox; have GW705 := bwg_ HB hg; have GE705 := bwg_ HB hg; replace HB := bws_ HB hb; have NB694_705 := bkl_ BK694 hg; have NB705_694 := bkr_ BK694 hg; replace BK694 := bkb_ BK694 hb; have NB695_705 := bkl_ BK695 hg; have NB705_695 := bkr_ BK695 hg; replace BK695 := bkb_ BK695 hb; have NB701_705 := bkl_ BK701 hg; have NB705_701 := bkr_ BK701 hg; replace BK701 := bkb_ BK701 hb; clear hb hbox hg; have hnb182 := NB705_694.out; have hnc182 := NB694_705.out; have hnb183 := NB705_695.out; have hnc183 := NB695_705.out; have hnb184 := NB705_701.out; have hnc184 := NB701_705.out; obtain ⟨hcz185_0, hcz185_1, hfz185_0, hfz185_1⟩ := bc2_ BK705; have hnb186 := NB694_695.out; have hnc186 := NB695_694.out; obtain ⟨hcz187_0, hcz187_1, hfz187_0, hfz187_1⟩ := bc2_ BK694) | ((with_reducible refine gate_callee (f := 43) rfl ?_); refine gla_ (some 44) Try.func43 #[.agg #[.int .i64 a0_0, .int .i64 a0_1]] ?_; (with_reducible refine (num_Neg.calls k a0_0 a0_1 t706 t707 t708 _ A10.out).mono ?_); rintro e w188 ⟨rfl, hb⟩; refine ⟨_, rfl, ?_⟩; replace BK694 := Aside0.mk (blk_below (g := gb694) (o := .cells #[.int .i64 a0_0, .int .i64 a0_1] 23 (0, 0)) (by refine bf_ ?_ NB694_705; refine bf_ ?_ NB694_705; exact bk_ BK694) hb); replace BK695 := Aside0.mk (blk_below (g := gb695) (o := .cells #[.int .i64 a1_0, .int .i64 a1_1] 23 (0, 0)) (by refine bf_ ?_ NB695_705; refine bf_ ?_ NB695_705; exact bk_ BK695) hb); replace BK701 := Aside0.mk (blk_below (g := gb701) (o := .cells #[.int .i64 t698, .int .i64 t699] 23 (0, 0)) (by refine bf_ ?_ NB701_705; refine bf_ ?_ NB701_705; exact bk_ BK701) hb); replace BK705 := Aside0.mk (blk_below (g := gb705) (o := .cells #[.int .i64 t702, .int .i64 t703] 23 (0, 0)) (by refine bp_ (cs := #[.int .i64 t702, .int .i64 0]) ?_ 1; refine bp_ (cs := #[.int .i64 0, .int .i64 0]) ?_ 0; exact bk_ BK705) hb); replace HB := bws_ HB hb; (try clear hb); (try clear hb2); (try clear hk); (try clear hi)) | ((with_reducible refine gate_dst (N := 13) rfl ?_); refine box_event ?hg (N := 13) ?hd (cs := #[.int .i64 0, .int .i64 0]) (t := 23) ?hr ?_; (case hd => rfl); (case hg => rfl); (case hr => first | (go_simp; done) | (go_simp; rfl)); intro gb709 hg w189 hbox hb; have BK709 := Aside0.mk hbox; have GW709 := bwg_ HB hg; have GE709 := bwg_ HB hg; replace HB := bws_ HB hb; have NB694_709 := bkl_ BK694 hg; have NB709_694 := bkr_ BK694 hg; replace BK694 := bkb_ BK694 hb; have NB695_709 := bkl_ BK695 hg; have NB709_695 := bkr_ BK695 hg; replace BK695 := bkb_ BK695 hb; have NB701_709 := bkl_ BK701 hg; have NB709_701 := bkr_ BK701 hg; replace BK701 := bkb_ BK701 hb; have NB705_709 := bkl_ BK705 hg; have NB709_705 := bkr_ BK705 hg; replace BK705 := bkb_ BK705 hb; clear hb hbox hg; have hnb190 := NB709_694.out; have hnc190 := NB694_709.out; have hnb191 := NB709_695.out; have hnc191 := NB695_709.out; have hnb192 := NB709_701.out; have hnc192 := NB701_709.out; have hnb193 := NB709_705.out; have hnc193 := NB705_709.out; obtain ⟨hcz194_0, hcz194_1, hfz194_0, hfz194_1⟩ := bc2_ BK709; obtain ⟨hcz195_0, hcz195_1, hfz195_0, hfz195_1⟩ := bc2_ BK694) | ((with_reducible refine gate_callee (f := 49) rfl ?_); refine gla_ (some 49) Try.func49 #[.agg #[.int .i64 a0_0, .int .i64 a0_1]] ?_; (with_reducible refine (withyref01_Neg.calls k a0_0 a0_1 t710 t711 t712 _ A11.out).mono ?_); rintro e w196 ⟨rfl, hb⟩; refine ⟨_, rfl, ?_⟩; replace BK694 := Aside0.mk (blk_below (g := gb694) (o := .cells #[.int .i64 a0_0, .int .i64 a0_1] 23 (0, 0)) (by refine bf_ ?_ NB694_709; refine bf_ ?_ NB694_709; exact bk_ BK694) hb); replace BK695 := Aside0.mk (blk_below (g := gb695) (o := .cells #[.int .i64 a1_0, .int .i64 a1_1] 23 (0, 0)) (by refine bf_ ?_ NB695_709; refine bf_ ?_ NB695_709; exact bk_ BK695) hb); replace BK701 := Aside0.mk (blk_below (g := gb701) (o := .cells #[.int .i64 t698, .int .i64 t699] 23 (0, 0)) (by refine bf_ ?_ NB701_709; refine bf_ ?_ NB701_709; exact bk_ BK701) hb); replace BK705 := Aside0.mk (blk_below (g := gb705) (o := .cells #[.int .i64 t702, .int .i64 t703] 23 (0, 0)) (by refine bf_ ?_ NB705_709; refine bf_ ?_ NB705_709; exact bk_ BK705) hb); replace BK709 := Aside0.mk (blk_below (g := gb709) (o := .cells #[.int .i64 t706, .int .i64 t707] 23 (0, 0)) (by refine bp_ (cs := #[.int .i64 t706, .int .i64 0]) ?_ 1; refine bp_ (cs := #[.int .i64 0, .int .i64 0]) ?_ 0; exact bk_ BK709) hb); replace HB := bws_ HB hb; (try clear hb); (try clear hb2); (try clear hk); (try clear hi)) | ((with_reducible refine gate_dst (N := 15) rfl ?_); refine box_event ?hg (N := 15) ?hd (cs := #[.int .i64 0, .int .i64 0]) (t := 23) ?hr ?_; (case hd => rfl); (case hg => rfl); (case hr => first | (go_simp; done) | (go_simp; rfl)); intro gb713 hg w197 hbox hb; have BK713 := Aside0.mk hbox; have GW713 := bwg_ HB hg; have GE713 := bwg_ HB hg; replace HB := bws_ HB hb; have NB694_713 := bkl_ BK694 hg; have NB713_694 := bkr_ BK694 hg; replace BK694 := bkb_ BK694 hb; have NB695_713 := bkl_ BK695 hg; have NB713_695 := bkr_ BK695 hg; replace BK695 := bkb_ BK695 hb; have NB701_713 := bkl_ BK701 hg; have NB713_701 := bkr_ BK701 hg; replace BK701 := bkb_ BK701 hb; have NB705_713 := bkl_ BK705 hg; have NB713_705 := bkr_ BK705 hg; replace BK705 := bkb_ BK705 hb; have NB709_713 := bkl_ BK709 hg; have NB713_709 := bkr_ BK709 hg; replace BK709 := bkb_ BK709 hb; clear hb hbox hg; have hnb198 := NB713_694.out; have hnc198 := NB694_713.out; have hnb199 := NB713_695.out; have hnc199 := NB695_713.out; have hnb200 := NB713_701.out; have hnc200 := NB701_713.out; have hnb201 := NB713_705.out; have hnc201 := NB705_713.out; have hnb202 := NB713_709.out; have hnc202 := NB709_713.out; obtain ⟨hcz203_0, hcz203_1, hfz203_0, hfz203_1⟩ := bc2_ BK713; obtain ⟨hcz204_0, hcz204_1, hfz204_0, hfz204_1⟩ := bc2_ BK694; obtain ⟨hcz205_0, hcz205_1, hfz205_0, hfz205_1⟩ := bc2_ BK695) | ((with_reducible refine gate_callee (f := 26) rfl ?_); refine gla_ (some 55) Try.func26 #[.agg #[.int .i64 a0_0, .int .i64 a0_1], .agg #[.int .i64 a1_0, .int .i64 a1_1]] ?_; (with_reducible refine (num_Cmp.calls k a0_0 a0_1 a1_0 a1_1 t714 t715 _ A12.out).mono ?_); rintro e w206 ⟨rfl, hb⟩; refine ⟨_, rfl, ?_⟩; replace BK694 := Aside0.mk (blk_below (g := gb694) (o := .cells #[.int .i64 a0_0, .int .i64 a0_1] 23 (0, 0)) (by refine bf_ ?_ NB694_713; refine bf_ ?_ NB694_713; exact bk_ BK694) hb); replace BK695 := Aside0.mk (blk_below (g := gb695) (o := .cells #[.int .i64 a1_0, .int .i64 a1_1] 23 (0, 0)) (by refine bf_ ?_ NB695_713; refine bf_ ?_ NB695_713; exact bk_ BK695) hb); replace BK701 := Aside0.mk (blk_below (g := gb701) (o := .cells #[.int .i64 t698, .int .i64 t699] 23 (0, 0)) (by refine bf_ ?_ NB701_713; refine bf_ ?_ NB701_713; exact bk_ BK701) hb); replace BK705 := Aside0.mk (blk_below (g := gb705) (o := .cells #[.int .i64 t702, .int .i64 t703] 23 (0, 0)) (by refine bf_ ?_ NB705_713; refine bf_ ?_ NB705_713; exact bk_ BK705) hb); replace BK709 := Aside0.mk (blk_below (g := gb709) (o := .cells #[.int .i64 t706, .int .i64 t707] 23 (0, 0)) (by refine bf_ ?_ NB709_713; refine bf_ ?_ NB709_713; exact bk_ BK709) hb); replace BK713 := Aside0.mk (blk_below (g := gb713) (o := .cells #[.int .i64 t710, .int .i64 t711] 23 (0, 0)) (by refine bp_ (cs := #[.int .i64 t710, .int .i64 0]) ?_ 1; refine bp_ (cs := #[.int .i64 0, .int .i64 0]) ?_ 0; exact bk_ BK713) hb); replace HB := bws_ HB hb; (try clear hb); (try clear hb2); (try clear hk); (try clear hi); obtain ⟨hcz207_0, hcz207_1, hfz207_0, hfz207_1⟩ := bc2_ BK694; obtain ⟨hcz208_0, hcz208_1, hfz208_0, hfz208_1⟩ := bc2_ BK695) | ((with_reducible refine gate_callee (f := 50) rfl ?_); refine gla_ (some 61) Try.func50 #[.agg #[.int .i64 a0_0, .int .i64 a0_1], .agg #[.int .i64 a1_0, .int .i64 a1_1]] ?_; (with_reducible refine (withyref01_Cmp.calls k a0_0 a0_1 a1_0 a1_1 t716 t717 _ A13.out).mono ?_); rintro e w209 ⟨rfl, hb⟩; refine ⟨_, rfl, ?_⟩; replace BK694 := bkb_ BK694 hb; replace BK695 := bkb_ BK695 hb; replace BK701 := bkb_ BK701 hb; replace BK705 := bkb_ BK705 hb; replace BK709 := bkb_ BK709 hb; replace BK713 := bkb_ BK713 hb; replace HB := bws_ HB hb; (try clear hb); (try clear hb2); (try clear hk); (try clear hi); obtain ⟨hcz210_0, hcz210_1, hfz210_0, hfz210_1⟩ := bc2_ BK694) | ((with_reducible refine gate_callee (f := 45) rfl ?_); refine gla_ (some 66) Try.func45 #[.agg #[.int .i64 a0_0, .int .i64 a0_1]] ?_; (with_reducible refine (num_Whole.calls k a0_0 a0_1 t718 t719 _ A14.out).mono ?_); rintro e w211 ⟨rfl, hb⟩; refine ⟨_, rfl, ?_⟩; replace BK694 := bkb_ BK694 hb; replace BK695 := bkb_ BK695 hb; replace BK701 := bkb_ BK701 hb; replace BK705 := bkb_ BK705 hb; replace BK709 := bkb_ BK709 hb; replace BK713 := bkb_ BK713 hb; replace HB := bws_ HB hb; (try clear hb); (try clear hb2); (try clear hk); (try clear hi); obtain ⟨hcz212_0, hcz212_1, hfz212_0, hfz212_1⟩ := bc2_ BK694) | ((with_reducible refine gate_callee (f := 51) rfl ?_); refine gla_ (some 71) Try.func51 #[.agg #[.int .i64 a0_0, .int .i64 a0_1]] ?_; (with_reducible refine (withyref01_Whole.calls k a0_0 a0_1 t720 t721 _ A15.out).mono ?_); rintro e w213 ⟨rfl, hb⟩; refine ⟨_, rfl, ?_⟩; replace BK694 := bkb_ BK694 hb; replace BK695 := bkb_ BK695 hb; replace BK701 := bkb_ BK701 hb; replace BK705 := bkb_ BK705 hb; replace BK709 := bkb_ BK709 hb; replace BK713 := bkb_ BK713 hb; replace HB := bws_ HB hb; (try clear hb); (try clear hb2); (try clear hk); (try clear hi); obtain ⟨hcz214_0, hcz214_1, hfz214_0, hfz214_1⟩ := bc2_ BK701; obtain ⟨hcz215_0, hcz215_1, hfz215_0, hfz215_1⟩ := bc2_ BK705; obtain ⟨hcz216_0, hcz216_1, hfz216_0, hfz216_1⟩ := bc2_ BK709; obtain ⟨hcz217_0, hcz217_1, hfz217_0, hfz217_1⟩ := bc2_ BK713))
                  go_ret
                  exact ⟨by first | rfl | (simp [*] <;> rfl), bw_ HB⟩
            · rw [if_neg c20] at H
              have c20b0 : (t715 == t717) = false := beq_eq_false_iff_ne.mpr c20
              have c20b1 : (t715 != t717) = true := bne_iff_ne.mpr c20
              obtain rfl := Option.some.inj H
              as_aux_lemma =>
                go_enter Try.func11, Try.ntmps11
                try go_wp2_with (first | ((with_reducible refine gate_dst (N := 4) rfl ?_); refine box_event ?hg (N := 4) ?hd (cs := #[.int .i64 a0_0, .int .i64 a0_1]) (t := 23) ?hr ?_; (case hd => rfl); (case hg => rfl); (case hr => first | (go_simp; done) | (go_simp; rfl)); intro gb694 hg w218 hbox hb; have BK694 := Aside0.mk hbox; have GW694 := bwg_ HB hg; have GE694 := bwg_ HB hg; replace HB := bws_ HB hb; clear hb hbox hg) | ((with_reducible refine gate_dst (N := 5) rfl ?_); refine box_event ?hg (N := 5) ?hd (cs := #[.int .i64 a1_0, .int .i64 a1_1]) (t := 23) ?hr ?_; (case hd => rfl); (case hg => rfl); (case hr => first | (go_simp; done) | (go_simp; rfl)); intro gb695 hg w219 hbox hb; have BK695 := Aside0.mk hbox; have GW695 := bwg_ HB hg; have GE695 := bwg_ HB hg; replace HB := bws_ HB hb; have NB694_695 := bkl_ BK694 hg; have NB695_694 := bkr_ BK694 hg; replace BK694 := bkb_ BK694 hb; clear hb hbox hg))
                replace BK694 := Aside0.mk (blk_drew BK694.out)
                replace BK695 := Aside0.mk (blk_drew BK695.out)
                replace HB := Aside0.mk (below_drew1 HB.out)
                refine start_ (n := 5) (S := fun w' => w'.cell? ⟨gb694, 0, none⟩ = some (.int .i64 a0_0) ∧ w'.cell? ⟨gb694, 1, none⟩ = some (.int .i64 a0_1)) (ds := []) #[false, false, false, false, false] (by kernel_rfl) rfl rfl ⟨(blk_cell BK694.out 0).trans rfl, (blk_cell BK694.out 1).trans rfl⟩ (fun hHeld => ?_)
                generalize w219.drew = w220 at BK694 BK695 HB hHeld ⊢
                refine take_ (i := 0) (N := some 25) (v := ?_) (a' := ?_) #[true, false, false, false, false] rfl rfl (by kernel_rfl) (fun _ _ _ h => h) (Or.inl ⟨by rfl, ?_⟩) hHeld ?_ ?_
                rotate_left
                · rintro w' ⟨s0, s1⟩
                  go_simp
                  with_reducible rfl
                rotate_left
                · simp only [Act.put, List.setIfInBounds_toArray, List.set_cons_zero, List.set_cons_succ, i64_w, i32_w]
                  rfl
                refine take_ (i := 2) (N := some 27) (v := ?_) (a' := ?_) #[true, false, true, false, false] rfl rfl (by kernel_rfl) (fun _ _ _ h => h) (Or.inl ⟨by rfl, ?_⟩) hHeld ?_ ?_
                rotate_left
                · rintro w' ⟨s0, s1⟩
                  go_simp
                  with_reducible rfl
                rotate_left
                · simp only [Act.put, List.setIfInBounds_toArray, List.set_cons_zero, List.set_cons_succ, i64_w, i32_w]
                  rfl
                refine one_ (i := 1) (N := some 26) #[true, true, true, false, false] rfl rfl (by kernel_rfl) (by decide) (fun K hK => ?_)
                refine gos_ Try.func46 #[.agg #[.int .i64 a0_0, .int .i64 a0_1]] ?_
                with_reducible refine (num_Check.calls k a0_0 a0_1 t696 _ A5.out).mono ?_
                rintro e w221 ⟨rfl, hb⟩
                refine ⟨_, rfl, ?_⟩
                replace BK694 := bkb_ BK694 hb
                replace BK695 := bkb_ BK695 hb
                replace HB := bws_ HB hb
                (try clear hb)
                (try clear hb2)
                (try clear hk)
                (try clear hi)
                refine hK.out _ _ ⟨(blk_cell BK694.out 0).trans rfl, (blk_cell BK694.out 1).trans rfl⟩ (fun hHeld => ?_)
                clear hK K
                refine norm_ (a' := ?_) ?_ ?_
                rotate_left
                · show Act.put _ (some 26) _ = _
                  simp only [Act.put, List.setIfInBounds_toArray, List.set_cons_zero, List.set_cons_succ, i64_w, i32_w]
                  rfl
                refine one_ (i := 3) (N := some 28) #[true, true, true, true, false] rfl rfl (by kernel_rfl) (by decide) (fun K hK => ?_)
                refine gos_ Try.func41 #[.agg #[.int .i64 a0_0, .int .i64 a0_1]] ?_
                with_reducible refine (withyref01_Check.calls k a0_0 a0_1 t697 _ A6.out).mono ?_
                rintro e w222 ⟨rfl, hb⟩
                refine ⟨_, rfl, ?_⟩
                replace BK694 := bkb_ BK694 hb
                replace BK695 := bkb_ BK695 hb
                replace HB := bws_ HB hb
                (try clear hb)
                (try clear hb2)
                (try clear hk)
                (try clear hi)
                refine hK.out _ _ ⟨(blk_cell BK694.out 0).trans rfl, (blk_cell BK694.out 1).trans rfl⟩ (fun hHeld => ?_)
                clear hK K
                refine norm_ (a' := ?_) ?_ ?_
                rotate_left
                · show Act.put _ (some 28) _ = _
                  simp only [Act.put, List.setIfInBounds_toArray, List.set_cons_zero, List.set_cons_succ, i64_w, i32_w]
                  rfl
                refine pure_ (i := 4) (N := some 29) (v := ?_) (a' := ?_) #[true, true, true, true, true] rfl rfl (by kernel_rfl) (fun _ _ _ h => h) (Or.inl ⟨by rfl, ?_⟩) ?_ ?_
                rotate_left
                · intro w'
                  go_simp
                  with_reducible rfl
                rotate_left
                · simp only [Act.put, List.setIfInBounds_toArray, List.set_cons_zero, List.set_cons_succ, i64_w, i32_w]
                  rfl
                refine done_ (by kernel_rfl) ?_
                try go_wp2_with (first | ((with_reducible refine gate_callee (f := 47) rfl ?_); refine gla_ (some 33) Try.func47 #[.int .i64 a2, .int .i64 a3] ?_; (with_reducible refine (num_Make.calls k a2 a3 t698 t699 t700 _ A8.out).mono ?_); rintro e w223 ⟨rfl, hb⟩; refine ⟨_, rfl, ?_⟩; replace BK694 := bkb_ BK694 hb; replace BK695 := bkb_ BK695 hb; replace HB := bws_ HB hb; (try clear hb); (try clear hb2); (try clear hk); (try clear hi)) | ((with_reducible refine gate_dst (N := 9) rfl ?_); refine box_event ?hg (N := 9) ?hd (cs := #[.int .i64 0, .int .i64 0]) (t := 23) ?hr ?_; (case hd => rfl); (case hg => rfl); (case hr => first | (go_simp; done) | (go_simp; rfl)); intro gb701 hg w224 hbox hb; have BK701 := Aside0.mk hbox; have GW701 := bwg_ HB hg; have GE701 := bwg_ HB hg; replace HB := bws_ HB hb; have NB694_701 := bkl_ BK694 hg; have NB701_694 := bkr_ BK694 hg; replace BK694 := bkb_ BK694 hb; have NB695_701 := bkl_ BK695 hg; have NB701_695 := bkr_ BK695 hg; replace BK695 := bkb_ BK695 hb; clear hb hbox hg; have hnb225 := NB701_694.out; have hnc225 := NB694_701.out; have hnb226 := NB701_695.out; have hnc226 := NB695_701.out; obtain ⟨hcz227_0, hcz227_1, hfz227_0, hfz227_1⟩ := bc2_ BK701) | ((with_reducible refine gate_callee (f := 48) rfl ?_); refine gla_ (some 39) Try.func48 #[.int .i64 a2, .int .i64 a3] ?_; (with_reducible refine (withyref01_Make.calls k a2 a3 t702 t703 t704 _ A9.out).mono ?_); rintro e w228 ⟨rfl, hb⟩; refine ⟨_, rfl, ?_⟩; replace BK694 := Aside0.mk (blk_below (g := gb694) (o := .cells #[.int .i64 a0_0, .int .i64 a0_1] 23 (0, 0)) (by refine bf_ ?_ NB694_701; refine bf_ ?_ NB694_701; exact bk_ BK694) hb); replace BK695 := Aside0.mk (blk_below (g := gb695) (o := .cells #[.int .i64 a1_0, .int .i64 a1_1] 23 (0, 0)) (by refine bf_ ?_ NB695_701; refine bf_ ?_ NB695_701; exact bk_ BK695) hb); replace BK701 := Aside0.mk (blk_below (g := gb701) (o := .cells #[.int .i64 t698, .int .i64 t699] 23 (0, 0)) (by refine bp_ (cs := #[.int .i64 t698, .int .i64 0]) ?_ 1; refine bp_ (cs := #[.int .i64 0, .int .i64 0]) ?_ 0; exact bk_ BK701) hb); replace HB := bws_ HB hb; (try clear hb); (try clear hb2); (try clear hk); (try clear hi)) | ((with_reducible refine gate_dst (N := 11) rfl ?_); refine box_event ?hg (N := 11) ?hd (cs := #[.int .i64 0, .int .i64 0]) (t := 23) ?hr ?_; (case hd => rfl); (case hg => rfl); (case hr => first | (go_simp; done) | (go_simp; rfl)); intro gb705 hg w229 hbox hb; have BK705 := Aside0.mk hbox; have GW705 := bwg_ HB hg; have GE705 := bwg_ HB hg; replace HB := bws_ HB hb; have NB694_705 := bkl_ BK694 hg; have NB705_694 := bkr_ BK694 hg; replace BK694 := bkb_ BK694 hb; have NB695_705 := bkl_ BK695 hg; have NB705_695 := bkr_ BK695 hg; replace BK695 := bkb_ BK695 hb; have NB701_705 := bkl_ BK701 hg; have NB705_701 := bkr_ BK701 hg; replace BK701 := bkb_ BK701 hb; clear hb hbox hg; have hnb230 := NB705_694.out; have hnc230 := NB694_705.out; have hnb231 := NB705_695.out; have hnc231 := NB695_705.out; have hnb232 := NB705_701.out; have hnc232 := NB701_705.out; obtain ⟨hcz233_0, hcz233_1, hfz233_0, hfz233_1⟩ := bc2_ BK705; have hnb234 := NB694_695.out; have hnc234 := NB695_694.out; obtain ⟨hcz235_0, hcz235_1, hfz235_0, hfz235_1⟩ := bc2_ BK694) | ((with_reducible refine gate_callee (f := 43) rfl ?_); refine gla_ (some 44) Try.func43 #[.agg #[.int .i64 a0_0, .int .i64 a0_1]] ?_; (with_reducible refine (num_Neg.calls k a0_0 a0_1 t706 t707 t708 _ A10.out).mono ?_); rintro e w236 ⟨rfl, hb⟩; refine ⟨_, rfl, ?_⟩; replace BK694 := Aside0.mk (blk_below (g := gb694) (o := .cells #[.int .i64 a0_0, .int .i64 a0_1] 23 (0, 0)) (by refine bf_ ?_ NB694_705; refine bf_ ?_ NB694_705; exact bk_ BK694) hb); replace BK695 := Aside0.mk (blk_below (g := gb695) (o := .cells #[.int .i64 a1_0, .int .i64 a1_1] 23 (0, 0)) (by refine bf_ ?_ NB695_705; refine bf_ ?_ NB695_705; exact bk_ BK695) hb); replace BK701 := Aside0.mk (blk_below (g := gb701) (o := .cells #[.int .i64 t698, .int .i64 t699] 23 (0, 0)) (by refine bf_ ?_ NB701_705; refine bf_ ?_ NB701_705; exact bk_ BK701) hb); replace BK705 := Aside0.mk (blk_below (g := gb705) (o := .cells #[.int .i64 t702, .int .i64 t703] 23 (0, 0)) (by refine bp_ (cs := #[.int .i64 t702, .int .i64 0]) ?_ 1; refine bp_ (cs := #[.int .i64 0, .int .i64 0]) ?_ 0; exact bk_ BK705) hb); replace HB := bws_ HB hb; (try clear hb); (try clear hb2); (try clear hk); (try clear hi)) | ((with_reducible refine gate_dst (N := 13) rfl ?_); refine box_event ?hg (N := 13) ?hd (cs := #[.int .i64 0, .int .i64 0]) (t := 23) ?hr ?_; (case hd => rfl); (case hg => rfl); (case hr => first | (go_simp; done) | (go_simp; rfl)); intro gb709 hg w237 hbox hb; have BK709 := Aside0.mk hbox; have GW709 := bwg_ HB hg; have GE709 := bwg_ HB hg; replace HB := bws_ HB hb; have NB694_709 := bkl_ BK694 hg; have NB709_694 := bkr_ BK694 hg; replace BK694 := bkb_ BK694 hb; have NB695_709 := bkl_ BK695 hg; have NB709_695 := bkr_ BK695 hg; replace BK695 := bkb_ BK695 hb; have NB701_709 := bkl_ BK701 hg; have NB709_701 := bkr_ BK701 hg; replace BK701 := bkb_ BK701 hb; have NB705_709 := bkl_ BK705 hg; have NB709_705 := bkr_ BK705 hg; replace BK705 := bkb_ BK705 hb; clear hb hbox hg; have hnb238 := NB709_694.out; have hnc238 := NB694_709.out; have hnb239 := NB709_695.out; have hnc239 := NB695_709.out; have hnb240 := NB709_701.out; have hnc240 := NB701_709.out; have hnb241 := NB709_705.out; have hnc241 := NB705_709.out; obtain ⟨hcz242_0, hcz242_1, hfz242_0, hfz242_1⟩ := bc2_ BK709; obtain ⟨hcz243_0, hcz243_1, hfz243_0, hfz243_1⟩ := bc2_ BK694) | ((with_reducible refine gate_callee (f := 49) rfl ?_); refine gla_ (some 49) Try.func49 #[.agg #[.int .i64 a0_0, .int .i64 a0_1]] ?_; (with_reducible refine (withyref01_Neg.calls k a0_0 a0_1 t710 t711 t712 _ A11.out).mono ?_); rintro e w244 ⟨rfl, hb⟩; refine ⟨_, rfl, ?_⟩; replace BK694 := Aside0.mk (blk_below (g := gb694) (o := .cells #[.int .i64 a0_0, .int .i64 a0_1] 23 (0, 0)) (by refine bf_ ?_ NB694_709; refine bf_ ?_ NB694_709; exact bk_ BK694) hb); replace BK695 := Aside0.mk (blk_below (g := gb695) (o := .cells #[.int .i64 a1_0, .int .i64 a1_1] 23 (0, 0)) (by refine bf_ ?_ NB695_709; refine bf_ ?_ NB695_709; exact bk_ BK695) hb); replace BK701 := Aside0.mk (blk_below (g := gb701) (o := .cells #[.int .i64 t698, .int .i64 t699] 23 (0, 0)) (by refine bf_ ?_ NB701_709; refine bf_ ?_ NB701_709; exact bk_ BK701) hb); replace BK705 := Aside0.mk (blk_below (g := gb705) (o := .cells #[.int .i64 t702, .int .i64 t703] 23 (0, 0)) (by refine bf_ ?_ NB705_709; refine bf_ ?_ NB705_709; exact bk_ BK705) hb); replace BK709 := Aside0.mk (blk_below (g := gb709) (o := .cells #[.int .i64 t706, .int .i64 t707] 23 (0, 0)) (by refine bp_ (cs := #[.int .i64 t706, .int .i64 0]) ?_ 1; refine bp_ (cs := #[.int .i64 0, .int .i64 0]) ?_ 0; exact bk_ BK709) hb); replace HB := bws_ HB hb; (try clear hb); (try clear hb2); (try clear hk); (try clear hi)) | ((with_reducible refine gate_dst (N := 15) rfl ?_); refine box_event ?hg (N := 15) ?hd (cs := #[.int .i64 0, .int .i64 0]) (t := 23) ?hr ?_; (case hd => rfl); (case hg => rfl); (case hr => first | (go_simp; done) | (go_simp; rfl)); intro gb713 hg w245 hbox hb; have BK713 := Aside0.mk hbox; have GW713 := bwg_ HB hg; have GE713 := bwg_ HB hg; replace HB := bws_ HB hb; have NB694_713 := bkl_ BK694 hg; have NB713_694 := bkr_ BK694 hg; replace BK694 := bkb_ BK694 hb; have NB695_713 := bkl_ BK695 hg; have NB713_695 := bkr_ BK695 hg; replace BK695 := bkb_ BK695 hb; have NB701_713 := bkl_ BK701 hg; have NB713_701 := bkr_ BK701 hg; replace BK701 := bkb_ BK701 hb; have NB705_713 := bkl_ BK705 hg; have NB713_705 := bkr_ BK705 hg; replace BK705 := bkb_ BK705 hb; have NB709_713 := bkl_ BK709 hg; have NB713_709 := bkr_ BK709 hg; replace BK709 := bkb_ BK709 hb; clear hb hbox hg; have hnb246 := NB713_694.out; have hnc246 := NB694_713.out; have hnb247 := NB713_695.out; have hnc247 := NB695_713.out; have hnb248 := NB713_701.out; have hnc248 := NB701_713.out; have hnb249 := NB713_705.out; have hnc249 := NB705_713.out; have hnb250 := NB713_709.out; have hnc250 := NB709_713.out; obtain ⟨hcz251_0, hcz251_1, hfz251_0, hfz251_1⟩ := bc2_ BK713; obtain ⟨hcz252_0, hcz252_1, hfz252_0, hfz252_1⟩ := bc2_ BK694; obtain ⟨hcz253_0, hcz253_1, hfz253_0, hfz253_1⟩ := bc2_ BK695) | ((with_reducible refine gate_callee (f := 26) rfl ?_); refine gla_ (some 55) Try.func26 #[.agg #[.int .i64 a0_0, .int .i64 a0_1], .agg #[.int .i64 a1_0, .int .i64 a1_1]] ?_; (with_reducible refine (num_Cmp.calls k a0_0 a0_1 a1_0 a1_1 t714 t715 _ A12.out).mono ?_); rintro e w254 ⟨rfl, hb⟩; refine ⟨_, rfl, ?_⟩; replace BK694 := Aside0.mk (blk_below (g := gb694) (o := .cells #[.int .i64 a0_0, .int .i64 a0_1] 23 (0, 0)) (by refine bf_ ?_ NB694_713; refine bf_ ?_ NB694_713; exact bk_ BK694) hb); replace BK695 := Aside0.mk (blk_below (g := gb695) (o := .cells #[.int .i64 a1_0, .int .i64 a1_1] 23 (0, 0)) (by refine bf_ ?_ NB695_713; refine bf_ ?_ NB695_713; exact bk_ BK695) hb); replace BK701 := Aside0.mk (blk_below (g := gb701) (o := .cells #[.int .i64 t698, .int .i64 t699] 23 (0, 0)) (by refine bf_ ?_ NB701_713; refine bf_ ?_ NB701_713; exact bk_ BK701) hb); replace BK705 := Aside0.mk (blk_below (g := gb705) (o := .cells #[.int .i64 t702, .int .i64 t703] 23 (0, 0)) (by refine bf_ ?_ NB705_713; refine bf_ ?_ NB705_713; exact bk_ BK705) hb); replace BK709 := Aside0.mk (blk_below (g := gb709) (o := .cells #[.int .i64 t706, .int .i64 t707] 23 (0, 0)) (by refine bf_ ?_ NB709_713; refine bf_ ?_ NB709_713; exact bk_ BK709) hb); replace BK713 := Aside0.mk (blk_below (g := gb713) (o := .cells #[.int .i64 t710, .int .i64 t711] 23 (0, 0)) (by refine bp_ (cs := #[.int .i64 t710, .int .i64 0]) ?_ 1; refine bp_ (cs := #[.int .i64 0, .int .i64 0]) ?_ 0; exact bk_ BK713) hb); replace HB := bws_ HB hb; (try clear hb); (try clear hb2); (try clear hk); (try clear hi); obtain ⟨hcz255_0, hcz255_1, hfz255_0, hfz255_1⟩ := bc2_ BK694; obtain ⟨hcz256_0, hcz256_1, hfz256_0, hfz256_1⟩ := bc2_ BK695) | ((with_reducible refine gate_callee (f := 50) rfl ?_); refine gla_ (some 61) Try.func50 #[.agg #[.int .i64 a0_0, .int .i64 a0_1], .agg #[.int .i64 a1_0, .int .i64 a1_1]] ?_; (with_reducible refine (withyref01_Cmp.calls k a0_0 a0_1 a1_0 a1_1 t716 t717 _ A13.out).mono ?_); rintro e w257 ⟨rfl, hb⟩; refine ⟨_, rfl, ?_⟩; replace BK694 := bkb_ BK694 hb; replace BK695 := bkb_ BK695 hb; replace BK701 := bkb_ BK701 hb; replace BK705 := bkb_ BK705 hb; replace BK709 := bkb_ BK709 hb; replace BK713 := bkb_ BK713 hb; replace HB := bws_ HB hb; (try clear hb); (try clear hb2); (try clear hk); (try clear hi); obtain ⟨hcz258_0, hcz258_1, hfz258_0, hfz258_1⟩ := bc2_ BK694) | ((with_reducible refine gate_callee (f := 45) rfl ?_); refine gla_ (some 66) Try.func45 #[.agg #[.int .i64 a0_0, .int .i64 a0_1]] ?_; (with_reducible refine (num_Whole.calls k a0_0 a0_1 t718 t719 _ A14.out).mono ?_); rintro e w259 ⟨rfl, hb⟩; refine ⟨_, rfl, ?_⟩; replace BK694 := bkb_ BK694 hb; replace BK695 := bkb_ BK695 hb; replace BK701 := bkb_ BK701 hb; replace BK705 := bkb_ BK705 hb; replace BK709 := bkb_ BK709 hb; replace BK713 := bkb_ BK713 hb; replace HB := bws_ HB hb; (try clear hb); (try clear hb2); (try clear hk); (try clear hi); obtain ⟨hcz260_0, hcz260_1, hfz260_0, hfz260_1⟩ := bc2_ BK694) | ((with_reducible refine gate_callee (f := 51) rfl ?_); refine gla_ (some 71) Try.func51 #[.agg #[.int .i64 a0_0, .int .i64 a0_1]] ?_; (with_reducible refine (withyref01_Whole.calls k a0_0 a0_1 t720 t721 _ A15.out).mono ?_); rintro e w261 ⟨rfl, hb⟩; refine ⟨_, rfl, ?_⟩; replace BK694 := bkb_ BK694 hb; replace BK695 := bkb_ BK695 hb; replace BK701 := bkb_ BK701 hb; replace BK705 := bkb_ BK705 hb; replace BK709 := bkb_ BK709 hb; replace BK713 := bkb_ BK713 hb; replace HB := bws_ HB hb; (try clear hb); (try clear hb2); (try clear hk); (try clear hi); obtain ⟨hcz262_0, hcz262_1, hfz262_0, hfz262_1⟩ := bc2_ BK701; obtain ⟨hcz263_0, hcz263_1, hfz263_0, hfz263_1⟩ := bc2_ BK705; obtain ⟨hcz264_0, hcz264_1, hfz264_0, hfz264_1⟩ := bc2_ BK709; obtain ⟨hcz265_0, hcz265_1, hfz265_0, hfz265_1⟩ := bc2_ BK713))
                go_ret
                exact ⟨by first | rfl | (simp [*] <;> rfl), bw_ HB⟩
          · rw [if_neg c19] at H
            have c19b0 : (t706 == t710 && (t707 == t711)) = false := by simpa using c19
            (try (have c19b1 : decide (t706 = t710 && (t707 == t711)) = false := by simpa using c19))
            (try (have c19b2 : (t706 == t710 && (t707 == t711)) = false := by simpa using c19))
            (try (have c19b3 : ¬ (t706 = t710 && (t707 == t711)) := by simpa using c19))
            clear c19
            obtain rfl := Option.some.inj H
            as_aux_lemma =>
              go_enter Try.func11, Try.ntmps11
              try go_wp2_with (first | ((with_reducible refine gate_dst (N := 4) rfl ?_); refine box_event ?hg (N := 4) ?hd (cs := #[.int .i64 a0_0, .int .i64 a0_1]) (t := 23) ?hr ?_; (case hd => rfl); (case hg => rfl); (case hr => first | (go_simp; done) | (go_simp; rfl)); intro gb694 hg w266 hbox hb; have BK694 := Aside0.mk hbox; have GW694 := bwg_ HB hg; have GE694 := bwg_ HB hg; replace HB := bws_ HB hb; clear hb hbox hg) | ((with_reducible refine gate_dst (N := 5) rfl ?_); refine box_event ?hg (N := 5) ?hd (cs := #[.int .i64 a1_0, .int .i64 a1_1]) (t := 23) ?hr ?_; (case hd => rfl); (case hg => rfl); (case hr => first | (go_simp; done) | (go_simp; rfl)); intro gb695 hg w267 hbox hb; have BK695 := Aside0.mk hbox; have GW695 := bwg_ HB hg; have GE695 := bwg_ HB hg; replace HB := bws_ HB hb; have NB694_695 := bkl_ BK694 hg; have NB695_694 := bkr_ BK694 hg; replace BK694 := bkb_ BK694 hb; clear hb hbox hg))
              replace BK694 := Aside0.mk (blk_drew BK694.out)
              replace BK695 := Aside0.mk (blk_drew BK695.out)
              replace HB := Aside0.mk (below_drew1 HB.out)
              refine start_ (n := 5) (S := fun w' => w'.cell? ⟨gb694, 0, none⟩ = some (.int .i64 a0_0) ∧ w'.cell? ⟨gb694, 1, none⟩ = some (.int .i64 a0_1)) (ds := []) #[false, false, false, false, false] (by kernel_rfl) rfl rfl ⟨(blk_cell BK694.out 0).trans rfl, (blk_cell BK694.out 1).trans rfl⟩ (fun hHeld => ?_)
              generalize w267.drew = w268 at BK694 BK695 HB hHeld ⊢
              refine take_ (i := 0) (N := some 25) (v := ?_) (a' := ?_) #[true, false, false, false, false] rfl rfl (by kernel_rfl) (fun _ _ _ h => h) (Or.inl ⟨by rfl, ?_⟩) hHeld ?_ ?_
              rotate_left
              · rintro w' ⟨s0, s1⟩
                go_simp
                with_reducible rfl
              rotate_left
              · simp only [Act.put, List.setIfInBounds_toArray, List.set_cons_zero, List.set_cons_succ, i64_w, i32_w]
                rfl
              refine take_ (i := 2) (N := some 27) (v := ?_) (a' := ?_) #[true, false, true, false, false] rfl rfl (by kernel_rfl) (fun _ _ _ h => h) (Or.inl ⟨by rfl, ?_⟩) hHeld ?_ ?_
              rotate_left
              · rintro w' ⟨s0, s1⟩
                go_simp
                with_reducible rfl
              rotate_left
              · simp only [Act.put, List.setIfInBounds_toArray, List.set_cons_zero, List.set_cons_succ, i64_w, i32_w]
                rfl
              refine one_ (i := 1) (N := some 26) #[true, true, true, false, false] rfl rfl (by kernel_rfl) (by decide) (fun K hK => ?_)
              refine gos_ Try.func46 #[.agg #[.int .i64 a0_0, .int .i64 a0_1]] ?_
              with_reducible refine (num_Check.calls k a0_0 a0_1 t696 _ A5.out).mono ?_
              rintro e w269 ⟨rfl, hb⟩
              refine ⟨_, rfl, ?_⟩
              replace BK694 := bkb_ BK694 hb
              replace BK695 := bkb_ BK695 hb
              replace HB := bws_ HB hb
              (try clear hb)
              (try clear hb2)
              (try clear hk)
              (try clear hi)
              refine hK.out _ _ ⟨(blk_cell BK694.out 0).trans rfl, (blk_cell BK694.out 1).trans rfl⟩ (fun hHeld => ?_)
              clear hK K
              refine norm_ (a' := ?_) ?_ ?_
              rotate_left
              · show Act.put _ (some 26) _ = _
                simp only [Act.put, List.setIfInBounds_toArray, List.set_cons_zero, List.set_cons_succ, i64_w, i32_w]
                rfl
              refine one_ (i := 3) (N := some 28) #[true, true, true, true, false] rfl rfl (by kernel_rfl) (by decide) (fun K hK => ?_)
              refine gos_ Try.func41 #[.agg #[.int .i64 a0_0, .int .i64 a0_1]] ?_
              with_reducible refine (withyref01_Check.calls k a0_0 a0_1 t697 _ A6.out).mono ?_
              rintro e w270 ⟨rfl, hb⟩
              refine ⟨_, rfl, ?_⟩
              replace BK694 := bkb_ BK694 hb
              replace BK695 := bkb_ BK695 hb
              replace HB := bws_ HB hb
              (try clear hb)
              (try clear hb2)
              (try clear hk)
              (try clear hi)
              refine hK.out _ _ ⟨(blk_cell BK694.out 0).trans rfl, (blk_cell BK694.out 1).trans rfl⟩ (fun hHeld => ?_)
              clear hK K
              refine norm_ (a' := ?_) ?_ ?_
              rotate_left
              · show Act.put _ (some 28) _ = _
                simp only [Act.put, List.setIfInBounds_toArray, List.set_cons_zero, List.set_cons_succ, i64_w, i32_w]
                rfl
              refine pure_ (i := 4) (N := some 29) (v := ?_) (a' := ?_) #[true, true, true, true, true] rfl rfl (by kernel_rfl) (fun _ _ _ h => h) (Or.inl ⟨by rfl, ?_⟩) ?_ ?_
              rotate_left
              · intro w'
                go_simp
                with_reducible rfl
              rotate_left
              · simp only [Act.put, List.setIfInBounds_toArray, List.set_cons_zero, List.set_cons_succ, i64_w, i32_w]
                rfl
              refine done_ (by kernel_rfl) ?_
              try go_wp2_with (first | ((with_reducible refine gate_callee (f := 47) rfl ?_); refine gla_ (some 33) Try.func47 #[.int .i64 a2, .int .i64 a3] ?_; (with_reducible refine (num_Make.calls k a2 a3 t698 t699 t700 _ A8.out).mono ?_); rintro e w271 ⟨rfl, hb⟩; refine ⟨_, rfl, ?_⟩; replace BK694 := bkb_ BK694 hb; replace BK695 := bkb_ BK695 hb; replace HB := bws_ HB hb; (try clear hb); (try clear hb2); (try clear hk); (try clear hi)) | ((with_reducible refine gate_dst (N := 9) rfl ?_); refine box_event ?hg (N := 9) ?hd (cs := #[.int .i64 0, .int .i64 0]) (t := 23) ?hr ?_; (case hd => rfl); (case hg => rfl); (case hr => first | (go_simp; done) | (go_simp; rfl)); intro gb701 hg w272 hbox hb; have BK701 := Aside0.mk hbox; have GW701 := bwg_ HB hg; have GE701 := bwg_ HB hg; replace HB := bws_ HB hb; have NB694_701 := bkl_ BK694 hg; have NB701_694 := bkr_ BK694 hg; replace BK694 := bkb_ BK694 hb; have NB695_701 := bkl_ BK695 hg; have NB701_695 := bkr_ BK695 hg; replace BK695 := bkb_ BK695 hb; clear hb hbox hg; have hnb273 := NB701_694.out; have hnc273 := NB694_701.out; have hnb274 := NB701_695.out; have hnc274 := NB695_701.out; obtain ⟨hcz275_0, hcz275_1, hfz275_0, hfz275_1⟩ := bc2_ BK701) | ((with_reducible refine gate_callee (f := 48) rfl ?_); refine gla_ (some 39) Try.func48 #[.int .i64 a2, .int .i64 a3] ?_; (with_reducible refine (withyref01_Make.calls k a2 a3 t702 t703 t704 _ A9.out).mono ?_); rintro e w276 ⟨rfl, hb⟩; refine ⟨_, rfl, ?_⟩; replace BK694 := Aside0.mk (blk_below (g := gb694) (o := .cells #[.int .i64 a0_0, .int .i64 a0_1] 23 (0, 0)) (by refine bf_ ?_ NB694_701; refine bf_ ?_ NB694_701; exact bk_ BK694) hb); replace BK695 := Aside0.mk (blk_below (g := gb695) (o := .cells #[.int .i64 a1_0, .int .i64 a1_1] 23 (0, 0)) (by refine bf_ ?_ NB695_701; refine bf_ ?_ NB695_701; exact bk_ BK695) hb); replace BK701 := Aside0.mk (blk_below (g := gb701) (o := .cells #[.int .i64 t698, .int .i64 t699] 23 (0, 0)) (by refine bp_ (cs := #[.int .i64 t698, .int .i64 0]) ?_ 1; refine bp_ (cs := #[.int .i64 0, .int .i64 0]) ?_ 0; exact bk_ BK701) hb); replace HB := bws_ HB hb; (try clear hb); (try clear hb2); (try clear hk); (try clear hi)) | ((with_reducible refine gate_dst (N := 11) rfl ?_); refine box_event ?hg (N := 11) ?hd (cs := #[.int .i64 0, .int .i64 0]) (t := 23) ?hr ?_; (case hd => rfl); (case hg => rfl); (case hr => first | (go_simp; done) | (go_simp; rfl)); intro gb705 hg w277 hbox hb; have BK705 := Aside0.mk hbox; have GW705 := bwg_ HB hg; have GE705 := bwg_ HB hg; replace HB := bws_ HB hb; have NB694_705 := bkl_ BK694 hg; have NB705_694 := bkr_ BK694 hg; replace BK694 := bkb_ BK694 hb; have NB695_705 := bkl_ BK695 hg; have NB705_695 := bkr_ BK695 hg; replace BK695 := bkb_ BK695 hb; have NB701_705 := bkl_ BK701 hg; have NB705_701 := bkr_ BK701 hg; replace BK701 := bkb_ BK701 hb; clear hb hbox hg; have hnb278 := NB705_694.out; have hnc278 := NB694_705.out; have hnb279 := NB705_695.out; have hnc279 := NB695_705.out; have hnb280 := NB705_701.out; have hnc280 := NB701_705.out; obtain ⟨hcz281_0, hcz281_1, hfz281_0, hfz281_1⟩ := bc2_ BK705; have hnb282 := NB694_695.out; have hnc282 := NB695_694.out; obtain ⟨hcz283_0, hcz283_1, hfz283_0, hfz283_1⟩ := bc2_ BK694) | ((with_reducible refine gate_callee (f := 43) rfl ?_); refine gla_ (some 44) Try.func43 #[.agg #[.int .i64 a0_0, .int .i64 a0_1]] ?_; (with_reducible refine (num_Neg.calls k a0_0 a0_1 t706 t707 t708 _ A10.out).mono ?_); rintro e w284 ⟨rfl, hb⟩; refine ⟨_, rfl, ?_⟩; replace BK694 := Aside0.mk (blk_below (g := gb694) (o := .cells #[.int .i64 a0_0, .int .i64 a0_1] 23 (0, 0)) (by refine bf_ ?_ NB694_705; refine bf_ ?_ NB694_705; exact bk_ BK694) hb); replace BK695 := Aside0.mk (blk_below (g := gb695) (o := .cells #[.int .i64 a1_0, .int .i64 a1_1] 23 (0, 0)) (by refine bf_ ?_ NB695_705; refine bf_ ?_ NB695_705; exact bk_ BK695) hb); replace BK701 := Aside0.mk (blk_below (g := gb701) (o := .cells #[.int .i64 t698, .int .i64 t699] 23 (0, 0)) (by refine bf_ ?_ NB701_705; refine bf_ ?_ NB701_705; exact bk_ BK701) hb); replace BK705 := Aside0.mk (blk_below (g := gb705) (o := .cells #[.int .i64 t702, .int .i64 t703] 23 (0, 0)) (by refine bp_ (cs := #[.int .i64 t702, .int .i64 0]) ?_ 1; refine bp_ (cs := #[.int .i64 0, .int .i64 0]) ?_ 0; exact bk_ BK705) hb); replace HB := bws_ HB hb; (try clear hb); (try clear hb2); (try clear hk); (try clear hi)) | ((with_reducible refine gate_dst (N := 13) rfl ?_); refine box_event ?hg (N := 13) ?hd (cs := #[.int .i64 0, .int .i64 0]) (t := 23) ?hr ?_; (case hd => rfl); (case hg => rfl); (case hr => first | (go_simp; done) | (go_simp; rfl)); intro gb709 hg w285 hbox hb; have BK709 := Aside0.mk hbox; have GW709 := bwg_ HB hg; have GE709 := bwg_ HB hg; replace HB := bws_ HB hb; have NB694_709 := bkl_ BK694 hg; have NB709_694 := bkr_ BK694 hg; replace BK694 := bkb_ BK694 hb; have NB695_709 := bkl_ BK695 hg; have NB709_695 := bkr_ BK695 hg; replace BK695 := bkb_ BK695 hb; have NB701_709 := bkl_ BK701 hg; have NB709_701 := bkr_ BK701 hg; replace BK701 := bkb_ BK701 hb; have NB705_709 := bkl_ BK705 hg; have NB709_705 := bkr_ BK705 hg; replace BK705 := bkb_ BK705 hb; clear hb hbox hg; have hnb286 := NB709_694.out; have hnc286 := NB694_709.out; have hnb287 := NB709_695.out; have hnc287 := NB695_709.out; have hnb288 := NB709_701.out; have hnc288 := NB701_709.out; have hnb289 := NB709_705.out; have hnc289 := NB705_709.out; obtain ⟨hcz290_0, hcz290_1, hfz290_0, hfz290_1⟩ := bc2_ BK709; obtain ⟨hcz291_0, hcz291_1, hfz291_0, hfz291_1⟩ := bc2_ BK694) | ((with_reducible refine gate_callee (f := 49) rfl ?_); refine gla_ (some 49) Try.func49 #[.agg #[.int .i64 a0_0, .int .i64 a0_1]] ?_; (with_reducible refine (withyref01_Neg.calls k a0_0 a0_1 t710 t711 t712 _ A11.out).mono ?_); rintro e w292 ⟨rfl, hb⟩; refine ⟨_, rfl, ?_⟩; replace BK694 := Aside0.mk (blk_below (g := gb694) (o := .cells #[.int .i64 a0_0, .int .i64 a0_1] 23 (0, 0)) (by refine bf_ ?_ NB694_709; refine bf_ ?_ NB694_709; exact bk_ BK694) hb); replace BK695 := Aside0.mk (blk_below (g := gb695) (o := .cells #[.int .i64 a1_0, .int .i64 a1_1] 23 (0, 0)) (by refine bf_ ?_ NB695_709; refine bf_ ?_ NB695_709; exact bk_ BK695) hb); replace BK701 := Aside0.mk (blk_below (g := gb701) (o := .cells #[.int .i64 t698, .int .i64 t699] 23 (0, 0)) (by refine bf_ ?_ NB701_709; refine bf_ ?_ NB701_709; exact bk_ BK701) hb); replace BK705 := Aside0.mk (blk_below (g := gb705) (o := .cells #[.int .i64 t702, .int .i64 t703] 23 (0, 0)) (by refine bf_ ?_ NB705_709; refine bf_ ?_ NB705_709; exact bk_ BK705) hb); replace BK709 := Aside0.mk (blk_below (g := gb709) (o := .cells #[.int .i64 t706, .int .i64 t707] 23 (0, 0)) (by refine bp_ (cs := #[.int .i64 t706, .int .i64 0]) ?_ 1; refine bp_ (cs := #[.int .i64 0, .int .i64 0]) ?_ 0; exact bk_ BK709) hb); replace HB := bws_ HB hb; (try clear hb); (try clear hb2); (try clear hk); (try clear hi)) | ((with_reducible refine gate_dst (N := 15) rfl ?_); refine box_event ?hg (N := 15) ?hd (cs := #[.int .i64 0, .int .i64 0]) (t := 23) ?hr ?_; (case hd => rfl); (case hg => rfl); (case hr => first | (go_simp; done) | (go_simp; rfl)); intro gb713 hg w293 hbox hb; have BK713 := Aside0.mk hbox; have GW713 := bwg_ HB hg; have GE713 := bwg_ HB hg; replace HB := bws_ HB hb; have NB694_713 := bkl_ BK694 hg; have NB713_694 := bkr_ BK694 hg; replace BK694 := bkb_ BK694 hb; have NB695_713 := bkl_ BK695 hg; have NB713_695 := bkr_ BK695 hg; replace BK695 := bkb_ BK695 hb; have NB701_713 := bkl_ BK701 hg; have NB713_701 := bkr_ BK701 hg; replace BK701 := bkb_ BK701 hb; have NB705_713 := bkl_ BK705 hg; have NB713_705 := bkr_ BK705 hg; replace BK705 := bkb_ BK705 hb; have NB709_713 := bkl_ BK709 hg; have NB713_709 := bkr_ BK709 hg; replace BK709 := bkb_ BK709 hb; clear hb hbox hg; have hnb294 := NB713_694.out; have hnc294 := NB694_713.out; have hnb295 := NB713_695.out; have hnc295 := NB695_713.out; have hnb296 := NB713_701.out; have hnc296 := NB701_713.out; have hnb297 := NB713_705.out; have hnc297 := NB705_713.out; have hnb298 := NB713_709.out; have hnc298 := NB709_713.out; obtain ⟨hcz299_0, hcz299_1, hfz299_0, hfz299_1⟩ := bc2_ BK713; obtain ⟨hcz300_0, hcz300_1, hfz300_0, hfz300_1⟩ := bc2_ BK694; obtain ⟨hcz301_0, hcz301_1, hfz301_0, hfz301_1⟩ := bc2_ BK695) | ((with_reducible refine gate_callee (f := 26) rfl ?_); refine gla_ (some 55) Try.func26 #[.agg #[.int .i64 a0_0, .int .i64 a0_1], .agg #[.int .i64 a1_0, .int .i64 a1_1]] ?_; (with_reducible refine (num_Cmp.calls k a0_0 a0_1 a1_0 a1_1 t714 t715 _ A12.out).mono ?_); rintro e w302 ⟨rfl, hb⟩; refine ⟨_, rfl, ?_⟩; replace BK694 := Aside0.mk (blk_below (g := gb694) (o := .cells #[.int .i64 a0_0, .int .i64 a0_1] 23 (0, 0)) (by refine bf_ ?_ NB694_713; refine bf_ ?_ NB694_713; exact bk_ BK694) hb); replace BK695 := Aside0.mk (blk_below (g := gb695) (o := .cells #[.int .i64 a1_0, .int .i64 a1_1] 23 (0, 0)) (by refine bf_ ?_ NB695_713; refine bf_ ?_ NB695_713; exact bk_ BK695) hb); replace BK701 := Aside0.mk (blk_below (g := gb701) (o := .cells #[.int .i64 t698, .int .i64 t699] 23 (0, 0)) (by refine bf_ ?_ NB701_713; refine bf_ ?_ NB701_713; exact bk_ BK701) hb); replace BK705 := Aside0.mk (blk_below (g := gb705) (o := .cells #[.int .i64 t702, .int .i64 t703] 23 (0, 0)) (by refine bf_ ?_ NB705_713; refine bf_ ?_ NB705_713; exact bk_ BK705) hb); replace BK709 := Aside0.mk (blk_below (g := gb709) (o := .cells #[.int .i64 t706, .int .i64 t707] 23 (0, 0)) (by refine bf_ ?_ NB709_713; refine bf_ ?_ NB709_713; exact bk_ BK709) hb); replace BK713 := Aside0.mk (blk_below (g := gb713) (o := .cells #[.int .i64 t710, .int .i64 t711] 23 (0, 0)) (by refine bp_ (cs := #[.int .i64 t710, .int .i64 0]) ?_ 1; refine bp_ (cs := #[.int .i64 0, .int .i64 0]) ?_ 0; exact bk_ BK713) hb); replace HB := bws_ HB hb; (try clear hb); (try clear hb2); (try clear hk); (try clear hi); obtain ⟨hcz303_0, hcz303_1, hfz303_0, hfz303_1⟩ := bc2_ BK694; obtain ⟨hcz304_0, hcz304_1, hfz304_0, hfz304_1⟩ := bc2_ BK695) | ((with_reducible refine gate_callee (f := 50) rfl ?_); refine gla_ (some 61) Try.func50 #[.agg #[.int .i64 a0_0, .int .i64 a0_1], .agg #[.int .i64 a1_0, .int .i64 a1_1]] ?_; (with_reducible refine (withyref01_Cmp.calls k a0_0 a0_1 a1_0 a1_1 t716 t717 _ A13.out).mono ?_); rintro e w305 ⟨rfl, hb⟩; refine ⟨_, rfl, ?_⟩; replace BK694 := bkb_ BK694 hb; replace BK695 := bkb_ BK695 hb; replace BK701 := bkb_ BK701 hb; replace BK705 := bkb_ BK705 hb; replace BK709 := bkb_ BK709 hb; replace BK713 := bkb_ BK713 hb; replace HB := bws_ HB hb; (try clear hb); (try clear hb2); (try clear hk); (try clear hi); obtain ⟨hcz306_0, hcz306_1, hfz306_0, hfz306_1⟩ := bc2_ BK694) | ((with_reducible refine gate_callee (f := 45) rfl ?_); refine gla_ (some 66) Try.func45 #[.agg #[.int .i64 a0_0, .int .i64 a0_1]] ?_; (with_reducible refine (num_Whole.calls k a0_0 a0_1 t718 t719 _ A14.out).mono ?_); rintro e w307 ⟨rfl, hb⟩; refine ⟨_, rfl, ?_⟩; replace BK694 := bkb_ BK694 hb; replace BK695 := bkb_ BK695 hb; replace BK701 := bkb_ BK701 hb; replace BK705 := bkb_ BK705 hb; replace BK709 := bkb_ BK709 hb; replace BK713 := bkb_ BK713 hb; replace HB := bws_ HB hb; (try clear hb); (try clear hb2); (try clear hk); (try clear hi); obtain ⟨hcz308_0, hcz308_1, hfz308_0, hfz308_1⟩ := bc2_ BK694) | ((with_reducible refine gate_callee (f := 51) rfl ?_); refine gla_ (some 71) Try.func51 #[.agg #[.int .i64 a0_0, .int .i64 a0_1]] ?_; (with_reducible refine (withyref01_Whole.calls k a0_0 a0_1 t720 t721 _ A15.out).mono ?_); rintro e w309 ⟨rfl, hb⟩; refine ⟨_, rfl, ?_⟩; replace BK694 := bkb_ BK694 hb; replace BK695 := bkb_ BK695 hb; replace BK701 := bkb_ BK701 hb; replace BK705 := bkb_ BK705 hb; replace BK709 := bkb_ BK709 hb; replace BK713 := bkb_ BK713 hb; replace HB := bws_ HB hb; (try clear hb); (try clear hb2); (try clear hk); (try clear hi); obtain ⟨hcz310_0, hcz310_1, hfz310_0, hfz310_1⟩ := bc2_ BK701; obtain ⟨hcz311_0, hcz311_1, hfz311_0, hfz311_1⟩ := bc2_ BK705; obtain ⟨hcz312_0, hcz312_1, hfz312_0, hfz312_1⟩ := bc2_ BK709; obtain ⟨hcz313_0, hcz313_1, hfz313_0, hfz313_1⟩ := bc2_ BK713))
              go_ret
              exact ⟨by first | rfl | (simp [*] <;> rfl), bw_ HB⟩
        · rw [if_neg c18] at H
          have c18b0 : (t708 == t712) = false := beq_eq_false_iff_ne.mpr c18
          have c18b1 : (t708 != t712) = true := bne_iff_ne.mpr c18
          obtain rfl := Option.some.inj H
          as_aux_lemma =>
            go_enter Try.func11, Try.ntmps11
            try go_wp2_with (first | ((with_reducible refine gate_dst (N := 4) rfl ?_); refine box_event ?hg (N := 4) ?hd (cs := #[.int .i64 a0_0, .int .i64 a0_1]) (t := 23) ?hr ?_; (case hd => rfl); (case hg => rfl); (case hr => first | (go_simp; done) | (go_simp; rfl)); intro gb694 hg w314 hbox hb; have BK694 := Aside0.mk hbox; have GW694 := bwg_ HB hg; have GE694 := bwg_ HB hg; replace HB := bws_ HB hb; clear hb hbox hg) | ((with_reducible refine gate_dst (N := 5) rfl ?_); refine box_event ?hg (N := 5) ?hd (cs := #[.int .i64 a1_0, .int .i64 a1_1]) (t := 23) ?hr ?_; (case hd => rfl); (case hg => rfl); (case hr => first | (go_simp; done) | (go_simp; rfl)); intro gb695 hg w315 hbox hb; have BK695 := Aside0.mk hbox; have GW695 := bwg_ HB hg; have GE695 := bwg_ HB hg; replace HB := bws_ HB hb; have NB694_695 := bkl_ BK694 hg; have NB695_694 := bkr_ BK694 hg; replace BK694 := bkb_ BK694 hb; clear hb hbox hg))
            replace BK694 := Aside0.mk (blk_drew BK694.out)
            replace BK695 := Aside0.mk (blk_drew BK695.out)
            replace HB := Aside0.mk (below_drew1 HB.out)
            refine start_ (n := 5) (S := fun w' => w'.cell? ⟨gb694, 0, none⟩ = some (.int .i64 a0_0) ∧ w'.cell? ⟨gb694, 1, none⟩ = some (.int .i64 a0_1)) (ds := []) #[false, false, false, false, false] (by kernel_rfl) rfl rfl ⟨(blk_cell BK694.out 0).trans rfl, (blk_cell BK694.out 1).trans rfl⟩ (fun hHeld => ?_)
            generalize w315.drew = w316 at BK694 BK695 HB hHeld ⊢
            refine take_ (i := 0) (N := some 25) (v := ?_) (a' := ?_) #[true, false, false, false, false] rfl rfl (by kernel_rfl) (fun _ _ _ h => h) (Or.inl ⟨by rfl, ?_⟩) hHeld ?_ ?_
            rotate_left
            · rintro w' ⟨s0, s1⟩
              go_simp
              with_reducible rfl
            rotate_left
            · simp only [Act.put, List.setIfInBounds_toArray, List.set_cons_zero, List.set_cons_succ, i64_w, i32_w]
              rfl
            refine take_ (i := 2) (N := some 27) (v := ?_) (a' := ?_) #[true, false, true, false, false] rfl rfl (by kernel_rfl) (fun _ _ _ h => h) (Or.inl ⟨by rfl, ?_⟩) hHeld ?_ ?_
            rotate_left
            · rintro w' ⟨s0, s1⟩
              go_simp
              with_reducible rfl
            rotate_left
            · simp only [Act.put, List.setIfInBounds_toArray, List.set_cons_zero, List.set_cons_succ, i64_w, i32_w]
              rfl
            refine one_ (i := 1) (N := some 26) #[true, true, true, false, false] rfl rfl (by kernel_rfl) (by decide) (fun K hK => ?_)
            refine gos_ Try.func46 #[.agg #[.int .i64 a0_0, .int .i64 a0_1]] ?_
            with_reducible refine (num_Check.calls k a0_0 a0_1 t696 _ A5.out).mono ?_
            rintro e w317 ⟨rfl, hb⟩
            refine ⟨_, rfl, ?_⟩
            replace BK694 := bkb_ BK694 hb
            replace BK695 := bkb_ BK695 hb
            replace HB := bws_ HB hb
            (try clear hb)
            (try clear hb2)
            (try clear hk)
            (try clear hi)
            refine hK.out _ _ ⟨(blk_cell BK694.out 0).trans rfl, (blk_cell BK694.out 1).trans rfl⟩ (fun hHeld => ?_)
            clear hK K
            refine norm_ (a' := ?_) ?_ ?_
            rotate_left
            · show Act.put _ (some 26) _ = _
              simp only [Act.put, List.setIfInBounds_toArray, List.set_cons_zero, List.set_cons_succ, i64_w, i32_w]
              rfl
            refine one_ (i := 3) (N := some 28) #[true, true, true, true, false] rfl rfl (by kernel_rfl) (by decide) (fun K hK => ?_)
            refine gos_ Try.func41 #[.agg #[.int .i64 a0_0, .int .i64 a0_1]] ?_
            with_reducible refine (withyref01_Check.calls k a0_0 a0_1 t697 _ A6.out).mono ?_
            rintro e w318 ⟨rfl, hb⟩
            refine ⟨_, rfl, ?_⟩
            replace BK694 := bkb_ BK694 hb
            replace BK695 := bkb_ BK695 hb
            replace HB := bws_ HB hb
            (try clear hb)
            (try clear hb2)
            (try clear hk)
            (try clear hi)
            refine hK.out _ _ ⟨(blk_cell BK694.out 0).trans rfl, (blk_cell BK694.out 1).trans rfl⟩ (fun hHeld => ?_)
            clear hK K
            refine norm_ (a' := ?_) ?_ ?_
            rotate_left
            · show Act.put _ (some 28) _ = _
              simp only [Act.put, List.setIfInBounds_toArray, List.set_cons_zero, List.set_cons_succ, i64_w, i32_w]
              rfl
            refine pure_ (i := 4) (N := some 29) (v := ?_) (a' := ?_) #[true, true, true, true, true] rfl rfl (by kernel_rfl) (fun _ _ _ h => h) (Or.inl ⟨by rfl, ?_⟩) ?_ ?_
            rotate_left
            · intro w'
              go_simp
              with_reducible rfl
            rotate_left
            · simp only [Act.put, List.setIfInBounds_toArray, List.set_cons_zero, List.set_cons_succ, i64_w, i32_w]
              rfl
            refine done_ (by kernel_rfl) ?_
            try go_wp2_with (first | ((with_reducible refine gate_callee (f := 47) rfl ?_); refine gla_ (some 33) Try.func47 #[.int .i64 a2, .int .i64 a3] ?_; (with_reducible refine (num_Make.calls k a2 a3 t698 t699 t700 _ A8.out).mono ?_); rintro e w319 ⟨rfl, hb⟩; refine ⟨_, rfl, ?_⟩; replace BK694 := bkb_ BK694 hb; replace BK695 := bkb_ BK695 hb; replace HB := bws_ HB hb; (try clear hb); (try clear hb2); (try clear hk); (try clear hi)) | ((with_reducible refine gate_dst (N := 9) rfl ?_); refine box_event ?hg (N := 9) ?hd (cs := #[.int .i64 0, .int .i64 0]) (t := 23) ?hr ?_; (case hd => rfl); (case hg => rfl); (case hr => first | (go_simp; done) | (go_simp; rfl)); intro gb701 hg w320 hbox hb; have BK701 := Aside0.mk hbox; have GW701 := bwg_ HB hg; have GE701 := bwg_ HB hg; replace HB := bws_ HB hb; have NB694_701 := bkl_ BK694 hg; have NB701_694 := bkr_ BK694 hg; replace BK694 := bkb_ BK694 hb; have NB695_701 := bkl_ BK695 hg; have NB701_695 := bkr_ BK695 hg; replace BK695 := bkb_ BK695 hb; clear hb hbox hg; have hnb321 := NB701_694.out; have hnc321 := NB694_701.out; have hnb322 := NB701_695.out; have hnc322 := NB695_701.out; obtain ⟨hcz323_0, hcz323_1, hfz323_0, hfz323_1⟩ := bc2_ BK701) | ((with_reducible refine gate_callee (f := 48) rfl ?_); refine gla_ (some 39) Try.func48 #[.int .i64 a2, .int .i64 a3] ?_; (with_reducible refine (withyref01_Make.calls k a2 a3 t702 t703 t704 _ A9.out).mono ?_); rintro e w324 ⟨rfl, hb⟩; refine ⟨_, rfl, ?_⟩; replace BK694 := Aside0.mk (blk_below (g := gb694) (o := .cells #[.int .i64 a0_0, .int .i64 a0_1] 23 (0, 0)) (by refine bf_ ?_ NB694_701; refine bf_ ?_ NB694_701; exact bk_ BK694) hb); replace BK695 := Aside0.mk (blk_below (g := gb695) (o := .cells #[.int .i64 a1_0, .int .i64 a1_1] 23 (0, 0)) (by refine bf_ ?_ NB695_701; refine bf_ ?_ NB695_701; exact bk_ BK695) hb); replace BK701 := Aside0.mk (blk_below (g := gb701) (o := .cells #[.int .i64 t698, .int .i64 t699] 23 (0, 0)) (by refine bp_ (cs := #[.int .i64 t698, .int .i64 0]) ?_ 1; refine bp_ (cs := #[.int .i64 0, .int .i64 0]) ?_ 0; exact bk_ BK701) hb); replace HB := bws_ HB hb; (try clear hb); (try clear hb2); (try clear hk); (try clear hi)) | ((with_reducible refine gate_dst (N := 11) rfl ?_); refine box_event ?hg (N := 11) ?hd (cs := #[.int .i64 0, .int .i64 0]) (t := 23) ?hr ?_; (case hd => rfl); (case hg => rfl); (case hr => first | (go_simp; done) | (go_simp; rfl)); intro gb705 hg w325 hbox hb; have BK705 := Aside0.mk hbox; have GW705 := bwg_ HB hg; have GE705 := bwg_ HB hg; replace HB := bws_ HB hb; have NB694_705 := bkl_ BK694 hg; have NB705_694 := bkr_ BK694 hg; replace BK694 := bkb_ BK694 hb; have NB695_705 := bkl_ BK695 hg; have NB705_695 := bkr_ BK695 hg; replace BK695 := bkb_ BK695 hb; have NB701_705 := bkl_ BK701 hg; have NB705_701 := bkr_ BK701 hg; replace BK701 := bkb_ BK701 hb; clear hb hbox hg; have hnb326 := NB705_694.out; have hnc326 := NB694_705.out; have hnb327 := NB705_695.out; have hnc327 := NB695_705.out; have hnb328 := NB705_701.out; have hnc328 := NB701_705.out; obtain ⟨hcz329_0, hcz329_1, hfz329_0, hfz329_1⟩ := bc2_ BK705; have hnb330 := NB694_695.out; have hnc330 := NB695_694.out; obtain ⟨hcz331_0, hcz331_1, hfz331_0, hfz331_1⟩ := bc2_ BK694) | ((with_reducible refine gate_callee (f := 43) rfl ?_); refine gla_ (some 44) Try.func43 #[.agg #[.int .i64 a0_0, .int .i64 a0_1]] ?_; (with_reducible refine (num_Neg.calls k a0_0 a0_1 t706 t707 t708 _ A10.out).mono ?_); rintro e w332 ⟨rfl, hb⟩; refine ⟨_, rfl, ?_⟩; replace BK694 := Aside0.mk (blk_below (g := gb694) (o := .cells #[.int .i64 a0_0, .int .i64 a0_1] 23 (0, 0)) (by refine bf_ ?_ NB694_705; refine bf_ ?_ NB694_705; exact bk_ BK694) hb); replace BK695 := Aside0.mk (blk_below (g := gb695) (o := .cells #[.int .i64 a1_0, .int .i64 a1_1] 23 (0, 0)) (by refine bf_ ?_ NB695_705; refine bf_ ?_ NB695_705; exact bk_ BK695) hb); replace BK701 := Aside0.mk (blk_below (g := gb701) (o := .cells #[.int .i64 t698, .int .i64 t699] 23 (0, 0)) (by refine bf_ ?_ NB701_705; refine bf_ ?_ NB701_705; exact bk_ BK701) hb); replace BK705 := Aside0.mk (blk_below (g := gb705) (o := .cells #[.int .i64 t702, .int .i64 t703] 23 (0, 0)) (by refine bp_ (cs := #[.int .i64 t702, .int .i64 0]) ?_ 1; refine bp_ (cs := #[.int .i64 0, .int .i64 0]) ?_ 0; exact bk_ BK705) hb); replace HB := bws_ HB hb; (try clear hb); (try clear hb2); (try clear hk); (try clear hi)) | ((with_reducible refine gate_dst (N := 13) rfl ?_); refine box_event ?hg (N := 13) ?hd (cs := #[.int .i64 0, .int .i64 0]) (t := 23) ?hr ?_; (case hd => rfl); (case hg => rfl); (case hr => first | (go_simp; done) | (go_simp; rfl)); intro gb709 hg w333 hbox hb; have BK709 := Aside0.mk hbox; have GW709 := bwg_ HB hg; have GE709 := bwg_ HB hg; replace HB := bws_ HB hb; have NB694_709 := bkl_ BK694 hg; have NB709_694 := bkr_ BK694 hg; replace BK694 := bkb_ BK694 hb; have NB695_709 := bkl_ BK695 hg; have NB709_695 := bkr_ BK695 hg; replace BK695 := bkb_ BK695 hb; have NB701_709 := bkl_ BK701 hg; have NB709_701 := bkr_ BK701 hg; replace BK701 := bkb_ BK701 hb; have NB705_709 := bkl_ BK705 hg; have NB709_705 := bkr_ BK705 hg; replace BK705 := bkb_ BK705 hb; clear hb hbox hg; have hnb334 := NB709_694.out; have hnc334 := NB694_709.out; have hnb335 := NB709_695.out; have hnc335 := NB695_709.out; have hnb336 := NB709_701.out; have hnc336 := NB701_709.out; have hnb337 := NB709_705.out; have hnc337 := NB705_709.out; obtain ⟨hcz338_0, hcz338_1, hfz338_0, hfz338_1⟩ := bc2_ BK709; obtain ⟨hcz339_0, hcz339_1, hfz339_0, hfz339_1⟩ := bc2_ BK694) | ((with_reducible refine gate_callee (f := 49) rfl ?_); refine gla_ (some 49) Try.func49 #[.agg #[.int .i64 a0_0, .int .i64 a0_1]] ?_; (with_reducible refine (withyref01_Neg.calls k a0_0 a0_1 t710 t711 t712 _ A11.out).mono ?_); rintro e w340 ⟨rfl, hb⟩; refine ⟨_, rfl, ?_⟩; replace BK694 := Aside0.mk (blk_below (g := gb694) (o := .cells #[.int .i64 a0_0, .int .i64 a0_1] 23 (0, 0)) (by refine bf_ ?_ NB694_709; refine bf_ ?_ NB694_709; exact bk_ BK694) hb); replace BK695 := Aside0.mk (blk_below (g := gb695) (o := .cells #[.int .i64 a1_0, .int .i64 a1_1] 23 (0, 0)) (by refine bf_ ?_ NB695_709; refine bf_ ?_ NB695_709; exact bk_ BK695) hb); replace BK701 := Aside0.mk (blk_below (g := gb701) (o := .cells #[.int .i64 t698, .int .i64 t699] 23 (0, 0)) (by refine bf_ ?_ NB701_709; refine bf_ ?_ NB701_709; exact bk_ BK701) hb); replace BK705 := Aside0.mk (blk_below (g := gb705) (o := .cells #[.int .i64 t702, .int .i64 t703] 23 (0, 0)) (by refine bf_ ?_ NB705_709; refine bf_ ?_ NB705_709; exact bk_ BK705) hb); replace BK709 := Aside0.mk (blk_below (g := gb709) (o := .cells #[.int .i64 t706, .int .i64 t707] 23 (0, 0)) (by refine bp_ (cs := #[.int .i64 t706, .int .i64 0]) ?_ 1; refine bp_ (cs := #[.int .i64 0, .int .i64 0]) ?_ 0; exact bk_ BK709) hb); replace HB := bws_ HB hb; (try clear hb); (try clear hb2); (try clear hk); (try clear hi)) | ((with_reducible refine gate_dst (N := 15) rfl ?_); refine box_event ?hg (N := 15) ?hd (cs := #[.int .i64 0, .int .i64 0]) (t := 23) ?hr ?_; (case hd => rfl); (case hg => rfl); (case hr => first | (go_simp; done) | (go_simp; rfl)); intro gb713 hg w341 hbox hb; have BK713 := Aside0.mk hbox; have GW713 := bwg_ HB hg; have GE713 := bwg_ HB hg; replace HB := bws_ HB hb; have NB694_713 := bkl_ BK694 hg; have NB713_694 := bkr_ BK694 hg; replace BK694 := bkb_ BK694 hb; have NB695_713 := bkl_ BK695 hg; have NB713_695 := bkr_ BK695 hg; replace BK695 := bkb_ BK695 hb; have NB701_713 := bkl_ BK701 hg; have NB713_701 := bkr_ BK701 hg; replace BK701 := bkb_ BK701 hb; have NB705_713 := bkl_ BK705 hg; have NB713_705 := bkr_ BK705 hg; replace BK705 := bkb_ BK705 hb; have NB709_713 := bkl_ BK709 hg; have NB713_709 := bkr_ BK709 hg; replace BK709 := bkb_ BK709 hb; clear hb hbox hg; have hnb342 := NB713_694.out; have hnc342 := NB694_713.out; have hnb343 := NB713_695.out; have hnc343 := NB695_713.out; have hnb344 := NB713_701.out; have hnc344 := NB701_713.out; have hnb345 := NB713_705.out; have hnc345 := NB705_713.out; have hnb346 := NB713_709.out; have hnc346 := NB709_713.out; obtain ⟨hcz347_0, hcz347_1, hfz347_0, hfz347_1⟩ := bc2_ BK713; obtain ⟨hcz348_0, hcz348_1, hfz348_0, hfz348_1⟩ := bc2_ BK694; obtain ⟨hcz349_0, hcz349_1, hfz349_0, hfz349_1⟩ := bc2_ BK695) | ((with_reducible refine gate_callee (f := 26) rfl ?_); refine gla_ (some 55) Try.func26 #[.agg #[.int .i64 a0_0, .int .i64 a0_1], .agg #[.int .i64 a1_0, .int .i64 a1_1]] ?_; (with_reducible refine (num_Cmp.calls k a0_0 a0_1 a1_0 a1_1 t714 t715 _ A12.out).mono ?_); rintro e w350 ⟨rfl, hb⟩; refine ⟨_, rfl, ?_⟩; replace BK694 := Aside0.mk (blk_below (g := gb694) (o := .cells #[.int .i64 a0_0, .int .i64 a0_1] 23 (0, 0)) (by refine bf_ ?_ NB694_713; refine bf_ ?_ NB694_713; exact bk_ BK694) hb); replace BK695 := Aside0.mk (blk_below (g := gb695) (o := .cells #[.int .i64 a1_0, .int .i64 a1_1] 23 (0, 0)) (by refine bf_ ?_ NB695_713; refine bf_ ?_ NB695_713; exact bk_ BK695) hb); replace BK701 := Aside0.mk (blk_below (g := gb701) (o := .cells #[.int .i64 t698, .int .i64 t699] 23 (0, 0)) (by refine bf_ ?_ NB701_713; refine bf_ ?_ NB701_713; exact bk_ BK701) hb); replace BK705 := Aside0.mk (blk_below (g := gb705) (o := .cells #[.int .i64 t702, .int .i64 t703] 23 (0, 0)) (by refine bf_ ?_ NB705_713; refine bf_ ?_ NB705_713; exact bk_ BK705) hb); replace BK709 := Aside0.mk (blk_below (g := gb709) (o := .cells #[.int .i64 t706, .int .i64 t707] 23 (0, 0)) (by refine bf_ ?_ NB709_713; refine bf_ ?_ NB709_713; exact bk_ BK709) hb); replace BK713 := Aside0.mk (blk_below (g := gb713) (o := .cells #[.int .i64 t710, .int .i64 t711] 23 (0, 0)) (by refine bp_ (cs := #[.int .i64 t710, .int .i64 0]) ?_ 1; refine bp_ (cs := #[.int .i64 0, .int .i64 0]) ?_ 0; exact bk_ BK713) hb); replace HB := bws_ HB hb; (try clear hb); (try clear hb2); (try clear hk); (try clear hi); obtain ⟨hcz351_0, hcz351_1, hfz351_0, hfz351_1⟩ := bc2_ BK694; obtain ⟨hcz352_0, hcz352_1, hfz352_0, hfz352_1⟩ := bc2_ BK695) | ((with_reducible refine gate_callee (f := 50) rfl ?_); refine gla_ (some 61) Try.func50 #[.agg #[.int .i64 a0_0, .int .i64 a0_1], .agg #[.int .i64 a1_0, .int .i64 a1_1]] ?_; (with_reducible refine (withyref01_Cmp.calls k a0_0 a0_1 a1_0 a1_1 t716 t717 _ A13.out).mono ?_); rintro e w353 ⟨rfl, hb⟩; refine ⟨_, rfl, ?_⟩; replace BK694 := bkb_ BK694 hb; replace BK695 := bkb_ BK695 hb; replace BK701 := bkb_ BK701 hb; replace BK705 := bkb_ BK705 hb; replace BK709 := bkb_ BK709 hb; replace BK713 := bkb_ BK713 hb; replace HB := bws_ HB hb; (try clear hb); (try clear hb2); (try clear hk); (try clear hi); obtain ⟨hcz354_0, hcz354_1, hfz354_0, hfz354_1⟩ := bc2_ BK694) | ((with_reducible refine gate_callee (f := 45) rfl ?_); refine gla_ (some 66) Try.func45 #[.agg #[.int .i64 a0_0, .int .i64 a0_1]] ?_; (with_reducible refine (num_Whole.calls k a0_0 a0_1 t718 t719 _ A14.out).mono ?_); rintro e w355 ⟨rfl, hb⟩; refine ⟨_, rfl, ?_⟩; replace BK694 := bkb_ BK694 hb; replace BK695 := bkb_ BK695 hb; replace BK701 := bkb_ BK701 hb; replace BK705 := bkb_ BK705 hb; replace BK709 := bkb_ BK709 hb; replace BK713 := bkb_ BK713 hb; replace HB := bws_ HB hb; (try clear hb); (try clear hb2); (try clear hk); (try clear hi); obtain ⟨hcz356_0, hcz356_1, hfz356_0, hfz356_1⟩ := bc2_ BK694) | ((with_reducible refine gate_callee (f := 51) rfl ?_); refine gla_ (some 71) Try.func51 #[.agg #[.int .i64 a0_0, .int .i64 a0_1]] ?_; (with_reducible refine (withyref01_Whole.calls k a0_0 a0_1 t720 t721 _ A15.out).mono ?_); rintro e w357 ⟨rfl, hb⟩; refine ⟨_, rfl, ?_⟩; replace BK694 := bkb_ BK694 hb; replace BK695 := bkb_ BK695 hb; replace BK701 := bkb_ BK701 hb; replace BK705 := bkb_ BK705 hb; replace BK709 := bkb_ BK709 hb; replace BK713 := bkb_ BK713 hb; replace HB := bws_ HB hb; (try clear hb); (try clear hb2); (try clear hk); (try clear hi); obtain ⟨hcz358_0, hcz358_1, hfz358_0, hfz358_1⟩ := bc2_ BK701; obtain ⟨hcz359_0, hcz359_1, hfz359_0, hfz359_1⟩ := bc2_ BK705))
            go_ret
            exact ⟨by first | rfl | (simp [*] <;> rfl), bw_ HB⟩
      · rw [if_neg c17] at H
        have c17b0 : (t698 == t702 && (t699 == t703)) = false := by simpa using c17
        (try (have c17b1 : decide (t698 = t702 && (t699 == t703)) = false := by simpa using c17))
        (try (have c17b2 : (t698 == t702 && (t699 == t703)) = false := by simpa using c17))
        (try (have c17b3 : ¬ (t698 = t702 && (t699 == t703)) := by simpa using c17))
        clear c17
        obtain rfl := Option.some.inj H
        as_aux_lemma =>
          go_enter Try.func11, Try.ntmps11
          try go_wp2_with (first | ((with_reducible refine gate_dst (N := 4) rfl ?_); refine box_event ?hg (N := 4) ?hd (cs := #[.int .i64 a0_0, .int .i64 a0_1]) (t := 23) ?hr ?_; (case hd => rfl); (case hg => rfl); (case hr => first | (go_simp; done) | (go_simp; rfl)); intro gb694 hg w360 hbox hb; have BK694 := Aside0.mk hbox; have GW694 := bwg_ HB hg; have GE694 := bwg_ HB hg; replace HB := bws_ HB hb; clear hb hbox hg) | ((with_reducible refine gate_dst (N := 5) rfl ?_); refine box_event ?hg (N := 5) ?hd (cs := #[.int .i64 a1_0, .int .i64 a1_1]) (t := 23) ?hr ?_; (case hd => rfl); (case hg => rfl); (case hr => first | (go_simp; done) | (go_simp; rfl)); intro gb695 hg w361 hbox hb; have BK695 := Aside0.mk hbox; have GW695 := bwg_ HB hg; have GE695 := bwg_ HB hg; replace HB := bws_ HB hb; have NB694_695 := bkl_ BK694 hg; have NB695_694 := bkr_ BK694 hg; replace BK694 := bkb_ BK694 hb; clear hb hbox hg))
          replace BK694 := Aside0.mk (blk_drew BK694.out)
          replace BK695 := Aside0.mk (blk_drew BK695.out)
          replace HB := Aside0.mk (below_drew1 HB.out)
          refine start_ (n := 5) (S := fun w' => w'.cell? ⟨gb694, 0, none⟩ = some (.int .i64 a0_0) ∧ w'.cell? ⟨gb694, 1, none⟩ = some (.int .i64 a0_1)) (ds := []) #[false, false, false, false, false] (by kernel_rfl) rfl rfl ⟨(blk_cell BK694.out 0).trans rfl, (blk_cell BK694.out 1).trans rfl⟩ (fun hHeld => ?_)
          generalize w361.drew = w362 at BK694 BK695 HB hHeld ⊢
          refine take_ (i := 0) (N := some 25) (v := ?_) (a' := ?_) #[true, false, false, false, false] rfl rfl (by kernel_rfl) (fun _ _ _ h => h) (Or.inl ⟨by rfl, ?_⟩) hHeld ?_ ?_
          rotate_left
          · rintro w' ⟨s0, s1⟩
            go_simp
            with_reducible rfl
          rotate_left
          · simp only [Act.put, List.setIfInBounds_toArray, List.set_cons_zero, List.set_cons_succ, i64_w, i32_w]
            rfl
          refine take_ (i := 2) (N := some 27) (v := ?_) (a' := ?_) #[true, false, true, false, false] rfl rfl (by kernel_rfl) (fun _ _ _ h => h) (Or.inl ⟨by rfl, ?_⟩) hHeld ?_ ?_
          rotate_left
          · rintro w' ⟨s0, s1⟩
            go_simp
            with_reducible rfl
          rotate_left
          · simp only [Act.put, List.setIfInBounds_toArray, List.set_cons_zero, List.set_cons_succ, i64_w, i32_w]
            rfl
          refine one_ (i := 1) (N := some 26) #[true, true, true, false, false] rfl rfl (by kernel_rfl) (by decide) (fun K hK => ?_)
          refine gos_ Try.func46 #[.agg #[.int .i64 a0_0, .int .i64 a0_1]] ?_
          with_reducible refine (num_Check.calls k a0_0 a0_1 t696 _ A5.out).mono ?_
          rintro e w363 ⟨rfl, hb⟩
          refine ⟨_, rfl, ?_⟩
          replace BK694 := bkb_ BK694 hb
          replace BK695 := bkb_ BK695 hb
          replace HB := bws_ HB hb
          (try clear hb)
          (try clear hb2)
          (try clear hk)
          (try clear hi)
          refine hK.out _ _ ⟨(blk_cell BK694.out 0).trans rfl, (blk_cell BK694.out 1).trans rfl⟩ (fun hHeld => ?_)
          clear hK K
          refine norm_ (a' := ?_) ?_ ?_
          rotate_left
          · show Act.put _ (some 26) _ = _
            simp only [Act.put, List.setIfInBounds_toArray, List.set_cons_zero, List.set_cons_succ, i64_w, i32_w]
            rfl
          refine one_ (i := 3) (N := some 28) #[true, true, true, true, false] rfl rfl (by kernel_rfl) (by decide) (fun K hK => ?_)
          refine gos_ Try.func41 #[.agg #[.int .i64 a0_0, .int .i64 a0_1]] ?_
          with_reducible refine (withyref01_Check.calls k a0_0 a0_1 t697 _ A6.out).mono ?_
          rintro e w364 ⟨rfl, hb⟩
          refine ⟨_, rfl, ?_⟩
          replace BK694 := bkb_ BK694 hb
          replace BK695 := bkb_ BK695 hb
          replace HB := bws_ HB hb
          (try clear hb)
          (try clear hb2)
          (try clear hk)
          (try clear hi)
          refine hK.out _ _ ⟨(blk_cell BK694.out 0).trans rfl, (blk_cell BK694.out 1).trans rfl⟩ (fun hHeld => ?_)
          clear hK K
          refine norm_ (a' := ?_) ?_ ?_
          rotate_left
          · show Act.put _ (some 28) _ = _
            simp only [Act.put, List.setIfInBounds_toArray, List.set_cons_zero, List.set_cons_succ, i64_w, i32_w]
            rfl
          refine pure_ (i := 4) (N := some 29) (v := ?_) (a' := ?_) #[true, true, true, true, true] rfl rfl (by kernel_rfl) (fun _ _ _ h => h) (Or.inl ⟨by rfl, ?_⟩) ?_ ?_
          rotate_left
          · intro w'
            go_simp
            with_reducible rfl
          rotate_left
          · simp only [Act.put, List.setIfInBounds_toArray, List.set_cons_zero, List.set_cons_succ, i64_w, i32_w]
            rfl
          refine done_ (by kernel_rfl) ?_
          try go_wp2_with (first | ((with_reducible refine gate_callee (f := 47) rfl ?_); refine gla_ (some 33) Try.func47 #[.int .i64 a2, .int .i64 a3] ?_; (with_reducible refine (num_Make.calls k a2 a3 t698 t699 t700 _ A8.out).mono ?_); rintro e w365 ⟨rfl, hb⟩; refine ⟨_, rfl, ?_⟩; replace BK694 := bkb_ BK694 hb; replace BK695 := bkb_ BK695 hb; replace HB := bws_ HB hb; (try clear hb); (try clear hb2); (try clear hk); (try clear hi)) | ((with_reducible refine gate_dst (N := 9) rfl ?_); refine box_event ?hg (N := 9) ?hd (cs := #[.int .i64 0, .int .i64 0]) (t := 23) ?hr ?_; (case hd => rfl); (case hg => rfl); (case hr => first | (go_simp; done) | (go_simp; rfl)); intro gb701 hg w366 hbox hb; have BK701 := Aside0.mk hbox; have GW701 := bwg_ HB hg; have GE701 := bwg_ HB hg; replace HB := bws_ HB hb; have NB694_701 := bkl_ BK694 hg; have NB701_694 := bkr_ BK694 hg; replace BK694 := bkb_ BK694 hb; have NB695_701 := bkl_ BK695 hg; have NB701_695 := bkr_ BK695 hg; replace BK695 := bkb_ BK695 hb; clear hb hbox hg; have hnb367 := NB701_694.out; have hnc367 := NB694_701.out; have hnb368 := NB701_695.out; have hnc368 := NB695_701.out; obtain ⟨hcz369_0, hcz369_1, hfz369_0, hfz369_1⟩ := bc2_ BK701) | ((with_reducible refine gate_callee (f := 48) rfl ?_); refine gla_ (some 39) Try.func48 #[.int .i64 a2, .int .i64 a3] ?_; (with_reducible refine (withyref01_Make.calls k a2 a3 t702 t703 t704 _ A9.out).mono ?_); rintro e w370 ⟨rfl, hb⟩; refine ⟨_, rfl, ?_⟩; replace BK694 := Aside0.mk (blk_below (g := gb694) (o := .cells #[.int .i64 a0_0, .int .i64 a0_1] 23 (0, 0)) (by refine bf_ ?_ NB694_701; refine bf_ ?_ NB694_701; exact bk_ BK694) hb); replace BK695 := Aside0.mk (blk_below (g := gb695) (o := .cells #[.int .i64 a1_0, .int .i64 a1_1] 23 (0, 0)) (by refine bf_ ?_ NB695_701; refine bf_ ?_ NB695_701; exact bk_ BK695) hb); replace BK701 := Aside0.mk (blk_below (g := gb701) (o := .cells #[.int .i64 t698, .int .i64 t699] 23 (0, 0)) (by refine bp_ (cs := #[.int .i64 t698, .int .i64 0]) ?_ 1; refine bp_ (cs := #[.int .i64 0, .int .i64 0]) ?_ 0; exact bk_ BK701) hb); replace HB := bws_ HB hb; (try clear hb); (try clear hb2); (try clear hk); (try clear hi)) | ((with_reducible refine gate_dst (N := 11) rfl ?_); refine box_event ?hg (N := 11) ?hd (cs := #[.int .i64 0, .int .i64 0]) (t := 23) ?hr ?_; (case hd => rfl); (case hg => rfl); (case hr => first | (go_simp; done) | (go_simp; rfl)); intro gb705 hg w371 hbox hb; have BK705 := Aside0.mk hbox; have GW705 := bwg_ HB hg; have GE705 := bwg_ HB hg; replace HB := bws_ HB hb; have NB694_705 := bkl_ BK694 hg; have NB705_694 := bkr_ BK694 hg; replace BK694 := bkb_ BK694 hb; have NB695_705 := bkl_ BK695 hg; have NB705_695 := bkr_ BK695 hg; replace BK695 := bkb_ BK695 hb; have NB701_705 := bkl_ BK701 hg; have NB705_701 := bkr_ BK701 hg; replace BK701 := bkb_ BK701 hb; clear hb hbox hg; have hnb372 := NB705_694.out; have hnc372 := NB694_705.out; have hnb373 := NB705_695.out; have hnc373 := NB695_705.out; have hnb374 := NB705_701.out; have hnc374 := NB701_705.out; obtain ⟨hcz375_0, hcz375_1, hfz375_0, hfz375_1⟩ := bc2_ BK705; have hnb376 := NB694_695.out; have hnc376 := NB695_694.out; obtain ⟨hcz377_0, hcz377_1, hfz377_0, hfz377_1⟩ := bc2_ BK694) | ((with_reducible refine gate_callee (f := 43) rfl ?_); refine gla_ (some 44) Try.func43 #[.agg #[.int .i64 a0_0, .int .i64 a0_1]] ?_; (with_reducible refine (num_Neg.calls k a0_0 a0_1 t706 t707 t708 _ A10.out).mono ?_); rintro e w378 ⟨rfl, hb⟩; refine ⟨_, rfl, ?_⟩; replace BK694 := Aside0.mk (blk_below (g := gb694) (o := .cells #[.int .i64 a0_0, .int .i64 a0_1] 23 (0, 0)) (by refine bf_ ?_ NB694_705; refine bf_ ?_ NB694_705; exact bk_ BK694) hb); replace BK695 := Aside0.mk (blk_below (g := gb695) (o := .cells #[.int .i64 a1_0, .int .i64 a1_1] 23 (0, 0)) (by refine bf_ ?_ NB695_705; refine bf_ ?_ NB695_705; exact bk_ BK695) hb); replace BK701 := Aside0.mk (blk_below (g := gb701) (o := .cells #[.int .i64 t698, .int .i64 t699] 23 (0, 0)) (by refine bf_ ?_ NB701_705; refine bf_ ?_ NB701_705; exact bk_ BK701) hb); replace BK705 := Aside0.mk (blk_below (g := gb705) (o := .cells #[.int .i64 t702, .int .i64 t703] 23 (0, 0)) (by refine bp_ (cs := #[.int .i64 t702, .int .i64 0]) ?_ 1; refine bp_ (cs := #[.int .i64 0, .int .i64 0]) ?_ 0; exact bk_ BK705) hb); replace HB := bws_ HB hb; (try clear hb); (try clear hb2); (try clear hk); (try clear hi)) | ((with_reducible refine gate_dst (N := 13) rfl ?_); refine box_event ?hg (N := 13) ?hd (cs := #[.int .i64 0, .int .i64 0]) (t := 23) ?hr ?_; (case hd => rfl); (case hg => rfl); (case hr => first | (go_simp; done) | (go_simp; rfl)); intro gb709 hg w379 hbox hb; have BK709 := Aside0.mk hbox; have GW709 := bwg_ HB hg; have GE709 := bwg_ HB hg; replace HB := bws_ HB hb; have NB694_709 := bkl_ BK694 hg; have NB709_694 := bkr_ BK694 hg; replace BK694 := bkb_ BK694 hb; have NB695_709 := bkl_ BK695 hg; have NB709_695 := bkr_ BK695 hg; replace BK695 := bkb_ BK695 hb; have NB701_709 := bkl_ BK701 hg; have NB709_701 := bkr_ BK701 hg; replace BK701 := bkb_ BK701 hb; have NB705_709 := bkl_ BK705 hg; have NB709_705 := bkr_ BK705 hg; replace BK705 := bkb_ BK705 hb; clear hb hbox hg; have hnb380 := NB709_694.out; have hnc380 := NB694_709.out; have hnb381 := NB709_695.out; have hnc381 := NB695_709.out; have hnb382 := NB709_701.out; have hnc382 := NB701_709.out; have hnb383 := NB709_705.out; have hnc383 := NB705_709.out; obtain ⟨hcz384_0, hcz384_1, hfz384_0, hfz384_1⟩ := bc2_ BK709; obtain ⟨hcz385_0, hcz385_1, hfz385_0, hfz385_1⟩ := bc2_ BK694) | ((with_reducible refine gate_callee (f := 49) rfl ?_); refine gla_ (some 49) Try.func49 #[.agg #[.int .i64 a0_0, .int .i64 a0_1]] ?_; (with_reducible refine (withyref01_Neg.calls k a0_0 a0_1 t710 t711 t712 _ A11.out).mono ?_); rintro e w386 ⟨rfl, hb⟩; refine ⟨_, rfl, ?_⟩; replace BK694 := Aside0.mk (blk_below (g := gb694) (o := .cells #[.int .i64 a0_0, .int .i64 a0_1] 23 (0, 0)) (by refine bf_ ?_ NB694_709; refine bf_ ?_ NB694_709; exact bk_ BK694) hb); replace BK695 := Aside0.mk (blk_below (g := gb695) (o := .cells #[.int .i64 a1_0, .int .i64 a1_1] 23 (0, 0)) (by refine bf_ ?_ NB695_709; refine bf_ ?_ NB695_709; exact bk_ BK695) hb); replace BK701 := Aside0.mk (blk_below (g := gb701) (o := .cells #[.int .i64 t698, .int .i64 t699] 23 (0, 0)) (by refine bf_ ?_ NB701_709; refine bf_ ?_ NB701_709; exact bk_ BK701) hb); replace BK705 := Aside0.mk (blk_below (g := gb705) (o := .cells #[.int .i64 t702, .int .i64 t703] 23 (0, 0)) (by refine bf_ ?_ NB705_709; refine bf_ ?_ NB705_709; exact bk_ BK705) hb); replace BK709 := Aside0.mk (blk_below (g := gb709) (o := .cells #[.int .i64 t706, .int .i64 t707] 23 (0, 0)) (by refine bp_ (cs := #[.int .i64 t706, .int .i64 0]) ?_ 1; refine bp_ (cs := #[.int .i64 0, .int .i64 0]) ?_ 0; exact bk_ BK709) hb); replace HB := bws_ HB hb; (try clear hb); (try clear hb2); (try clear hk); (try clear hi)) | ((with_reducible refine gate_dst (N := 15) rfl ?_); refine box_event ?hg (N := 15) ?hd (cs := #[.int .i64 0, .int .i64 0]) (t := 23) ?hr ?_; (case hd => rfl); (case hg => rfl); (case hr => first | (go_simp; done) | (go_simp; rfl)); intro gb713 hg w387 hbox hb; have BK713 := Aside0.mk hbox; have GW713 := bwg_ HB hg; have GE713 := bwg_ HB hg; replace HB := bws_ HB hb; have NB694_713 := bkl_ BK694 hg; have NB713_694 := bkr_ BK694 hg; replace BK694 := bkb_ BK694 hb; have NB695_713 := bkl_ BK695 hg; have NB713_695 := bkr_ BK695 hg; replace BK695 := bkb_ BK695 hb; have NB701_713 := bkl_ BK701 hg; have NB713_701 := bkr_ BK701 hg; replace BK701 := bkb_ BK701 hb; have NB705_713 := bkl_ BK705 hg; have NB713_705 := bkr_ BK705 hg; replace BK705 := bkb_ BK705 hb; have NB709_713 := bkl_ BK709 hg; have NB713_709 := bkr_ BK709 hg; replace BK709 := bkb_ BK709 hb; clear hb hbox hg; have hnb388 := NB713_694.out; have hnc388 := NB694_713.out; have hnb389 := NB713_695.out; have hnc389 := NB695_713.out; have hnb390 := NB713_701.out; have hnc390 := NB701_713.out; have hnb391 := NB713_705.out; have hnc391 := NB705_713.out; have hnb392 := NB713_709.out; have hnc392 := NB709_713.out; obtain ⟨hcz393_0, hcz393_1, hfz393_0, hfz393_1⟩ := bc2_ BK713; obtain ⟨hcz394_0, hcz394_1, hfz394_0, hfz394_1⟩ := bc2_ BK694; obtain ⟨hcz395_0, hcz395_1, hfz395_0, hfz395_1⟩ := bc2_ BK695) | ((with_reducible refine gate_callee (f := 26) rfl ?_); refine gla_ (some 55) Try.func26 #[.agg #[.int .i64 a0_0, .int .i64 a0_1], .agg #[.int .i64 a1_0, .int .i64 a1_1]] ?_; (with_reducible refine (num_Cmp.calls k a0_0 a0_1 a1_0 a1_1 t714 t715 _ A12.out).mono ?_); rintro e w396 ⟨rfl, hb⟩; refine ⟨_, rfl, ?_⟩; replace BK694 := Aside0.mk (blk_below (g := gb694) (o := .cells #[.int .i64 a0_0, .int .i64 a0_1] 23 (0, 0)) (by refine bf_ ?_ NB694_713; refine bf_ ?_ NB694_713; exact bk_ BK694) hb); replace BK695 := Aside0.mk (blk_below (g := gb695) (o := .cells #[.int .i64 a1_0, .int .i64 a1_1] 23 (0, 0)) (by refine bf_ ?_ NB695_713; refine bf_ ?_ NB695_713; exact bk_ BK695) hb); replace BK701 := Aside0.mk (blk_below (g := gb701) (o := .cells #[.int .i64 t698, .int .i64 t699] 23 (0, 0)) (by refine bf_ ?_ NB701_713; refine bf_ ?_ NB701_713; exact bk_ BK701) hb); replace BK705 := Aside0.mk (blk_below (g := gb705) (o := .cells #[.int .i64 t702, .int .i64 t703] 23 (0, 0)) (by refine bf_ ?_ NB705_713; refine bf_ ?_ NB705_713; exact bk_ BK705) hb); replace BK709 := Aside0.mk (blk_below (g := gb709) (o := .cells #[.int .i64 t706, .int .i64 t707] 23 (0, 0)) (by refine bf_ ?_ NB709_713; refine bf_ ?_ NB709_713; exact bk_ BK709) hb); replace BK713 := Aside0.mk (blk_below (g := gb713) (o := .cells #[.int .i64 t710, .int .i64 t711] 23 (0, 0)) (by refine bp_ (cs := #[.int .i64 t710, .int .i64 0]) ?_ 1; refine bp_ (cs := #[.int .i64 0, .int .i64 0]) ?_ 0; exact bk_ BK713) hb); replace HB := bws_ HB hb; (try clear hb); (try clear hb2); (try clear hk); (try clear hi); obtain ⟨hcz397_0, hcz397_1, hfz397_0, hfz397_1⟩ := bc2_ BK694; obtain ⟨hcz398_0, hcz398_1, hfz398_0, hfz398_1⟩ := bc2_ BK695) | ((with_reducible refine gate_callee (f := 50) rfl ?_); refine gla_ (some 61) Try.func50 #[.agg #[.int .i64 a0_0, .int .i64 a0_1], .agg #[.int .i64 a1_0, .int .i64 a1_1]] ?_; (with_reducible refine (withyref01_Cmp.calls k a0_0 a0_1 a1_0 a1_1 t716 t717 _ A13.out).mono ?_); rintro e w399 ⟨rfl, hb⟩; refine ⟨_, rfl, ?_⟩; replace BK694 := bkb_ BK694 hb; replace BK695 := bkb_ BK695 hb; replace BK701 := bkb_ BK701 hb; replace BK705 := bkb_ BK705 hb; replace BK709 := bkb_ BK709 hb; replace BK713 := bkb_ BK713 hb; replace HB := bws_ HB hb; (try clear hb); (try clear hb2); (try clear hk); (try clear hi); obtain ⟨hcz400_0, hcz400_1, hfz400_0, hfz400_1⟩ := bc2_ BK694) | ((with_reducible refine gate_callee (f := 45) rfl ?_); refine gla_ (some 66) Try.func45 #[.agg #[.int .i64 a0_0, .int .i64 a0_1]] ?_; (with_reducible refine (num_Whole.calls k a0_0 a0_1 t718 t719 _ A14.out).mono ?_); rintro e w401 ⟨rfl, hb⟩; refine ⟨_, rfl, ?_⟩; replace BK694 := bkb_ BK694 hb; replace BK695 := bkb_ BK695 hb; replace BK701 := bkb_ BK701 hb; replace BK705 := bkb_ BK705 hb; replace BK709 := bkb_ BK709 hb; replace BK713 := bkb_ BK713 hb; replace HB := bws_ HB hb; (try clear hb); (try clear hb2); (try clear hk); (try clear hi); obtain ⟨hcz402_0, hcz402_1, hfz402_0, hfz402_1⟩ := bc2_ BK694) | ((with_reducible refine gate_callee (f := 51) rfl ?_); refine gla_ (some 71) Try.func51 #[.agg #[.int .i64 a0_0, .int .i64 a0_1]] ?_; (with_reducible refine (withyref01_Whole.calls k a0_0 a0_1 t720 t721 _ A15.out).mono ?_); rintro e w403 ⟨rfl, hb⟩; refine ⟨_, rfl, ?_⟩; replace BK694 := bkb_ BK694 hb; replace BK695 := bkb_ BK695 hb; replace BK701 := bkb_ BK701 hb; replace BK705 := bkb_ BK705 hb; replace BK709 := bkb_ BK709 hb; replace BK713 := bkb_ BK713 hb; replace HB := bws_ HB hb; (try clear hb); (try clear hb2); (try clear hk); (try clear hi); obtain ⟨hcz404_0, hcz404_1, hfz404_0, hfz404_1⟩ := bc2_ BK701; obtain ⟨hcz405_0, hcz405_1, hfz405_0, hfz405_1⟩ := bc2_ BK705))
          go_ret
          exact ⟨by first | rfl | (simp [*] <;> rfl), bw_ HB⟩
    · rw [if_neg c16] at H
      have c16b0 : (t700 == t704) = false := beq_eq_false_iff_ne.mpr c16
      have c16b1 : (t700 != t704) = true := bne_iff_ne.mpr c16
      obtain rfl := Option.some.inj H
      as_aux_lemma =>
        go_enter Try.func11, Try.ntmps11
        try go_wp2_with (first | ((with_reducible refine gate_dst (N := 4) rfl ?_); refine box_event ?hg (N := 4) ?hd (cs := #[.int .i64 a0_0, .int .i64 a0_1]) (t := 23) ?hr ?_; (case hd => rfl); (case hg => rfl); (case hr => first | (go_simp; done) | (go_simp; rfl)); intro gb694 hg w406 hbox hb; have BK694 := Aside0.mk hbox; have GW694 := bwg_ HB hg; have GE694 := bwg_ HB hg; replace HB := bws_ HB hb; clear hb hbox hg) | ((with_reducible refine gate_dst (N := 5) rfl ?_); refine box_event ?hg (N := 5) ?hd (cs := #[.int .i64 a1_0, .int .i64 a1_1]) (t := 23) ?hr ?_; (case hd => rfl); (case hg => rfl); (case hr => first | (go_simp; done) | (go_simp; rfl)); intro gb695 hg w407 hbox hb; have BK695 := Aside0.mk hbox; have GW695 := bwg_ HB hg; have GE695 := bwg_ HB hg; replace HB := bws_ HB hb; have NB694_695 := bkl_ BK694 hg; have NB695_694 := bkr_ BK694 hg; replace BK694 := bkb_ BK694 hb; clear hb hbox hg))
        replace BK694 := Aside0.mk (blk_drew BK694.out)
        replace BK695 := Aside0.mk (blk_drew BK695.out)
        replace HB := Aside0.mk (below_drew1 HB.out)
        refine start_ (n := 5) (S := fun w' => w'.cell? ⟨gb694, 0, none⟩ = some (.int .i64 a0_0) ∧ w'.cell? ⟨gb694, 1, none⟩ = some (.int .i64 a0_1)) (ds := []) #[false, false, false, false, false] (by kernel_rfl) rfl rfl ⟨(blk_cell BK694.out 0).trans rfl, (blk_cell BK694.out 1).trans rfl⟩ (fun hHeld => ?_)
        generalize w407.drew = w408 at BK694 BK695 HB hHeld ⊢
        refine take_ (i := 0) (N := some 25) (v := ?_) (a' := ?_) #[true, false, false, false, false] rfl rfl (by kernel_rfl) (fun _ _ _ h => h) (Or.inl ⟨by rfl, ?_⟩) hHeld ?_ ?_
        rotate_left
        · rintro w' ⟨s0, s1⟩
          go_simp
          with_reducible rfl
        rotate_left
        · simp only [Act.put, List.setIfInBounds_toArray, List.set_cons_zero, List.set_cons_succ, i64_w, i32_w]
          rfl
        refine take_ (i := 2) (N := some 27) (v := ?_) (a' := ?_) #[true, false, true, false, false] rfl rfl (by kernel_rfl) (fun _ _ _ h => h) (Or.inl ⟨by rfl, ?_⟩) hHeld ?_ ?_
        rotate_left
        · rintro w' ⟨s0, s1⟩
          go_simp
          with_reducible rfl
        rotate_left
        · simp only [Act.put, List.setIfInBounds_toArray, List.set_cons_zero, List.set_cons_succ, i64_w, i32_w]
          rfl
        refine one_ (i := 1) (N := some 26) #[true, true, true, false, false] rfl rfl (by kernel_rfl) (by decide) (fun K hK => ?_)
        refine gos_ Try.func46 #[.agg #[.int .i64 a0_0, .int .i64 a0_1]] ?_
        with_reducible refine (num_Check.calls k a0_0 a0_1 t696 _ A5.out).mono ?_
        rintro e w409 ⟨rfl, hb⟩
        refine ⟨_, rfl, ?_⟩
        replace BK694 := bkb_ BK694 hb
        replace BK695 := bkb_ BK695 hb
        replace HB := bws_ HB hb
        (try clear hb)
        (try clear hb2)
        (try clear hk)
        (try clear hi)
        refine hK.out _ _ ⟨(blk_cell BK694.out 0).trans rfl, (blk_cell BK694.out 1).trans rfl⟩ (fun hHeld => ?_)
        clear hK K
        refine norm_ (a' := ?_) ?_ ?_
        rotate_left
        · show Act.put _ (some 26) _ = _
          simp only [Act.put, List.setIfInBounds_toArray, List.set_cons_zero, List.set_cons_succ, i64_w, i32_w]
          rfl
        refine one_ (i := 3) (N := some 28) #[true, true, true, true, false] rfl rfl (by kernel_rfl) (by decide) (fun K hK => ?_)
        refine gos_ Try.func41 #[.agg #[.int .i64 a0_0, .int .i64 a0_1]] ?_
        with_reducible refine (withyref01_Check.calls k a0_0 a0_1 t697 _ A6.out).mono ?_
        rintro e w410 ⟨rfl, hb⟩
        refine ⟨_, rfl, ?_⟩
        replace BK694 := bkb_ BK694 hb
        replace BK695 := bkb_ BK695 hb
        replace HB := bws_ HB hb
        (try clear hb)
        (try clear hb2)
        (try clear hk)
        (try clear hi)
        refine hK.out _ _ ⟨(blk_cell BK694.out 0).trans rfl, (blk_cell BK694.out 1).trans rfl⟩ (fun hHeld => ?_)
        clear hK K
        refine norm_ (a' := ?_) ?_ ?_
        rotate_left
        · show Act.put _ (some 28) _ = _
          simp only [Act.put, List.setIfInBounds_toArray, List.set_cons_zero, List.set_cons_succ, i64_w, i32_w]
          rfl
        refine pure_ (i := 4) (N := some 29) (v := ?_) (a' := ?_) #[true, true, true, true, true] rfl rfl (by kernel_rfl) (fun _ _ _ h => h) (Or.inl ⟨by rfl, ?_⟩) ?_ ?_
        rotate_left
        · intro w'
          go_simp
          with_reducible rfl
        rotate_left
        · simp only [Act.put, List.setIfInBounds_toArray, List.set_cons_zero, List.set_cons_succ, i64_w, i32_w]
          rfl
        refine done_ (by kernel_rfl) ?_
        try go_wp2_with (first | ((with_reducible refine gate_callee (f := 47) rfl ?_); refine gla_ (some 33) Try.func47 #[.int .i64 a2, .int .i64 a3] ?_; (with_reducible refine (num_Make.calls k a2 a3 t698 t699 t700 _ A8.out).mono ?_); rintro e w411 ⟨rfl, hb⟩; refine ⟨_, rfl, ?_⟩; replace BK694 := bkb_ BK694 hb; replace BK695 := bkb_ BK695 hb; replace HB := bws_ HB hb; (try clear hb); (try clear hb2); (try clear hk); (try clear hi)) | ((with_reducible refine gate_dst (N := 9) rfl ?_); refine box_event ?hg (N := 9) ?hd (cs := #[.int .i64 0, .int .i64 0]) (t := 23) ?hr ?_; (case hd => rfl); (case hg => rfl); (case hr => first | (go_simp; done) | (go_simp; rfl)); intro gb701 hg w412 hbox hb; have BK701 := Aside0.mk hbox; have GW701 := bwg_ HB hg; have GE701 := bwg_ HB hg; replace HB := bws_ HB hb; have NB694_701 := bkl_ BK694 hg; have NB701_694 := bkr_ BK694 hg; replace BK694 := bkb_ BK694 hb; have NB695_701 := bkl_ BK695 hg; have NB701_695 := bkr_ BK695 hg; replace BK695 := bkb_ BK695 hb; clear hb hbox hg; have hnb413 := NB701_694.out; have hnc413 := NB694_701.out; have hnb414 := NB701_695.out; have hnc414 := NB695_701.out; obtain ⟨hcz415_0, hcz415_1, hfz415_0, hfz415_1⟩ := bc2_ BK701) | ((with_reducible refine gate_callee (f := 48) rfl ?_); refine gla_ (some 39) Try.func48 #[.int .i64 a2, .int .i64 a3] ?_; (with_reducible refine (withyref01_Make.calls k a2 a3 t702 t703 t704 _ A9.out).mono ?_); rintro e w416 ⟨rfl, hb⟩; refine ⟨_, rfl, ?_⟩; replace BK694 := Aside0.mk (blk_below (g := gb694) (o := .cells #[.int .i64 a0_0, .int .i64 a0_1] 23 (0, 0)) (by refine bf_ ?_ NB694_701; refine bf_ ?_ NB694_701; exact bk_ BK694) hb); replace BK695 := Aside0.mk (blk_below (g := gb695) (o := .cells #[.int .i64 a1_0, .int .i64 a1_1] 23 (0, 0)) (by refine bf_ ?_ NB695_701; refine bf_ ?_ NB695_701; exact bk_ BK695) hb); replace BK701 := Aside0.mk (blk_below (g := gb701) (o := .cells #[.int .i64 t698, .int .i64 t699] 23 (0, 0)) (by refine bp_ (cs := #[.int .i64 t698, .int .i64 0]) ?_ 1; refine bp_ (cs := #[.int .i64 0, .int .i64 0]) ?_ 0; exact bk_ BK701) hb); replace HB := bws_ HB hb; (try clear hb); (try clear hb2); (try clear hk); (try clear hi)) | ((with_reducible refine gate_dst (N := 11) rfl ?_); refine box_event ?hg (N := 11) ?hd (cs := #[.int .i64 0, .int .i64 0]) (t := 23) ?hr ?_; (case hd => rfl); (case hg => rfl); (case hr => first | (go_simp; done) | (go_simp; rfl)); intro gb705 hg w417 hbox hb; have BK705 := Aside0.mk hbox; have GW705 := bwg_ HB hg; have GE705 := bwg_ HB hg; replace HB := bws_ HB hb; have NB694_705 := bkl_ BK694 hg; have NB705_694 := bkr_ BK694 hg; replace BK694 := bkb_ BK694 hb; have NB695_705 := bkl_ BK695 hg; have NB705_695 := bkr_ BK695 hg; replace BK695 := bkb_ BK695 hb; have NB701_705 := bkl_ BK701 hg; have NB705_701 := bkr_ BK701 hg; replace BK701 := bkb_ BK701 hb; clear hb hbox hg; have hnb418 := NB705_694.out; have hnc418 := NB694_705.out; have hnb419 := NB705_695.out; have hnc419 := NB695_705.out; have hnb420 := NB705_701.out; have hnc420 := NB701_705.out; obtain ⟨hcz421_0, hcz421_1, hfz421_0, hfz421_1⟩ := bc2_ BK705; have hnb422 := NB694_695.out; have hnc422 := NB695_694.out; obtain ⟨hcz423_0, hcz423_1, hfz423_0, hfz423_1⟩ := bc2_ BK694) | ((with_reducible refine gate_callee (f := 43) rfl ?_); refine gla_ (some 44) Try.func43 #[.agg #[.int .i64 a0_0, .int .i64 a0_1]] ?_; (with_reducible refine (num_Neg.calls k a0_0 a0_1 t706 t707 t708 _ A10.out).mono ?_); rintro e w424 ⟨rfl, hb⟩; refine ⟨_, rfl, ?_⟩; replace BK694 := Aside0.mk (blk_below (g := gb694) (o := .cells #[.int .i64 a0_0, .int .i64 a0_1] 23 (0, 0)) (by refine bf_ ?_ NB694_705; refine bf_ ?_ NB694_705; exact bk_ BK694) hb); replace BK695 := Aside0.mk (blk_below (g := gb695) (o := .cells #[.int .i64 a1_0, .int .i64 a1_1] 23 (0, 0)) (by refine bf_ ?_ NB695_705; refine bf_ ?_ NB695_705; exact bk_ BK695) hb); replace BK701 := Aside0.mk (blk_below (g := gb701) (o := .cells #[.int .i64 t698, .int .i64 t699] 23 (0, 0)) (by refine bf_ ?_ NB701_705; refine bf_ ?_ NB701_705; exact bk_ BK701) hb); replace BK705 := Aside0.mk (blk_below (g := gb705) (o := .cells #[.int .i64 t702, .int .i64 t703] 23 (0, 0)) (by refine bp_ (cs := #[.int .i64 t702, .int .i64 0]) ?_ 1; refine bp_ (cs := #[.int .i64 0, .int .i64 0]) ?_ 0; exact bk_ BK705) hb); replace HB := bws_ HB hb; (try clear hb); (try clear hb2); (try clear hk); (try clear hi)) | ((with_reducible refine gate_dst (N := 13) rfl ?_); refine box_event ?hg (N := 13) ?hd (cs := #[.int .i64 0, .int .i64 0]) (t := 23) ?hr ?_; (case hd => rfl); (case hg => rfl); (case hr => first | (go_simp; done) | (go_simp; rfl)); intro gb709 hg w425 hbox hb; have BK709 := Aside0.mk hbox; have GW709 := bwg_ HB hg; have GE709 := bwg_ HB hg; replace HB := bws_ HB hb; have NB694_709 := bkl_ BK694 hg; have NB709_694 := bkr_ BK694 hg; replace BK694 := bkb_ BK694 hb; have NB695_709 := bkl_ BK695 hg; have NB709_695 := bkr_ BK695 hg; replace BK695 := bkb_ BK695 hb; have NB701_709 := bkl_ BK701 hg; have NB709_701 := bkr_ BK701 hg; replace BK701 := bkb_ BK701 hb; have NB705_709 := bkl_ BK705 hg; have NB709_705 := bkr_ BK705 hg; replace BK705 := bkb_ BK705 hb; clear hb hbox hg; have hnb426 := NB709_694.out; have hnc426 := NB694_709.out; have hnb427 := NB709_695.out; have hnc427 := NB695_709.out; have hnb428 := NB709_701.out; have hnc428 := NB701_709.out; have hnb429 := NB709_705.out; have hnc429 := NB705_709.out; obtain ⟨hcz430_0, hcz430_1, hfz430_0, hfz430_1⟩ := bc2_ BK709; obtain ⟨hcz431_0, hcz431_1, hfz431_0, hfz431_1⟩ := bc2_ BK694) | ((with_reducible refine gate_callee (f := 49) rfl ?_); refine gla_ (some 49) Try.func49 #[.agg #[.int .i64 a0_0, .int .i64 a0_1]] ?_; (with_reducible refine (withyref01_Neg.calls k a0_0 a0_1 t710 t711 t712 _ A11.out).mono ?_); rintro e w432 ⟨rfl, hb⟩; refine ⟨_, rfl, ?_⟩; replace BK694 := Aside0.mk (blk_below (g := gb694) (o := .cells #[.int .i64 a0_0, .int .i64 a0_1] 23 (0, 0)) (by refine bf_ ?_ NB694_709; refine bf_ ?_ NB694_709; exact bk_ BK694) hb); replace BK695 := Aside0.mk (blk_below (g := gb695) (o := .cells #[.int .i64 a1_0, .int .i64 a1_1] 23 (0, 0)) (by refine bf_ ?_ NB695_709; refine bf_ ?_ NB695_709; exact bk_ BK695) hb); replace BK701 := Aside0.mk (blk_below (g := gb701) (o := .cells #[.int .i64 t698, .int .i64 t699] 23 (0, 0)) (by refine bf_ ?_ NB701_709; refine bf_ ?_ NB701_709; exact bk_ BK701) hb); replace BK705 := Aside0.mk (blk_below (g := gb705) (o := .cells #[.int .i64 t702, .int .i64 t703] 23 (0, 0)) (by refine bf_ ?_ NB705_709; refine bf_ ?_ NB705_709; exact bk_ BK705) hb); replace BK709 := Aside0.mk (blk_below (g := gb709) (o := .cells #[.int .i64 t706, .int .i64 t707] 23 (0, 0)) (by refine bp_ (cs := #[.int .i64 t706, .int .i64 0]) ?_ 1; refine bp_ (cs := #[.int .i64 0, .int .i64 0]) ?_ 0; exact bk_ BK709) hb); replace HB := bws_ HB hb; (try clear hb); (try clear hb2); (try clear hk); (try clear hi)) | ((with_reducible refine gate_dst (N := 15) rfl ?_); refine box_event ?hg (N := 15) ?hd (cs := #[.int .i64 0, .int .i64 0]) (t := 23) ?hr ?_; (case hd => rfl); (case hg => rfl); (case hr => first | (go_simp; done) | (go_simp; rfl)); intro gb713 hg w433 hbox hb; have BK713 := Aside0.mk hbox; have GW713 := bwg_ HB hg; have GE713 := bwg_ HB hg; replace HB := bws_ HB hb; have NB694_713 := bkl_ BK694 hg; have NB713_694 := bkr_ BK694 hg; replace BK694 := bkb_ BK694 hb; have NB695_713 := bkl_ BK695 hg; have NB713_695 := bkr_ BK695 hg; replace BK695 := bkb_ BK695 hb; have NB701_713 := bkl_ BK701 hg; have NB713_701 := bkr_ BK701 hg; replace BK701 := bkb_ BK701 hb; have NB705_713 := bkl_ BK705 hg; have NB713_705 := bkr_ BK705 hg; replace BK705 := bkb_ BK705 hb; have NB709_713 := bkl_ BK709 hg; have NB713_709 := bkr_ BK709 hg; replace BK709 := bkb_ BK709 hb; clear hb hbox hg; have hnb434 := NB713_694.out; have hnc434 := NB694_713.out; have hnb435 := NB713_695.out; have hnc435 := NB695_713.out; have hnb436 := NB713_701.out; have hnc436 := NB701_713.out; have hnb437 := NB713_705.out; have hnc437 := NB705_713.out; have hnb438 := NB713_709.out; have hnc438 := NB709_713.out; obtain ⟨hcz439_0, hcz439_1, hfz439_0, hfz439_1⟩ := bc2_ BK713; obtain ⟨hcz440_0, hcz440_1, hfz440_0, hfz440_1⟩ := bc2_ BK694; obtain ⟨hcz441_0, hcz441_1, hfz441_0, hfz441_1⟩ := bc2_ BK695) | ((with_reducible refine gate_callee (f := 26) rfl ?_); refine gla_ (some 55) Try.func26 #[.agg #[.int .i64 a0_0, .int .i64 a0_1], .agg #[.int .i64 a1_0, .int .i64 a1_1]] ?_; (with_reducible refine (num_Cmp.calls k a0_0 a0_1 a1_0 a1_1 t714 t715 _ A12.out).mono ?_); rintro e w442 ⟨rfl, hb⟩; refine ⟨_, rfl, ?_⟩; replace BK694 := Aside0.mk (blk_below (g := gb694) (o := .cells #[.int .i64 a0_0, .int .i64 a0_1] 23 (0, 0)) (by refine bf_ ?_ NB694_713; refine bf_ ?_ NB694_713; exact bk_ BK694) hb); replace BK695 := Aside0.mk (blk_below (g := gb695) (o := .cells #[.int .i64 a1_0, .int .i64 a1_1] 23 (0, 0)) (by refine bf_ ?_ NB695_713; refine bf_ ?_ NB695_713; exact bk_ BK695) hb); replace BK701 := Aside0.mk (blk_below (g := gb701) (o := .cells #[.int .i64 t698, .int .i64 t699] 23 (0, 0)) (by refine bf_ ?_ NB701_713; refine bf_ ?_ NB701_713; exact bk_ BK701) hb); replace BK705 := Aside0.mk (blk_below (g := gb705) (o := .cells #[.int .i64 t702, .int .i64 t703] 23 (0, 0)) (by refine bf_ ?_ NB705_713; refine bf_ ?_ NB705_713; exact bk_ BK705) hb); replace BK709 := Aside0.mk (blk_below (g := gb709) (o := .cells #[.int .i64 t706, .int .i64 t707] 23 (0, 0)) (by refine bf_ ?_ NB709_713; refine bf_ ?_ NB709_713; exact bk_ BK709) hb); replace BK713 := Aside0.mk (blk_below (g := gb713) (o := .cells #[.int .i64 t710, .int .i64 t711] 23 (0, 0)) (by refine bp_ (cs := #[.int .i64 t710, .int .i64 0]) ?_ 1; refine bp_ (cs := #[.int .i64 0, .int .i64 0]) ?_ 0; exact bk_ BK713) hb); replace HB := bws_ HB hb; (try clear hb); (try clear hb2); (try clear hk); (try clear hi); obtain ⟨hcz443_0, hcz443_1, hfz443_0, hfz443_1⟩ := bc2_ BK694; obtain ⟨hcz444_0, hcz444_1, hfz444_0, hfz444_1⟩ := bc2_ BK695) | ((with_reducible refine gate_callee (f := 50) rfl ?_); refine gla_ (some 61) Try.func50 #[.agg #[.int .i64 a0_0, .int .i64 a0_1], .agg #[.int .i64 a1_0, .int .i64 a1_1]] ?_; (with_reducible refine (withyref01_Cmp.calls k a0_0 a0_1 a1_0 a1_1 t716 t717 _ A13.out).mono ?_); rintro e w445 ⟨rfl, hb⟩; refine ⟨_, rfl, ?_⟩; replace BK694 := bkb_ BK694 hb; replace BK695 := bkb_ BK695 hb; replace BK701 := bkb_ BK701 hb; replace BK705 := bkb_ BK705 hb; replace BK709 := bkb_ BK709 hb; replace BK713 := bkb_ BK713 hb; replace HB := bws_ HB hb; (try clear hb); (try clear hb2); (try clear hk); (try clear hi); obtain ⟨hcz446_0, hcz446_1, hfz446_0, hfz446_1⟩ := bc2_ BK694) | ((with_reducible refine gate_callee (f := 45) rfl ?_); refine gla_ (some 66) Try.func45 #[.agg #[.int .i64 a0_0, .int .i64 a0_1]] ?_; (with_reducible refine (num_Whole.calls k a0_0 a0_1 t718 t719 _ A14.out).mono ?_); rintro e w447 ⟨rfl, hb⟩; refine ⟨_, rfl, ?_⟩; replace BK694 := bkb_ BK694 hb; replace BK695 := bkb_ BK695 hb; replace BK701 := bkb_ BK701 hb; replace BK705 := bkb_ BK705 hb; replace BK709 := bkb_ BK709 hb; replace BK713 := bkb_ BK713 hb; replace HB := bws_ HB hb; (try clear hb); (try clear hb2); (try clear hk); (try clear hi); obtain ⟨hcz448_0, hcz448_1, hfz448_0, hfz448_1⟩ := bc2_ BK694) | ((with_reducible refine gate_callee (f := 51) rfl ?_); refine gla_ (some 71) Try.func51 #[.agg #[.int .i64 a0_0, .int .i64 a0_1]] ?_; (with_reducible refine (withyref01_Whole.calls k a0_0 a0_1 t720 t721 _ A15.out).mono ?_); rintro e w449 ⟨rfl, hb⟩; refine ⟨_, rfl, ?_⟩; replace BK694 := bkb_ BK694 hb; replace BK695 := bkb_ BK695 hb; replace BK701 := bkb_ BK701 hb; replace BK705 := bkb_ BK705 hb; replace BK709 := bkb_ BK709 hb; replace BK713 := bkb_ BK713 hb; replace HB := bws_ HB hb; (try clear hb); (try clear hb2); (try clear hk); (try clear hi)))
        go_ret
        exact ⟨by first | rfl | (simp [*] <;> rfl), bw_ HB⟩
  · rw [if_neg c7] at H
    have c7b0 : (t696 == t697) = false := beq_eq_false_iff_ne.mpr c7
    have c7b1 : (t696 != t697) = true := bne_iff_ne.mpr c7
    obtain rfl := Option.some.inj H
    as_aux_lemma =>
      go_enter Try.func11, Try.ntmps11
      try go_wp2_with (first | ((with_reducible refine gate_dst (N := 4) rfl ?_); refine box_event ?hg (N := 4) ?hd (cs := #[.int .i64 a0_0, .int .i64 a0_1]) (t := 23) ?hr ?_; (case hd => rfl); (case hg => rfl); (case hr => first | (go_simp; done) | (go_simp; rfl)); intro gb694 hg w450 hbox hb; have BK694 := Aside0.mk hbox; have GW694 := bwg_ HB hg; have GE694 := bwg_ HB hg; replace HB := bws_ HB hb; clear hb hbox hg) | ((with_reducible refine gate_dst (N := 5) rfl ?_); refine box_event ?hg (N := 5) ?hd (cs := #[.int .i64 a1_0, .int .i64 a1_1]) (t := 23) ?hr ?_; (case hd => rfl); (case hg => rfl); (case hr => first | (go_simp; done) | (go_simp; rfl)); intro gb695 hg w451 hbox hb; have BK695 := Aside0.mk hbox; have GW695 := bwg_ HB hg; have GE695 := bwg_ HB hg; replace HB := bws_ HB hb; have NB694_695 := bkl_ BK694 hg; have NB695_694 := bkr_ BK694 hg; replace BK694 := bkb_ BK694 hb; clear hb hbox hg))
      replace BK694 := Aside0.mk (blk_drew BK694.out)
      replace BK695 := Aside0.mk (blk_drew BK695.out)
      replace HB := Aside0.mk (below_drew1 HB.out)
      refine start_ (n := 5) (S := fun w' => w'.cell? ⟨gb694, 0, none⟩ = some (.int .i64 a0_0) ∧ w'.cell? ⟨gb694, 1, none⟩ = some (.int .i64 a0_1)) (ds := []) #[false, false, false, false, false] (by kernel_rfl) rfl rfl ⟨(blk_cell BK694.out 0).trans rfl, (blk_cell BK694.out 1).trans rfl⟩ (fun hHeld => ?_)
      generalize w451.drew = w452 at BK694 BK695 HB hHeld ⊢
      refine take_ (i := 0) (N := some 25) (v := ?_) (a' := ?_) #[true, false, false, false, false] rfl rfl (by kernel_rfl) (fun _ _ _ h => h) (Or.inl ⟨by rfl, ?_⟩) hHeld ?_ ?_
      rotate_left
      · rintro w' ⟨s0, s1⟩
        go_simp
        with_reducible rfl
      rotate_left
      · simp only [Act.put, List.setIfInBounds_toArray, List.set_cons_zero, List.set_cons_succ, i64_w, i32_w]
        rfl
      refine take_ (i := 2) (N := some 27) (v := ?_) (a' := ?_) #[true, false, true, false, false] rfl rfl (by kernel_rfl) (fun _ _ _ h => h) (Or.inl ⟨by rfl, ?_⟩) hHeld ?_ ?_
      rotate_left
      · rintro w' ⟨s0, s1⟩
        go_simp
        with_reducible rfl
      rotate_left
      · simp only [Act.put, List.setIfInBounds_toArray, List.set_cons_zero, List.set_cons_succ, i64_w, i32_w]
        rfl
      refine one_ (i := 1) (N := some 26) #[true, true, true, false, false] rfl rfl (by kernel_rfl) (by decide) (fun K hK => ?_)
      refine gos_ Try.func46 #[.agg #[.int .i64 a0_0, .int .i64 a0_1]] ?_
      with_reducible refine (num_Check.calls k a0_0 a0_1 t696 _ A5.out).mono ?_
      rintro e w453 ⟨rfl, hb⟩
      refine ⟨_, rfl, ?_⟩
      replace BK694 := bkb_ BK694 hb
      replace BK695 := bkb_ BK695 hb
      replace HB := bws_ HB hb
      (try clear hb)
      (try clear hb2)
      (try clear hk)
      (try clear hi)
      refine hK.out _ _ ⟨(blk_cell BK694.out 0).trans rfl, (blk_cell BK694.out 1).trans rfl⟩ (fun hHeld => ?_)
      clear hK K
      refine norm_ (a' := ?_) ?_ ?_
      rotate_left
      · show Act.put _ (some 26) _ = _
        simp only [Act.put, List.setIfInBounds_toArray, List.set_cons_zero, List.set_cons_succ, i64_w, i32_w]
        rfl
      refine one_ (i := 3) (N := some 28) #[true, true, true, true, false] rfl rfl (by kernel_rfl) (by decide) (fun K hK => ?_)
      refine gos_ Try.func41 #[.agg #[.int .i64 a0_0, .int .i64 a0_1]] ?_
      with_reducible refine (withyref01_Check.calls k a0_0 a0_1 t697 _ A6.out).mono ?_
      rintro e w454 ⟨rfl, hb⟩
      refine ⟨_, rfl, ?_⟩
      replace BK694 := bkb_ BK694 hb
      replace BK695 := bkb_ BK695 hb
      replace HB := bws_ HB hb
      (try clear hb)
      (try clear hb2)
      (try clear hk)
      (try clear hi)
      refine hK.out _ _ ⟨(blk_cell BK694.out 0).trans rfl, (blk_cell BK694.out 1).trans rfl⟩ (fun hHeld => ?_)
      clear hK K
      refine norm_ (a' := ?_) ?_ ?_
      rotate_left
      · show Act.put _ (some 28) _ = _
        simp only [Act.put, List.setIfInBounds_toArray, List.set_cons_zero, List.set_cons_succ, i64_w, i32_w]
        rfl
      refine pure_ (i := 4) (N := some 29) (v := ?_) (a' := ?_) #[true, true, true, true, true] rfl rfl (by kernel_rfl) (fun _ _ _ h => h) (Or.inl ⟨by rfl, ?_⟩) ?_ ?_
      rotate_left
      · intro w'
        go_simp
        with_reducible rfl
      rotate_left
      · simp only [Act.put, List.setIfInBounds_toArray, List.set_cons_zero, List.set_cons_succ, i64_w, i32_w]
        rfl
      refine done_ (by kernel_rfl) ?_
      try go_wp2
      go_ret
      exact ⟨by first | rfl | (simp [*] <;> rfl), bw_ HB⟩
end Go.Proofs.Ytakcdoahpbeckaa.H
