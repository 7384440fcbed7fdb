/- NumUnique: the printed functions it reaches, with their walks. Laid by wip/claimpack.py out of what wip/hprint.py printed. -/
import Derived.Test.YtakcdoahpbeckaaKNumUnique3
namespace Go.Proofs.Ytakcdoahpbeckaa.H
open Go.RowKit Go.Proofs.YtakcdoahpbeckaaW.PrintWords Go.Proofs.YtakcdoahpbeckaaW.PrintLast Go.Proofs.YtakcdoahpbeckaaW.PrintMore
attribute [local go_sem] max2_int min2_int max_two min_two max_three min_three max_four min_four   -- for this text's walks alone
set_option linter.unusedVariables false
set_option linter.unusedSimpArgs false

attribute [local go_sem high] eqA23
/-! ### withylaw01_summed: function 17 -/
def withylaw01_summed.f (k : Nat)  : Option (Bool) := (num_Add.f k 1 2 1 3).bind fun bt240 => ((num_Simplest.f k 1 3 1 2).bind fun bt244 => ((num_Decimal.f k (-1) 8 2).bind fun bt248 => ((num_Parse.f k (⟨#[49, 46, 50, 53]⟩ : ByteArray)).bind fun bt250 => (if bt240.2.2 = 0 then (if bt244.2.2 = 0 then (if bt248.2 = 0 then (if bt250.2.2 = 0 then (if (bt240.1 == 5 && (bt240.2.1 == 6)) = true then (if (bt244.1 == 2 && (bt244.2.1 == 5)) = true then (if bt248.1.toList = ([45, 48, 46, 49, 50] : List UInt8) then (some (bt250.1 == 5 && (bt250.2.1 == 4))) else (some false)) else (some false)) else (some false)) else (some false)) else (some false)) else (some false)) else (some false)))))
theorem withylaw01_summed.mono : ∀ k, LeO (withylaw01_summed.f k ) (withylaw01_summed.f (k + 1) ) := by
  intro  k
  unfold withylaw01_summed.f
  repeat' first
      | (with_reducible exact num_Add.mono _ _ _ _ _)
      | (with_reducible exact num_Decimal.mono _ _ _ _)
      | (with_reducible exact num_Parse.mono _ _)
      | (with_reducible exact num_Simplest.mono _ _ _ _ _)
      | (with_reducible exact LeO.refl _)
      | (with_reducible exact LeO.none _)
      | (with_reducible refine LeO.ite ?_ ?_)
      | (with_reducible refine LeO.bind ?_ (fun _ => ?_))
      | (with_reducible refine LeO.exc (fun _ => ?_) (fun _ => ?_))
      | exact num_Add.mono _ _ _ _ _
      | exact num_Decimal.mono _ _ _ _
      | exact num_Parse.mono _ _
      | exact num_Simplest.mono _ _ _ _ _
      | exact LeO.none _
      | refine LeO.ite ?_ ?_
      | refine LeO.bind ?_ (fun _ => ?_)
set_option maxHeartbeats 8000000 in
set_option maxRecDepth 100000 in
theorem withylaw01_summed.calls (k : Nat)  (r : Bool) (w : World) (h : withylaw01_summed.f k  = some r) :
    Calls Try.prog 17 #[] w fun e w' => e = .returned (.bool r) ∧ Below w.heap.size w w' := by
  have hu23 := Try.underlying23
  have HB := Aside0.mk (Below.refl w.heap.size w)
  have H : ((num_Add.f k 1 2 1 3).bind fun bt240 => ((num_Simplest.f k 1 3 1 2).bind fun bt244 => ((num_Decimal.f k (-1) 8 2).bind fun bt248 => ((num_Parse.f k (⟨#[49, 46, 50, 53]⟩ : ByteArray)).bind fun bt250 => (if bt240.2.2 = 0 then (if bt244.2.2 = 0 then (if bt248.2 = 0 then (if bt250.2.2 = 0 then (if (bt240.1 == 5 && (bt240.2.1 == 6)) = true then (if (bt244.1 == 2 && (bt244.2.1 == 5)) = true then (if bt248.1.toList = ([45, 48, 46, 49, 50] : List UInt8) then (some (bt250.1 == 5 && (bt250.2.1 == 4))) else (some false)) else (some false)) else (some false)) else (some false)) else (some false)) else (some false)) else (some false)))))) = some r := h
  clear h
  replace H := Option.bind_eq_some_iff.mp H
  obtain ⟨⟨t240, t241, t242⟩, A10, H⟩ := H
  replace H : ((num_Simplest.f k 1 3 1 2).bind fun bt244 => ((num_Decimal.f k (-1) 8 2).bind fun bt248 => ((num_Parse.f k (⟨#[49, 46, 50, 53]⟩ : ByteArray)).bind fun bt250 => (if t242 = 0 then (if bt244.2.2 = 0 then (if bt248.2 = 0 then (if bt250.2.2 = 0 then (if (t240 == 5 && (t241 == 6)) = true then (if (bt244.1 == 2 && (bt244.2.1 == 5)) = true then (if bt248.1.toList = ([45, 48, 46, 49, 50] : List UInt8) then (some (bt250.1 == 5 && (bt250.2.1 == 4))) else (some false)) else (some false)) else (some false)) else (some false)) else (some false)) else (some false)) else (some false))))) = some r := H
  have A1 := Aside0.mk A10
  clear A10
  replace H := Option.bind_eq_some_iff.mp H
  obtain ⟨⟨t244, t245, t246⟩, A20, H⟩ := H
  replace H : ((num_Decimal.f k (-1) 8 2).bind fun bt248 => ((num_Parse.f k (⟨#[49, 46, 50, 53]⟩ : ByteArray)).bind fun bt250 => (if t242 = 0 then (if t246 = 0 then (if bt248.2 = 0 then (if bt250.2.2 = 0 then (if (t240 == 5 && (t241 == 6)) = true then (if (t244 == 2 && (t245 == 5)) = true then (if bt248.1.toList = ([45, 48, 46, 49, 50] : List UInt8) then (some (bt250.1 == 5 && (bt250.2.1 == 4))) else (some false)) else (some false)) else (some false)) else (some false)) else (some false)) else (some false)) else (some false)))) = some r := H
  have A2 := Aside0.mk A20
  clear A20
  replace H := Option.bind_eq_some_iff.mp H
  obtain ⟨⟨t248, t249⟩, A30, H⟩ := H
  replace H : ((num_Parse.f k (⟨#[49, 46, 50, 53]⟩ : ByteArray)).bind fun bt250 => (if t242 = 0 then (if t246 = 0 then (if t249 = 0 then (if bt250.2.2 = 0 then (if (t240 == 5 && (t241 == 6)) = true then (if (t244 == 2 && (t245 == 5)) = true then (if t248.toList = ([45, 48, 46, 49, 50] : List UInt8) then (some (bt250.1 == 5 && (bt250.2.1 == 4))) else (some false)) else (some false)) else (some false)) else (some false)) else (some false)) else (some false)) else (some false))) = some r := H
  have A3 := Aside0.mk A30
  clear A30
  replace H := Option.bind_eq_some_iff.mp H
  obtain ⟨⟨t250, t251, t252⟩, A40, H⟩ := H
  replace H : (if t242 = 0 then (if t246 = 0 then (if t249 = 0 then (if t252 = 0 then (if (t240 == 5 && (t241 == 6)) = true then (if (t244 == 2 && (t245 == 5)) = true then (if t248.toList = ([45, 48, 46, 49, 50] : List UInt8) then (some (t250 == 5 && (t251 == 4))) else (some false)) else (some false)) else (some false)) else (some false)) else (some false)) else (some false)) else (some false)) = some r := H
  have A4 := Aside0.mk A40
  clear A40
  by_cases c5 : t242 = 0
  · rw [if_pos c5] at H
    have c5b0 : (t242 == 0) = true := beq_iff_eq.mpr c5
    have c5b1 : (t242 != 0) = false := bne_eq_false_iff_eq.mpr c5
    clear c5
    by_cases c6 : t246 = 0
    · rw [if_pos c6] at H
      have c6b0 : (t246 == 0) = true := beq_iff_eq.mpr c6
      have c6b1 : (t246 != 0) = false := bne_eq_false_iff_eq.mpr c6
      clear c6
      by_cases c7 : t249 = 0
      · rw [if_pos c7] at H
        have c7b0 : (t249 == 0) = true := beq_iff_eq.mpr c7
        have c7b1 : (t249 != 0) = false := bne_eq_false_iff_eq.mpr c7
        clear c7
        by_cases c8 : t252 = 0
        · rw [if_pos c8] at H
          have c8b0 : (t252 == 0) = true := beq_iff_eq.mpr c8
          have c8b1 : (t252 != 0) = false := bne_eq_false_iff_eq.mpr c8
          clear c8
          by_cases c9 : (t240 == 5 && (t241 == 6)) = true
          · rw [if_pos c9] at H
            have c9b0 : (t240 == 5 && (t241 == 6)) = true := c9
            (try (have c9b1 : decide (t240 = 5 && (t241 == 6)) = true := by simpa using c9))
            (try (have c9b2 : (t240 == 5 && (t241 == 6)) = true := by simpa using c9))
            clear c9
            by_cases c10 : (t244 == 2 && (t245 == 5)) = true
            · rw [if_pos c10] at H
              have c10b0 : (t244 == 2 && (t245 == 5)) = true := c10
              (try (have c10b1 : decide (t244 = 2 && (t245 == 5)) = true := by simpa using c10))
              (try (have c10b2 : (t244 == 2 && (t245 == 5)) = true := by simpa using c10))
              clear c10
              by_cases c11 : t248.toList = ([45, 48, 46, 49, 50] : List UInt8)
              · rw [if_pos c11] at H
                have c11b0 : (t248.toList == ([45, 48, 46, 49, 50] : List UInt8)) = true := beq_iff_eq.mpr c11
                have c11b1 : (t248.toList != ([45, 48, 46, 49, 50] : List UInt8)) = false := bne_eq_false_iff_eq.mpr c11
                clear c11
                obtain rfl := Option.some.inj H
                go_enter Try.func17, Try.ntmps17
                go_wp2_with (first | ((with_reducible refine gate_callee (f := 18) rfl ?_); refine gla_ (some 12) Try.func18 #[.agg #[.int .i64 1, .int .i64 2], .agg #[.int .i64 1, .int .i64 3]] ?_; (with_reducible refine (num_Add.calls k 1 2 1 3 t240 t241 t242 _ A1.out).mono ?_); rintro e w12 ⟨rfl, hb⟩; refine ⟨_, rfl, ?_⟩; replace HB := bws_ HB hb; (try clear hb); (try clear hb2); (try clear hk); (try clear hi)) | ((with_reducible refine gate_dst (N := 1) rfl ?_); refine box_event ?hg (N := 1) ?hd (cs := #[.int .i64 0, .int .i64 0]) (t := 23) ?hr ?_; (case hd => rfl); (case hg => rfl); (case hr => first | (go_simp; done) | (go_simp; rfl)); intro gb243 hg w13 hbox hb; have BK243 := Aside0.mk hbox; have GW243 := bwg_ HB hg; have GE243 := bwg_ HB hg; replace HB := bws_ HB hb; clear hb hbox hg; obtain ⟨hcz14_0, hcz14_1, hfz14_0, hfz14_1⟩ := bc2_ BK243) | ((with_reducible refine gate_callee (f := 25) rfl ?_); refine gla_ (some 18) Try.func25 #[.agg #[.int .i64 1, .int .i64 3], .agg #[.int .i64 1, .int .i64 2]] ?_; (with_reducible refine (num_Simplest.calls k 1 3 1 2 t244 t245 t246 _ A2.out).mono ?_); rintro e w15 ⟨rfl, hb⟩; refine ⟨_, rfl, ?_⟩; replace BK243 := Aside0.mk (blk_below (g := gb243) (o := .cells #[.int .i64 t240, .int .i64 t241] 23 (0, 0)) (by refine bp_ (cs := #[.int .i64 t240, .int .i64 0]) ?_ 1; refine bp_ (cs := #[.int .i64 0, .int .i64 0]) ?_ 0; exact bk_ BK243) hb); replace HB := bws_ HB hb; (try clear hb); (try clear hb2); (try clear hk); (try clear hi)) | ((with_reducible refine gate_dst (N := 3) rfl ?_); refine box_event ?hg (N := 3) ?hd (cs := #[.int .i64 0, .int .i64 0]) (t := 23) ?hr ?_; (case hd => rfl); (case hg => rfl); (case hr => first | (go_simp; done) | (go_simp; rfl)); intro gb247 hg w16 hbox hb; have BK247 := Aside0.mk hbox; have GW247 := bwg_ HB hg; have GE247 := bwg_ HB hg; replace HB := bws_ HB hb; have NB243_247 := bkl_ BK243 hg; have NB247_243 := bkr_ BK243 hg; replace BK243 := bkb_ BK243 hb; clear hb hbox hg; have hnb17 := NB247_243.out; have hnc17 := NB243_247.out; obtain ⟨hcz18_0, hcz18_1, hfz18_0, hfz18_1⟩ := bc2_ BK247) | ((with_reducible refine gate_callee (f := 35) rfl ?_); refine gla_ (some 23) Try.func35 #[.agg #[.int .i64 (-1), .int .i64 8], .int .i64 2] ?_; (with_reducible refine (num_Decimal.calls k (-1) 8 2 t248 t249 _ A3.out).mono ?_); rintro e w19 ⟨rfl, hb⟩; refine ⟨_, rfl, ?_⟩; replace BK243 := Aside0.mk (blk_below (g := gb243) (o := .cells #[.int .i64 t240, .int .i64 t241] 23 (0, 0)) (by refine bf_ ?_ NB243_247; refine bf_ ?_ NB243_247; exact bk_ BK243) hb); replace BK247 := Aside0.mk (blk_below (g := gb247) (o := .cells #[.int .i64 t244, .int .i64 t245] 23 (0, 0)) (by refine bp_ (cs := #[.int .i64 t244, .int .i64 0]) ?_ 1; refine bp_ (cs := #[.int .i64 0, .int .i64 0]) ?_ 0; exact bk_ BK247) hb); replace HB := bws_ HB hb; (try clear hb); (try clear hb2); (try clear hk); (try clear hi)) | ((with_reducible refine gate_callee (f := 39) rfl ?_); refine gla_ (some 27) Try.func39 #[.string (⟨#[49, 46, 50, 53]⟩ : ByteArray)] ?_; (with_reducible refine (num_Parse.calls k (⟨#[49, 46, 50, 53]⟩ : ByteArray) t250 t251 t252 _ A4.out).mono ?_); rintro e w20 ⟨rfl, hb⟩; refine ⟨_, rfl, ?_⟩; replace BK243 := bkb_ BK243 hb; replace BK247 := bkb_ BK247 hb; replace HB := bws_ HB hb; (try clear hb); (try clear hb2); (try clear hk); (try clear hi)) | ((with_reducible refine gate_dst (N := 7) rfl ?_); refine box_event ?hg (N := 7) ?hd (cs := #[.int .i64 0, .int .i64 0]) (t := 23) ?hr ?_; (case hd => rfl); (case hg => rfl); (case hr => first | (go_simp; done) | (go_simp; rfl)); intro gb253 hg w21 hbox hb; have BK253 := Aside0.mk hbox; have GW253 := bwg_ HB hg; have GE253 := bwg_ HB hg; replace HB := bws_ HB hb; have NB243_253 := bkl_ BK243 hg; have NB253_243 := bkr_ BK243 hg; replace BK243 := bkb_ BK243 hb; have NB247_253 := bkl_ BK247 hg; have NB253_247 := bkr_ BK247 hg; replace BK247 := bkb_ BK247 hb; clear hb hbox hg; have hnb22 := NB253_243.out; have hnc22 := NB243_253.out; have hnb23 := NB253_247.out; have hnc23 := NB247_253.out; obtain ⟨hcz24_0, hcz24_1, hfz24_0, hfz24_1⟩ := bc2_ BK253; obtain ⟨hcz25_0, hcz25_1, hfz25_0, hfz25_1⟩ := bc2_ BK243; obtain ⟨hcz26_0, hcz26_1, hfz26_0, hfz26_1⟩ := bc2_ BK247))
                go_ret
                exact ⟨by first | rfl | (simp [*] <;> rfl), bw_ HB⟩
              · rw [if_neg c11] at H
                have c11b0 : (t248.toList == ([45, 48, 46, 49, 50] : List UInt8)) = false := beq_eq_false_iff_ne.mpr c11
                have c11b1 : (t248.toList != ([45, 48, 46, 49, 50] : List UInt8)) = true := bne_iff_ne.mpr c11
                obtain rfl := Option.some.inj H
                go_enter Try.func17, Try.ntmps17
                go_wp2_with (first | ((with_reducible refine gate_callee (f := 18) rfl ?_); refine gla_ (some 12) Try.func18 #[.agg #[.int .i64 1, .int .i64 2], .agg #[.int .i64 1, .int .i64 3]] ?_; (with_reducible refine (num_Add.calls k 1 2 1 3 t240 t241 t242 _ A1.out).mono ?_); rintro e w27 ⟨rfl, hb⟩; refine ⟨_, rfl, ?_⟩; replace HB := bws_ HB hb; (try clear hb); (try clear hb2); (try clear hk); (try clear hi)) | ((with_reducible refine gate_dst (N := 1) rfl ?_); refine box_event ?hg (N := 1) ?hd (cs := #[.int .i64 0, .int .i64 0]) (t := 23) ?hr ?_; (case hd => rfl); (case hg => rfl); (case hr => first | (go_simp; done) | (go_simp; rfl)); intro gb243 hg w28 hbox hb; have BK243 := Aside0.mk hbox; have GW243 := bwg_ HB hg; have GE243 := bwg_ HB hg; replace HB := bws_ HB hb; clear hb hbox hg; obtain ⟨hcz29_0, hcz29_1, hfz29_0, hfz29_1⟩ := bc2_ BK243) | ((with_reducible refine gate_callee (f := 25) rfl ?_); refine gla_ (some 18) Try.func25 #[.agg #[.int .i64 1, .int .i64 3], .agg #[.int .i64 1, .int .i64 2]] ?_; (with_reducible refine (num_Simplest.calls k 1 3 1 2 t244 t245 t246 _ A2.out).mono ?_); rintro e w30 ⟨rfl, hb⟩; refine ⟨_, rfl, ?_⟩; replace BK243 := Aside0.mk (blk_below (g := gb243) (o := .cells #[.int .i64 t240, .int .i64 t241] 23 (0, 0)) (by refine bp_ (cs := #[.int .i64 t240, .int .i64 0]) ?_ 1; refine bp_ (cs := #[.int .i64 0, .int .i64 0]) ?_ 0; exact bk_ BK243) hb); replace HB := bws_ HB hb; (try clear hb); (try clear hb2); (try clear hk); (try clear hi)) | ((with_reducible refine gate_dst (N := 3) rfl ?_); refine box_event ?hg (N := 3) ?hd (cs := #[.int .i64 0, .int .i64 0]) (t := 23) ?hr ?_; (case hd => rfl); (case hg => rfl); (case hr => first | (go_simp; done) | (go_simp; rfl)); intro gb247 hg w31 hbox hb; have BK247 := Aside0.mk hbox; have GW247 := bwg_ HB hg; have GE247 := bwg_ HB hg; replace HB := bws_ HB hb; have NB243_247 := bkl_ BK243 hg; have NB247_243 := bkr_ BK243 hg; replace BK243 := bkb_ BK243 hb; clear hb hbox hg; have hnb32 := NB247_243.out; have hnc32 := NB243_247.out; obtain ⟨hcz33_0, hcz33_1, hfz33_0, hfz33_1⟩ := bc2_ BK247) | ((with_reducible refine gate_callee (f := 35) rfl ?_); refine gla_ (some 23) Try.func35 #[.agg #[.int .i64 (-1), .int .i64 8], .int .i64 2] ?_; (with_reducible refine (num_Decimal.calls k (-1) 8 2 t248 t249 _ A3.out).mono ?_); rintro e w34 ⟨rfl, hb⟩; refine ⟨_, rfl, ?_⟩; replace BK243 := Aside0.mk (blk_below (g := gb243) (o := .cells #[.int .i64 t240, .int .i64 t241] 23 (0, 0)) (by refine bf_ ?_ NB243_247; refine bf_ ?_ NB243_247; exact bk_ BK243) hb); replace BK247 := Aside0.mk (blk_below (g := gb247) (o := .cells #[.int .i64 t244, .int .i64 t245] 23 (0, 0)) (by refine bp_ (cs := #[.int .i64 t244, .int .i64 0]) ?_ 1; refine bp_ (cs := #[.int .i64 0, .int .i64 0]) ?_ 0; exact bk_ BK247) hb); replace HB := bws_ HB hb; (try clear hb); (try clear hb2); (try clear hk); (try clear hi)) | ((with_reducible refine gate_callee (f := 39) rfl ?_); refine gla_ (some 27) Try.func39 #[.string (⟨#[49, 46, 50, 53]⟩ : ByteArray)] ?_; (with_reducible refine (num_Parse.calls k (⟨#[49, 46, 50, 53]⟩ : ByteArray) t250 t251 t252 _ A4.out).mono ?_); rintro e w35 ⟨rfl, hb⟩; refine ⟨_, rfl, ?_⟩; replace BK243 := bkb_ BK243 hb; replace BK247 := bkb_ BK247 hb; replace HB := bws_ HB hb; (try clear hb); (try clear hb2); (try clear hk); (try clear hi)) | ((with_reducible refine gate_dst (N := 7) rfl ?_); refine box_event ?hg (N := 7) ?hd (cs := #[.int .i64 0, .int .i64 0]) (t := 23) ?hr ?_; (case hd => rfl); (case hg => rfl); (case hr => first | (go_simp; done) | (go_simp; rfl)); intro gb253 hg w36 hbox hb; have BK253 := Aside0.mk hbox; have GW253 := bwg_ HB hg; have GE253 := bwg_ HB hg; replace HB := bws_ HB hb; have NB243_253 := bkl_ BK243 hg; have NB253_243 := bkr_ BK243 hg; replace BK243 := bkb_ BK243 hb; have NB247_253 := bkl_ BK247 hg; have NB253_247 := bkr_ BK247 hg; replace BK247 := bkb_ BK247 hb; clear hb hbox hg; have hnb37 := NB253_243.out; have hnc37 := NB243_253.out; have hnb38 := NB253_247.out; have hnc38 := NB247_253.out; obtain ⟨hcz39_0, hcz39_1, hfz39_0, hfz39_1⟩ := bc2_ BK253; obtain ⟨hcz40_0, hcz40_1, hfz40_0, hfz40_1⟩ := bc2_ BK243; obtain ⟨hcz41_0, hcz41_1, hfz41_0, hfz41_1⟩ := bc2_ BK247))
                go_ret
                exact ⟨by first | rfl | (simp [*] <;> rfl), bw_ HB⟩
            · rw [if_neg c10] at H
              have c10b0 : (t244 == 2 && (t245 == 5)) = false := by simpa using c10
              (try (have c10b1 : decide (t244 = 2 && (t245 == 5)) = false := by simpa using c10))
              (try (have c10b2 : (t244 == 2 && (t245 == 5)) = false := by simpa using c10))
              (try (have c10b3 : ¬ (t244 = 2 && (t245 == 5)) := by simpa using c10))
              clear c10
              obtain rfl := Option.some.inj H
              go_enter Try.func17, Try.ntmps17
              go_wp2_with (first | ((with_reducible refine gate_callee (f := 18) rfl ?_); refine gla_ (some 12) Try.func18 #[.agg #[.int .i64 1, .int .i64 2], .agg #[.int .i64 1, .int .i64 3]] ?_; (with_reducible refine (num_Add.calls k 1 2 1 3 t240 t241 t242 _ A1.out).mono ?_); rintro e w42 ⟨rfl, hb⟩; refine ⟨_, rfl, ?_⟩; replace HB := bws_ HB hb; (try clear hb); (try clear hb2); (try clear hk); (try clear hi)) | ((with_reducible refine gate_dst (N := 1) rfl ?_); refine box_event ?hg (N := 1) ?hd (cs := #[.int .i64 0, .int .i64 0]) (t := 23) ?hr ?_; (case hd => rfl); (case hg => rfl); (case hr => first | (go_simp; done) | (go_simp; rfl)); intro gb243 hg w43 hbox hb; have BK243 := Aside0.mk hbox; have GW243 := bwg_ HB hg; have GE243 := bwg_ HB hg; replace HB := bws_ HB hb; clear hb hbox hg; obtain ⟨hcz44_0, hcz44_1, hfz44_0, hfz44_1⟩ := bc2_ BK243) | ((with_reducible refine gate_callee (f := 25) rfl ?_); refine gla_ (some 18) Try.func25 #[.agg #[.int .i64 1, .int .i64 3], .agg #[.int .i64 1, .int .i64 2]] ?_; (with_reducible refine (num_Simplest.calls k 1 3 1 2 t244 t245 t246 _ A2.out).mono ?_); rintro e w45 ⟨rfl, hb⟩; refine ⟨_, rfl, ?_⟩; replace BK243 := Aside0.mk (blk_below (g := gb243) (o := .cells #[.int .i64 t240, .int .i64 t241] 23 (0, 0)) (by refine bp_ (cs := #[.int .i64 t240, .int .i64 0]) ?_ 1; refine bp_ (cs := #[.int .i64 0, .int .i64 0]) ?_ 0; exact bk_ BK243) hb); replace HB := bws_ HB hb; (try clear hb); (try clear hb2); (try clear hk); (try clear hi)) | ((with_reducible refine gate_dst (N := 3) rfl ?_); refine box_event ?hg (N := 3) ?hd (cs := #[.int .i64 0, .int .i64 0]) (t := 23) ?hr ?_; (case hd => rfl); (case hg => rfl); (case hr => first | (go_simp; done) | (go_simp; rfl)); intro gb247 hg w46 hbox hb; have BK247 := Aside0.mk hbox; have GW247 := bwg_ HB hg; have GE247 := bwg_ HB hg; replace HB := bws_ HB hb; have NB243_247 := bkl_ BK243 hg; have NB247_243 := bkr_ BK243 hg; replace BK243 := bkb_ BK243 hb; clear hb hbox hg; have hnb47 := NB247_243.out; have hnc47 := NB243_247.out; obtain ⟨hcz48_0, hcz48_1, hfz48_0, hfz48_1⟩ := bc2_ BK247) | ((with_reducible refine gate_callee (f := 35) rfl ?_); refine gla_ (some 23) Try.func35 #[.agg #[.int .i64 (-1), .int .i64 8], .int .i64 2] ?_; (with_reducible refine (num_Decimal.calls k (-1) 8 2 t248 t249 _ A3.out).mono ?_); rintro e w49 ⟨rfl, hb⟩; refine ⟨_, rfl, ?_⟩; replace BK243 := Aside0.mk (blk_below (g := gb243) (o := .cells #[.int .i64 t240, .int .i64 t241] 23 (0, 0)) (by refine bf_ ?_ NB243_247; refine bf_ ?_ NB243_247; exact bk_ BK243) hb); replace BK247 := Aside0.mk (blk_below (g := gb247) (o := .cells #[.int .i64 t244, .int .i64 t245] 23 (0, 0)) (by refine bp_ (cs := #[.int .i64 t244, .int .i64 0]) ?_ 1; refine bp_ (cs := #[.int .i64 0, .int .i64 0]) ?_ 0; exact bk_ BK247) hb); replace HB := bws_ HB hb; (try clear hb); (try clear hb2); (try clear hk); (try clear hi)) | ((with_reducible refine gate_callee (f := 39) rfl ?_); refine gla_ (some 27) Try.func39 #[.string (⟨#[49, 46, 50, 53]⟩ : ByteArray)] ?_; (with_reducible refine (num_Parse.calls k (⟨#[49, 46, 50, 53]⟩ : ByteArray) t250 t251 t252 _ A4.out).mono ?_); rintro e w50 ⟨rfl, hb⟩; refine ⟨_, rfl, ?_⟩; replace BK243 := bkb_ BK243 hb; replace BK247 := bkb_ BK247 hb; replace HB := bws_ HB hb; (try clear hb); (try clear hb2); (try clear hk); (try clear hi)) | ((with_reducible refine gate_dst (N := 7) rfl ?_); refine box_event ?hg (N := 7) ?hd (cs := #[.int .i64 0, .int .i64 0]) (t := 23) ?hr ?_; (case hd => rfl); (case hg => rfl); (case hr => first | (go_simp; done) | (go_simp; rfl)); intro gb253 hg w51 hbox hb; have BK253 := Aside0.mk hbox; have GW253 := bwg_ HB hg; have GE253 := bwg_ HB hg; replace HB := bws_ HB hb; have NB243_253 := bkl_ BK243 hg; have NB253_243 := bkr_ BK243 hg; replace BK243 := bkb_ BK243 hb; have NB247_253 := bkl_ BK247 hg; have NB253_247 := bkr_ BK247 hg; replace BK247 := bkb_ BK247 hb; clear hb hbox hg; have hnb52 := NB253_243.out; have hnc52 := NB243_253.out; have hnb53 := NB253_247.out; have hnc53 := NB247_253.out; obtain ⟨hcz54_0, hcz54_1, hfz54_0, hfz54_1⟩ := bc2_ BK253; obtain ⟨hcz55_0, hcz55_1, hfz55_0, hfz55_1⟩ := bc2_ BK243; obtain ⟨hcz56_0, hcz56_1, hfz56_0, hfz56_1⟩ := bc2_ BK247))
              go_ret
              exact ⟨by first | rfl | (simp [*] <;> rfl), bw_ HB⟩
          · rw [if_neg c9] at H
            have c9b0 : (t240 == 5 && (t241 == 6)) = false := by simpa using c9
            (try (have c9b1 : decide (t240 = 5 && (t241 == 6)) = false := by simpa using c9))
            (try (have c9b2 : (t240 == 5 && (t241 == 6)) = false := by simpa using c9))
            (try (have c9b3 : ¬ (t240 = 5 && (t241 == 6)) := by simpa using c9))
            clear c9
            obtain rfl := Option.some.inj H
            go_enter Try.func17, Try.ntmps17
            go_wp2_with (first | ((with_reducible refine gate_callee (f := 18) rfl ?_); refine gla_ (some 12) Try.func18 #[.agg #[.int .i64 1, .int .i64 2], .agg #[.int .i64 1, .int .i64 3]] ?_; (with_reducible refine (num_Add.calls k 1 2 1 3 t240 t241 t242 _ A1.out).mono ?_); rintro e w57 ⟨rfl, hb⟩; refine ⟨_, rfl, ?_⟩; replace HB := bws_ HB hb; (try clear hb); (try clear hb2); (try clear hk); (try clear hi)) | ((with_reducible refine gate_dst (N := 1) rfl ?_); refine box_event ?hg (N := 1) ?hd (cs := #[.int .i64 0, .int .i64 0]) (t := 23) ?hr ?_; (case hd => rfl); (case hg => rfl); (case hr => first | (go_simp; done) | (go_simp; rfl)); intro gb243 hg w58 hbox hb; have BK243 := Aside0.mk hbox; have GW243 := bwg_ HB hg; have GE243 := bwg_ HB hg; replace HB := bws_ HB hb; clear hb hbox hg; obtain ⟨hcz59_0, hcz59_1, hfz59_0, hfz59_1⟩ := bc2_ BK243) | ((with_reducible refine gate_callee (f := 25) rfl ?_); refine gla_ (some 18) Try.func25 #[.agg #[.int .i64 1, .int .i64 3], .agg #[.int .i64 1, .int .i64 2]] ?_; (with_reducible refine (num_Simplest.calls k 1 3 1 2 t244 t245 t246 _ A2.out).mono ?_); rintro e w60 ⟨rfl, hb⟩; refine ⟨_, rfl, ?_⟩; replace BK243 := Aside0.mk (blk_below (g := gb243) (o := .cells #[.int .i64 t240, .int .i64 t241] 23 (0, 0)) (by refine bp_ (cs := #[.int .i64 t240, .int .i64 0]) ?_ 1; refine bp_ (cs := #[.int .i64 0, .int .i64 0]) ?_ 0; exact bk_ BK243) hb); replace HB := bws_ HB hb; (try clear hb); (try clear hb2); (try clear hk); (try clear hi)) | ((with_reducible refine gate_dst (N := 3) rfl ?_); refine box_event ?hg (N := 3) ?hd (cs := #[.int .i64 0, .int .i64 0]) (t := 23) ?hr ?_; (case hd => rfl); (case hg => rfl); (case hr => first | (go_simp; done) | (go_simp; rfl)); intro gb247 hg w61 hbox hb; have BK247 := Aside0.mk hbox; have GW247 := bwg_ HB hg; have GE247 := bwg_ HB hg; replace HB := bws_ HB hb; have NB243_247 := bkl_ BK243 hg; have NB247_243 := bkr_ BK243 hg; replace BK243 := bkb_ BK243 hb; clear hb hbox hg; have hnb62 := NB247_243.out; have hnc62 := NB243_247.out; obtain ⟨hcz63_0, hcz63_1, hfz63_0, hfz63_1⟩ := bc2_ BK247) | ((with_reducible refine gate_callee (f := 35) rfl ?_); refine gla_ (some 23) Try.func35 #[.agg #[.int .i64 (-1), .int .i64 8], .int .i64 2] ?_; (with_reducible refine (num_Decimal.calls k (-1) 8 2 t248 t249 _ A3.out).mono ?_); rintro e w64 ⟨rfl, hb⟩; refine ⟨_, rfl, ?_⟩; replace BK243 := Aside0.mk (blk_below (g := gb243) (o := .cells #[.int .i64 t240, .int .i64 t241] 23 (0, 0)) (by refine bf_ ?_ NB243_247; refine bf_ ?_ NB243_247; exact bk_ BK243) hb); replace BK247 := Aside0.mk (blk_below (g := gb247) (o := .cells #[.int .i64 t244, .int .i64 t245] 23 (0, 0)) (by refine bp_ (cs := #[.int .i64 t244, .int .i64 0]) ?_ 1; refine bp_ (cs := #[.int .i64 0, .int .i64 0]) ?_ 0; exact bk_ BK247) hb); replace HB := bws_ HB hb; (try clear hb); (try clear hb2); (try clear hk); (try clear hi)) | ((with_reducible refine gate_callee (f := 39) rfl ?_); refine gla_ (some 27) Try.func39 #[.string (⟨#[49, 46, 50, 53]⟩ : ByteArray)] ?_; (with_reducible refine (num_Parse.calls k (⟨#[49, 46, 50, 53]⟩ : ByteArray) t250 t251 t252 _ A4.out).mono ?_); rintro e w65 ⟨rfl, hb⟩; refine ⟨_, rfl, ?_⟩; replace BK243 := bkb_ BK243 hb; replace BK247 := bkb_ BK247 hb; replace HB := bws_ HB hb; (try clear hb); (try clear hb2); (try clear hk); (try clear hi)) | ((with_reducible refine gate_dst (N := 7) rfl ?_); refine box_event ?hg (N := 7) ?hd (cs := #[.int .i64 0, .int .i64 0]) (t := 23) ?hr ?_; (case hd => rfl); (case hg => rfl); (case hr => first | (go_simp; done) | (go_simp; rfl)); intro gb253 hg w66 hbox hb; have BK253 := Aside0.mk hbox; have GW253 := bwg_ HB hg; have GE253 := bwg_ HB hg; replace HB := bws_ HB hb; have NB243_253 := bkl_ BK243 hg; have NB253_243 := bkr_ BK243 hg; replace BK243 := bkb_ BK243 hb; have NB247_253 := bkl_ BK247 hg; have NB253_247 := bkr_ BK247 hg; replace BK247 := bkb_ BK247 hb; clear hb hbox hg; have hnb67 := NB253_243.out; have hnc67 := NB243_253.out; have hnb68 := NB253_247.out; have hnc68 := NB247_253.out; obtain ⟨hcz69_0, hcz69_1, hfz69_0, hfz69_1⟩ := bc2_ BK253; obtain ⟨hcz70_0, hcz70_1, hfz70_0, hfz70_1⟩ := bc2_ BK243))
            go_ret
            exact ⟨by first | rfl | (simp [*] <;> rfl), bw_ HB⟩
        · rw [if_neg c8] at H
          have c8b0 : (t252 == 0) = false := beq_eq_false_iff_ne.mpr c8
          have c8b1 : (t252 != 0) = true := bne_iff_ne.mpr c8
          obtain rfl := Option.some.inj H
          go_enter Try.func17, Try.ntmps17
          go_wp2_with (first | ((with_reducible refine gate_callee (f := 18) rfl ?_); refine gla_ (some 12) Try.func18 #[.agg #[.int .i64 1, .int .i64 2], .agg #[.int .i64 1, .int .i64 3]] ?_; (with_reducible refine (num_Add.calls k 1 2 1 3 t240 t241 t242 _ A1.out).mono ?_); rintro e w71 ⟨rfl, hb⟩; refine ⟨_, rfl, ?_⟩; replace HB := bws_ HB hb; (try clear hb); (try clear hb2); (try clear hk); (try clear hi)) | ((with_reducible refine gate_dst (N := 1) rfl ?_); refine box_event ?hg (N := 1) ?hd (cs := #[.int .i64 0, .int .i64 0]) (t := 23) ?hr ?_; (case hd => rfl); (case hg => rfl); (case hr => first | (go_simp; done) | (go_simp; rfl)); intro gb243 hg w72 hbox hb; have BK243 := Aside0.mk hbox; have GW243 := bwg_ HB hg; have GE243 := bwg_ HB hg; replace HB := bws_ HB hb; clear hb hbox hg; obtain ⟨hcz73_0, hcz73_1, hfz73_0, hfz73_1⟩ := bc2_ BK243) | ((with_reducible refine gate_callee (f := 25) rfl ?_); refine gla_ (some 18) Try.func25 #[.agg #[.int .i64 1, .int .i64 3], .agg #[.int .i64 1, .int .i64 2]] ?_; (with_reducible refine (num_Simplest.calls k 1 3 1 2 t244 t245 t246 _ A2.out).mono ?_); rintro e w74 ⟨rfl, hb⟩; refine ⟨_, rfl, ?_⟩; replace BK243 := Aside0.mk (blk_below (g := gb243) (o := .cells #[.int .i64 t240, .int .i64 t241] 23 (0, 0)) (by refine bp_ (cs := #[.int .i64 t240, .int .i64 0]) ?_ 1; refine bp_ (cs := #[.int .i64 0, .int .i64 0]) ?_ 0; exact bk_ BK243) hb); replace HB := bws_ HB hb; (try clear hb); (try clear hb2); (try clear hk); (try clear hi)) | ((with_reducible refine gate_dst (N := 3) rfl ?_); refine box_event ?hg (N := 3) ?hd (cs := #[.int .i64 0, .int .i64 0]) (t := 23) ?hr ?_; (case hd => rfl); (case hg => rfl); (case hr => first | (go_simp; done) | (go_simp; rfl)); intro gb247 hg w75 hbox hb; have BK247 := Aside0.mk hbox; have GW247 := bwg_ HB hg; have GE247 := bwg_ HB hg; replace HB := bws_ HB hb; have NB243_247 := bkl_ BK243 hg; have NB247_243 := bkr_ BK243 hg; replace BK243 := bkb_ BK243 hb; clear hb hbox hg; have hnb76 := NB247_243.out; have hnc76 := NB243_247.out; obtain ⟨hcz77_0, hcz77_1, hfz77_0, hfz77_1⟩ := bc2_ BK247) | ((with_reducible refine gate_callee (f := 35) rfl ?_); refine gla_ (some 23) Try.func35 #[.agg #[.int .i64 (-1), .int .i64 8], .int .i64 2] ?_; (with_reducible refine (num_Decimal.calls k (-1) 8 2 t248 t249 _ A3.out).mono ?_); rintro e w78 ⟨rfl, hb⟩; refine ⟨_, rfl, ?_⟩; replace BK243 := Aside0.mk (blk_below (g := gb243) (o := .cells #[.int .i64 t240, .int .i64 t241] 23 (0, 0)) (by refine bf_ ?_ NB243_247; refine bf_ ?_ NB243_247; exact bk_ BK243) hb); replace BK247 := Aside0.mk (blk_below (g := gb247) (o := .cells #[.int .i64 t244, .int .i64 t245] 23 (0, 0)) (by refine bp_ (cs := #[.int .i64 t244, .int .i64 0]) ?_ 1; refine bp_ (cs := #[.int .i64 0, .int .i64 0]) ?_ 0; exact bk_ BK247) hb); replace HB := bws_ HB hb; (try clear hb); (try clear hb2); (try clear hk); (try clear hi)) | ((with_reducible refine gate_callee (f := 39) rfl ?_); refine gla_ (some 27) Try.func39 #[.string (⟨#[49, 46, 50, 53]⟩ : ByteArray)] ?_; (with_reducible refine (num_Parse.calls k (⟨#[49, 46, 50, 53]⟩ : ByteArray) t250 t251 t252 _ A4.out).mono ?_); rintro e w79 ⟨rfl, hb⟩; refine ⟨_, rfl, ?_⟩; replace BK243 := bkb_ BK243 hb; replace BK247 := bkb_ BK247 hb; replace HB := bws_ HB hb; (try clear hb); (try clear hb2); (try clear hk); (try clear hi)) | ((with_reducible refine gate_dst (N := 7) rfl ?_); refine box_event ?hg (N := 7) ?hd (cs := #[.int .i64 0, .int .i64 0]) (t := 23) ?hr ?_; (case hd => rfl); (case hg => rfl); (case hr => first | (go_simp; done) | (go_simp; rfl)); intro gb253 hg w80 hbox hb; have BK253 := Aside0.mk hbox; have GW253 := bwg_ HB hg; have GE253 := bwg_ HB hg; replace HB := bws_ HB hb; have NB243_253 := bkl_ BK243 hg; have NB253_243 := bkr_ BK243 hg; replace BK243 := bkb_ BK243 hb; have NB247_253 := bkl_ BK247 hg; have NB253_247 := bkr_ BK247 hg; replace BK247 := bkb_ BK247 hb; clear hb hbox hg; have hnb81 := NB253_243.out; have hnc81 := NB243_253.out; have hnb82 := NB253_247.out; have hnc82 := NB247_253.out; obtain ⟨hcz83_0, hcz83_1, hfz83_0, hfz83_1⟩ := bc2_ BK253))
          go_ret
          exact ⟨by first | rfl | (simp [*] <;> rfl), bw_ HB⟩
      · rw [if_neg c7] at H
        have c7b0 : (t249 == 0) = false := beq_eq_false_iff_ne.mpr c7
        have c7b1 : (t249 != 0) = true := bne_iff_ne.mpr c7
        obtain rfl := Option.some.inj H
        go_enter Try.func17, Try.ntmps17
        go_wp2_with (first | ((with_reducible refine gate_callee (f := 18) rfl ?_); refine gla_ (some 12) Try.func18 #[.agg #[.int .i64 1, .int .i64 2], .agg #[.int .i64 1, .int .i64 3]] ?_; (with_reducible refine (num_Add.calls k 1 2 1 3 t240 t241 t242 _ A1.out).mono ?_); rintro e w84 ⟨rfl, hb⟩; refine ⟨_, rfl, ?_⟩; replace HB := bws_ HB hb; (try clear hb); (try clear hb2); (try clear hk); (try clear hi)) | ((with_reducible refine gate_dst (N := 1) rfl ?_); refine box_event ?hg (N := 1) ?hd (cs := #[.int .i64 0, .int .i64 0]) (t := 23) ?hr ?_; (case hd => rfl); (case hg => rfl); (case hr => first | (go_simp; done) | (go_simp; rfl)); intro gb243 hg w85 hbox hb; have BK243 := Aside0.mk hbox; have GW243 := bwg_ HB hg; have GE243 := bwg_ HB hg; replace HB := bws_ HB hb; clear hb hbox hg; obtain ⟨hcz86_0, hcz86_1, hfz86_0, hfz86_1⟩ := bc2_ BK243) | ((with_reducible refine gate_callee (f := 25) rfl ?_); refine gla_ (some 18) Try.func25 #[.agg #[.int .i64 1, .int .i64 3], .agg #[.int .i64 1, .int .i64 2]] ?_; (with_reducible refine (num_Simplest.calls k 1 3 1 2 t244 t245 t246 _ A2.out).mono ?_); rintro e w87 ⟨rfl, hb⟩; refine ⟨_, rfl, ?_⟩; replace BK243 := Aside0.mk (blk_below (g := gb243) (o := .cells #[.int .i64 t240, .int .i64 t241] 23 (0, 0)) (by refine bp_ (cs := #[.int .i64 t240, .int .i64 0]) ?_ 1; refine bp_ (cs := #[.int .i64 0, .int .i64 0]) ?_ 0; exact bk_ BK243) hb); replace HB := bws_ HB hb; (try clear hb); (try clear hb2); (try clear hk); (try clear hi)) | ((with_reducible refine gate_dst (N := 3) rfl ?_); refine box_event ?hg (N := 3) ?hd (cs := #[.int .i64 0, .int .i64 0]) (t := 23) ?hr ?_; (case hd => rfl); (case hg => rfl); (case hr => first | (go_simp; done) | (go_simp; rfl)); intro gb247 hg w88 hbox hb; have BK247 := Aside0.mk hbox; have GW247 := bwg_ HB hg; have GE247 := bwg_ HB hg; replace HB := bws_ HB hb; have NB243_247 := bkl_ BK243 hg; have NB247_243 := bkr_ BK243 hg; replace BK243 := bkb_ BK243 hb; clear hb hbox hg; have hnb89 := NB247_243.out; have hnc89 := NB243_247.out; obtain ⟨hcz90_0, hcz90_1, hfz90_0, hfz90_1⟩ := bc2_ BK247) | ((with_reducible refine gate_callee (f := 35) rfl ?_); refine gla_ (some 23) Try.func35 #[.agg #[.int .i64 (-1), .int .i64 8], .int .i64 2] ?_; (with_reducible refine (num_Decimal.calls k (-1) 8 2 t248 t249 _ A3.out).mono ?_); rintro e w91 ⟨rfl, hb⟩; refine ⟨_, rfl, ?_⟩; replace BK243 := Aside0.mk (blk_below (g := gb243) (o := .cells #[.int .i64 t240, .int .i64 t241] 23 (0, 0)) (by refine bf_ ?_ NB243_247; refine bf_ ?_ NB243_247; exact bk_ BK243) hb); replace BK247 := Aside0.mk (blk_below (g := gb247) (o := .cells #[.int .i64 t244, .int .i64 t245] 23 (0, 0)) (by refine bp_ (cs := #[.int .i64 t244, .int .i64 0]) ?_ 1; refine bp_ (cs := #[.int .i64 0, .int .i64 0]) ?_ 0; exact bk_ BK247) hb); replace HB := bws_ HB hb; (try clear hb); (try clear hb2); (try clear hk); (try clear hi)) | ((with_reducible refine gate_callee (f := 39) rfl ?_); refine gla_ (some 27) Try.func39 #[.string (⟨#[49, 46, 50, 53]⟩ : ByteArray)] ?_; (with_reducible refine (num_Parse.calls k (⟨#[49, 46, 50, 53]⟩ : ByteArray) t250 t251 t252 _ A4.out).mono ?_); rintro e w92 ⟨rfl, hb⟩; refine ⟨_, rfl, ?_⟩; replace BK243 := bkb_ BK243 hb; replace BK247 := bkb_ BK247 hb; replace HB := bws_ HB hb; (try clear hb); (try clear hb2); (try clear hk); (try clear hi)) | ((with_reducible refine gate_dst (N := 7) rfl ?_); refine box_event ?hg (N := 7) ?hd (cs := #[.int .i64 0, .int .i64 0]) (t := 23) ?hr ?_; (case hd => rfl); (case hg => rfl); (case hr => first | (go_simp; done) | (go_simp; rfl)); intro gb253 hg w93 hbox hb; have BK253 := Aside0.mk hbox; have GW253 := bwg_ HB hg; have GE253 := bwg_ HB hg; replace HB := bws_ HB hb; have NB243_253 := bkl_ BK243 hg; have NB253_243 := bkr_ BK243 hg; replace BK243 := bkb_ BK243 hb; have NB247_253 := bkl_ BK247 hg; have NB253_247 := bkr_ BK247 hg; replace BK247 := bkb_ BK247 hb; clear hb hbox hg; have hnb94 := NB253_243.out; have hnc94 := NB243_253.out; have hnb95 := NB253_247.out; have hnc95 := NB247_253.out; obtain ⟨hcz96_0, hcz96_1, hfz96_0, hfz96_1⟩ := bc2_ BK253))
        go_ret
        exact ⟨by first | rfl | (simp [*] <;> rfl), bw_ HB⟩
    · rw [if_neg c6] at H
      have c6b0 : (t246 == 0) = false := beq_eq_false_iff_ne.mpr c6
      have c6b1 : (t246 != 0) = true := bne_iff_ne.mpr c6
      obtain rfl := Option.some.inj H
      go_enter Try.func17, Try.ntmps17
      go_wp2_with (first | ((with_reducible refine gate_callee (f := 18) rfl ?_); refine gla_ (some 12) Try.func18 #[.agg #[.int .i64 1, .int .i64 2], .agg #[.int .i64 1, .int .i64 3]] ?_; (with_reducible refine (num_Add.calls k 1 2 1 3 t240 t241 t242 _ A1.out).mono ?_); rintro e w97 ⟨rfl, hb⟩; refine ⟨_, rfl, ?_⟩; replace HB := bws_ HB hb; (try clear hb); (try clear hb2); (try clear hk); (try clear hi)) | ((with_reducible refine gate_dst (N := 1) rfl ?_); refine box_event ?hg (N := 1) ?hd (cs := #[.int .i64 0, .int .i64 0]) (t := 23) ?hr ?_; (case hd => rfl); (case hg => rfl); (case hr => first | (go_simp; done) | (go_simp; rfl)); intro gb243 hg w98 hbox hb; have BK243 := Aside0.mk hbox; have GW243 := bwg_ HB hg; have GE243 := bwg_ HB hg; replace HB := bws_ HB hb; clear hb hbox hg; obtain ⟨hcz99_0, hcz99_1, hfz99_0, hfz99_1⟩ := bc2_ BK243) | ((with_reducible refine gate_callee (f := 25) rfl ?_); refine gla_ (some 18) Try.func25 #[.agg #[.int .i64 1, .int .i64 3], .agg #[.int .i64 1, .int .i64 2]] ?_; (with_reducible refine (num_Simplest.calls k 1 3 1 2 t244 t245 t246 _ A2.out).mono ?_); rintro e w100 ⟨rfl, hb⟩; refine ⟨_, rfl, ?_⟩; replace BK243 := Aside0.mk (blk_below (g := gb243) (o := .cells #[.int .i64 t240, .int .i64 t241] 23 (0, 0)) (by refine bp_ (cs := #[.int .i64 t240, .int .i64 0]) ?_ 1; refine bp_ (cs := #[.int .i64 0, .int .i64 0]) ?_ 0; exact bk_ BK243) hb); replace HB := bws_ HB hb; (try clear hb); (try clear hb2); (try clear hk); (try clear hi)) | ((with_reducible refine gate_dst (N := 3) rfl ?_); refine box_event ?hg (N := 3) ?hd (cs := #[.int .i64 0, .int .i64 0]) (t := 23) ?hr ?_; (case hd => rfl); (case hg => rfl); (case hr => first | (go_simp; done) | (go_simp; rfl)); intro gb247 hg w101 hbox hb; have BK247 := Aside0.mk hbox; have GW247 := bwg_ HB hg; have GE247 := bwg_ HB hg; replace HB := bws_ HB hb; have NB243_247 := bkl_ BK243 hg; have NB247_243 := bkr_ BK243 hg; replace BK243 := bkb_ BK243 hb; clear hb hbox hg; have hnb102 := NB247_243.out; have hnc102 := NB243_247.out; obtain ⟨hcz103_0, hcz103_1, hfz103_0, hfz103_1⟩ := bc2_ BK247) | ((with_reducible refine gate_callee (f := 35) rfl ?_); refine gla_ (some 23) Try.func35 #[.agg #[.int .i64 (-1), .int .i64 8], .int .i64 2] ?_; (with_reducible refine (num_Decimal.calls k (-1) 8 2 t248 t249 _ A3.out).mono ?_); rintro e w104 ⟨rfl, hb⟩; refine ⟨_, rfl, ?_⟩; replace BK243 := Aside0.mk (blk_below (g := gb243) (o := .cells #[.int .i64 t240, .int .i64 t241] 23 (0, 0)) (by refine bf_ ?_ NB243_247; refine bf_ ?_ NB243_247; exact bk_ BK243) hb); replace BK247 := Aside0.mk (blk_below (g := gb247) (o := .cells #[.int .i64 t244, .int .i64 t245] 23 (0, 0)) (by refine bp_ (cs := #[.int .i64 t244, .int .i64 0]) ?_ 1; refine bp_ (cs := #[.int .i64 0, .int .i64 0]) ?_ 0; exact bk_ BK247) hb); replace HB := bws_ HB hb; (try clear hb); (try clear hb2); (try clear hk); (try clear hi)) | ((with_reducible refine gate_callee (f := 39) rfl ?_); refine gla_ (some 27) Try.func39 #[.string (⟨#[49, 46, 50, 53]⟩ : ByteArray)] ?_; (with_reducible refine (num_Parse.calls k (⟨#[49, 46, 50, 53]⟩ : ByteArray) t250 t251 t252 _ A4.out).mono ?_); rintro e w105 ⟨rfl, hb⟩; refine ⟨_, rfl, ?_⟩; replace BK243 := bkb_ BK243 hb; replace BK247 := bkb_ BK247 hb; replace HB := bws_ HB hb; (try clear hb); (try clear hb2); (try clear hk); (try clear hi)) | ((with_reducible refine gate_dst (N := 7) rfl ?_); refine box_event ?hg (N := 7) ?hd (cs := #[.int .i64 0, .int .i64 0]) (t := 23) ?hr ?_; (case hd => rfl); (case hg => rfl); (case hr => first | (go_simp; done) | (go_simp; rfl)); intro gb253 hg w106 hbox hb; have BK253 := Aside0.mk hbox; have GW253 := bwg_ HB hg; have GE253 := bwg_ HB hg; replace HB := bws_ HB hb; have NB243_253 := bkl_ BK243 hg; have NB253_243 := bkr_ BK243 hg; replace BK243 := bkb_ BK243 hb; have NB247_253 := bkl_ BK247 hg; have NB253_247 := bkr_ BK247 hg; replace BK247 := bkb_ BK247 hb; clear hb hbox hg; have hnb107 := NB253_243.out; have hnc107 := NB243_253.out; have hnb108 := NB253_247.out; have hnc108 := NB247_253.out; obtain ⟨hcz109_0, hcz109_1, hfz109_0, hfz109_1⟩ := bc2_ BK253))
      go_ret
      exact ⟨by first | rfl | (simp [*] <;> rfl), bw_ HB⟩
  · rw [if_neg c5] at H
    have c5b0 : (t242 == 0) = false := beq_eq_false_iff_ne.mpr c5
    have c5b1 : (t242 != 0) = true := bne_iff_ne.mpr c5
    obtain rfl := Option.some.inj H
    go_enter Try.func17, Try.ntmps17
    go_wp2_with (first | ((with_reducible refine gate_callee (f := 18) rfl ?_); refine gla_ (some 12) Try.func18 #[.agg #[.int .i64 1, .int .i64 2], .agg #[.int .i64 1, .int .i64 3]] ?_; (with_reducible refine (num_Add.calls k 1 2 1 3 t240 t241 t242 _ A1.out).mono ?_); rintro e w110 ⟨rfl, hb⟩; refine ⟨_, rfl, ?_⟩; replace HB := bws_ HB hb; (try clear hb); (try clear hb2); (try clear hk); (try clear hi)) | ((with_reducible refine gate_dst (N := 1) rfl ?_); refine box_event ?hg (N := 1) ?hd (cs := #[.int .i64 0, .int .i64 0]) (t := 23) ?hr ?_; (case hd => rfl); (case hg => rfl); (case hr => first | (go_simp; done) | (go_simp; rfl)); intro gb243 hg w111 hbox hb; have BK243 := Aside0.mk hbox; have GW243 := bwg_ HB hg; have GE243 := bwg_ HB hg; replace HB := bws_ HB hb; clear hb hbox hg; obtain ⟨hcz112_0, hcz112_1, hfz112_0, hfz112_1⟩ := bc2_ BK243) | ((with_reducible refine gate_callee (f := 25) rfl ?_); refine gla_ (some 18) Try.func25 #[.agg #[.int .i64 1, .int .i64 3], .agg #[.int .i64 1, .int .i64 2]] ?_; (with_reducible refine (num_Simplest.calls k 1 3 1 2 t244 t245 t246 _ A2.out).mono ?_); rintro e w113 ⟨rfl, hb⟩; refine ⟨_, rfl, ?_⟩; replace BK243 := Aside0.mk (blk_below (g := gb243) (o := .cells #[.int .i64 t240, .int .i64 t241] 23 (0, 0)) (by refine bp_ (cs := #[.int .i64 t240, .int .i64 0]) ?_ 1; refine bp_ (cs := #[.int .i64 0, .int .i64 0]) ?_ 0; exact bk_ BK243) hb); replace HB := bws_ HB hb; (try clear hb); (try clear hb2); (try clear hk); (try clear hi)) | ((with_reducible refine gate_dst (N := 3) rfl ?_); refine box_event ?hg (N := 3) ?hd (cs := #[.int .i64 0, .int .i64 0]) (t := 23) ?hr ?_; (case hd => rfl); (case hg => rfl); (case hr => first | (go_simp; done) | (go_simp; rfl)); intro gb247 hg w114 hbox hb; have BK247 := Aside0.mk hbox; have GW247 := bwg_ HB hg; have GE247 := bwg_ HB hg; replace HB := bws_ HB hb; have NB243_247 := bkl_ BK243 hg; have NB247_243 := bkr_ BK243 hg; replace BK243 := bkb_ BK243 hb; clear hb hbox hg; have hnb115 := NB247_243.out; have hnc115 := NB243_247.out; obtain ⟨hcz116_0, hcz116_1, hfz116_0, hfz116_1⟩ := bc2_ BK247) | ((with_reducible refine gate_callee (f := 35) rfl ?_); refine gla_ (some 23) Try.func35 #[.agg #[.int .i64 (-1), .int .i64 8], .int .i64 2] ?_; (with_reducible refine (num_Decimal.calls k (-1) 8 2 t248 t249 _ A3.out).mono ?_); rintro e w117 ⟨rfl, hb⟩; refine ⟨_, rfl, ?_⟩; replace BK243 := Aside0.mk (blk_below (g := gb243) (o := .cells #[.int .i64 t240, .int .i64 t241] 23 (0, 0)) (by refine bf_ ?_ NB243_247; refine bf_ ?_ NB243_247; exact bk_ BK243) hb); replace BK247 := Aside0.mk (blk_below (g := gb247) (o := .cells #[.int .i64 t244, .int .i64 t245] 23 (0, 0)) (by refine bp_ (cs := #[.int .i64 t244, .int .i64 0]) ?_ 1; refine bp_ (cs := #[.int .i64 0, .int .i64 0]) ?_ 0; exact bk_ BK247) hb); replace HB := bws_ HB hb; (try clear hb); (try clear hb2); (try clear hk); (try clear hi)) | ((with_reducible refine gate_callee (f := 39) rfl ?_); refine gla_ (some 27) Try.func39 #[.string (⟨#[49, 46, 50, 53]⟩ : ByteArray)] ?_; (with_reducible refine (num_Parse.calls k (⟨#[49, 46, 50, 53]⟩ : ByteArray) t250 t251 t252 _ A4.out).mono ?_); rintro e w118 ⟨rfl, hb⟩; refine ⟨_, rfl, ?_⟩; replace BK243 := bkb_ BK243 hb; replace BK247 := bkb_ BK247 hb; replace HB := bws_ HB hb; (try clear hb); (try clear hb2); (try clear hk); (try clear hi)) | ((with_reducible refine gate_dst (N := 7) rfl ?_); refine box_event ?hg (N := 7) ?hd (cs := #[.int .i64 0, .int .i64 0]) (t := 23) ?hr ?_; (case hd => rfl); (case hg => rfl); (case hr => first | (go_simp; done) | (go_simp; rfl)); intro gb253 hg w119 hbox hb; have BK253 := Aside0.mk hbox; have GW253 := bwg_ HB hg; have GE253 := bwg_ HB hg; replace HB := bws_ HB hb; have NB243_253 := bkl_ BK243 hg; have NB253_243 := bkr_ BK243 hg; replace BK243 := bkb_ BK243 hb; have NB247_253 := bkl_ BK247 hg; have NB253_247 := bkr_ BK247 hg; replace BK247 := bkb_ BK247 hb; clear hb hbox hg; have hnb120 := NB253_243.out; have hnc120 := NB243_253.out; have hnb121 := NB253_247.out; have hnc121 := NB247_253.out; obtain ⟨hcz122_0, hcz122_1, hfz122_0, hfz122_1⟩ := bc2_ BK253))
    go_ret
    exact ⟨by first | rfl | (simp [*] <;> rfl), bw_ HB⟩
/-! ### withyref01_Alike: function 62 -/
def withyref01_Alike.l0 : Nat → List Int → List Int → Int → Option (Bool)
  | 0, _, _, _ => none
  | k + 1, x0, x1, x5 => if x5 < (x0.length : Int) then (if 0 ≤ x5 then (if x5 < (x1.length : Int) then (if (rd x0 x5) = (rd x1 x5) then (withyref01_Alike.l0 k x0 x1 (wrap64 (x5 + 1))) else (some false)) else (none)) else (none)) else (some true)
def withyref01_Alike.f (k : Nat) (l0 : List Int) (l1 : List Int) : Option (Bool) := if (l0.length : Int) = (l1.length : Int) then (withyref01_Alike.l0 k l0 l1 0) else (some false)
theorem withyref01_Alike.mono_l : ∀ k, (∀ y0 y1 y2, LeO (withyref01_Alike.l0 k y0 y1 y2) (withyref01_Alike.l0 (k + 1) y0 y1 y2))
  | 0 => fun _ _ _ r h => by simp [withyref01_Alike.l0] at h
  | k + 1 => by
    have ih0 := withyref01_Alike.mono_l k
    · intro y0 y1 y2
      unfold withyref01_Alike.l0
      repeat' first
      | (with_reducible exact ih0 _ _ _)
      | (with_reducible exact LeO.refl _)
      | (with_reducible exact LeO.none _)
      | (with_reducible refine LeO.ite ?_ ?_)
      | (with_reducible refine LeO.bind ?_ (fun _ => ?_))
      | (with_reducible refine LeO.exc (fun _ => ?_) (fun _ => ?_))
      | exact ih0 _ _ _
      | exact LeO.none _
      | refine LeO.ite ?_ ?_
      | refine LeO.bind ?_ (fun _ => ?_)
theorem withyref01_Alike.mono : ∀ a0 a1 k, LeO (withyref01_Alike.f k a0 a1) (withyref01_Alike.f (k + 1) a0 a1) := by
  intro a0 a1 k
  have ih0 := withyref01_Alike.mono_l k
  unfold withyref01_Alike.f
  repeat' first
      | (with_reducible exact ih0 _ _ _)
      | (with_reducible exact LeO.refl _)
      | (with_reducible exact LeO.none _)
      | (with_reducible refine LeO.ite ?_ ?_)
      | (with_reducible refine LeO.bind ?_ (fun _ => ?_))
      | (with_reducible refine LeO.exc (fun _ => ?_) (fun _ => ?_))
      | exact ih0 _ _ _
      | exact LeO.none _
      | refine LeO.ite ?_ ?_
      | refine LeO.bind ?_ (fun _ => ?_)
set_option maxHeartbeats 8000000 in
set_option maxRecDepth 100000 in
theorem withyref01_Alike.calls (k : Nat) (A0 : Option Addr) (c0 : Nat) (l0 : List Int) (A1 : Option Addr) (c1 : Nat) (l1 : List Int) (r : Bool) (w : World) (hr0 : Kd.C (Kd.int .i64) w A0 l0.length l0) (hc0 : l0.length ≤ c0) (hr1 : Kd.C (Kd.int .i64) w A1 l1.length l1) (hc1 : l1.length ≤ c1) (h : withyref01_Alike.f k l0 l1 = some r) :
    Calls Try.prog 62 #[.slice A0 l0.length c0, .slice A1 l1.length c1] w fun e w' => e = .returned (.bool r) ∧ Drawn0 w w' := by
  have HR0 := Aside0.mk hr0
  have HC0 := Aside0.mk hc0
  clear hr0 hc0
  have HR1 := Aside0.mk hr1
  have HC1 := Aside0.mk hc1
  clear hr1 hc1
  have H : (if (l0.length : Int) = (l1.length : Int) then (withyref01_Alike.l0 k l0 l1 0) else (some false)) = some r := h
  clear h
  by_cases c3 : (l0.length : Int) = (l1.length : Int)
  · rw [if_pos c3] at H
    have c3b0 : ((l0.length : Int) == (l1.length : Int)) = true := beq_iff_eq.mpr c3
    have c3b1 : ((l0.length : Int) != (l1.length : Int)) = false := bne_eq_false_iff_eq.mpr c3
    have c3b2 : (l0.length == l1.length) = true := by first | simpa using c3 | (simp at c3 ⊢; omega)
    clear c3
    have H' := Aside0.mk H
    clear H
    go_enter Try.func62, Try.ntmps62
    go_wp2
    repeat (go_quiet (fail); try go_wp2)
    go_loopg [5] k (fun kq v5 w' => ∃ (x5_1 : Int), v5 = .int .i64 x5_1 ∧ Aside0 (withyref01_Alike.l0 kq l0 l1 x5_1 = some r) ∧ Aside0 (kq ≤ k) ∧ Drawn0 w w')
    case atStart => exact ⟨(0), (by first | rfl | (simp; done) | (simp [*]; done)), H', ⟨Nat.le_refl _⟩, by repeat (first | exact Drawn0.refl _ | apply Drawn0.step)⟩
    case round =>
      clear H'
      try clear c1
      try clear p2
      try clear c3
      try clear c3b0
      try clear c3b1
      try clear c3b2
      obtain ⟨x5_1, rfl, HA, HK1, ⟨m1, rfl⟩⟩ := hrel
      cases gk with
      | zero => exact absurd HA.out (by simp [withyref01_Alike.l0])
      | succ k1 =>
        have H := HA.out
        clear HA
        simp only [withyref01_Alike.l0] at H
        by_cases c4 : x5_1 < (l0.length : Int)
        · rw [if_pos c4] at H
          have c4b0 : decide (x5_1 < (l0.length : Int)) = true := decide_eq_true c4
          clear c4
          by_cases c5 : 0 ≤ x5_1
          · rw [if_pos c5] at H
            have c5b0 : decide (0 ≤ x5_1) = true := decide_eq_true c5
            clear c5
            by_cases c6 : x5_1 < (l1.length : Int)
            · rw [if_pos c6] at H
              have c6b0 : decide (x5_1 < (l1.length : Int)) = true := decide_eq_true c6
              clear c6
              by_cases c7 : (rd l0 x5_1) = (rd l1 x5_1)
              · rw [if_pos c7] at H
                have c7b0 : ((rd l0 x5_1) == (rd l1 x5_1)) = true := beq_iff_eq.mpr c7
                have c7b1 : ((rd l0 x5_1) != (rd l1 x5_1)) = false := bne_eq_false_iff_eq.mpr c7
                clear c7
                have H' := Aside0.mk H
                clear H
                have p928 : 0 ≤ (x5_1 : Int) := of_decide_eq_true (by first | (with_reducible assumption) | assumption)
                have q928 : x5_1 < (l0.length : Int) := of_decide_eq_true (by first | (with_reducible assumption) | assumption)
                obtain ⟨ad928, e928, hx928_0⟩ := Kd.at_int HR0.out x5_1 p928 q928
                cases e928
                replace p928 := eq_true p928
                replace q928 := eq_true q928
                have p929 : 0 ≤ (x5_1 : Int) := of_decide_eq_true (by first | (with_reducible assumption) | assumption)
                have q929 : x5_1 < (l1.length : Int) := of_decide_eq_true (by first | (with_reducible assumption) | assumption)
                obtain ⟨ad929, e929, hx929_0⟩ := Kd.at_int HR1.out x5_1 p929 q929
                cases e929
                replace p929 := eq_true p929
                replace q929 := eq_true q929
                go_wp2
                repeat (go_quiet (fail); try go_wp2)
                go_roundg k1
                case measure => have := HK1.out; omega
                case rel => exact ⟨(wrap64 (x5_1 + 1)), (by first | rfl | (simp; done) | (simp [*]; done)), H', ⟨by have := HK1.out; omega⟩, by repeat (first | exact Drawn0.refl _ | apply Drawn0.step)⟩
              · rw [if_neg c7] at H
                have c7b0 : ((rd l0 x5_1) == (rd l1 x5_1)) = false := beq_eq_false_iff_ne.mpr c7
                have c7b1 : ((rd l0 x5_1) != (rd l1 x5_1)) = true := bne_iff_ne.mpr c7
                obtain rfl := Option.some.inj H
                have p928 : 0 ≤ (x5_1 : Int) := of_decide_eq_true (by first | (with_reducible assumption) | assumption)
                have q928 : x5_1 < (l0.length : Int) := of_decide_eq_true (by first | (with_reducible assumption) | assumption)
                obtain ⟨ad928, e928, hx928_0⟩ := Kd.at_int HR0.out x5_1 p928 q928
                cases e928
                replace p928 := eq_true p928
                replace q928 := eq_true q928
                have p929 : 0 ≤ (x5_1 : Int) := of_decide_eq_true (by first | (with_reducible assumption) | assumption)
                have q929 : x5_1 < (l1.length : Int) := of_decide_eq_true (by first | (with_reducible assumption) | assumption)
                obtain ⟨ad929, e929, hx929_0⟩ := Kd.at_int HR1.out x5_1 p929 q929
                cases e929
                replace p929 := eq_true p929
                replace q929 := eq_true q929
                go_wp2
                repeat (go_quiet (fail); try go_wp2)
                go_ret
                exact ⟨by first | rfl | (simp; done) | (simp [*]; done), by repeat (first | exact Drawn0.refl _ | apply Drawn0.step)⟩
            · rw [if_neg c6] at H
              exact absurd H (by simp)
          · rw [if_neg c5] at H
            exact absurd H (by simp)
        · rw [if_neg c4] at H
          have c4b0 : decide (x5_1 < (l0.length : Int)) = false := decide_eq_false c4
          clear c4
          obtain rfl := Option.some.inj H
          go_wp2
          repeat (go_quiet (fail); try go_wp2)
          go_ret
          exact ⟨by first | rfl | (simp; done) | (simp [*]; done), by repeat (first | exact Drawn0.refl _ | apply Drawn0.step)⟩
  · rw [if_neg c3] at H
    have c3b0 : ((l0.length : Int) == (l1.length : Int)) = false := beq_eq_false_iff_ne.mpr c3
    have c3b1 : ((l0.length : Int) != (l1.length : Int)) = true := bne_iff_ne.mpr c3
    have c3b2 : (l0.length == l1.length) = false := by first | simpa using c3 | (simp at c3 ⊢; omega)
    obtain rfl := Option.some.inj H
    go_enter Try.func62, Try.ntmps62
    go_wp2
    repeat (go_quiet (fail); try go_wp2)
    go_ret
    exact ⟨by first | rfl | (simp; done) | (simp [*]; done), by repeat (first | exact Drawn0.refl _ | apply Drawn0.step)⟩
/-! ### withylaw01_NumUnique: function 14 -/
def withylaw01_NumUnique.j0 : Nat → List Int → Option (Bool)
  | 0, _ => none
  | k + 1, x1 => (num_Of.f k x1).bind fun bt941 => (if bt941.2.2 = 0 then ((num_Terms.f k bt941.1 bt941.2.1).bind fun bt945 => (if bt945.2 = 0 then ((withyref01_Alike.f k bt945.1 x1).bind fun t949 => (if t949 = true then ((withylaw01_summed.f k).bind fun t950 => (some t950)) else (some false))) else (some false))) else (if (bt941.1 == 0 && (bt941.2.1 == 0)) = true then ((withylaw01_summed.f k).bind fun t951 => (some t951)) else (some false)))
def withylaw01_NumUnique.f (k : Nat) (a0_0 : Int) (a0_1 : Int) (l1 : List Int) : Option (Bool) := if (l1.length : Int) > 60 then ((withylaw01_summed.f k).bind fun t931 => (some t931)) else ((withyref01_Check.f k a0_0 a0_1).bind fun t932 => (if t932 = 0 then ((num_Terms.f k a0_0 a0_1).bind fun bt933 => ((num_Of.f k bt933.1).bind fun bt937 => (if bt933.2 = 0 then (if bt937.2.2 = 0 then (if (!(bt937.1 == a0_0) || (!(bt937.2.1 == a0_1))) = true then (some false) else (withylaw01_NumUnique.j0 k l1)) else (some false)) else (some false)))) else (withylaw01_NumUnique.j0 k l1)))
theorem withylaw01_NumUnique.mono_l : ∀ k, (∀ y0, LeO (withylaw01_NumUnique.j0 k y0) (withylaw01_NumUnique.j0 (k + 1) y0))
  | 0 => fun _ r h => by simp [withylaw01_NumUnique.j0] at h
  | k + 1 => by
    have ih0 := withylaw01_NumUnique.mono_l k
    · intro y0
      unfold withylaw01_NumUnique.j0
      repeat' first
      | (with_reducible exact ih0 _)
      | (with_reducible exact num_Of.mono _ _)
      | (with_reducible exact num_Terms.mono _ _ _)
      | (with_reducible exact withylaw01_summed.mono _)
      | (with_reducible exact withyref01_Alike.mono _ _ _)
      | (with_reducible exact withyref01_Check.mono _ _ _)
      | (with_reducible exact LeO.refl _)
      | (with_reducible exact LeO.none _)
      | (with_reducible refine LeO.ite ?_ ?_)
      | (with_reducible refine LeO.bind ?_ (fun _ => ?_))
      | (with_reducible refine LeO.exc (fun _ => ?_) (fun _ => ?_))
      | exact ih0 _
      | exact num_Of.mono _ _
      | exact num_Terms.mono _ _ _
      | exact withylaw01_summed.mono _
      | exact withyref01_Alike.mono _ _ _
      | exact withyref01_Check.mono _ _ _
      | exact LeO.none _
      | refine LeO.ite ?_ ?_
      | refine LeO.bind ?_ (fun _ => ?_)
theorem withylaw01_NumUnique.mono : ∀ a0 a1 a2 k, LeO (withylaw01_NumUnique.f k a0 a1 a2) (withylaw01_NumUnique.f (k + 1) a0 a1 a2) := by
  intro a0 a1 a2 k
  have ih0 := withylaw01_NumUnique.mono_l k
  unfold withylaw01_NumUnique.f
  repeat' first
      | (with_reducible exact ih0 _)
      | (with_reducible exact num_Of.mono _ _)
      | (with_reducible exact num_Terms.mono _ _ _)
      | (with_reducible exact withylaw01_summed.mono _)
      | (with_reducible exact withyref01_Alike.mono _ _ _)
      | (with_reducible exact withyref01_Check.mono _ _ _)
      | (with_reducible exact LeO.refl _)
      | (with_reducible exact LeO.none _)
      | (with_reducible refine LeO.ite ?_ ?_)
      | (with_reducible refine LeO.bind ?_ (fun _ => ?_))
      | (with_reducible refine LeO.exc (fun _ => ?_) (fun _ => ?_))
      | exact ih0 _
      | exact num_Of.mono _ _
      | exact num_Terms.mono _ _ _
      | exact withylaw01_summed.mono _
      | exact withyref01_Alike.mono _ _ _
      | exact withyref01_Check.mono _ _ _
      | exact LeO.none _
      | refine LeO.ite ?_ ?_
      | refine LeO.bind ?_ (fun _ => ?_)
set_option maxHeartbeats 8000000 in
set_option maxRecDepth 100000 in
theorem withylaw01_NumUnique.calls (k : Nat) (a0_0 : Int) (a0_1 : Int) (A1 : Option Addr) (c1 : Nat) (l1 : List Int) (r : Bool) (w : World) (hr1 : Kd.C (Kd.int .i64) w A1 l1.length l1) (hc1 : l1.length ≤ c1) (h : withylaw01_NumUnique.f k a0_0 a0_1 l1 = some r) :
    Calls Try.prog 14 #[.agg #[.int .i64 a0_0, .int .i64 a0_1], .slice A1 l1.length c1] w fun e w' => e = .returned (.bool r) ∧ Below w.heap.size w w' := by
  have hu23 := Try.underlying23
  have HR1 := Aside0.mk hr1
  have HC1 := Aside0.mk hc1
  clear hr1 hc1
  have HB := Aside0.mk (Below.refl w.heap.size w)
  have H : (if (l1.length : Int) > 60 then ((withylaw01_summed.f k).bind fun t931 => (some t931)) else ((withyref01_Check.f k a0_0 a0_1).bind fun t932 => (if t932 = 0 then ((num_Terms.f k a0_0 a0_1).bind fun bt933 => ((num_Of.f k bt933.1).bind fun bt937 => (if bt933.2 = 0 then (if bt937.2.2 = 0 then (if (!(bt937.1 == a0_0) || (!(bt937.2.1 == a0_1))) = true then (some false) else (withylaw01_NumUnique.j0 k l1)) else (some false)) else (some false)))) else (withylaw01_NumUnique.j0 k l1)))) = some r := h
  clear h
  by_cases c3 : (l1.length : Int) > 60
  · rw [if_pos c3] at H
    have c3b0 : decide (60 < (l1.length : Int)) = true := decide_eq_true c3
    have c3b1 : decide (60 < l1.length) = true := decide_eq_true (by omega)
    clear c3
    replace H := Option.bind_eq_some_iff.mp H
    obtain ⟨t931, A40, H⟩ := H
    replace H : (some t931) = some r := H
    have A4 := Aside0.mk A40
    clear A40
    obtain rfl := Option.some.inj H
    go_enter Try.func14, Try.ntmps14
    go_wp2_with (first | ((with_reducible refine gate_dst (N := 2) rfl ?_); refine box_event ?hg (N := 2) ?hd (cs := #[.int .i64 a0_0, .int .i64 a0_1]) (t := 23) ?hr ?_; (case hd => rfl); (case hg => rfl); (case hr => first | (go_simp; done) | (go_simp; rfl)); intro gb930 hg w5 hbox hb; have BK930 := Aside0.mk hbox; have GW930 := bwg_ HB hg; have GE930 := bwg_ HB hg; replace HB := bws_ HB hb; clear hb hbox hg) | ((with_reducible refine gate_callee (f := 17) rfl ?_); refine gla_ (some 16) Try.func17 #[] ?_; (with_reducible refine (withylaw01_summed.calls k  t931 _ A4.out).mono ?_); rintro e w6 ⟨rfl, hb⟩; refine ⟨_, rfl, ?_⟩; replace BK930 := bkb_ BK930 hb; replace HB := bws_ HB hb; (try clear hb); (try clear hb2); (try clear hk); (try clear hi)))
    go_ret
    exact ⟨by first | rfl | (simp [*] <;> rfl), bw_ HB⟩
  · rw [if_neg c3] at H
    have c3b0 : decide (60 < (l1.length : Int)) = false := decide_eq_false c3
    have c3b1 : decide (60 < l1.length) = false := decide_eq_false (by omega)
    clear c3
    replace H := Option.bind_eq_some_iff.mp H
    obtain ⟨t932, A70, H⟩ := H
    replace H : (if t932 = 0 then ((num_Terms.f k a0_0 a0_1).bind fun bt933 => ((num_Of.f k bt933.1).bind fun bt937 => (if bt933.2 = 0 then (if bt937.2.2 = 0 then (if (!(bt937.1 == a0_0) || (!(bt937.2.1 == a0_1))) = true then (some false) else (withylaw01_NumUnique.j0 k l1)) else (some false)) else (some false)))) else (withylaw01_NumUnique.j0 k l1)) = some r := H
    have A7 := Aside0.mk A70
    clear A70
    have HC8 := Aside0.mk H
    clear H
    go_enter Try.func14, Try.ntmps14
    go_upto_if 19 with (first | ((with_reducible refine gate_dst (N := 2) rfl ?_); refine box_event ?hg (N := 2) ?hd (cs := #[.int .i64 a0_0, .int .i64 a0_1]) (t := 23) ?hr ?_; (case hd => rfl); (case hg => rfl); (case hr => first | (go_simp; done) | (go_simp; rfl)); intro gb930 hg w9 hbox hb; have BK930 := Aside0.mk hbox; have GW930 := bwg_ HB hg; have GE930 := bwg_ HB hg; replace HB := bws_ HB hb; clear hb hbox hg; obtain ⟨hcz10_0, hcz10_1, hfz10_0, hfz10_1⟩ := bc2_ BK930) | ((with_reducible refine gate_callee (f := 41) rfl ?_); refine gla_ (some 18) Try.func41 #[.agg #[.int .i64 a0_0, .int .i64 a0_1]] ?_; (with_reducible refine (withyref01_Check.calls k a0_0 a0_1 t932 _ A7.out).mono ?_); rintro e w11 ⟨rfl, hb⟩; refine ⟨_, rfl, ?_⟩; replace BK930 := bkb_ BK930 hb; replace HB := bws_ HB hb; (try clear hb); (try clear hb2); (try clear hk); (try clear hi)))
    (try simp only [Act.put, List.setIfInBounds_toArray, List.set_cons_zero, List.set_cons_succ])
    go_cut [] (fun wc => ∃ (kq : Nat), Aside0 (withylaw01_NumUnique.j0 kq l1 = some r) ∧ Aside0 (kq ≤ k) ∧ Aside0 (wc.heap[gb930]? = some (.cells #[.int .i64 a0_0, .int .i64 a0_1] 23 (0, 0))) ∧ Aside0 (Below w.heap.size w wc))
    case first =>
      have H := HC8.out
      clear HC8
      by_cases c12 : t932 = 0
      · rw [if_pos c12] at H
        have c12b0 : (t932 == 0) = true := beq_iff_eq.mpr c12
        have c12b1 : (t932 != 0) = false := bne_eq_false_iff_eq.mpr c12
        clear c12
        (first | rw [c12b0] | (simp only [i64_w, i32_w]; rw [c12b0]) | skip)
        replace H := Option.bind_eq_some_iff.mp H
        obtain ⟨⟨t933, t936⟩, A130, H⟩ := H
        replace H : ((num_Of.f k t933).bind fun bt937 => (if t936 = 0 then (if bt937.2.2 = 0 then (if (!(bt937.1 == a0_0) || (!(bt937.2.1 == a0_1))) = true then (some false) else (withylaw01_NumUnique.j0 k l1)) else (some false)) else (some false))) = some r := H
        have A13 := Aside0.mk A130
        clear A130
        replace H := Option.bind_eq_some_iff.mp H
        obtain ⟨⟨t937, t938, t939⟩, A140, H⟩ := H
        replace H : (if t936 = 0 then (if t939 = 0 then (if (!(t937 == a0_0) || (!(t938 == a0_1))) = true then (some false) else (withylaw01_NumUnique.j0 k l1)) else (some false)) else (some false)) = some r := H
        have A14 := Aside0.mk A140
        clear A140
        by_cases c15 : t936 = 0
        · rw [if_pos c15] at H
          have c15b0 : (t936 == 0) = true := beq_iff_eq.mpr c15
          have c15b1 : (t936 != 0) = false := bne_eq_false_iff_eq.mpr c15
          clear c15
          by_cases c16 : t939 = 0
          · rw [if_pos c16] at H
            have c16b0 : (t939 == 0) = true := beq_iff_eq.mpr c16
            have c16b1 : (t939 != 0) = false := bne_eq_false_iff_eq.mpr c16
            clear c16
            by_cases c17 : (!(t937 == a0_0) || (!(t938 == a0_1))) = true
            · rw [if_pos c17] at H
              have c17b0 : (!(t937 == a0_0) || (!(t938 == a0_1))) = true := c17
              clear c17
              obtain rfl := Option.some.inj H
              obtain ⟨hcz18_0, hcz18_1, hfz18_0, hfz18_1⟩ := bc2_ BK930
              go_wp2_with (first | ((with_reducible refine gate_callee (f := 60) rfl ?_); refine gla_ (some 22) Try.func60 #[.agg #[.int .i64 a0_0, .int .i64 a0_1]] ?_; (with_reducible refine (num_Terms.calls k a0_0 a0_1 t933 t936 _ A13.out).mono ?_); rintro e w19 ⟨v934, rfl, ho0, hb⟩; refine ⟨_, rfl, ?_⟩; have HO935 := Aside0.mk (Kd.R_lower ho0 (below_size (bw_ HB))); replace BK930 := bkb_ BK930 hb; replace HB := bws_ HB hb; (try clear hb); (try clear hb2); (try clear hk); (try clear hi); (try clear ho0); obtain ⟨Ao20, co20, eo20⟩ := Kd.R_slice HO935.out; subst eo20) | ((with_reducible refine gate_callee (f := 61) rfl ?_); refine gla_ (some 27) Try.func61 #[.slice Ao20 t933.length co20] ?_; (with_reducible refine (num_Of.calls k _ _ t933 t937 t938 t939 _ ?side1 ?side2 A14.out).mono ?_); (case side1 => repeat (first | exact (Kd.R_reads' HO935.out).2.2 | (with_reducible refine Kd.C_alloc ?_ _) | (with_reducible refine Kd.C_drewN ?_ _) | (with_reducible refine Kd.C_drew ?_))); (case side2 => exact (Kd.R_reads' HO935.out).2.1); rintro e w21 ⟨rfl, hb⟩; refine ⟨_, rfl, ?_⟩; replace HO935 := Aside0.mk (Kd.R_below (by (with_reducible repeat (first | apply Kd.R_alloc | apply Kd.R_drewN | apply Kd.R_drew)); exact HO935.out) hb); replace BK930 := bkb_ BK930 hb; replace HB := bws_ HB hb; (try clear hb); (try clear hb2); (try clear hk); (try clear hi)) | ((with_reducible refine gate_dst (N := 7) rfl ?_); refine box_event ?hg (N := 7) ?hd (cs := #[.int .i64 0, .int .i64 0]) (t := 23) ?hr ?_; (case hd => rfl); (case hg => rfl); (case hr => first | (go_simp; done) | (go_simp; rfl)); intro gb940 hg w22 hbox hb; replace HO935 := Aside0.mk (Kd.R_below (by (with_reducible repeat (first | apply Kd.R_alloc | apply Kd.R_drewN | apply Kd.R_drew)); exact HO935.out) hb); have BK940 := Aside0.mk hbox; have GW940 := bwg_ HB hg; have GE940 := bwg_ HB hg; replace HB := bws_ HB hb; have NB930_940 := bkl_ BK930 hg; have NB940_930 := bkr_ BK930 hg; replace BK930 := bkb_ BK930 hb; clear hb hbox hg; have hnb23 := NB940_930.out; have hnc23 := NB930_940.out; obtain ⟨hcz24_0, hcz24_1, hfz24_0, hfz24_1⟩ := bc2_ BK940; obtain ⟨hcz25_0, hcz25_1, hfz25_0, hfz25_1⟩ := bc2_ BK930))
              go_ret
              exact ⟨by first | rfl | (simp [*] <;> rfl), bw_ HB⟩
            · rw [if_neg c17] at H
              have c17b0 : (!(t937 == a0_0) || (!(t938 == a0_1))) = false := by simpa using c17
              clear c17
              have H' := Aside0.mk H
              clear H
              obtain ⟨hcz26_0, hcz26_1, hfz26_0, hfz26_1⟩ := bc2_ BK930
              go_wp2_with (first | ((with_reducible refine gate_callee (f := 60) rfl ?_); refine gla_ (some 22) Try.func60 #[.agg #[.int .i64 a0_0, .int .i64 a0_1]] ?_; (with_reducible refine (num_Terms.calls k a0_0 a0_1 t933 t936 _ A13.out).mono ?_); rintro e w27 ⟨v934, rfl, ho0, hb⟩; refine ⟨_, rfl, ?_⟩; have HO935 := Aside0.mk (Kd.R_lower ho0 (below_size (bw_ HB))); replace BK930 := bkb_ BK930 hb; replace HB := bws_ HB hb; (try clear hb); (try clear hb2); (try clear hk); (try clear hi); (try clear ho0); obtain ⟨Ao28, co28, eo28⟩ := Kd.R_slice HO935.out; subst eo28) | ((with_reducible refine gate_callee (f := 61) rfl ?_); refine gla_ (some 27) Try.func61 #[.slice Ao28 t933.length co28] ?_; (with_reducible refine (num_Of.calls k _ _ t933 t937 t938 t939 _ ?side1 ?side2 A14.out).mono ?_); (case side1 => repeat (first | exact (Kd.R_reads' HO935.out).2.2 | (with_reducible refine Kd.C_alloc ?_ _) | (with_reducible refine Kd.C_drewN ?_ _) | (with_reducible refine Kd.C_drew ?_))); (case side2 => exact (Kd.R_reads' HO935.out).2.1); rintro e w29 ⟨rfl, hb⟩; refine ⟨_, rfl, ?_⟩; replace HO935 := Aside0.mk (Kd.R_below (by (with_reducible repeat (first | apply Kd.R_alloc | apply Kd.R_drewN | apply Kd.R_drew)); exact HO935.out) hb); replace BK930 := bkb_ BK930 hb; replace HB := bws_ HB hb; (try clear hb); (try clear hb2); (try clear hk); (try clear hi)) | ((with_reducible refine gate_dst (N := 7) rfl ?_); refine box_event ?hg (N := 7) ?hd (cs := #[.int .i64 0, .int .i64 0]) (t := 23) ?hr ?_; (case hd => rfl); (case hg => rfl); (case hr => first | (go_simp; done) | (go_simp; rfl)); intro gb940 hg w30 hbox hb; replace HO935 := Aside0.mk (Kd.R_below (by (with_reducible repeat (first | apply Kd.R_alloc | apply Kd.R_drewN | apply Kd.R_drew)); exact HO935.out) hb); have BK940 := Aside0.mk hbox; have GW940 := bwg_ HB hg; have GE940 := bwg_ HB hg; replace HB := bws_ HB hb; have NB930_940 := bkl_ BK930 hg; have NB940_930 := bkr_ BK930 hg; replace BK930 := bkb_ BK930 hb; clear hb hbox hg; have hnb31 := NB940_930.out; have hnc31 := NB930_940.out; obtain ⟨hcz32_0, hcz32_1, hfz32_0, hfz32_1⟩ := bc2_ BK940; obtain ⟨hcz33_0, hcz33_1, hfz33_0, hfz33_1⟩ := bc2_ BK930))
              go_meet
              case rel => exact ⟨_, H', ⟨by first | omega | exact Nat.le_refl _⟩, ⟨by refine bf_ ?_ NB930_940; refine bf_ ?_ NB930_940; exact bk_ BK930⟩, ⟨bw_ HB⟩⟩
          · rw [if_neg c16] at H
            have c16b0 : (t939 == 0) = false := beq_eq_false_iff_ne.mpr c16
            have c16b1 : (t939 != 0) = true := bne_iff_ne.mpr c16
            obtain rfl := Option.some.inj H
            obtain ⟨hcz34_0, hcz34_1, hfz34_0, hfz34_1⟩ := bc2_ BK930
            go_wp2_with (first | ((with_reducible refine gate_callee (f := 60) rfl ?_); refine gla_ (some 22) Try.func60 #[.agg #[.int .i64 a0_0, .int .i64 a0_1]] ?_; (with_reducible refine (num_Terms.calls k a0_0 a0_1 t933 t936 _ A13.out).mono ?_); rintro e w35 ⟨v934, rfl, ho0, hb⟩; refine ⟨_, rfl, ?_⟩; have HO935 := Aside0.mk (Kd.R_lower ho0 (below_size (bw_ HB))); replace BK930 := bkb_ BK930 hb; replace HB := bws_ HB hb; (try clear hb); (try clear hb2); (try clear hk); (try clear hi); (try clear ho0); obtain ⟨Ao36, co36, eo36⟩ := Kd.R_slice HO935.out; subst eo36) | ((with_reducible refine gate_callee (f := 61) rfl ?_); refine gla_ (some 27) Try.func61 #[.slice Ao36 t933.length co36] ?_; (with_reducible refine (num_Of.calls k _ _ t933 t937 t938 t939 _ ?side1 ?side2 A14.out).mono ?_); (case side1 => repeat (first | exact (Kd.R_reads' HO935.out).2.2 | (with_reducible refine Kd.C_alloc ?_ _) | (with_reducible refine Kd.C_drewN ?_ _) | (with_reducible refine Kd.C_drew ?_))); (case side2 => exact (Kd.R_reads' HO935.out).2.1); rintro e w37 ⟨rfl, hb⟩; refine ⟨_, rfl, ?_⟩; replace HO935 := Aside0.mk (Kd.R_below (by (with_reducible repeat (first | apply Kd.R_alloc | apply Kd.R_drewN | apply Kd.R_drew)); exact HO935.out) hb); replace BK930 := bkb_ BK930 hb; replace HB := bws_ HB hb; (try clear hb); (try clear hb2); (try clear hk); (try clear hi)) | ((with_reducible refine gate_dst (N := 7) rfl ?_); refine box_event ?hg (N := 7) ?hd (cs := #[.int .i64 0, .int .i64 0]) (t := 23) ?hr ?_; (case hd => rfl); (case hg => rfl); (case hr => first | (go_simp; done) | (go_simp; rfl)); intro gb940 hg w38 hbox hb; replace HO935 := Aside0.mk (Kd.R_below (by (with_reducible repeat (first | apply Kd.R_alloc | apply Kd.R_drewN | apply Kd.R_drew)); exact HO935.out) hb); have BK940 := Aside0.mk hbox; have GW940 := bwg_ HB hg; have GE940 := bwg_ HB hg; replace HB := bws_ HB hb; have NB930_940 := bkl_ BK930 hg; have NB940_930 := bkr_ BK930 hg; replace BK930 := bkb_ BK930 hb; clear hb hbox hg; have hnb39 := NB940_930.out; have hnc39 := NB930_940.out; obtain ⟨hcz40_0, hcz40_1, hfz40_0, hfz40_1⟩ := bc2_ BK940))
            go_ret
            exact ⟨by first | rfl | (simp [*] <;> rfl), bw_ HB⟩
        · rw [if_neg c15] at H
          have c15b0 : (t936 == 0) = false := beq_eq_false_iff_ne.mpr c15
          have c15b1 : (t936 != 0) = true := bne_iff_ne.mpr c15
          obtain rfl := Option.some.inj H
          obtain ⟨hcz41_0, hcz41_1, hfz41_0, hfz41_1⟩ := bc2_ BK930
          go_wp2_with (first | ((with_reducible refine gate_callee (f := 60) rfl ?_); refine gla_ (some 22) Try.func60 #[.agg #[.int .i64 a0_0, .int .i64 a0_1]] ?_; (with_reducible refine (num_Terms.calls k a0_0 a0_1 t933 t936 _ A13.out).mono ?_); rintro e w42 ⟨v934, rfl, ho0, hb⟩; refine ⟨_, rfl, ?_⟩; have HO935 := Aside0.mk (Kd.R_lower ho0 (below_size (bw_ HB))); replace BK930 := bkb_ BK930 hb; replace HB := bws_ HB hb; (try clear hb); (try clear hb2); (try clear hk); (try clear hi); (try clear ho0); obtain ⟨Ao43, co43, eo43⟩ := Kd.R_slice HO935.out; subst eo43) | ((with_reducible refine gate_callee (f := 61) rfl ?_); refine gla_ (some 27) Try.func61 #[.slice Ao43 t933.length co43] ?_; (with_reducible refine (num_Of.calls k _ _ t933 t937 t938 t939 _ ?side1 ?side2 A14.out).mono ?_); (case side1 => repeat (first | exact (Kd.R_reads' HO935.out).2.2 | (with_reducible refine Kd.C_alloc ?_ _) | (with_reducible refine Kd.C_drewN ?_ _) | (with_reducible refine Kd.C_drew ?_))); (case side2 => exact (Kd.R_reads' HO935.out).2.1); rintro e w44 ⟨rfl, hb⟩; refine ⟨_, rfl, ?_⟩; replace HO935 := Aside0.mk (Kd.R_below (by (with_reducible repeat (first | apply Kd.R_alloc | apply Kd.R_drewN | apply Kd.R_drew)); exact HO935.out) hb); replace BK930 := bkb_ BK930 hb; replace HB := bws_ HB hb; (try clear hb); (try clear hb2); (try clear hk); (try clear hi)) | ((with_reducible refine gate_dst (N := 7) rfl ?_); refine box_event ?hg (N := 7) ?hd (cs := #[.int .i64 0, .int .i64 0]) (t := 23) ?hr ?_; (case hd => rfl); (case hg => rfl); (case hr => first | (go_simp; done) | (go_simp; rfl)); intro gb940 hg w45 hbox hb; replace HO935 := Aside0.mk (Kd.R_below (by (with_reducible repeat (first | apply Kd.R_alloc | apply Kd.R_drewN | apply Kd.R_drew)); exact HO935.out) hb); have BK940 := Aside0.mk hbox; have GW940 := bwg_ HB hg; have GE940 := bwg_ HB hg; replace HB := bws_ HB hb; have NB930_940 := bkl_ BK930 hg; have NB940_930 := bkr_ BK930 hg; replace BK930 := bkb_ BK930 hb; clear hb hbox hg; have hnb46 := NB940_930.out; have hnc46 := NB930_940.out; obtain ⟨hcz47_0, hcz47_1, hfz47_0, hfz47_1⟩ := bc2_ BK940))
          go_ret
          exact ⟨by first | rfl | (simp [*] <;> rfl), bw_ HB⟩
      · rw [if_neg c12] at H
        have c12b0 : (t932 == 0) = false := beq_eq_false_iff_ne.mpr c12
        have c12b1 : (t932 != 0) = true := bne_iff_ne.mpr c12
        (first | rw [c12b0] | (simp only [i64_w, i32_w]; rw [c12b0]) | skip)
        have H' := Aside0.mk H
        clear H
        go_wp2
        go_meet
        case rel => exact ⟨_, H', ⟨by first | omega | exact Nat.le_refl _⟩, ⟨by exact bk_ BK930⟩, ⟨bw_ HB⟩⟩
    case rest =>
      clear HC8
      try clear c1
      try clear c2
      try clear p2
      try clear c3
      try clear c3b0
      try clear c3b1
      try clear c4
      try clear c6
      try clear c12
      try clear c12b0
      try clear c12b1
      try clear c14
      try clear c15
      try clear c15b0
      try clear c15b1
      try clear c16
      try clear c16b0
      try clear c16b1
      try clear c17
      try clear c17b0
      try clear c23
      try clear c31
      try clear c39
      try clear c41
      try clear c46
      try clear hcz10_0
      try clear hcz10_1
      try clear hcz18_0
      try clear hcz18_1
      try clear hcz24_0
      try clear hcz24_1
      try clear hcz25_0
      try clear hcz25_1
      try clear hcz26_0
      try clear hcz26_1
      try clear hcz32_0
      try clear hcz32_1
      try clear hcz33_0
      try clear hcz33_1
      try clear hcz34_0
      try clear hcz34_1
      try clear hcz40_0
      try clear hcz40_1
      try clear hcz41_0
      try clear hcz41_1
      try clear hcz47_0
      try clear hcz47_1
      try clear hfz10_0
      try clear hfz10_1
      try clear hfz18_0
      try clear hfz18_1
      try clear hfz24_0
      try clear hfz24_1
      try clear hfz25_0
      try clear hfz25_1
      try clear hfz26_0
      try clear hfz26_1
      try clear hfz32_0
      try clear hfz32_1
      try clear hfz33_0
      try clear hfz33_1
      try clear hfz34_0
      try clear hfz34_1
      try clear hfz40_0
      try clear hfz40_1
      try clear hfz41_0
      try clear hfz41_1
      try clear hfz47_0
      try clear hfz47_1
      obtain ⟨kq, HA, HJ7, BK930, HB⟩ := hcut
      cases kq with
      | zero => exact absurd HA.out (by simp [withylaw01_NumUnique.j0])
      | succ kj7 =>
        have H := HA.out
        clear HA
        simp only [withylaw01_NumUnique.j0] at H
        replace H := Option.bind_eq_some_iff.mp H
        obtain ⟨⟨t941, t942, t943⟩, A480, H⟩ := H
        replace H : (if t943 = 0 then ((num_Terms.f kj7 t941 t942).bind fun bt945 => (if bt945.2 = 0 then ((withyref01_Alike.f kj7 bt945.1 l1).bind fun t949 => (if t949 = true then ((withylaw01_summed.f kj7).bind fun t950 => (some t950)) else (some false))) else (some false))) else (if (t941 == 0 && (t942 == 0)) = true then ((withylaw01_summed.f kj7).bind fun t951 => (some t951)) else (some false))) = some r := H
        have A48 := Aside0.mk A480
        clear A480
        by_cases c49 : t943 = 0
        · rw [if_pos c49] at H
          have c49b0 : (t943 == 0) = true := beq_iff_eq.mpr c49
          have c49b1 : (t943 != 0) = false := bne_eq_false_iff_eq.mpr c49
          clear c49
          replace H := Option.bind_eq_some_iff.mp H
          obtain ⟨⟨t945, t948⟩, A500, H⟩ := H
          replace H : (if t948 = 0 then ((withyref01_Alike.f kj7 t945 l1).bind fun t949 => (if t949 = true then ((withylaw01_summed.f kj7).bind fun t950 => (some t950)) else (some false))) else (some false)) = some r := H
          have A50 := Aside0.mk A500
          clear A500
          by_cases c51 : t948 = 0
          · rw [if_pos c51] at H
            have c51b0 : (t948 == 0) = true := beq_iff_eq.mpr c51
            have c51b1 : (t948 != 0) = false := bne_eq_false_iff_eq.mpr c51
            clear c51
            replace H := Option.bind_eq_some_iff.mp H
            obtain ⟨t949, A520, H⟩ := H
            replace H : (if t949 = true then ((withylaw01_summed.f kj7).bind fun t950 => (some t950)) else (some false)) = some r := H
            have A52 := Aside0.mk A520
            clear A520
            by_cases c53 : t949 = true
            · subst c53
              have H1 : ((withylaw01_summed.f kj7).bind fun t950 => (some t950)) = some r := by rw [if_pos rfl] at H; exact H
              clear H
              have H := H1
              clear H1
              replace H := Option.bind_eq_some_iff.mp H
              obtain ⟨t950, A540, H⟩ := H
              replace H : (some t950) = some r := H
              have A54 := Aside0.mk A540
              clear A540
              obtain rfl := Option.some.inj H
              go_wp2_with (first | ((with_reducible refine gate_callee (f := 61) rfl ?_); refine gla_ (some 43) Try.func61 #[.slice A1 l1.length c1] ?_; (with_reducible refine (num_Of.calls kj7 _ _ l1 t941 t942 t943 _ ?side1 ?side2 A48.out).mono ?_); (case side1 => repeat (first | exact (Kd.C_below HR1.out HB.out) | (with_reducible refine Kd.C_alloc ?_ _) | (with_reducible refine Kd.C_drewN ?_ _) | (with_reducible refine Kd.C_drew ?_))); (case side2 => exact HC1.out); rintro e w55 ⟨rfl, hb⟩; refine ⟨_, rfl, ?_⟩; replace BK930 := bkb_ BK930 hb; replace HB := bws_ HB hb; (try clear hb); (try clear hb2); (try clear hk); (try clear hi)) | ((with_reducible refine gate_dst (N := 9) rfl ?_); refine box_event ?hg (N := 9) ?hd (cs := #[.int .i64 0, .int .i64 0]) (t := 23) ?hr ?_; (case hd => rfl); (case hg => rfl); (case hr => first | (go_simp; done) | (go_simp; rfl)); intro gb944 hg w56 hbox hb; have BK944 := Aside0.mk hbox; have GW944 := bwg_ HB hg; have GE944 := bwg_ HB hg; replace HB := bws_ HB hb; have NB930_944 := bkl_ BK930 hg; have NB944_930 := bkr_ BK930 hg; replace BK930 := bkb_ BK930 hb; clear hb hbox hg; have hnb57 := NB944_930.out; have hnc57 := NB930_944.out; obtain ⟨hcz58_0, hcz58_1, hfz58_0, hfz58_1⟩ := bc2_ BK944) | ((with_reducible refine gate_callee (f := 60) rfl ?_); refine gla_ (some 56) Try.func60 #[.agg #[.int .i64 t941, .int .i64 t942]] ?_; (with_reducible refine (num_Terms.calls kj7 t941 t942 t945 t948 _ A50.out).mono ?_); rintro e w59 ⟨v946, rfl, ho0, hb⟩; refine ⟨_, rfl, ?_⟩; have HO947 := Aside0.mk (Kd.R_lower ho0 (below_size (bw_ HB))); replace BK930 := Aside0.mk (blk_below (g := gb930) (o := .cells #[.int .i64 a0_0, .int .i64 a0_1] 23 (0, 0)) (by refine bf_ ?_ NB930_944; refine bf_ ?_ NB930_944; exact bk_ BK930) hb); replace BK944 := Aside0.mk (blk_below (g := gb944) (o := .cells #[.int .i64 t941, .int .i64 t942] 23 (0, 0)) (by refine bp_ (cs := #[.int .i64 t941, .int .i64 0]) ?_ 1; refine bp_ (cs := #[.int .i64 0, .int .i64 0]) ?_ 0; exact bk_ BK944) hb); replace HB := bws_ HB hb; (try clear hb); (try clear hb2); (try clear hk); (try clear hi); (try clear ho0); obtain ⟨Ao60, co60, eo60⟩ := Kd.R_slice HO947.out; subst eo60) | (go_at_call 62; (with_reducible refine (withyref01_Alike.calls kj7 _ _ t945 _ _ l1 true _ ?side1 ?side2 ?side3 ?side4 A52.out).mono ?_); (case side1 => repeat (first | exact (Kd.R_reads' HO947.out).2.2 | (with_reducible refine Kd.C_alloc ?_ _) | (with_reducible refine Kd.C_drewN ?_ _) | (with_reducible refine Kd.C_drew ?_))); (case side2 => exact (Kd.R_reads' HO947.out).2.1); (case side3 => repeat (first | exact (Kd.C_below HR1.out HB.out) | (with_reducible refine Kd.C_alloc ?_ _) | (with_reducible refine Kd.C_drewN ?_ _) | (with_reducible refine Kd.C_drew ?_))); (case side4 => exact HC1.out); rintro e w' ⟨rfl, ⟨nd, rfl⟩⟩) | (go_at_call 17; (with_reducible refine (withylaw01_summed.calls kj7  t950 _ A54.out).mono ?_); rintro e w61 ⟨rfl, hb⟩; replace HO947 := Aside0.mk (Kd.R_below (by (with_reducible repeat (first | apply Kd.R_alloc | apply Kd.R_drewN | apply Kd.R_drew)); exact HO947.out) hb); replace BK930 := bkb_ BK930 hb; replace BK944 := bkb_ BK944 hb; replace HB := bws_ HB hb; (try clear hb); (try clear hb2); (try clear hk); (try clear hi)))
              go_ret
              exact ⟨by first | rfl | (simp [*] <;> rfl), bw_ HB⟩
            · replace c53 := Bool.eq_false_iff.mpr c53
              subst c53
              have H1 : (some false) = some r := by rw [if_neg (show ¬ (false = true) by decide)] at H; exact H
              clear H
              have H := H1
              clear H1
              obtain rfl := Option.some.inj H
              go_wp2_with (first | ((with_reducible refine gate_callee (f := 61) rfl ?_); refine gla_ (some 43) Try.func61 #[.slice A1 l1.length c1] ?_; (with_reducible refine (num_Of.calls kj7 _ _ l1 t941 t942 t943 _ ?side1 ?side2 A48.out).mono ?_); (case side1 => repeat (first | exact (Kd.C_below HR1.out HB.out) | (with_reducible refine Kd.C_alloc ?_ _) | (with_reducible refine Kd.C_drewN ?_ _) | (with_reducible refine Kd.C_drew ?_))); (case side2 => exact HC1.out); rintro e w62 ⟨rfl, hb⟩; refine ⟨_, rfl, ?_⟩; replace BK930 := bkb_ BK930 hb; replace HB := bws_ HB hb; (try clear hb); (try clear hb2); (try clear hk); (try clear hi)) | ((with_reducible refine gate_dst (N := 9) rfl ?_); refine box_event ?hg (N := 9) ?hd (cs := #[.int .i64 0, .int .i64 0]) (t := 23) ?hr ?_; (case hd => rfl); (case hg => rfl); (case hr => first | (go_simp; done) | (go_simp; rfl)); intro gb944 hg w63 hbox hb; have BK944 := Aside0.mk hbox; have GW944 := bwg_ HB hg; have GE944 := bwg_ HB hg; replace HB := bws_ HB hb; have NB930_944 := bkl_ BK930 hg; have NB944_930 := bkr_ BK930 hg; replace BK930 := bkb_ BK930 hb; clear hb hbox hg; have hnb64 := NB944_930.out; have hnc64 := NB930_944.out; obtain ⟨hcz65_0, hcz65_1, hfz65_0, hfz65_1⟩ := bc2_ BK944) | ((with_reducible refine gate_callee (f := 60) rfl ?_); refine gla_ (some 56) Try.func60 #[.agg #[.int .i64 t941, .int .i64 t942]] ?_; (with_reducible refine (num_Terms.calls kj7 t941 t942 t945 t948 _ A50.out).mono ?_); rintro e w66 ⟨v946, rfl, ho0, hb⟩; refine ⟨_, rfl, ?_⟩; have HO947 := Aside0.mk (Kd.R_lower ho0 (below_size (bw_ HB))); replace BK930 := Aside0.mk (blk_below (g := gb930) (o := .cells #[.int .i64 a0_0, .int .i64 a0_1] 23 (0, 0)) (by refine bf_ ?_ NB930_944; refine bf_ ?_ NB930_944; exact bk_ BK930) hb); replace BK944 := Aside0.mk (blk_below (g := gb944) (o := .cells #[.int .i64 t941, .int .i64 t942] 23 (0, 0)) (by refine bp_ (cs := #[.int .i64 t941, .int .i64 0]) ?_ 1; refine bp_ (cs := #[.int .i64 0, .int .i64 0]) ?_ 0; exact bk_ BK944) hb); replace HB := bws_ HB hb; (try clear hb); (try clear hb2); (try clear hk); (try clear hi); (try clear ho0); obtain ⟨Ao67, co67, eo67⟩ := Kd.R_slice HO947.out; subst eo67) | (go_at_call 62; (with_reducible refine (withyref01_Alike.calls kj7 _ _ t945 _ _ l1 false _ ?side1 ?side2 ?side3 ?side4 A52.out).mono ?_); (case side1 => repeat (first | exact (Kd.R_reads' HO947.out).2.2 | (with_reducible refine Kd.C_alloc ?_ _) | (with_reducible refine Kd.C_drewN ?_ _) | (with_reducible refine Kd.C_drew ?_))); (case side2 => exact (Kd.R_reads' HO947.out).2.1); (case side3 => repeat (first | exact (Kd.C_below HR1.out HB.out) | (with_reducible refine Kd.C_alloc ?_ _) | (with_reducible refine Kd.C_drewN ?_ _) | (with_reducible refine Kd.C_drew ?_))); (case side4 => exact HC1.out); rintro e w' ⟨rfl, ⟨nd, rfl⟩⟩))
              go_ret
              exact ⟨by first | rfl | (simp [*] <;> rfl), bw_ HB⟩
          · rw [if_neg c51] at H
            have c51b0 : (t948 == 0) = false := beq_eq_false_iff_ne.mpr c51
            have c51b1 : (t948 != 0) = true := bne_iff_ne.mpr c51
            obtain rfl := Option.some.inj H
            go_wp2_with (first | ((with_reducible refine gate_callee (f := 61) rfl ?_); refine gla_ (some 43) Try.func61 #[.slice A1 l1.length c1] ?_; (with_reducible refine (num_Of.calls kj7 _ _ l1 t941 t942 t943 _ ?side1 ?side2 A48.out).mono ?_); (case side1 => repeat (first | exact (Kd.C_below HR1.out HB.out) | (with_reducible refine Kd.C_alloc ?_ _) | (with_reducible refine Kd.C_drewN ?_ _) | (with_reducible refine Kd.C_drew ?_))); (case side2 => exact HC1.out); rintro e w68 ⟨rfl, hb⟩; refine ⟨_, rfl, ?_⟩; replace BK930 := bkb_ BK930 hb; replace HB := bws_ HB hb; (try clear hb); (try clear hb2); (try clear hk); (try clear hi)) | ((with_reducible refine gate_dst (N := 9) rfl ?_); refine box_event ?hg (N := 9) ?hd (cs := #[.int .i64 0, .int .i64 0]) (t := 23) ?hr ?_; (case hd => rfl); (case hg => rfl); (case hr => first | (go_simp; done) | (go_simp; rfl)); intro gb944 hg w69 hbox hb; have BK944 := Aside0.mk hbox; have GW944 := bwg_ HB hg; have GE944 := bwg_ HB hg; replace HB := bws_ HB hb; have NB930_944 := bkl_ BK930 hg; have NB944_930 := bkr_ BK930 hg; replace BK930 := bkb_ BK930 hb; clear hb hbox hg; have hnb70 := NB944_930.out; have hnc70 := NB930_944.out; obtain ⟨hcz71_0, hcz71_1, hfz71_0, hfz71_1⟩ := bc2_ BK944) | ((with_reducible refine gate_callee (f := 60) rfl ?_); refine gla_ (some 56) Try.func60 #[.agg #[.int .i64 t941, .int .i64 t942]] ?_; (with_reducible refine (num_Terms.calls kj7 t941 t942 t945 t948 _ A50.out).mono ?_); rintro e w72 ⟨v946, rfl, ho0, hb⟩; refine ⟨_, rfl, ?_⟩; have HO947 := Aside0.mk (Kd.R_lower ho0 (below_size (bw_ HB))); replace BK930 := Aside0.mk (blk_below (g := gb930) (o := .cells #[.int .i64 a0_0, .int .i64 a0_1] 23 (0, 0)) (by refine bf_ ?_ NB930_944; refine bf_ ?_ NB930_944; exact bk_ BK930) hb); replace BK944 := Aside0.mk (blk_below (g := gb944) (o := .cells #[.int .i64 t941, .int .i64 t942] 23 (0, 0)) (by refine bp_ (cs := #[.int .i64 t941, .int .i64 0]) ?_ 1; refine bp_ (cs := #[.int .i64 0, .int .i64 0]) ?_ 0; exact bk_ BK944) hb); replace HB := bws_ HB hb; (try clear hb); (try clear hb2); (try clear hk); (try clear hi); (try clear ho0)))
            go_ret
            exact ⟨by first | rfl | (simp [*] <;> rfl), bw_ HB⟩
        · rw [if_neg c49] at H
          have c49b0 : (t943 == 0) = false := beq_eq_false_iff_ne.mpr c49
          have c49b1 : (t943 != 0) = true := bne_iff_ne.mpr c49
          by_cases c73 : (t941 == 0 && (t942 == 0)) = true
          · rw [if_pos c73] at H
            have c73b0 : (t941 == 0 && (t942 == 0)) = true := c73
            (try (have c73b1 : decide (t941 = 0 && (t942 == 0)) = true := by simpa using c73))
            (try (have c73b2 : (t941 == 0 && (t942 == 0)) = true := by simpa using c73))
            clear c73
            replace H := Option.bind_eq_some_iff.mp H
            obtain ⟨t951, A740, H⟩ := H
            replace H : (some t951) = some r := H
            have A74 := Aside0.mk A740
            clear A740
            obtain rfl := Option.some.inj H
            go_wp2_with (first | ((with_reducible refine gate_callee (f := 61) rfl ?_); refine gla_ (some 43) Try.func61 #[.slice A1 l1.length c1] ?_; (with_reducible refine (num_Of.calls kj7 _ _ l1 t941 t942 t943 _ ?side1 ?side2 A48.out).mono ?_); (case side1 => repeat (first | exact (Kd.C_below HR1.out HB.out) | (with_reducible refine Kd.C_alloc ?_ _) | (with_reducible refine Kd.C_drewN ?_ _) | (with_reducible refine Kd.C_drew ?_))); (case side2 => exact HC1.out); rintro e w75 ⟨rfl, hb⟩; refine ⟨_, rfl, ?_⟩; replace BK930 := bkb_ BK930 hb; replace HB := bws_ HB hb; (try clear hb); (try clear hb2); (try clear hk); (try clear hi)) | ((with_reducible refine gate_dst (N := 9) rfl ?_); refine box_event ?hg (N := 9) ?hd (cs := #[.int .i64 0, .int .i64 0]) (t := 23) ?hr ?_; (case hd => rfl); (case hg => rfl); (case hr => first | (go_simp; done) | (go_simp; rfl)); intro gb944 hg w76 hbox hb; have BK944 := Aside0.mk hbox; have GW944 := bwg_ HB hg; have GE944 := bwg_ HB hg; replace HB := bws_ HB hb; have NB930_944 := bkl_ BK930 hg; have NB944_930 := bkr_ BK930 hg; replace BK930 := bkb_ BK930 hb; clear hb hbox hg; have hnb77 := NB944_930.out; have hnc77 := NB930_944.out; obtain ⟨hcz78_0, hcz78_1, hfz78_0, hfz78_1⟩ := bc2_ BK944) | (go_at_call 17; (with_reducible refine (withylaw01_summed.calls kj7  t951 _ A74.out).mono ?_); rintro e w79 ⟨rfl, hb⟩; replace BK930 := Aside0.mk (blk_below (g := gb930) (o := .cells #[.int .i64 a0_0, .int .i64 a0_1] 23 (0, 0)) (by refine bf_ ?_ NB930_944; refine bf_ ?_ NB930_944; exact bk_ BK930) hb); replace BK944 := Aside0.mk (blk_below (g := gb944) (o := .cells #[.int .i64 t941, .int .i64 t942] 23 (0, 0)) (by refine bp_ (cs := #[.int .i64 t941, .int .i64 0]) ?_ 1; refine bp_ (cs := #[.int .i64 0, .int .i64 0]) ?_ 0; exact bk_ BK944) hb); replace HB := bws_ HB hb; (try clear hb); (try clear hb2); (try clear hk); (try clear hi)))
            go_ret
            exact ⟨by first | rfl | (simp [*] <;> rfl), bw_ HB⟩
          · rw [if_neg c73] at H
            have c73b0 : (t941 == 0 && (t942 == 0)) = false := by simpa using c73
            (try (have c73b1 : decide (t941 = 0 && (t942 == 0)) = false := by simpa using c73))
            (try (have c73b2 : (t941 == 0 && (t942 == 0)) = false := by simpa using c73))
            (try (have c73b3 : ¬ (t941 = 0 && (t942 == 0)) := by simpa using c73))
            clear c73
            obtain rfl := Option.some.inj H
            go_wp2_with (first | ((with_reducible refine gate_callee (f := 61) rfl ?_); refine gla_ (some 43) Try.func61 #[.slice A1 l1.length c1] ?_; (with_reducible refine (num_Of.calls kj7 _ _ l1 t941 t942 t943 _ ?side1 ?side2 A48.out).mono ?_); (case side1 => repeat (first | exact (Kd.C_below HR1.out HB.out) | (with_reducible refine Kd.C_alloc ?_ _) | (with_reducible refine Kd.C_drewN ?_ _) | (with_reducible refine Kd.C_drew ?_))); (case side2 => exact HC1.out); rintro e w80 ⟨rfl, hb⟩; refine ⟨_, rfl, ?_⟩; replace BK930 := bkb_ BK930 hb; replace HB := bws_ HB hb; (try clear hb); (try clear hb2); (try clear hk); (try clear hi)) | ((with_reducible refine gate_dst (N := 9) rfl ?_); refine box_event ?hg (N := 9) ?hd (cs := #[.int .i64 0, .int .i64 0]) (t := 23) ?hr ?_; (case hd => rfl); (case hg => rfl); (case hr => first | (go_simp; done) | (go_simp; rfl)); intro gb944 hg w81 hbox hb; have BK944 := Aside0.mk hbox; have GW944 := bwg_ HB hg; have GE944 := bwg_ HB hg; replace HB := bws_ HB hb; have NB930_944 := bkl_ BK930 hg; have NB944_930 := bkr_ BK930 hg; replace BK930 := bkb_ BK930 hb; clear hb hbox hg; have hnb82 := NB944_930.out; have hnc82 := NB930_944.out; obtain ⟨hcz83_0, hcz83_1, hfz83_0, hfz83_1⟩ := bc2_ BK944))
            go_ret
            exact ⟨by first | rfl | (simp [*] <;> rfl), bw_ HB⟩
end Go.Proofs.Ytakcdoahpbeckaa.H
